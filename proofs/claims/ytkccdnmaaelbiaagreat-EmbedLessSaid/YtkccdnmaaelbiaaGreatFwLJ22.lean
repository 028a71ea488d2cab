/- A text. -/
import Derived.Test.YtkccdnmaaelbiaaGreatFwLJ19
set_option linter.all false
set_option maxRecDepth 99999
set_option maxHeartbeats 9999999
namespace Go.Fw
section
attribute [local instance] Classical.propDecidable
attribute [local irreducible] Kp MQ lU rS KO KN KX KE VK Kl ZJ TC gU
open Go.Proofs
variable {O i k m n:Nat} {bv:Value} {es:List Pr} {g h:AHeap} {l:II}
def box77 (h:AHeap) {n:Int} (hb:xO bv k):aBuild Tryz.prog 77 [(0,.int .i64 n),(1,bv),(2,.slice (some ⟨O,0,none⟩) m m)]=some (.agg #[.int .i64 n,bv,.slice (some ⟨O,0,none⟩) m m,rW,rW,rW])/\
  zF h (.agg #[.int .i64 n,bv,.slice (some ⟨O,0,none⟩) m m,rW,rW,rW])=some (.pointer (some ⟨h.next,0,none⟩),h.alloc (.cells [.int .i64 n,bv,.slice (some ⟨O,0,none⟩) m m,rW,rW,rW])):=by
 obtain⟨_,_,rfl,_⟩:=hb;exact⟨by kernel_rfl,by kernel_rfl⟩
theorem RO (hi:i<l.length):(ZH l).take (i+1)=(ZH l).take i++[GW l[i] (l.getD ((i+1)%l.length) 0)]:=by grind [ZH,List.take_succ_eq_append_getElem]
theorem F9 (l:II):(ZH l).length=l.length:=by simp[ZH]
theorem ring_bd (R:Ho n es l) (hR:aV n es) (d:n<=200):∀p∈ZH l,∃a b:Nat,p=((a:Int),(b:Int))/\a<1000/\b<1000:=fun p c=>by
 obtain⟨a,b,rfl,e,h2⟩:=jB hR (R.ik hR c)
 grind
theorem eP (R:Ho n es l) (hR:aV n es):l.length<=n:=by
 have:=tf R.nd (B:=List.range n) fun v a=>Eh.2 (R.lt hR a)
 grind
theorem rt_b (h:l.length<=n) (h2:(n:Int)<=200):((ZH l).take i).length+1<=100000:=by grind [F9]
theorem tk_b {fs:List FM} (h:fs.length<=m) (a:m<=594) (F:FM->wW):((fs.take i).map F).length<=100000:=pw
def pN {a b c:Value} (ha:xO a n) (hb:xO b m) (d:xO c k):aBuild Tryz.prog 125 [(0,a),(1,b),(2,c)]=some (.agg #[a,b,c]):=by
 obtain⟨_,_,rfl,_⟩:=ha;obtain⟨_,_,rfl,_⟩:=hb;obtain⟨_,_,rfl,_⟩:=d;kernel_rfl
def le_rem (X:II) (l:Le g h) (a:∀b∈X,g.own b=none):Le g (rem X h):=l.iV a
theorem Si (J:LA) (ev:Value) (n:Nat) (es:List Pr) (h:AHeap) (hp:PR h ev es) (hc:Ov 2 ev) (hr:bX ⟨(n:Int),es⟩) (T2:zW n es):
  AC Tryz.prog J 52 [.agg #[.int .i64 n,ev]] h fun x h'=>∃g' B O bv fv iv K us ws cs,x=.pointer (some ⟨B,0,none⟩)/\Le h g'/\
   lx g' h' B O n (Zh n es) bv fv iv K us ws cs (RB n es).on (RB n es).Jv (RB n es).Jv (RB n es).left/\Ho n es (zl n es):=by
 have hR:=hr.GD;have hA:=hr.q9;have bF:(n:Int)<=200:=hr.n1;have dj:es.length<=594:=hr.len;obtain⟨p0,rest,ag⟩:=fR (T2.aa1 hR);obtain⟨a,b,rfl,hP,hb⟩:=jB hR (show p0∈es by grind);have e1:es.drop 1=rest:=by rw[ag];rfl
 have e4:bX ⟨(n:Int),rest⟩:=by grind [bX.tail]
 have aj:Pu rest b a:=T2.less hR NH hb NH fun x y e5 hQ=>by
  rcases e5 with h|h
  .rw [ag] at h
   rcases Z6.1 h with e|h
   .grind
   .exact .inl h
  .rw [ag] at h
   rcases Z6.1 h with e|h
   .grind
   .exact .inr h
 have hS:rest.length<=594:=pw;refine AC.vE ⟨Tryz.func52,rfl,WY⟩ Tryz.ntmps52 Tryz.results52 fun e6=>?_;simp only[Br,Nat.reduceAdd];obtain⟨h1,b1,dk,e7,-,A⟩:=r8 (n:=(n:Int)) e6 hp
 generalize h.next=B1 at*
 have dm:=A h1 (Le.refl _);have a1:=hp.le dk;have dq:=a1.addr (k:=.i64) 0 pw;have e8:=a1.load (i:=0) (p:=((a:Int),(b:Int))) (by rw[ag];rfl);obtain⟨h2,h3,e2,e3,l3,w3,o3⟩:=Ut e7 ((a:Int),(b:Int))
 generalize h1.next=E at*
 have fT:=A h3 l3;simp only[fE]at dq;refine Sk (xL b1 @Di @Ip.eq_1 @BS dm.2.2 dq e8 e2 e3) ?_;have e9:=a1.le l3;obtain⟨rv,M,G,-⟩:=e9.cut hc (i:=1) pw;rw[e1]at G;simp only[Ng]at M;apply Ya (F:=fun(fr:lC) (h5:AHeap)=>∃(X:Nat) (cv:Value),Fj fr [(1,.pointer (some ⟨B1,0,none⟩)),(3,.pointer (some ⟨E,0,none⟩)),(4,.pointer (some ⟨X,0,none⟩))]/\Le h3 h5/\WF h5/\PR h5 cv rest/\∀g,Le h5 g->aload Tryz.prog g 24 ⟨X,0,none⟩=some (.agg #[.int .i64 n,cv]))
 .intro cont
  refine gh (tA [0,1,2,3,4] (.ch 5 [4] (tA [6] (JQ 7 [] (JQ 8 [0,1,2,3,4,5,6,7] .done))) (JQ 7 [] (JQ 5 [4] (tA [6] (JQ 8 [0,1,2,3,4,5,6,7] .done)))))) ?_
  have fb:∃g,h3.alloc (.cells [.int .i64 0,.slice none 0 0])=g/\Le h3 g/\WF g/\g.own h3.next=some (.cells [.int .i64 0,.slice none 0 0]):=Tt w3 _
  obtain⟨q1,y1,m1,v1,u1⟩:=fb
  have a6:aAlloc Tryz.prog h3 24=some (.pointer (some ⟨h3.next,0,none⟩),q1):=by rw[Lo,y1]
  have Q1:=A q1 (l3.trans m1);simp only[qj,Nat.reduceLT,↓reduceIte,Nat.reduceEqDiff,reduceCtorEq,Nat.reduceBEq,Qg,Ii,Di,Ip,BS,fT.2.1,fT.2.2,M,a6,Q1.2.1,Q1.2.2];refine⟨?_,?_⟩
  .refine VA.intro PJ ⟨Tryz.func72, rfl, WY⟩ (DA J rv rest h3 G NH) ?_
   rintro cv h4 w4 ⟨gc,l4,-⟩;have A4:=A h4 (l3.trans l4);have aq:=Wj (n:=(n:Int)) gc.pr.sl;obtain⟨h5,C,a5,s5,l6,w6,lG⟩:=newG (n:=(n:Int)) w4 gc.pr;have A5:Le h4 h5:=by grind [Lo,Le.refl,Le.alloc]
   have A5:=A h5 ((l3.trans l4).trans A5);have A6:=A C ((l3.trans l4).trans l6);simp only[qj,Nat.reduceLT,↓reduceIte,Nat.reduceEqDiff,reduceCtorEq,Nat.reduceBEq,Qg,Ii,Di,Ip,BS,A4.2.1,A4.2.2,M,aq,a5,s5,A5.2.1,A5.2.2,A6.2.1,A6.2.2];refine KN.UJ fun fr' h' x y=>cont fr' h' ?_;subst x y;exact⟨_,cv,fD,l4.trans l6,w6,gc.pr.le l6,fun g l=>(lG g l).1⟩
  .refine VA.intro PJ ⟨Tryz.func72, rfl, WY⟩ (DA J rv rest q1 (G.le m1) NH) ?_
   rintro cv h4 w4 ⟨gc,l4,ac⟩;have A4:=A h4 ((l3.trans m1).trans l4);have aq:=Wj (n:=(n:Int)) gc.pr.sl
   have nX:blk cv≠some h3.next:=fun e=>by have:=ac _ e;rw[u1]at this;cases this
   have oX:=l4.own _ _ u1
   have n1:h3.own h3.next=none:=(Le.refl h3).next w3 (vT _)
   have one:=gc.pr.sl.one;have bH:UA Tryz.prog 24=2:=Ji;have fc:(Value.agg #[.int .i64 (n:Int),cv]).cells=#[.int .i64 (n:Int),cv]:=rfl;have fe:(Value.int IntKind.i64 (n:Int)).oneCell'=true:=rfl
   have st:aStore Tryz.prog h4 24 (.pointer (some ⟨h3.next,0,none⟩)) (.agg #[.int .i64 (n:Int),cv])=some (h4.put h3.next (.cells [.int .i64 (n:Int),cv])):=by simp[aStore,oX,fc,bH,putCells,pE,one,fe]
   have ho:(h4.put h3.next (.cells [.int .i64 (n:Int),cv])).own h3.next=some (.cells [.int .i64 (n:Int),cv]):=AHeap.Y3 _ _ _
   have l5:Le h3 (h4.put h3.next (.cells [.int .i64 (n:Int),cv])):=(m1.trans l4).put _ n1
   have A5:=A _ (l3.trans l5);simp only[qj,Nat.reduceLT,↓reduceIte,Nat.reduceEqDiff,reduceCtorEq,Nat.reduceBEq,Qg,Ii,Di,Ip,BS,A4.2.1,A4.2.2,M,aq,st,A5.2.1,A5.2.2];refine KN.UJ fun fr' h' x y=>cont fr' h' ?_;subst x y
   exact⟨h3.next,cv,fD,l5,w4.put _ (w4.lt oX),GP.pr (GS.put gc _ nX),fun g l=>by rw[Wx pE rfl bH (l.own _ _ ho) Ma];rfl⟩
 rintro fr h5 ⟨X,cv,D,dw,w5,dx,lX⟩;simp only[Fj]at D;obtain⟨f1,f3,f4,-⟩:=D;have dz:=dw.own _ _ o3;refine Sk (Pj f1 f3 f4 (lX h5 (Le.refl _)) @Dh @Z0 @Ip.eq_1 @BS (lK dz) (HY dz)) ?_;refine TC.intro PJ ⟨Tryz.func90,rfl,WY⟩ (NL J _ ⟨(n:Int),rest⟩ (a:Int) (b:Int) h5 ⟨cv,rfl,dx⟩) ?_;rintro x C w6 ⟨l6,K,er,rfl,hM,H⟩;simp only[yY]at H;obtain⟨k1,k2⟩:=H e4 NH NH NH NH;obtain⟨gl,al,dA⟩:=k2 (k1.2 aj);obtain⟨fg,Rg⟩:=JM hr ag dA aj;rw[fg]at gl;have z:=(l3.trans dw).trans l6;have A6:=A C z;have cm:=a1.le z;have cp:GR C (.agg #[.int .i64 (n:Int),ev]) ⟨(n:Int),es⟩:=⟨ev,rfl,cm⟩;generalize cq:zl n es=l at*;have I:=eP Rg hR;have fh:er=0:=k1.2 aj;subst fh;refine Sk f1 ?_;clear H k1 k2 lX dx;apply Ya (F:=fun(fr:lC) (h9:AHeap)=>∃(B O:Nat) (bv:Value) (N:AHeap),Fj fr [(1,.pointer (some ⟨B1,0,none⟩)),(5,K),(7,.pointer (some ⟨B,0,none⟩))]/\WF h9/\h9.own B=some (.cells [.int .i64 (n:Int),bv,.slice (some ⟨O,0,none⟩) n n,rW,rW,rW])/\h9.own O=some (.cells (Bo (List.replicate n false)))/\B≠O/\Le C N/\N.own B=none/\N.own O=none/\Le N h9/\RL (RL RP) N bv (Zh n es))
 .intro cont
  have bo:Bo (List.replicate n false)=List.replicate n (.bool false):=by simp[Bo]
  obtain⟨q1,y1,m1,v1,u1⟩:=Tt w6 (List.replicate n (.bool false));have a6:=PO C n NH;rw[y1]at a6;have Q1:=A q1 (z.trans m1);refine gh (tA [0,1,2,4,5] (.ch 3 [2] (JQ 6 [5] (tA [7] (JQ 8 [7] (tA [9] .done)))) (JQ 6 [5] (JQ 3 [2] (tA [7] (JQ 8 [7] (tA [9] .done))))))) ?_;simp only[qj,Nat.reduceLT,↓reduceIte,Nat.reduceEqDiff,reduceCtorEq,Nat.reduceBEq,Qg,f1,Ii,Ip,BS,A6.1,A6.2.1,a6,Q1.1,Q1.2.1];refine⟨?_,?_⟩
  .refine VA.intro PJ ⟨zj, rfl, WY⟩ (oe J _ n es C cp hr) ?_
   rintro bv Y w7 ⟨r,l7⟩;have A7:=A Y (z.trans l7);obtain⟨h8,y8,l8,w8,o8⟩:=Tt w7 (List.replicate n (.bool false));have dB:=PO Y n NH;rw[y8]at dB;have A8:=A h8 ((z.trans l7).trans l8)
   obtain⟨cr,ar⟩:=box77 h8 (n:=(n:Int)) (O:=Y.next) (m:=n) r.sl
   obtain⟨h9,y9,l9,w9,o9⟩:=Tt w8 [.int .i64 (n:Int),bv,.slice (some ⟨Y.next,0,none⟩) n n,rW,rW,rW]
   rw[y9]at ar;have A9:=A h9 (((z.trans l7).trans l8).trans l9);simp only[qj,Nat.reduceLT,↓reduceIte,Nat.reduceEqDiff,reduceCtorEq,Nat.reduceBEq,Qg,f1,Ii,Ip,BS,A7.1,A7.2.1,A8.1,A8.2.1,A9.1,A9.2.1,dB,cr,ar];refine KN.UJ fun fr' h' x y=>cont fr' h' ?_;rw[x,y]
   exact⟨h8.next,Y.next,bv,Y,(by simp only[Fj,HO,Nat.reduceLT,↓reduceIte,Nat.reduceEqDiff,reduceCtorEq,f1];simp),w9,o9,by rw[bo];exact l9.own _ _ o8,fun e=>by have:=w8.lt o8;omega,l7,l8.next w8 (vT _),(Le.refl Y).next w7 (vT _),l8.trans l9,r⟩
  .have hk : Le C (q1.kill C.next) := m1.Oo ((Le.refl C).next w6 (vT _))
   refine VA.intro PJ ⟨zj,rfl,WY⟩ (AC.frame u1 (oe J _ n es (q1.kill C.next) (cp.le hk) hr)) ?_
   rintro bv Y w7 ⟨g7,⟨r,l7⟩,dE,rfl⟩;have cx:=hk.trans l7;have a7:=Le.Y5 dE (.cells (List.replicate n (.bool false)))
   have o7:(g7.put C.next (.cells (List.replicate n (.bool false)))).own C.next=some (.cells (List.replicate n (.bool false))):=AHeap.Y3 _ _ _
   generalize g7.put C.next (.cells (List.replicate n (.bool false)))=Y at*
   have A7:=A Y ((z.trans cx).trans a7)
   obtain⟨cr,ar⟩:=box77 Y (n:=(n:Int)) (O:=C.next) (m:=n) r.sl
   obtain⟨h9,y9,l9,w9,o9⟩:=Tt w7 [.int .i64 (n:Int),bv,.slice (some ⟨C.next,0,none⟩) n n,rW,rW,rW]
   rw[y9]at ar;have A9:=A h9 (((z.trans cx).trans a7).trans l9);simp only[qj,Nat.reduceLT,↓reduceIte,Nat.reduceEqDiff,reduceCtorEq,Nat.reduceBEq,Qg,f1,Ii,Ip,BS,A7.1,A7.2.1,A9.1,A9.2.1,cr,ar];refine KN.UJ fun fr' h' x y=>cont fr' h' ?_;rw[x,y]
   exact⟨Y.next,C.next,bv,g7,(by simp only[Fj,HO,Nat.reduceLT,↓reduceIte,Nat.reduceEqDiff,reduceCtorEq,f1];simp),w9,o9,by rw[bo];exact l9.own _ _ o7,fun e=>by have:=w7.lt o7;omega,cx,a7.next w7 (vT _),dE,a7.trans l9,r⟩
 rintro fr h9 ⟨B,O,bv,N,D,w9,oB,oO,fm,av,gB,gO,dF,r⟩;simp only[Fj]at D;obtain⟨f1,f5,f7,-⟩:=D;have a8:=gl.le av;have hU:=al;have lr:∀g,aLen Tryz.prog g 49 K=some (.int .i64 (l.length:Nat)):=fun g=>by
  have:=gl.rl.Uc g
  grind [y6]
 have fp:=sB B 2 NH;simp only[HO,Nat.reduceLT,↓reduceIte,Nat.reduceEqDiff,reduceCtorEq,f5,lr];refine gU.intro (fun k fr s=>∃(i:Nat) (Z:Value),k=l.length-i/\i<=l.length/\fr=mkF [(1,.pointer (some ⟨B1,0,none⟩)),(5,K),(7,.pointer (some ⟨B,0,none⟩)),(8,Z),(45,K),(46,.int .i64 (l.length:Nat)),(47,.int .i64 (i:Nat))]/\
   s.own B=some (.cells [.int .i64 (n:Int),bv,.slice (some ⟨O,0,none⟩) n n,rW,rW,rW])/\s.own O=some (.cells (Bo (tV (List.replicate n false) (l.take i))))/\Le N s/\GP s Z ((ZH l).take i)/\Z2 N Z/\blk Z≠some B/\blk Z≠some O)
  l.length [(1,.pointer (some ⟨B1,0,none⟩)),(5,K),(7,.pointer (some ⟨B,0,none⟩)),(8,rW),(45,K),(46,.int .i64 (l.length:Nat)),(47,.int .i64 (0:Nat))] (by simp only[Fj,HO,Nat.reduceLT,↓reduceIte,Nat.reduceEqDiff,reduceCtorEq,f1,f5,f7];simp)
  ⟨0,_,rfl,yM _,rfl,oB,oO,dF,GP.nil _,fun b hb=>by grind [blk],by simp[blk],by simp[blk]⟩ ?_
 clear f1 f5 f7 oB oO dF w9;clear h9;rintro k fr s ay ⟨i,Z,rfl,hi,rfl,oB,oO,aD,gw,cz,cC,bb⟩;refine Uy ?_;refine Kl.intro (fun ht=>?_) (fun hf=>?_)
 .have d : i < l.length := CC ht
  clear ht;have fq:=a8.le aD;have ad:∀q,q<l.length->aIndexAddr Tryz.prog 49 K (.int .i64 (q:Int))=some (.pointer (some (elemAddr K q))):=fun q T=>fq.rl.TA q (by rw[y6];exact T);have ld:∀g,Le N g->∀q (T:q<l.length),aload Tryz.prog g 3 (elemAddr K q)=some (.int .i64 ((l.getD q 0:Nat):Int)):=fun g lg q T=>by rw[(a8.le lg).rl.DH q (by rw[y6];exact T),sY T,D4 T]
  have dI:(i+1)%l.length<l.length:=zx _ NH;have hv:l.getD i 0<n:=by rw[D4 d];exact Rg.lt hR (eR d)
  have cE:l.take (i+1)=l.take i++[l[i]]:=EL d;have dL:=RO d;have ft:l.getD i 0=l[i]:=D4 d;rw[<-ft]at dL cE;have fx:aIndexAddr Tryz.prog 59 (.slice (some ⟨O,0,none⟩) n n) (.int .i64 ((l.getD i 0:Nat):Int))=some (.pointer (some ⟨O,l.getD i 0,none⟩)):=by rw[Wc Uh AV Ji _ hv];simp[Ip]
  have ZA:(tV (List.replicate n false) (l.take i)).length=n:=by
   have:∀(w:II) (o:List Bool),(tV o w).length=o.length:=fun w=>by
    induction w with
    |nil=>intro o;rfl
    |cons x w ih=>intro o;show(tV (o.set x true) w).length=_;grind
   grind
  have fF:(tV (List.replicate n false) (l.take i)).set (l.getD i 0) true=tV (List.replicate n false) (l.take (i+1)):=by rw[cE];unfold tV;grind
  have st:aStore Tryz.prog s 4 (.pointer (some ⟨O,l.getD i 0,none⟩)) (.bool true)=some (s.put O (.cells (Bo (tV (List.replicate n false) (l.take (i+1)))))):=by rw[QB (P:=Tryz.prog) (t:=4) (x:=.bool true) AV Ji oO (off:=l.getD i 0) (by rw[O2,ZA];exact hv) rfl rfl,Tr,fF]
  have fL:aload Tryz.prog s 59 ⟨B,2,none⟩=some (.slice (some ⟨O,0,none⟩) n n):=by rw[Fq Uh rfl oB];rfl
  have w8:WF (s.put O (.cells (Bo (tV (List.replicate n false) (l.take (i+1)))))):=ay.put _ (ay.lt oO);have fN:(s.put O (.cells (Bo (tV (List.replicate n false) (l.take (i+1)))))).own O=some (.cells (Bo (tV (List.replicate n false) (l.take (i+1))))):=AHeap.Y3 _ _ _;have fP:(s.put O (.cells (Bo (tV (List.replicate n false) (l.take (i+1)))))).own B=some (.cells [.int .i64 (n:Int),bv,.slice (some ⟨O,0,none⟩) n n,rW,rW,rW]):=by grind [AHeap.By]
  have dM:Le N (s.put O (.cells (Bo (tV (List.replicate n false) (l.take (i+1)))))):=aD.put _ gO;have fU:GP (s.put O (.cells (Bo (tV (List.replicate n false) (l.take (i+1)))))) Z ((ZH l).take i):=GS.put gw _ bb;generalize s.put O (.cells (Bo (tV (List.replicate n false) (l.take (i+1)))))=h8 at*;have aw:=Tw i (Lb d (Db I NH));have nz:=Ww d;have fV:=Wt d;have fY:=Y7 (a:=i+1) (FI d) (Db I NH);simp only[HO,Nat.reduceLT,↓reduceIte,Nat.reduceEqDiff,reduceCtorEq,ad i d,ld s aD i d,fp,fL,fx,st,lr,aw,nz,fV,fY,ad _ dI,ld h8 dM _ dI];refine TC.intro PJ ⟨Tryz.func91,rfl,WY⟩ (Ls J (l.getD i 0) (l.getD ((i+1)%l.length) 0) h8) ?_;rintro x h9 w9 ⟨rfl,bh⟩;obtain⟨dS,hV,hW,ga,gf,dT,hY,hZ,dV,bI⟩:=(fU.le bh).push w9 (GW (l.getD i 0) (l.getD ((i+1)%l.length) 0)) (rt_b I bF);obtain⟨ec,gg⟩:=dV N (dM.trans bh) cz;obtain⟨ed,ee⟩:=bI B _ (bh.own _ _ fP) cC;obtain⟨ef,eg⟩:=bI O _ (bh.own _ _ fN) bb;rw[<-dL]at dT;simp only[HO,Nat.reduceLT,↓reduceIte,Nat.reduceEqDiff,reduceCtorEq,ga,gf,aw];exact tn (l.length-(i+1)) [(1,.pointer (some ⟨B1,0,none⟩)),(5,K),(7,.pointer (some ⟨B,0,none⟩)),(8,dS),(45,K),(46,.int .i64 (l.length:Nat)),(47,.int .i64 (i+1:Nat))] (JS d) fD
   ⟨i+1,dS,rfl,d,rfl,ed,ef,ec,dT,gg,ee,eg⟩
 have br:l.length<=i:=vp hf;rw[Og br]at oO;rw[Og (by grind [F9])]at gw;clear br hf hi;refine Uy ?_;have cM:l.length<=100000:=Db I NH;refine TC.intro PJ ⟨Tryz.func69,rfl,WY⟩ (CH J gw (by rw[F9];exact cM) (ring_bd Rg hR NH)) ?_;rintro x bx gi ⟨rfl,gs,fs⟩;have kw:∀b o,s.own b=some o->blk Z≠some b->bx.own b=some o:=fun b o ho hb=>
  (fs (rem (bl Z) s) (Sa _ _) fun c hc=>by grind [DC,Zr]).own _ _ (Th.2 ⟨ho,fun m=>hb (Zr.1 m)⟩)
 have bW:=kw B _ oB cC;have b0:=kw O _ oO bb;have aH:=fs N aD cz;refine Uy ?_;refine TC.intro PJ ⟨XX,rfl,WY⟩ (QY J K (kz l) bx (a8.le aH).rl (by rw[y6];exact cM)) ?_;rintro cN eh gj ⟨ei,ej,cR⟩;refine Uy ?_;refine TC.intro PJ ⟨aaX,rfl,WY⟩ (Wk J cN (kz l) eh ei (by rw[y6];exact cM)) ?_;rintro x U h0 ⟨cU,ek,gk⟩;have aJ:=ek bx ej cR;have gn:(kz l).reverse=kz l.reverse:=by simp[kz]
 rw[gn]at cU;have b2:=aJ.own _ _ bW;have b3:=aJ.own _ _ b0;have b4:=aH.trans aJ;have hX:∀b∈[B,O],N.own b=none:=fun b hb=>by grind
 have V:Le N (rem [B,O] U):=le_rem _ b4 hX;have en:∀b,blk cN=some b->b∉[B,O]:=fun b hb m=>by
  have:=cR b hb
  grind
 have eo:∀b,blk Z=some b->b∉[B,O]:=fun b hb m=>by grind
 have b6:GI (rem [B,O] U) cN (kz l.reverse):=GS.Fi cU en;have b8:GP (rem [B,O] U) Z (sortP (ZH l)):=GS.Fi (GP.le gs aJ) eo;have b9:=a8.le V;have ZA:(tV (List.replicate n false) l).length=n:=by
  have:∀(w:II) (o:List Bool),(tV o w).length=o.length:=fun w=>by
   induction w with
   |nil=>intro o;rfl
   |cons x w ih=>grind [tV,List.length_set]
  grind
 have S0:lx (rem [B,O] U) U B O n (Zh n es) bv rW rW rW [] [] [] (tV (List.replicate n false) l) [] [] []:={
  f:=⟨b2⟩
  oO:=b3
  ZA:=ZA
  gF:=GS.nil _ _
  uL:=rfl
  u1:=rfl
  gI:=GS.nil _ _
  wL:=rfl
  w1:=rfl
  gL:=GS.nil _ _
  cuL:=.inl rfl
  c1:=rfl
  sep:=⟨fun i j u w b ic hu hw hb=>by
    have:u=rW:=by
     have:=Gc hu;grind
    grind [blk],fun i u b hu hb=>by
    grind [blk],fun i u hu b hb=>by grind [blk],Sa _ _⟩
  gB:=by grind [DC]
  gO:=by grind [DC]
  bO:=fm
  nb:=fun u hu=>by grind [blk]
  cF:=fun i u f hu=>by simp at hu
  cI:=fun i u f hu=>by simp at hu
  cL:=fun i p hp=>by simp at hp
  cB:=r.le (Nn.RL Nn.RP) V}
 generalize rem [B,O] U=ep at*;have et:Le h ep:=((dk.trans z).trans av).trans V;have gA:=A ep ((z.trans av).trans V);clear oB oO aD gw cz cC bb gs fs kw ei ej cR cU ek gk b2 b3 bW b0 aJ b4 aH en eo hX gi gj ay;clear bx eh s;refine Uy ?_;have eu:∀x∈l,x<n:=fun x hx=>Rg.lt hR hx;refine TC.intro PJ ⟨Tryz.func95,rfl,WY⟩ (IU J S0 b9.rl eu NH (Db I NH) Ma) ?_;rintro x ij il ⟨ix,iD,iF,iK,iL,S1,ew⟩;refine Uy ?_;refine TC.intro PJ ⟨Tryz.func95,rfl,WY⟩ (IU J S1 ((b6.le ew).rl) (f:=l.reverse) (fun x hx=>eu x (ff.1 hx)) NH (by rw[NC];exact Db I NH) Ma) ?_;rintro x gq iM ⟨iT,aK,aP,gu,gv,S2,gx⟩;have R:=ew.trans gx;simp only[Gq,Zt]at S2;have ey:=A gq ((((z.trans av).trans V).trans R).trans S2.le);have cc:=b8.le R;have cd:=(cm.le (av.trans V)).le R;obtain⟨gz,c0⟩:=S2.pV;refine Sk ey.1 ?_;refine TC.intro PJ ⟨Tryz.func96,rfl,WY⟩ (S2.side (iN J _ Z ⟨(n:Int),es⟩ (sortP (ZH l)) _ ⟨ev,rfl,cd.le c0⟩ (cc.le c0).pr (by rw[ZS,F9];exact Db I NH))) ?_;rintro x gC gE ⟨c3,⟨c4,e2,rfl,D⟩,S3,c5,eA,gJ⟩;have eB:=Rg.web hR;simp only[yY]at D;rcases D with⟨q,-⟩|⟨-,q,-⟩|⟨-,-,rfl,L,hT,bB⟩
 .exact absurd hr q
 .exact absurd eB q
 rw[Rt hR hA.nodup hT (uY (n:=n) (on:=Qw n (sortP (ZH l))) (es:=es))]at bB;have I0:=Rg.start hR hA (L:=MF n (Qw n (sortP (ZH l))) es) uY;have eC:RB n es=Mw n es l (MF n (Qw n (sortP (ZH l))) es):=by unfold RB;rw[cq]
 rw[eC];have eE:=I0.Vw;have cf:(Mw n es l (MF n (Qw n (sortP (ZH l))) es)).on=tV (List.replicate n false) l:=rfl;have cg:(Mw n es l (MF n (Qw n (sortP (ZH l))) es)).Jv=[l,l.reverse]:=rfl;have aT:(Mw n es l (MF n (Qw n (sortP (ZH l))) es)).left=(LJ n es (sortP (ZH l)) (MF n (Qw n (sortP (ZH l))) es)).map fun f=>⟨f.zp,f.Fm,zh [l,l.reverse] f.Fm [0,1]⟩:=rfl;have c9:∀f∈LJ n es (sortP (ZH l)) (MF n (Qw n (sortP (ZH l))) es),(∀x∈f.Fm,∃v:Nat,x=(v:Int)/\v<n)/\f.Fm.length<=n:=fun f hf=>by
  have hm:(⟨f.zp,f.Fm,zh [l,l.reverse] f.Fm [0,1]⟩:wW)∈(Mw n es l (MF n (Qw n (sortP (ZH l))) es)).left:=pw;exact⟨I0.fS hR hm,I0.UO hR hm⟩
 rw[aT,rY]at eE;rw[cf,cg,aT];generalize LJ n es (sortP (ZH l)) (MF n (Qw n (sortP (ZH l))) es)=fs at*;have gM:=bB.len;have eF:=sB B 5 NH;have hN:Le h c3:=(et.trans R).trans (c0.trans eA);clear cf cg aT eC I0 hT S2 gz S1 S0 A A6 ey fT dm cc cd gA b8 b6 cm cp b9;refine Sk gM ?_;refine gU.intro (fun k fr s=>∃(i:Nat) (g:AHeap) (cs:List Value) (W:Value),k=fs.length-i/\i<=fs.length/\fr=mkF [(7,.pointer (some ⟨B,0,none⟩)),(90,c4),(91,.int .i64 (fs.length:Nat)),(92,.int .i64 (i:Nat))]/\
   lx g s B O n (Zh n es) bv aK aP W gu gv cs (tV (List.replicate n false) l) [l,l.reverse] [l,l.reverse] ((fs.take i).map fun f=>⟨f.zp,f.Fm,zh [l,l.reverse] f.Fm [0,1]⟩)/\Le c3 g)
  fs.length [(7,.pointer (some ⟨B,0,none⟩)),(90,c4),(91,.int .i64 (fs.length:Nat)),(92,.int .i64 (0:Nat))] fD
  ⟨0,c3,[],rW,rfl,yM _,rfl,S3,Le.refl _⟩ ?_
 clear S3 gE c5 gJ;clear gC;rintro k fr s ay ⟨i,g,cs,W,rfl,hi,rfl,S,lg⟩;refine Uy ?_;refine Kl.intro (fun ht=>?_) (fun hf=>?_)
 .have d : i < fs.length := CC ht
  clear ht;have gP:=XJ d;obtain⟨a',b',da,ra,rb⟩:=bB.load gP;have gR:=bB.addr (k:=.i64) i d;obtain⟨gT,eG⟩:=c9 _ (eR d);have cE:fs.take (i+1)=fs.take i++[fs[i]]:=EL d;generalize fs[i]=f at*;have da:=da s (lg.trans S.le);have ra:=ra.le lg;have rb:=rb.le Nn.RP lg;obtain⟨iW,db,gV,hd,hj,hl,nQ,oQ⟩:=new41' ay ra.sl rb.sl
  have dQ:s.next∉B::O::(bl aK++bl aP++bl W):=fun m=>(S.own (HX.1 m)).2 nQ
  have eI:=S.up hj
  generalize s.next=Q at*
  obtain⟨eL,hn,dc,iX,hy⟩:=Tt hl [.int .i64 0,.int .i64 1];have mk:=Fb db 0 1;rw[hn]at mk;have aW:=eI.up dc
  have hz:RL RP eL (.slice (some ⟨db.next,0,none⟩) 2 2) (kz [0,1]):=RL.Wh (RS.whole hy rfl)
  have eM:=eX (dc.own _ _ oQ);have eO:=eX oQ;have eQ:=aW.f;have aw:=Tw i (Lb d (QJ NH));refine Sk (xU gR da gV hd) ?_;refine gh (tA [0,1,2,3,4,5,6,7,8,9,10,11] (JQ 12 [] (JQ 13 [9,11,12] (tA [14] (JQ 15 [14] (JQ 16 [4,13,15] (tA [17,18] (JQ 19 [0,1,2,3,4,5,6,7,8,9,10,11,12,13,14,15,16,18] .done)))))))) ?_;simp only[HO,Nat.reduceLT,↓reduceIte,Nat.reduceEqDiff,reduceCtorEq,Nat.reduceBEq,Qg,eF,ff0,ff1,Ip,BS,eI.f.l5,eQ.l5,eO.2.1,eO.2.2,eM.2.1,eM.2.2,mk]
  refine VA.intro PJ ⟨aaY,rfl,WY⟩ (NR J B n bv _ aK aP W b' (.slice (some ⟨db.next,0,none⟩) 2 2) [l,l.reverse] f.Fm [0,1] eL eQ aW.rlI ((rb.le Nn.RP aW.le)) hz gT Ma (sr eG bF) Ma) ?_
  rintro y dd hC ⟨eS,eT,hD⟩;have ck:=eT.own _ _ (dc.own _ _ oQ);have eU:=eX ck;have hE:(Hg dd B O aK aP W).own Q=some (.cells [a',b']):=by grind [Hg,DC]
  obtain⟨de,aX⟩:=(aW.up eT).pV;have gy:GI (Hg dd B O aK aP W) y (kz (zh [l,l.reverse] f.Fm [0,1])):=Pv (h:=dd) aW eS hD;obtain⟨hF,iY,ja,jb,hG,hI,hJ,je,jg,eV,hK,eW⟩:=de.pushL hC (a:=a') (b:=b') (c:=y) (p:=⟨f.zp,f.Fm,zh [l,l.reverse] f.Fm [0,1]⟩) (ra.le aX) (rb.le Nn.RP aX) gy.rl (tk_b eE dj _);have eZ:=eX (eV.own _ _ ck);have e0:=eX (eW.own _ _ hE);have hL:=de.f.le eV;have aq:=pN ra.sl rb.sl eS.rl.sl;simp only[HO,Nat.reduceLT,↓reduceIte,Nat.reduceEqDiff,reduceCtorEq,Nat.reduceBEq,Qg,eF,ff0,ff1,Ip,BS,de.f.l5,hL.l5,hK.l5,eU.2.1,eU.2.2,eZ.2.1,eZ.2.2,e0.2.1,e0.2.2,aq,hG,hI,hJ,aw];refine tn (fs.length-(i+1)) [(7,.pointer (some ⟨B,0,none⟩)),(90,c4),(91,.int .i64 (fs.length:Nat)),(92,.int .i64 (i+1:Nat))] (JS d) fD
   ⟨i+1,_,cs++[a',b',y],hF,rfl,d,rfl,?_,lg.trans aX⟩
  grind
 have br:fs.length<=i:=vp hf;rw[Og br]at S;refine Uy ?_
 grind [Le.trans]
variable {B:Nat} {G:GM} {S:kR} {cs us ws:List Value} {fv iv lv v:Value} {left:List wW} {r:Nat->II} {rows:AM}
theorem Nb (d:LA) (v:Value) (n:Nat) (es:List Pr) (h:AHeap) (hg:GR h v ⟨(n:Int),es⟩) (e:bX ⟨(n:Int),es⟩):
  AC Tryz.prog d 51 [v] h fun x h'=>RR (zW n es) x/\Le h h':=by
 have c:=hg
 obtain⟨ev,rfl,u⟩:=hg.open
 refine AC.vE ⟨Tryz.func51,rfl,WY⟩ Tryz.ntmps51 Tryz.results51 fun i=>?_;simp only[Br,Nat.reduceAdd];obtain⟨o,p,a,w,-,q⟩:=r8 (n:=(n:Int)) i u
 generalize h.next=B at*
 have b:=q o (Le.refl _);by_cases r:(n:Int)<3
 .have j : decide ((n : Int) < 3) = true := decide_eq_true r
  refine Sk (bG p @Ii @Ip.eq_1 @BS b.2.1 j) ?_;exact⟨RR.f fun T=>by have:=T.n3;omega,a⟩
 have j:decide ((n:Int)<3)=false:=decide_eq_false r;have h3:3<=n:=NH;refine Sk (rE p @Ii @Ip.eq_1 @BS b.2.1 b.1 j) ?_;refine TC.intro PJ ⟨Tryz.func64,rfl,WY⟩ (It d _ ⟨(n:Int),es⟩ o (c.le a) e) ?_;rintro pv s D ⟨gp,l4,-⟩;simp only[yY]at gp;have y:=gp.rl (Nn.RL Nn.RP);have k:=fun g=>y.fy g;have l:((Gx n es n).map kz).length=(Es n es).length:=by simp[Gx]
 rw[l]at k;have m:=q s l4;by_cases c1:((Es n es).length:Int)=1
 rotate_left
 .have d1 : decide (((Es n es).length : Int) = 1) = false := decide_eq_false c1
  refine Sk (Yb k @bne.eq_1.{0} d1) ?_
  grind [RR.f,zW.one,Le.trans]
 have d1:decide (((Es n es).length:Int)=1)=true:=decide_eq_true c1;have z:(Es n es).length=1:=NH;refine Sk (xU k @bne.eq_1.{0} d1 m.1) ?_
 refine TC.intro PJ ⟨Tryz.func46,rfl,WY⟩ (Cw d _ ⟨(n:Int),es⟩ s (c.le (a.trans l4))) ?_;rintro x E F ⟨l5,⟨A,_⟩|⟨_,G,rfl,t⟩⟩
 .exact absurd e A
 simp only[yY]at t;have C:=fun g=>t.len (P:=Tryz.prog) TX g;have H:=Uv e h3 z;refine Sk C ?_;refine⟨⟨_,rfl,?_⟩,(a.trans l4).trans l5⟩
 grind
noncomputable def embX (n:Nat) (es:List Pr):Option AM:=if 3*n<es.length+6 then none else embM n es
theorem MD {H:Nat->Nat->Prop} (hR:aV n es) (hA:D3 es) (D:QG (eN n es)) (I:Z8 n es H S) (h:OW es H=0):S.left=[]:=by
 rcases UK hR hA D 0 H S I NH with⟨a,-⟩|⟨b,c,a,-,h3⟩
 all_goals grind [runM]
theorem run_nil (h:S.left=[]):∀k,runM n rows k S=some S
 |0=>rfl
 |k+1=>by grind [runM.eq_2]
theorem lx.rlF {on:List Bool} {b d:Cs} (S:lx g h B O n rows bv fv iv lv us ws cs on b d left):RL (RL RP) h fv (b.map kz):=
 ⟨us,(GS.cs S.gF).rs,by grind [lx.uL],fun i x u a e=>by
  rw[dZ]at a;cases c:b[i]? with
  |none=>grind
  |some f=>
   rw[c]at a;simp at a;subst a;exact(S.cF i u f e c).le Nn.RP S.le⟩
theorem face_bd {F:Cs} (G:vy n r F):∀f∈F,(∀x∈f,x<n)/\f.length<=n:=fun f hf=>by
 have a:∀x∈f,x<n:=fun x b=>G.Rl.lt _ _ (G.O.df G.Rl hf b);refine⟨a,?_⟩;have:=tf (G.O.nd f hf) (B:=List.range n) fun v c=>Eh.2 (a v c)
 grind
theorem row_pos (a:zW n es) (hR:aV n es) {v:Nat} (b:v<n):0<((Zh n es).getD v []).length:=by
 obtain⟨w,hw⟩:=a.ne hR b;obtain⟨u,c,e⟩:=fR ((aU hR).2 ⟨w,hw⟩)
 grind [qG,Av.back]
theorem row_le {v:Nat} (b:v<n):((Zh n es).getD v []).length<=2*es.length:=by
 have a:v<(Zh n es).length:=by grind [Xq]
 rw[D4 a];exact bV n es _ (eR a)
def Ux (h:AHeap) (v:Value) (G:GM):Prop:=∃ev,v=.agg #[.int .i64 G.n,ev]/\PR h ev G.es/\Ov 2 ev
def Ux.gr (g:Ux h v G):GR h v G:=by
 obtain⟨ev,a,h2,-⟩:=g;exact⟨ev,a,h2⟩
theorem Ux.le {h h':AHeap} {v:Value} {G:GM} (g:Ux h v G) (l:Le h h'):Ux h' v G:=by
 obtain⟨ev,a,h2,h3⟩:=g;exact⟨ev,a,h2.le l,h3⟩
def Hw (G:GM) (h':AHeap) (a:Value) (e:Int):Prop:=
 (¬bX G/\e=20/\a=rW)\/(bX G/\¬zW G.n.toNat G.es/\e=60/\a=rW)\/
 (bX G/\zW G.n.toNat G.es/\embX G.n.toNat G.es=none/\¬XU G.n.toNat (eN G.n.toNat G.es)/\e=90/\a=rW)\/
 (bX G/\zW G.n.toNat G.es/\∃rs,embX G.n.toNat G.es=some rs/\Av G.n.toNat G.es rs/\Flat G.n.toNat (Xl rs)/\e=0/\RL (RL RP) h' a rs)
theorem Im (t:LA) (v:Value) (G:GM) (h:AHeap) (hg:Ux h v G):
  AC Tryz.prog t 19 [v] h fun x h'=>Le h h'/\∃rv e,x=.tuple #[rv,.int .i64 e]/\Hw G h' rv e:=by
 have z:=hg.gr;obtain⟨ev,rfl,N,hc⟩:=hg;obtain⟨gn,es⟩:=G;simp only at N;refine AC.vE ⟨KT,rfl,WY⟩ Tryz.ntmps19 Tryz.results19 fun Q=>?_;simp only[Br,Nat.reduceAdd];obtain⟨h1,b1,p,aJ,-,R⟩:=r8 (n:=gn) Q N
 generalize h.next=B1 at*
 have T:=R h1 (Le.refl _);refine Sk (XC b1 T.1) ?_;refine TC.intro PJ ⟨YW,rfl,WY⟩ (ak t _ _ h1 (z.le p)) ?_;rintro x h2 aK ⟨⟨U,rfl,i⟩,m⟩;cases U with
 |false=>
  refine Uy ?_;exact⟨p.trans m,_,_,rfl,.inl ⟨(fun d=>by grind),rfl,rfl⟩⟩
 |true=>
 have d:=i.1 rfl;clear i;have h0:0<=gn:=d.n0;obtain⟨n,rfl⟩:=HV h0;have aD:(n:Int)<=200:=d.n1;have aH:es.length<=594:=d.len;have hR:=d.GD;have hA:D3 es:=d.q9;have a:=p.trans m;refine Sk ((R h2 m).1) ?_;refine TC.intro PJ ⟨Tryz.func51,rfl,WY⟩ (Nb t _ n es h2 (z.le a) d) ?_;rintro x h3 aP ⟨⟨U,rfl,i⟩,j⟩;have fT:=R h3 (m.trans j);cases U with
 |false=>
  refine Uy ?_;exact⟨a.trans j,_,_,rfl,.inr (.inl ⟨d,(fun q=>by cases i.2 q),rfl,rfl⟩)⟩
 |true=>
 have l:=i.1 rfl;clear i;have aT:=l.n3;have lP:=fun g=>N.len g;have A:awrap .i64 (3*(n:Int))=3*(n:Int):=ie _ NH NH;have C:awrap .i64 (3*(n:Int)-6)=3*(n:Int)-6:=ie _ NH NH;by_cases c1:3*n<es.length+6
 .have d1 : decide ((es.length : Int) > 3 * (n : Int) - 6) = true := decide_eq_true NH
  simp only[HO,Nat.reduceLT,↓reduceIte,Nat.reduceEqDiff,reduceCtorEq,Ii,Di,Ip,BS,fT.2.1,fT.2.2,lP,A,C,d1];exact⟨a.trans j,_,_,rfl,.inr (.inr (.inl ⟨d,l,if_pos c1,many_no d l c1,rfl,rfl⟩))⟩
 have d1:decide ((es.length:Int)>3*(n:Int)-6)=false:=decide_eq_false NH;simp only[HO,Nat.reduceLT,↓reduceIte,Nat.reduceEqDiff,reduceCtorEq,Ii,Di,Ip,BS,fT.2.1,fT.2.2,fT.1,lP,A,C,d1];refine TC.intro PJ ⟨Tryz.func52,rfl,WY⟩ (Si t ev n es h3 (N.le (a.trans j)) hc d l) ?_;rintro x h4 w4 ⟨g4,B,O,bv,u,w,y,us,ws,cs,rfl,V,S4,Rg⟩;have I0:=Rg.start hR hA (L:=MF n (Qw n (sortP (ZH (zl n es)))) es) uY;have hX:embX n es=(runM n (Zh n es) es.length (RB n es)).map fun S=>xY n (Zh n es) S.Jv:=if_neg c1;have D:=l.Z7 hR;have E:OW es (Ei (zl n es))<=es.length:=jV _ _;have F:=(a.trans j).trans V;refine Uy ?_;refine gU.intro (fun k fr W=>∃(S:kR) (H:Nat->Nat->Prop) (g:AHeap) (u w y:Value) (us ws cs:List Value),fr=mkF [(4,.pointer (some ⟨B,0,none⟩))]/\Z8 n es H S/\runM n (Zh n es) es.length (RB n es)=runM n (Zh n es) k S/\OW es H<=k/\
   lx g W B O n (Zh n es) bv u w y us ws cs S.on S.Jv S.Jv S.left/\Le g4 g)
  es.length [(4,.pointer (some ⟨B,0,none⟩))] fD
  ⟨RB n es,_,g4,u,w,y,us,ws,cs,rfl,I0,rfl,E,S4,Le.refl _⟩ ?_
 clear S4 I0 E w4;clear h4 u w y us ws cs;rintro k fr W aW ⟨S,H,g,u,w,y,us,ws,cs,rfl,I,b,hu,o,X⟩;have J:=sB B 5 NH;have lL:=o.lenL;by_cases c:S.left=[]
 .have Y : decide ((S.left.length : Int) > 0) = false := by rw [c]; rfl
  refine Sk (xU J o.f.l5 lL Y) ?_;rw[run_nil c]at b;obtain⟨r,Z,fl,hm⟩:=I.done c;obtain⟨k1,k2⟩:=circ_ok d l Z fl hm;have K:=face_bd Z;have aX:=I.My;refine TC.intro PJ ⟨Tryz.func54,rfl,WY⟩ (pY t B n bv _ u w y (Zh n es) S.Jv W o.f (o.cB.le (Nn.RL Nn.RP) o.le) o.rlF (Xq n es) (fun v hv=>⟨row_pos l hR hv,by have:=row_le (es:=es) hv;omega⟩) (fun f hf=>⟨(K f hf).1,by have:=(K f hf).2;omega⟩) NH NH NH (L9 d l Z hm)) ?_;rintro x h9 w9 ⟨hx,l9⟩;refine Uy ?_;refine⟨((F.trans X).trans o.le).trans l9,x,_,rfl,.inr (.inr (.inr ⟨d,l,_,?_,k1,k2,rfl,hx⟩))⟩
  grind
 .have Y : decide ((S.left.length : Int) > 0) = true := by grind [List.length_pos_iff]
  obtain⟨k',rfl⟩:∃k',k=k'+1:=by
   cases k<;>grind [MD]
  refine Sk (xU J o.f.l5 lL Y) ?_;refine TC.intro PJ ⟨Tryz.func53,rfl,WY⟩ (lay_any t o d D I c) ?_;rintro x h9 w9 ⟨g9,M,l9,s⟩;rw[runM,if_neg c]at b;rcases s with⟨q1,rfl⟩|⟨S',ad,ag,aj,al,aq,ar,q1,rfl,av⟩
  .rw [q1] at b
   refine Uy ?_;have ay:¬XU n (eN n es):=by grind [Z8.lay]
   refine⟨((F.trans X).trans M).trans l9,_,_,rfl,.inr (.inr (.inl ⟨d,l,?_,ay,rfl,rfl⟩))⟩
   grind
  .rw [q1] at b
   refine Uy ?_;obtain⟨P,I',a1⟩:∃P,Z8 n es P S'/\OW es P<OW es H:=by grind [Z8.lay]
   exact tn k' [(4,.pointer (some ⟨B,0,none⟩))] (u3 _) fD ⟨S',P,g9,ad,ag,aj,al,aq,ar,rfl,I',b,NH,av,X.trans M⟩
end
end Go.Fw
namespace Go.Fw
open Go.Proofs
attribute [local irreducible] Jz JL vq cQ
def okB (n:Int) (es:List Pr) (i:Nat):Bool:=match es[i]? with
 |some p=>decide (0<=p.1)&&decide (p.1<p.2)&&decide (p.2<n)&&(i==0||match es[i-1]? with|some q=>decide (Nz q p<0)|none=>true)
 |none=>true
theorem V5 {n:Int} {es:List Pr} (a:0<=n) (b:n<=200) (c:es.length<=594) (d:(List.range es.length).all (okB n es)=true):bX ⟨n,es⟩:=by
 refine⟨a,b,c,fun i hi p f=>?_⟩;have:=Uz.1 d i (Eh.2 hi)
 grind [okB]
attribute [local instance] Classical.propDecidable in
theorem tT {n:Nat} {es:List Pr} {rs:AM} (a:bX ⟨(n:Int),es⟩) (G:Av n es rs) (b:0<n) (c:∀v,v<n->Pu es 0 v) (hf:n+(IN n rs).length=es.length+2):XU n (eN n es):=
 Vg a.GD a.q9 G ((En a.GD a.q9 G).1 ((vS a.GD a.q9 G b c).2 fun _=>hf))
attribute [local instance] Classical.propDecidable in
theorem XI {n:Nat} {es:List Pr} (b:bX ⟨(n:Int),es⟩) (h3:3<=n) (a:es≠[]) (c:∀v,v<n->Pu es 0 v) (hb:(vq n es).length=1):zW n es:=
 (Uv b h3 (FQ b.GD NH a c).2).1 hb
attribute [local instance] Classical.propDecidable in
theorem fJ {n:Nat} {es:List Pr} (b:bX ⟨(n:Int),es⟩) (h3:3<=n) (a:es≠[]) (c:∀v,v<n->Pu es 0 v) (hb:JL n es≠[]):¬zW n es:=fun T=>
 hb ((qW b h3 (FQ b.GD NH a c).2).2 T)
def LO:List Pr:=[(0,1),(0,3),(1,2),(2,3)]
def m5E:List Pr:=[(0,2),(0,3),(0,4),(1,2),(1,3),(1,4),(2,3),(2,4),(3,4)]
def k5L:List Pr:=(0,1)::m5E
def E9:List Pr:=[(0,3),(0,4),(0,5),(1,3),(1,4),(1,5),(2,3),(2,4),(2,5)]
def p3E:List Pr:=[(0,1),(1,2)]
def Rj:List Pr:=[(0,1),(0,2),(1,2),(2,3),(2,4),(3,4)]
def c4R:bX ⟨((4:Nat):Int),LO⟩:=V5 WY WY WY iw
def m5R:bX ⟨((5:Nat):Int),m5E⟩:=V5 WY WY WY iw
def k5R:bX ⟨((5:Nat):Int),k5L⟩:=V5 WY WY WY iw
def k33R:bX ⟨((6:Nat):Int),E9⟩:=V5 WY WY WY iw
def p3R:bX ⟨((3:Nat):Int),p3E⟩:=V5 WY WY WY iw
def bowR:bX ⟨((5:Nat):Int),Rj⟩:=V5 WY WY WY iw
theorem c4con:∀v,v<4->Pu LO 0 v:=fun v a=>by
 have c1:Pu LO 0 1:=vm (.inl WY)
 match v,a with
 |0,_=>grind [Pu.refl]
 |1,_=>exact c1
 |2,_=>exact tM c1 (.inl WY)
 |3,_=>exact vm (.inl WY)
theorem m5con:∀v,v<5->Pu m5E 0 v:=fun v a=>by
 have c2:Pu m5E 0 2:=vm (.inl WY)
 match v,a with
 |0,_=>grind [Pu.refl]
 |1,_=>exact tM c2 (.inr WY)
 |2,_=>exact c2
 |3,_=>exact vm (.inl WY)
 |4,_=>exact vm (.inl WY)
theorem k5con:∀v,v<5->Pu k5L 0 v:=fun v a=>by
 match v,a with
 |0,_=>grind [Pu.refl]
 |1,_=>exact vm (.inl WY)
 |2,_=>exact vm (.inl WY)
 |3,_=>exact vm (.inl WY)
 |4,_=>exact vm (.inl WY)
theorem k33con:∀v,v<6->Pu E9 0 v:=fun v b=>by
 have a:Pu E9 0 3:=vm (.inl WY)
 match v,b with
 |0,_=>grind [Pu.refl]
 |1,_=>exact tM a (.inr WY)
 |2,_=>exact tM a (.inr WY)
 |3,_=>exact a
 |4,_=>exact vm (.inl WY)
 |5,_=>exact vm (.inl WY)
theorem p3con:∀v,v<3->Pu p3E 0 v:=fun v a=>by
 have c1:Pu p3E 0 1:=vm (.inl WY)
 match v,a with
 |0,_=>grind [Pu.refl]
 |1,_=>exact c1
 |2,_=>exact tM c1 (.inl WY)
theorem bowcon:∀v,v<5->Pu Rj 0 v:=fun v a=>by
 have c2:Pu Rj 0 2:=vm (.inl WY)
 match v,a with
 |0,_=>grind [Pu.refl]
 |1,_=>exact vm (.inl WY)
 |2,_=>exact c2
 |3,_=>exact tM c2 (.inl WY)
 |4,_=>exact tM c2 (.inl WY)
def c4T:zW 4 LO:=XI c4R WY WY c4con iw
def m5T:zW 5 m5E:=XI m5R WY WY m5con iw
def k5T:zW 5 k5L:=XI k5R WY WY k5con iw
def k33T:zW 6 E9:=XI k33R WY WY k33con iw
def p3T:¬zW 3 p3E:=fJ p3R WY WY p3con iw
def bowT:¬zW 5 Rj:=fJ bowR WY WY bowcon iw
def c4Ro:AM:=[[1,3],[0,2],[1,3],[0,2]]
def m5Ro:AM:=[[2,3,4],[4,3,2],[0,4,1,3],[0,2,1,4],[0,3,1,2]]
def c4G:Av 4 LO c4Ro:=N9 rfl iw
def m5G:Av 5 m5E m5Ro:=N9 rfl iw
theorem c4F:(IN 4 c4Ro).length=2:=by rw[X9 c4R c4G (hs:=[((0,1),4),((0,3),4)]) iw];grind
theorem m5F:(IN 5 m5Ro).length=6:=by rw[X9 m5R m5G (hs:=[((0,2),3),((0,3),3),((0,4),3),((1,2),3),((1,3),3),((1,4),3)]) iw];grind
def c4P:XU 4 (eN 4 LO):=tT c4R c4G WY c4con (by rw[c4F];decide)
def m5P:XU 5 (eN 5 m5E):=tT m5R m5G WY m5con (by rw[m5F];decide)
theorem Jy {n:Nat} {es:List Pr} {E:Nat->II} (hR:aV n es) (a:∀v w,w∈E v->v<n/\w<n) (h:∀v,v<n->∀w,w<n->(w∈eN n es v↔w∈E v)):∀v w,w∈eN n es v↔w∈E v:=fun v w=>by grind [vD,Jp.lt]
theorem k5N:¬XU 5 (eN 5 k5L):=fun h=>k5_no (vT 5) ((XU.qE (Jy k5R.GD (fun v w q=>by grind [pZ]) iw)).1 h)
theorem k33N:¬XU 6 (eN 6 E9):=fun h=>k33_no (vT 6) ((XU.qE (Jy k33R.GD (fun v w q=>by grind [Vb]) iw)).1 h)
section
variable {G : GM} {h : AHeap} {rv : Value} {e : Int}
theorem Hw.no (I:Hw G h rv e) (b:bX G) (c:¬zW G.n.toNat G.es):e=60/\rv=rW:=by
 rcases I with⟨a,_⟩|⟨_,_,h2⟩|⟨_,a,_⟩|⟨_,a,_⟩
 all_goals grind
theorem Hw.bad (I:Hw G h rv e) (a:bX G) (f:zW G.n.toNat G.es) (c:¬XU G.n.toNat (eN G.n.toNat G.es)):e=90/\rv=rW:=by
 rcases I with⟨b,_⟩|⟨_,b,_⟩|⟨_,_,_,_,h2⟩|⟨_,_,rs,_,b,h2,_⟩
 .grind
 .grind
 .exact h2
 .have d : 0 <= G.n := a.n0
  obtain⟨n,es⟩:=G;obtain⟨n,rfl⟩:=HV d;exact absurd (Vg a.GD a.q9 b h2) c
theorem Hw.XK (I:Hw G h rv e) (b:bX G) (c:zW G.n.toNat G.es) (d:XU G.n.toNat (eN G.n.toNat G.es)):∃rs,embX G.n.toNat G.es=some rs/\Av G.n.toNat G.es rs/\Flat G.n.toNat (Xl rs)/\e=0/\RL (RL RP) h rv rs:=by
 rcases I with⟨a,_⟩|⟨_,a,_⟩|⟨_,_,_,h2,_⟩|⟨_,_,h2⟩
 all_goals grind
end
end Go.Fw
namespace Go.Fw
section
attribute [local irreducible] Kp MQ lU rS KO KN KX KE VK Kl ZJ TC gU
attribute [local irreducible] Jz JL vq cQ
open Go.Proofs
variable {a i j:Nat}
def GY (a j:Nat):List Pr:=(List.range (j-(a+1))).map fun t=>((a:Int),((a+1+t:Nat):Int))
def E3 (i:Nat):List Pr:=(List.range i).flatMap fun a=>GY a 5
def tN (h:a+1<=j):GY a (j+1)=GY a j++[((a:Int),(j:Int))]:=by
 unfold GY;rw[show j+1-(a+1)=(j-(a+1))+1 by omega,vY,OM];simp;omega
theorem SB (i:Nat):E3 (i+1)=E3 i++GY i 5:=by grind [E3,List.range_succ]
theorem GV (h:j<=5):(GY a j).length<=5:=by grind [GY]
theorem dH (h:i<=5):(E3 i).length<=25:=by
 match i,h with
 |0,_=>decide
 |1,_=>decide
 |2,_=>decide
 |3,_=>decide
 |4,_=>decide
 |5,_=>decide
theorem five_b (h:i<=5) (a:j<=5):(E3 i++GY i j).length+1<=100000:=by grind [GV,dH]
theorem XE (O:LA) (h:AHeap):AC Tryz.prog O 30 [] h fun x h'=>Ux h' x ⟨5,k5L⟩/\Le h h':=by
 refine AC.vE ⟨Tryz.func30,rfl,WY⟩ Tryz.ntmps30 Tryz.results30 fun l=>?_;simp only[Br,Nat.reduceAdd];obtain⟨G,P,l1,w1,Q⟩:=Tt l [.int .i64 0,.slice none 0 0];have H:=Lo h;rw[P]at H
 have S:h.own h.next=none:=(Le.refl h).next l (vT _)
 obtain⟨h2,h3,T,I,l3,U,nX,J⟩:=GX.new w1 5
 have t:G.next≠h.next:=fun e=>by grind
 generalize h.next=R at*
 generalize G.next=X at*
 refine Sk (xU H @Zp T I) ?_;have m:=l1.trans l3;have o:=l3.own _ _ Q;have u:h.own X=none:=by
  cases c:h.own X<;>grind [Le.own]
 refine gU.intro (fun k fr g=>∃(i:Nat) (ev:Value),k=5-i/\i<=5/\fr=mkF [(0,.pointer (some ⟨R,0,none⟩)),(1,.pointer (some ⟨X,0,none⟩)),(5,.int .i64 (i:Nat))]/\GX g X 5 ev (E3 i)/\Le h g/\Z2 h ev/\g.own R=some (.cells [.int .i64 0,.slice none 0 0])/\blk ev≠some R)
  5 [(0,.pointer (some ⟨R,0,none⟩)),(1,.pointer (some ⟨X,0,none⟩)),(5,.int .i64 (0:Nat))] fD ⟨0,_,rfl,yM _,rfl,J,m,fun b hb=>by simp[blk]at hb,o,by simp[blk]⟩ ?_
 clear J U o l3 m I;clear h3;rintro k fr g v ⟨i,ev,rfl,hi,rfl,f,w,K,oR,d⟩;refine Uy ?_;refine Kl.intro (fun p=>?_) (fun hf=>?_)
 .have q : i < 5 := CC (n := 5) p
  clear p;have aw:=Tw i NH;simp only[HO,Nat.reduceLT,↓reduceIte,Nat.reduceEqDiff,reduceCtorEq,aw];refine gU.intro (fun k fr s=>∃(j:Nat) (ev:Value),k=5-j/\i+1<=j/\j<=5/\fr=mkF [(0,.pointer (some ⟨R,0,none⟩)),(1,.pointer (some ⟨X,0,none⟩)),(2,.int .i64 (i:Nat)),(3,.int .i64 (j:Nat)),(5,.int .i64 (i:Nat))]/\GX s X 5 ev (E3 i++GY i j)/\Le h s/\Z2 h ev/\s.own R=some (.cells [.int .i64 0,.slice none 0 0])/\blk ev≠some R)
   (5-(i+1)) [(0,.pointer (some ⟨R,0,none⟩)),(1,.pointer (some ⟨X,0,none⟩)),(2,.int .i64 (i:Nat)),(3,.int .i64 (i+1:Nat)),(5,.int .i64 (i:Nat))] fD ⟨i+1,ev,rfl,vT _,NH,rfl,by simpa[GY]using f,w,K,oR,d⟩ ?_
  clear f w K oR d v;clear g ev;rintro k fr s y ⟨j,ev,rfl,z,V,rfl,f,L,M,oR,d⟩;refine Uy ?_;refine Kl.intro (fun p=>?_) (fun hf=>?_)
  .have r : j < 5 := CC (n := 5) p
   clear p;obtain⟨v',h4,h5,h6,W,A,Y,N,w6,l4,Z,k6⟩:=f.push' y ((i:Int),(j:Int)) (five_b hi V);obtain⟨l6,a6⟩:=Z h L u M;obtain⟨B,C⟩:=k6 R _ oR (LH t) d;have D:=Tw j NH;have Gl:=f.ld;rw[Bx,<-tN z]at N;have E:aBuild Tryz.prog 38 [(0,.int .i64 (i:Int)),(1,.int .i64 (j:Int))]=some (UI ((i:Int),(j:Int))):=rfl;refine Sk (xL @Di @Ip.eq_1 @BS Gl.2.2 E W A Y D) ?_;exact tn (5-(j+1)) [(0,.pointer (some ⟨R,0,none⟩)),(1,.pointer (some ⟨X,0,none⟩)),(2,.int .i64 (i:Nat)),(3,.int .i64 (j+1:Nat)),(5,.int .i64 (i:Nat))] (JS r) fD ⟨j+1,v',rfl,NH,r,rfl,N,l6,a6,B,C⟩
  .have F : 5 <= j := vp (n := 5) hf
   obtain rfl:j=5:=NH;rw[<-SB]at f;simp only[HO,Nat.reduceLT,↓reduceIte,Nat.reduceEqDiff,reduceCtorEq,aw];exact tn (5-(i+1)) [(0,.pointer (some ⟨R,0,none⟩)),(1,.pointer (some ⟨X,0,none⟩)),(5,.int .i64 (i+1:Nat))] (JS q) fD ⟨i+1,ev,rfl,q,rfl,f,L,M,oR,d⟩
 have F:5<=i:=vp (n:=5) hf;obtain rfl:i=5:=NH;have A:E3 5=k5L:=by decide
 rw[A]at f;have sl:=f.gp.pr.sl;have st:=DG (n:=5) (ev:=ev) oR sl.one sl.cell;have ld:aload Tryz.prog (g.put R (.cells [.int .i64 5,ev])) 24 ⟨R,0,none⟩=some (.agg #[.int .i64 5,ev]):=tY (AHeap.Y3 _ _ _) (by obtain⟨a,c,e,_⟩:=sl;exact⟨a,_,c,e⟩);simp only[HO,Nat.reduceLT,↓reduceIte,Nat.reduceEqDiff,reduceCtorEq,f.ld.1,st,ld];exact⟨⟨ev,rfl,(GS.put f.gp _ d).cs,GS.Ov f.gp⟩,w.put _ S⟩
def OR (a j:Nat):List Pr:=(List.range j).map fun(t:Nat)=>((a:Int),3+(t:Int))
def Be (i:Nat):List Pr:=(List.range i).flatMap fun a=>OR a 3
theorem TR:OR a (j+1)=OR a j++[((a:Int),3+(j:Int))]:=by grind [OR,List.range_succ]
theorem iz (i:Nat):Be (i+1)=Be i++OR i 3:=by grind [Be,List.range_succ]
theorem six_b (h:i<=3) (a:j<=3):(Be i++OR i j).length+1<=100000:=by
 have b:(OR i j).length<=3:=by grind [OR]
 have h2:(Be i).length<=9:=by
  match i,h with
  |0,_=>decide
  |1,_=>decide
  |2,_=>decide
  |3,_=>decide
 grind
theorem six_any (N:LA) (h:AHeap):AC Tryz.prog N 31 [] h fun x h'=>Ux h' x ⟨6,E9⟩/\Le h h':=by
 refine AC.vE ⟨Tryz.func31,rfl,WY⟩ Tryz.ntmps31 Tryz.results31 fun l=>?_;simp only[Br,Nat.reduceAdd];obtain⟨F,O,l1,w1,P⟩:=Tt l [.int .i64 0,.slice none 0 0];have G:=Lo h;rw[O]at G
 have Q:h.own h.next=none:=(Le.refl h).next l (vT _)
 obtain⟨h2,h3,S,H,l3,T,nX,I⟩:=GX.new w1 6
 have t:F.next≠h.next:=fun e=>by grind
 generalize h.next=R at*
 generalize F.next=X at*
 refine Sk (xU G @Zp S H) ?_;have m:=l1.trans l3;have o:=l3.own _ _ P;have u:h.own X=none:=by
  cases c:h.own X<;>grind [Le.own]
 refine gU.intro (fun k fr g=>∃(i:Nat) (ev:Value),k=3-i/\i<=3/\fr=mkF [(0,.pointer (some ⟨R,0,none⟩)),(1,.pointer (some ⟨X,0,none⟩)),(5,.int .i64 (i:Nat))]/\GX g X 6 ev (Be i)/\Le h g/\Z2 h ev/\g.own R=some (.cells [.int .i64 0,.slice none 0 0])/\blk ev≠some R)
  3 [(0,.pointer (some ⟨R,0,none⟩)),(1,.pointer (some ⟨X,0,none⟩)),(5,.int .i64 (0:Nat))] fD ⟨0,_,rfl,yM _,rfl,I,m,fun b hb=>by simp[blk]at hb,o,by simp[blk]⟩ ?_
 clear I T o l3 m H;clear h3;rintro k fr g v ⟨i,ev,rfl,hi,rfl,f,w,J,oR,d⟩;refine Uy ?_;refine Kl.intro (fun p=>?_) (fun hf=>?_)
 .have q : i < 3 := CC (n := 3) p
  clear p;have aw:=Tw i NH;refine Uy ?_;refine gU.intro (fun k fr s=>∃(j:Nat) (ev:Value),k=3-j/\j<=3/\fr=mkF [(0,.pointer (some ⟨R,0,none⟩)),(1,.pointer (some ⟨X,0,none⟩)),(2,.int .i64 (i:Nat)),(5,.int .i64 (i:Nat)),(8,.int .i64 (j:Nat))]/\GX s X 6 ev (Be i++OR i j)/\Le h s/\Z2 h ev/\s.own R=some (.cells [.int .i64 0,.slice none 0 0])/\blk ev≠some R)
   3 [(0,.pointer (some ⟨R,0,none⟩)),(1,.pointer (some ⟨X,0,none⟩)),(2,.int .i64 (i:Nat)),(5,.int .i64 (i:Nat)),(8,.int .i64 (0:Nat))] fD ⟨0,ev,rfl,yM _,rfl,by simpa[OR]using f,w,J,oR,d⟩ ?_
  clear f w J oR d v;clear g ev;rintro k fr s y ⟨j,ev,rfl,U,rfl,f,K,L,oR,d⟩;refine Uy ?_;refine Kl.intro (fun p=>?_) (fun hf=>?_)
  .have r : j < 3 := CC (n := 3) p
   clear p;obtain⟨v',h4,h5,h6,V,z,W,M,w6,l4,Y,Z⟩:=f.push' y ((i:Int),3+(j:Int)) (six_b hi U);obtain⟨l6,a6⟩:=Y h K u L;obtain⟨A,B⟩:=Z R _ oR (LH t) d;have C:=Tw j NH;have Gl:=f.ld;rw[Bx,<-TR]at M;have a3:awrap .i64 (3+(j:Int))=3+(j:Int):=ie _ NH NH;have D:aBuild Tryz.prog 38 [(0,.int .i64 (i:Int)),(1,.int .i64 (3+(j:Int)))]=some (UI ((i:Int),3+(j:Int))):=rfl;refine Sk (Pj @Di @Ip.eq_1 @BS Gl.2.2 a3 D V z W C) ?_;exact tn (3-(j+1)) [(0,.pointer (some ⟨R,0,none⟩)),(1,.pointer (some ⟨X,0,none⟩)),(2,.int .i64 (i:Nat)),(5,.int .i64 (i:Nat)),(8,.int .i64 (j+1:Nat))] (JS r) fD ⟨j+1,v',rfl,r,rfl,M,l6,a6,A,B⟩
  .have E : 3 <= j := vp (n := 3) hf
   obtain rfl:j=3:=NH;rw[<-iz]at f;simp only[HO,Nat.reduceLT,↓reduceIte,Nat.reduceEqDiff,reduceCtorEq,aw];exact tn (3-(i+1)) [(0,.pointer (some ⟨R,0,none⟩)),(1,.pointer (some ⟨X,0,none⟩)),(5,.int .i64 (i+1:Nat))] (JS q) fD ⟨i+1,ev,rfl,q,rfl,f,K,L,oR,d⟩
 have E:3<=i:=vp (n:=3) hf;obtain rfl:i=3:=NH;have z:Be 3=E9:=by decide
 rw[z]at f;have sl:=f.gp.pr.sl;have st:=DG (n:=6) (ev:=ev) oR sl.one sl.cell;have ld:aload Tryz.prog (g.put R (.cells [.int .i64 6,ev])) 24 ⟨R,0,none⟩=some (.agg #[ .int .i64 6,ev]):=tY (AHeap.Y3 _ _ _) (by obtain⟨a,c,e,_⟩:=sl;exact⟨a,_,c,e⟩);simp only[HO,Nat.reduceLT,↓reduceIte,Nat.reduceEqDiff,reduceCtorEq,f.ld.1,st,ld];exact⟨⟨ev,rfl,(GS.put f.gp _ d).cs,GS.Ov f.gp⟩,w.put _ Q⟩
end
end Go.Fw
