/- A text. -/
import Derived.Test.YtkccdnmaaelbiaaGreatFwLJ19
set_option linter.all false
set_option maxRecDepth 99999
set_option maxHeartbeats 9999999
namespace Go.Fw
section
attribute [local instance] Classical.propDecidable
attribute [local irreducible] Kp MQ lU rS KO KN KX KE VK Kl ZJ TC gU
open Go.Proofs
variable {O i k m n:Nat} {bv:Value} {es:List Pr} {g h:AHeap} {l:II}
def box77 (h:AHeap) {n:Int} (hb:xO bv k):aBuild Tryz.prog 77 [(0,.int .i64 n),(1,bv),(2,.slice (some ⟨O,0,none⟩) m m)]=some (.agg #[.int .i64 n,bv,.slice (some ⟨O,0,none⟩) m m,rW,rW,rW])/\
  zF h (.agg #[.int .i64 n,bv,.slice (some ⟨O,0,none⟩) m m,rW,rW,rW])=some (.pointer (some ⟨h.next,0,none⟩),h.alloc (.cells [.int .i64 n,bv,.slice (some ⟨O,0,none⟩) m m,rW,rW,rW])):=by
 obtain⟨_,_,rfl,_⟩:=hb;exact⟨by kernel_rfl,by kernel_rfl⟩
theorem RO (hi:i<l.length):(ZH l).take (i+1)=(ZH l).take i++[GW l[i] (l.getD ((i+1)%l.length) 0)]:=by grind [ZH,List.take_succ_eq_append_getElem]
theorem F9 (l:II):(ZH l).length=l.length:=by simp[ZH]
theorem ring_bd (R:Ho n es l) (hR:aV n es) (d:n<=200):∀p∈ZH l,∃a b:Nat,p=((a:Int),(b:Int))/\a<1000/\b<1000:=fun p c=>by
 obtain⟨a,b,rfl,e,h2⟩:=jB hR (R.ik hR c)
 grind
theorem eP (R:Ho n es l) (hR:aV n es):l.length<=n:=by
 have:=tf R.nd (B:=List.range n) fun v a=>Og.2 (R.lt hR a)
 grind
theorem rt_b (h:l.length<=n) (h2:(n:Int)<=200):((ZH l).take i).length+1<=100000:=by grind [F9]
theorem tk_b {a:List FM} (h:a.length<=m) (b:m<=594) (F:FM->wW):((a.take i).map F).length<=100000:=pw
def pN {a b c:Value} (ha:xO a n) (hb:xO b m) (d:xO c k):aBuild Tryz.prog 125 [(0,a),(1,b),(2,c)]=some (.agg #[a,b,c]):=by
 obtain⟨_,_,rfl,_⟩:=ha;obtain⟨_,_,rfl,_⟩:=hb;obtain⟨_,_,rfl,_⟩:=d;kernel_rfl
def le_rem (X:II) (l:Le g h) (a:∀b∈X,g.own b=none):Le g (rem X h):=l.iV a
theorem Si (K:LA) (ev:Value) (n:Nat) (es:List Pr) (h:AHeap) (hp:PR h ev es) (hc:Ov 2 ev) (hr:bX ⟨(n:Int),es⟩) (T2:zW n es):
  AC Tryz.prog K 52 [.agg #[.int .i64 n,ev]] h fun x h'=>∃g' B O bv fv iv M us ws cs,x=.pointer (some ⟨B,0,none⟩)/\Le h g'/\
   lx g' h' B O n (Zh n es) bv fv iv M us ws cs (RB n es).on (RB n es).Jv (RB n es).Jv (RB n es).left/\Ho n es (zl n es):=by
 have hR:=hr.GD;have hA:=hr.q9;have bF:(n:Int)<=200:=hr.n1;have dk:es.length<=594:=hr.len;obtain⟨p0,rest,ag⟩:=Gw (T2.es_ne hR);obtain⟨a,b,rfl,hQ,hb⟩:=jB hR (show p0∈es by grind);have e4:es.drop 1=rest:=by rw[ag];rfl
 have e5:bX ⟨(n:Int),rest⟩:=by grind [bX.tail]
 have aj:Pu rest b a:=T2.less hR NH hb NH fun x y e6 hS=>by
  rcases e6 with h|h
  .rw [ag] at h
   rcases WA.1 h with e|h
   .grind
   .exact .inl h
  .rw [ag] at h
   rcases WA.1 h with e|h
   .grind
   .exact .inr h
 have hU:rest.length<=594:=pw;refine AC.vE ⟨Tryz.func52,rfl,WY⟩ Tryz.ntmps52 Tryz.results52 fun e7=>?_;simp only[Br,Nat.reduceAdd];obtain⟨h1,b1,dm,e8,-,A⟩:=r8 (n:=(n:Int)) e7 hp
 generalize h.next=B1 at*
 have dq:=A h1 (Le.refl _);have a1:=hp.le dm;have dr:=a1.addr (k:=.i64) 0 pw;have e9:=a1.load (i:=0) (p:=((a:Int),(b:Int))) (by rw[ag];rfl);obtain⟨h2,h3,e2,e3,l3,w3,o3⟩:=Ut e8 ((a:Int),(b:Int))
 generalize h1.next=E at*
 have fT:=A h3 l3;simp only[Ex]at dr;refine Sk (xL b1 @Di @Ip.eq_1 @XJ dq.2.2 dr e9 e2 e3) ?_;have fb:=a1.le l3;obtain⟨rv,N,H,-⟩:=fb.cut hc (i:=1) pw;rw[e4]at H;simp only[aaR]at N;apply Ya (F:=fun(fr:lC) (h5:AHeap)=>∃(X:Nat) (cv:Value),Fj fr [(1,.pointer (some ⟨B1,0,none⟩)),(3,.pointer (some ⟨E,0,none⟩)),(4,.pointer (some ⟨X,0,none⟩))]/\Le h3 h5/\WF h5/\PR h5 cv rest/\∀g,Le h5 g->aload Tryz.prog g 24 ⟨X,0,none⟩=some (.agg #[.int .i64 n,cv]))
 .intro cont
  refine gh (tA [0,1,2,3,4] (.ch 5 [4] (tA [6] (JQ 7 [] (JQ 8 [0,1,2,3,4,5,6,7] .done))) (JQ 7 [] (JQ 5 [4] (tA [6] (JQ 8 [0,1,2,3,4,5,6,7] .done)))))) ?_
  have fc:∃g,h3.alloc (.cells [.int .i64 0,.slice none 0 0])=g/\Le h3 g/\WF g/\g.own h3.next=some (.cells [.int .i64 0,.slice none 0 0]):=Tt w3 _
  obtain⟨q1,y1,m1,v1,u1⟩:=fc
  have a6:aAlloc Tryz.prog h3 24=some (.pointer (some ⟨h3.next,0,none⟩),q1):=by rw[Lo,y1]
  have Q1:=A q1 (l3.trans m1);simp only[qj,Nat.reduceLT,↓reduceIte,Nat.reduceEqDiff,reduceCtorEq,Nat.reduceBEq,Qg,Ii,Di,Ip,XJ,fT.2.1,fT.2.2,N,a6,Q1.2.1,Q1.2.2];refine⟨?_,?_⟩
  .refine VA.intro PJ ⟨Tryz.func72, rfl, WY⟩ (DA K rv rest h3 H NH) ?_
   rintro cv h4 w4 ⟨gc,l4,-⟩;have A4:=A h4 (l3.trans l4);have aq:=Wj (n:=(n:Int)) gc.pr.sl;obtain⟨h5,D,a5,s5,l6,w6,lG⟩:=As (n:=(n:Int)) w4 gc.pr;have A5:Le h4 h5:=by grind [Lo,Le.refl,Le.alloc]
   have A5:=A h5 ((l3.trans l4).trans A5);have A6:=A D ((l3.trans l4).trans l6);simp only[qj,Nat.reduceLT,↓reduceIte,Nat.reduceEqDiff,reduceCtorEq,Nat.reduceBEq,Qg,Ii,Di,Ip,XJ,A4.2.1,A4.2.2,N,aq,a5,s5,A5.2.1,A5.2.2,A6.2.1,A6.2.2];refine KN.UJ fun fr' h' x y=>cont fr' h' ?_;subst x y;exact⟨_,cv,fD,l4.trans l6,w6,gc.pr.le l6,fun g l=>(lG g l).1⟩
  .refine VA.intro PJ ⟨Tryz.func72, rfl, WY⟩ (DA K rv rest q1 (H.le m1) NH) ?_
   rintro cv h4 w4 ⟨gc,l4,ac⟩;have A4:=A h4 ((l3.trans m1).trans l4);have aq:=Wj (n:=(n:Int)) gc.pr.sl
   have nX:blk cv≠some h3.next:=fun e=>by have:=ac _ e;rw[u1]at this;cases this
   have oX:=l4.own _ _ u1
   have n1:h3.own h3.next=none:=(Le.refl h3).next w3 (Ny _)
   have one:=gc.pr.sl.one;have bH:UA Tryz.prog 24=2:=Ji;have fe:(Value.agg #[.int .i64 (n:Int),cv]).cells=#[.int .i64 (n:Int),cv]:=rfl;have fg:(Value.int IntKind.i64 (n:Int)).oneCell'=true:=rfl
   have st:aStore Tryz.prog h4 24 (.pointer (some ⟨h3.next,0,none⟩)) (.agg #[.int .i64 (n:Int),cv])=some (h4.put h3.next (.cells [.int .i64 (n:Int),cv])):=by simp[aStore,oX,fe,bH,putCells,qS9,one,fg]
   have ho:(h4.put h3.next (.cells [.int .i64 (n:Int),cv])).own h3.next=some (.cells [.int .i64 (n:Int),cv]):=AHeap.Y3 _ _ _
   have l5:Le h3 (h4.put h3.next (.cells [.int .i64 (n:Int),cv])):=(m1.trans l4).put _ n1
   have A5:=A _ (l3.trans l5);simp only[qj,Nat.reduceLT,↓reduceIte,Nat.reduceEqDiff,reduceCtorEq,Nat.reduceBEq,Qg,Ii,Di,Ip,XJ,A4.2.1,A4.2.2,N,aq,st,A5.2.1,A5.2.2];refine KN.UJ fun fr' h' x y=>cont fr' h' ?_;subst x y
   exact⟨h3.next,cv,fD,l5,w4.put _ (w4.lt oX),GP.pr (GS.put gc _ nX),fun g l=>by rw[Wx qS9 rfl bH (l.own _ _ ho) Ma];rfl⟩
 rintro fr h5 ⟨X,cv,G,dw,w5,dx,lX⟩;simp only[Fj]at G;obtain⟨f1,f3,f4,-⟩:=G;have dz:=dw.own _ _ o3;refine Sk (Pj f1 f3 f4 (lX h5 (Le.refl _)) @Dh @Z0 @Ip.eq_1 @XJ (lK dz) (HY dz)) ?_;refine TC.intro PJ ⟨Tryz.func90,rfl,WY⟩ (NL K _ ⟨(n:Int),rest⟩ (a:Int) (b:Int) h5 ⟨cv,rfl,dx⟩) ?_;rintro x D w6 ⟨l6,M,er,rfl,hN,I⟩;simp only[yY]at I;obtain⟨k1,k2⟩:=I e5 NH NH NH NH;obtain⟨gl,al,dA⟩:=k2 (k1.2 aj);obtain⟨fh,Rg⟩:=JM hr ag dA aj;rw[fh]at gl;have z:=(l3.trans dw).trans l6;have A6:=A D z;have cm:=a1.le z;have cp:GR D (.agg #[.int .i64 (n:Int),ev]) ⟨(n:Int),es⟩:=⟨ev,rfl,cm⟩;generalize cq:zl n es=l at*;have J:=eP Rg hR;have fm:er=0:=k1.2 aj;subst fm;refine Sk f1 ?_;clear I k1 k2 lX dx;apply Ya (F:=fun(fr:lC) (h9:AHeap)=>∃(B O:Nat) (bv:Value) (R:AHeap),Fj fr [(1,.pointer (some ⟨B1,0,none⟩)),(5,M),(7,.pointer (some ⟨B,0,none⟩))]/\WF h9/\h9.own B=some (.cells [.int .i64 (n:Int),bv,.slice (some ⟨O,0,none⟩) n n,rW,rW,rW])/\h9.own O=some (.cells (Bo (List.replicate n false)))/\B≠O/\Le D R/\R.own B=none/\R.own O=none/\Le R h9/\RL (RL RP) R bv (Zh n es))
 .intro cont
  have bo:Bo (List.replicate n false)=List.replicate n (.bool false):=by simp[Bo]
  obtain⟨q1,y1,m1,v1,u1⟩:=Tt w6 (List.replicate n (.bool false));have a6:=PO D n NH;rw[y1]at a6;have Q1:=A q1 (z.trans m1);refine gh (tA [0,1,2,4,5] (.ch 3 [2] (JQ 6 [5] (tA [7] (JQ 8 [7] (tA [9] .done)))) (JQ 6 [5] (JQ 3 [2] (tA [7] (JQ 8 [7] (tA [9] .done))))))) ?_;simp only[qj,Nat.reduceLT,↓reduceIte,Nat.reduceEqDiff,reduceCtorEq,Nat.reduceBEq,Qg,f1,Ii,Ip,XJ,A6.1,A6.2.1,a6,Q1.1,Q1.2.1];refine⟨?_,?_⟩
  .refine VA.intro PJ ⟨zj, rfl, WY⟩ (oe K _ n es D cp hr) ?_
   rintro bv Z w7 ⟨r,l7⟩;have A7:=A Z (z.trans l7);obtain⟨h8,y8,l8,w8,o8⟩:=Tt w7 (List.replicate n (.bool false));have dB:=PO Z n NH;rw[y8]at dB;have A8:=A h8 ((z.trans l7).trans l8)
   obtain⟨cr,ar⟩:=box77 h8 (n:=(n:Int)) (O:=Z.next) (m:=n) r.sl
   obtain⟨h9,y9,l9,w9,o9⟩:=Tt w8 [.int .i64 (n:Int),bv,.slice (some ⟨Z.next,0,none⟩) n n,rW,rW,rW]
   rw[y9]at ar;have A9:=A h9 (((z.trans l7).trans l8).trans l9);simp only[qj,Nat.reduceLT,↓reduceIte,Nat.reduceEqDiff,reduceCtorEq,Nat.reduceBEq,Qg,f1,Ii,Ip,XJ,A7.1,A7.2.1,A8.1,A8.2.1,A9.1,A9.2.1,dB,cr,ar];refine KN.UJ fun fr' h' x y=>cont fr' h' ?_;rw[x,y]
   exact⟨h8.next,Z.next,bv,Z,(by simp only[Fj,HO,Nat.reduceLT,↓reduceIte,Nat.reduceEqDiff,reduceCtorEq,f1];simp),w9,o9,by rw[bo];exact l9.own _ _ o8,fun e=>by have:=w8.lt o8;omega,l7,l8.next w8 (Ny _),(Le.refl Z).next w7 (Ny _),l8.trans l9,r⟩
  .have hk : Le D (q1.kill D.next) := m1.Oo ((Le.refl D).next w6 (Ny _))
   refine VA.intro PJ ⟨zj,rfl,WY⟩ (AC.frame u1 (oe K _ n es (q1.kill D.next) (cp.le hk) hr)) ?_
   rintro bv Z w7 ⟨g7,⟨r,l7⟩,dE,rfl⟩;have cx:=hk.trans l7;have a7:=Le.Y5 dE (.cells (List.replicate n (.bool false)))
   have o7:(g7.put D.next (.cells (List.replicate n (.bool false)))).own D.next=some (.cells (List.replicate n (.bool false))):=AHeap.Y3 _ _ _
   generalize g7.put D.next (.cells (List.replicate n (.bool false)))=Z at*
   have A7:=A Z ((z.trans cx).trans a7)
   obtain⟨cr,ar⟩:=box77 Z (n:=(n:Int)) (O:=D.next) (m:=n) r.sl
   obtain⟨h9,y9,l9,w9,o9⟩:=Tt w7 [.int .i64 (n:Int),bv,.slice (some ⟨D.next,0,none⟩) n n,rW,rW,rW]
   rw[y9]at ar;have A9:=A h9 (((z.trans cx).trans a7).trans l9);simp only[qj,Nat.reduceLT,↓reduceIte,Nat.reduceEqDiff,reduceCtorEq,Nat.reduceBEq,Qg,f1,Ii,Ip,XJ,A7.1,A7.2.1,A9.1,A9.2.1,cr,ar];refine KN.UJ fun fr' h' x y=>cont fr' h' ?_;rw[x,y]
   exact⟨Z.next,D.next,bv,g7,(by simp only[Fj,HO,Nat.reduceLT,↓reduceIte,Nat.reduceEqDiff,reduceCtorEq,f1];simp),w9,o9,by rw[bo];exact l9.own _ _ o7,fun e=>by have:=w7.lt o7;omega,cx,a7.next w7 (Ny _),dE,a7.trans l9,r⟩
 rintro fr h9 ⟨B,O,bv,R,G,w9,oB,oO,fp,av,gB,gO,dF,r⟩;simp only[Fj]at G;obtain⟨f1,f5,f7,-⟩:=G;have a8:=gl.le av;have hV:=al;have lr:∀g,aLen Tryz.prog g 49 M=some (.int .i64 (l.length:Nat)):=fun g=>by
  have:=gl.rl.Uc g
  grind [y6]
 have fq:=sB B 2 NH;simp only[HO,Nat.reduceLT,↓reduceIte,Nat.reduceEqDiff,reduceCtorEq,f5,lr];refine gU.intro (fun k fr s=>∃(i:Nat) (wv:Value),k=l.length-i/\i<=l.length/\fr=mkF [(1,.pointer (some ⟨B1,0,none⟩)),(5,M),(7,.pointer (some ⟨B,0,none⟩)),(8,wv),(45,M),(46,.int .i64 (l.length:Nat)),(47,.int .i64 (i:Nat))]/\
   s.own B=some (.cells [.int .i64 (n:Int),bv,.slice (some ⟨O,0,none⟩) n n,rW,rW,rW])/\s.own O=some (.cells (Bo (tV (List.replicate n false) (l.take i))))/\Le R s/\GP s wv ((ZH l).take i)/\Z2 R wv/\blk wv≠some B/\blk wv≠some O)
  l.length [(1,.pointer (some ⟨B1,0,none⟩)),(5,M),(7,.pointer (some ⟨B,0,none⟩)),(8,rW),(45,M),(46,.int .i64 (l.length:Nat)),(47,.int .i64 (0:Nat))] (by simp only[Fj,HO,Nat.reduceLT,↓reduceIte,Nat.reduceEqDiff,reduceCtorEq,f1,f5,f7];simp)
  ⟨0,_,rfl,vZ _,rfl,oB,oO,dF,GP.nil _,fun b hb=>by grind [blk],by simp[blk],by simp[blk]⟩ ?_
 clear f1 f5 f7 oB oO dF w9;clear h9;rintro k fr s ay ⟨i,wv,rfl,hi,rfl,oB,oO,aD,gw,cz,cC,bb⟩;refine Uy ?_;refine Kl.intro (fun ht=>?_) (fun hf=>?_)
 .have d : i < l.length := CC ht
  clear ht;have ft:=a8.le aD;have ad:∀q,q<l.length->aIndexAddr Tryz.prog 49 M (.int .i64 (q:Int))=some (.pointer (some (elemAddr M q))):=fun q U=>ft.rl.TA q (by rw[y6];exact U);have ld:∀g,Le R g->∀q (U:q<l.length),aload Tryz.prog g 3 (elemAddr M q)=some (.int .i64 ((l.getD q 0:Nat):Int)):=fun g lg q U=>by rw[(a8.le lg).rl.DH q (by rw[y6];exact U),sY U,D4 U]
  have dI:(i+1)%l.length<l.length:=Cg _ NH;have hv:l.getD i 0<n:=by rw[D4 d];exact Rg.lt hR (EP d)
  have cE:l.take (i+1)=l.take i++[l[i]]:=EL d;have dL:=RO d;have fx:l.getD i 0=l[i]:=D4 d;rw[<-fx]at dL cE;have fF:aIndexAddr Tryz.prog 59 (.slice (some ⟨O,0,none⟩) n n) (.int .i64 ((l.getD i 0:Nat):Int))=some (.pointer (some ⟨O,l.getD i 0,none⟩)):=by rw[Wc eY AV Ji _ hv];simp[Ip]
  have ZA:(tV (List.replicate n false) (l.take i)).length=n:=by
   have:∀(w:II) (o:List Bool),(tV o w).length=o.length:=fun w=>by
    induction w with
    |nil=>intro o;rfl
    |cons x w ih=>intro o;show(tV (o.set x true) w).length=_;grind
   grind
  have fL:(tV (List.replicate n false) (l.take i)).set (l.getD i 0) true=tV (List.replicate n false) (l.take (i+1)):=by rw[cE];unfold tV;grind
  have st:aStore Tryz.prog s 4 (.pointer (some ⟨O,l.getD i 0,none⟩)) (.bool true)=some (s.put O (.cells (Bo (tV (List.replicate n false) (l.take (i+1)))))):=by rw[QB (P:=Tryz.prog) (t:=4) (x:=.bool true) AV Ji oO (off:=l.getD i 0) (by rw[O2,ZA];exact hv) rfl rfl,Tr,fL]
  have fN:aload Tryz.prog s 59 ⟨B,2,none⟩=some (.slice (some ⟨O,0,none⟩) n n):=by rw[Fq eY rfl oB];rfl
  have w8:WF (s.put O (.cells (Bo (tV (List.replicate n false) (l.take (i+1)))))):=ay.put _ (ay.lt oO);have fP:(s.put O (.cells (Bo (tV (List.replicate n false) (l.take (i+1)))))).own O=some (.cells (Bo (tV (List.replicate n false) (l.take (i+1))))):=AHeap.Y3 _ _ _;have fU:(s.put O (.cells (Bo (tV (List.replicate n false) (l.take (i+1)))))).own B=some (.cells [.int .i64 (n:Int),bv,.slice (some ⟨O,0,none⟩) n n,rW,rW,rW]):=by grind [AHeap.By]
  have dM:Le R (s.put O (.cells (Bo (tV (List.replicate n false) (l.take (i+1)))))):=aD.put _ gO;have fV:GP (s.put O (.cells (Bo (tV (List.replicate n false) (l.take (i+1)))))) wv ((ZH l).take i):=GS.put gw _ bb;generalize s.put O (.cells (Bo (tV (List.replicate n false) (l.take (i+1)))))=h8 at*;have aw:=Tw i (Lb d (Tn J NH));have nz:=Ww d;have fY:=Wt d;have ga:=Y7 (a:=i+1) (FI d) (Tn J NH);simp only[HO,Nat.reduceLT,↓reduceIte,Nat.reduceEqDiff,reduceCtorEq,ad i d,ld s aD i d,fq,fN,fF,st,lr,aw,nz,fY,ga,ad _ dI,ld h8 dM _ dI];refine TC.intro PJ ⟨Tryz.func91,rfl,WY⟩ (Ls K (l.getD i 0) (l.getD ((i+1)%l.length) 0) h8) ?_;rintro x h9 w9 ⟨rfl,bh⟩;obtain⟨dS,hW,hY,gf,gg,dT,hZ,h0,dV,bI⟩:=(fV.le bh).push w9 (GW (l.getD i 0) (l.getD ((i+1)%l.length) 0)) (rt_b J bF);obtain⟨ec,gi⟩:=dV R (dM.trans bh) cz;obtain⟨ed,ee⟩:=bI B _ (bh.own _ _ fU) cC;obtain⟨ef,eg⟩:=bI O _ (bh.own _ _ fP) bb;rw[<-dL]at dT;simp only[HO,Nat.reduceLT,↓reduceIte,Nat.reduceEqDiff,reduceCtorEq,gf,gg,aw];exact tn (l.length-(i+1)) [(1,.pointer (some ⟨B1,0,none⟩)),(5,M),(7,.pointer (some ⟨B,0,none⟩)),(8,dS),(45,M),(46,.int .i64 (l.length:Nat)),(47,.int .i64 (i+1:Nat))] (JS d) fD
   ⟨i+1,dS,rfl,d,rfl,ed,ef,ec,dT,gi,ee,eg⟩
 have br:l.length<=i:=vp hf;rw[AE br]at oO;rw[AE (by grind [F9])]at gw;clear br hf hi;refine Uy ?_;have cM:l.length<=100000:=Tn J NH;refine TC.intro PJ ⟨Tryz.func69,rfl,WY⟩ (CH K gw (by rw[F9];exact cM) (ring_bd Rg hR NH)) ?_;rintro x bx gj ⟨rfl,gs,C⟩;have kw:∀b o,s.own b=some o->blk wv≠some b->bx.own b=some o:=fun b o ho hb=>
  (C (rem (bl wv) s) (Sa _ _) fun c hc=>by grind [DC,Zr]).own _ _ (Th.2 ⟨ho,fun m=>hb (Zr.1 m)⟩)
 have bW:=kw B _ oB cC;have b0:=kw O _ oO bb;have aH:=C R aD cz;refine Uy ?_;refine TC.intro PJ ⟨TX,rfl,WY⟩ (QY K M (kz l) bx (a8.le aH).rl (by rw[y6];exact cM)) ?_;rintro cN eh gk ⟨ei,ej,cU⟩;refine Uy ?_;refine TC.intro PJ ⟨Gm,rfl,WY⟩ (Wk K cN (kz l) eh ei (by rw[y6];exact cM)) ?_;rintro x V ic ⟨c0,ek,gn⟩;have aJ:=ek bx ej cU;have gq:(kz l).reverse=kz l.reverse:=by simp[kz]
 rw[gq]at c0;have b2:=aJ.own _ _ bW;have b3:=aJ.own _ _ b0;have b4:=aH.trans aJ;have hX:∀b∈[B,O],R.own b=none:=fun b hb=>by grind
 have W:Le R (rem [B,O] V):=le_rem _ b4 hX;have en:∀b,blk cN=some b->b∉[B,O]:=fun b hb m=>by
  have:=cU b hb
  grind
 have eo:∀b,blk wv=some b->b∉[B,O]:=fun b hb m=>by grind
 have b6:GI (rem [B,O] V) cN (kz l.reverse):=GS.Fi c0 en;have b8:GP (rem [B,O] V) wv (sortP (ZH l)):=GS.Fi (GP.le gs aJ) eo;have b9:=a8.le W;have ZA:(tV (List.replicate n false) l).length=n:=by
  have:∀(w:II) (o:List Bool),(tV o w).length=o.length:=fun w=>by
   induction w with
   |nil=>intro o;rfl
   |cons x w ih=>grind [tV,List.length_set]
  grind
 have S0:lx (rem [B,O] V) V B O n (Zh n es) bv rW rW rW [] [] [] (tV (List.replicate n false) l) [] [] []:={
  f:=⟨b2⟩
  oO:=b3
  ZA:=ZA
  gF:=GS.nil _ _
  uL:=rfl
  u1:=rfl
  gI:=GS.nil _ _
  wL:=rfl
  w1:=rfl
  gL:=GS.nil _ _
  cuL:=.inl rfl
  c1:=rfl
  sep:=⟨fun i j u w b ij hu hw hb=>by
    have:u=rW:=by
     have:=Gc hu;grind
    grind [blk],fun i u b hu hb=>by
    grind [blk],fun i u hu b hb=>by grind [blk],Sa _ _⟩
  gB:=by grind [DC]
  gO:=by grind [DC]
  bO:=fp
  nb:=fun u hu=>by grind [blk]
  cF:=fun i u f hu=>by simp at hu
  cI:=fun i u f hu=>by simp at hu
  cL:=fun i p hp=>by simp at hp
  cB:=r.le (Nn.RL Nn.RP) W}
 generalize rem [B,O] V=ep at*;have et:Le h ep:=((dm.trans z).trans av).trans W;have gA:=A ep ((z.trans av).trans W);clear oB oO aD gw cz cC bb gs C kw ei ej cU c0 ek gn b2 b3 bW b0 aJ b4 aH en eo hX gj gk ay;clear bx eh s;refine Uy ?_;have eu:∀x∈l,x<n:=fun x hx=>Rg.lt hR hx;refine TC.intro PJ ⟨Tryz.func95,rfl,WY⟩ (IU K S0 b9.rl eu NH (Tn J NH) Ma) ?_;rintro x il ix ⟨iD,iF,iK,iL,iM,S1,ew⟩;refine Uy ?_;refine TC.intro PJ ⟨Tryz.func95,rfl,WY⟩ (IU K S1 ((b6.le ew).rl) (f:=l.reverse) (fun x hx=>eu x (wI.1 hx)) NH (by rw[Ah];exact Tn J NH) Ma) ?_;rintro x gu iT ⟨iW,aK,aP,gv,gx,S2,gz⟩;have T:=ew.trans gz;simp only[Q9,qL197]at S2;have ey:=A gu ((((z.trans av).trans W).trans T).trans S2.le);have cc:=b8.le T;have cd:=(cm.le (av.trans W)).le T;obtain⟨gC,c3⟩:=S2.pV;refine Sk ey.1 ?_;refine TC.intro PJ ⟨Tryz.func96,rfl,WY⟩ (S2.side (iN K _ wv ⟨(n:Int),es⟩ (sortP (ZH l)) _ ⟨ev,rfl,cd.le c3⟩ (cc.le c3).pr (by rw[ZS,F9];exact Tn J NH))) ?_;rintro x gE gJ ⟨c4,⟨c5,e2,rfl,G⟩,S3,c9,eA,gM⟩;have eB:=Rg.web hR;simp only[yY]at G;rcases G with⟨q,-⟩|⟨-,q,-⟩|⟨-,-,rfl,L,hT,bB⟩
 .exact absurd hr q
 .exact absurd eB q
 rw[Rt hR hA.nodup hT (uY (n:=n) (on:=Qw n (sortP (ZH l))) (es:=es))]at bB;have I0:=Rg.start hR hA (L:=MF n (Qw n (sortP (ZH l))) es) uY;have eC:RB n es=Mw n es l (MF n (Qw n (sortP (ZH l))) es):=by unfold RB;rw[cq]
 rw[eC];have eE:=I0.Vw;have cf:(Mw n es l (MF n (Qw n (sortP (ZH l))) es)).on=tV (List.replicate n false) l:=rfl;have cg:(Mw n es l (MF n (Qw n (sortP (ZH l))) es)).Jv=[l,l.reverse]:=rfl;have aT:(Mw n es l (MF n (Qw n (sortP (ZH l))) es)).left=(LJ n es (sortP (ZH l)) (MF n (Qw n (sortP (ZH l))) es)).map fun f=>⟨f.zp,f.Fm,zh [l,l.reverse] f.Fm [0,1]⟩:=rfl;have da:∀f∈LJ n es (sortP (ZH l)) (MF n (Qw n (sortP (ZH l))) es),(∀x∈f.Fm,∃v:Nat,x=(v:Int)/\v<n)/\f.Fm.length<=n:=fun f hf=>by
  have hm:(⟨f.zp,f.Fm,zh [l,l.reverse] f.Fm [0,1]⟩:wW)∈(Mw n es l (MF n (Qw n (sortP (ZH l))) es)).left:=pw;exact⟨I0.fS hR hm,I0.UO hR hm⟩
 rw[aT,im]at eE;rw[cf,cg,aT];generalize LJ n es (sortP (ZH l)) (MF n (Qw n (sortP (ZH l))) es)=C at*;have gP:=bB.len;have eF:=sB B 5 NH;have hP:Le h c4:=(et.trans T).trans (c3.trans eA);clear cf cg aT eC I0 hT S2 gC S1 S0 A A6 ey fT dq cc cd gA b8 b6 cm cp b9;refine Sk gP ?_;refine gU.intro (fun k fr s=>∃(i:Nat) (g:AHeap) (cs:List Value) (Y:Value),k=C.length-i/\i<=C.length/\fr=mkF [(7,.pointer (some ⟨B,0,none⟩)),(90,c5),(91,.int .i64 (C.length:Nat)),(92,.int .i64 (i:Nat))]/\
   lx g s B O n (Zh n es) bv aK aP Y gv gx cs (tV (List.replicate n false) l) [l,l.reverse] [l,l.reverse] ((C.take i).map fun f=>⟨f.zp,f.Fm,zh [l,l.reverse] f.Fm [0,1]⟩)/\Le c4 g)
  C.length [(7,.pointer (some ⟨B,0,none⟩)),(90,c5),(91,.int .i64 (C.length:Nat)),(92,.int .i64 (0:Nat))] fD
  ⟨0,c4,[],rW,rfl,vZ _,rfl,S3,Le.refl _⟩ ?_
 clear S3 gJ c9 gM;clear gE;rintro k fr s ay ⟨i,g,cs,Y,rfl,hi,rfl,S,lg⟩;refine Uy ?_;refine Kl.intro (fun ht=>?_) (fun hf=>?_)
 .have d : i < C.length := CC ht
  clear ht;have gR:=BS d;obtain⟨a',b',db,ra,rb⟩:=bB.load gR;have gT:=bB.addr (k:=.i64) i d;obtain⟨gV,eG⟩:=da _ (EP d);have cE:C.take (i+1)=C.take i++[C[i]]:=EL d;generalize C[i]=f at*;have db:=db s (lg.trans S.le);have ra:=ra.le lg;have rb:=rb.le Nn.RP lg;obtain⟨iX,dc,hd,hj,hl,hn,nQ,oQ⟩:=new41' ay ra.sl rb.sl
  have dQ:s.next∉B::O::(bl aK++bl aP++bl Y):=fun m=>(S.own (HX.1 m)).2 nQ
  have eI:=S.up hl
  generalize s.next=Q at*
  obtain⟨eL,hy,dd,iY,hz⟩:=Tt hn [.int .i64 0,.int .i64 1];have mk:=Fb dc 0 1;rw[hy]at mk;have aW:=eI.up dd
  have hC:RL RP eL (.slice (some ⟨dc.next,0,none⟩) 2 2) (kz [0,1]):=RL.Wh (RS.whole hz rfl)
  have eM:=eX (dd.own _ _ oQ);have eO:=eX oQ;have eS:=aW.f;have aw:=Tw i (Lb d (QJ NH));refine Sk (xU gT db hd hj) ?_;refine gh (tA [0,1,2,3,4,5,6,7,8,9,10,11] (JQ 12 [] (JQ 13 [9,11,12] (tA [14] (JQ 15 [14] (JQ 16 [4,13,15] (tA [17,18] (JQ 19 [0,1,2,3,4,5,6,7,8,9,10,11,12,13,14,15,16,18] .done)))))))) ?_;simp only[HO,Nat.reduceLT,↓reduceIte,Nat.reduceEqDiff,reduceCtorEq,Nat.reduceBEq,Qg,eF,ff0,ff1,Ip,XJ,eI.f.l5,eS.l5,eO.2.1,eO.2.2,eM.2.1,eM.2.2,mk]
  refine VA.intro PJ ⟨Md,rfl,WY⟩ (NR K B n bv _ aK aP Y b' (.slice (some ⟨dc.next,0,none⟩) 2 2) [l,l.reverse] f.Fm [0,1] eL eS aW.rlI ((rb.le Nn.RP aW.le)) hC gV Ma (sr eG bF) Ma) ?_
  rintro y de hD ⟨eT,eU,hE⟩;have ck:=eU.own _ _ (dd.own _ _ oQ);have eV:=eX ck;have hF:(Hg de B O aK aP Y).own Q=some (.cells [a',b']):=by grind [Hg,DC]
  obtain⟨dj,aX⟩:=(aW.up eU).pV;have gy:GI (Hg de B O aK aP Y) y (kz (zh [l,l.reverse] f.Fm [0,1])):=Pv (h:=de) aW eT hE;obtain⟨hG,ja,jb,jg,hI,hJ,hK,ji,jj,eW,hL,eZ⟩:=dj.pushL hD (a:=a') (b:=b') (c:=y) (p:=⟨f.zp,f.Fm,zh [l,l.reverse] f.Fm [0,1]⟩) (ra.le aX) (rb.le Nn.RP aX) gy.rl (tk_b eE dk _);have e0:=eX (eW.own _ _ ck);have e1:=eX (eZ.own _ _ hF);have hM:=dj.f.le eW;have aq:=pN ra.sl rb.sl eT.rl.sl;simp only[HO,Nat.reduceLT,↓reduceIte,Nat.reduceEqDiff,reduceCtorEq,Nat.reduceBEq,Qg,eF,ff0,ff1,Ip,XJ,dj.f.l5,hM.l5,hL.l5,eV.2.1,eV.2.2,e0.2.1,e0.2.2,e1.2.1,e1.2.2,aq,hI,hJ,hK,aw];refine tn (C.length-(i+1)) [(7,.pointer (some ⟨B,0,none⟩)),(90,c5),(91,.int .i64 (C.length:Nat)),(92,.int .i64 (i+1:Nat))] (JS d) fD
   ⟨i+1,_,cs++[a',b',y],hG,rfl,d,rfl,?_,lg.trans aX⟩
  grind
 have br:C.length<=i:=vp hf;rw[AE br]at S;refine Uy ?_
 grind [Le.trans]
end
end Go.Fw
