/- A text. -/
import Derived.Test.YtkccdnmaaelbiaaGreatFwLJ19
set_option linter.all false
set_option maxRecDepth 99999
set_option maxHeartbeats 9999999
namespace Go.Fw
section
attribute [local instance] Classical.propDecidable
attribute [local irreducible] Kp MQ lU rS KO KN KX KE VK Kl ZJ TC gU
open Go.Proofs
variable {O i k m n:Nat} {bv:Value} {es:List Pr} {g h:AHeap} {l:II}
def box77 (h:AHeap) {n:Int} (hb:xO bv k):aBuild Tryz.prog 77 [(0,.int .i64 n),(1,bv),(2,.slice (some ⟨O,0,none⟩) m m)]=some (.agg #[.int .i64 n,bv,.slice (some ⟨O,0,none⟩) m m,rW,rW,rW])/\
  zF h (.agg #[.int .i64 n,bv,.slice (some ⟨O,0,none⟩) m m,rW,rW,rW])=some (.pointer (some ⟨h.next,0,none⟩),h.alloc (.cells [.int .i64 n,bv,.slice (some ⟨O,0,none⟩) m m,rW,rW,rW])):=by
 obtain⟨_,_,rfl,_⟩:=hb;exact⟨by kernel_rfl,by kernel_rfl⟩
theorem RO (hi:i<l.length):(ZH l).take (i+1)=(ZH l).take i++[GW l[i] (l.getD ((i+1)%l.length) 0)]:=by grind [ZH,List.take_succ_eq_append_getElem]
theorem F9 (l:II):(ZH l).length=l.length:=by simp[ZH]
theorem ring_bd (R:Ho n es l) (hR:aV n es) (d:n<=200):∀p∈ZH l,∃a b:Nat,p=((a:Int),(b:Int))/\a<1000/\b<1000:=fun p c=>by
 obtain⟨a,b,rfl,e,h2⟩:=jB hR (R.ik hR c)
 grind
theorem eP (R:Ho n es l) (hR:aV n es):l.length<=n:=by
 have:=tf R.nd (B:=List.range n) fun v a=>fR.2 (R.lt hR a)
 grind
theorem rt_b (h:l.length<=n) (h2:(n:Int)<=200):((ZH l).take i).length+1<=100000:=by grind [F9]
theorem tk_b {a:List FM} (h:a.length<=m) (b:m<=594) (F:FM->wW):((a.take i).map F).length<=100000:=pw
def pN {a b c:Value} (ha:xO a n) (hb:xO b m) (d:xO c k):aBuild Tryz.prog 125 [(0,a),(1,b),(2,c)]=some (.agg #[a,b,c]):=by
 obtain⟨_,_,rfl,_⟩:=ha;obtain⟨_,_,rfl,_⟩:=hb;obtain⟨_,_,rfl,_⟩:=d;kernel_rfl
def le_rem (X:II) (l:Le g h) (a:∀b∈X,g.own b=none):Le g (rem X h):=l.iV a
theorem Si (K:LA) (ev:Value) (n:Nat) (es:List Pr) (h:AHeap) (hp:PR h ev es) (hc:Ov 2 ev) (hr:bX ⟨(n:Int),es⟩) (T2:zW n es):
  AC Tryz.prog K 52 [.agg #[.int .i64 n,ev]] h fun x h'=>∃g' B O bv fv iv M us ws cs,x=.pointer (some ⟨B,0,none⟩)/\Le h g'/\
   lx g' h' B O n (Zh n es) bv fv iv M us ws cs (RB n es).on (RB n es).Jv (RB n es).Jv (RB n es).left/\Ho n es (zl n es):=by
 have hR:=hr.GD;have hA:=hr.q9;have br:(n:Int)<=200:=hr.n1;have db:es.length<=594:=hr.len;obtain⟨p0,rest,ag⟩:=Gw (T2.es_ne hR);obtain⟨a,b,rfl,hE,hb⟩:=jB hR (show p0∈es by grind);have eT:es.drop 1=rest:=by rw[ag];rfl
 have eU:bX ⟨(n:Int),rest⟩:=by grind [bX.tail]
 have aj:Pu rest b a:=T2.less hR NH hb NH fun x y eV hF=>by
  rcases eV with h|h
  .rw [ag] at h
   rcases Z6.1 h with e|h
   .grind
   .exact .inl h
  .rw [ag] at h
   rcases Z6.1 h with e|h
   .grind
   .exact .inr h
 have hG:rest.length<=594:=pw;refine AC.vE ⟨Tryz.func52,rfl,WY⟩ Tryz.ntmps52 Tryz.results52 fun eW=>?_;simp only[Br,Nat.reduceAdd];obtain⟨h1,b1,dc,eZ,-,A⟩:=r8 (n:=(n:Int)) eW hp
 generalize h.next=B1 at*
 have dd:=A h1 (Le.refl _);have aT:=hp.le dc;have de:=aT.addr (k:=.i64) 0 pw;have e0:=aT.load (i:=0) (p:=((a:Int),(b:Int))) (by rw[ag];rfl);obtain⟨h2,h3,e2,e3,l3,w3,o3⟩:=Ut eZ ((a:Int),(b:Int))
 generalize h1.next=E at*
 have fT:=A h3 l3;simp only[dU]at de;refine Sk (xL b1 @Di @Ip.eq_1 @BS dd.2.2 de e0 e2 e3) ?_;have e1:=aT.le l3;obtain⟨rv,N,H,-⟩:=e1.cut hc (i:=1) pw;rw[eT]at H;simp only[jO]at N;apply Ya (F:=fun(fr:aaa) (h5:AHeap)=>∃(X:Nat) (cv:Value),Fj fr [(1,.pointer (some ⟨B1,0,none⟩)),(3,.pointer (some ⟨E,0,none⟩)),(4,.pointer (some ⟨X,0,none⟩))]/\Le h3 h5/\WF h5/\PR h5 cv rest/\∀g,Le h5 g->aload Tryz.prog g 24 ⟨X,0,none⟩=some (.agg #[.int .i64 n,cv]))
 .intro cont
  refine gh (tA [0,1,2,3,4] (.ch 5 [4] (tA [6] (JQ 7 [] (JQ 8 [0,1,2,3,4,5,6,7] .done))) (JQ 7 [] (JQ 5 [4] (tA [6] (JQ 8 [0,1,2,3,4,5,6,7] .done)))))) ?_
  have e4:∃g,h3.alloc (.cells [.int .i64 0,.slice none 0 0])=g/\Le h3 g/\WF g/\g.own h3.next=some (.cells [.int .i64 0,.slice none 0 0]):=Tt w3 _
  obtain⟨q1,y1,m1,v1,u1⟩:=e4
  have aW:aAlloc Tryz.prog h3 24=some (.pointer (some ⟨h3.next,0,none⟩),q1):=by rw[Lo,y1]
  have Q1:=A q1 (l3.trans m1);simp only[qj,Nat.reduceLT,↓reduceIte,Nat.reduceEqDiff,reduceCtorEq,Nat.reduceBEq,Qg,Ii,Di,Ip,BS,fT.2.1,fT.2.2,N,aW,Q1.2.1,Q1.2.2];refine⟨?_,?_⟩
  .refine VA.intro PJ ⟨Tryz.func72, rfl, WY⟩ (DA K rv rest h3 H NH) ?_
   rintro cv h4 w4 ⟨gc,l4,-⟩;have A4:=A h4 (l3.trans l4);have aq:=Wj (n:=(n:Int)) gc.pr.sl;obtain⟨h5,D,a5,s5,l6,w6,lG⟩:=newG (n:=(n:Int)) w4 gc.pr;have A5:Le h4 h5:=by grind [Lo,Le.refl,Le.alloc]
   have A5:=A h5 ((l3.trans l4).trans A5);have A6:=A D ((l3.trans l4).trans l6);simp only[qj,Nat.reduceLT,↓reduceIte,Nat.reduceEqDiff,reduceCtorEq,Nat.reduceBEq,Qg,Ii,Di,Ip,BS,A4.2.1,A4.2.2,N,aq,a5,s5,A5.2.1,A5.2.2,A6.2.1,A6.2.2];refine KN.UJ fun fr' h' x y=>cont fr' h' ?_;subst x y;exact⟨_,cv,fD,l4.trans l6,w6,gc.pr.le l6,fun g l=>(lG g l).1⟩
  .refine VA.intro PJ ⟨Tryz.func72, rfl, WY⟩ (DA K rv rest q1 (H.le m1) NH) ?_
   rintro cv h4 w4 ⟨gc,l4,ac⟩;have A4:=A h4 ((l3.trans m1).trans l4);have aq:=Wj (n:=(n:Int)) gc.pr.sl
   have nX:blk cv≠some h3.next:=fun e=>by have:=ac _ e;rw[u1]at this;cases this
   have oX:=l4.own _ _ u1
   have n1:h3.own h3.next=none:=(Le.refl h3).next w3 (vT _)
   have one:=gc.pr.sl.one;have bx:UA Tryz.prog 24=2:=Ji;have e5:(Value.agg #[.int .i64 (n:Int),cv]).cells=#[.int .i64 (n:Int),cv]:=rfl;have e6:(Value.int IntKind.i64 (n:Int)).oneCell'=true:=rfl
   have st:aStore Tryz.prog h4 24 (.pointer (some ⟨h3.next,0,none⟩)) (.agg #[.int .i64 (n:Int),cv])=some (h4.put h3.next (.cells [.int .i64 (n:Int),cv])):=by simp[aStore,oX,e5,bx,putCells,KT,one,e6]
   have ho:(h4.put h3.next (.cells [.int .i64 (n:Int),cv])).own h3.next=some (.cells [.int .i64 (n:Int),cv]):=AHeap.Y3 _ _ _
   have l5:Le h3 (h4.put h3.next (.cells [.int .i64 (n:Int),cv])):=(m1.trans l4).put _ n1
   have A5:=A _ (l3.trans l5);simp only[qj,Nat.reduceLT,↓reduceIte,Nat.reduceEqDiff,reduceCtorEq,Nat.reduceBEq,Qg,Ii,Di,Ip,BS,A4.2.1,A4.2.2,N,aq,st,A5.2.1,A5.2.2];refine KN.UJ fun fr' h' x y=>cont fr' h' ?_;subst x y
   exact⟨h3.next,cv,fD,l5,w4.put _ (w4.lt oX),GP.pr (GS.put gc _ nX),fun g l=>by rw[Wx KT rfl bx (l.own _ _ ho) Ma];rfl⟩
 rintro fr h5 ⟨X,cv,G,dj,w5,dk,lX⟩;simp only[Fj]at G;obtain⟨f1,f3,f4,-⟩:=G;have dm:=dj.own _ _ o3;refine Sk (Pj f1 f3 f4 (lX h5 (Le.refl _)) @Dh @Z0 @Ip.eq_1 @BS (lK dm) (HY dm)) ?_;refine TC.intro PJ ⟨Tryz.func90,rfl,WY⟩ (NL K _ ⟨(n:Int),rest⟩ (a:Int) (b:Int) h5 ⟨cv,rfl,dk⟩) ?_;rintro x D w6 ⟨l6,M,er,rfl,hC,I⟩;simp only[yY]at I;obtain⟨k1,k2⟩:=I eU NH NH NH NH;obtain⟨gl,al,dq⟩:=k2 (k1.2 aj);obtain⟨e7,Rg⟩:=JM hr ag dq aj;rw[e7]at gl;have z:=(l3.trans dj).trans l6;have A6:=A D z;have cf:=aT.le z;have cg:GR D (.agg #[.int .i64 (n:Int),ev]) ⟨(n:Int),es⟩:=⟨ev,rfl,cf⟩;generalize ck:zl n es=l at*;have J:=eP Rg hR;have e8:er=0:=k1.2 aj;subst e8;refine Sk f1 ?_;clear I k1 k2 lX dk;apply Ya (F:=fun(fr:aaa) (h9:AHeap)=>∃(B O:Nat) (bv:Value) (R:AHeap),Fj fr [(1,.pointer (some ⟨B1,0,none⟩)),(5,M),(7,.pointer (some ⟨B,0,none⟩))]/\WF h9/\h9.own B=some (.cells [.int .i64 (n:Int),bv,.slice (some ⟨O,0,none⟩) n n,rW,rW,rW])/\h9.own O=some (.cells (Bo (List.replicate n false)))/\B≠O/\Le D R/\R.own B=none/\R.own O=none/\Le R h9/\RL (RL RP) R bv (Zh n es))
 .intro cont
  have bo:Bo (List.replicate n false)=List.replicate n (.bool false):=by simp[Bo]
  obtain⟨q1,y1,m1,v1,u1⟩:=Tt w6 (List.replicate n (.bool false));have aW:=PO D n NH;rw[y1]at aW;have Q1:=A q1 (z.trans m1);refine gh (tA [0,1,2,4,5] (.ch 3 [2] (JQ 6 [5] (tA [7] (JQ 8 [7] (tA [9] .done)))) (JQ 6 [5] (JQ 3 [2] (tA [7] (JQ 8 [7] (tA [9] .done))))))) ?_;simp only[qj,Nat.reduceLT,↓reduceIte,Nat.reduceEqDiff,reduceCtorEq,Nat.reduceBEq,Qg,f1,Ii,Ip,BS,A6.1,A6.2.1,aW,Q1.1,Q1.2.1];refine⟨?_,?_⟩
  .refine VA.intro PJ ⟨zC, rfl, WY⟩ (oe K _ n es D cg hr) ?_
   rintro bv Z w7 ⟨r,l7⟩;have A7:=A Z (z.trans l7);obtain⟨h8,y8,l8,w8,o8⟩:=Tt w7 (List.replicate n (.bool false));have dw:=PO Z n NH;rw[y8]at dw;have A8:=A h8 ((z.trans l7).trans l8)
   obtain⟨cm,ar⟩:=box77 h8 (n:=(n:Int)) (O:=Z.next) (m:=n) r.sl
   obtain⟨h9,y9,l9,w9,o9⟩:=Tt w8 [.int .i64 (n:Int),bv,.slice (some ⟨Z.next,0,none⟩) n n,rW,rW,rW]
   rw[y9]at ar;have A9:=A h9 (((z.trans l7).trans l8).trans l9);simp only[qj,Nat.reduceLT,↓reduceIte,Nat.reduceEqDiff,reduceCtorEq,Nat.reduceBEq,Qg,f1,Ii,Ip,BS,A7.1,A7.2.1,A8.1,A8.2.1,A9.1,A9.2.1,dw,cm,ar];refine KN.UJ fun fr' h' x y=>cont fr' h' ?_;rw[x,y]
   exact⟨h8.next,Z.next,bv,Z,(by simp only[Fj,HO,Nat.reduceLT,↓reduceIte,Nat.reduceEqDiff,reduceCtorEq,f1];simp),w9,o9,by rw[bo];exact l9.own _ _ o8,fun e=>by have:=w8.lt o8;omega,l7,l8.next w8 (vT _),(Le.refl Z).next w7 (vT _),l8.trans l9,r⟩
  .have hk : Le D (q1.kill D.next) := m1.Oo ((Le.refl D).next w6 (vT _))
   refine VA.intro PJ ⟨zC,rfl,WY⟩ (AC.frame u1 (oe K _ n es (q1.kill D.next) (cg.le hk) hr)) ?_
   rintro bv Z w7 ⟨g7,⟨r,l7⟩,dx,rfl⟩;have cp:=hk.trans l7;have aX:=Le.Y5 dx (.cells (List.replicate n (.bool false)))
   have o7:(g7.put D.next (.cells (List.replicate n (.bool false)))).own D.next=some (.cells (List.replicate n (.bool false))):=AHeap.Y3 _ _ _
   generalize g7.put D.next (.cells (List.replicate n (.bool false)))=Z at*
   have A7:=A Z ((z.trans cp).trans aX)
   obtain⟨cm,ar⟩:=box77 Z (n:=(n:Int)) (O:=D.next) (m:=n) r.sl
   obtain⟨h9,y9,l9,w9,o9⟩:=Tt w7 [.int .i64 (n:Int),bv,.slice (some ⟨D.next,0,none⟩) n n,rW,rW,rW]
   rw[y9]at ar;have A9:=A h9 (((z.trans cp).trans aX).trans l9);simp only[qj,Nat.reduceLT,↓reduceIte,Nat.reduceEqDiff,reduceCtorEq,Nat.reduceBEq,Qg,f1,Ii,Ip,BS,A7.1,A7.2.1,A9.1,A9.2.1,cm,ar];refine KN.UJ fun fr' h' x y=>cont fr' h' ?_;rw[x,y]
   exact⟨Z.next,D.next,bv,g7,(by simp only[Fj,HO,Nat.reduceLT,↓reduceIte,Nat.reduceEqDiff,reduceCtorEq,f1];simp),w9,o9,by rw[bo];exact l9.own _ _ o7,fun e=>by have:=w7.lt o7;omega,cp,aX.next w7 (vT _),dx,aX.trans l9,r⟩
 rintro fr h9 ⟨B,O,bv,R,G,w9,oB,oO,e9,av,gB,gO,dz,r⟩;simp only[Fj]at G;obtain⟨f1,f5,f7,-⟩:=G;have a1:=gl.le av;have hI:=al;have lr:∀g,aLen Tryz.prog g 49 M=some (.int .i64 (l.length:Nat)):=fun g=>by
  have:=gl.rl.Uc g
  grind [y6]
 have fb:=sB B 2 NH;simp only[HO,Nat.reduceLT,↓reduceIte,Nat.reduceEqDiff,reduceCtorEq,f5,lr];refine gU.intro (fun k fr s=>∃(i:Nat) (wv:Value),k=l.length-i/\i<=l.length/\fr=mkF [(1,.pointer (some ⟨B1,0,none⟩)),(5,M),(7,.pointer (some ⟨B,0,none⟩)),(8,wv),(45,M),(46,.int .i64 (l.length:Nat)),(47,.int .i64 (i:Nat))]/\
   s.own B=some (.cells [.int .i64 (n:Int),bv,.slice (some ⟨O,0,none⟩) n n,rW,rW,rW])/\s.own O=some (.cells (Bo (tV (List.replicate n false) (l.take i))))/\Le R s/\GP s wv ((ZH l).take i)/\Z2 R wv/\blk wv≠some B/\blk wv≠some O)
  l.length [(1,.pointer (some ⟨B1,0,none⟩)),(5,M),(7,.pointer (some ⟨B,0,none⟩)),(8,rW),(45,M),(46,.int .i64 (l.length:Nat)),(47,.int .i64 (0:Nat))] (by simp only[Fj,HO,Nat.reduceLT,↓reduceIte,Nat.reduceEqDiff,reduceCtorEq,f1,f5,f7];simp)
  ⟨0,_,rfl,qy _,rfl,oB,oO,dz,GP.nil _,fun b hb=>by grind [blk],by simp[blk],by simp[blk]⟩ ?_
 clear f1 f5 f7 oB oO dz w9;clear h9;rintro k fr s ay ⟨i,wv,rfl,hi,rfl,oB,oO,aC,gw,cq,cr,a6⟩;refine Uy ?_;refine Kl.intro (fun ht=>?_) (fun hf=>?_)
 .have d : i < l.length := CC ht
  clear ht;have fc:=a1.le aC;have ad:∀q,q<l.length->aIndexAddr Tryz.prog 49 M (.int .i64 (q:Int))=some (.pointer (some (elemAddr M q))):=fun q U=>fc.rl.TA q (by rw[y6];exact U);have ld:∀g,Le R g->∀q (U:q<l.length),aload Tryz.prog g 3 (elemAddr M q)=some (.int .i64 ((l.getD q 0:Nat):Int)):=fun g lg q U=>by rw[(a1.le lg).rl.DH q (by rw[y6];exact U),sY U,D4 U]
  have dA:(i+1)%l.length<l.length:=Cg _ NH;have hv:l.getD i 0<n:=by rw[D4 d];exact Rg.lt hR (VU d)
  have cx:l.take (i+1)=l.take i++[l[i]]:=EL d;have dB:=RO d;have fe:l.getD i 0=l[i]:=D4 d;rw[<-fe]at dB cx;have fg:aIndexAddr Tryz.prog 59 (.slice (some ⟨O,0,none⟩) n n) (.int .i64 ((l.getD i 0:Nat):Int))=some (.pointer (some ⟨O,l.getD i 0,none⟩)):=by rw[Wc eY AV Ji _ hv];simp[Ip]
  have ZA:(tV (List.replicate n false) (l.take i)).length=n:=by
   have:∀(w:II) (o:List Bool),(tV o w).length=o.length:=fun w=>by
    induction w with
    |nil=>intro o;rfl
    |cons x w ih=>intro o;show(tV (o.set x true) w).length=_;grind
   grind
  have fh:(tV (List.replicate n false) (l.take i)).set (l.getD i 0) true=tV (List.replicate n false) (l.take (i+1)):=by rw[cx];unfold tV;grind
  have st:aStore Tryz.prog s 4 (.pointer (some ⟨O,l.getD i 0,none⟩)) (.bool true)=some (s.put O (.cells (Bo (tV (List.replicate n false) (l.take (i+1)))))):=by rw[QB (P:=Tryz.prog) (t:=4) (x:=.bool true) AV Ji oO (off:=l.getD i 0) (by rw[O2,ZA];exact hv) rfl rfl,Tr,fh]
  have fm:aload Tryz.prog s 59 ⟨B,2,none⟩=some (.slice (some ⟨O,0,none⟩) n n):=by rw[Fq eY rfl oB];rfl
  have w8:WF (s.put O (.cells (Bo (tV (List.replicate n false) (l.take (i+1)))))):=ay.put _ (ay.lt oO);have fp:(s.put O (.cells (Bo (tV (List.replicate n false) (l.take (i+1)))))).own O=some (.cells (Bo (tV (List.replicate n false) (l.take (i+1))))):=AHeap.Y3 _ _ _;have fq:(s.put O (.cells (Bo (tV (List.replicate n false) (l.take (i+1)))))).own B=some (.cells [.int .i64 (n:Int),bv,.slice (some ⟨O,0,none⟩) n n,rW,rW,rW]):=by grind [AHeap.By]
  have dE:Le R (s.put O (.cells (Bo (tV (List.replicate n false) (l.take (i+1)))))):=aC.put _ gO;have ft:GP (s.put O (.cells (Bo (tV (List.replicate n false) (l.take (i+1)))))) wv ((ZH l).take i):=GS.put gw _ a6;generalize s.put O (.cells (Bo (tV (List.replicate n false) (l.take (i+1)))))=h8 at*;have aw:=Tw i (Lb d (Db J NH));have nz:=Ww d;have fx:=Wt d;have fz:=Y7 (a:=i+1) (FI d) (Db J NH);simp only[HO,Nat.reduceLT,↓reduceIte,Nat.reduceEqDiff,reduceCtorEq,ad i d,ld s aC i d,fb,fm,fg,st,lr,aw,nz,fx,fz,ad _ dA,ld h8 dE _ dA];refine TC.intro PJ ⟨Tryz.func91,rfl,WY⟩ (Ls K (l.getD i 0) (l.getD ((i+1)%l.length) 0) h8) ?_;rintro x h9 w9 ⟨rfl,a7⟩;obtain⟨dF,hJ,hK,fF,fL,dI,hL,hM,dJ,bB⟩:=(ft.le a7).push w9 (GW (l.getD i 0) (l.getD ((i+1)%l.length) 0)) (rt_b J br);obtain⟨dL,fN⟩:=dJ R (dE.trans a7) cq;obtain⟨dM,dS⟩:=bB B _ (a7.own _ _ fq) cr;obtain⟨dT,dV⟩:=bB O _ (a7.own _ _ fp) a6;rw[<-dB]at dI;simp only[HO,Nat.reduceLT,↓reduceIte,Nat.reduceEqDiff,reduceCtorEq,fF,fL,aw];exact tn (l.length-(i+1)) [(1,.pointer (some ⟨B1,0,none⟩)),(5,M),(7,.pointer (some ⟨B,0,none⟩)),(8,dF),(45,M),(46,.int .i64 (l.length:Nat)),(47,.int .i64 (i+1:Nat))] (JS d) fD
   ⟨i+1,dF,rfl,d,rfl,dM,dT,dL,dI,fN,dS,dV⟩
 have a8:l.length<=i:=vp hf;rw[AE a8]at oO;rw[AE (by grind [F9])]at gw;clear a8 hf hi;refine Uy ?_;have cz:l.length<=100000:=Db J NH;refine TC.intro PJ ⟨Tryz.func69,rfl,WY⟩ (CH K gw (by rw[F9];exact cz) (ring_bd Rg hR NH)) ?_;rintro x bb fP ⟨rfl,gs,C⟩;have kw:∀b o,s.own b=some o->blk wv≠some b->bb.own b=some o:=fun b o ho hb=>
  (C (rem (bl wv) s) (Sa _ _) fun c hc=>by grind [DC,Zr]).own _ _ (Th.2 ⟨ho,fun m=>hb (Zr.1 m)⟩)
 have bF:=kw B _ oB cr;have bH:=kw O _ oO a6;have aD:=C R aC cq;refine Uy ?_;refine TC.intro PJ ⟨yq,rfl,WY⟩ (QY K M (aab l) bb (a1.le aD).rl (by rw[y6];exact cz)) ?_;rintro cC ec fU ⟨ed,ee,cE⟩;refine Uy ?_;refine TC.intro PJ ⟨XV,rfl,WY⟩ (Wk K cC (aab l) ec ed (by rw[y6];exact cz)) ?_;rintro x V hN ⟨cM,ef,fV⟩;have aH:=ef bb ee cE;have fY:(aab l).reverse=aab l.reverse:=by simp[aab]
 rw[fY]at cM;have bI:=aH.own _ _ bF;have bW:=aH.own _ _ bH;have b0:=aD.trans aH;have hX:∀b∈[B,O],R.own b=none:=fun b hb=>by grind
 have W:Le R (rem [B,O] V):=le_rem _ b0 hX;have eg:∀b,blk cC=some b->b∉[B,O]:=fun b hb m=>by
  have:=cE b hb
  grind
 have eh:∀b,blk wv=some b->b∉[B,O]:=fun b hb m=>by grind
 have b2:GI (rem [B,O] V) cC (aab l.reverse):=GS.Fi cM eg;have b3:GP (rem [B,O] V) wv (sortP (ZH l)):=GS.Fi (GP.le gs aH) eh;have b4:=a1.le W;have ZA:(tV (List.replicate n false) l).length=n:=by
  have:∀(w:II) (o:List Bool),(tV o w).length=o.length:=fun w=>by
   induction w with
   |nil=>intro o;rfl
   |cons x w ih=>grind [tV,List.length_set]
  grind
 have S0:lx (rem [B,O] V) V B O n (Zh n es) bv rW rW rW [] [] [] (tV (List.replicate n false) l) [] [] []:={
  f:=⟨bI⟩
  oO:=bW
  ZA:=ZA
  gF:=GS.nil _ _
  uL:=rfl
  u1:=rfl
  gI:=GS.nil _ _
  wL:=rfl
  w1:=rfl
  gL:=GS.nil _ _
  cuL:=.inl rfl
  c1:=rfl
  sep:=⟨fun i j u w b hP hu hw hb=>by
    have:u=rW:=by
     have:=Gc hu;grind
    grind [blk],fun i u b hu hb=>by
    grind [blk],fun i u hu b hb=>by grind [blk],Sa _ _⟩
  gB:=by grind [DC]
  gO:=by grind [DC]
  bO:=e9
  nb:=fun u hu=>by grind [blk]
  cF:=fun i u f hu=>by simp at hu
  cI:=fun i u f hu=>by simp at hu
  cL:=fun i p hp=>by simp at hp
  cB:=r.le (Nn.RL Nn.RP) W}
 generalize rem [B,O] V=ei at*;have ej:Le h ei:=((dc.trans z).trans av).trans W;have gA:=A ei ((z.trans av).trans W);clear oB oO aC gw cq cr a6 gs C kw ed ee cE cM ef fV bI bW bF bH aH b0 aD eg eh hX fP fU ay;clear bb ec s;refine Uy ?_;have ek:∀x∈l,x<n:=fun x hx=>Rg.lt hR hx;refine TC.intro PJ ⟨Tryz.func95,rfl,WY⟩ (IU K S0 b4.rl ek NH (Db J NH) Ma) ?_;rintro x hQ hS ⟨hU,hV,hW,hY,hZ,S1,en⟩;refine Uy ?_;refine TC.intro PJ ⟨Tryz.func95,rfl,WY⟩ (IU K S1 ((b2.le en).rl) (f:=l.reverse) (fun x hx=>ek x (wI.1 hx)) NH (by rw[sL];exact Db J NH) Ma) ?_;rintro x ga h0 ⟨ic,aJ,aK,gf,gg,S2,gi⟩;have T:=en.trans gi;simp only[Q9,QU]at S2;have eo:=A ga ((((z.trans av).trans W).trans T).trans S2.le);have b6:=b3.le T;have b8:=(cf.le (av.trans W)).le T;obtain⟨gj,cN⟩:=S2.pV;refine Sk eo.1 ?_;refine TC.intro PJ ⟨Tryz.func96,rfl,WY⟩ (S2.side (iN K _ wv ⟨(n:Int),es⟩ (sortP (ZH l)) _ ⟨ev,rfl,b8.le cN⟩ (b6.le cN).pr (by rw[ZS,F9];exact Db J NH))) ?_;rintro x gk gn ⟨cR,⟨cU,e2,rfl,G⟩,S3,c0,ep,gq⟩;have et:=Rg.web hR;simp only[yY]at G;rcases G with⟨q,-⟩|⟨-,q,-⟩|⟨-,-,rfl,L,hT,bh⟩
 .exact absurd hr q
 .exact absurd et q
 rw[Rt hR hA.nodup hT (uY (n:=n) (on:=Qw n (sortP (ZH l))) (es:=es))]at bh;have I0:=Rg.start hR hA (L:=MF n (Qw n (sortP (ZH l))) es) uY;have eu:RB n es=Mw n es l (MF n (Qw n (sortP (ZH l))) es):=by unfold RB;rw[ck]
 rw[eu];have ew:=I0.Vw;have b9:(Mw n es l (MF n (Qw n (sortP (ZH l))) es)).on=tV (List.replicate n false) l:=rfl;have cc:(Mw n es l (MF n (Qw n (sortP (ZH l))) es)).Jv=[l,l.reverse]:=rfl;have aL:(Mw n es l (MF n (Qw n (sortP (ZH l))) es)).left=(LJ n es (sortP (ZH l)) (MF n (Qw n (sortP (ZH l))) es)).map fun f=>⟨f.zp,f.Fm,zh [l,l.reverse] f.Fm [0,1]⟩:=rfl;have c3:∀f∈LJ n es (sortP (ZH l)) (MF n (Qw n (sortP (ZH l))) es),(∀x∈f.Fm,∃v:Nat,x=(v:Int)/\v<n)/\f.Fm.length<=n:=fun f hf=>by
  have hm:(⟨f.zp,f.Fm,zh [l,l.reverse] f.Fm [0,1]⟩:wW)∈(Mw n es l (MF n (Qw n (sortP (ZH l))) es)).left:=pw;exact⟨I0.fS hR hm,I0.UO hR hm⟩
 rw[aL,rY]at ew;rw[b9,cc,aL];generalize LJ n es (sortP (ZH l)) (MF n (Qw n (sortP (ZH l))) es)=C at*;have gu:=bh.len;have ey:=sB B 5 NH;have hD:Le h cR:=(ej.trans T).trans (cN.trans ep);clear b9 cc aL eu I0 hT S2 gj S1 S0 A A6 eo fT dd b6 b8 gA b3 b2 cf cg b4;refine Sk gu ?_;refine gU.intro (fun k fr s=>∃(i:Nat) (g:AHeap) (cs:List Value) (Y:Value),k=C.length-i/\i<=C.length/\fr=mkF [(7,.pointer (some ⟨B,0,none⟩)),(90,cU),(91,.int .i64 (C.length:Nat)),(92,.int .i64 (i:Nat))]/\
   lx g s B O n (Zh n es) bv aJ aK Y gf gg cs (tV (List.replicate n false) l) [l,l.reverse] [l,l.reverse] ((C.take i).map fun f=>⟨f.zp,f.Fm,zh [l,l.reverse] f.Fm [0,1]⟩)/\Le cR g)
  C.length [(7,.pointer (some ⟨B,0,none⟩)),(90,cU),(91,.int .i64 (C.length:Nat)),(92,.int .i64 (0:Nat))] fD
  ⟨0,cR,[],rW,rfl,qy _,rfl,S3,Le.refl _⟩ ?_
 clear S3 gn c0 gq;clear gk;rintro k fr s ay ⟨i,g,cs,Y,rfl,hi,rfl,S,lg⟩;refine Uy ?_;refine Kl.intro (fun ht=>?_) (fun hf=>?_)
 .have d : i < C.length := CC ht
  clear ht;have gv:=XJ d;obtain⟨a',b',c4,ra,rb⟩:=bh.load gv;have gx:=bh.addr (k:=.i64) i d;obtain⟨gz,ez⟩:=c3 _ (VU d);have cx:C.take (i+1)=C.take i++[C[i]]:=EL d;generalize C[i]=f at*;have c4:=c4 s (lg.trans S.le);have ra:=ra.le lg;have rb:=rb.le Nn.RP lg;obtain⟨ij,c5,gC,gE,gJ,gK,nQ,oQ⟩:=new41' ay ra.sl rb.sl
  have dQ:s.next∉B::O::(bl aJ++bl aK++bl Y):=fun m=>(S.own (HX.1 m)).2 nQ
  have eA:=S.up gJ
  generalize s.next=Q at*
  obtain⟨eB,gM,c6,il,gN⟩:=Tt gK [.int .i64 0,.int .i64 1];have mk:=mk2 c5 0 1;rw[gM]at mk;have aN:=eA.up c6
  have gP:RL RP eB (.slice (some ⟨c5.next,0,none⟩) 2 2) (aab [0,1]):=RL.Wh (RS.whole gN rfl)
  have eC:=eX (c6.own _ _ oQ);have eE:=eX oQ;have eF:=aN.f;have aw:=Tw i (Lb d (QJ NH));refine Sk (xU gx c4 gC gE) ?_;refine gh (tA [0,1,2,3,4,5,6,7,8,9,10,11] (JQ 12 [] (JQ 13 [9,11,12] (tA [14] (JQ 15 [14] (JQ 16 [4,13,15] (tA [17,18] (JQ 19 [0,1,2,3,4,5,6,7,8,9,10,11,12,13,14,15,16,18] .done)))))))) ?_;simp only[HO,Nat.reduceLT,↓reduceIte,Nat.reduceEqDiff,reduceCtorEq,Nat.reduceBEq,Qg,ey,ff0,ff1,Ip,BS,eA.f.l5,eF.l5,eE.2.1,eE.2.2,eC.2.1,eC.2.2,mk]
  refine VA.intro PJ ⟨aF,rfl,WY⟩ (NR K B n bv _ aJ aK Y b' (.slice (some ⟨c5.next,0,none⟩) 2 2) [l,l.reverse] f.Fm [0,1] eB eF aN.rlI ((rb.le Nn.RP aN.le)) gP gz Ma (sr ez br) Ma) ?_
  rintro y c9 gR ⟨eG,eI,gT⟩;have cd:=eI.own _ _ (c6.own _ _ oQ);have eL:=eX cd;have gV:(Hg c9 B O aJ aK Y).own Q=some (.cells [a',b']):=by grind [Hg,DC]
  obtain⟨da,aP⟩:=(aN.up eI).pV;have gy:GI (Hg c9 B O aJ aK Y) y (aab (zh [l,l.reverse] f.Fm [0,1])):=Pv (h:=c9) aN eG gT;obtain⟨hd,ix,iD,iF,hj,hl,hn,iH,iI,eM,hy,eO⟩:=da.pushL gR (a:=a') (b:=b') (c:=y) (p:=⟨f.zp,f.Fm,zh [l,l.reverse] f.Fm [0,1]⟩) (ra.le aP) (rb.le Nn.RP aP) gy.rl (tk_b ew db _);have eQ:=eX (eM.own _ _ cd);have eS:=eX (eO.own _ _ gV);have hz:=da.f.le eM;have aq:=pN ra.sl rb.sl eG.rl.sl;simp only[HO,Nat.reduceLT,↓reduceIte,Nat.reduceEqDiff,reduceCtorEq,Nat.reduceBEq,Qg,ey,ff0,ff1,Ip,BS,da.f.l5,hz.l5,hy.l5,eL.2.1,eL.2.2,eQ.2.1,eQ.2.2,eS.2.1,eS.2.2,aq,hj,hl,hn,aw];refine tn (C.length-(i+1)) [(7,.pointer (some ⟨B,0,none⟩)),(90,cU),(91,.int .i64 (C.length:Nat)),(92,.int .i64 (i+1:Nat))] (JS d) fD
   ⟨i+1,_,cs++[a',b',y],hd,rfl,d,rfl,?_,lg.trans aP⟩
  grind
 have a8:C.length<=i:=vp hf;rw[AE a8]at S;refine Uy ?_
 grind [Le.trans]
end
end Go.Fw
