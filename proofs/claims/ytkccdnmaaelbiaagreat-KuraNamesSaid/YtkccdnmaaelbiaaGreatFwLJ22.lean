/- A text. -/
import Derived.Test.YtkccdnmaaelbiaaGreatFwLJ19
set_option linter.all false
set_option maxRecDepth 99999
set_option maxHeartbeats 9999999
namespace Go.Fw
section
attribute [local instance] Classical.propDecidable
attribute [local irreducible] Kp MQ lU rS KO KN KX KE VK Kl ZJ TC aat
open Go.Proofs
variable {O i k m n:Nat} {bv:Value} {es:List Pr} {g h:AHeap} {l:II}
def box77 (h:AHeap) {n:Int} (hb:xO bv k):aBuild Tryz.prog 77 [(0,.int .i64 n),(1,bv),(2,.slice (some ⟨O,0,none⟩) m m)]=some (.agg #[.int .i64 n,bv,.slice (some ⟨O,0,none⟩) m m,rW,rW,rW])/\
  zF h (.agg #[.int .i64 n,bv,.slice (some ⟨O,0,none⟩) m m,rW,rW,rW])=some (.pointer (some ⟨h.next,0,none⟩),h.alloc (.cells [.int .i64 n,bv,.slice (some ⟨O,0,none⟩) m m,rW,rW,rW])):=by
 obtain⟨_,_,rfl,_⟩:=hb;exact⟨by kernel_rfl,by kernel_rfl⟩
theorem RO (hi:i<l.length):(ZH l).take (i+1)=(ZH l).take i++[GW l[i] (l.getD ((i+1)%l.length) 0)]:=by grind [ZH,List.take_succ_eq_append_getElem]
theorem F9 (l:II):(ZH l).length=l.length:=by simp[ZH]
theorem ring_bd (R:Ho n es l) (hR:aV n es) (d:n<=200):∀p∈ZH l,∃a b:Nat,p=((a:Int),(b:Int))/\a<1000/\b<1000:=fun p c=>by
 obtain⟨a,b,rfl,e,h2⟩:=jB hR (R.ik hR c)
 grind
theorem eP (R:Ho n es l) (hR:aV n es):l.length<=n:=by
 have:=tf R.nd (B:=List.range n) fun v a=>ZT.2 (R.lt hR a)
 grind
theorem rt_b (h:l.length<=n) (h2:(n:Int)<=200):((ZH l).take i).length+1<=100000:=by grind [F9]
theorem tk_b {a:List FM} (h:a.length<=m) (b:m<=594) (F:FM->wW):((a.take i).map F).length<=100000:=pw
def pN {a b c:Value} (ha:xO a n) (hb:xO b m) (d:xO c k):aBuild Tryz.prog 125 [(0,a),(1,b),(2,c)]=some (.agg #[a,b,c]):=by
 obtain⟨_,_,rfl,_⟩:=ha;obtain⟨_,_,rfl,_⟩:=hb;obtain⟨_,_,rfl,_⟩:=d;kernel_rfl
def le_rem (X:II) (l:Le g h) (a:∀b∈X,g.own b=none):Le g (rem X h):=l.iV a
theorem Si (K:LA) (ev:Value) (n:Nat) (es:List Pr) (h:AHeap) (hp:PR h ev es) (hc:okc 2 ev) (hr:bX ⟨(n:Int),es⟩) (T2:zW n es):
  AC Tryz.prog K 52 [.agg #[.int .i64 n,ev]] h fun x h'=>∃g' B O bv fv iv M us ws cs,x=.pointer (some ⟨B,0,none⟩)/\Le h g'/\
   lx g' h' B O n (Zh n es) bv fv iv M us ws cs (RB n es).on (RB n es).Jv (RB n es).Jv (RB n es).left/\Ho n es (zl n es):=by
 have hR:=hr.GD;have hA:=hr.q9;have bg:(n:Int)<=200:=hr.n1;have cR:es.length<=594:=hr.len;obtain⟨p0,rest,ag⟩:=iy (T2.es_ne hR);obtain⟨a,b,rfl,gK,hb⟩:=jB hR (show p0∈es by grind);have ez:es.drop 1=rest:=by rw[ag];rfl
 have eA:bX ⟨(n:Int),rest⟩:=by grind [bX.tail]
 have aj:Pu rest b a:=T2.less hR NH hb NH fun x y eB gM=>by
  rcases eB with h|h
  .rw [ag] at h
   rcases aaW.1 h with e|h
   .grind
   .exact .inl h
  .rw [ag] at h
   rcases aaW.1 h with e|h
   .grind
   .exact .inr h
 have gN:rest.length<=594:=pw;refine AC.vE ⟨Tryz.func52,rfl,WY⟩ Tryz.ntmps52 Tryz.results52 fun eC=>?_;simp only[Br,Nat.reduceAdd];obtain⟨h1,b1,cU,eE,-,A⟩:=r8 (n:=(n:Int)) eC hp
 generalize h.next=B1 at*
 have cZ:=A h1 (Le.refl _);have aN:=hp.le cU;have c0:=aN.addr (k:=.i64) 0 pw;have eF:=aN.load (i:=0) (p:=((a:Int),(b:Int))) (by rw[ag];rfl);obtain⟨h2,h3,e2,e3,l3,w3,o3⟩:=Ut eE ((a:Int),(b:Int))
 generalize h1.next=E at*
 have fT:=A h3 l3;simp only[aaQ]at c0;refine Sk (aNd9 b1 @Di @Ip.eq_1 @BS cZ.2.2 c0 eF e2 e3) ?_;have eG:=aN.le l3;obtain⟨rv,N,H,-⟩:=eG.cut hc (i:=1) pw;rw[ez]at H;simp only[afz]at N;apply Ya (F:=fun(fr:aaa) (h5:AHeap)=>∃(X:Nat) (cv:Value),Fj fr [(1,.pointer (some ⟨B1,0,none⟩)),(3,.pointer (some ⟨E,0,none⟩)),(4,.pointer (some ⟨X,0,none⟩))]/\Le h3 h5/\WF h5/\PR h5 cv rest/\∀g,Le h5 g->aload Tryz.prog g 24 ⟨X,0,none⟩=some (.agg #[.int .i64 n,cv]))
 .intro cont
  refine gh (tA [0,1,2,3,4] (.ch 5 [4] (tA [6] (JQ 7 [] (JQ 8 [0,1,2,3,4,5,6,7] .done))) (JQ 7 [] (JQ 5 [4] (tA [6] (JQ 8 [0,1,2,3,4,5,6,7] .done)))))) ?_
  have eI:∃g,h3.alloc (.cells [.int .i64 0,.slice none 0 0])=g/\Le h3 g/\WF g/\g.own h3.next=some (.cells [.int .i64 0,.slice none 0 0]):=Tt w3 _
  obtain⟨q1,y1,m1,v1,u1⟩:=eI
  have aP:aAlloc Tryz.prog h3 24=some (.pointer (some ⟨h3.next,0,none⟩),q1):=by rw[Lo,y1]
  have Q1:=A q1 (l3.trans m1);simp only[kJJ,Nat.reduceLT,↓reduceIte,Nat.reduceEqDiff,reduceCtorEq,Nat.reduceBEq,Qg,Ii,Di,Ip,BS,fT.2.1,fT.2.2,N,aP,Q1.2.1,Q1.2.2];refine⟨?_,?_⟩
  .refine VA.intro PJ ⟨afL, rfl, WY⟩ (DA K rv rest h3 H NH) ?_
   rintro cv h4 w4 ⟨gc,l4,-⟩;have A4:=A h4 (l3.trans l4);have aq:=Wj (n:=(n:Int)) gc.pr.sl;obtain⟨h5,D,a5,s5,l6,w6,lG⟩:=afN (n:=(n:Int)) w4 gc.pr;have A5:Le h4 h5:=by grind [Lo,Le.refl,Le.alloc]
   have A5:=A h5 ((l3.trans l4).trans A5);have A6:=A D ((l3.trans l4).trans l6);simp only[kJJ,Nat.reduceLT,↓reduceIte,Nat.reduceEqDiff,reduceCtorEq,Nat.reduceBEq,Qg,Ii,Di,Ip,BS,A4.2.1,A4.2.2,N,aq,a5,s5,A5.2.1,A5.2.2,A6.2.1,A6.2.2];refine KN.UJ fun fr' h' x y=>cont fr' h' ?_;subst x y;exact⟨_,cv,fD,l4.trans l6,w6,gc.pr.le l6,fun g l=>(lG g l).1⟩
  .refine VA.intro PJ ⟨afL, rfl, WY⟩ (DA K rv rest q1 (H.le m1) NH) ?_
   rintro cv h4 w4 ⟨gc,l4,ac⟩;have A4:=A h4 ((l3.trans m1).trans l4);have aq:=Wj (n:=(n:Int)) gc.pr.sl
   have nX:blk cv≠some h3.next:=fun e=>by have:=ac _ e;rw[u1]at this;cases this
   have oX:=l4.own _ _ u1
   have n1:h3.own h3.next=none:=(Le.refl h3).next w3 (qL0 _)
   have one:=gc.pr.sl.one;have bh:UA Tryz.prog 24=2:=Ji;have eL:(Value.agg #[.int .i64 (n:Int),cv]).cells=#[.int .i64 (n:Int),cv]:=rfl;have eM:(Value.int IntKind.i64 (n:Int)).oneCell'=true:=rfl
   have st:aStore Tryz.prog h4 24 (.pointer (some ⟨h3.next,0,none⟩)) (.agg #[.int .i64 (n:Int),cv])=some (h4.put h3.next (.cells [.int .i64 (n:Int),cv])):=by simp[aStore,oX,eL,bh,putCells,qS7,one,eM]
   have ho:(h4.put h3.next (.cells [.int .i64 (n:Int),cv])).own h3.next=some (.cells [.int .i64 (n:Int),cv]):=AHeap.Y3 _ _ _
   have l5:Le h3 (h4.put h3.next (.cells [.int .i64 (n:Int),cv])):=(m1.trans l4).put _ n1
   have A5:=A _ (l3.trans l5);simp only[kJJ,Nat.reduceLT,↓reduceIte,Nat.reduceEqDiff,reduceCtorEq,Nat.reduceBEq,Qg,Ii,Di,Ip,BS,A4.2.1,A4.2.2,N,aq,st,A5.2.1,A5.2.2];refine KN.UJ fun fr' h' x y=>cont fr' h' ?_;subst x y
   exact⟨h3.next,cv,fD,l5,w4.put _ (w4.lt oX),GP.pr (GS.put gc _ nX),fun g l=>by rw[Wx qS7 rfl bh (l.own _ _ ho) Ma];rfl⟩
 rintro fr h5 ⟨X,cv,G,c3,w5,c4,lX⟩;simp only[Fj]at G;obtain⟨f1,f3,f4,-⟩:=G;have c5:=c3.own _ _ o3;refine Sk (Pj f1 f3 f4 (lX h5 (Le.refl _)) @Dh @Z0 @Ip.eq_1 @BS (lK c5) (HY c5)) ?_;refine TC.intro PJ ⟨Tryz.func90,rfl,WY⟩ (NL K _ ⟨(n:Int),rest⟩ (a:Int) (b:Int) h5 ⟨cv,rfl,c4⟩) ?_;rintro x D w6 ⟨l6,M,er,rfl,gE,I⟩;simp only[Sb]at I;obtain⟨k1,k2⟩:=I eA NH NH NH NH;obtain⟨gl,al,c6⟩:=k2 (k1.2 aj);obtain⟨eO,Rg⟩:=JM hr ag c6 aj;rw[eO]at gl;have z:=(l3.trans c3).trans l6;have A6:=A D z;have b3:=aN.le z;have b4:GR D (.agg #[.int .i64 (n:Int),ev]) ⟨(n:Int),es⟩:=⟨ev,rfl,b3⟩;generalize b5:zl n es=l at*;have J:=eP Rg hR;have eQ:er=0:=k1.2 aj;subst eQ;refine Sk f1 ?_;clear I k1 k2 lX c4;apply Ya (F:=fun(fr:aaa) (h9:AHeap)=>∃(B O:Nat) (bv:Value) (R:AHeap),Fj fr [(1,.pointer (some ⟨B1,0,none⟩)),(5,M),(7,.pointer (some ⟨B,0,none⟩))]/\WF h9/\h9.own B=some (.cells [.int .i64 (n:Int),bv,.slice (some ⟨O,0,none⟩) n n,rW,rW,rW])/\h9.own O=some (.cells (Bo (List.replicate n false)))/\B≠O/\Le D R/\R.own B=none/\R.own O=none/\Le R h9/\RL (RL RP) R bv (Zh n es))
 .intro cont
  have bo:Bo (List.replicate n false)=List.replicate n (.bool false):=by simp[Bo]
  obtain⟨q1,y1,m1,v1,u1⟩:=Tt w6 (List.replicate n (.bool false));have aP:=PO D n NH;rw[y1]at aP;have Q1:=A q1 (z.trans m1);refine gh (tA [0,1,2,4,5] (.ch 3 [2] (JQ 6 [5] (tA [7] (JQ 8 [7] (tA [9] .done)))) (JQ 6 [5] (JQ 3 [2] (tA [7] (JQ 8 [7] (tA [9] .done))))))) ?_;simp only[kJJ,Nat.reduceLT,↓reduceIte,Nat.reduceEqDiff,reduceCtorEq,Nat.reduceBEq,Qg,f1,Ii,Ip,BS,A6.1,A6.2.1,aP,Q1.1,Q1.2.1];refine⟨?_,?_⟩
  .refine VA.intro PJ ⟨iZ, rfl, WY⟩ (oe K _ n es D b4 hr) ?_
   rintro bv Z w7 ⟨r,l7⟩;have A7:=A Z (z.trans l7);obtain⟨h8,y8,l8,w8,o8⟩:=Tt w7 (List.replicate n (.bool false));have c9:=PO Z n NH;rw[y8]at c9;have A8:=A h8 ((z.trans l7).trans l8)
   obtain⟨b6,ar⟩:=box77 h8 (n:=(n:Int)) (O:=Z.next) (m:=n) r.sl
   obtain⟨h9,y9,l9,w9,o9⟩:=Tt w8 [.int .i64 (n:Int),bv,.slice (some ⟨Z.next,0,none⟩) n n,rW,rW,rW]
   rw[y9]at ar;have A9:=A h9 (((z.trans l7).trans l8).trans l9);simp only[kJJ,Nat.reduceLT,↓reduceIte,Nat.reduceEqDiff,reduceCtorEq,Nat.reduceBEq,Qg,f1,Ii,Ip,BS,A7.1,A7.2.1,A8.1,A8.2.1,A9.1,A9.2.1,c9,b6,ar];refine KN.UJ fun fr' h' x y=>cont fr' h' ?_;rw[x,y]
   exact⟨h8.next,Z.next,bv,Z,(by simp only[Fj,HO,Nat.reduceLT,↓reduceIte,Nat.reduceEqDiff,reduceCtorEq,f1];simp),w9,o9,by rw[bo];exact l9.own _ _ o8,fun e=>by have:=w8.lt o8;omega,l7,l8.next w8 (qL0 _),(Le.refl Z).next w7 (qL0 _),l8.trans l9,r⟩
  .have hk : Le D (q1.kill D.next) := m1.to_kill ((Le.refl D).next w6 (qL0 _))
   refine VA.intro PJ ⟨iZ,rfl,WY⟩ (AC.frame u1 (oe K _ n es (q1.kill D.next) (b4.le hk) hr)) ?_
   rintro bv Z w7 ⟨g7,⟨r,l7⟩,da,rfl⟩;have b8:=hk.trans l7;have aT:=Le.Y5 da (.cells (List.replicate n (.bool false)))
   have o7:(g7.put D.next (.cells (List.replicate n (.bool false)))).own D.next=some (.cells (List.replicate n (.bool false))):=AHeap.Y3 _ _ _
   generalize g7.put D.next (.cells (List.replicate n (.bool false)))=Z at*
   have A7:=A Z ((z.trans b8).trans aT)
   obtain⟨b6,ar⟩:=box77 Z (n:=(n:Int)) (O:=D.next) (m:=n) r.sl
   obtain⟨h9,y9,l9,w9,o9⟩:=Tt w7 [.int .i64 (n:Int),bv,.slice (some ⟨D.next,0,none⟩) n n,rW,rW,rW]
   rw[y9]at ar;have A9:=A h9 (((z.trans b8).trans aT).trans l9);simp only[kJJ,Nat.reduceLT,↓reduceIte,Nat.reduceEqDiff,reduceCtorEq,Nat.reduceBEq,Qg,f1,Ii,Ip,BS,A7.1,A7.2.1,A9.1,A9.2.1,b6,ar];refine KN.UJ fun fr' h' x y=>cont fr' h' ?_;rw[x,y]
   exact⟨Z.next,D.next,bv,g7,(by simp only[Fj,HO,Nat.reduceLT,↓reduceIte,Nat.reduceEqDiff,reduceCtorEq,f1];simp),w9,o9,by rw[bo];exact l9.own _ _ o7,fun e=>by have:=w7.lt o7;omega,b8,aT.next w7 (qL0 _),da,aT.trans l9,r⟩
 rintro fr h9 ⟨B,O,bv,R,G,w9,oB,oO,eS,av,gB,gO,db,r⟩;simp only[Fj]at G;obtain⟨f1,f5,f7,-⟩:=G;have aW:=gl.le av;have gP:=al;have lr:∀g,aLen Tryz.prog g 49 M=some (.int .i64 (l.length:Nat)):=fun g=>by
  have:=gl.rl.DH g
  grind [y6]
 have eT:=sB B 2 NH;simp only[HO,Nat.reduceLT,↓reduceIte,Nat.reduceEqDiff,reduceCtorEq,f5,lr];refine aat.intro (fun k fr s=>∃(i:Nat) (wv:Value),k=l.length-i/\i<=l.length/\fr=mkF [(1,.pointer (some ⟨B1,0,none⟩)),(5,M),(7,.pointer (some ⟨B,0,none⟩)),(8,wv),(45,M),(46,.int .i64 (l.length:Nat)),(47,.int .i64 (i:Nat))]/\
   s.own B=some (.cells [.int .i64 (n:Int),bv,.slice (some ⟨O,0,none⟩) n n,rW,rW,rW])/\s.own O=some (.cells (Bo (tV (List.replicate n false) (l.take i))))/\Le R s/\GP s wv ((ZH l).take i)/\Z2 R wv/\blk wv≠some B/\blk wv≠some O)
  l.length [(1,.pointer (some ⟨B1,0,none⟩)),(5,M),(7,.pointer (some ⟨B,0,none⟩)),(8,rW),(45,M),(46,.int .i64 (l.length:Nat)),(47,.int .i64 (0:Nat))] (by simp only[Fj,HO,Nat.reduceLT,↓reduceIte,Nat.reduceEqDiff,reduceCtorEq,f1,f5,f7];simp)
  ⟨0,_,rfl,Og _,rfl,oB,oO,db,GP.nil _,fun b hb=>by grind [blk],by simp[blk],by simp[blk]⟩ ?_
 clear f1 f5 f7 oB oO db w9;clear h9;rintro k fr s ay ⟨i,wv,rfl,hi,rfl,oB,oO,az,gw,b9,cc,aX⟩;refine Uy ?_;refine Kl.intro (fun ht=>?_) (fun hf=>?_)
 .have d : i < l.length := CC ht
  clear ht;have eU:=aW.le az;have ad:∀q,q<l.length->aIndexAddr Tryz.prog 49 M (.int .i64 (q:Int))=some (.pointer (some (elemAddr M q))):=fun q U=>eU.rl.TA q (by rw[y6];exact U);have ld:∀g,Le R g->∀q (U:q<l.length),aload Tryz.prog g 3 (elemAddr M q)=some (.int .i64 ((l.getD q 0:Nat):Int)):=fun g lg q U=>by rw[(aW.le lg).rl.Uc q (by rw[y6];exact U),sY U,D4 U]
  have dc:(i+1)%l.length<l.length:=C4 _ NH;have hv:l.getD i 0<n:=by rw[D4 d];exact Rg.lt hR (Gw d)
  have cd:l.take (i+1)=l.take i++[l[i]]:=EL d;have dd:=RO d;have eV:l.getD i 0=l[i]:=D4 d;rw[<-eV]at dd cd;have eW:aIndexAddr Tryz.prog 59 (.slice (some ⟨O,0,none⟩) n n) (.int .i64 ((l.getD i 0:Nat):Int))=some (.pointer (some ⟨O,l.getD i 0,none⟩)):=by rw[Wc eY AV Ji _ hv];simp[Ip]
  have ZA:(tV (List.replicate n false) (l.take i)).length=n:=by
   have:∀(w:II) (o:List Bool),(tV o w).length=o.length:=fun w=>by
    induction w with
    |nil=>intro o;rfl
    |cons x w ih=>intro o;show(tV (o.set x true) w).length=_;grind
   grind
  have eZ:(tV (List.replicate n false) (l.take i)).set (l.getD i 0) true=tV (List.replicate n false) (l.take (i+1)):=by rw[cd];unfold tV;grind
  have st:aStore Tryz.prog s 4 (.pointer (some ⟨O,l.getD i 0,none⟩)) (.bool true)=some (s.put O (.cells (Bo (tV (List.replicate n false) (l.take (i+1)))))):=by rw[QB (P:=Tryz.prog) (t:=4) (x:=.bool true) AV Ji oO (off:=l.getD i 0) (by rw[O2,ZA];exact hv) rfl rfl,Tr,eZ]
  have e0:aload Tryz.prog s 59 ⟨B,2,none⟩=some (.slice (some ⟨O,0,none⟩) n n):=by rw[Fq eY rfl oB];rfl
  have w8:WF (s.put O (.cells (Bo (tV (List.replicate n false) (l.take (i+1)))))):=ay.put _ (ay.lt oO);have e1:(s.put O (.cells (Bo (tV (List.replicate n false) (l.take (i+1)))))).own O=some (.cells (Bo (tV (List.replicate n false) (l.take (i+1))))):=AHeap.Y3 _ _ _;have e5:(s.put O (.cells (Bo (tV (List.replicate n false) (l.take (i+1)))))).own B=some (.cells [.int .i64 (n:Int),bv,.slice (some ⟨O,0,none⟩) n n,rW,rW,rW]):=by grind [AHeap.By]
  have de:Le R (s.put O (.cells (Bo (tV (List.replicate n false) (l.take (i+1)))))):=az.put _ gO;have e6:GP (s.put O (.cells (Bo (tV (List.replicate n false) (l.take (i+1)))))) wv ((ZH l).take i):=GS.put gw _ aX;generalize s.put O (.cells (Bo (tV (List.replicate n false) (l.take (i+1)))))=h8 at*;have aw:=Tw i (Lb d (EP J NH));have nz:=Ww d;have e7:=Wt d;have e8:=Y7 (a:=i+1) (FI d) (EP J NH);simp only[HO,Nat.reduceLT,↓reduceIte,Nat.reduceEqDiff,reduceCtorEq,ad i d,ld s az i d,eT,e0,eW,st,lr,aw,nz,e7,e8,ad _ dc,ld h8 de _ dc];refine TC.intro PJ ⟨Tryz.func91,rfl,WY⟩ (Ls K (l.getD i 0) (l.getD ((i+1)%l.length) 0) h8) ?_;rintro x h9 w9 ⟨rfl,a6⟩;obtain⟨dj,gR,gS,e9,fb,dk,gT,gU,dm,bk⟩:=(e6.le a6).push w9 (GW (l.getD i 0) (l.getD ((i+1)%l.length) 0)) (rt_b J bg);obtain⟨dp,fc⟩:=dm R (de.trans a6) b9;obtain⟨dq,dv⟩:=bk B _ (a6.own _ _ e5) cc;obtain⟨dw,dz⟩:=bk O _ (a6.own _ _ e1) aX;rw[<-dd]at dk;simp only[HO,Nat.reduceLT,↓reduceIte,Nat.reduceEqDiff,reduceCtorEq,e9,fb,aw];exact tn (l.length-(i+1)) [(1,.pointer (some ⟨B1,0,none⟩)),(5,M),(7,.pointer (some ⟨B,0,none⟩)),(8,dj),(45,M),(46,.int .i64 (l.length:Nat)),(47,.int .i64 (i+1:Nat))] (JS d) fD
   ⟨i+1,dj,rfl,d,rfl,dq,dw,dp,dk,fc,dv,dz⟩
 have a7:l.length<=i:=vp hf;rw[HV a7]at oO;rw[HV (by grind [F9])]at gw;clear a7 hf hi;refine Uy ?_;have cf:l.length<=100000:=EP J NH;refine TC.intro PJ ⟨Tryz.func69,rfl,WY⟩ (CH K gw (by rw[F9];exact cf) (ring_bd Rg hR NH)) ?_;rintro x a8 fe ⟨rfl,gs,C⟩;have kw:∀b o,s.own b=some o->blk wv≠some b->a8.own b=some o:=fun b o ho hb=>
  (C (rem (bl wv) s) (Sa _ _) fun c hc=>by grind [DC,Zr]).own _ _ (Th.2 ⟨ho,fun m=>hb (Zr.1 m)⟩)
 have bm:=kw B _ oB cc;have br:=kw O _ oO aX;have aC:=C R az b9;refine Uy ?_;refine TC.intro PJ ⟨afI,rfl,WY⟩ (QY K M (aab l) a8 (aW.le aC).rl (by rw[y6];exact cf)) ?_;rintro cg dA fg ⟨dB,dE,ck⟩;refine Uy ?_;refine TC.intro PJ ⟨afJ,rfl,WY⟩ (Wk K cg (aab l) dA dB (by rw[y6];exact cf)) ?_;rintro x V gV ⟨cm,dF,fh⟩;have aD:=dF a8 dE ck;have fi:(aab l).reverse=aab l.reverse:=by simp[aab]
 rw[fi]at cm;have bx:=aD.own _ _ bm;have bB:=aD.own _ _ br;have bF:=aC.trans aD;have hX:∀b∈[B,O],R.own b=none:=fun b hb=>by grind
 have W:Le R (rem [B,O] V):=le_rem _ bF hX;have dH:∀b,blk cg=some b->b∉[B,O]:=fun b hb m=>by
  have:=ck b hb
  grind
 have dI:∀b,blk wv=some b->b∉[B,O]:=fun b hb m=>by grind
 have bH:GI (rem [B,O] V) cg (aab l.reverse):=GS.Fi cm dH;have bI:GP (rem [B,O] V) wv (sortP (ZH l)):=GS.Fi (GP.le gs aD) dI;have bN:=aW.le W;have ZA:(tV (List.replicate n false) l).length=n:=by
  have:∀(w:II) (o:List Bool),(tV o w).length=o.length:=fun w=>by
   induction w with
   |nil=>intro o;rfl
   |cons x w ih=>grind [tV,List.length_set]
  grind
 have S0:lx (rem [B,O] V) V B O n (Zh n es) bv rW rW rW [] [] [] (tV (List.replicate n false) l) [] [] []:={
  f:=⟨bx⟩
  oO:=bB
  ZA:=ZA
  gF:=GS.nil _ _
  uL:=rfl
  u1:=rfl
  gI:=GS.nil _ _
  wL:=rfl
  w1:=rfl
  gL:=GS.nil _ _
  cuL:=.inl rfl
  c1:=rfl
  sep:=⟨fun i j u w b gZ hu hw hb=>by
    have:u=rW:=by
     have:=Gc hu;grind
    grind [blk],fun i u b hu hb=>by
    grind [blk],fun i u hu b hb=>by grind [blk],Sa _ _⟩
  gB:=by grind [DC]
  gO:=by grind [DC]
  bO:=eS
  nb:=fun u hu=>by grind [blk]
  cF:=fun i u f hu=>by simp at hu
  cI:=fun i u f hu=>by simp at hu
  cL:=fun i p hp=>by simp at hp
  cB:=r.le (Nn.RL Nn.RP) W}
 generalize rem [B,O] V=dJ at*;have dL:Le h dJ:=((cU.trans z).trans av).trans W;have gA:=A dJ ((z.trans av).trans W);clear oB oO az gw b9 cc aX gs C kw dB dE ck cm dF fh bx bB bm br aD bF aC dH dI hX fe fg ay;clear a8 dA s;refine Uy ?_;have dM:∀x∈l,x<n:=fun x hx=>Rg.lt hR hx;refine TC.intro PJ ⟨Tryz.func95,rfl,WY⟩ (IU K S0 bN.rl dM NH (EP J NH) Ma) ?_;rintro x hj hl ⟨hn,hy,hz,hC,hD,S1,dO⟩;refine Uy ?_;refine TC.intro PJ ⟨Tryz.func95,rfl,WY⟩ (IU K S1 ((bH.le dO).rl) (f:=l.reverse) (fun x hx=>dM x (V3.1 hx)) NH (by rw[QU];exact EP J NH) Ma) ?_;rintro x fm hE ⟨hF,aF,aH,fp,fq,S2,ft⟩;have T:=dO.trans ft;simp only[gX,Xz]at S2;have dS:=A fm ((((z.trans av).trans W).trans T).trans S2.le);have bQ:=bI.le T;have bW:=(b3.le (av.trans W)).le T;obtain⟨fx,cp⟩:=S2.pV;refine Sk dS.1 ?_;refine TC.intro PJ ⟨Tryz.func96,rfl,WY⟩ (S2.side (iN K _ wv ⟨(n:Int),es⟩ (sortP (ZH l)) _ ⟨ev,rfl,bW.le cp⟩ (bQ.le cp).pr (by rw[ZS,F9];exact EP J NH))) ?_;rintro x fy fz ⟨cq,⟨cr,e2,rfl,G⟩,S3,cx,dT,fF⟩;have dV:=Rg.web hR;simp only[Sb]at G;rcases G with⟨q,-⟩|⟨-,q,-⟩|⟨-,-,rfl,L,hT,bb⟩
 .exact absurd hr q
 .exact absurd dV q
 rw[Rt hR hA.nodup hT (uY (n:=n) (on:=Qw n (sortP (ZH l))) (es:=es))]at bb;have I0:=Rg.start hR hA (L:=MF n (Qw n (sortP (ZH l))) es) uY;have ec:RB n es=Mw n es l (MF n (Qw n (sortP (ZH l))) es):=by unfold RB;rw[b5]
 rw[ec];have ed:=I0.Vw;have bZ:(Mw n es l (MF n (Qw n (sortP (ZH l))) es)).on=tV (List.replicate n false) l:=rfl;have b0:(Mw n es l (MF n (Qw n (sortP (ZH l))) es)).Jv=[l,l.reverse]:=rfl;have aJ:(Mw n es l (MF n (Qw n (sortP (ZH l))) es)).left=(LJ n es (sortP (ZH l)) (MF n (Qw n (sortP (ZH l))) es)).map fun f=>⟨f.zp,f.Fm,zh [l,l.reverse] f.Fm [0,1]⟩:=rfl;have cz:∀f∈LJ n es (sortP (ZH l)) (MF n (Qw n (sortP (ZH l))) es),(∀x∈f.Fm,∃v:Nat,x=(v:Int)/\v<n)/\f.Fm.length<=n:=fun f hf=>by
  have hm:(⟨f.zp,f.Fm,zh [l,l.reverse] f.Fm [0,1]⟩:wW)∈(Mw n es l (MF n (Qw n (sortP (ZH l))) es)).left:=pw;exact⟨I0.fS hR hm,I0.UO hR hm⟩
 rw[aJ,jz]at ed;rw[bZ,b0,aJ];generalize LJ n es (sortP (ZH l)) (MF n (Qw n (sortP (ZH l))) es)=C at*;have fJ:=bb.len;have ee:=sB B 5 NH;have gJ:Le h cq:=(dL.trans T).trans (cp.trans dT);clear bZ b0 aJ ec I0 hT S2 fx S1 S0 A A6 dS fT cZ bQ bW gA bI bH b3 b4 bN;refine Sk fJ ?_;refine aat.intro (fun k fr s=>∃(i:Nat) (g:AHeap) (cs:List Value) (Y:Value),k=C.length-i/\i<=C.length/\fr=mkF [(7,.pointer (some ⟨B,0,none⟩)),(90,cr),(91,.int .i64 (C.length:Nat)),(92,.int .i64 (i:Nat))]/\
   lx g s B O n (Zh n es) bv aF aH Y fp fq cs (tV (List.replicate n false) l) [l,l.reverse] [l,l.reverse] ((C.take i).map fun f=>⟨f.zp,f.Fm,zh [l,l.reverse] f.Fm [0,1]⟩)/\Le cq g)
  C.length [(7,.pointer (some ⟨B,0,none⟩)),(90,cr),(91,.int .i64 (C.length:Nat)),(92,.int .i64 (0:Nat))] fD
  ⟨0,cq,[],rW,rfl,Og _,rfl,S3,Le.refl _⟩ ?_
 clear S3 fz cx fF;clear fy;rintro k fr s ay ⟨i,g,cs,Y,rfl,hi,rfl,S,lg⟩;refine Uy ?_;refine Kl.intro (fun ht=>?_) (fun hf=>?_)
 .have d : i < C.length := CC ht
  clear ht;have fL:=XJ d;obtain⟨a',b',cC,ra,rb⟩:=bb.load fL;have fN:=bb.addr (k:=.i64) i d;obtain⟨fP,ef⟩:=cz _ (Gw d);have cd:C.take (i+1)=C.take i++[C[i]]:=EL d;generalize C[i]=f at*;have cC:=cC s (lg.trans S.le);have ra:=ra.le lg;have rb:=rb.le Nn.RP lg;obtain⟨hG,cE,fU,fV,fY,ga,nQ,oQ⟩:=new41' ay ra.sl rb.sl
  have dQ:s.next∉B::O::(bl aF++bl aH++bl Y):=fun m=>(S.own (HX.1 m)).2 nQ
  have eg:=S.up fY
  generalize s.next=Q at*
  obtain⟨eh,gf,cM,hI,gg⟩:=Tt ga [.int .i64 0,.int .i64 1];have mk:=mk2 cE 0 1;rw[gf]at mk;have aK:=eg.up cM
  have gi:RL RP eh (.slice (some ⟨cE.next,0,none⟩) 2 2) (aab [0,1]):=RL.Wh (RS.whole gg rfl)
  have ei:=eX (cM.own _ _ oQ);have ej:=eX oQ;have ek:=aK.f;have aw:=Tw i (Lb d (QJ NH));refine Sk (xU fN cC fU fV) ?_;refine gh (tA [0,1,2,3,4,5,6,7,8,9,10,11] (JQ 12 [] (JQ 13 [9,11,12] (tA [14] (JQ 15 [14] (JQ 16 [4,13,15] (tA [17,18] (JQ 19 [0,1,2,3,4,5,6,7,8,9,10,11,12,13,14,15,16,18] .done)))))))) ?_;simp only[HO,Nat.reduceLT,↓reduceIte,Nat.reduceEqDiff,reduceCtorEq,Nat.reduceBEq,Qg,ee,ff0,ff1,Ip,BS,eg.f.l5,ek.l5,ej.2.1,ej.2.2,ei.2.1,ei.2.2,mk]
  refine VA.intro PJ ⟨afK,rfl,WY⟩ (NR K B n bv _ aF aH Y b' (.slice (some ⟨cE.next,0,none⟩) 2 2) [l,l.reverse] f.Fm [0,1] eh ek aK.rlI ((rb.le Nn.RP aK.le)) gi fP Ma (sr ef bg) Ma) ?_
  rintro y cN gj ⟨en,eo,gk⟩;have b2:=eo.own _ _ (cM.own _ _ oQ);have ep:=eX b2;have gn:(Hg cN B O aF aH Y).own Q=some (.cells [a',b']):=by grind [Hg,DC]
  obtain⟨cP,aL⟩:=(aK.up eo).pV;have gy:GI (Hg cN B O aF aH Y) y (aab (zh [l,l.reverse] f.Fm [0,1])):=Pv (h:=cN) aK en gk;obtain⟨gq,hJ,hK,hL,gu,gv,gx,hM,hN,et,gz,eu⟩:=cP.pushL gj (a:=a') (b:=b') (c:=y) (p:=⟨f.zp,f.Fm,zh [l,l.reverse] f.Fm [0,1]⟩) (ra.le aL) (rb.le Nn.RP aL) gy.rl (tk_b ed cR _);have ew:=eX (et.own _ _ b2);have ey:=eX (eu.own _ _ gn);have gC:=cP.f.le et;have aq:=pN ra.sl rb.sl en.rl.sl;simp only[HO,Nat.reduceLT,↓reduceIte,Nat.reduceEqDiff,reduceCtorEq,Nat.reduceBEq,Qg,ee,ff0,ff1,Ip,BS,cP.f.l5,gC.l5,gz.l5,ep.2.1,ep.2.2,ew.2.1,ew.2.2,ey.2.1,ey.2.2,aq,gu,gv,gx,aw];refine tn (C.length-(i+1)) [(7,.pointer (some ⟨B,0,none⟩)),(90,cr),(91,.int .i64 (C.length:Nat)),(92,.int .i64 (i+1:Nat))] (JS d) fD
   ⟨i+1,_,cs++[a',b',y],gq,rfl,d,rfl,?_,lg.trans aL⟩
  grind
 have a7:C.length<=i:=vp hf;rw[HV a7]at S;refine Uy ?_
 grind [Le.trans]
end
end Go.Fw
