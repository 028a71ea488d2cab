/- A text. -/
import Derived.Test.YtkccdnmaaelbiaaGreatFwLJ13
set_option linter.all false
set_option maxRecDepth 99999
set_option maxHeartbeats 9999999
namespace Go.Fw
section
attribute [local instance] Classical.propDecidable
attribute [local irreducible] Kp MQ lU KO1 KO KN KX KE VK Kl ZJ TC aab
open Go.Proofs
variable {O i k m n:Nat} {bv:Value} {es:List Pr} {g h:AHeap} {l:II}
def box77 (h:AHeap) {n:Int} (hb:xO bv k):aBuild Tryz.prog 77 [(0,.int .i64 n),(1,bv),(2,.slice (some ⟨O,0,none⟩) m m)]=some (.agg #[.int .i64 n,bv,.slice (some ⟨O,0,none⟩) m m,rW,rW,rW])/\
  zF h (.agg #[.int .i64 n,bv,.slice (some ⟨O,0,none⟩) m m,rW,rW,rW])=some (.pointer (some ⟨h.next,0,none⟩),h.alloc (.cells [.int .i64 n,bv,.slice (some ⟨O,0,none⟩) m m,rW,rW,rW])):=by
 obtain⟨_,_,rfl,_⟩:=hb;exact⟨by kernel_rfl,by kernel_rfl⟩
theorem RO (hi:i<l.length):(ZH l).take (i+1)=(ZH l).take i++[GW l[i] (l.getD ((i+1)%l.length) 0)]:=by grind [ZH,List.take_succ_eq_append_getElem]
theorem F9 (l:II):(ZH l).length=l.length:=by simp[ZH]
theorem ring_bd (R:Ho n es l) (hR:aV n es) (d:n<=200):∀p∈ZH l,∃a b:Nat,p=((a:Int),(b:Int))/\a<1000/\b<1000:=fun p c=>by
 obtain⟨a,b,rfl,e,h2⟩:=jB hR (R.ik hR c)
 grind
theorem ring_len (R:Ho n es l) (hR:aV n es):l.length<=n:=by
 have:=tf R.nd (B:=List.range n) fun v a=>iy.2 (R.lt hR a)
 grind
theorem rt_b (h:l.length<=n) (h2:(n:Int)<=200):((ZH l).take i).length+1<=100000:=by grind [F9]
theorem tk_b {a:List FM} (h:a.length<=m) (b:m<=594) (F:FM->wW):((a.take i).map F).length<=100000:=pw
def build125 {a b c:Value} (ha:xO a n) (hb:xO b m) (d:xO c k):aBuild Tryz.prog 125 [(0,a),(1,b),(2,c)]=some (.agg #[a,b,c]):=by
 obtain⟨_,_,rfl,_⟩:=ha;obtain⟨_,_,rfl,_⟩:=hb;obtain⟨_,_,rfl,_⟩:=d;kernel_rfl
def le_rem (X:II) (l:Le g h) (a:∀b∈X,g.own b=none):Le g (rem X h):=l.iV a
theorem Si (J:LA) (ev:Value) (n:Nat) (es:List Pr) (h:AHeap) (hp:PR h ev es) (hc:okc 2 ev) (hr:bX ⟨(n:Int),es⟩) (T2:zW n es):
  AC Tryz.prog J 52 [.agg #[.int .i64 n,ev]] h fun x h'=>∃g' B O bv fv iv Y us ws cs,x=.pointer (some ⟨B,0,none⟩)/\Le h g'/\
   lx g' h' B O n (Zh n es) bv fv iv Y us ws cs (RB n es).on (RB n es).Jv (RB n es).Jv (RB n es).left/\Ho n es (zl n es):=by
 have hR:=hr.GD;have hA:=hr.q9;have bg:(n:Int)<=200:=hr.n1;have cN:es.length<=594:=hr.len;obtain⟨p0,rest,aa⟩:=xD (T2.es_ne hR);obtain⟨a,b,rfl,gn,hb⟩:=jB hR (show p0∈es by grind);have ep:es.drop 1=rest:=by rw[aa];rfl
 have et:bX ⟨(n:Int),rest⟩:=by grind [bX.tail]
 have ae:Pu rest b a:=T2.less hR NH hb NH fun x y eu gq=>by
  rcases eu with h|h
  .rw [aa] at h
   rcases EL.1 h with e|h
   .grind
   .exact .inl h
  .rw [aa] at h
   rcases EL.1 h with e|h
   .grind
   .exact .inr h
 have gu:rest.length<=594:=pw;refine AC.vE ⟨Tryz.func52,rfl,WY⟩ Tryz.ntmps52 Tryz.results52 fun ew=>?_;simp only[Br,Nat.reduceAdd];obtain⟨h1,b1,cP,ey,-,A⟩:=r8 (n:=(n:Int)) ew hp
 generalize h.next=B1 at*
 have cR:=A h1 (Le.refl _);have aK:=hp.le cP;have cU:=aK.addr (k:=.i64) 0 pw;have eA:=aK.load (i:=0) (p:=((a:Int),(b:Int))) (by rw[aa];rfl);obtain⟨h2,h3,e2,e3,l3,w3,o3⟩:=Ut ey ((a:Int),(b:Int))
 generalize h1.next=E at*
 have fT:=A h3 l3;simp only[JR]at cU;refine Sk (aNd9 b1 @Di @Ip.eq_1 @XJ cR.2.2 cU eA e2 e3) ?_;have eB:=aK.le l3;obtain⟨rv,K,G,-⟩:=eB.cut hc (i:=1) pw;rw[ep]at G;simp only[afR]at K;apply Ya (F:=fun(fr:lC) (h5:AHeap)=>∃(X:Nat) (cv:Value),Fj fr [(1,.pointer (some ⟨B1,0,none⟩)),(3,.pointer (some ⟨E,0,none⟩)),(4,.pointer (some ⟨X,0,none⟩))]/\Le h3 h5/\WF h5/\PR h5 cv rest/\∀g,Le h5 g->aload Tryz.prog g 24 ⟨X,0,none⟩=some (.agg #[.int .i64 n,cv]))
 .intro cont
  refine gh (tA [0,1,2,3,4] (.ch 5 [4] (tA [6] (JQ 7 [] (JQ 8 [0,1,2,3,4,5,6,7] .done))) (JQ 7 [] (JQ 5 [4] (tA [6] (JQ 8 [0,1,2,3,4,5,6,7] .done)))))) ?_
  have eC:∃g,h3.alloc (.cells [.int .i64 0,.slice none 0 0])=g/\Le h3 g/\WF g/\g.own h3.next=some (.cells [.int .i64 0,.slice none 0 0]):=Tt w3 _
  obtain⟨q1,y1,m1,v1,u1⟩:=eC
  have aP:aAlloc Tryz.prog h3 24=some (.pointer (some ⟨h3.next,0,none⟩),q1):=by rw[Lo,y1]
  have Q1:=A q1 (l3.trans m1);simp only[kJJ,Nat.reduceLT,↓reduceIte,Nat.reduceEqDiff,reduceCtorEq,Nat.reduceBEq,Qg,Ii,Di,Ip,XJ,fT.2.1,fT.2.2,K,aP,Q1.2.1,Q1.2.2];refine⟨?_,?_⟩
  .refine VA.intro PJ ⟨ahq, rfl, WY⟩ (DA J rv rest h3 G NH) ?_
   rintro cv h4 w4 ⟨gc,l4,-⟩;have A4:=A h4 (l3.trans l4);have ag:=Wj (n:=(n:Int)) gc.pr.sl;obtain⟨h5,C,a5,s5,l6,w6,lG⟩:=newG (n:=(n:Int)) w4 gc.pr;have A5:Le h4 h5:=by grind [Lo,Le.refl,Le.alloc]
   have A5:=A h5 ((l3.trans l4).trans A5);have A6:=A C ((l3.trans l4).trans l6);simp only[kJJ,Nat.reduceLT,↓reduceIte,Nat.reduceEqDiff,reduceCtorEq,Nat.reduceBEq,Qg,Ii,Di,Ip,XJ,A4.2.1,A4.2.2,K,ag,a5,s5,A5.2.1,A5.2.2,A6.2.1,A6.2.2];refine KN.UJ fun fr' h' x y=>cont fr' h' ?_;subst x y;exact⟨_,cv,fD,l4.trans l6,w6,gc.pr.le l6,fun g l=>(lG g l).1⟩
  .refine VA.intro PJ ⟨ahq, rfl, WY⟩ (DA J rv rest q1 (G.le m1) NH) ?_
   rintro cv h4 w4 ⟨gc,l4,ac⟩;have A4:=A h4 ((l3.trans m1).trans l4);have ag:=Wj (n:=(n:Int)) gc.pr.sl
   have nX:blk cv≠some h3.next:=fun e=>by have:=ac _ e;rw[u1]at this;cases this
   have oX:=l4.own _ _ u1
   have n1:h3.own h3.next=none:=(Le.refl h3).next w3 (qL0 _)
   have one:=gc.pr.sl.one;have bh:UA Tryz.prog 24=2:=Ji;have eE:(Value.agg #[.int .i64 (n:Int),cv]).cells=#[.int .i64 (n:Int),cv]:=rfl;have eF:(Value.int IntKind.i64 (n:Int)).oneCell'=true:=rfl
   have st:aStore Tryz.prog h4 24 (.pointer (some ⟨h3.next,0,none⟩)) (.agg #[.int .i64 (n:Int),cv])=some (h4.put h3.next (.cells [.int .i64 (n:Int),cv])):=by simp[aStore,oX,eE,bh,putCells,UP,one,eF]
   have ho:(h4.put h3.next (.cells [.int .i64 (n:Int),cv])).own h3.next=some (.cells [.int .i64 (n:Int),cv]):=AHeap.Y3 _ _ _
   have l5:Le h3 (h4.put h3.next (.cells [.int .i64 (n:Int),cv])):=(m1.trans l4).put _ n1
   have A5:=A _ (l3.trans l5);simp only[kJJ,Nat.reduceLT,↓reduceIte,Nat.reduceEqDiff,reduceCtorEq,Nat.reduceBEq,Qg,Ii,Di,Ip,XJ,A4.2.1,A4.2.2,K,ag,st,A5.2.1,A5.2.2];refine KN.UJ fun fr' h' x y=>cont fr' h' ?_;subst x y
   exact⟨h3.next,cv,fD,l5,w4.put _ (w4.lt oX),GP.pr (GS.put gc _ nX),fun g l=>by rw[Wx UP rfl bh (l.own _ _ ho) Ma];rfl⟩
 rintro fr h5 ⟨X,cv,D,cZ,w5,c0,lX⟩;simp only[Fj]at D;obtain⟨f1,f3,f4,-⟩:=D;have c3:=cZ.own _ _ o3;refine Sk (Pj f1 f3 f4 (lX h5 (Le.refl _)) @Dh @Z0 @Ip.eq_1 @XJ (lK c3) (HY c3)) ?_;refine TC.intro PJ ⟨Tryz.func90,rfl,WY⟩ (Path_fun J _ ⟨(n:Int),rest⟩ (a:Int) (b:Int) h5 ⟨cv,rfl,c0⟩) ?_;rintro x C w6 ⟨l6,Y,er,rfl,gj,H⟩;simp only[HV]at H;obtain⟨k1,k2⟩:=H et NH NH NH NH;obtain⟨gl,al,c4⟩:=k2 (k1.2 ae);obtain⟨eG,Rg⟩:=ringM_ok hr aa c4 ae;rw[eG]at gl;have z:=(l3.trans cZ).trans l6;have A6:=A C z;have b2:=aK.le z;have b3:GR C (.agg #[.int .i64 (n:Int),ev]) ⟨(n:Int),es⟩:=⟨ev,rfl,b2⟩;generalize b4:zl n es=l at*;have I:=ring_len Rg hR;have eH:er=0:=k1.2 ae;subst eH;refine Sk f1 ?_;clear H k1 k2 lX c0;apply Ya (F:=fun(fr:lC) (h9:AHeap)=>∃(B O:Nat) (bv:Value) (M:AHeap),Fj fr [(1,.pointer (some ⟨B1,0,none⟩)),(5,Y),(7,.pointer (some ⟨B,0,none⟩))]/\WF h9/\h9.own B=some (.cells [.int .i64 (n:Int),bv,.slice (some ⟨O,0,none⟩) n n,rW,rW,rW])/\h9.own O=some (.cells (Bo (List.replicate n false)))/\B≠O/\Le C M/\M.own B=none/\M.own O=none/\Le M h9/\RL (RL RP) M bv (Zh n es))
 .intro cont
  have bo:Bo (List.replicate n false)=List.replicate n (.bool false):=by simp[Bo]
  obtain⟨q1,y1,m1,v1,u1⟩:=Tt w6 (List.replicate n (.bool false));have aP:=mk100 C n NH;rw[y1]at aP;have Q1:=A q1 (z.trans m1);refine gh (tA [0,1,2,4,5] (.ch 3 [2] (JQ 6 [5] (tA [7] (JQ 8 [7] (tA [9] .done)))) (JQ 6 [5] (JQ 3 [2] (tA [7] (JQ 8 [7] (tA [9] .done))))))) ?_;simp only[kJJ,Nat.reduceLT,↓reduceIte,Nat.reduceEqDiff,reduceCtorEq,Nat.reduceBEq,Qg,f1,Ii,Ip,XJ,A6.1,A6.2.1,aP,Q1.1,Q1.2.1];refine⟨?_,?_⟩
  .refine VA.intro PJ ⟨zC, rfl, WY⟩ (oe J _ n es C b3 hr) ?_
   rintro bv Z w7 ⟨r,l7⟩;have A7:=A Z (z.trans l7);obtain⟨h8,y8,l8,w8,o8⟩:=Tt w7 (List.replicate n (.bool false));have c5:=mk100 Z n NH;rw[y8]at c5;have A8:=A h8 ((z.trans l7).trans l8)
   obtain⟨b5,aj⟩:=box77 h8 (n:=(n:Int)) (O:=Z.next) (m:=n) r.sl
   obtain⟨h9,y9,l9,w9,o9⟩:=Tt w8 [.int .i64 (n:Int),bv,.slice (some ⟨Z.next,0,none⟩) n n,rW,rW,rW]
   rw[y9]at aj;have A9:=A h9 (((z.trans l7).trans l8).trans l9);simp only[kJJ,Nat.reduceLT,↓reduceIte,Nat.reduceEqDiff,reduceCtorEq,Nat.reduceBEq,Qg,f1,Ii,Ip,XJ,A7.1,A7.2.1,A8.1,A8.2.1,A9.1,A9.2.1,c5,b5,aj];refine KN.UJ fun fr' h' x y=>cont fr' h' ?_;rw[x,y]
   exact⟨h8.next,Z.next,bv,Z,(by simp only[Fj,HO,Nat.reduceLT,↓reduceIte,Nat.reduceEqDiff,reduceCtorEq,f1];simp),w9,o9,by rw[bo];exact l9.own _ _ o8,fun e=>by have:=w8.lt o8;omega,l7,l8.next w8 (qL0 _),(Le.refl Z).next w7 (qL0 _),l8.trans l9,r⟩
  .have hk : Le C (q1.kill C.next) := m1.to_kill ((Le.refl C).next w6 (qL0 _))
   refine VA.intro PJ ⟨zC,rfl,WY⟩ (AC.frame u1 (oe J _ n es (q1.kill C.next) (b3.le hk) hr)) ?_
   rintro bv Z w7 ⟨g7,⟨r,l7⟩,c6,rfl⟩;have b6:=hk.trans l7;have aT:=Le.Y5 c6 (.cells (List.replicate n (.bool false)))
   have o7:(g7.put C.next (.cells (List.replicate n (.bool false)))).own C.next=some (.cells (List.replicate n (.bool false))):=AHeap.Y3 _ _ _
   generalize g7.put C.next (.cells (List.replicate n (.bool false)))=Z at*
   have A7:=A Z ((z.trans b6).trans aT)
   obtain⟨b5,aj⟩:=box77 Z (n:=(n:Int)) (O:=C.next) (m:=n) r.sl
   obtain⟨h9,y9,l9,w9,o9⟩:=Tt w7 [.int .i64 (n:Int),bv,.slice (some ⟨C.next,0,none⟩) n n,rW,rW,rW]
   rw[y9]at aj;have A9:=A h9 (((z.trans b6).trans aT).trans l9);simp only[kJJ,Nat.reduceLT,↓reduceIte,Nat.reduceEqDiff,reduceCtorEq,Nat.reduceBEq,Qg,f1,Ii,Ip,XJ,A7.1,A7.2.1,A9.1,A9.2.1,b5,aj];refine KN.UJ fun fr' h' x y=>cont fr' h' ?_;rw[x,y]
   exact⟨Z.next,C.next,bv,g7,(by simp only[Fj,HO,Nat.reduceLT,↓reduceIte,Nat.reduceEqDiff,reduceCtorEq,f1];simp),w9,o9,by rw[bo];exact l9.own _ _ o7,fun e=>by have:=w7.lt o7;omega,b6,aT.next w7 (qL0 _),c6,aT.trans l9,r⟩
 rintro fr h9 ⟨B,O,bv,M,D,w9,oB,oO,eI,aq,gB,gO,c9,r⟩;simp only[Fj]at D;obtain⟨f1,f5,f7,-⟩:=D;have aW:=gl.le aq;have gv:=al;have lr:∀g,aLen Tryz.prog g 49 Y=some (.int .i64 (l.length:Nat)):=fun g=>by
  have:=gl.rl.Uc g
  grind [y6]
 have eL:=sB B 2 NH;simp only[HO,Nat.reduceLT,↓reduceIte,Nat.reduceEqDiff,reduceCtorEq,f5,lr];refine aab.intro (fun k fr s=>∃(i:Nat) (wv:Value),k=l.length-i/\i<=l.length/\fr=mkF [(1,.pointer (some ⟨B1,0,none⟩)),(5,Y),(7,.pointer (some ⟨B,0,none⟩)),(8,wv),(45,Y),(46,.int .i64 (l.length:Nat)),(47,.int .i64 (i:Nat))]/\
   s.own B=some (.cells [.int .i64 (n:Int),bv,.slice (some ⟨O,0,none⟩) n n,rW,rW,rW])/\s.own O=some (.cells (Bo (tV (List.replicate n false) (l.take i))))/\Le M s/\GP s wv ((ZH l).take i)/\Z2 M wv/\blk wv≠some B/\blk wv≠some O)
  l.length [(1,.pointer (some ⟨B1,0,none⟩)),(5,Y),(7,.pointer (some ⟨B,0,none⟩)),(8,rW),(45,Y),(46,.int .i64 (l.length:Nat)),(47,.int .i64 (0:Nat))] (by simp only[Fj,HO,Nat.reduceLT,↓reduceIte,Nat.reduceEqDiff,reduceCtorEq,f1,f5,f7];simp)
  ⟨0,_,rfl,Og _,rfl,oB,oO,c9,GP.nil _,fun b hb=>by grind [blk],by simp[blk],by simp[blk]⟩ ?_
 clear f1 f5 f7 oB oO c9 w9;clear h9;rintro k fr s ar ⟨i,wv,rfl,hi,rfl,oB,oO,av,gw,b8,b9,aX⟩;refine Uy ?_;refine Kl.intro (fun ht=>?_) (fun hf=>?_)
 .have d : i < l.length := CC ht
  clear ht;have eM:=aW.le av;have ad:∀q,q<l.length->aIndexAddr Tryz.prog 49 Y (.int .i64 (q:Int))=some (.pointer (some (elemAddr Y q))):=fun q T=>eM.rl.TA q (by rw[y6];exact T);have ld:∀g,Le M g->∀q (T:q<l.length),aload Tryz.prog g 3 (elemAddr Y q)=some (.int .i64 ((l.getD q 0:Nat):Int)):=fun g lg q T=>by rw[(aW.le lg).rl.DH q (by rw[y6];exact T),sY T,D4 T]
  have da:(i+1)%l.length<l.length:=C4 _ NH;have hv:l.getD i 0<n:=by rw[D4 d];exact Rg.lt hR (ZT d)
  have cc:l.take (i+1)=l.take i++[l[i]]:=Sb d;have db:=RO d;have eO:l.getD i 0=l[i]:=D4 d;rw[<-eO]at db cc;have eP:aIndexAddr Tryz.prog 59 (.slice (some ⟨O,0,none⟩) n n) (.int .i64 ((l.getD i 0:Nat):Int))=some (.pointer (some ⟨O,l.getD i 0,none⟩)):=by rw[Wc eY AV Ji _ hv];simp[Ip]
  have ZA:(tV (List.replicate n false) (l.take i)).length=n:=by
   have:∀(w:II) (o:List Bool),(tV o w).length=o.length:=fun w=>by
    induction w with
    |nil=>intro o;rfl
    |cons x w ih=>intro o;show(tV (o.set x true) w).length=_;grind
   grind
  have eQ:(tV (List.replicate n false) (l.take i)).set (l.getD i 0) true=tV (List.replicate n false) (l.take (i+1)):=by rw[cc];unfold tV;grind
  have st:aStore Tryz.prog s 4 (.pointer (some ⟨O,l.getD i 0,none⟩)) (.bool true)=some (s.put O (.cells (Bo (tV (List.replicate n false) (l.take (i+1)))))):=by rw[QB (P:=Tryz.prog) (t:=4) (x:=.bool true) AV Ji oO (off:=l.getD i 0) (by rw[O2,ZA];exact hv) rfl rfl,Tr,eQ]
  have eS:aload Tryz.prog s 59 ⟨B,2,none⟩=some (.slice (some ⟨O,0,none⟩) n n):=by rw[Fq eY rfl oB];rfl
  have w8:WF (s.put O (.cells (Bo (tV (List.replicate n false) (l.take (i+1)))))):=ar.put _ (ar.lt oO);have eT:(s.put O (.cells (Bo (tV (List.replicate n false) (l.take (i+1)))))).own O=some (.cells (Bo (tV (List.replicate n false) (l.take (i+1))))):=AHeap.Y3 _ _ _;have eU:(s.put O (.cells (Bo (tV (List.replicate n false) (l.take (i+1)))))).own B=some (.cells [.int .i64 (n:Int),bv,.slice (some ⟨O,0,none⟩) n n,rW,rW,rW]):=by grind [AHeap.By]
  have dc:Le M (s.put O (.cells (Bo (tV (List.replicate n false) (l.take (i+1)))))):=av.put _ gO;have eV:GP (s.put O (.cells (Bo (tV (List.replicate n false) (l.take (i+1)))))) wv ((ZH l).take i):=GS.put gw _ aX;generalize s.put O (.cells (Bo (tV (List.replicate n false) (l.take (i+1)))))=h8 at*;have aw:=aaa i (Lb d (Hs I NH));have nz:=nz_len d;have eW:=Wt d;have eX:=Y7 (a:=i+1) (FI d) (Hs I NH);simp only[HO,Nat.reduceLT,↓reduceIte,Nat.reduceEqDiff,reduceCtorEq,ad i d,ld s av i d,eL,eS,eP,st,lr,aw,nz,eW,eX,ad _ da,ld h8 dc _ da];refine TC.intro PJ ⟨Tryz.func91,rfl,WY⟩ (pair_any J (l.getD i 0) (l.getD ((i+1)%l.length) 0) h8) ?_;rintro x h9 w9 ⟨rfl,a6⟩;obtain⟨eZ,gx,gz,e0,e1,dd,gC,gE,de,bk⟩:=(eV.le a6).push w9 (GW (l.getD i 0) (l.getD ((i+1)%l.length) 0)) (rt_b I bg);obtain⟨dg,e5⟩:=de M (dc.trans a6) b8;obtain⟨dj,dk⟩:=bk B _ (a6.own _ _ eU) b9;obtain⟨dm,dp⟩:=bk O _ (a6.own _ _ eT) aX;rw[<-db]at dd;simp only[HO,Nat.reduceLT,↓reduceIte,Nat.reduceEqDiff,reduceCtorEq,e0,e1,aw];exact lgA (JS d) ⟨i+1,eZ,rfl,d,rfl,dj,dm,dg,dd,e5,dk,dp⟩
 have a7:l.length<=i:=vp hf;rw[yM a7]at oO;rw[yM (by grind [F9])]at gw;clear a7 hf hi;refine Uy ?_;have cd:l.length<=100000:=Hs I NH;refine TC.intro PJ ⟨Tryz.func69,rfl,WY⟩ (CH J gw (by rw[F9];exact cd) (ring_bd Rg hR NH)) ?_;rintro x a8 e6 ⟨rfl,gs,N⟩;have kw:∀b o,s.own b=some o->blk wv≠some b->a8.own b=some o:=fun b o ho hb=>
  (N (rem (bl wv) s) (Sa _ _) fun c hc=>by grind [DC,Zr]).own _ _ (Th.2 ⟨ho,fun m=>hb (Zr.1 m)⟩)
 have bm:=kw B _ oB b9;have br:=kw O _ oO aX;have ay:=N M av b8;refine Uy ?_;refine TC.intro PJ ⟨Md,rfl,WY⟩ (QY J Y (kz l) a8 (aW.le ay).rl (by rw[y6];exact cd)) ?_;rintro cf dq e7 ⟨dv,dw,cg⟩;refine Uy ?_;refine TC.intro PJ ⟨XX,rfl,WY⟩ (Wk J cf (kz l) dq dv (by rw[y6];exact cd)) ?_;rintro x U gJ ⟨ck,dy,e8⟩;have az:=dy a8 dw cg;have e9:(kz l).reverse=kz l.reverse:=by simp[kz]
 rw[e9]at ck;have bx:=az.own _ _ bm;have bB:=az.own _ _ br;have bF:=ay.trans az;have hX:∀b∈[B,O],M.own b=none:=fun b hb=>by grind
 have V:Le M (rem [B,O] U):=le_rem _ bF hX;have dz:∀b,blk cf=some b->b∉[B,O]:=fun b hb m=>by
  have:=cg b hb
  grind
 have dA:∀b,blk wv=some b->b∉[B,O]:=fun b hb m=>by grind
 have bH:GI (rem [B,O] U) cf (kz l.reverse):=GS.Fi ck dz;have bI:GP (rem [B,O] U) wv (sortP (ZH l)):=GS.Fi (GP.le gs az) dA;have bN:=aW.le V;have ZA:(tV (List.replicate n false) l).length=n:=by
  have:∀(w:II) (o:List Bool),(tV o w).length=o.length:=fun w=>by
   induction w with
   |nil=>intro o;rfl
   |cons x w ih=>grind [tV,List.length_set]
  grind
 have S0:lx (rem [B,O] U) U B O n (Zh n es) bv rW rW rW [] [] [] (tV (List.replicate n false) l) [] [] []:={
  f:=⟨bx⟩
  oO:=bB
  ZA:=ZA
  gF:=GS.nil _ _
  uL:=rfl
  u1:=rfl
  gI:=GS.nil _ _
  wL:=rfl
  w1:=rfl
  gL:=GS.nil _ _
  cuL:=.inl rfl
  c1:=rfl
  sep:=⟨fun i j u w b gM hu hw hb=>by
    have:u=rW:=by
     have:=Gc hu;grind
    grind [blk],fun i u b hu hb=>by
    grind [blk],fun i u hu b hb=>by grind [blk],Sa _ _⟩
  gB:=by grind [DC]
  gO:=by grind [DC]
  bO:=eI
  nb:=fun u hu=>by grind [blk]
  cF:=fun i u f hu=>by simp at hu
  cI:=fun i u f hu=>by simp at hu
  cL:=fun i p hp=>by simp at hp
  cB:=r.le (Nn.RL Nn.RP) V}
 generalize rem [B,O] U=dB at*;have dE:Le h dB:=((cP.trans z).trans aq).trans V;have gA:=A dB ((z.trans aq).trans V);clear oB oO av gw b8 b9 aX gs N kw dv dw cg ck dy e8 bx bB bm br az bF ay dz dA hX e6 e7 ar;clear a8 dq s;refine Uy ?_;have dF:∀x∈l,x<n:=fun x hx=>Rg.lt hR hx;refine TC.intro PJ ⟨Tryz.func95,rfl,WY⟩ (IU J S0 bN.rl dF NH (Hs I NH) Ma) ?_;rintro x gP gR ⟨gT,gU,gV,gZ,hj,S1,dH⟩;refine Uy ?_;refine TC.intro PJ ⟨Tryz.func95,rfl,WY⟩ (IU J S1 ((bH.le dH).rl) (f:=l.reverse) (fun x hx=>dF x (KG.1 hx)) NH (by rw[afJ];exact Hs I NH) Ma) ?_;rintro x fb hl ⟨hn,aC,aD,fc,fe,S2,fg⟩;have R:=dH.trans fg;simp only[aey,agP]at S2;have dI:=A fb ((((z.trans aq).trans V).trans R).trans S2.le);have bQ:=bI.le R;have bW:=(b2.le (aq.trans V)).le R;obtain⟨fh,cm⟩:=S2.pV;refine Sk dI.1 ?_;refine TC.intro PJ ⟨Tryz.func96,rfl,WY⟩ (S2.side (iN J _ wv ⟨(n:Int),es⟩ (sortP (ZH l)) _ ⟨ev,rfl,bW.le cm⟩ (bQ.le cm).pr (by rw[ZS,F9];exact Hs I NH))) ?_;rintro x fi fm ⟨cp,⟨fp,e2,rfl,D⟩,S3,cq,dJ,fq⟩;have dL:=Rg.web hR;simp only[HV]at D;rcases D with⟨q,-⟩|⟨-,q,-⟩|⟨-,-,rfl,L,hT,bb⟩
 .exact absurd hr q
 .exact absurd dL q
 rw[frag_tog hR hA.nodup hT (uY (n:=n) (on:=Qw n (sortP (ZH l))) (es:=es))]at bb;have I0:=Rg.start hR hA (L:=MF n (Qw n (sortP (ZH l))) es) uY;have dM:RB n es=Mw n es l (MF n (Qw n (sortP (ZH l))) es):=by unfold RB;rw[b4]
 rw[dM];have dO:=I0.Vw;have bY:(Mw n es l (MF n (Qw n (sortP (ZH l))) es)).on=tV (List.replicate n false) l:=rfl;have bZ:(Mw n es l (MF n (Qw n (sortP (ZH l))) es)).Jv=[l,l.reverse]:=rfl;have aF:(Mw n es l (MF n (Qw n (sortP (ZH l))) es)).left=(LJ n es (sortP (ZH l)) (MF n (Qw n (sortP (ZH l))) es)).map fun f=>⟨f.zp,f.Fm,zh [l,l.reverse] f.Fm [0,1]⟩:=rfl;have cx:∀f∈LJ n es (sortP (ZH l)) (MF n (Qw n (sortP (ZH l))) es),(∀x∈f.Fm,∃v:Nat,x=(v:Int)/\v<n)/\f.Fm.length<=n:=fun f hf=>by
  have hm:(⟨f.zp,f.Fm,zh [l,l.reverse] f.Fm [0,1]⟩:wW)∈(Mw n es l (MF n (Qw n (sortP (ZH l))) es)).left:=pw;exact⟨I0.abJ hR hm,I0.UO hR hm⟩
 rw[aF,jz]at dO;rw[bY,bZ,aF];generalize LJ n es (sortP (ZH l)) (MF n (Qw n (sortP (ZH l))) es)=N at*;have ft:=bb.len;have dS:=sB B 5 NH;have gk:Le h cp:=(dE.trans R).trans (cm.trans dJ);clear bY bZ aF dM I0 hT S2 fh S1 S0 A A6 dI fT cR bQ bW gA bI bH b2 b3 bN;refine Sk ft ?_;refine lIn (fun k fr s=>∃(i:Nat) (g:AHeap) (cs:List Value) (W:Value),k=N.length-i/\i<=N.length/\fr=mkF [(7,.pointer (some ⟨B,0,none⟩)),(90,fp),(91,.int .i64 (N.length:Nat)),(92,.int .i64 (i:Nat))]/\
   lx g s B O n (Zh n es) bv aC aD W fc fe cs (tV (List.replicate n false) l) [l,l.reverse] [l,l.reverse] ((N.take i).map fun f=>⟨f.zp,f.Fm,zh [l,l.reverse] f.Fm [0,1]⟩)/\Le cp g) ⟨0,cp,[],rW,rfl,Og _,rfl,S3,Le.refl _⟩ ?_
 clear S3 fm cq fq;clear fi;rintro k fr s ar ⟨i,g,cs,W,rfl,hi,rfl,S,lg⟩;refine Uy ?_;refine Kl.intro (fun ht=>?_) (fun hf=>?_)
 .have d : i < N.length := CC ht
  clear ht;have fx:=BS d;obtain⟨a',b',cz,ra,rb⟩:=bb.load fx;have fy:=bb.addr (k:=.i64) i d;obtain⟨fC,dT⟩:=cx _ (ZT d);have cc:N.take (i+1)=N.take i++[N[i]]:=Sb d;generalize N[i]=f at*;have cz:=cz s (lg.trans S.le);have ra:=ra.le lg;have rb:=rb.le Nn.RP lg;obtain⟨hy,cC,fF,fJ,fL,fN,nQ,oQ⟩:=new41' ar ra.sl rb.sl
  have dQ:s.next∉B::O::(bl aC++bl aD++bl W):=fun m=>(S.own (HX.1 m)).2 nQ
  have dV:=S.up fL
  generalize s.next=Q at*
  obtain⟨ec,fP,cE,hz,fQ⟩:=Tt fN [.int .i64 0,.int .i64 1];have mk:=mk2 cC 0 1;rw[fP]at mk;have aH:=dV.up cE
  have fR:RL RP ec (.slice (some ⟨cC.next,0,none⟩) 2 2) (kz [0,1]):=RL.Wh (RS.whole fQ rfl)
  have ed:=ld41 (cE.own _ _ oQ);have ee:=ld41 oQ;have ef:=aH.f;have aw:=aaa i (Lb d (QJ NH));refine Sk (xU fy cz fF fJ) ?_;refine gh (tA [0,1,2,3,4,5,6,7,8,9,10,11] (JQ 12 [] (JQ 13 [9,11,12] (tA [14] (JQ 15 [14] (JQ 16 [4,13,15] (tA [17,18] (JQ 19 [0,1,2,3,4,5,6,7,8,9,10,11,12,13,14,15,16,18] .done)))))))) ?_;simp only[HO,Nat.reduceLT,↓reduceIte,Nat.reduceEqDiff,reduceCtorEq,Nat.reduceBEq,Qg,dS,ff0,ff1,Ip,XJ,dV.f.l5,ef.l5,ee.2.1,ee.2.2,ed.2.1,ed.2.2,mk]
  refine VA.intro PJ ⟨ahp,rfl,WY⟩ (NR J B n bv _ aC aD W b' (.slice (some ⟨cC.next,0,none⟩) 2 2) [l,l.reverse] f.Fm [0,1] ec ef aH.rlI ((rb.le Nn.RP aH.le)) fR fC Ma (sr dT bg) Ma) ?_
  rintro y cK fS ⟨eg,eh,fU⟩;have b0:=eh.own _ _ (cE.own _ _ oQ);have ei:=ld41 b0;have fV:(Hg cK B O aC aD W).own Q=some (.cells [a',b']):=by grind [Hg,DC]
  obtain⟨cM,aJ⟩:=(aH.up eh).pV;have gy:GI (Hg cK B O aC aD W) y (kz (zh [l,l.reverse] f.Fm [0,1])):=Pv (h:=cK) aH eg fU;obtain⟨fW,hC,hD,hE,fY,ga,gf,hF,hG,ej,gg,ek⟩:=cM.pushL fS (a:=a') (b:=b') (c:=y) (p:=⟨f.zp,f.Fm,zh [l,l.reverse] f.Fm [0,1]⟩) (ra.le aJ) (rb.le Nn.RP aJ) gy.rl (tk_b dO cN _);have en:=ld41 (ej.own _ _ b0);have eo:=ld41 (ek.own _ _ fV);have gi:=cM.f.le ej;have ag:=build125 ra.sl rb.sl eg.rl.sl;simp only[HO,Nat.reduceLT,↓reduceIte,Nat.reduceEqDiff,reduceCtorEq,Nat.reduceBEq,Qg,dS,ff0,ff1,Ip,XJ,cM.f.l5,gi.l5,gg.l5,ei.2.1,ei.2.2,en.2.1,en.2.2,eo.2.1,eo.2.2,ag,fY,ga,gf,aw];refine lgA (JS d) ⟨i+1,_,cs++[a',b',y],fW,rfl,d,rfl,?_,lg.trans aJ⟩
  grind
 have a7:N.length<=i:=vp hf;rw[yM a7]at S;refine Uy ?_
 grind [Le.trans]
variable {B v:Nat} {G:GM} {S:kR} {cs us ws:List Value} {fv iv lv:Value} {left:List wW} {rows:AM}
theorem Nb (d:LA) (v:Value) (n:Nat) (es:List Pr) (h:AHeap) (hg:GR h v ⟨(n:Int),es⟩) (e:bX ⟨(n:Int),es⟩):
  AC Tryz.prog d 51 [v] h fun x h'=>RR (zW n es) x/\Le h h':=by
 have c:=hg
 obtain⟨D,rfl,u⟩:=hg.open
 refine AC.vE ⟨Tryz.func51,rfl,WY⟩ Tryz.ntmps51 Tryz.results51 fun i=>?_;simp only[Br,Nat.reduceAdd];obtain⟨o,p,a,w,-,q⟩:=r8 (n:=(n:Int)) i u
 generalize h.next=B at*
 have b:=q o (Le.refl _);by_cases r:(n:Int)<3
 .have j : decide ((n : Int) < 3) = true := decide_eq_true r
  refine Sk (bG p @Ii @Ip.eq_1 @XJ b.2.1 j) ?_;exact⟨RR.f fun T=>by have:=T.n3;omega,a⟩
 have j:decide ((n:Int)<3)=false:=decide_eq_false r;have h3:3<=n:=NH;refine Sk (rE p @Ii @Ip.eq_1 @XJ b.2.1 b.1 j) ?_;refine TC.intro PJ ⟨Tryz.func64,rfl,WY⟩ (It d _ ⟨(n:Int),es⟩ o (c.le a) e) ?_;rintro pv s E ⟨gp,l4,-⟩;simp only[HV]at gp;have y:=gp.rl (Nn.RL Nn.RP);have k:=fun g=>y.len (P:=Tryz.prog) yU g;have l:((Gx n es n).map kz).length=(Es n es).length:=by simp[Gx]
 rw[l]at k;have m:=q s l4;by_cases c1:((Es n es).length:Int)=1
 rotate_left
 .have d1 : decide (((Es n es).length : Int) = 1) = false := decide_eq_false c1
  refine Sk (Yb k @bne.eq_1.{0} d1) ?_
  grind [RR.f,zW.one,Le.trans]
 have d1:decide (((Es n es).length:Int)=1)=true:=decide_eq_true c1;have z:(Es n es).length=1:=NH;refine Sk (xU k @bne.eq_1.{0} d1 m.1) ?_
 refine TC.intro PJ ⟨Tryz.func46,rfl,WY⟩ (Cw d _ ⟨(n:Int),es⟩ s (c.le (a.trans l4))) ?_;rintro x F G ⟨l5,⟨A,_⟩|⟨_,H,rfl,t⟩⟩
 .exact absurd e A
 simp only[HV]at t;have C:=fun g=>t.len (P:=Tryz.prog) Gs g;have I:=Uv e h3 z;refine Sk C ?_;refine⟨⟨_,rfl,?_⟩,(a.trans l4).trans l5⟩
 grind
noncomputable def embX (n:Nat) (es:List Pr):Option AM:=if 3*n<es.length+6 then none else embM n es
theorem left_nil {H:Nat->Nat->Prop} (hR:aV n es) (hA:D3 es) (D:QG (eN n es)) (I:Z8 n es H S) (h:OW es H=0):S.left=[]:=by
 rcases run_ok hR hA D 0 H S I NH with⟨a,-⟩|⟨b,c,a,-,h3⟩
 all_goals grind [runM]
theorem run_nil (h:S.left=[]):∀k,runM n rows k S=some S
 |0=>rfl
 |k+1=>by grind [runM.eq_2]
theorem lx.rlF {on:List Bool} {b d:Cs} (S:lx g h B O n rows bv fv iv lv us ws cs on b d left):RL (RL RP) h fv (b.map kz):=
 ⟨us,(GS.cs S.gF).rs,by grind [lx.uL],fun i x u a e=>by
  rw[Yq]at a;cases c:b[i]? with
  |none=>grind
  |some f=>
   rw[c]at a;simp at a;subst a;exact(S.cF i u f e c).le Nn.RP S.le⟩
theorem face_bd {r:Nat->II} {F:Cs} (G:vy n r F):∀f∈F,(∀x∈f,x<n)/\f.length<=n:=fun f hf=>by
 have a:∀x∈f,x<n:=fun x b=>G.Rl.lt _ _ (G.O.df G.Rl hf b);refine⟨a,?_⟩;have:=tf (G.O.nd f hf) (B:=List.range n) fun v c=>iy.2 (a v c)
 grind
theorem row_pos (a:zW n es) (hR:aV n es) (b:v<n):0<((Zh n es).getD v []).length:=by
 obtain⟨w,hw⟩:=a.ne hR b;obtain⟨u,c,e⟩:=xD ((aU hR).2 ⟨w,hw⟩)
 grind [qG,Av.back]
theorem row_le (b:v<n):((Zh n es).getD v []).length<=2*es.length:=by
 have a:v<(Zh n es).length:=by grind [Xq]
 rw[D4 a];exact bV n es _ (ZT a)
def GRc (h:AHeap) (v:Value) (G:GM):Prop:=∃a,v=.agg #[.int .i64 G.n,a]/\PR h a G.es/\okc 2 a
def GRc.gr {v:Value} (g:GRc h v G):GR h v G:=by
 obtain⟨a,b,h2,-⟩:=g;exact⟨a,b,h2⟩
def EmbIs (G:GM) (h':AHeap) (a:Value) (e:Int):Prop:=
 (¬bX G/\e=20/\a=rW)\/(bX G/\¬zW G.n.toNat G.es/\e=60/\a=rW)\/
 (bX G/\zW G.n.toNat G.es/\embX G.n.toNat G.es=none/\¬XU G.n.toNat (eN G.n.toNat G.es)/\e=90/\a=rW)\/
 (bX G/\zW G.n.toNat G.es/\∃rs,embX G.n.toNat G.es=some rs/\Av G.n.toNat G.es rs/\Flat G.n.toNat (Xl rs)/\e=0/\RL (RL RP) h' a rs)
theorem Im (t:LA) (v:Value) (G:GM) (h:AHeap) (hg:GRc h v G):
  AC Tryz.prog t 19 [v] h fun x h'=>Le h h'/\∃rv e,x=.tuple #[rv,.int .i64 e]/\EmbIs G h' rv e:=by
 have z:=hg.gr;obtain⟨ev,rfl,N,hc⟩:=hg;obtain⟨gn,es⟩:=G;simp only at N;refine AC.vE ⟨Tryz.func19,rfl,WY⟩ Tryz.ntmps19 Tryz.results19 fun Q=>?_;simp only[Br,Nat.reduceAdd];obtain⟨h1,b1,p,aC,-,R⟩:=r8 (n:=gn) Q N
 generalize h.next=B1 at*
 have T:=R h1 (Le.refl _);refine Sk (XC b1 T.1) ?_;refine TC.intro PJ ⟨pE,rfl,WY⟩ (ak t _ _ h1 (z.le p)) ?_;rintro x h2 aD ⟨⟨U,rfl,i⟩,m⟩;cases U with
 |false=>
  refine Uy ?_;exact⟨p.trans m,_,_,rfl,.inl ⟨(fun d=>by grind),rfl,rfl⟩⟩
 |true=>
 have d:=i.1 rfl;clear i;have h0:0<=gn:=d.n0;obtain⟨n,rfl⟩:=WA h0;have ay:(n:Int)<=200:=d.n1;have az:es.length<=594:=d.len;have hR:=d.GD;have hA:D3 es:=d.q9;have a:=p.trans m;refine Sk ((R h2 m).1) ?_;refine TC.intro PJ ⟨Tryz.func51,rfl,WY⟩ (Nb t _ n es h2 (z.le a) d) ?_;rintro x h3 aF ⟨⟨U,rfl,i⟩,j⟩;have fT:=R h3 (m.trans j);cases U with
 |false=>
  refine Uy ?_;exact⟨a.trans j,_,_,rfl,.inr (.inl ⟨d,(fun q=>by cases i.2 q),rfl,rfl⟩)⟩
 |true=>
 have l:=i.1 rfl;clear i;have aH:=l.n3;have lP:=fun g=>N.len g;have A:awrap .i64 (3*(n:Int))=3*(n:Int):=ie _ NH NH;have C:awrap .i64 (3*(n:Int)-6)=3*(n:Int)-6:=ie _ NH NH;by_cases c1:3*n<es.length+6
 .have d1 : decide ((es.length : Int) > 3 * (n : Int) - 6) = true := decide_eq_true NH
  simp only[HO,Nat.reduceLT,↓reduceIte,Nat.reduceEqDiff,reduceCtorEq,Ii,Di,Ip,XJ,fT.2.1,fT.2.2,lP,A,C,d1];exact⟨a.trans j,_,_,rfl,.inr (.inr (.inl ⟨d,l,if_pos c1,many_no d l c1,rfl,rfl⟩))⟩
 have d1:decide ((es.length:Int)>3*(n:Int)-6)=false:=decide_eq_false NH;simp only[HO,Nat.reduceLT,↓reduceIte,Nat.reduceEqDiff,reduceCtorEq,Ii,Di,Ip,XJ,fT.2.1,fT.2.2,fT.1,lP,A,C,d1];refine TC.intro PJ ⟨Tryz.func52,rfl,WY⟩ (Si t ev n es h3 (N.le (a.trans j)) hc d l) ?_;rintro x h4 w4 ⟨g4,B,O,bv,u,w,y,us,ws,cs,rfl,V,S4,Rg⟩;have I0:=Rg.start hR hA (L:=MF n (Qw n (sortP (ZH (zl n es)))) es) uY;have hX:embX n es=(runM n (Zh n es) es.length (RB n es)).map fun S=>xY n (Zh n es) S.Jv:=if_neg c1;have D:=l.Z7 hR;have E:OW es (Ei (zl n es))<=es.length:=OM _ _;have F:=(a.trans j).trans V;refine Uy ?_;refine lIn (fun k fr W=>∃(S:kR) (H:Nat->Nat->Prop) (g:AHeap) (u w y:Value) (us ws cs:List Value),fr=mkF [(4,.pointer (some ⟨B,0,none⟩))]/\Z8 n es H S/\runM n (Zh n es) es.length (RB n es)=runM n (Zh n es) k S/\OW es H<=k/\
   lx g W B O n (Zh n es) bv u w y us ws cs S.on S.Jv S.Jv S.left/\Le g4 g) ⟨RB n es,_,g4,u,w,y,us,ws,cs,rfl,I0,rfl,E,S4,Le.refl _⟩ ?_
 clear S4 I0 E w4;clear h4 u w y us ws cs;rintro k fr W aJ ⟨S,H,g,u,w,y,us,ws,cs,rfl,I,b,hu,o,X⟩;have J:=sB B 5 NH;have lL:=o.lenL;by_cases c:S.left=[]
 .have Y : decide ((S.left.length : Int) > 0) = false := by rw [c]; rfl
  refine Sk (xU J o.f.l5 lL Y) ?_;rw[run_nil c]at b;obtain⟨r,Z,fl,hm⟩:=I.done c;obtain⟨k1,k2⟩:=circ_ok d l Z fl hm;have K:=face_bd Z;have aK:=I.My;refine TC.intro PJ ⟨Tryz.func54,rfl,WY⟩ (pY t B n bv _ u w y (Zh n es) S.Jv W o.f (o.cB.le (Nn.RL Nn.RP) o.le) o.rlF (Xq n es) (fun v hv=>⟨row_pos l hR hv,by have:=row_le (es:=es) hv;omega⟩) (fun f hf=>⟨(K f hf).1,by have:=(K f hf).2;omega⟩) NH NH NH (circ_hit d l Z hm)) ?_;rintro x h9 w9 ⟨hx,l9⟩;refine Uy ?_;refine⟨((F.trans X).trans o.le).trans l9,x,_,rfl,.inr (.inr (.inr ⟨d,l,_,?_,k1,k2,rfl,hx⟩))⟩
  grind
 .have Y : decide ((S.left.length : Int) > 0) = true := by grind [List.length_pos_iff]
  obtain⟨k',rfl⟩:∃k',k=k'+1:=by
   cases k<;>grind [left_nil]
  refine Sk (xU J o.f.l5 lL Y) ?_;refine TC.intro PJ ⟨Tryz.func53,rfl,WY⟩ (lay_any t o d D I c) ?_;rintro x h9 w9 ⟨g9,M,l9,s⟩;rw[runM,if_neg c]at b;rcases s with⟨q1,rfl⟩|⟨S',aa,ae,ag,aj,al,aq,q1,rfl,ar⟩
  .rw [q1] at b
   refine Uy ?_;have av:¬XU n (eN n es):=by grind [Z8.lay]
   refine⟨((F.trans X).trans M).trans l9,_,_,rfl,.inr (.inr (.inl ⟨d,l,?_,av,rfl,rfl⟩))⟩
   grind
  .rw [q1] at b
   refine Uy ?_;obtain⟨P,I',aP⟩:∃P,Z8 n es P S'/\OW es P<OW es H:=by grind [Z8.lay]
   exact lgA (mg _) ⟨S',P,g9,aa,ae,ag,aj,al,aq,rfl,I',b,NH,ar,X.trans M⟩
end
end Go.Fw
namespace Go.Fw
open Go.Proofs
attribute [local irreducible] Jz JL vq cQ
def okB (n:Int) (es:List Pr) (i:Nat):Bool:=match es[i]? with
 |some p=>decide (0<=p.1)&&decide (p.1<p.2)&&decide (p.2<n)&&(i==0||match es[i-1]? with|some q=>decide (Nz q p<0)|none=>true)
 |none=>true
theorem V5 {n:Int} {es:List Pr} (a:0<=n) (b:n<=200) (c:es.length<=594) (hd:(List.range es.length).all (okB n es)=true):bX ⟨n,es⟩:=by
 refine⟨a,b,c,fun i hi p d=>?_⟩;have:=ff.1 hd i (iy.2 hi)
 grind [okB]
attribute [local instance] Classical.propDecidable in
theorem tT {n:Nat} {es:List Pr} {rs:AM} (a:bX ⟨(n:Int),es⟩) (G:Av n es rs) (b:0<n) (c:∀v,v<n->Pu es 0 v) (hf:n+(IN n rs).length=es.length+2):XU n (eN n es):=
 Vg a.GD a.q9 G ((En a.GD a.q9 G).1 ((vS a.GD a.q9 G b c).2 fun _=>hf))
attribute [local instance] Classical.propDecidable in
theorem two_of {n:Nat} {es:List Pr} (b:bX ⟨(n:Int),es⟩) (h3:3<=n) (a:es≠[]) (c:∀v,v<n->Pu es 0 v) (hb:(vq n es).length=1):zW n es:=
 (Uv b h3 (join_of b.GD NH a c).2).1 hb
def c4E:List Pr:=[(0,1),(0,3),(1,2),(2,3)]
def m5E:List Pr:=[(0,2),(0,3),(0,4),(1,2),(1,3),(1,4),(2,3),(2,4),(3,4)]
def k5L:List Pr:=(0,1)::m5E
def E9:List Pr:=[(0,3),(0,4),(0,5),(1,3),(1,4),(1,5),(2,3),(2,4),(2,5)]
def c4R:bX ⟨((4:Nat):Int),c4E⟩:=V5 WY WY WY iw
def m5R:bX ⟨((5:Nat):Int),m5E⟩:=V5 WY WY WY iw
def k5R:bX ⟨((5:Nat):Int),k5L⟩:=V5 WY WY WY iw
def agB:bX ⟨((6:Nat):Int),E9⟩:=V5 WY WY WY iw
theorem Jy {n:Nat} {es:List Pr} {E:Nat->II} (hR:aV n es) (a:∀v w,w∈E v->v<n/\w<n) (h:∀v,v<n->∀w,w<n->(w∈eN n es v↔w∈E v)):∀v w,w∈eN n es v↔w∈E v:=by grind [vD,Jp.lt]
theorem k5N:¬XU 5 (eN 5 k5L):=fun h=>afV (qL0 5) ((XU.qE (Jy k5R.GD (by grind [pZ]) iw)).1 h)
theorem k33N:¬XU 6 (eN 6 E9):=fun h=>afg (qL0 6) ((XU.qE (Jy agB.GD (fun v w q=>by grind [Vb]) iw)).1 h)
section
variable {G : GM} {h : AHeap} {rv : Value} {e : Int}
theorem EmbIs.XK (I:EmbIs G h rv e) (b:bX G) (c:zW G.n.toNat G.es) (d:XU G.n.toNat (eN G.n.toNat G.es)):∃rs,embX G.n.toNat G.es=some rs/\Av G.n.toNat G.es rs/\Flat G.n.toNat (Xl rs)/\e=0/\RL (RL RP) h rv rs:=by
 rcases I with⟨a,_⟩|⟨_,a,_⟩|⟨_,_,_,h2,_⟩|⟨_,_,h2⟩
 all_goals grind
end
end Go.Fw
namespace Go.Fw
section
attribute [local instance] Classical.propDecidable
open Go.Proofs
variable {es:List Pr} {n:Nat}
theorem jt (c:0<n) (h:∀u v,u<n->v<n->Pu es u v):(Es n es).length=1:=by
 have m0:0∈Es n es:=by grind [QO]
 have nd:=qD n es
 match hh:Es n es with
 |[]=>grind
 |[_]=>rfl
 |a::b::l=>
  have ha:a∈Es n es:=by rw[hh];simp
  have hb:b∈Es n es:=by rw[hh];simp
  grind [QO]
end
end Go.Fw
namespace Go.Fw
open Go.Proofs
attribute [local instance] Classical.propDecidable
inductive Rc (A:Nat->Nat->Prop) (c:Nat):Nat->Nat->Prop
 |refl {u:Nat}:Rc A c u u
 |step {u v w:Nat}:Rc A c u v->A v w->v≠c->w≠c->Rc A c u w
section
variable {A B : Nat → Nat → Prop} {c u v w a b n : Nat}
theorem Rc.trans (h:Rc A c u v) (k:Rc A c v w):Rc A c u w:=by induction k with|refl=>exact h|step _ a d h2 e=>exact e.step a d h2
theorem Rc.one (h:A u v) (d:u≠c) (h2:v≠c):Rc A c u v:=Rc.refl.step h d h2
theorem Rc.symm (sy:∀x y,A x y->A y x) (h:Rc A c u v):Rc A c v u:=by
 induction h with
 |refl=>exact .refl
 |step _ a d h2 e=>exact(Rc.one (sy _ _ a) h2 d).trans e
theorem Rc.sub (h:∀x y,A x y->x≠c->y≠c->Rc B c x y) (k:Rc A c u v):Rc B c u v:=by
 induction k with|refl=>exact .refl|step _ a d h2 e=>exact(by grind [Rc.trans])
def upA (A:Nat->Nat->Prop) (a b m x y:Nat):Prop:=(A x y/\¬(x=a/\y=b)/\¬(x=b/\y=a))\/(x=m/\(y=a\/y=b))\/(y=m/\(x=a\/x=b))
end
section
variable {n : Nat} {es : List Pr}
abbrev sg (L:List Pr):List Pr:=sortP (L.map lZ)
theorem adj_sg (L:List Pr) (x y:Nat):Jp (sg L) x y↔Jp L x y:=by
 have key:∀p:Pr,lZ p=((x:Int),(y:Int))->p=((x:Int),(y:Int))\/p=((y:Int),(x:Int)):=by grind [lZ]
 have d:∀p:Pr,lZ p=((y:Int),(x:Int))->p=((x:Int),(y:Int))\/p=((y:Int),(x:Int)):=by grind [lZ]
 have i:lZ ((x:Int),(y:Int))=((x:Int),(y:Int))\/lZ ((x:Int),(y:Int))=((y:Int),(x:Int)):=by simp only[lZ,kc];omega
 have g:lZ ((y:Int),(x:Int))=lZ ((x:Int),(y:Int)):=by simp only[lZ,kc];omega
 unfold Jp sg;simp only[Wb,Z6];constructor
 .rintro (⟨p, f, e⟩ | ⟨p, f, e⟩)
  .rcases key p e with rfl|rfl<;>simp[f]
  .rcases d p e with rfl|rfl<;>simp[f]
 .rintro (h | h)
  .exact pw
  .exact pw
theorem aV.up {m:Nat} (h:aV n es) (e:n<=m):aV m es:=fun p d=>by have:=h p d;omega
theorem acv (hR:aV n es) {m:Nat} (d:n<=m):XU m (eN m es)↔XU n (eN n es):=by
 obtain⟨k,rfl⟩:=afK d;have:=XU.mores (n:=n) (E:=eN n es) (fun v w h=>(((vD hR).1 h).lt hR).1) k;rw[<-this];exact(by grind [XU.congr,vD,aV.up])
end
end Go.Fw
namespace Go.Fw
open Go.Proofs
attribute [local irreducible] Kp MQ lU KO1 KO KN KX KE VK Kl ZJ TC aab
attribute [local instance] Classical.propDecidable
section
variable {n a b : Nat} {L1 L2 : List Pr}
theorem less_adj (h:bX ⟨(n:Int),L1++((a:Int),(b:Int))::L2⟩) (x y:Nat):Jp (L1++L2) x y↔Jp (L1++((a:Int),(b:Int))::L2) x y/\¬(x=a/\y=b)/\¬(x=b/\y=a):=by
 have hR:=h.GD;have nd:=(show D3 (L1++((a:Int),(b:Int))::L2)from h.q9).nodup;have e:=hR _ (show((a:Int),(b:Int))∈L1++((a:Int),(b:Int))::L2 by simp);simp only at e;have no:((a:Int),(b:Int))∉L1++L2:=(aaf.1 (List.perm_middle.nodup_iff.1 nd)).1;have c:((b:Int),(a:Int))∉L1++L2:=fun q=>by
  have:=hR ((b:Int),(a:Int)) pw;simp only at this;omega
 unfold Jp;simp only[qL7,EL,kc]at no c ⊢;constructor
 .intro q
  refine⟨by rcases q with q|q<;>grind,fun w=>?_,fun w=>?_⟩
  .obtain⟨rfl,rfl⟩:=w;exact q.elim no c
  .obtain⟨rfl,rfl⟩:=w;exact q.elim c no
 .rintro ⟨q, d, h2⟩
  grind
end
end Go.Fw
namespace Go.Fw
section
attribute [local irreducible] Jz JL vq cQ
open Go.Proofs
variable {b l:List Pr} {n:Nat}
def aag (n:Nat) (b:List Pr):II:=(List.range n).filter fun v=>b.any fun p=>aO p (v:Int)
def abD (n:Nat) (b:List Pr) (x:Int):Nat:=(aag n b).countP fun(v:Nat)=>decide ((v:Int)<x)
def aat (n:Nat) (b:List Pr):List Pr:=b.map fun p=>((abD n b p.1:Int),(abD n b p.2:Int))
def adJ (b:List Pr):RZ:=b.flatMap fun p=>[p.1,p.2]
theorem aeS (b:List Pr) (x:Int):x∈adJ b↔∃p∈b,aO p x=true:=by
 simp only[adJ,Yi,aO,EL,EP,or_false,ac0,decide_eq_true_eq];constructor
 .rintro⟨p,a,h⟩;exact pw
 .rintro⟨p,a,h⟩;exact pw
def aeT {v:Nat}:v∈aag n b↔v<n/\∃p∈b,aO p (v:Int)=true:=by simp[aag]
theorem adX (hR:aV n b):Lib.compact (qC (adJ b))=kz (aag n b):=by
 refine wP _ _ (bT (aQ _)) ?_ fun x=>?_
 .unfold kz
  rw[wI];exact(pz.filter _).imp fun h=>by omega
 .rw [jn, Wv, aeS]
  simp only[kz,Z6,aeT];constructor
  .rintro ⟨p, a, h⟩
   obtain⟨c,h2,h3⟩:=hR p a;have h':=h;simp only[aO,ac0,decide_eq_true_eq]at h';refine⟨x.toNat,⟨NH,p,a,?_⟩,NH⟩;rwa[Int.toNat_of_nonneg NH]
  .rintro ⟨v, ⟨d, p, a, h⟩, rfl⟩
   exact⟨p,a,h⟩
def aaV (n:Nat) (b:List Pr):Prop:=
 b.length<9\/(bX ⟨((aag n b).length:Int),aat n b⟩/\zW (aag n b).length (aat n b)/\XU (aag n b).length (eN (aag n b).length (aat n b)))
def aak (n:Nat) (es:List Pr):Prop:=bX ⟨(n:Int),es⟩/\∀b∈vq n es,aaV n b
attribute [local instance] Classical.propDecidable in
noncomputable def findM (n:Nat):Nat->Nat->List Pr->List Pr
 |0,_,l=>l
 |f+1,i,l=>if i<l.length then(if aak n (l.eraseIdx i)then findM n f (i+1) l else findM n f i (l.eraseIdx i))else l
attribute [local instance] Classical.propDecidable in
noncomputable def abv (G:GM):List Pr:=if aak G.n.toNat G.es then[]else findM G.n.toNat G.es.length 0 G.es
def abQ {n:Nat} {l:List Pr} (h:∀i,i<l.length->aak n (l.eraseIdx i)):∀f i,findM n f i l=l
 |0,i=>rfl
 |f+1,i=>by
  rw[findM];split
  .rename_i hi
   rw[if_pos (h i hi)];exact abQ h f (i+1)
  .rfl
def abo {f i:Nat} (hi:i<l.length) (h:¬aak n (l.eraseIdx i)):findM n (f+1) i l=findM n f i (l.eraseIdx i):=by rw[findM,if_pos hi,if_neg h]
variable {c es:List Pr} {m:Nat}
def aco (es:List Pr) (n:Nat) (a:II):II:=(List.range n).filter fun v=>a.contains v||a.any fun p=>hasB es ((p:Int),(v:Int))||hasB es ((v:Int),(p:Int))
def conB (n:Nat) (es:List Pr):Bool:=(List.range n).all fun v=>(it (aco es n) n [0]).contains v
def con_chk (h:conB n es=true):∀v,v<n->Pu es 0 v:=by
 have:∀k,∀v∈it (aco es n) k [0],Pu es 0 v:=by
  intro k
  induction k with
  |zero=>
   intro v a;have:v=0:=by simpa[it]using a
   subst this;exact Pu.refl _ _
  |succ k c=>
   intro v a;have a:v∈aco es n (it (aco es n) k [0]):=a;simp only[aco,aax,dU,ac0,rY,aeP]at a;rcases a.2 with b|⟨p,d,b⟩
   .exact c v b
   .exact tM (c p d) b
 intro v a;exact this n v (dU.1 (ff.1 h v (iy.2 a)))
theorem abX {rs:AM} {hs:List (H8×Nat)} (d1:(List.range es.length).all (okB 5 es)=true) (d2:conB 5 es=true) (d3:(vq 5 es).length=1) (d4:(List.range 5).all (fun v=>(rs.getD v []).isPerm ((Zh 5 es).getD v []))=true) (d5:Cert 5 (Xl rs) hs) (c:es.length=9) (d:rs.length=5) (e:hs.length=6:=by rfl):
  bX ⟨((5:Nat):Int),es⟩/\zW 5 es/\XU 5 (eN 5 es):=by
 have a:bX ⟨((5:Nat):Int),es⟩:=by grind [V5]
 have b:=con_chk d2;have G:Av 5 es rs:=rotG_of d d4;refine⟨a,two_of a WY pw b d3,tT a G WY b ?_⟩;rw[X9 a G d5,jz,e,c]
def m5_all:∀i,i<10->bX ⟨((5:Nat):Int),k5L.eraseIdx i⟩/\zW 5 (k5L.eraseIdx i)/\XU 5 (eN 5 (k5L.eraseIdx i)):=fun i hi=>by
 match i,hi with
 |0,_=>exact abX (rs:=[[2,3,4],[4,3,2],[3,0,4,1],[4,0,2,1],[2,0,3,1]]) (hs:=[((0,2),3),((0,3),3),((0,4),3),((1,2),3),((1,3),3),((1,4),3)]) iw iw iw iw iw rfl rfl
 |1,_=>exact abX (rs:=[[1,3,4],[3,0,4,2],[4,3,1],[4,0,1,2],[1,0,3,2]]) (hs:=[((0,1),3),((0,3),3),((0,4),3),((1,2),3),((1,3),3),((2,3),3)]) iw iw iw iw iw rfl rfl
 |2,_=>exact abX (rs:=[[1,2,4],[2,0,4,3],[4,0,1,3],[4,2,1],[1,0,2,3]]) (hs:=[((0,1),3),((0,2),3),((0,4),3),((1,2),3),((1,3),3),((2,4),3)]) iw iw iw iw iw rfl rfl
 |3,_=>exact abX (rs:=[[1,2,3],[2,0,3,4],[3,0,1,4],[1,0,2,4],[3,2,1]]) (hs:=[((0,1),3),((0,2),3),((0,3),3),((1,2),3),((1,4),3),((2,3),3)]) iw iw iw iw iw rfl rfl
 |4,_=>exact abX (rs:=[[3,1,4,2],[0,3,4],[4,3,0],[4,1,0,2],[0,1,3,2]]) (hs:=[((0,1),3),((0,2),3),((0,3),3),((0,4),3),((1,4),3),((2,3),3)]) iw iw iw iw iw rfl rfl
 |5,_=>exact abX (rs:=[[2,1,4,3],[0,2,4],[4,1,0,3],[4,2,0],[0,1,2,3]]) (hs:=[((0,1),3),((0,2),3),((0,3),3),((0,4),3),((1,4),3),((2,4),3)]) iw iw iw iw iw rfl rfl
 |6,_=>exact abX (rs:=[[2,1,3,4],[0,2,3],[3,1,0,4],[0,1,2,4],[3,2,0]]) (hs:=[((0,1),3),((0,2),3),((0,3),3),((0,4),3),((1,3),3),((2,3),3)]) iw iw iw iw iw rfl rfl
 |7,_=>exact abX (rs:=[[1,2,4,3],[4,2,0,3],[0,1,4],[4,1,0],[0,2,1,3]]) (hs:=[((0,1),3),((0,2),3),((0,3),3),((0,4),3),((1,2),3),((1,4),3)]) iw iw iw iw iw rfl rfl
 |8,_=>exact abX (rs:=[[1,2,3,4],[3,2,0,4],[0,1,3],[0,2,1,4],[3,1,0]]) (hs:=[((0,1),3),((0,2),3),((0,3),3),((0,4),3),((1,2),3),((1,3),3)]) iw iw iw iw iw rfl rfl
 |9,_=>exact abX (rs:=[[1,3,2,4],[2,3,0,4],[0,3,1,4],[0,1,2],[2,1,0]]) (hs:=[((0,1),3),((0,2),3),((0,3),3),((0,4),3),((1,2),3),((1,3),3)]) iw iw iw iw iw rfl rfl
def k5U:List Pr:=[(1,2),(1,3),(1,4),(1,5),(2,3),(2,4),(2,5),(3,4),(3,5),(4,5)]
def k6L:List Pr:=[(0,1),(0,2),(0,3),(0,4),(0,5)]++k5U
def k6R:bX ⟨((6:Nat):Int),k6L⟩:=V5 WY WY WY iw
def k5UR:bX ⟨((6:Nat):Int),k5U⟩:=V5 WY WY WY iw
def dnV (v:Nat):Nat:=(v+5)%6
def upV (v:Nat):Nat:=(v+1)%6
def k5U_no:¬XU 6 (eN 6 k5U):=fun a=>by
 have N:Ren 6 dnV upV:=⟨WY,WY,WY,WY⟩;have K:∀v,v<6->∀w,w<6->(w∈Hr v↔upV w∈eN 6 k5U (upV v)):=by decide+kernel
 refine afV (n:=6) WY (a.ren N fun v w=>?_);constructor
 .intro h
  have h':=pZ.1 h;exact⟨NH,NH,(K v NH w NH).1 h⟩
 .rintro ⟨b, hw, h⟩
  exact(K v b w hw).2 h
def more_no (hR:aV 6 es) (hs:∀p∈k5U,p∈es):¬XU 6 (eN 6 es):=fun a=>by
 refine k5U_no (a.less (fun v w h=>?_) (fun v w h=>?_))
 .rw [vD hR]
  exact((vD k5UR.GD).1 h).imp (hs _) (hs _)
 .exact(vD k5UR.GD).2 ((vD k5UR.GD).1 h).symm
theorem acG (a:bX ⟨(n:Int),es⟩) (h:es.length<9):aak n es:=
 ⟨a,fun b hb=>by
  obtain⟨i,hi⟩:=IE.1 hb;obtain⟨k,-,rfl⟩:=Jh hi;exact .inl (by grind [List.length_filter_le])⟩
def aa4 (a:bX ⟨(n:Int),es⟩) (hb:vq n es=[b]):aak n es↔aaV n b:=by
 unfold aak;rw[hb];simp[a]
def af9 (a:(aag n b).length=m) (h2:aat n b=c) (h:bX ⟨(m:Int),c⟩/\zW m c/\XU m (eN m c)):aaV n b:=by
 subst a h2;exact .inr h
def abK (a:(aag n b).length=m) (h2:aat n b=c) (d:9<=b.length) (h:¬XU m (eN m c)):¬aaV n b:=by
 subst a h2;rintro(h3|h3)
 .omega
 .exact h h3.2.2
def aga:∀i,i<10->aak 5 (k5L.eraseIdx i):=fun i hi=>by
 have h:=m5_all i hi;have hb:∀i,i<10->vq 5 (k5L.eraseIdx i)=[k5L.eraseIdx i]/\(aag 5 (k5L.eraseIdx i)).length=5/\aat 5 (k5L.eraseIdx i)=k5L.eraseIdx i:=by decide+kernel
 obtain⟨a,b,c⟩:=hb i hi;exact(aa4 h.1 a).2 (af9 b c h)
def k5U_plan:∀i,i<10->aak 6 (k5U.eraseIdx i):=fun i hi=>by
 have h:=m5_all i hi;have hb:∀i,i<10->vq 6 (k5U.eraseIdx i)=[k5U.eraseIdx i]/\(aag 6 (k5U.eraseIdx i)).length=5/\aat 6 (k5U.eraseIdx i)=k5L.eraseIdx i:=by decide+kernel
 obtain⟨a,b,c⟩:=hb i hi;exact(aa4 (k5UR.sub (Ex ..)) a).2 (af9 b c h)
def k5_np:¬aak 5 k5L:=fun h=>abK (n:=5) (b:=k5L) (m:=5) (c:=k5L) iw iw WY k5N ((aa4 (b:=k5L) k5R iw).1 h)
def k5U_np:¬aak 6 k5U:=fun h=>abK (n:=6) (b:=k5U) (m:=5) (c:=k5L) iw iw WY k5N ((aa4 (b:=k5U) k5UR iw).1 h)
def adY:∀j,j<6->¬aak 6 (k6L.drop j):=fun j l h=>by
 have hb:∀j,j<4->vq 6 (k6L.drop j)=[k6L.drop j]/\(aag 6 (k6L.drop j)).length=6/\aat 6 (k6L.drop j)=k6L.drop j/\9<=(k6L.drop j).length/\(k5U.all fun p=>hasB (k6L.drop j) p)=true:=by decide+kernel
 by_cases c:j<4
 .obtain ⟨a, d, e, f, g⟩ := hb j c
  exact abK d e f (more_no (k6R.sub (List.drop_sublist ..)).GD fun p i=>(aeP _ _).1 (ff.1 g p i)) ((aa4 (k6R.sub (List.drop_sublist ..)) a).1 h)
 .have k : (vq 6 (k6L.drop 4)).contains k5U = true := by decide +kernel
  obtain rfl|rfl:j=4\/j=5:=NH
  .exact abK (n:=6) (b:=k5U) (m:=5) (c:=k5L) iw iw WY k5N (h.2 k5U (dU.1 k))
  .exact k5U_np h
def k33_np:¬aak 6 E9:=fun h=>abK (m:=6) (c:=E9) iw iw WY k33N ((aa4 (b:=E9) agB iw).1 h)
def k33_plan:∀i,i<9->aak 6 (E9.eraseIdx i):=fun i hi=>
 acG (agB.sub (Ex ..)) ((by decide:∀i,i<9->(E9.eraseIdx i).length<9) i hi)
def agb:aak 4 c4E:=acG c4R WY
def m5_plan:aak 5 m5E:=aga 0 WY
def fnd_k5:abv ⟨((5:Nat):Int),k5L⟩=k5L:=(if_neg k5_np).trans (abQ (l:=k5L) (fun i hi=>aga i hi) _ _)
def fnd_k33:abv ⟨((6:Nat):Int),E9⟩=E9:=(if_neg k33_np).trans (abQ (l:=E9) (fun i hi=>k33_plan i hi) _ _)
def fnd_c4:abv ⟨((4:Nat):Int),c4E⟩=[]:=if_pos agb
def fnd_k6:abv ⟨((6:Nat):Int),k6L⟩=k5U:=by
 refine(if_neg (adY 0 WY)).trans ?_;show findM 6 15 0 (k6L.drop 0)=_;rw[abo WY (adY 1 WY)];show findM 6 14 0 (k6L.drop 1)=_;rw[abo WY (adY 2 WY)];show findM 6 13 0 (k6L.drop 2)=_;rw[abo WY (adY 3 WY)];show findM 6 12 0 (k6L.drop 3)=_;rw[abo WY (adY 4 WY)];show findM 6 11 0 (k6L.drop 4)=_;rw[abo WY (adY 5 WY)];exact abQ (l:=k5U) (fun i hi=>k5U_plan i hi) _ _
theorem abL {k:Int} (a:es.length<=594) (h:(List.range es.length).all (okB 200 es)=true) (e:aaN es=k):aaz es=k:=by rw[aaz,if_pos (by grind [V5])];exact e
def agc:aaz k5L=5:=abL WY iw iw
def kind_m5:aaz m5E=0:=abL WY iw iw
def kind_k5U:aaz k5U=5:=abL WY iw iw
def aeU:aaz E9=33:=abL WY iw iw
def kind_c4:aaz c4E=0:=abL WY iw iw
end
end Go.Fw
