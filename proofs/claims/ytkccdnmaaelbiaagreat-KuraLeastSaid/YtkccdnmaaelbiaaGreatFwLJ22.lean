/- A text. -/
import Derived.Test.YtkccdnmaaelbiaaGreatFwLJ19
set_option linter.all false
set_option maxRecDepth 99999
set_option maxHeartbeats 9999999
namespace Go.Fw
section
attribute [local instance] Classical.propDecidable
attribute [local irreducible] Kp MQ lU rS KO KN KX KE VK Kl ZJ TC aaa
open Go.Proofs
variable {O i k m n:Nat} {bv:Value} {es:List Pr} {g h:AHeap} {l:II}
def box77 (h:AHeap) {n:Int} (hb:xO bv k):aBuild Tryz.prog 77 [(0,.int .i64 n),(1,bv),(2,.slice (some ⟨O,0,none⟩) m m)]=some (.agg #[.int .i64 n,bv,.slice (some ⟨O,0,none⟩) m m,rW,rW,rW])/\
  zF h (.agg #[.int .i64 n,bv,.slice (some ⟨O,0,none⟩) m m,rW,rW,rW])=some (.pointer (some ⟨h.next,0,none⟩),h.alloc (.cells [.int .i64 n,bv,.slice (some ⟨O,0,none⟩) m m,rW,rW,rW])):=by
 obtain⟨_,_,rfl,_⟩:=hb;exact⟨by kernel_rfl,by kernel_rfl⟩
theorem RO (hi:i<l.length):(ZH l).take (i+1)=(ZH l).take i++[GW l[i] (l.getD ((i+1)%l.length) 0)]:=by grind [ZH,List.take_succ_eq_append_getElem]
theorem F9 (l:II):(ZH l).length=l.length:=by simp[ZH]
theorem ring_bd (R:Ho n es l) (hR:aV n es) (d:n<=200):∀p∈ZH l,∃a b:Nat,p=((a:Int),(b:Int))/\a<1000/\b<1000:=fun p c=>by
 obtain⟨a,b,rfl,e,h2⟩:=jB hR (R.ik hR c)
 grind
theorem eP (R:Ho n es l) (hR:aV n es):l.length<=n:=by
 have:=tf R.nd (B:=List.range n) fun v a=>j9.2 (R.lt hR a)
 grind
theorem rt_b (h:l.length<=n) (h2:(n:Int)<=200):((ZH l).take i).length+1<=100000:=by grind [F9]
theorem tk_b {a:List FM} (h:a.length<=m) (b:m<=594) (F:FM->wW):((a.take i).map F).length<=100000:=pw
def pN {a b c:Value} (ha:xO a n) (hb:xO b m) (d:xO c k):aBuild Tryz.prog 125 [(0,a),(1,b),(2,c)]=some (.agg #[a,b,c]):=by
 obtain⟨_,_,rfl,_⟩:=ha;obtain⟨_,_,rfl,_⟩:=hb;obtain⟨_,_,rfl,_⟩:=d;kernel_rfl
def le_rem (X:II) (l:Le g h) (a:∀b∈X,g.own b=none):Le g (rem X h):=l.iV a
theorem Si (K:LA) (ev:Value) (n:Nat) (es:List Pr) (h:AHeap) (hp:PR h ev es) (hc:okc 2 ev) (hr:bX ⟨(n:Int),es⟩) (T2:zW n es):
  AC Tryz.prog K 52 [.agg #[.int .i64 n,ev]] h fun x h'=>∃g' B O bv fv iv M us ws cs,x=.pointer (some ⟨B,0,none⟩)/\Le h g'/\
   lx g' h' B O n (Zh n es) bv fv iv M us ws cs (RB n es).on (RB n es).Jv (RB n es).Jv (RB n es).left/\Ho n es (zl n es):=by
 have hR:=hr.GD;have hA:=hr.q9;have bk:(n:Int)<=200:=hr.n1;have c0:es.length<=594:=hr.len;obtain⟨p0,rest,ae⟩:=EP (T2.es_ne hR);obtain⟨a,b,rfl,gU,hb⟩:=jB hR (show p0∈es by grind);have eF:es.drop 1=rest:=by rw[ae];rfl
 have eG:bX ⟨(n:Int),rest⟩:=by grind [bX.tail]
 have ag:Pu rest b a:=T2.less hR NH hb NH fun x y eI gV=>by
  rcases eI with h|h
  .rw [ae] at h
   rcases Z6.1 h with e|h
   .grind
   .exact .inl h
  .rw [ae] at h
   rcases Z6.1 h with e|h
   .grind
   .exact .inr h
 have gZ:rest.length<=594:=pw;refine AC.vE ⟨Tryz.func52,rfl,WY⟩ Tryz.ntmps52 Tryz.results52 fun eL=>?_;simp only[Br,Nat.reduceAdd];obtain⟨h1,b1,c3,eM,-,A⟩:=r8 (n:=(n:Int)) eL hp
 generalize h.next=B1 at*
 have c4:=A h1 (Le.refl _);have aT:=hp.le c3;have c5:=aT.addr (k:=.i64) 0 pw;have eO:=aT.load (i:=0) (p:=((a:Int),(b:Int))) (by rw[ae];rfl);obtain⟨h2,h3,e2,e3,l3,w3,o3⟩:=Ut eM ((a:Int),(b:Int))
 generalize h1.next=E at*
 have fT:=A h3 l3;simp only[sL]at c5;refine Sk (xL b1 @Di @Ip.eq_1 @BS c4.2.2 c5 eO e2 e3) ?_;have eQ:=aT.le l3;obtain⟨rv,N,H,-⟩:=eQ.cut hc (i:=1) pw;rw[eF]at H;simp only[aeP]at N;apply Ya (F:=fun(fr:lC) (h5:AHeap)=>∃(X:Nat) (cv:Value),Fj fr [(1,.pointer (some ⟨B1,0,none⟩)),(3,.pointer (some ⟨E,0,none⟩)),(4,.pointer (some ⟨X,0,none⟩))]/\Le h3 h5/\WF h5/\PR h5 cv rest/\∀g,Le h5 g->aload Tryz.prog g 24 ⟨X,0,none⟩=some (.agg #[.int .i64 n,cv]))
 .intro cont
  refine gh (tA [0,1,2,3,4] (.ch 5 [4] (tA [6] (JQ 7 [] (JQ 8 [0,1,2,3,4,5,6,7] .done))) (JQ 7 [] (JQ 5 [4] (tA [6] (JQ 8 [0,1,2,3,4,5,6,7] .done)))))) ?_
  have eS:∃g,h3.alloc (.cells [.int .i64 0,.slice none 0 0])=g/\Le h3 g/\WF g/\g.own h3.next=some (.cells [.int .i64 0,.slice none 0 0]):=Tt w3 _
  obtain⟨q1,y1,m1,v1,u1⟩:=eS
  have aW:aAlloc Tryz.prog h3 24=some (.pointer (some ⟨h3.next,0,none⟩),q1):=by rw[Lo,y1]
  have Q1:=A q1 (l3.trans m1);simp only[qj,Nat.reduceLT,↓reduceIte,Nat.reduceEqDiff,reduceCtorEq,Nat.reduceBEq,Qg,Ii,Di,Ip,BS,fT.2.1,fT.2.2,N,aW,Q1.2.1,Q1.2.2];refine⟨?_,?_⟩
  .refine VA.intro PJ ⟨XV, rfl, WY⟩ (DA K rv rest h3 H NH) ?_
   rintro cv h4 w4 ⟨gc,l4,-⟩;have A4:=A h4 (l3.trans l4);have aj:=Wj (n:=(n:Int)) gc.pr.sl;obtain⟨h5,D,a5,s5,l6,w6,lG⟩:=newG (n:=(n:Int)) w4 gc.pr;have A5:Le h4 h5:=by grind [Lo,Le.refl,Le.alloc]
   have A5:=A h5 ((l3.trans l4).trans A5);have A6:=A D ((l3.trans l4).trans l6);simp only[qj,Nat.reduceLT,↓reduceIte,Nat.reduceEqDiff,reduceCtorEq,Nat.reduceBEq,Qg,Ii,Di,Ip,BS,A4.2.1,A4.2.2,N,aj,a5,s5,A5.2.1,A5.2.2,A6.2.1,A6.2.2];refine KN.UJ fun fr' h' x y=>cont fr' h' ?_;subst x y;exact⟨_,cv,fD,l4.trans l6,w6,gc.pr.le l6,fun g l=>(lG g l).1⟩
  .refine VA.intro PJ ⟨XV, rfl, WY⟩ (DA K rv rest q1 (H.le m1) NH) ?_
   rintro cv h4 w4 ⟨gc,l4,ac⟩;have A4:=A h4 ((l3.trans m1).trans l4);have aj:=Wj (n:=(n:Int)) gc.pr.sl
   have nX:blk cv≠some h3.next:=fun e=>by have:=ac _ e;rw[u1]at this;cases this
   have oX:=l4.own _ _ u1
   have n1:h3.own h3.next=none:=(Le.refl h3).next w3 (Ny _)
   have one:=gc.pr.sl.one;have bm:UA Tryz.prog 24=2:=Ji;have eT:(Value.agg #[.int .i64 (n:Int),cv]).cells=#[.int .i64 (n:Int),cv]:=rfl;have eU:(Value.int IntKind.i64 (n:Int)).oneCell'=true:=rfl
   have st:aStore Tryz.prog h4 24 (.pointer (some ⟨h3.next,0,none⟩)) (.agg #[.int .i64 (n:Int),cv])=some (h4.put h3.next (.cells [.int .i64 (n:Int),cv])):=by simp[aStore,oX,eT,bm,putCells,qS8,one,eU]
   have ho:(h4.put h3.next (.cells [.int .i64 (n:Int),cv])).own h3.next=some (.cells [.int .i64 (n:Int),cv]):=AHeap.Y3 _ _ _
   have l5:Le h3 (h4.put h3.next (.cells [.int .i64 (n:Int),cv])):=(m1.trans l4).put _ n1
   have A5:=A _ (l3.trans l5);simp only[qj,Nat.reduceLT,↓reduceIte,Nat.reduceEqDiff,reduceCtorEq,Nat.reduceBEq,Qg,Ii,Di,Ip,BS,A4.2.1,A4.2.2,N,aj,st,A5.2.1,A5.2.2];refine KN.UJ fun fr' h' x y=>cont fr' h' ?_;subst x y
   exact⟨h3.next,cv,fD,l5,w4.put _ (w4.lt oX),GP.pr (GS.put gc _ nX),fun g l=>by rw[Wx qS8 rfl bm (l.own _ _ ho) Ma];rfl⟩
 rintro fr h5 ⟨X,cv,G,c6,w5,c9,lX⟩;simp only[Fj]at G;obtain⟨f1,f3,f4,-⟩:=G;have da:=c6.own _ _ o3;refine Sk (Pj f1 f3 f4 (lX h5 (Le.refl _)) @Dh @Z0 @Ip.eq_1 @BS (lK da) (HY da)) ?_;refine TC.intro PJ ⟨Tryz.func90,rfl,WY⟩ (NL K _ ⟨(n:Int),rest⟩ (a:Int) (b:Int) h5 ⟨cv,rfl,c9⟩) ?_;rintro x D w6 ⟨l6,M,er,rfl,gS,I⟩;simp only[yY]at I;obtain⟨k1,k2⟩:=I eG NH NH NH NH;obtain⟨gl,al,db⟩:=k2 (k1.2 ag);obtain⟨eV,Rg⟩:=JM hr ae db ag;rw[eV]at gl;have z:=(l3.trans c6).trans l6;have A6:=A D z;have b5:=aT.le z;have b6:GR D (.agg #[.int .i64 (n:Int),ev]) ⟨(n:Int),es⟩:=⟨ev,rfl,b5⟩;generalize b8:zl n es=l at*;have J:=eP Rg hR;have eW:er=0:=k1.2 ag;subst eW;refine Sk f1 ?_;clear I k1 k2 lX c9;apply Ya (F:=fun(fr:lC) (h9:AHeap)=>∃(B O:Nat) (bv:Value) (R:AHeap),Fj fr [(1,.pointer (some ⟨B1,0,none⟩)),(5,M),(7,.pointer (some ⟨B,0,none⟩))]/\WF h9/\h9.own B=some (.cells [.int .i64 (n:Int),bv,.slice (some ⟨O,0,none⟩) n n,rW,rW,rW])/\h9.own O=some (.cells (Bo (List.replicate n false)))/\B≠O/\Le D R/\R.own B=none/\R.own O=none/\Le R h9/\RL (RL RP) R bv (Zh n es))
 .intro cont
  have bo:Bo (List.replicate n false)=List.replicate n (.bool false):=by simp[Bo]
  obtain⟨q1,y1,m1,v1,u1⟩:=Tt w6 (List.replicate n (.bool false));have aW:=PO D n NH;rw[y1]at aW;have Q1:=A q1 (z.trans m1);refine gh (tA [0,1,2,4,5] (.ch 3 [2] (JQ 6 [5] (tA [7] (JQ 8 [7] (tA [9] .done)))) (JQ 6 [5] (JQ 3 [2] (tA [7] (JQ 8 [7] (tA [9] .done))))))) ?_;simp only[qj,Nat.reduceLT,↓reduceIte,Nat.reduceEqDiff,reduceCtorEq,Nat.reduceBEq,Qg,f1,Ii,Ip,BS,A6.1,A6.2.1,aW,Q1.1,Q1.2.1];refine⟨?_,?_⟩
  .refine VA.intro PJ ⟨SV, rfl, WY⟩ (oe K _ n es D b6 hr) ?_
   rintro bv Z w7 ⟨r,l7⟩;have A7:=A Z (z.trans l7);obtain⟨h8,y8,l8,w8,o8⟩:=Tt w7 (List.replicate n (.bool false));have dc:=PO Z n NH;rw[y8]at dc;have A8:=A h8 ((z.trans l7).trans l8)
   obtain⟨b9,aq⟩:=box77 h8 (n:=(n:Int)) (O:=Z.next) (m:=n) r.sl
   obtain⟨h9,y9,l9,w9,o9⟩:=Tt w8 [.int .i64 (n:Int),bv,.slice (some ⟨Z.next,0,none⟩) n n,rW,rW,rW]
   rw[y9]at aq;have A9:=A h9 (((z.trans l7).trans l8).trans l9);simp only[qj,Nat.reduceLT,↓reduceIte,Nat.reduceEqDiff,reduceCtorEq,Nat.reduceBEq,Qg,f1,Ii,Ip,BS,A7.1,A7.2.1,A8.1,A8.2.1,A9.1,A9.2.1,dc,b9,aq];refine KN.UJ fun fr' h' x y=>cont fr' h' ?_;rw[x,y]
   exact⟨h8.next,Z.next,bv,Z,(by simp only[Fj,HO,Nat.reduceLT,↓reduceIte,Nat.reduceEqDiff,reduceCtorEq,f1];simp),w9,o9,by rw[bo];exact l9.own _ _ o8,fun e=>by have:=w8.lt o8;omega,l7,l8.next w8 (Ny _),(Le.refl Z).next w7 (Ny _),l8.trans l9,r⟩
  .have hk : Le D (q1.kill D.next) := m1.to_kill ((Le.refl D).next w6 (Ny _))
   refine VA.intro PJ ⟨SV,rfl,WY⟩ (AC.frame u1 (oe K _ n es (q1.kill D.next) (b6.le hk) hr)) ?_
   rintro bv Z w7 ⟨g7,⟨r,l7⟩,dd,rfl⟩;have cc:=hk.trans l7;have aX:=Le.Y5 dd (.cells (List.replicate n (.bool false)))
   have o7:(g7.put D.next (.cells (List.replicate n (.bool false)))).own D.next=some (.cells (List.replicate n (.bool false))):=AHeap.Y3 _ _ _
   generalize g7.put D.next (.cells (List.replicate n (.bool false)))=Z at*
   have A7:=A Z ((z.trans cc).trans aX)
   obtain⟨b9,aq⟩:=box77 Z (n:=(n:Int)) (O:=D.next) (m:=n) r.sl
   obtain⟨h9,y9,l9,w9,o9⟩:=Tt w7 [.int .i64 (n:Int),bv,.slice (some ⟨D.next,0,none⟩) n n,rW,rW,rW]
   rw[y9]at aq;have A9:=A h9 (((z.trans cc).trans aX).trans l9);simp only[qj,Nat.reduceLT,↓reduceIte,Nat.reduceEqDiff,reduceCtorEq,Nat.reduceBEq,Qg,f1,Ii,Ip,BS,A7.1,A7.2.1,A9.1,A9.2.1,b9,aq];refine KN.UJ fun fr' h' x y=>cont fr' h' ?_;rw[x,y]
   exact⟨Z.next,D.next,bv,g7,(by simp only[Fj,HO,Nat.reduceLT,↓reduceIte,Nat.reduceEqDiff,reduceCtorEq,f1];simp),w9,o9,by rw[bo];exact l9.own _ _ o7,fun e=>by have:=w7.lt o7;omega,cc,aX.next w7 (Ny _),dd,aX.trans l9,r⟩
 rintro fr h9 ⟨B,O,bv,R,G,w9,oB,oO,eZ,ar,gB,gO,de,r⟩;simp only[Fj]at G;obtain⟨f1,f5,f7,-⟩:=G;have a6:=gl.le ar;have hj:=al;have lr:∀g,aLen Tryz.prog g 49 M=some (.int .i64 (l.length:Nat)):=fun g=>by
  have:=gl.rl.Uc g
  grind [y6]
 have e0:=sB B 2 NH;simp only[HO,Nat.reduceLT,↓reduceIte,Nat.reduceEqDiff,reduceCtorEq,f5,lr];refine aaa.intro (fun k fr s=>∃(i:Nat) (wv:Value),k=l.length-i/\i<=l.length/\fr=mkF [(1,.pointer (some ⟨B1,0,none⟩)),(5,M),(7,.pointer (some ⟨B,0,none⟩)),(8,wv),(45,M),(46,.int .i64 (l.length:Nat)),(47,.int .i64 (i:Nat))]/\
   s.own B=some (.cells [.int .i64 (n:Int),bv,.slice (some ⟨O,0,none⟩) n n,rW,rW,rW])/\s.own O=some (.cells (Bo (tV (List.replicate n false) (l.take i))))/\Le R s/\GP s wv ((ZH l).take i)/\Z2 R wv/\blk wv≠some B/\blk wv≠some O)
  l.length [(1,.pointer (some ⟨B1,0,none⟩)),(5,M),(7,.pointer (some ⟨B,0,none⟩)),(8,rW),(45,M),(46,.int .i64 (l.length:Nat)),(47,.int .i64 (0:Nat))] (by simp only[Fj,HO,Nat.reduceLT,↓reduceIte,Nat.reduceEqDiff,reduceCtorEq,f1,f5,f7];simp)
  ⟨0,_,rfl,AE _,rfl,oB,oO,de,GP.nil _,fun b hb=>by grind [blk],by simp[blk],by simp[blk]⟩ ?_
 clear f1 f5 f7 oB oO de w9;clear h9;rintro k fr s av ⟨i,wv,rfl,hi,rfl,oB,oO,ay,gw,cd,cf,a7⟩;refine Uy ?_;refine Kl.intro (fun ht=>?_) (fun hf=>?_)
 .have d : i < l.length := CC ht
  clear ht;have e1:=a6.le ay;have ad:∀q,q<l.length->aIndexAddr Tryz.prog 49 M (.int .i64 (q:Int))=some (.pointer (some (elemAddr M q))):=fun q U=>e1.rl.TA q (by rw[y6];exact U);have ld:∀g,Le R g->∀q (U:q<l.length),aload Tryz.prog g 3 (elemAddr M q)=some (.int .i64 ((l.getD q 0:Nat):Int)):=fun g lg q U=>by rw[(a6.le lg).rl.DH q (by rw[y6];exact U),sY U,D4 U]
  have dj:(i+1)%l.length<l.length:=CG _ NH;have hv:l.getD i 0<n:=by rw[D4 d];exact Rg.lt hR (Gw d)
  have cg:l.take (i+1)=l.take i++[l[i]]:=EL d;have dk:=RO d;have e5:l.getD i 0=l[i]:=D4 d;rw[<-e5]at dk cg;have e6:aIndexAddr Tryz.prog 59 (.slice (some ⟨O,0,none⟩) n n) (.int .i64 ((l.getD i 0:Nat):Int))=some (.pointer (some ⟨O,l.getD i 0,none⟩)):=by rw[Wc Uh eY Ji _ hv];simp[Ip]
  have ZA:(tV (List.replicate n false) (l.take i)).length=n:=by
   have:∀(w:II) (o:List Bool),(tV o w).length=o.length:=fun w=>by
    induction w with
    |nil=>intro o;rfl
    |cons x w ih=>intro o;show(tV (o.set x true) w).length=_;grind
   grind
  have e7:(tV (List.replicate n false) (l.take i)).set (l.getD i 0) true=tV (List.replicate n false) (l.take (i+1)):=by rw[cg];unfold tV;grind
  have st:aStore Tryz.prog s 4 (.pointer (some ⟨O,l.getD i 0,none⟩)) (.bool true)=some (s.put O (.cells (Bo (tV (List.replicate n false) (l.take (i+1)))))):=by rw[QB (P:=Tryz.prog) (t:=4) (x:=.bool true) eY Ji oO (off:=l.getD i 0) (by rw[O2,ZA];exact hv) rfl rfl,Tr,e7]
  have e8:aload Tryz.prog s 59 ⟨B,2,none⟩=some (.slice (some ⟨O,0,none⟩) n n):=by rw[Fq Uh rfl oB];rfl
  have w8:WF (s.put O (.cells (Bo (tV (List.replicate n false) (l.take (i+1)))))):=av.put _ (av.lt oO);have e9:(s.put O (.cells (Bo (tV (List.replicate n false) (l.take (i+1)))))).own O=some (.cells (Bo (tV (List.replicate n false) (l.take (i+1))))):=AHeap.Y3 _ _ _;have fb:(s.put O (.cells (Bo (tV (List.replicate n false) (l.take (i+1)))))).own B=some (.cells [.int .i64 (n:Int),bv,.slice (some ⟨O,0,none⟩) n n,rW,rW,rW]):=by grind [AHeap.By]
  have dm:Le R (s.put O (.cells (Bo (tV (List.replicate n false) (l.take (i+1)))))):=ay.put _ gO;have fc:GP (s.put O (.cells (Bo (tV (List.replicate n false) (l.take (i+1)))))) wv ((ZH l).take i):=GS.put gw _ a7;generalize s.put O (.cells (Bo (tV (List.replicate n false) (l.take (i+1)))))=h8 at*;have aw:=Tw i (Lb d (VU J NH));have nz:=Ww d;have fe:=Wt d;have fg:=Y7 (a:=i+1) (FI d) (VU J NH);simp only[HO,Nat.reduceLT,↓reduceIte,Nat.reduceEqDiff,reduceCtorEq,ad i d,ld s ay i d,e0,e8,e6,st,lr,aw,nz,fe,fg,ad _ dj,ld h8 dm _ dj];refine TC.intro PJ ⟨Tryz.func91,rfl,WY⟩ (Ls K (l.getD i 0) (l.getD ((i+1)%l.length) 0) h8) ?_;rintro x h9 w9 ⟨rfl,a8⟩;obtain⟨dp,hl,hn,fh,fi,dq,hy,hz,dv,br⟩:=(fc.le a8).push w9 (GW (l.getD i 0) (l.getD ((i+1)%l.length) 0)) (rt_b J bk);obtain⟨dw,fm⟩:=dv R (dm.trans a8) cd;obtain⟨dz,dA⟩:=br B _ (a8.own _ _ fb) cf;obtain⟨dB,dE⟩:=br O _ (a8.own _ _ e9) a7;rw[<-dk]at dq;simp only[HO,Nat.reduceLT,↓reduceIte,Nat.reduceEqDiff,reduceCtorEq,fh,fi,aw];exact tn (l.length-(i+1)) [(1,.pointer (some ⟨B1,0,none⟩)),(5,M),(7,.pointer (some ⟨B,0,none⟩)),(8,dp),(45,M),(46,.int .i64 (l.length:Nat)),(47,.int .i64 (i+1:Nat))] (JS d) fD
   ⟨i+1,dp,rfl,d,rfl,dz,dB,dw,dq,fm,dA,dE⟩
 have bb:l.length<=i:=vp hf;rw[vZ bb]at oO;rw[vZ (by grind [F9])]at gw;clear bb hf hi;refine Uy ?_;have ck:l.length<=100000:=VU J NH;refine TC.intro PJ ⟨Tryz.func69,rfl,WY⟩ (CH K gw (by rw[F9];exact ck) (ring_bd Rg hR NH)) ?_;rintro x bg fp ⟨rfl,gs,C⟩;have kw:∀b o,s.own b=some o->blk wv≠some b->bg.own b=some o:=fun b o ho hb=>
  (C (rem (bl wv) s) (Sa _ _) fun c hc=>by grind [DC,Zr]).own _ _ (Th.2 ⟨ho,fun m=>hb (Zr.1 m)⟩)
 have bx:=kw B _ oB cf;have bB:=kw O _ oO a7;have az:=C R ay cd;refine Uy ?_;refine TC.intro PJ ⟨ae0,rfl,WY⟩ (QY K M (kz l) bg (a6.le az).rl (by rw[y6];exact ck)) ?_;rintro cm dF fq ⟨dH,dI,cp⟩;refine Uy ?_;refine TC.intro PJ ⟨ae1,rfl,WY⟩ (Wk K cm (kz l) dF dH (by rw[y6];exact ck)) ?_;rintro x V hC ⟨cq,dL,ft⟩;have aD:=dL bg dI cp;have fx:(kz l).reverse=kz l.reverse:=by simp[kz]
 rw[fx]at cq;have bF:=aD.own _ _ bx;have bH:=aD.own _ _ bB;have bI:=az.trans aD;have hX:∀b∈[B,O],R.own b=none:=fun b hb=>by grind
 have W:Le R (rem [B,O] V):=le_rem _ bI hX;have dM:∀b,blk cm=some b->b∉[B,O]:=fun b hb m=>by
  have:=cp b hb
  grind
 have dO:∀b,blk wv=some b->b∉[B,O]:=fun b hb m=>by grind
 have bN:GI (rem [B,O] V) cm (kz l.reverse):=GS.Fi cq dM;have bQ:GP (rem [B,O] V) wv (sortP (ZH l)):=GS.Fi (GP.le gs aD) dO;have bW:=a6.le W;have ZA:(tV (List.replicate n false) l).length=n:=by
  have:∀(w:II) (o:List Bool),(tV o w).length=o.length:=fun w=>by
   induction w with
   |nil=>intro o;rfl
   |cons x w ih=>grind [tV,List.length_set]
  grind
 have S0:lx (rem [B,O] V) V B O n (Zh n es) bv rW rW rW [] [] [] (tV (List.replicate n false) l) [] [] []:={
  f:=⟨bF⟩
  oO:=bH
  ZA:=ZA
  gF:=GS.nil _ _
  uL:=rfl
  u1:=rfl
  gI:=GS.nil _ _
  wL:=rfl
  w1:=rfl
  gL:=GS.nil _ _
  cuL:=.inl rfl
  c1:=rfl
  sep:=⟨fun i j u w b hD hu hw hb=>by
    have:u=rW:=by
     have:=Gc hu;grind
    grind [blk],fun i u b hu hb=>by
    grind [blk],fun i u hu b hb=>by grind [blk],Sa _ _⟩
  gB:=by grind [DC]
  gO:=by grind [DC]
  bO:=eZ
  nb:=fun u hu=>by grind [blk]
  cF:=fun i u f hu=>by simp at hu
  cI:=fun i u f hu=>by simp at hu
  cL:=fun i p hp=>by simp at hp
  cB:=r.le (Nn.RL Nn.RP) W}
 generalize rem [B,O] V=dS at*;have dT:Le h dS:=((c3.trans z).trans ar).trans W;have gA:=A dS ((z.trans ar).trans W);clear oB oO ay gw cd cf a7 gs C kw dH dI cp cq dL ft bF bH bx bB aD bI az dM dO hX fp fq av;clear bg dF s;refine Uy ?_;have dV:∀x∈l,x<n:=fun x hx=>Rg.lt hR hx;refine TC.intro PJ ⟨Tryz.func95,rfl,WY⟩ (IU K S0 bW.rl dV NH (VU J NH) Ma) ?_;rintro x hE hF ⟨hG,hI,hJ,hK,hL,S1,ec⟩;refine Uy ?_;refine TC.intro PJ ⟨Tryz.func95,rfl,WY⟩ (IU K S1 ((bN.le ec).rl) (f:=l.reverse) (fun x hx=>dV x (Qn.1 hx)) NH (by rw[ti];exact VU J NH) Ma) ?_;rintro x fy hM ⟨hN,aF,aH,fC,fF,S2,fJ⟩;have T:=ec.trans fJ;simp only[js,aeC]at S2;have ed:=A fy ((((z.trans ar).trans W).trans T).trans S2.le);have bZ:=bQ.le T;have b0:=(b5.le (ar.trans W)).le T;obtain⟨fL,cx⟩:=S2.pV;refine Sk ed.1 ?_;refine TC.intro PJ ⟨Tryz.func96,rfl,WY⟩ (S2.side (iN K _ wv ⟨(n:Int),es⟩ (sortP (ZH l)) _ ⟨ev,rfl,b0.le cx⟩ (bZ.le cx).pr (by rw[ZS,F9];exact VU J NH))) ?_;rintro x fN fP ⟨cz,⟨cC,e2,rfl,G⟩,S3,cE,ee,fU⟩;have ef:=Rg.web hR;simp only[yY]at G;rcases G with⟨q,-⟩|⟨-,q,-⟩|⟨-,-,rfl,L,hT,bh⟩
 .exact absurd hr q
 .exact absurd ef q
 rw[Rt hR hA.nodup hT (uY (n:=n) (on:=Qw n (sortP (ZH l))) (es:=es))]at bh;have I0:=Rg.start hR hA (L:=MF n (Qw n (sortP (ZH l))) es) uY;have eg:RB n es=Mw n es l (MF n (Qw n (sortP (ZH l))) es):=by unfold RB;rw[b8]
 rw[eg];have eh:=I0.Vw;have b2:(Mw n es l (MF n (Qw n (sortP (ZH l))) es)).on=tV (List.replicate n false) l:=rfl;have b3:(Mw n es l (MF n (Qw n (sortP (ZH l))) es)).Jv=[l,l.reverse]:=rfl;have aJ:(Mw n es l (MF n (Qw n (sortP (ZH l))) es)).left=(LJ n es (sortP (ZH l)) (MF n (Qw n (sortP (ZH l))) es)).map fun f=>⟨f.zp,f.Fm,zh [l,l.reverse] f.Fm [0,1]⟩:=rfl;have cM:∀f∈LJ n es (sortP (ZH l)) (MF n (Qw n (sortP (ZH l))) es),(∀x∈f.Fm,∃v:Nat,x=(v:Int)/\v<n)/\f.Fm.length<=n:=fun f hf=>by
  have hm:(⟨f.zp,f.Fm,zh [l,l.reverse] f.Fm [0,1]⟩:wW)∈(Mw n es l (MF n (Qw n (sortP (ZH l))) es)).left:=pw;exact⟨I0.fS hR hm,I0.UO hR hm⟩
 rw[aJ,LH]at eh;rw[b2,b3,aJ];generalize LJ n es (sortP (ZH l)) (MF n (Qw n (sortP (ZH l))) es)=C at*;have fV:=bh.len;have ei:=sB B 5 NH;have gT:Le h cz:=(dT.trans T).trans (cx.trans ee);clear b2 b3 aJ eg I0 hT S2 fL S1 S0 A A6 ed fT c4 bZ b0 gA bQ bN b5 b6 bW;refine Sk fV ?_;refine aaa.intro (fun k fr s=>∃(i:Nat) (g:AHeap) (cs:List Value) (Y:Value),k=C.length-i/\i<=C.length/\fr=mkF [(7,.pointer (some ⟨B,0,none⟩)),(90,cC),(91,.int .i64 (C.length:Nat)),(92,.int .i64 (i:Nat))]/\
   lx g s B O n (Zh n es) bv aF aH Y fC fF cs (tV (List.replicate n false) l) [l,l.reverse] [l,l.reverse] ((C.take i).map fun f=>⟨f.zp,f.Fm,zh [l,l.reverse] f.Fm [0,1]⟩)/\Le cz g)
  C.length [(7,.pointer (some ⟨B,0,none⟩)),(90,cC),(91,.int .i64 (C.length:Nat)),(92,.int .i64 (0:Nat))] fD
  ⟨0,cz,[],rW,rfl,AE _,rfl,S3,Le.refl _⟩ ?_
 clear S3 fP cE fU;clear fN;rintro k fr s av ⟨i,g,cs,Y,rfl,hi,rfl,S,lg⟩;refine Uy ?_;refine Kl.intro (fun ht=>?_) (fun hf=>?_)
 .have d : i < C.length := CC ht
  clear ht;have fY:=XJ d;obtain⟨a',b',cN,ra,rb⟩:=bh.load fY;have ga:=bh.addr (k:=.i64) i d;obtain⟨gf,ej⟩:=cM _ (Gw d);have cg:C.take (i+1)=C.take i++[C[i]]:=EL d;generalize C[i]=f at*;have cN:=cN s (lg.trans S.le);have ra:=ra.le lg;have rb:=rb.le Nn.RP lg;obtain⟨hP,cP,gg,gi,gj,gk,nQ,oQ⟩:=new41' av ra.sl rb.sl
  have dQ:s.next∉B::O::(bl aF++bl aH++bl Y):=fun m=>(S.own (HX.1 m)).2 nQ
  have ek:=S.up gj
  generalize s.next=Q at*
  obtain⟨en,gn,cR,hQ,gq⟩:=Tt gk [.int .i64 0,.int .i64 1];have mk:=mk2 cP 0 1;rw[gn]at mk;have aK:=ek.up cR
  have gu:RL RP en (.slice (some ⟨cP.next,0,none⟩) 2 2) (kz [0,1]):=RL.Wh (RS.whole gq rfl)
  have eo:=eX (cR.own _ _ oQ);have ep:=eX oQ;have et:=aK.f;have aw:=Tw i (Lb d (QJ NH));refine Sk (xU ga cN gg gi) ?_;refine gh (tA [0,1,2,3,4,5,6,7,8,9,10,11] (JQ 12 [] (JQ 13 [9,11,12] (tA [14] (JQ 15 [14] (JQ 16 [4,13,15] (tA [17,18] (JQ 19 [0,1,2,3,4,5,6,7,8,9,10,11,12,13,14,15,16,18] .done)))))))) ?_;simp only[HO,Nat.reduceLT,↓reduceIte,Nat.reduceEqDiff,reduceCtorEq,Nat.reduceBEq,Qg,ei,ff0,ff1,Ip,BS,ek.f.l5,et.l5,ep.2.1,ep.2.2,eo.2.1,eo.2.2,mk]
  refine VA.intro PJ ⟨yq,rfl,WY⟩ (NR K B n bv _ aF aH Y b' (.slice (some ⟨cP.next,0,none⟩) 2 2) [l,l.reverse] f.Fm [0,1] en et aK.rlI ((rb.le Nn.RP aK.le)) gu gf Ma (sr ej bk) Ma) ?_
  rintro y cU gv ⟨eu,ew,gx⟩;have b4:=ew.own _ _ (cR.own _ _ oQ);have ey:=eX b4;have gz:(Hg cU B O aF aH Y).own Q=some (.cells [a',b']):=by grind [Hg,DC]
  obtain⟨cZ,aP⟩:=(aK.up ew).pV;have gy:GI (Hg cU B O aF aH Y) y (kz (zh [l,l.reverse] f.Fm [0,1])):=Pv (h:=cU) aK eu gx;obtain⟨gC,hS,hU,hV,gE,gJ,gM,hW,hY,eA,gP,eB⟩:=cZ.pushL gv (a:=a') (b:=b') (c:=y) (p:=⟨f.zp,f.Fm,zh [l,l.reverse] f.Fm [0,1]⟩) (ra.le aP) (rb.le Nn.RP aP) gy.rl (tk_b eh c0 _);have eC:=eX (eA.own _ _ b4);have eE:=eX (eB.own _ _ gz);have gR:=cZ.f.le eA;have aj:=pN ra.sl rb.sl eu.rl.sl;simp only[HO,Nat.reduceLT,↓reduceIte,Nat.reduceEqDiff,reduceCtorEq,Nat.reduceBEq,Qg,ei,ff0,ff1,Ip,BS,cZ.f.l5,gR.l5,gP.l5,ey.2.1,ey.2.2,eC.2.1,eC.2.2,eE.2.1,eE.2.2,aj,gE,gJ,gM,aw];refine tn (C.length-(i+1)) [(7,.pointer (some ⟨B,0,none⟩)),(90,cC),(91,.int .i64 (C.length:Nat)),(92,.int .i64 (i+1:Nat))] (JS d) fD
   ⟨i+1,_,cs++[a',b',y],gC,rfl,d,rfl,?_,lg.trans aP⟩
  grind
 have bb:C.length<=i:=vp hf;rw[vZ bb]at S;refine Uy ?_
 grind [Le.trans]
end
end Go.Fw
