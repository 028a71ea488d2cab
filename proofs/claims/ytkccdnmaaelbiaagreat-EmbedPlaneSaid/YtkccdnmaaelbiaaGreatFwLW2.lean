/- A text. -/
import Derived.Test.YtkccdnmaaelbiaaGreatFwLB1
import Derived.Test.YtkccdnmaaelbiaaGreatFwScope
set_option linter.all false
set_option maxRecDepth 99999
set_option maxHeartbeats 9999999
namespace Go.Fw
section
attribute [local irreducible] Ax YH XZ Uk KO KN KX KE VK DK Q7 dK W9
open Go.Proofs
variable {h:AHeap} {v:Value} {xs:LF}
def PZ (w:Ac) (v q:Value) (G:GM) (xs:LF) (h:AHeap) (hg:GR h v G) (hw:RL IJ h q xs) (T:xs.length<=100000):
  AC Tryz.prog w 113 [v,q] h fun x h'=>Le h h'/\∃t e,x=.tuple #[t,.int .i64 e]/\
   ((¬xO G/\t=.slice none 0 0/\e=20)\/(xO G/\(¬∀x∈xs,0<=x/\x<G.n)/\t=.slice none 0 0/\e=2)\/
    (xO G/\(∀x∈xs,0<=x/\x<G.n)/\e=0/\RL (RL IJ) h' t (Oc G.n.toNat G.es))):=by
 have r:=hg;obtain⟨F,es⟩:=G
 obtain⟨ev,rfl,K⟩:=hg.open
 refine AC.vE ⟨qS32,rfl,xr⟩ Tryz.ntmps113 Tryz.results113 fun z=>?_;simp only[xq,Nat.reduceAdd];obtain⟨H,L,a,M,-,I⟩:=WY (n:=F) z K
 generalize h.next=B at*
 have A:=I H (Le.refl _);simp only[Ud,Nat.reduceLT,↓reduceIte,Nat.reduceEqDiff,L,A.1];refine dK.intro pK ⟨Zj,rfl,xr⟩ (qG w _ _ H (r.le a)) ?_;rintro x h2 N ⟨⟨O,rfl,s⟩,b⟩;cases O with
 |false=>
  refine yq ?_;exact⟨a.trans b,_,_,rfl,.inl ⟨(fun l=>by cases s.2 l),rfl,rfl⟩⟩
 |true=>
 have l:=s.1 rfl;have P:0<=F:=l.n0;obtain⟨n,rfl⟩:=RT P;have lw:=fun g=>hw.zw g;simp only[Ud,Nat.reduceLT,↓reduceIte,Nat.reduceEqDiff,lw];refine W9.intro (fun k fr u=>∃i:Nat,k=xs.length-i/\i<=xs.length/\fr=mkF [(2,.pointer (some ⟨B,0,none⟩)),(11,q),(12,.int .i64 xs.length),(13,.int .i64 i)]/\u=h2/\∀(j:Nat) x,j<i->xs[j]?=some x->0<=x/\x<(n:Int))
  xs.length [(2,.pointer (some ⟨B,0,none⟩)),(11,q),(12,.int .i64 xs.length),(13,.int .i64 (0:Nat))] vy ⟨0,rfl,KW _,rfl,rfl,QT⟩ ?_
 rintro k fr u Q ⟨i,rfl,hi,rfl,rfl,f⟩;have m:=I u b;refine yq ?_;refine DK.intro (fun J=>?_) (fun hf=>?_)
 .have c : i < xs.length := Ub J
  clear J;have d:=XR c;have C:=hw.qW i c;have ld:=(hw.le Rr.IJ (a.trans b)).HN i c;generalize xs[i]=y at d ld;by_cases c1:y<0
  .simp only [Ud, Nat.reduceLT, ↓reduceIte, Nat.reduceEqDiff, C, ld, c1]
   exact⟨a.trans b,_,_,rfl,.inr (.inl ⟨l,fun hh=>by have:=hh y (Jb d);omega,rfl,rfl⟩)⟩
  by_cases c2:y>=(n:Int)
  .simp only [Ud, Nat.reduceLT, ↓reduceIte, Nat.reduceEqDiff, C, ld, c1, c2, Cq, Co, Qs, m.2.1]
   exact⟨a.trans b,_,_,rfl,.inr (.inl ⟨l,fun hh=>by have:=hh y (Jb d);omega,rfl,rfl⟩)⟩
  simp only[Ud,Nat.reduceLT,↓reduceIte,Nat.reduceEqDiff,C,ld,c1,c2,Cq,Co,Qs,m.2.1,Gm i QT];exact cX (xs.length-(i+1)) [(2,.pointer (some ⟨B,0,none⟩)),(11,q),(12,.int .i64 xs.length),(13,.int .i64 (i+1:Nat))] QT vy ⟨i+1,rfl,c,rfl,rfl,fun j x D o=>by
   by_cases e:j=i
   .subst e;rw[d]at o;injection o with o;subst o;omega
   .exact f j x QT o⟩
 .have R : xs.length <= i := Yv hf
  simp only[Ud,Nat.reduceLT,↓reduceIte,Nat.reduceEqDiff,m.1];refine dK.intro pK ⟨pw,rfl,xr⟩ (sJ w _ n es u (r.le (a.trans b)) l) ?_;rintro U h3 S ⟨p,E⟩;refine yq ?_;refine⟨(a.trans b).trans E,_,_,rfl,.inr (.inr ⟨l,fun x o=>?_,rfl,p⟩)⟩;obtain⟨j,D⟩:=OH.1 o;exact f j x (by have:=(bH.1 D).1;omega) D
def GU (h:AHeap) (v:Value) (xs:LF):Prop:=GT 1 h v xs.length (oY xs)
def GU.le {h h':AHeap} {v:Value} {xs:LF} (g:GU h v xs) (e:Le h h'):GU h' v xs:=GT.le g e
def GU.rl (g:GU h v xs):RL IJ h v xs:=RL.Kr (GT.cs g).rs
def GU.push {h:AHeap} {v:Value} {xs:LF} (g:GU h v xs) (d:WF h) (x:Int) (p:xs.length<=100000):
  ∃v' c a,aBuildSlice Tryz.prog h 49 1 [(0,.int .i64 x)]=some (.slice (some ⟨h.next,0,none⟩) 1 1,c)/\aAppend Tryz.prog c 49 49 v (.slice (some ⟨h.next,0,none⟩) 1 1)=some (v',a)/\GU a v' (xs++[x])/\WF a/\Le h c/\
   (∀f,Le f h->tQ f v->Le f a/\tQ f v')/\(∀b o,h.own b=some o->blk v≠some b->a.own b=some o/\blk v'≠some b):=by
 obtain⟨c,j,l4,e,k⟩:=mV d [.int .i64 x];obtain⟨v',a,i,l,hf⟩:=(GT.le g l4).push (P:=Tryz.prog) (t:=49) zd k (ko _) rfl QT;refine⟨v',c,a,by rw[Vb,j],i,?_,YK e i,l4,fun f m af=>hf f e (m.trans l4) af,fun b o n hb=>Na hf e (l4.own _ _ n) hb⟩;have:oY xs++[.int .i64 x]=oY (xs++[x]):=by simp[oY]
 rw[GU,<-this,Vw];exact l
def GU.cut {h:AHeap} {v:Value} {xs:LF} (g:GU h v xs) (m:Nat) (a:m<=xs.length):∃v',aSlice Tryz.prog 49 v none (some (.int .i64 m)) none=some v'/\GU h v' (xs.take m)/\blk v'=blk v:=by
 obtain⟨v',e,c,b⟩:=GT.cut (P:=Tryz.prog) Rm Ik zd g m a;refine⟨v',e,?_,b⟩;rw[GU,oY,XD,Ja,bE a];simpa[oY]using c
def GU.kept {h h':AHeap} {v:Value} {xs:LF} (g:GU h v xs) (a:∀b o,blk v=some b->h.own b=some o->h'.own b=some o):GU h' v xs:=GT.kept g a
def Bo (l:List Bool):List Value:=l.map Value.bool
def YM (l:List Bool):(Bo l).length=l.length:=by simp[Bo]
def GZ (l:List Bool) (i:Nat) (b:Bool):(Bo l).set i (.bool b)=Bo (l.set i b):=by simp[Bo]
variable {M R U n w:Nat} {hq:AHeap} {met:List Bool} {o opn tr:wi} {ov wv:Value} {up:LF}
structure WkP (n:Nat) (h hq:AHeap) (U M R:Nat) (ov wv:Value) (met:List Bool) (Jd o opn:wi) (up:LF):Prop where
 oU:hq.own U=some (.cells (oY up))
 oM:hq.own M=some (.cells (Bo met))
 oR:hq.own R=some (.cells (oY (aW Jd)))
 go:GI hq ov (aW o)
 gw:GU hq wv (aW opn)
 ap:∀b,blk ov=some b->blk wv≠some b
 oo:blk ov≠some U/\blk ov≠some M/\blk ov≠some R
 ww:blk wv≠some U/\blk wv≠some M/\blk wv≠some R
 ne:U≠M/\U≠R/\M≠R
 le:Le h hq
 nn:h.own U=none/\h.own M=none/\h.own R=none
 ao:tQ h ov
 aw:tQ h wv
 lm:met.length=n
 lt:Jd.length=n
 lu:up.length=n
structure WkH (n:Nat) (es:List Pr) (s:Nat) (h hq:AHeap) (U M R:Nat) (ov wv:Value) (met:List Bool) (Jd o opn:wi) (up:LF):Prop extends WkP n h hq U M R ov wv met Jd o opn up where
 ds:DS n es s met Jd o opn up
def WkP.Jd (k:WkP n h hq U M R ov wv met tr o opn up) {v:Nat} (a:Nat) (c:v<n) (b:WF hq):
  ∃h',aStore Tryz.prog hq 3 (.pointer (some ⟨R,v,none⟩)) (.int .i64 (a:Int))=some h'/\WF h'/\WkP n h h' U M R ov wv met (tr.set v a) o opn up:=by
 have e:(oY (aW tr)).set v (.int .i64 (a:Int))=oY (aW (tr.set v a)):=by rw[Ko];simp[aW]
 refine⟨_,Qr (P:=Tryz.prog) (t:=3) (x:=.int .i64 (a:Int)) Ik zd k.oR (off:=v) (by rw[CW,tG,k.lt];exact c) rfl rfl,b.put _ (b.lt k.oR),?_⟩;rw[e];exact{k with
  oU:=by rw[AHeap.Dz _ _ _ _ k.ne.2.1];exact k.oU
  oM:=by rw[AHeap.Dz _ _ _ _ k.ne.2.2];exact k.oM
  oR:=AHeap.zm _ _ _
  go:=GS.put k.go _ k.oo.2.2
  gw:=GT.put k.gw _ k.ww.2.2
  le:=k.le.put _ k.nn.2.2
  lt:=by simp[k.lt]}
def WkP.mark (k:WkP n h hq U M R ov wv met tr o opn up) (v:Nat) (hw:w<n) (a:WF hq):
  ∃e h2,aStore Tryz.prog hq 4 (.pointer (some ⟨M,w,none⟩)) (.bool true)=some e/\aStore Tryz.prog e 3 (.pointer (some ⟨U,w,none⟩)) (.int .i64 (v:Int))=some h2/\WF h2/\WkP n h h2 U M R ov wv (met.set w true) tr o opn (up.set w (v:Int)):=by
 have c:w<(Bo met).length:=by rw[YM,k.lm];exact hw
 have d:w<(oY up).length:=by rw[CW,k.lu];exact hw
 have s1:=Qr (P:=Tryz.prog) (t:=4) (x:=.bool true) v7 zd k.oM (off:=w) c rfl rfl;rw[GZ]at s1;have b:(hq.put M (.cells (Bo (met.set w true)))).own U=some (.cells (oY up)):=by rw[AHeap.Dz _ _ _ _ k.ne.1];exact k.oU
 have s2:=Qr (P:=Tryz.prog) (t:=3) (x:=.int .i64 (v:Int)) Ik zd b (off:=w) d rfl rfl;rw[Ko]at s2;have w1:=a.put (.cells (Bo (met.set w true))) (a.lt k.oM);refine⟨_,_,s1,s2,w1.put _ (w1.lt b),{k with oU:=AHeap.zm _ _ _,oM:=?_,oR:=?_,go:=GS.put (GS.put k.go _ k.oo.2.1) _ k.oo.1,gw:=GT.put (GT.put k.gw _ k.ww.2.1) _ k.ww.1,le:=(k.le.put _ k.nn.2.1).put _ k.nn.1,lm:=by simp[k.lm],lu:=by simp[k.lu]}⟩
 .rw[AHeap.Dz _ _ _ _ (Hn k.ne.1)];exact AHeap.zm _ _ _
 .rw[AHeap.Dz _ _ _ _ (Hn k.ne.2.1),AHeap.Dz _ _ _ _ (Hn k.ne.2.2)];exact k.oR
def WkP.grow (k:WkP n h hq U M R ov wv met tr o opn up) (w:Nat) (p:WF hq) (F:o.length<=1000) (G:opn.length<=1000):
  ∃v g j h2 h3 e H,aBuildSlice Tryz.prog hq 49 1 [(0,.int .i64 (w:Int))]=some (v,j)/\aAppend Tryz.prog j 49 49 ov v=some (g,h2)/\∃x m,aBuildSlice Tryz.prog h2 49 1 [(0,.int .i64 (w:Int))]=some (x,h3)/\aAppend Tryz.prog h3 49 49 wv x=some (m,e)/\H=e/\WF e/\
   WkP n h e U M R g m met tr (o++[w]) (opn++[w]) up:=by
 have y:∀l:wi,aW l++[(w:Int)]=aW (l++[w]):=fun l=>by simp[aW]
 obtain⟨g,j,h2,I,J,q,K,l1,L,k1⟩:=k.go.push p (w:Int) (by rw[tG];omega);obtain⟨l2,r⟩:=L h k.le k.ao;rw[y]at q;have s:GU h2 wv (aW opn):=k.gw.kept fun b o hb f=>(k1 b o f (fun a=>k.ap b a hb)).1;have z:=k1 U _ k.oU k.oo.1;have M2:=k1 M _ k.oM k.oo.2.1;have A:=k1 R _ k.oR k.oo.2.2;have d:∀b,blk wv=some b->blk g≠some b:=fun b hb=>by
  obtain⟨c,a⟩:=GT.Rf k.gw hb;exact(k1 b _ a (fun a=>k.ap b a hb)).2
 obtain⟨m,h3,e,N,O,B,P,l3,Q,i⟩:=s.push K (w:Int) (by rw[tG];omega);obtain⟨l4,t⟩:=Q h l2 k.aw;rw[y]at B;have C:=i U _ z.1 k.ww.1;have D:=i M _ M2.1 k.ww.2.1;have E:=i R _ A.1 k.ww.2.2;refine⟨_,g,j,h2,h3,e,e,I,J,_,m,N,O,rfl,P,{k with oU:=C.1,oM:=D.1,oR:=E.1,go:=?_,gw:=B,ap:=fun b hb=>?_,oo:=⟨z.2,M2.2,A.2⟩,ww:=⟨C.2,D.2,E.2⟩,le:=l4,ao:=r,aw:=t}⟩
 .exact q.kept fun b o hb f=>(i b o f fun a=>d b a hb).1
 .have u : h2.own b ≠ none := GS.Rf q hb
  cases f:h2.own b with
  |none=>exact absurd f u
  |some o=>exact(i b o f fun a=>d b a hb).2
def Wf (W0:Ac) (bv:Value) (n s:Nat) (es:List Pr) (h:AHeap) (hb:RL (RL IJ) h bv (Oc n es)) (hr:I7 n es) (ha:BD es) (hn:n<=300) (bV:es.length<=1000) (hs:s<n):
  AC Tryz.prog W0 114 [bv,.int .i64 (s:Int)] h fun x h'=>∃i U o up,x=.tuple #[i,.slice (some ⟨U,0,none⟩) n n]/\GI h' i (aW o)/\(h'.own U=some (.cells (oY up))/\blk i≠some U/\h.own U=none)/\zn n es s o up/\Le h h'/\tQ h i:=by
 refine AC.vE ⟨Tryz.func114,rfl,xr⟩ Tryz.ntmps114 Tryz.results114 fun bm=>?_;simp only[xq,Nat.reduceAdd];have lb:=fun g=>hb.ae g;rw[XM]at lb;obtain⟨h1,e1,l1,w1,o1⟩:=mV bm [.int .i64 (-1)];refine yq ?_;refine VK.scope ?_;simp only[Ud,Nat.reduceLT,↓reduceIte,reduceCtorEq,Vb,e1,lb];refine dK.intro pK ⟨lH,rfl,xr⟩ (SV W0 _ n QT h1 (RL.Kr (RS.whole o1 rfl))) ?_;rintro x h2 w2 ⟨U,rfl,hU,o2,l2⟩
 have nU:h.own U=none:=(l1.next w1 hU)
 have oU:h2.own U=some (.cells (oY (List.replicate n (-1)))):=by rw[o2];simp[oY]
 have mk:=IG (P:=Tryz.prog) (t:=59) (z:=.bool false) h2 aO rfl rfl rfl rfl zd v7 zd n QT;obtain⟨h3,e3,l3,X,o3⟩:=mV w2 (List.replicate n (.bool false));rw[e3]at mk
 have nM:h.own h2.next=none:=(l1.trans l2).next w2 (J4 _)
 have y:U≠h2.next:=fun e=>by have:=w2.lt oU;omega
 generalize h2.next=M at*
 have oM:h3.own M=some (.cells (Bo (List.replicate n false))):=by rw[o3];simp[Bo]
 have bt:=IG (P:=Tryz.prog) (t:=49) (z:=.int .i64 0) h3 Rm rfl rfl rfl rfl zd Ik zd n QT;obtain⟨r,e4,l4,w4,o4⟩:=mV X (List.replicate n (.int .i64 0));rw[e4]at bt;have Y:=(l1.trans l2).trans l3
 have nR:h.own h3.next=none:=Y.next X (J4 _)
 have S:U≠h3.next:=fun e=>by have:=X.lt (l3.own _ _ oU);omega
 have A:M≠h3.next:=fun e=>by have:=X.lt oM;omega
 generalize h3.next=R at*
 have oR:r.own R=some (.cells (oY (aW (List.replicate n 0)))):=by rw[o4];simp[oY,aW]
 obtain⟨G,e5,l5,w5,o5⟩:=mV w4 [.int .i64 (s:Int)];obtain⟨h6,e6,l6,w6,o6⟩:=mV w5 [.int .i64 (s:Int)];have B:=l5.trans l6;have Z:=B.own _ _ (l4.own _ _ oM);have ad:∀(k:IntKind) (j:Nat),j<n->aIndexAddr Tryz.prog 59 (.slice (some ⟨M,0,none⟩) n n) (.int k j)=some (.pointer (some ⟨M,j,none⟩)):=fun k j hj=>by rw[vj aO v7 zd j hj];simp[Co]
 have WS:∀(T:Nat) (k:IntKind) (j:Nat),j<n->aIndexAddr Tryz.prog 49 (.slice (some ⟨T,0,none⟩) n n) (.int k j)=some (.pointer (some ⟨T,j,none⟩)):=fun T k j hj=>by rw[vj Rm Ik zd j hj];simp[Co]
 have st1:=Qr (P:=Tryz.prog) (t:=4) (x:=.bool true) v7 zd Z (off:=s) (by simp[Bo,hs]) rfl rfl;rw[GZ]at st1;simp only[Ud,Nat.reduceLT,↓reduceIte,Nat.reduceEqDiff,reduceCtorEq,lb,mk,bt,Vb,e5,e6,ad _ s hs,st1];refine VK.label ?_;refine yq ?_
 have ag:r.own r.next=none:=(Le.refl r).next w4 (J4 _)
 have C:G.own G.next=none:=(Le.refl G).next w5 (J4 _)
 have V:r.next≠G.next:=fun e=>by rw[<-e,o5]at C;cases C
 have H:=Y.trans l4;have av:=l3.trans l4
 have m:∀b o,r.own b=some o->b≠r.next/\b≠G.next:=fun b o hb=>⟨fun e=>by(rw[<-e,hb]at ag;cases ag),fun e=>by(rw[<-e,l5.own _ _ hb]at C;cases C)⟩
 have ah:=av.own _ _ oU;have ay:=l4.own _ _ oM;have qU:=m _ _ ah;have qM:=m _ _ ay;have qR:=m _ _ oR
 have nO:h.own r.next=none:=H.next w4 (J4 _)
 have nW:h.own G.next=none:=(H.trans l5).next w5 (J4 _)
 have keep:∀b o,b≠M->h6.own b=some o->(h6.put M (.cells (Bo ((List.replicate n false).set s true)))).own b=some o:=fun b o hb ho=>by rw[AHeap.Dz _ _ _ _ hb];exact ho
 have K0:WkH n es s h (h6.put M (.cells (Bo ((List.replicate n false).set s true)))) U M R (.slice (some ⟨r.next,0,none⟩) 1 1) (.slice (some ⟨G.next,0,none⟩) 1 1) ((List.replicate n false).set s true) (List.replicate n 0) [s] [s] (List.replicate n (-1)):={
  oU:=keep _ _ y (B.own _ _ ah)
  oM:=AHeap.zm _ _ _
  oR:=keep _ _ (Hn A) (B.own _ _ oR)
  go:=GS.full (keep _ _ (Hn qM.1) (l6.own _ _ o5)) rfl (show 1<1000000000000 by decide)
  gw:=(GS.full (keep _ _ (Hn qM.2) o6) rfl (show 1<1000000000000 by decide)).gt
  ap:=fun b hb hc=>by injection hb with hb;injection hc with hc;exact V (hb.trans hc.symm)
  oo:=⟨fun e=>by injection e with e;exact qU.1 e.symm,fun e=>by injection e with e;exact qM.1 e.symm,fun e=>by injection e with e;exact qR.1 e.symm⟩
  ww:=⟨fun e=>by injection e with e;exact qU.2 e.symm,fun e=>by injection e with e;exact qM.2 e.symm,fun e=>by injection e with e;exact qR.2 e.symm⟩
  ne:=⟨y,S,A⟩
  le:=(H.trans B).put _ nM
  nn:=⟨nU,nM,nR⟩
  ao:=fun b hb=>by injection hb with hb;subst hb;exact nO
  aw:=fun b hb=>by injection hb with hb;subst hb;exact nW
  lm:=by simp
  lt:=by simp
  lu:=by simp
  ds:=DS.start hs}
 have w7:=w6.put (.cells (Bo ((List.replicate n false).set s true))) (w6.lt Z);clear keep nO nW qU qM qR ah ay m av H V C ag st1 Z B o6 l6 o5 l5 oR A S nR Y o4 l4 w4 bt oM y nM o3 l3 X mk oU nU o2 l2 w2 o1 l1 w1;generalize h6.put M (.cells (Bo ((List.replicate n false).set s true)))=h7 at*
 generalize Value.slice (some ⟨r.next,0,none⟩) 1 1=aB at*
 generalize Value.slice (some ⟨G.next,0,none⟩) 1 1=aE at*
 clear w6 w5 e6 e5 e4 e3 e1 hU;clear h6 G r h3 h2 h1;have bo:∀u,u<n->aIndexAddr Tryz.prog 27 bv (.int .i64 u)=some (.pointer (some (elemAddr bv u))):=fun u hu=>hb.Jl u (by rw[XM];exact hu);have AK:∀(g:AHeap) (T:Nat) (L:LF) (j:Nat) (l:Int),g.own T=some (.cells (oY L))->L[j]?=some l->aload Tryz.prog g 3 ⟨T,j,none⟩=some (.int .i64 l):=fun g T L j l ho hl=>by
  rw[wT Ik rfl ho];simp[oY,hl]
 have aj:∀(g:AHeap) (T:Nat) (L:List Bool) (j:Nat) (l:Bool),g.own T=some (.cells (Bo L))->L[j]?=some l->aload Tryz.prog g 4 ⟨T,j,none⟩=some (.bool l):=fun g T L j l ho hl=>by
  rw[wT v7 rfl ho];simp[Bo,hl]
 refine W9.intro (fun k fr I=>∃(met:List Bool) (tr o D:wi) (up:LF) (i wv:Value),k=2*(n-o.length)+D.length/\fr=mkF [(0,bv),(6,.slice (some ⟨U,0,none⟩) n n),(7,.slice (some ⟨M,0,none⟩) n n),(8,.slice (some ⟨R,0,none⟩) n n),(9,i),(10,wv)]/\
   WkH n es s h I U M R i wv met tr o D up)
  (2*(n-1)+1) [(0,bv),(6,.slice (some ⟨U,0,none⟩) n n),(7,.slice (some ⟨M,0,none⟩) n n),(8,.slice (some ⟨R,0,none⟩) n n),(9,aB),(10,aE)] vy
  ⟨_,_,_,_,_,_,_,rfl,rfl,K0⟩ ?_
 clear K0 w7;clear h7 aB aE;rintro k fr I J ⟨met,tr,o,D,up,i,wv,rfl,rfl,K⟩;have lw:=fun g=>K.gw.rl.zw g;simp only[tG]at lw;rcases iS D with rfl|⟨op,v,aK⟩
 .simp only [Lz] at lw
  have c0:¬(((0:Nat):Int)>0):=QT;simp only[Ud,Nat.reduceLT,↓reduceIte,Nat.reduceEqDiff,reduceCtorEq,lw,c0,jr];exact⟨i,_,o,up,rfl,K.go,⟨K.oU,K.oo.1,K.nn.1⟩,K.ds.fin,K.le,K.ao⟩
 obtain rfl:D=op++[v]:=by simpa using aK
 clear aK;have br:v∈o:=K.ds.sub.subset YX;have a:v<n:=K.ds.lt v br;have bx:=K.ds.len_opn;have c:(op++[v]).length=op.length+1:=by simp
 rw[c]at bx;simp only[c]at lw;have c0:(((op.length+1:Nat):Int)>0):=QT;have aM:awrap .i64 (((op.length+1:Nat):Int)-1)=((op.length:Nat):Int):=by rw[GQ _ QT QT];omega
 have aQ:=K.gw.rl.qW op.length (by rw[tG,c];omega);have ak:=K.gw.rl.HN op.length (by rw[tG,c];omega);have aT:(aW (op++[v]))[op.length]'(by rw[tG,c];omega)=(v:Int):=by simp[aW]
 rw[aT]at ak;simp only[Ud,Nat.reduceLT,↓reduceIte,Nat.reduceEqDiff,reduceCtorEq,lw,c0,aM,aQ,ak];have N:v<(Oc n es).length:=by rw[XM];exact a
 have aX:=bo v a;obtain⟨uv,bF,p⟩:=hb.To v N;have E:(Oc n es).getD v []=(Oc n es)[v]:=YR N;generalize (Oc n es)[v]=row at p E;have lr:=fun g=>p.zw g;have bW:row.length<=3000:=by
  have:=OI n es row (by rw[<-E,YR N];exact om N);omega
 have d:=XR (show v<tr.length by rw[K.ds.trl];exact a);have al:tr[v]'(by rw[K.ds.trl];exact a)<=row.length:=by rw[<-E];exact(K.ds.tr _ _ d).1
 refine W9.intro (fun k fr I=>∃(tr:wi) (t:Nat),k=row.length-t/\t<=row.length/\tr[v]?=some t/\fr=mkF [(0,bv),(6,.slice (some ⟨U,0,none⟩) n n),(7,.slice (some ⟨M,0,none⟩) n n),(8,.slice (some ⟨R,0,none⟩) n n),(9,i),(10,wv),(11,.int .i64 v)]/\
   WkH n es s h I U M R i wv met tr o (op++[v]) up)
  (row.length-tr[v]'(by rw[K.ds.trl];exact a)) [(0,bv),(6,.slice (some ⟨U,0,none⟩) n n),(7,.slice (some ⟨M,0,none⟩) n n),(8,.slice (some ⟨R,0,none⟩) n n),(9,i),(10,wv),(11,.int .i64 v)] vy
  ⟨_,_,rfl,al,d,rfl,K⟩ ?_
 clear al d ak aT aQ lw K J;clear tr I;rintro k fr I J ⟨tr,t,rfl,al,d,rfl,K⟩;have lw:=fun g=>K.gw.rl.zw g;simp only[tG,c]at lw;have aY:=AK I R (aW tr) v t K.oR (by simp[aW,d]);have W:=bF I K.le;refine yq ?_;refine rD (vu [0,1,2,3,4,5,6,7,8,9] .done) ?_;simp only[Ud,Nat.reduceLT,↓reduceIte,Nat.reduceEqDiff,reduceCtorEq,rm,WS R _ v a,aY,aX,W,lr];refine DK.intro (fun ht=>?_) (fun hf=>?_)
 rotate_left
 .have bX : row.length <= t := Yv hf
  obtain rfl:t=row.length:=QT;obtain⟨a1,a6,a8,aq⟩:=K.gw.cut op.length (by rw[tG,c];omega);have bI:(aW (op++[v])).take op.length=aW op:=by simp[aW]
  rw[bI]at a8;simp only[Ud,Nat.reduceLT,↓reduceIte,Nat.reduceEqDiff,reduceCtorEq,lw,aM,a6];refine cX (2*(n-o.length)+op.length) [(0,bv),(6,.slice (some ⟨U,0,none⟩) n n),(7,.slice (some ⟨M,0,none⟩) n n),(8,.slice (some ⟨R,0,none⟩) n n),(9,i),(10,a1)] (by rw[c];omega) vy
   ⟨met,tr,o,op,up,i,a1,rfl,rfl,{K with gw:=a8,ap:=(by rw[aq];exact K.ap),ww:=(by rw[aq];exact K.ww),aw:=(by unfold tQ;rw[aq];exact K.aw),ds:=K.ds.pop hr (by rw[E];exact d)}⟩
 have O:t<row.length:=Ub ht;clear ht;have Q:((Oc n es).getD v [])[t]?=some row[t]:=by rw[E];exact XR O
 have bQ:=p.qW t O;have bb:=(p.le Rr.IJ K.le).HN t O;have bj:row[t]∈(Oc n es).getD v []:=Jb Q;generalize row[t]=x at Q bb bj;obtain⟨w,rfl,f⟩:=iz hr bj;refine yq ?_;refine rD (vu [0,1,2,3,4,5,6,7,8,9,10] .done) ?_;simp only[Ud,Nat.reduceLT,↓reduceIte,Nat.reduceEqDiff,reduceCtorEq,rm,WS R _ v a,aY,aX,W,bQ,bb];have q:=XR (show w<met.length by rw[K.ds.Sw];exact f);generalize met[w]'(by rw[K.ds.Sw];exact f)=mb at q
 have bY:=aj I M met w mb K.oM q;cases mb with
 |true=>
  have ar:w∈o:=(K.ds.mm w f).1 q;obtain⟨h1,st,w1,K1⟩:=K.toWkP.Jd (t+1) a J;have D1:=K.ds.skip d Q (by simpa using ar);have F:=aj h1 M met w true K1.oM q;simp only[Ud,Nat.reduceLT,↓reduceIte,Nat.reduceEqDiff,reduceCtorEq,Gm t QT,st,ad _ w f,F];exact cX (row.length-(t+1)) [(0,bv),(6,.slice (some ⟨U,0,none⟩) n n),(7,.slice (some ⟨M,0,none⟩) n n),(8,.slice (some ⟨R,0,none⟩) n n),(9,i),(10,wv),(11,.int .i64 v)] QT vy
   ⟨_,t+1,rfl,O,by rw[v8,if_pos rfl,if_pos (by rw[K.ds.trl];exact a)],rfl,⟨K1,D1⟩⟩
 |false=>
  have ar:w∉o:=fun hm=>by have:=(K.ds.mm w f).2 hm;rw[q]at this;cases this
  obtain⟨h1,st,w1,K1⟩:=K.toWkP.Jd (t+1) a J;have F:=aj h1 M met w false K1.oM q;obtain⟨h2,h3,st2,st3,X,K3⟩:=K1.mark v f w1;have b0:=K.ds.CH;obtain⟨v1,v2,r,G,h6,h7,_,b4,a5,v3,v4,b6,a7,-,w7,K7⟩:=K3.grow w X QT (by rw[c];omega);have D7:=K.ds.push hr ha d Q ar;simp only[Ud,Nat.reduceLT,↓reduceIte,Nat.reduceEqDiff,reduceCtorEq,Gm t QT,st,ad _ w f,F,st2,WS U _ w f,st3,b4,a5,b6,a7];have b1:o.length+1<=n:=by have:=D7.CH;simpa using this
  exact cX (2*(n-(o++[w]).length)+(op++[v]++[w]).length) [(0,bv),(6,.slice (some ⟨U,0,none⟩) n n),(7,.slice (some ⟨M,0,none⟩) n n),(8,.slice (some ⟨R,0,none⟩) n n),(9,v2),(10,v4)] (by simp;omega) vy
   ⟨_,_,_,_,_,_,_,rfl,rfl,⟨K7,D7⟩⟩
end
end Go.Fw
