/- A text. -/
import Derived.Test.YtkccdnmaaelbiaaGreatFwLF9
set_option linter.all false
set_option maxRecDepth 99999
set_option maxHeartbeats 9999999
namespace Go.Fw
section
attribute [local instance] Classical.propDecidable
attribute [local irreducible] Ax YH XZ Uk KO KN KX KE VK DK Q7 dK W9
open Go.Proofs
variable {a b i j n:Nat} {rows:CA}
def pf0 (a:Addr):aField Tryz.prog 125 (.pointer (some a)) 0=some (.pointer (some (Co a 0))):=rfl
def pf1 (a:Addr):aField Tryz.prog 125 (.pointer (some a)) 1=some (.pointer (some (Co a 1))):=rfl
def pf2 (a:Addr):aField Tryz.prog 125 (.pointer (some a)) 2=some (.pointer (some (Co a 2))):=rfl
def way_at {on:List Bool} {p:Lb} {start i:Nat} (h2:¬p.Xt.length<2) (a:(p.Xt.headD 0).toNat=start) (hi:i<n+1)
  (b:∀j,j<i->Ev rows on start (Hs n start p.bG) j=false) (hs:Ev rows on start (Hs n start p.bG) i=true):
  iY n rows on p=match(bfsM rows start (Hs n start p.bG) i).2[i]? with
   |some v=>traceM (bfsM rows start (Hs n start p.bG) i).1 start n v
   |none=>[]:=by
 have hf:(List.range (n+1)).find? (Ev rows on start (Hs n start p.bG))=some i:=by
  rw[U0];exact⟨hs,vq.2 hi,fun j c=>by rw[b j c];rfl⟩
 unfold iY;rw[if_neg h2];simp only[a,hf];cases (bfsM rows start (Hs n start p.bG) i).2[i]?<;>rfl
def headI0:∀{l:LF} (h:0<l.length),l.headD 0=l[0]
 |_::_,_=>rfl
def lt_addr (h:i<a):i<a+b:=QT
def sub_lt1 (h:i<n):n+1-(i+1)<n+1-i:=QT
def Aw (h:j<i+1) (g:¬j=i):j<i:=QT
def Gt (fr:LF) (start:Nat):∀f,traceM fr start f start=[start]
 |0=>rfl
 |f+1=>by rw[traceM,if_pos rfl]
abbrev TT1:Nat->Prop:=fun _=>True
abbrev TT2:Nat->Nat->Prop:=fun _ _=>True
def trc_k {k f:Nat} (h:k<f+1) (j:Nat) (a:j<k):j<f:=QT
def way_any (W0:Ac) (B n:Nat) (bv ov fv iv lv ea fa ta:Value) (es:List Pr) (on:List Bool) (p:Lb) (h:AHeap) (hs:sg h B n bv ov fv iv lv) (hb:RL (RL IJ) h bv (Oc n es)) (ho:RL Po h ov on) (cE:on.length=n)
  (V:PR h ea p.bG) (X:RL IJ h fa p.Xt) (cM:ta.oneCell'=true) (hR:I7 n es) (bo:I7 n p.bG) (cQ:∀x∈p.Xt,∃v:Nat,x=(v:Int)/\v<n) (hn:n<=300) (dx:es.length<=1000) (cY:p.bG.length<=1000) (dy:p.Xt.length<=1000):
  AC Tryz.prog W0 98 [.pointer (some ⟨B,0,none⟩),.agg #[ea,fa,ta]] h fun x h'=>GI h' x (aW (iY n (Oc n es) on p))/\Le h h'/\tQ h x:=by
 refine AC.vE ⟨Tryz.func98,rfl,xr⟩ Tryz.ntmps98 Tryz.results98 fun c0=>?_;simp only[xq,Nat.reduceAdd];obtain⟨R,e1,l1,w1,o1⟩:=mV c0 [ea,fa,ta];have bx:=aBox3 (h:=h) (a:=ea) (b:=fa) (c:=ta) V.sl.one X.one cM;rw[e1]at bx
 have P0:∀g,Le R g->aload Tryz.prog g 22 ⟨h.next,0,none⟩=some ea/\aload Tryz.prog g 49 ⟨h.next,1,none⟩=some fa:=fun g lg=>by
  have o:=lg.own _ _ o1;exact⟨by rw[wT pS rfl o];rfl,by rw[wT Rm rfl o];rfl⟩
 generalize h.next=P at*
 have lf:=fun g=>X.zw g;by_cases c2:p.Xt.length<2
 .have d2 : decide ((p.Xt.length : Int) < 2) = true := decide_eq_true QT
  simp only[Ud,Nat.reduceLT,↓reduceIte,Nat.reduceEqDiff,bx,pf1,Co,Qs,(P0 R (Le.refl _)).2,lf,d2];have e:iY n (Oc n es) on p=[]:=by unfold iY;rw[if_pos c2]
  rw[e];exact⟨GI.nil _,l1,fun b hb=>by simp[blk]at hb⟩
 have d2:decide ((p.Xt.length:Int)<2)=false:=decide_eq_false QT;have f0:0<p.Xt.length:=QT;have br:=X.qW 0 f0;have bF:=(X.le Rr.IJ l1).HN 0 f0;obtain⟨start,bI,dz⟩:=cQ _ (om f0);have bQ:(p.Xt.headD 0).toNat=start:=by
  have:p.Xt.headD 0=p.Xt[0]:=headI0 f0;rw[this,bI,TK]
 rw[bI]at bF;obtain⟨h2,h3,e2,e3,l3,w3,o3⟩:=newI w1 (start:Int);simp only[vN]at br;simp only[Ud,Nat.reduceLT,↓reduceIte,Nat.reduceEqDiff,bx,pf1,Co,Qs,(P0 R (Le.refl _)).2,lf,d2,br,bF,e2,e3]
 have bV:h.own R.next=none:=l1.next w1 (J4 _)
 generalize R.next=l at*
 have av:=l1.trans l3;obtain⟨h4,e4,l4,w4,o4⟩:=mV w3 [.int .i64 (-1)];have s4:=hs.le (av.trans l4);simp only[Ud,Nat.reduceLT,↓reduceIte,reduceCtorEq,Vb,e4,sf0,Co,Qs,s4.l0];refine dK.intro pK ⟨lH,rfl,xr⟩ (SV W0 _ n QT h4 (RL.Kr (RS.whole o4 rfl))) ?_;rintro x H w5 ⟨T,rfl,hT,o5,l5⟩;have Y:=l4.trans l5;have bW:=av.trans Y
 have nT:h.own T=none:=(av.trans l4).next w4 hT
 have ay:H.own T=some (.cells (oY (List.replicate n (-1)))):=by rw[o5];simp[oY]
 have aB:=Y.own _ _ o3;obtain⟨h6,e6,l6,w6,o6⟩:=mV w5 [.slice none 0 0]
 have n6:h.own H.next=none:=bW.next w5 (J4 _)
 have aE:T≠H.next:=fun e=>by have:=w5.lt ay;omega
 have bX:H.next≠l:=fun e=>by have:=w5.lt aB;omega
 have bY:=Qr (P:=Tryz.prog) (t:=49) (x:=.slice (some ⟨T,0,none⟩) n n) Rm zd o6 (off:=0) YX rfl rfl;simp only[Ud,Nat.reduceLT,↓reduceIte,Nat.reduceEqDiff,RV,e6,bY]
 have aK:Le h (h6.put H.next (.cells (([.slice none 0 0]:List Value).set 0 (.slice (some ⟨T,0,none⟩) n n)))):=(bW.trans l6).put _ n6
 have w7:WF (h6.put H.next (.cells (([.slice none 0 0]:List Value).set 0 (.slice (some ⟨T,0,none⟩) n n)))):=w6.put _ (w6.lt o6)
 have aM:(h6.put H.next (.cells (([.slice none 0 0]:List Value).set 0 (.slice (some ⟨T,0,none⟩) n n)))).own T=some (.cells (oY (List.replicate n (-1)))):=by rw[AHeap.Dz _ _ _ _ aE];exact l6.own _ _ ay
 have aQ:(h6.put H.next (.cells (([.slice none 0 0]:List Value).set 0 (.slice (some ⟨T,0,none⟩) n n)))).own l=some (.cells [.int .i64 (start:Int)]):=by rw[AHeap.Dz _ _ _ _ (Hn bX)];exact l6.own _ _ aB
 have aT:(h6.put H.next (.cells (([.slice none 0 0]:List Value).set 0 (.slice (some ⟨T,0,none⟩) n n)))).own H.next=some (.cells [.slice (some ⟨T,0,none⟩) n n]):=AHeap.zm _ _ _
 have P7:Le R (h6.put H.next (.cells (([.slice none 0 0]:List Value).set 0 (.slice (some ⟨T,0,none⟩) n n)))):=((l3.trans Y).trans l6).put _ ((l3.trans Y).next w5 (J4 _))
 have b0:T≠l:=fun e=>by
  have:=w4.lt (l4.own _ _ o3);omega
 generalize H.next=m at*
 generalize h6.put m (.cells (([.slice none 0 0]:List Value).set 0 (.slice (some ⟨T,0,none⟩) n n)))=h7 at*;obtain⟨h8,e8,l8,w8,o8⟩:=mV w7 [.slice none 0 0]
 have n8:h.own h7.next=none:=aK.next w7 (J4 _)
 have dM:∀{b o},h7.own b=some o->h7.next≠b:=fun{b o} ob e=>by have:=w7.lt ob;omega
 have c4:=fun g=>V.len g;simp only[Ud,Nat.reduceLT,↓reduceIte,e8,pf0,Co,Qs,(P0 h8 (P7.trans l8)).1,c4]
 have W8:ss h h8 l m h7.next T n start (.slice none 0 0) (List.replicate n (-1),[]):=
  ⟨l8.own _ _ aQ,l8.own _ _ aT,l8.own _ _ aM,o8,GI.nil _,bV,n6,nT,n8,fun b hb=>by simp[blk]at hb,aE,fun e=>dM aM e.symm,b0,dM aQ,dM aT,by simp[blk],by simp[blk],by simp[blk],by simp[blk],aK.trans l8⟩
 generalize h7.next=r at*
 clear dM n8 o8 P7 aT aQ aM w7 aK bY bX aE n6 o6 w6 l6 e6 aB ay o5 e4 e8;clear b0 nT bV P0 hT;have b1:BF n start TT1 TT2 ((p.bG.take 0).foldl (ye start) (List.replicate n (-1),[])):=BF.zero;refine W9.intro (fun k fr hq=>∃(i:Nat) (y:Value),k=p.bG.length-i/\i<=p.bG.length/\fr=mkF [(0,.pointer (some ⟨B,0,none⟩)),(5,.pointer (some ⟨l,0,none⟩)),(6,.pointer (some ⟨m,0,none⟩)),(7,.pointer (some ⟨r,0,none⟩)),(8,.func (.func 140) #[] #[.pointer (some ⟨l,0,none⟩),.pointer (some ⟨m,0,none⟩),.pointer (some ⟨r,0,none⟩)]),(32,ea),(33,.int .i64 (p.bG.length:Nat)),(34,.int .i64 (i:Nat))]/\
   ss h hq l m r T n start y ((p.bG.take i).foldl (ye start) (List.replicate n (-1),[]))/\BF n start TT1 TT2 ((p.bG.take i).foldl (ye start) (List.replicate n (-1),[])))
  p.bG.length [(0,.pointer (some ⟨B,0,none⟩)),(5,.pointer (some ⟨l,0,none⟩)),(6,.pointer (some ⟨m,0,none⟩)),(7,.pointer (some ⟨r,0,none⟩)),(8,.func (.func 140) #[] #[.pointer (some ⟨l,0,none⟩),.pointer (some ⟨m,0,none⟩),.pointer (some ⟨r,0,none⟩)]),(32,ea),(33,.int .i64 (p.bG.length:Nat)),(34,.int .i64 (0:Nat))] vy
  ⟨0,_,rfl,KW _,rfl,W8,b1⟩ ?_
 clear b1 W8 w8 l8;rintro k fr hq b2 ⟨i,y,rfl,hi,rfl,W,F⟩;refine yq ?_;refine DK.intro (fun ht=>?_) (fun hf=>?_)
 .have d : i < p.bG.length := Ub ht
  clear ht;have c5:=XR d;have aX:p.bG.take (i+1)=p.bG.take i++[p.bG[i]]:=QM d;have b3:=om d;obtain⟨p1,p2,p3⟩:=bo p.bG[i] b3;have ad:=V.addr (k:=.i64) i d;have ld:=(V.le W.le).load c5;have S:(p.bG.take (i+1)).foldl (ye start) (List.replicate n (-1),[])=ye start ((p.bG.take i).foldl (ye start) (List.replicate n (-1),[])) p.bG[i]:=by rw[aX,Tr];rfl
  have F1:=(F.Ic [p.bG[i]] fun e he=>by
   rw[Rb.1 he];obtain⟨a,b,q1,q2,q3⟩:=O0 bo b3;exact⟨⟨a,b,q1,QT,q3⟩,fun _ _=>trivial⟩).1
  rw[show[p.bG[i]].foldl (ye start) ((p.bG.take i).foldl (ye start) (List.replicate n (-1),[]))=ye start ((p.bG.take i).foldl (ye start) (List.replicate n (-1),[])) p.bG[i]from rfl]at F1;rw[S.symm]at F1;have hm:=F.BX;have hlen:=F.len;generalize p.bG[i]=e at*;obtain⟨g3,g4,q3,q4,m4,v4,u4⟩:=bS b2 e;have W4:=W.up m4;have Z:=Ol u4;have ag:=Lt u4
  generalize hq.next=E at*
  have aw:=Gm i (ym d (Ei cY));obtain⟨a,ha⟩:∃a:Nat,e.1=(a:Int):=⟨e.1.toNat,QT⟩;obtain⟨b,AD⟩:∃b:Nat,e.2=(b:Int):=⟨e.2.toNat,QT⟩;have c6:a<n:=QT;have da:b<n:=QT;rw[ha]at Z;rw[AD]at ag;have ah:((p.bG.take i).foldl (ye start) (List.replicate n (-1),[])).2.length<=1000:=QT;by_cases c1:a=start
  .have d1 : decide ((a : Int) = (start : Int)) = true := decide_eq_true QT
   have eB:ye start ((p.bG.take i).foldl (ye start) (List.replicate n (-1),[])) e=Cm start ((p.bG.take i).foldl (ye start) (List.replicate n (-1),[])) b start:=by
    unfold ye;rw[if_pos QT,AD,TK]
   rw[eB]at S;simp only[Ud,Nat.reduceLT,↓reduceIte,Nat.reduceEqDiff,reduceCtorEq,ad,ld,q3,q4,Il,Mt,Co,Qs,Z,ag,W4.lS,d1];refine dK.intro pK ⟨qS34,rfl,xr⟩ (Sz W0 W4 hlen (v:=b) (by_:=start) da ah) ?_;rintro x g5 v5 ⟨I,U⟩;simp only[Ud,Nat.reduceLT,↓reduceIte,Nat.reduceEqDiff,reduceCtorEq,aw];exact cX (p.bG.length-(i+1)) [(0,.pointer (some ⟨B,0,none⟩)),(5,.pointer (some ⟨l,0,none⟩)),(6,.pointer (some ⟨m,0,none⟩)),(7,.pointer (some ⟨r,0,none⟩)),(8,.func (.func 140) #[] #[.pointer (some ⟨l,0,none⟩),.pointer (some ⟨m,0,none⟩),.pointer (some ⟨r,0,none⟩)]),(32,ea),(33,.int .i64 (p.bG.length:Nat)),(34,.int .i64 (i+1:Nat))] (dN d) vy ⟨i+1,I,rfl,d,rfl,by rw[S];exact U,F1⟩
  have d1:decide ((a:Int)=(start:Int))=false:=decide_eq_false QT;by_cases c3:b=start
  .have d3 : decide ((b : Int) = (start : Int)) = true := decide_eq_true QT
   have eB:ye start ((p.bG.take i).foldl (ye start) (List.replicate n (-1),[])) e=Cm start ((p.bG.take i).foldl (ye start) (List.replicate n (-1),[])) a start:=by
    unfold ye;rw[if_neg QT,if_pos QT,ha,TK]
   rw[eB]at S;simp only[Ud,Nat.reduceLT,↓reduceIte,Nat.reduceEqDiff,reduceCtorEq,ad,ld,q3,q4,Il,Mt,Co,Qs,Z,ag,W4.lS,d1,d3];refine dK.intro pK ⟨qS34,rfl,xr⟩ (Sz W0 W4 hlen (v:=a) (by_:=start) c6 ah) ?_;rintro x g5 v5 ⟨I,U⟩;simp only[Ud,Nat.reduceLT,↓reduceIte,Nat.reduceEqDiff,reduceCtorEq,aw];exact cX (p.bG.length-(i+1)) [(0,.pointer (some ⟨B,0,none⟩)),(5,.pointer (some ⟨l,0,none⟩)),(6,.pointer (some ⟨m,0,none⟩)),(7,.pointer (some ⟨r,0,none⟩)),(8,.func (.func 140) #[] #[.pointer (some ⟨l,0,none⟩),.pointer (some ⟨m,0,none⟩),.pointer (some ⟨r,0,none⟩)]),(32,ea),(33,.int .i64 (p.bG.length:Nat)),(34,.int .i64 (i+1:Nat))] (dN d) vy ⟨i+1,I,rfl,d,rfl,by rw[S];exact U,F1⟩
  .have d3 : decide ((b : Int) = (start : Int)) = false := decide_eq_false QT
   have eB:ye start ((p.bG.take i).foldl (ye start) (List.replicate n (-1),[])) e=(p.bG.take i).foldl (ye start) (List.replicate n (-1),[]):=by
    unfold ye;rw[if_neg QT,if_neg QT]
   rw[eB]at S;simp only[Ud,Nat.reduceLT,↓reduceIte,Nat.reduceEqDiff,reduceCtorEq,ad,ld,q3,q4,Il,Mt,Co,Qs,Z,ag,W4.lS,d1,d3,aw];exact cX (p.bG.length-(i+1)) [(0,.pointer (some ⟨B,0,none⟩)),(5,.pointer (some ⟨l,0,none⟩)),(6,.pointer (some ⟨m,0,none⟩)),(7,.pointer (some ⟨r,0,none⟩)),(8,.func (.func 140) #[] #[.pointer (some ⟨l,0,none⟩),.pointer (some ⟨m,0,none⟩),.pointer (some ⟨r,0,none⟩)]),(32,ea),(33,.int .i64 (p.bG.length:Nat)),(34,.int .i64 (i+1:Nat))] (dN d) vy ⟨i+1,y,rfl,d,rfl,by rw[S];exact W4,F1⟩
 have A:p.bG.length<=i:=Yv hf;rw[xV A]at W F;have aq:p.bG.foldl (ye start) (List.replicate n (-1),[])=Hs n start p.bG:=rfl;rw[aq]at W F;refine yq ?_;have b4:Hs n start p.bG=bfsM (Oc n es) start (Hs n start p.bG) 0:=rfl;rw[b4]at W F;refine W9.intro (fun k fr hz=>∃(i:Nat) (y:Value),k=n+1-i/\fr=mkF [(0,.pointer (some ⟨B,0,none⟩)),(5,.pointer (some ⟨l,0,none⟩)),(6,.pointer (some ⟨m,0,none⟩)),(7,.pointer (some ⟨r,0,none⟩)),(8,.func (.func 140) #[] #[.pointer (some ⟨l,0,none⟩),.pointer (some ⟨m,0,none⟩),.pointer (some ⟨r,0,none⟩)]),(11,.int .i64 (i:Nat))]/\
   ss h hz l m r T n start y (bfsM (Oc n es) start (Hs n start p.bG) i)/\BF n start TT1 TT2 (bfsM (Oc n es) start (Hs n start p.bG) i)/\i<=(bfsM (Oc n es) start (Hs n start p.bG) i).2.length/\∀j,j<i->Ev (Oc n es) on start (Hs n start p.bG) j=false)
  (n+1) [(0,.pointer (some ⟨B,0,none⟩)),(5,.pointer (some ⟨l,0,none⟩)),(6,.pointer (some ⟨m,0,none⟩)),(7,.pointer (some ⟨r,0,none⟩)),(8,.func (.func 140) #[] #[.pointer (some ⟨l,0,none⟩),.pointer (some ⟨m,0,none⟩),.pointer (some ⟨r,0,none⟩)]),(11,.int .i64 (0:Nat))] vy
  ⟨0,y,rfl,rfl,W,F,KW _,fun j hj=>absurd hj (kS _)⟩ ?_
 clear b2 W F A hf hi b4 aq i y;rintro k fr hz db ⟨i,y,rfl,rfl,W,F,dc,b5⟩;have ah:=F.BX;have hlen:=F.len;have lm:=fun g=>W.gm.rl.zw g;rw[tG]at lm;have aY:=way_at (p:=p) (i:=i) (n:=n) (rows:=Oc n es) (on:=on) c2 bQ QT b5;simp only[Ud,Nat.reduceLT,↓reduceIte,Nat.reduceEqDiff,reduceCtorEq,W.lM,lm];refine DK.intro (fun ht=>?_) (fun hf=>?_)
 rotate_left
 .have A : (bfsM (Oc n es) start (Hs n start p.bG) i).2.length <= i := Yv hf
  have J:(bfsM (Oc n es) start (Hs n start p.bG) i).2[i]?=none:=Tz A;have e:=aY (by unfold Ev;rw[J]);simp only[J]at e;rw[e];refine yq ?_;exact⟨GI.nil _,W.le,fun b hb=>by simp[blk]at hb⟩
 have d:i<(bfsM (Oc n es) start (Hs n start p.bG) i).2.length:=Ub ht;clear ht;have s:=XR d;have a1:=W.gm.rl.qW i (by rw[tG];exact d);have K:=W.gm.rl.HN i (by rw[tG];exact d);rw[uD d]at K;have b6:=om d;have a6:=(F.lt _ b6).1;generalize (bfsM (Oc n es) start (Hs n start p.bG) i).2[i]=v at s K b6 a6;have sz:=hs.le W.le;have M:v<on.length:=by rw[cE];exact a6
 have a7:=ho.U6 (k:=.i64) v M;have C:=(ho.le Rr.Po W.le).Qh v M;have dd:qt on v=on[v]:=YR M;rw[<-dd]at C;have b8:i<n:=QT;cases N:qt on v with
 |true=>
  rw[N]at C;have e:=aY (by unfold Ev;rw[s];exact N);simp only[s]at e;rw[e];simp only[Ud,Nat.reduceLT,↓reduceIte,Nat.reduceEqDiff,reduceCtorEq,W.lM,a1,K,sf2,Co,Qs,sz.l2,a7,C];have par:=F.par;clear e N;generalize bfsM (Oc n es) start (Hs n start p.bG) i=st at*;refine W9.intro (fun k fr hy=>∃(cur:Nat) (xv:Value) (L:wi),fr=mkF [(5,.pointer (some ⟨l,0,none⟩)),(6,.pointer (some ⟨m,0,none⟩)),(12,.int .i64 (cur:Nat)),(13,xv)]/\ss h hy l m r T n start y st/\GI hy xv (aW L)/\tQ hz xv/\Le hz hy/\
    traceM st.1 start k cur++L.reverse=traceM st.1 start n v/\(cur=start\/∃q,q<k/\st.2[q]?=some cur)/\L.length+k=n)
   n [(5,.pointer (some ⟨l,0,none⟩)),(6,.pointer (some ⟨m,0,none⟩)),(12,.int .i64 (v:Nat)),(13,.slice none 0 0)] vy
   ⟨v,_,[],rfl,W,GI.nil _,fun b hb=>by simp[blk]at hb,Le.refl _,YX,.inr ⟨i,b8,s⟩,YX⟩ ?_
  rintro k fr hy a8 ⟨cur,xv,L,rfl,Wy,gx,ax,b9,aj,cc,dA⟩;by_cases cs:cur=start
  .subst cs
   have ds:decide ((cur:Int)=(cur:Int))=true:=decide_eq_true rfl;obtain⟨ak,g4,g5,q4,q5,O,v5,m4,bb,-⟩:=gx.push a8 (cur:Int) (by rw[tG];omega);obtain⟨m5,a5⟩:=bb hz b9 ax;have e6:aW L++[(cur:Int)]=aW (L++[cur]):=by simp[aW]
   rw[e6]at O;simp only[Ud,Nat.reduceLT,↓reduceIte,Nat.reduceEqDiff,Wy.lS,bne,q4,q5];refine dK.intro pK ⟨bU,rfl,xr⟩ (Jg W0 ak _ g5 O (by rw[tG,Vw,SB];omega)) ?_;rintro x g6 v6 ⟨cd,dj,-⟩;refine yq ?_;have e7:(aW (L++[cur])).reverse=aW (traceM st.1 cur n v):=by
    rw[<-aj,Gt];simp[aW]
   rw[e7]at cd;have l6:=dj hz m5 a5;exact⟨cd,W.le.trans l6,fun b hb=>W.le.none (a5 b hb)⟩
  .have ds : decide ((cur : Int) = (start : Int)) = false := decide_eq_false QT
   obtain⟨q,dk,cg⟩:=cc.resolve_left cs;obtain⟨f,rfl⟩:∃f,k=f+1:=⟨k-1,QT⟩;have bj:=(F.lt cur (Jb cg)).1;obtain⟨ak,g4,g5,q4,q5,O,v5,m4,bb,dB⟩:=gx.push a8 (cur:Int) (by rw[tG];omega);obtain⟨m5,a5⟩:=bb hz b9 ax;have U:=W.up m5;have e6:aW L++[(cur:Int)]=aW (L++[cur]):=by simp[aW]
   rw[e6]at O;have hL:=XR (show cur<st.1.length by rw[hlen];exact bj);have ld:=AK U.oT hL;have gd:st.1.getD cur 0=st.1[cur]'(by rw[hlen];exact bj):=YR _
   rw[traceM,if_neg cs]at aj;have dm:∃D:Nat,st.1.getD cur 0=(D:Int)/\(D=start\/∃q,q<f/\st.2[q]?=some D):=by
    rcases par q cur cg with⟨R,_⟩|⟨j,u,R,h2,h3,_⟩
    .exact⟨start,R,.inl rfl⟩
    .exact⟨u,h3,.inr ⟨j,trc_k dk j R,h2⟩⟩
   obtain⟨D,ar,ck⟩:=dm;rw[<-gd,ar]at ld;rw[ar,TK]at aj;simp only[Ud,Nat.reduceLT,↓reduceIte,Nat.reduceEqDiff,Wy.lS,bne,ds,q4,q5,U.l6,WS T n .i64 cur bj,ld];refine cX f [(5,.pointer (some ⟨l,0,none⟩)),(6,.pointer (some ⟨m,0,none⟩)),(12,.int .i64 (D:Nat)),(13,ak)] (SP _) vy ⟨D,ak,L++[cur],rfl,U,O,a5,m5,?_,ck,?_⟩
   .rw[<-aj];simp
   .rw[Vw,SB];omega
 |false=>
  rw[N]at C;have bm:Ev (Oc n es) on start (Hs n start p.bG) i=false:=by unfold Ev;rw[s];exact N
  have cm:bfsM (Oc n es) start (Hs n start p.bG) (i+1)=j7 start (bfsM (Oc n es) start (Hs n start p.bG) i) v ((Oc n es).getD v []):=by rw[bfsM,s]
  have Q:v<(Oc n es).length:=by rw[XM];exact a6
  have cr:=hb.Jl v Q;obtain⟨uv,dp,z⟩:=hb.To v Q;have al:(Oc n es).getD v []=(Oc n es)[v]:=YR Q;generalize (Oc n es)[v]=row at z al;have lr:=fun g=>z.zw g;have dE:row.length<=3000:=by
   have:=OI n es row (by rw[<-al,YR Q];exact om Q);omega
  rw[al]at cm;simp only[Ud,Nat.reduceLT,↓reduceIte,Nat.reduceEqDiff,reduceCtorEq,W.lM,a1,K,sf1,sf2,Co,Qs,sz.l1,sz.l2,a7,C,cr,dp hz W.le,lr];clear aY lm a1 K sz a7 C cr;generalize bfsM (Oc n es) start (Hs n start p.bG) i=st at*;refine W9.intro (fun k fr hy=>∃(q:Nat) (y:Value),k=row.length-q/\q<=row.length/\fr=mkF [(0,.pointer (some ⟨B,0,none⟩)),(5,.pointer (some ⟨l,0,none⟩)),(6,.pointer (some ⟨m,0,none⟩)),(7,.pointer (some ⟨r,0,none⟩)),(8,.func (.func 140) #[] #[.pointer (some ⟨l,0,none⟩),.pointer (some ⟨m,0,none⟩),.pointer (some ⟨r,0,none⟩)]),(11,.int .i64 (i:Nat)),(12,.int .i64 (v:Nat)),(98,uv),(99,.int .i64 (row.length:Nat)),(100,.int .i64 (q:Nat))]/\
    ss h hy l m r T n start y (j7 start st v (row.take q))/\BF n start TT1 TT2 (j7 start st v (row.take q))/\i<(j7 start st v (row.take q)).2.length/\(j7 start st v (row.take q)).2[i]?=some v)
   row.length [(0,.pointer (some ⟨B,0,none⟩)),(5,.pointer (some ⟨l,0,none⟩)),(6,.pointer (some ⟨m,0,none⟩)),(7,.pointer (some ⟨r,0,none⟩)),(8,.func (.func 140) #[] #[.pointer (some ⟨l,0,none⟩),.pointer (some ⟨m,0,none⟩),.pointer (some ⟨r,0,none⟩)]),(11,.int .i64 (i:Nat)),(12,.int .i64 (v:Nat)),(98,uv),(99,.int .i64 (row.length:Nat)),(100,.int .i64 (0:Nat))] vy
   ⟨0,y,rfl,KW _,rfl,W,F,d,s⟩ ?_
  clear db W F d s ah hlen dc;clear y;rintro k fr hy a8 ⟨q,y,rfl,hq,rfl,W,F,d,s⟩;refine yq ?_;refine DK.intro (fun ht=>?_) (fun hf=>?_)
  .have G : q < row.length := Ub ht
   clear ht;have dr:=z.qW q G;have dv:=(z.le Rr.IJ W.le).HN q G;have aX:row.take (q+1)=row.take q++[row[q]]:=QM G;have dw:row[q]∈(Oc n es).getD v []:=by rw[al];exact om G
   generalize row[q]=x at*;obtain⟨w,rfl,cx⟩:=iz hR dw;have S:j7 start st v (row.take (q+1))=Cm start (j7 start st v (row.take q)) w v:=by rw[aX];unfold j7;rw[Tr];rfl
   have hm:=F.BX;have hlen:=F.len;obtain⟨F1,⟨t,et⟩,-⟩:=F.meet (v:=w) (by_:=v) cx (.inr ⟨i,s,trivial⟩);rw[<-S]at F1 et;have aw:=Gm q QT;simp only[Ud,Nat.reduceLT,↓reduceIte,Nat.reduceEqDiff,reduceCtorEq,dr,dv];refine dK.intro pK ⟨qS34,rfl,xr⟩ (Sz W0 W hlen (v:=w) (by_:=v) cx QT) ?_;rintro x g5 v5 ⟨I,U⟩;rw[<-S]at U;simp only[Ud,Nat.reduceLT,↓reduceIte,Nat.reduceEqDiff,reduceCtorEq,aw];exact cX (row.length-(q+1)) [(0,.pointer (some ⟨B,0,none⟩)),(5,.pointer (some ⟨l,0,none⟩)),(6,.pointer (some ⟨m,0,none⟩)),(7,.pointer (some ⟨r,0,none⟩)),(8,.func (.func 140) #[] #[.pointer (some ⟨l,0,none⟩),.pointer (some ⟨m,0,none⟩),.pointer (some ⟨r,0,none⟩)]),(11,.int .i64 (i:Nat)),(12,.int .i64 (v:Nat)),(98,uv),(99,.int .i64 (row.length:Nat)),(100,.int .i64 (q+1:Nat))] (dN G) vy
    ⟨q+1,I,rfl,G,rfl,U,F1,by rw[et,Vw];exact lt_addr d,Sb et s⟩
  .have A : row.length <= q := Yv hf
   rw[xV A,<-cm]at W F d;have aw:=Gm i QT;simp only[Ud,Nat.reduceLT,↓reduceIte,Nat.reduceEqDiff,reduceCtorEq,aw];refine cX (n+1-(i+1)) [(0,.pointer (some ⟨B,0,none⟩)),(5,.pointer (some ⟨l,0,none⟩)),(6,.pointer (some ⟨m,0,none⟩)),(7,.pointer (some ⟨r,0,none⟩)),(8,.func (.func 140) #[] #[.pointer (some ⟨l,0,none⟩),.pointer (some ⟨m,0,none⟩),.pointer (some ⟨r,0,none⟩)]),(11,.int .i64 (i+1:Nat))] (sub_lt1 b8) vy
    ⟨i+1,y,rfl,rfl,W,F,d,fun j hj=>?_⟩
   by_cases ej:j=i
   .rw[ej];exact bm
   .exact b5 j (Aw hj ej)
end
end Go.Fw
namespace Go.Fw
open Go.Proofs
attribute [local irreducible] Ax YH XZ Uk KO KN KX KE VK DK Q7 dK W9
attribute [local instance] Classical.propDecidable
structure Sm (n:Nat) (L:LF) (ρ d:Nat->Nat):Prop where
 len:L.length=n
 up:∀v,v<n->∃w,w<n/\L[v]?=some (w:Int)/\ρ w=ρ v/\((w=v/\ρ v=v)\/(w≠v/\d w<d v))
 rt:∀v,v<n->ρ v<n/\ρ (ρ v)=ρ v
section
variable {n : Nat} {L : List Int} {ρ d : Nat → Nat}
def Sm.zero (n:Nat):Sm n ((List.range n).map fun(v:Nat)=>(v:Int)) id (fun _=>0):=
 ⟨YX,fun v a=>⟨v,a,by simp[a],rfl,.inl ⟨rfl,rfl⟩⟩,fun v a=>⟨a,rfl⟩⟩
def Sm.halve (F:Sm n L ρ d) {v w u:Nat} (g:v<n) (hw:L[v]?=some (w:Int)) (a:w≠v) (k:L[w]?=some (u:Int)):Sm n (L.set v (u:Int)) ρ d/\d u<d v/\u<n/\ρ u=ρ v:=by
 obtain⟨w',l,h2,h3,b⟩:=F.up v g;rw[hw]at h2;injection h2 with h2;obtain rfl:w=w':=QT;have b:=b.resolve_left fun q=>a q.1;obtain⟨u',h,c,i,j⟩:=F.up w l;rw[k]at c;injection c with c;obtain rfl:u=u':=QT;have f:d u<d v:=by
  rcases j with⟨e,_⟩|⟨_,j⟩
  .rw[e];exact b.2
  .omega
 refine⟨⟨by rw[qm];exact F.len,fun x m=>?_,F.rt⟩,f,h,i.trans h3⟩;by_cases e:v=x
 .subst e
  refine⟨u,h,by rw[v8,if_pos rfl,if_pos (by rw[F.len];exact g)],i.trans h3,.inr ⟨fun q=>?_,f⟩⟩;rw[q]at f;omega
 .rw[v8,if_neg e];exact F.up x m
noncomputable def ba (ρ:Nat->Nat) (a b:Nat):Nat->Nat:=fun x=>if ρ x=a then b else ρ x
noncomputable def dZ (ρ d:Nat->Nat) (a b:Nat):Nat->Nat:=fun x=>if ρ x=a/\a≠b then d x+d b+1 else d x
def Sm.join (F:Sm n L ρ d) {a b:Nat} (ha:a<n) (hb:b<n) (ra:ρ a=a) (rb:ρ b=b):Sm n (L.set a (b:Int)) (ba ρ a b) (dZ ρ d a b):=by
 by_cases e:a=b
 .subst e
  have j:ba ρ a a=ρ:=by funext x;unfold ba;split<;>simp_all
  have k:dZ ρ d a a=d:=by funext x;unfold dZ;rw[if_neg fun q=>q.2 rfl]
  rw[j,k];refine⟨by rw[qm];exact F.len,fun x f=>?_,F.rt⟩;by_cases e:a=x
  .subst e
   exact⟨a,ha,by rw[v8,if_pos rfl,if_pos (by rw[F.len];exact ha)],rfl,.inl ⟨rfl,ra⟩⟩
  .rw[v8,if_neg e];exact F.up x f
 .have l : ba ρ a b b = b := by unfold ba; rw [rb, if_neg (Hn e)]
  have g:∀x,x<n->ba ρ a b x<n:=fun x f=>by
   unfold ba;split
   .exact hb
   .exact(F.rt x f).1
  refine⟨by rw[qm];exact F.len,fun x f=>?_,fun x f=>⟨g x f,?_⟩⟩
  .by_cases ex : a = x
   .subst ex
    refine⟨b,hb,by rw[v8,if_pos rfl,if_pos (by rw[F.len];exact ha)],?_,.inr ⟨Hn e,?_⟩⟩
    .rw[l];unfold ba;rw[if_pos ra]
    .unfold dZ;rw[rb,if_neg (fun q=>e q.1.symm),if_pos ⟨ra,e⟩];omega
   .rw [v8, if_neg ex]
    obtain⟨w,m,h2,h3,o⟩:=F.up x f;refine⟨w,m,h2,by unfold ba;rw[h3],?_⟩;rcases o with⟨h,i⟩|⟨h,i⟩
    .refine .inl ⟨h, ?_⟩
     unfold ba;rw[i,if_neg (Hn ex)]
    .refine .inr ⟨h, ?_⟩
     unfold dZ;rw[h3];split<;>omega
  .unfold ba
   by_cases c:ρ x=a
   .rw[if_pos c,rb,if_neg (Hn e)]
   .rw[if_neg c,(F.rt x f).2,if_neg c]
end
def Ar (O:Ac) (g T n:Nat) (L:LF) (ρ d:Nat->Nat) (v:Nat) (h:AHeap) (J:h.own g=some (.cells [.slice (some ⟨T,0,none⟩) n n])) (oT:h.own T=some (.cells (oY L))) (m:T≠g) (F:Sm n L ρ d) (P:v<n):
  AC Tryz.prog O 143 [.int .i64 (v:Int),.pointer (some ⟨g,0,none⟩)] h fun x h'=>x=.int .i64 (ρ v:Int)/\∃a,Sm n a ρ d/\h'.own T=some (.cells (oY a))/\(∀f,Le f h->f.own T=none->Le f h')/\∀b o,b≠T->h.own b=some o->h'.own b=some o:=by
 refine AC.vE ⟨WC,rfl,xr⟩ Tryz.ntmps143 Tryz.results143 fun Q=>?_;simp only[xq,Nat.reduceAdd];refine yq ?_;refine W9.intro (fun k fr i=>∃(c:Nat) (a:LF),k=d c/\c<n/\fr=mkF [(0,.int .i64 (c:Nat)),(1,.pointer (some ⟨g,0,none⟩))]/\ρ c=ρ v/\Sm n a ρ d/\i.own T=some (.cells (oY a))/\(∀f,Le f h->f.own T=none->Le f i)/\∀b o,b≠T->h.own b=some o->i.own b=some o)
  (d v) [(0,.int .i64 (v:Nat)),(1,.pointer (some ⟨g,0,none⟩))] vy ⟨v,L,rfl,P,rfl,rfl,F,oT,fun f t _=>t,fun b o _ y=>y⟩ ?_
 clear oT F;rintro k fr i R ⟨c,a,rfl,l,rfl,K,F,oT,t,z⟩;have A:=z g _ (Hn m) J;have l5:aload Tryz.prog i 49 ⟨g,0,none⟩=some (.slice (some ⟨T,0,none⟩) n n):=by rw[wT Rm rfl A];rfl
 obtain⟨w,hw,M,S,j⟩:=F.up c l;have ld:=AK oT M;by_cases e:w=c
 .subst e
  have d1:decide ((w:Int)=(w:Int))=true:=decide_eq_true rfl;have B:ρ w=w:=by
   rcases j with h|h
   .exact h.2
   .exact absurd rfl h.1
  simp only[Ud,Nat.reduceLT,↓reduceIte,Nat.reduceEqDiff,reduceCtorEq,l5,WS T n .i64 w l,ld,bne];exact⟨by rw[<-K,B],a,F,oT,t,z⟩
 .have d1 : decide ((w : Int) = (c : Int)) = false := decide_eq_false QT
  obtain⟨u,W,p,_,_⟩:=F.up w hw;have C:=AK oT p;obtain⟨U,V,D,E⟩:=F.halve l M e p;have q:c<a.length:=by rw[F.len];exact l
  have st:=uH oT q (u:Int);have r:(i.put T (.cells (oY (a.set c (u:Int))))).own T=some (.cells (oY (a.set c (u:Int)))):=AHeap.zm _ _ _;have s:∀b o,b≠T->h.own b=some o->(i.put T (.cells (oY (a.set c (u:Int))))).own b=some o:=fun b o hb y=>by rw[AHeap.Dz _ _ _ _ hb];exact z b o hb y
  have G:aload Tryz.prog (i.put T (.cells (oY (a.set c (u:Int))))) 49 ⟨g,0,none⟩=some (.slice (some ⟨T,0,none⟩) n n):=by rw[wT Rm rfl (s g _ (Hn m) J)];rfl
  have H:aload Tryz.prog (i.put T (.cells (oY (a.set c (u:Int))))) 3 ⟨T,c,none⟩=some (.int .i64 (u:Int)):=AK r (by rw[v8,if_pos rfl,if_pos q]);simp only[Ud,Nat.reduceLT,↓reduceIte,Nat.reduceEqDiff,reduceCtorEq,l5,WS T n .i64 c l,ld,bne,d1];refine rD (vu [0,1,2,3,4,5,6,7,8,9] (PO 10 [0,1,2,3,4,5,6,7,8,9] .done)) ?_;simp only[Ud,Nat.reduceLT,↓reduceIte,Nat.reduceEqDiff,reduceCtorEq,Nat.reduceBEq,rm,l5,WS T n .i64 c l,WS T n .i64 w hw,ld,C,st,G,H];exact cX (d u) [(0,.int .i64 (u:Nat)),(1,.pointer (some ⟨g,0,none⟩))] V vy ⟨u,_,rfl,D,rfl,E.trans K,U,r,fun f I N=>(t f I N).put _ N,s⟩
end Go.Fw
namespace Go.Fw
open Go.Proofs
attribute [local instance] Classical.propDecidable
structure Sep (b0 h:AHeap) (vs:List Value):Prop where
 eX:∀(i j:Nat) u w b,i≠j->vs[i]?=some u->vs[j]?=some w->blk u=some b->blk w≠some b
 own:∀(i:Nat) u b,vs[i]?=some u->blk u=some b->h.own b≠none
 ap:∀(i:Nat) u,vs[i]?=some u->tQ b0 u
 le:Le b0 h
section
variable {b0 h h' : AHeap} {vs : List Value}
def Sep.kept (S:Sep b0 h vs) (l:Le b0 h') (a:∀b o,h.own b=some o->h'.own b≠none):Sep b0 h' vs:=
 ⟨S.eX,fun i u b c hb=>by
  obtain⟨o,d⟩:=yu.1 (S.own i u b c hb);exact a b o d,S.ap,l⟩
def Sep.up (S:Sep b0 h vs) (l:Le h h'):Sep b0 h' vs:=S.kept (S.le.trans l) fun b o a=>by rw[l.own b o a];simp
def Sep.app (S:Sep b0 h vs) {i:Nat} {u u':Value} (m:vs[i]?=some u) (hf:∀f,Le f h->tQ f u->Le f h'/\tQ f u') (r:∀b o,h.own b=some o->blk u≠some b->h'.own b=some o/\blk u'≠some b) (n:∀b,blk u'=some b->h'.own b≠none):Sep b0 h' (vs.set i u'):=by
 have p:=(bH.1 m).1;have key:∀(j:Nat) w,(vs.set i u')[j]?=some w->(j=i/\w=u')\/(j≠i/\vs[j]?=some w):=fun j w hw=>by
  rw[v8]at hw;by_cases e:i=j
  .rw [if_pos e] at hw
   simp only[p,if_true]at hw;injection hw with hw;exact .inl ⟨e.symm,hw.symm⟩
  .rw[if_neg e]at hw;exact .inr ⟨fun q=>e q.symm,hw⟩
 obtain⟨l1,s⟩:=hf b0 S.le (S.ap i u m);have fresh:∀(j:Nat) w b,j≠i->vs[j]?=some w->blk w=some b->h'.own b≠none/\blk u'≠some b:=fun j w b t hw hb=>by
  obtain⟨o,n⟩:=yu.1 (S.own j w b hw hb);obtain⟨k1,k2⟩:=r b o n fun q=>S.eX j i w u b t hw m hb q;exact⟨by rw[k1];simp,k2⟩
 refine⟨fun j k a w b g ha hw hb q=>?_,fun j a b ha hb=>?_,fun j a ha=>?_,l1⟩
 .rcases key j a ha with ⟨c, rfl⟩ | ⟨c, d⟩
  .rcases key k w hw with ⟨l, rfl⟩ | ⟨l, h2⟩
   .exact g (c.trans l.symm)
   .exact(fresh k w b l h2 q).2 hb
  .rcases key k w hw with ⟨l, rfl⟩ | ⟨l, h2⟩
   .exact(fresh j a b c d hb).2 q
   .exact S.eX j k a w b g d h2 hb q
 .rcases key j a ha with ⟨c, rfl⟩ | ⟨c, d⟩
  .exact n b hb
  .exact(fresh j a b c d hb).1
 .rcases key j a ha with ⟨c, rfl⟩ | ⟨c, d⟩
  .exact s
  .exact S.ap j a d
def Sep.snoc (S:Sep b0 h vs) {v:Value} (e:blk v=none):Sep b0 h (vs++[v]):=by
 have key:∀(j:Nat) w,(vs++[v])[j]?=some w->vs[j]?=some w\/w=v:=fun j w hw=>by
  by_cases c:j<vs.length
  .rw[US c]at hw;exact .inl hw
  .rw [kc QT] at hw
   have g:=Jb hw;rw[Rb]at g;exact .inr g
 refine⟨fun i j u w b f a hw hb q=>?_,fun i u b a hb=>?_,fun i u a b hb=>?_,S.le⟩
 .rcases key i u a with d | rfl
  .rcases key j w hw with h2 | rfl
   .exact S.eX i j u w b f d h2 hb q
   .rw[e]at q;cases q
  .rw[e]at hb;cases hb
 .rcases key i u a with d | rfl
  .exact S.own i u b d hb
  .rw[e]at hb;cases hb
 .rcases key i u a with d | rfl
  .exact S.ap i u d b hb
  .rw[e]at hb;cases hb
end
abbrev Y2:Value:=.slice none 0 0
def cellsO (vs:List Value):Nat->List Value
 |0=>[]
 |m+1=>cellsO vs m++[vs.getD (2*m) Y2,vs.getD (2*m+1) Y2,Y2]
def yT (vs:List Value):∀m,(cellsO vs m).length=m*3
 |0=>rfl
 |m+1=>by rw[cellsO,Vw,yT vs m];simp;omega
def mG (vs:List Value) {k:Nat}:∀m,k<m->(cellsO vs m)[k*3]?=some (vs.getD (2*k) Y2)/\(cellsO vs m)[k*3+1]?=some (vs.getD (2*k+1) Y2)/\(cellsO vs m)[k*3+2]?=some Y2
 |0,h=>absurd h (kS _)
 |m+1,h=>by
  rw[cellsO];by_cases e:k=m
  .subst e
   refine⟨?_,?_,?_⟩
   .rw[kc (by rw[yT];omega),yT,iE];rfl
   .rw[kc (by rw[yT];omega),yT,GF];rfl
   .rw[kc (by rw[yT];omega),yT,GF];rfl
  .obtain ⟨a, h2, h3⟩ := mG vs (k := k) m QT
   refine⟨?_,?_,?_⟩
   .rw[US (by rw[yT];omega)];exact a
   .rw[US (by rw[yT];omega)];exact h2
   .rw[US (by rw[yT];omega)];exact h3
def SI {vs ws:List Value}:∀m,(∀i,i<2*m->vs.getD i Y2=ws.getD i Y2)->cellsO vs m=cellsO ws m
 |0,_=>rfl
 |m+1,h=>by rw[cellsO,cellsO,SI m fun i hi=>h i QT,h (2*m) QT,h (2*m+1) QT]
def CT {vs:List Value} {k r:Nat} (b:r<2) {a:Value}:∀m,k<m->2*m<=vs.length->cellsO (vs.set (2*k+r) a) m=(cellsO vs m).set (k*3+r) a
 |0,h,_=>absurd h (kS _)
 |m+1,h,c=>by
  rw[cellsO,cellsO];by_cases e:k=m
  .subst e
   rw[SI (ws:=vs) k fun i hi=>by rw[Ao,if_neg QT]];rw[ZK _ _ (by rw[yT];omega),yT,GF];congr 1;have:r=0\/r=1:=QT;rcases this with rfl|rfl
   .rw[Ao,if_pos ⟨rfl,QT⟩,Ao,if_neg QT];rfl
   .rw[Ao,if_neg QT,Ao,if_pos ⟨rfl,QT⟩];rfl
  .rw [CT b m QT QT, List.set_append_left _ _ (by rw [yT]; omega)]
   congr 1;rw[Ao,if_neg QT,Ao,if_neg QT]
structure CK (b0 h:AHeap) (xv:Value) (vs:List Value) (ps:List (List Pr×LF)):Prop where
 sep:Sep b0 h (xv::vs)
 len:vs.length=2*ps.length
 sl:GS 3 h xv ps.length (cellsO vs ps.length)
 ge:∀(i:Nat) p,ps[i]?=some p->GP h (vs.getD (2*i) Y2) p.1/\GI h (vs.getD (2*i+1) Y2) p.2
 cu:cu xv
section
variable {b0 h h' : AHeap} {xv : Value} {vs : List Value} {ps : List (List Pr × List Int)}
def CK.nil (b0:AHeap):CK b0 b0 Y2 [] []:=by
 refine⟨⟨fun i j u w b d a hw hb=>?_,fun i u b a hb=>?_,fun i u a b hb=>?_,Le.refl _⟩,rfl,GS.nil 3 b0,fun i p e=>by simp at e,.inl rfl⟩
 all_goals
  have c:=Jb a;rw[Rb]at c;subst c;cases hb
def CK.kept (P:CK b0 h xv vs ps) (l:Le b0 h') (d:∀b o,(∃u∈xv::vs,blk u=some b)->h.own b=some o->h'.own b=some o):CK b0 h' xv vs ps:=by
 have a:∀i,i<vs.length->vs.getD i Y2∈xv::vs:=fun i hi=>by rw[YR hi];exact Gs _ (om hi)
 refine⟨⟨P.sep.eX,fun i u b e hb=>?_,P.sep.ap,l⟩,P.len,GS.kept P.sl fun b o hb c=>d b o ⟨xv,YX,hb⟩ c,fun i p f=>?_,P.cu⟩
 .obtain ⟨o, c⟩ := yu.1 (P.sep.own i u b e hb)
  rw[d b o ⟨u,Jb e,hb⟩ c];simp
 .have hi := (bH.1 f).1
  have:=P.len;obtain⟨g,j⟩:=P.ge i p f;exact⟨GS.kept g fun b o hb c=>d b o ⟨_,a _ QT,hb⟩ c,GS.kept j fun b o hb c=>d b o ⟨_,a _ QT,hb⟩ c⟩
def CK.up (P:CK b0 h xv vs ps) (l:Le h h'):CK b0 h' xv vs ps:=P.kept (P.sep.le.trans l) fun b o _ a=>l.own b o a
def gh (P:CK b0 h xv vs ps) {i:Nat} (hi:i<vs.length):(xv::vs)[i+1]?=some (vs.getD i Y2):=by rw[pF,YR hi];exact dR hi
def Qv:JO Tryz.prog 125=3:=zd
def bld0:aBuild Tryz.prog 125 []=some (.agg #[Y2,Y2,Y2]):=zd
def mkPc (h:AHeap):aBuildSlice Tryz.prog h 75 1 [(0,.agg #[Y2,Y2,Y2])]=some (.slice (some ⟨h.next,0,none⟩) 1 1,h.alloc (.cells [Y2,Y2,Y2])):=zd
def one3 (vs:List Value) (a:∀u∈vs,u.oneCell'=true):∀m,(cellsO vs m).all (·.oneCell')=true
 |0=>rfl
 |m+1=>by
  have g:∀i,(vs.getD i Y2).oneCell'=true:=fun i=>by
   by_cases c:i<vs.length
   .rw[YR c];exact a _ (om c)
   .rw[OO,Tz QT];rfl
  rw[cellsO,CM,one3 vs a m,FD,FD,FD,g,g];rfl
def CK.one (P:CK b0 h xv vs ps):(cellsO vs ps.length).all (·.oneCell')=true:=by
 refine one3 vs (fun u a=>?_) _;obtain⟨i,hi,rfl⟩:=iV.1 a;have f:=P.len;have b:=dR (l:=ps) (i:=i / 2) QT;obtain⟨c,d⟩:=P.ge _ _ b;have:i=2*(i / 2)\/i=2*(i / 2)+1:=QT;rcases this with e|e
 .have := c.pr.sl.one
  rwa[<-e,YR hi]at this
 .have := d.rl.one
  rwa[<-e,YR hi]at this
def CK.push (P:CK b0 h xv vs ps) (y:WF h) (N:ps.length<=100000):
  ∃a l d,aBuildSlice Tryz.prog h 75 1 [(0,.agg #[Y2,Y2,Y2])]=some (.slice (some ⟨h.next,0,none⟩) 1 1,l)/\aAppend Tryz.prog l 75 75 xv (.slice (some ⟨h.next,0,none⟩) 1 1)=some (a,d)/\
   CK b0 d a (vs++[Y2,Y2]) (ps++[([],[])])/\WF d/\Le h l/\(∀f,Le f h->tQ f xv->Le f d)/\∀b o,h.own b=some o->blk xv≠some b->d.own b=some o/\blk a≠some b:=by
 obtain⟨l,D,l4,s,E⟩:=mV y [Y2,Y2,Y2]
 have hs:∀e,JO Tryz.prog e=3->srcCells Tryz.prog l e (.slice (some ⟨h.next,0,none⟩) 1 1)=some (1,[Y2,Y2,Y2]):=fun e F=>
  CS.src F (CS.own (k:=3) (off:=0) (n:=1) (cap:=1) E YX)
 obtain⟨a,d,z,C,g⟩:=GS.append (P:=Tryz.prog) (t:=75) (xt:=75) (k:=3) zd (P.sl.le l4) hs P.one rfl rfl QT;have G:=YK s z;have w:∀b o,h.own b=some o->blk xv≠some b->d.own b=some o/\blk a≠some b:=fun b o q hb=>Na g s (l4.own _ _ q) hb;refine⟨a,l,d,by rw[mkPc,D],z,?_,G,l4,fun f A af=>(g f s (A.trans l4) af).1,w⟩;have H:=P.sep.app (h':=d) (i:=0) (u:=xv) (u':=a) rfl (fun f A af=>g f s (A.trans l4) af) w (fun b hb=>GS.Rf C hb);have I:Sep b0 d (a::(vs++[Y2,Y2])):=by
  have:=(Sep.snoc H (v:=Y2) rfl).snoc (v:=Y2) rfl;simpa using this
 have r:cellsO (vs++[Y2,Y2]) (ps++[([],[])]).length=cellsO vs ps.length++[Y2,Y2,Y2]:=by
  rw[Vw,SB,cellsO];congr 1
  .refine SI _ fun i hi => ?_
   rw[OO,OO,US (by rw[P.len];exact hi)]
  .rw[<-P.len,OO,OO,kc (J4 _),kc QT];simp
 refine⟨I,by simp[P.len];omega,by rw[r,Vw,SB];exact C,fun i p m=>?_,kz z P.cu⟩;by_cases c:i<ps.length
 .rw [US c] at m
  have O:=P.len;obtain⟨J,K⟩:=P.ge i p m;have x:∀j,j<vs.length->(vs++[Y2,Y2]).getD j Y2=vs.getD j Y2:=fun j B=>by
   rw[OO,OO,US B]
  rw[x _ QT,x _ QT];have nb:∀j,j<vs.length->∀b,blk (vs.getD j Y2)=some b->blk xv≠some b:=fun j B b hb=>P.sep.eX (j+1) 0 _ _ b QT (gh P B) rfl hb;exact⟨GS.kept J fun b o hb q=>(w b o q (nb _ QT b hb)).1,GS.kept K fun b o hb q=>(w b o q (nb _ QT b hb)).1⟩
 .have hi := (bH.1 m).1
  rw[Vw,SB]at hi;have L:i=ps.length:=QT;subst L;rw[kc (J4 _),iE]at m;simp at m;subst m;have M:(vs++[Y2,Y2]).getD (2*ps.length) Y2=Y2:=by
   rw[<-P.len,OO,kc (J4 _),iE];rfl
  have x:(vs++[Y2,Y2]).getD (2*ps.length+1) Y2=Y2:=by
   rw[<-P.len,OO,kc QT,GF];rfl
  rw[M,x];exact⟨GP.nil _,GI.nil _⟩
end
end Go.Fw
namespace Go.Fw
open Go.Proofs
attribute [local instance] Classical.propDecidable
def GS.stor {P:Program} {h:AHeap} {k m:Nat} {v x:Value} {cs:List Value} {t:TypeId} {d:TypeDesc} (g:GS k h v m cs) (a:WF h) (p:P.underlying t=some d) (hs:JO P t=1) {i:Nat} (hi:i<m*k) (q:x.cells=#[x]) (r:x.oneCell'=true):
  ∃h',aStore P h t (.pointer (some (elemAddr v i))) x=some h'/\GS k h' v m (cs.set i x)/\WF h'/\(∀f,Le f h->tQ f v->Le f h')/\∀b o,h.own b=some o->blk v≠some b->h'.own b=some o:=by
 obtain⟨j,⟨rfl,rfl⟩|⟨id,c,cap,rfl,l,n,s⟩⟩:=g
 .omega
 .have u:m*k<=c.length:=by
   have:=congrArg List.length n;rw[Ja,j]at this;omega
  refine⟨h.put id (.cells (c.set i x)),?_,⟨by rw[qm];exact j,.inr ⟨id,c.set i x,cap,rfl,AHeap.zm _ _ _,?_,s⟩⟩,a.put _ (a.lt l),fun f w af=>w.put _ (af id rfl),fun b o hb y=>?_⟩
  .rw [Tl, Co, Qs]
   exact Qr p hs l QT q r
  .rw[<-n,aaV]
  .rw[AHeap.Dz _ _ _ _ (fun e=>y (by rw[e];rfl))];exact hb
def vW.cell {v:Value} {n:Nat} (h:vW v n):v.cells=#[v]:=by obtain⟨_,_,rfl,_⟩:=h;rfl
def GS.ad3 {h:AHeap} {v:Value} {cs:List Value} {m:Nat} (g:GS 3 h v m cs) {k:Nat} (d:k<m):aIndexAddr Tryz.prog 75 v (.int .i64 (k:Int))=some (.pointer (some (elemAddr v (k*3)))):=by
 obtain⟨a,c,rfl,hs⟩:=g.cs.sl;obtain⟨a,rfl⟩:=yL.1 (hs QT);have b:(k:Int)<(m:Int):=QT;simp[aIndexAddr,b,Qv,elemAddr]
def eA3 {h:AHeap} {v:Value} {cs:List Value} {m:Nat} (g:GS 3 h v m cs) {k r:Nat} (b:k<m):Co (elemAddr v (k*3)) r=elemAddr v (k*3+r):=by
 obtain⟨a,c,rfl,hs⟩:=g.cs.sl;obtain⟨a,rfl⟩:=yL.1 (hs QT);rw[Tl,Tl,Ak]
section
variable {b0 h h2 : AHeap} {xv : Value} {vs : List Value} {ps : List (List Pr × List Int)}
def CK.ldE (P:CK b0 h xv vs ps) {k:Nat} (a:k<ps.length):aload Tryz.prog h 22 (elemAddr xv (k*3))=some (vs.getD (2*k) Y2):=by
 rw[ON pS rfl];exact P.sl.cs.get _ _ (mG vs ps.length a).1
def CK.ldF (P:CK b0 h xv vs ps) {k:Nat} (a:k<ps.length):aload Tryz.prog h 49 (elemAddr xv (k*3+1))=some (vs.getD (2*k+1) Y2):=by
 rw[ON Rm rfl];exact P.sl.cs.get _ _ (mG vs ps.length a).2.1
def CK.len_ (P:CK b0 h xv vs ps) (g:AHeap):aLen Tryz.prog g 75 xv=some (.int .i64 (ps.length:Nat)):=by
 obtain⟨a,c,rfl,_⟩:=P.sl.cs.sl;exact lD rU g
def CK.setR (P:CK b0 h xv vs ps) {t:TypeId} {d:TypeDesc} (O:Tryz.prog.underlying t=some d) (G:JO Tryz.prog t=1) {k r:Nat} (K:k<ps.length) (Q:r<2) {u':Value} {pk:List Pr×LF} (H:WF h2)
  (hf:∀f,Le f h->tQ f (vs.getD (2*k+r) Y2)->Le f h2/\tQ f u') (n:∀b o,h.own b=some o->blk (vs.getD (2*k+r) Y2)≠some b->h2.own b=some o/\blk u'≠some b)
  (s:(r=0/\GP h2 u' pk.1/\∃l,ps[k]?=some (l,pk.2))\/(r=1/\GI h2 u' pk.2/\∃f,ps[k]?=some (pk.1,f))):
  ∃h3,aStore Tryz.prog h2 t (.pointer (some (elemAddr xv (k*3+r)))) u'=some h3/\CK b0 h3 xv (vs.set (2*k+r) u') (ps.set k pk)/\WF h3/\(∀f,Le f h->tQ f (vs.getD (2*k+r) Y2)->tQ f xv->Le f h3)/\∀b o,h.own b=some o->(∀u∈xv::vs,blk u≠some b)->h3.own b=some o:=by
 have R:=P.len;have m:2*k+r<vs.length:=QT
 have A:vW u' (if r=0 then pk.1.length else pk.2.length):=by
  rcases s with⟨e,g,_⟩|⟨e,g,_⟩
  .rw[if_pos e];exact g.pr.sl
  .rw[if_neg QT];exact g.rl.sl
 have S:∀b,blk u'=some b->h2.own b≠none:=fun b hb=>by
  rcases s with⟨_,g,_⟩|⟨_,g,_⟩
  .exact GS.Rf g hb
  .exact GS.Rf g hb
 have L:∀b,blk xv=some b->blk (vs.getD (2*k+r) Y2)≠some b:=fun b hb=>P.sep.eX 0 _ _ _ b QT rfl (gh P m) hb;have I:GS 3 h2 xv ps.length (cellsO vs ps.length):=GS.kept P.sl fun b o hb a=>(n b o a (L b hb)).1;obtain⟨h3,T,M,U,N,B⟩:=GS.stor I H (x:=u') O G (i:=k*3+r) QT A.cell A.one;have J:∀b,blk xv=some b->blk u'≠some b:=fun b hb=>by
  obtain⟨o,a⟩:=yu.1 (P.sep.own 0 xv b rfl hb);exact(n b o a (L b hb)).2
 refine⟨h3,T,?_,U,fun f V af ax=>N f (hf f V af).1 ax,fun b o a hb=>B b o (n b o a (hb _ (by rw[YR m];exact Gs _ (om m)))).1 (hb xv YX)⟩;have C:=P.sep.app (gh P m) hf n S;have es:(xv::vs).set (2*k+r+1) u'=xv::vs.set (2*k+r) u':=by rw[List.set_cons_succ]
 rw[es]at C;have W:Sep b0 h3 (xv::vs.set (2*k+r) u'):=C.kept (N b0 C.le (C.ap 0 xv rfl)) fun b o a=>by
  by_cases c:blk xv=some b
  .exact GS.Rf M c
  .rw[B b o a c];simp
 refine⟨W,by rw[qm,qm];exact R,by rw[qm,CT Q ps.length K QT];exact M,fun i p w=>?_,P.cu⟩;have keep:∀j,j<vs.length->j≠2*k+r->∀b o,blk (vs.getD j Y2)=some b->h.own b=some o->h3.own b=some o:=fun j D X b o hb a=>
  B b o (n b o a (P.sep.eX (j+1) (2*k+r+1) _ _ b QT (gh P D) (gh P m) hb)).1 (P.sep.eX (j+1) 0 _ _ b QT (gh P D) rfl hb)
 have same:∀j,j≠2*k+r->(vs.set (2*k+r) u').getD j Y2=vs.getD j Y2:=fun j D=>by rw[Ao,if_neg (fun q=>D q.1.symm)]
 have y:(vs.set (2*k+r) u').getD (2*k+r) Y2=u':=by rw[Ao,if_pos ⟨rfl,m⟩]
 have v:∀b o,blk u'=some b->h2.own b=some o->h3.own b=some o:=fun b o hb a=>B b o a fun q=>J b q hb;rw[v8]at w;by_cases e:k=i
 .subst e
  simp only[if_true,K]at w;injection w with w;subst w;rcases s with⟨e,g,l,z⟩|⟨e,g,l,z⟩
  .subst e
   obtain⟨E,F⟩:=P.ge k _ z;have n0:=y;rw[dX]at n0;rw[dX,n0];have s1:=same (2*k+1) QT;rw[dX]at s1;rw[s1];exact⟨GS.kept g fun b o hb a=>v b o hb a,GS.kept F fun b o hb a=>keep _ QT QT b o hb a⟩
  .subst e
   obtain⟨E,F⟩:=P.ge k _ z;rw[y,same (2*k) QT];exact⟨GS.kept E fun b o hb a=>keep _ QT QT b o hb a,GS.kept g fun b o hb a=>v b o hb a⟩
 .rw [if_neg e] at w
  have hi:=(bH.1 w).1;obtain⟨E,F⟩:=P.ge i p w;rw[same (2*i) QT,same (2*i+1) QT];exact⟨GS.kept E fun b o hb a=>keep _ QT QT b o hb a,GS.kept F fun b o hb a=>keep _ QT QT b o hb a⟩
end
end Go.Fw
namespace Go.Fw
open Go.Proofs
attribute [local instance] Classical.propDecidable
def Cls (n:Nat) (on:Nat->Bool) (es:List Pr) (ρ:Nat->Nat):Prop:=∀u w,u<n->w<n->on u=false->on w=false->(ρ u=ρ w↔Cn on es u w)
section
variable {n : Nat} {on : Nat → Bool} {es : List Pr} {ρ d : Nat → Nat}
def Cn.mono {es b:List Pr} (h:∀e∈es,e∈b) {u w:Nat} (c:Cn on es u w):Cn on b u w:=by
 induction c with
 |refl o=>exact .refl o
 |step _ a o f=>exact .step f (a.imp (h _) (h _)) o
def cls_nil:Cls n on [] id:=fun u w _ _ b _=>by
 constructor
 .intro h;have h:u=w:=h;subst h;exact .refl b
 .intro h
  cases h with
  |refl=>rfl
  |step _ a _=>rcases a with a|a<;>cases a
def Xn {p:Pr} (C:Cls n on es ρ) (hR:0<=p.1/\0<=p.2) (h:on p.1.toNat=true\/on p.2.toNat=true):Cls n on (es++[p]) ρ:=fun u w f hw g b=>by
 rw[C u w f hw g b];refine⟨fun c=>c.mono fun e i=>KF _ i,fun c=>?_⟩;clear hw b
 induction c with
 |refl o=>exact .refl o
 |@step x y c1 a o j=>
  refine .step j ?_ o;have ox:=c1.gK;rcases a with a|a
  .rcases uK.1 a with a | a
   .exact .inl a
   .have e := Rb.1 a
    rw[<-e]at h;simp only[TK]at h;rcases h with h|h
    .rw[ox]at h;cases h
    .rw[o]at h;cases h
  .rcases uK.1 a with a | a
   .exact .inr a
   .have e := Rb.1 a
    rw[<-e]at h;simp only[TK]at h;rcases h with h|h
    .rw[o]at h;cases h
    .rw[ox]at h;cases h
def C8 {a b:Nat} (C:Cls n on es ρ) (hR:I7 n (es++[((a:Int),(b:Int))])) (l:on a=false) (m:on b=false):Cls n on (es++[((a:Int),(b:Int))]) (ba ρ (ρ a) (ρ b)):=fun u w q hw r p=>by
 have s:=hR _ (KQ _ (Rb.2 rfl));simp only at s;have ha:a<n:=QT;have hb:b<n:=QT;have sub:∀{x y},Cn on es x y->Cn on (es++[((a:Int),(b:Int))]) x y:=fun c=>c.mono fun e t=>KF _ t;have j:Cn on (es++[((a:Int),(b:Int))]) a b:=.step (.refl l) (.inl (KQ _ (Rb.2 rfl))) m;have up:∀x,x<n->on x=false->∀y,y<n->on y=false->ρ x=ρ y->Cn on (es++[((a:Int),(b:Int))]) x y:=fun x g ox y k i e=>sub ((C x y g k ox i).1 e);have f:∀x,x<n->on x=false->∃y,y<n/\on y=false/\Cn on (es++[((a:Int),(b:Int))]) x y/\ba ρ (ρ a) (ρ b) x=ρ y:=fun x g ox=>by
  unfold ba;by_cases c:ρ x=ρ a
  .rw[if_pos c];exact⟨b,hb,m,(up x g ox a ha l c).trans j,rfl⟩
  .rw[if_neg c];exact⟨x,g,ox,.refl ox,rfl⟩
 constructor
 .intro e
  obtain⟨y,v,h2,h3,B⟩:=f u q r;obtain⟨z,D,E,F,G⟩:=f w hw p;rw[B,G]at e;exact(h3.trans (up y v h2 z D E e)).trans F.symm
 .intro c
  have key:∀{x y},x<n->y<n->on x=false->on y=false->xA (es++[((a:Int),(b:Int))]) x y->ba ρ (ρ a) (ρ b) x=ba ρ (ρ a) (ρ b) y:=fun{x y} g k ox i h=>by
   have cW:xA es x y->ba ρ (ρ a) (ρ b) x=ba ρ (ρ a) (ρ b) y:=fun h=>by
    have:=(C x y g k ox i).2 (.step (.refl ox) h i);unfold ba;rw[this]
   have new:∀{x y:Nat},(((x:Int),(y:Int)):Pr)=((a:Int),(b:Int))->ba ρ (ρ a) (ρ b) x=ba ρ (ρ a) (ρ b) y:=fun{x y} e=>by
    injection e with I J;obtain rfl:x=a:=QT;obtain rfl:y=b:=QT;unfold ba;rw[if_pos rfl];by_cases c:ρ y=ρ x
    .rw[if_pos c]
    .rw[if_neg c]
   rcases h with h|h
   .rcases uK.1 h with h | h
    .exact cW (.inl h)
    .exact new (Rb.1 h)
   .rcases uK.1 h with h | h
    .exact cW (.inr h)
    .exact(new (Rb.1 h)).symm
  clear hw p;have lt:∀{x y},xA (es++[((a:Int),(b:Int))]) x y->x<n/\y<n:=fun h=>h.lt hR
  induction c with
  |refl=>rfl
  |@step x y c1 h o H=>exact H.trans (key (lt h).1 (lt h).2 c1.gK o h)
end
def Ee (n i:Nat):LF:=(List.range n).map fun v=>if v<i then(v:Int)else 0
def WH (n i:Nat):(Ee n i).length=n:=by simp[Ee]
def TS (n:Nat):Ee n 0=List.replicate n 0:=by
 apply Lc;intro j;by_cases c:j<n
 .rw[gG,if_pos c];simp[Ee,c]
 .rw[Tz (by rw[WH];omega),Tz (by simp;omega)]
def hdL_set {n i:Nat} (hi:i<n):(Ee n i).set i (i:Int)=Ee n (i+1):=by
 apply Lc;intro j;rw[v8,WH];by_cases c:j<n
 .by_cases e : i = j
  .subst e;rw[if_pos rfl,if_pos hi];simp[Ee,hi]
  .rw [if_neg e]
   simp only[Ee,Rv,bp c,pD];congr 1;by_cases q:j<i
   .rw[if_pos q,if_pos QT]
   .rw[if_neg q,if_neg QT]
 .rw [Tz (l := Ee n (i + 1)) (by rw [WH]; omega)]
  rw[if_neg QT,Tz (by rw[WH];omega)]
def hdL_all (n:Nat):Ee n n=(List.range n).map fun(v:Nat)=>(v:Int):=by
 unfold Ee;refine vG fun v a=>?_;rw[vq]at a;rw[if_pos a]
noncomputable abbrev Lv (n:Nat) (on:Nat->Bool) (es:List Pr) (v:Nat):Int:=(ZB n on es).getD v 0
noncomputable abbrev MK (n:Nat) (on:Nat->Bool) (es:List Pr):Pr->Nat->Int:=qL n on (ZB n on es)
def I9 (on:Nat->Bool) (gs:List Gr):List (List Pr×LF):=gs.map fun g=>(g.2,Vv (jz on g.2))
structure QI (n:Nat) (on:Nat->Bool) (es:List Pr) (ρ:Nat->Nat) (gs:List Gr) (A:LF):Prop where
 len:A.length=n
 val:∀v,v<n->on v=false->(∃(k:Nat) (l:List Pr),A[ρ v]?=some (k:Int)/\gs[k]?=some (Lv n on es v,l))\/(A[ρ v]?=some (-1)/\Lv n on es v∉sK gs)
section
variable {n : Nat} {on : Nat → Bool} {es : List Pr} {ρ : Nat → Nat} {A : List Int}
def CC {v:Nat} (a:v<n) (b:on v=false):∃k:Nat,k<n/\Lv n on es v=(k:Int):=by
 obtain⟨k,c,h2,_⟩:=(TB (n:=n) (on:=on) (es:=es)).off v a b;exact⟨k,c,by unfold Lv;rw[OO,h2];rfl⟩
def HA {u w:Nat} (a:u<n) (hw:w<n) (b:on u=false) (c:on w=false):Lv n on es u=Lv n on es w↔Cn on es u w:=kG TB a hw b c
def QI.zero (F:∀v,v<n->ρ v<n):QI n on es ρ [] (List.replicate n (-1)):=
 ⟨YX,fun v a _=>.inr ⟨by rw[gG,if_pos (F v a)],by simp[sK]⟩⟩
def QI.cW {gs:List Gr} (T:QI n on es ρ gs A) (h:(sK gs).Nodup) {v k:Nat} {l:List Pr} (a:gs[k]?=some (Lv n on es v,l)) (p:Pr):addG gs (Lv n on es v) p=gs.set k (Lv n on es v,l++[p])/\QI n on es ρ (gs.set k (Lv n on es v,l++[p])) A:=by
 have f:=(bH.1 a).1;have e:addG gs (Lv n on es v) p=gs.set k (Lv n on es v,l++[p]):=by
  rcases LG (Lv n on es v) gs (gs.map fun _=>Y2) 0 YX with⟨b,_⟩|⟨j,l',u,b,_,_,_,m⟩
  .exact absurd (T8.2 ⟨_,Jb a,rfl⟩) b
  .have o:j=k:=by
    refine Wo h (x:=Lv n on es v) ?_ ?_
    .unfold sK;rw[Rv,b];rfl
    .unfold sK;rw[Rv,a];rfl
   subst o;rw[b]at a;injection a with a;injection a with _ a;rw[m,a]
 refine⟨e,T.len,fun w hw q=>?_⟩;have g:sK (gs.set k (Lv n on es v,l++[p]))=sK gs:=by
  unfold sK;rw[YY];apply Lc;intro i;rw[v8];by_cases c:k=i
  .subst c
   rw[if_pos rfl,yA,if_pos f,Rv,a];rfl
  .rw[if_neg c]
 rcases T.val w hw q with⟨j,l',b,h2⟩|⟨b,h2⟩
 .refine .inl ⟨j, ?_⟩
  by_cases c:k=j
  .subst c
   rw[a]at h2;injection h2 with h2;injection h2 with h2 h3;exact⟨l++[p],b,by rw[v8,if_pos rfl,if_pos f,h2]⟩
  .exact⟨l',b,by rw[v8,if_neg c];exact h2⟩
 .exact .inr ⟨b,by rw[g];exact h2⟩
def rR {gs:List Gr} {f:Int} (h:f∉sK gs) (p:Pr):addG gs f p=gs++[(f,[p])]:=by
 rcases LG f gs (gs.map fun _=>Y2) 0 YX with⟨_,_,_,a⟩|⟨j,l',u,b,_⟩
 .exact a p
 .exact absurd (T8.2 ⟨_,Jb b,rfl⟩) h
def QI.new {gs:List Gr} (C:Cls n on es ρ) (F:∀v,v<n->ρ v<n) (T:QI n on es ρ gs A) {v:Nat} (a:v<n) (e:on v=false) (h:Lv n on es v∉sK gs) (p:Pr):QI n on es ρ (gs++[(Lv n on es v,[p])]) (A.set (ρ v) (gs.length:Int)):=by
 refine⟨by rw[qm];exact T.len,fun w hw b=>?_⟩;have hA:ρ v<A.length:=by rw[T.len];exact F v a
 by_cases c:ρ v=ρ w
 .have el : Lv n on es v = Lv n on es w := (HA a hw e b).2 ((C v w a hw e b).1 c)
  refine .inl ⟨gs.length,[p],by rw[<-c,v8,if_pos rfl,if_pos hA],?_⟩;rw[kc (J4 _),iE,el];rfl
 .rw [v8, if_neg c]
  rcases T.val w hw b with⟨j,l',f,h2⟩|⟨f,h2⟩
  .exact .inl ⟨j,l',f,by rw[US (bH.1 h2).1];exact h2⟩
  .refine .inr ⟨f, ?_⟩
   have:sK (gs++[(Lv n on es v,[p])])=sK gs++[Lv n on es v]:=by simp[sK]
   rw[this,uK,Rb];rintro(q|q)
   .exact h2 q
   .exact c ((C v w a hw e b).2 ((HA a hw e b).1 q.symm))
def QI.lone {gs:List Gr} (T:QI n on es ρ gs A) {f:Int} (hf:(n:Int)<=f) (p:Pr):QI n on es ρ (gs++[(f,[p])]) A:=by
 refine⟨T.len,fun w hw b=>?_⟩;rcases T.val w hw b with⟨j,l',a,h2⟩|⟨a,h2⟩
 .exact .inl ⟨j,l',a,by rw[US (bH.1 h2).1];exact h2⟩
 .refine .inr ⟨a, ?_⟩
  have:sK (gs++[(f,[p])])=sK gs++[f]:=by simp[sK]
  rw[this,uK,Rb];rintro(q|q)
  .exact h2 q
  .obtain ⟨k, c, e⟩ := CC (es := es) hw b
   omega
def O4 (hR:I7 n es) {i:Nat}:((n:Int)+i)∉sK (grpsM (MK n on es) es [] i):=fun f=>by
 obtain⟨j,q,p,g,_,e⟩:=(MG _ _ _ _ _).1 f;obtain⟨a,b,rfl,h,hb⟩:=O0 hR (Jb g);unfold MK qL at e;simp only[TK]at e;split at e
 .rename_i l
  obtain⟨k,m,c⟩:=CC (n:=n) (es:=es) (show a<n by omega) l;unfold Lv at c;omega
 .split at e
  .rename_i o
   obtain⟨k,m,c⟩:=CC (n:=n) (es:=es) hb o;unfold Lv at c;omega
  .omega
def df (gs:List Gr) (f:Int) (p:Pr):I9 on (gs++[(f,[p])])=I9 on gs++[([p],Vv (CO on p))]:=by
 simp[I9,jz]
def Kw (gs:List Gr) (k:Nat) (f:Int) (l:List Pr):I9 on (gs.set k (f,l))=(I9 on gs).set k (l,Vv (jz on l)):=by
 simp[I9]
def rq (l:List Pr) (p:Pr):Vv (jz on (l++[p]))=(CO on p).foldl NO (Vv (jz on l)):=by
 unfold Vv jz;rw[As,Tr];simp
end
end Go.Fw
namespace Go.Fw
section
attribute [local instance] Classical.propDecidable
attribute [local irreducible] Ax YH XZ Uk KO KN KX KE VK DK Q7 dK W9
open Go.Proofs
variable {N i n:Nat} {P:Program} {W0:Ac} {h:AHeap} {on:Nat->Bool}
def NB (X:wi) (vs:List Value):Prop:=∀u∈vs,∀b∈X,blk u≠some b
def Q7.zC {ops:Array Oper} {ks:List Kt} {R:Exit->EP->AHeap->Prop} {fr:EP} (q:∀fr' h',fr'=fr->h'=h->Q7 P W0 N i ops ks R fr' h'):Q7 P W0 N i ops ks R fr h:=q fr h rfl rfl
def Wj {es l:List Pr} (hR:I7 n es) (c:∀e∈l,e∈es):(Vv (jz on l)).length<=n:=by
 obtain⟨d,h2⟩:=pd (jz on l);have:=Jz d (B:=aW (List.range n)) fun x f=>by
  obtain⟨_,e,g,h⟩:=zN.1 ((h2 x).1 f);obtain⟨a,b,rfl,i,hb⟩:=O0 hR (c e g);simp only at h;refine T8.2 ?_;rcases h with rfl|rfl
  .exact⟨a,vq.2 QT,rfl⟩
  .exact⟨b,vq.2 hb,rfl⟩
 simpa[aW]using this
def vL (W0:Ac) (B n:Nat) (bv ov fv iv lv ev:Value) (on:List Bool) (es:List Pr) (h:AHeap) (hs:sg h B n bv ov fv iv lv) (ho:RL Po h ov on) (e6:on.length=n) (he:PR h ev es) (hR:I7 n es) (hn:n<=300) (dV:es.length<=1000):
  AC Tryz.prog W0 102 [.pointer (some ⟨B,0,none⟩),ev] h fun x h'=>∃vs,CK h h' x vs (I9 (qt on) (grpsM (MK n (qt on) es) es [] es.length)):=by
 refine AC.vE ⟨Tryz.func102,rfl,xr⟩ Tryz.ntmps102 Tryz.results102 fun dW=>?_;simp only[xq,Nat.reduceAdd];obtain⟨h1,e1,l1,w1,o1⟩:=mV dW (List.replicate n (.int .i64 0));have mk:=mk35 h n QT;rw[e1]at mk
 have nT:h.own h.next=none:=(Le.refl h).next dW (J4 _)
 obtain⟨h2,e2,l2,w2,o2⟩:=mV w1 [Y2]
 have n5:h.own h1.next=none:=l1.next w1 (J4 _)
 have d5:h.next≠h1.next:=fun e=>by have:=w1.lt o1;omega
 have dY:=Qr (P:=Tryz.prog) (t:=49) (x:=.slice (some ⟨h.next,0,none⟩) n n) Rm zd o2 (off:=0) YX rfl rfl
 simp only[Ud,Nat.reduceLT,↓reduceIte,Nat.reduceEqDiff,reduceCtorEq,sf0,Co,Qs,hs.l0,mk,RV,e2,dY]
 have l3:Le h (h2.put h1.next (.cells (([Y2]:List Value).set 0 (.slice (some ⟨h.next,0,none⟩) n n)))):=(l1.trans l2).put _ n5
 have w3:WF (h2.put h1.next (.cells (([Y2]:List Value).set 0 (.slice (some ⟨h.next,0,none⟩) n n)))):=w2.put _ (w2.lt o2)
 have c5:(h2.put h1.next (.cells (([Y2]:List Value).set 0 (.slice (some ⟨h.next,0,none⟩) n n)))).own h1.next=some (.cells [.slice (some ⟨h.next,0,none⟩) n n]):=AHeap.zm _ _ _
 have ec:(h2.put h1.next (.cells (([Y2]:List Value).set 0 (.slice (some ⟨h.next,0,none⟩) n n)))).own h.next=some (.cells (oY (Ee n 0))):=by rw[AHeap.Dz _ _ _ _ d5,TS,l2.own _ _ o1];simp[oY]
 generalize h2.put h1.next (.cells (([Y2]:List Value).set 0 (.slice (some ⟨h.next,0,none⟩) n n)))=h3 at*
 generalize h1.next=s at*
 generalize h.next=T at*
 clear dY o2 w2 l2 e2 o1 w1 l1 e1 mk;have bI:∀g,g.own s=some (.cells [.slice (some ⟨T,0,none⟩) n n])->aload Tryz.prog g 49 ⟨s,0,none⟩=some (.slice (some ⟨T,0,none⟩) n n):=fun g o=>by rw[wT Rm rfl o];rfl
 have eM:=fun g=>lD (P:=Tryz.prog) (t:=49) (a:=some ⟨T,0,none⟩) (n:=n) (cap:=n) Rm g;simp only[Ud,Nat.reduceLT,↓reduceIte,Nat.reduceEqDiff,reduceCtorEq,bI h3 c5,eM];refine W9.intro (fun k fr hq=>∃i:Nat,k=n-i/\i<=n/\fr=mkF [(0,.pointer (some ⟨B,0,none⟩)),(1,ev),(5,.pointer (some ⟨s,0,none⟩)),(24,.int .i64 (n:Nat)),(25,.int .i64 (i:Nat))]/\hq.own s=some (.cells [.slice (some ⟨T,0,none⟩) n n])/\hq.own T=some (.cells (oY (Ee n i)))/\Le h hq)
  n [(0,.pointer (some ⟨B,0,none⟩)),(1,ev),(5,.pointer (some ⟨s,0,none⟩)),(24,.int .i64 (n:Nat)),(25,.int .i64 (0:Nat))] vy ⟨0,rfl,KW _,rfl,c5,ec,l3⟩ ?_
 clear c5 ec l3 w3;rintro k fr hq c6 ⟨i,rfl,hi,rfl,o5,oT,lq⟩;refine yq ?_;refine DK.intro (fun ht=>?_) (fun hf=>?_)
 .have b0 : i < n := Ub ht
  clear ht;have st:=uH oT (i:=i) (by rw[WH];exact b0) (i:Int);rw[hdL_set b0]at st;simp only[Ud,Nat.reduceLT,↓reduceIte,Nat.reduceEqDiff,reduceCtorEq,bI hq o5,WS T n .i64 i b0,st,Gm i QT];exact cX (n-(i+1)) [(0,.pointer (some ⟨B,0,none⟩)),(1,ev),(5,.pointer (some ⟨s,0,none⟩)),(24,.int .i64 (n:Nat)),(25,.int .i64 (i+1:Nat))] (dN b0) vy ⟨i+1,rfl,b0,rfl,by rw[AHeap.Dz _ _ _ _ (Hn d5)];exact o5,AHeap.zm _ _ _,lq.put _ nT⟩
 have b1:n<=i:=Yv hf;obtain rfl:i=n:=QT;rw[hdL_all]at oT;have ed:=fun g=>he.len g;have F0:=Sm.zero i;simp only[Ud,Nat.reduceLT,↓reduceIte,Nat.reduceEqDiff,reduceCtorEq,ed];clear hf hi b1;generalize eQ:qt on=m at*;have I:∀g,Le h g->∀v,v<i->aload Tryz.prog g 4 (elemAddr ov v)=some (.bool (m v)):=fun g lg v hv=>by
  rw[(ho.le Rr.Po lg).Qh v QT,<-eQ,qt,YR QT]
 have H:∀v,v<i->aIndexAddr Tryz.prog 59 ov (.int .i64 (v:Int))=some (.pointer (some (elemAddr ov v))):=fun v hv=>ho.U6 v QT;refine W9.intro (fun k fr hz=>∃(j:Nat) (L:LF) (ρ d:Nat->Nat),k=es.length-j/\j<=es.length/\fr=mkF [(0,.pointer (some ⟨B,0,none⟩)),(1,ev),(5,.pointer (some ⟨s,0,none⟩)),(7,.func (.func 143) #[] #[.pointer (some ⟨s,0,none⟩)]),(34,ev),(35,.int .i64 (es.length:Nat)),(36,.int .i64 (j:Nat))]/\
   hz.own s=some (.cells [.slice (some ⟨T,0,none⟩) i i])/\hz.own T=some (.cells (oY L))/\Le h hz/\Sm i L ρ d/\Cls i m (es.take j) ρ)
  es.length [(0,.pointer (some ⟨B,0,none⟩)),(1,ev),(5,.pointer (some ⟨s,0,none⟩)),(7,.func (.func 143) #[] #[.pointer (some ⟨s,0,none⟩)]),(34,ev),(35,.int .i64 (es.length:Nat)),(36,.int .i64 (0:Nat))] vy
  ⟨0,_,_,_,rfl,KW _,rfl,o5,oT,lq,F0,cls_nil⟩ ?_
 clear F0 oT o5 lq c6;rintro k fr hz ar ⟨j,L,ρ,d,rfl,hj,rfl,o5,oT,lz,F,C⟩;refine yq ?_;refine DK.intro (fun ht=>?_) (fun hf=>?_)
 .have M : j < es.length := Ub ht
  clear ht;have ck:=XR M;have cr:es.take (j+1)=es.take j++[es[j]]:=QM M;have ee:I7 i (es.take (j+1)):=fun p hp=>hR p (Wg hp);obtain⟨a,b,da,eS,hb⟩:=O0 hR (om M);have ad:=he.addr (k:=.i64) j M;have ld:=(he.le lz).load ck;generalize es[j]=p at*;subst da;rw[cr]at ee;obtain⟨h4,h5,e4,e5,l5,w5,oE⟩:=bS ar ((a:Int),(b:Int));have N:=lz.trans l5;have aj:=l5.own _ _ o5;have bo:=l5.own _ _ oT;have L0:=Ol oE;have L1:=Lt oE;simp only at L0 L1
  have nE:∀{x o},hz.own x=some o->x≠hz.next:=fun{x o} hx e=>by have:=ar.lt hx;omega
  have av:=nE oT
  generalize hz.next=E at*
  have D:a<i:=QT;have s5:=hs.le N;have aw:=Gm j (ym M (Ei dV));by_cases ca:m a=true
  .have C' : Cls i m (es.take (j + 1)) ρ := by rw [cr]; exact Xn C ⟨YX, YX⟩ (.inl (by simpa using ca))
   have lo:=I h5 N a D;rw[ca]at lo;simp only[Ud,Nat.reduceLT,↓reduceIte,Nat.reduceEqDiff,reduceCtorEq,ad,ld,e4,e5];refine rD (vu [0,1,2,3,4,5,6,7,8,9,10,11,12,13,14,15,16,17,18,19] .done) ?_;simp only[Ud,Nat.reduceLT,↓reduceIte,Nat.reduceEqDiff,reduceCtorEq,Nat.reduceBEq,rm,sf2,Co,Qs,s5.l2,Il,L0,H a D,lo,aw];exact cX (es.length-(j+1)) [(0,.pointer (some ⟨B,0,none⟩)),(1,ev),(5,.pointer (some ⟨s,0,none⟩)),(7,.func (.func 143) #[] #[.pointer (some ⟨s,0,none⟩)]),(34,ev),(35,.int .i64 (es.length:Nat)),(36,.int .i64 (j+1:Nat))] (dN M) vy
    ⟨j+1,L,ρ,d,rfl,M,rfl,aj,bo,N,F,C'⟩
  rw[pO]at ca;have lo:=I h5 N a D;rw[ca]at lo;by_cases cb:m b=true
  .have C' : Cls i m (es.take (j + 1)) ρ := by rw [cr]; exact Xn C ⟨YX, YX⟩ (.inr (by simpa using cb))
   have b2:=I h5 N b hb;rw[cb]at b2;simp only[Ud,Nat.reduceLT,↓reduceIte,Nat.reduceEqDiff,reduceCtorEq,ad,ld,e4,e5];refine rD (vu [0,1,2,3,4,5,6,7,8,9,10,11,12,13,14,15,16,17,18,19] .done) ?_;simp only[Ud,Nat.reduceLT,↓reduceIte,Nat.reduceEqDiff,reduceCtorEq,Nat.reduceBEq,rm,sf2,Co,Qs,s5.l2,Il,Mt,L0,L1,H a D,H b hb,lo,b2,aw];exact cX (es.length-(j+1)) [(0,.pointer (some ⟨B,0,none⟩)),(1,ev),(5,.pointer (some ⟨s,0,none⟩)),(7,.func (.func 143) #[] #[.pointer (some ⟨s,0,none⟩)]),(34,ev),(35,.int .i64 (es.length:Nat)),(36,.int .i64 (j+1:Nat))] (dN M) vy
    ⟨j+1,L,ρ,d,rfl,M,rfl,aj,bo,N,F,C'⟩
  rw[pO]at cb;have b2:=I h5 N b hb;rw[cb]at b2;have C':=C8 C ee ca cb;rw[<-cr]at C';simp only[Ud,Nat.reduceLT,↓reduceIte,Nat.reduceEqDiff,reduceCtorEq,ad,ld,e4,e5];refine rD (vu [0,1,2,3,4,5,6,7,8,9,10,11,12,13,14,15,16,17,18,19] .done) ?_;simp only[Ud,Nat.reduceLT,↓reduceIte,Nat.reduceEqDiff,reduceCtorEq,Nat.reduceBEq,rm,sf2,Co,Qs,s5.l2,Il,Mt,L0,L1,H a D,H b hb,lo,b2];refine rD (vu [0,1,2,3,5,6,7] (PO 4 [1,3] (PO 8 [4,5,7] (vu [9] (PO 10 [0,1,2,3,4,5,6,7,8,9] .done))))) ?_;simp only[Ud,Nat.reduceLT,↓reduceIte,Nat.reduceEqDiff,reduceCtorEq,Nat.reduceBEq,rm,bI h5 aj,Co,Qs,Il,Mt,L0,L1];refine N1.intro pK ⟨WC,rfl,xr⟩ (Ar W0 s T i L ρ d a h5 aj bo d5 F D) ?_;rintro x h6 w6 ⟨rfl,L',F6,br,b3,Z⟩;have ag:=Z s _ (Hn d5) aj;have ay:=Z E _ (Hn av) oE;have ef:=Ol ay;have eg:=Lt ay;simp only at ef eg;have ra:=F.rt a D;have rb:=F.rt b hb;simp only[Ud,Nat.reduceLT,↓reduceIte,Nat.reduceEqDiff,reduceCtorEq,Nat.reduceBEq,rm,bI h6 ag,Co,Qs,Il,Mt,ef,eg];refine N1.intro pK ⟨WC,rfl,xr⟩ (Ar W0 s T i L' ρ d b h6 ag br d5 F6 hb) ?_;rintro x h7 w7 ⟨rfl,e7,F7,O,b4,ah⟩;have K:=ah s _ (Hn d5) ag;have R:=ah E _ (Hn av) ay;have eh:=Ol R;have ei:=Lt R;simp only at eh ei;have st:=uH O (i:=ρ a) (by rw[F7.len];exact ra.1) (ρ b:Int);simp only[Ud,Nat.reduceLT,↓reduceIte,Nat.reduceEqDiff,reduceCtorEq,Nat.reduceBEq,rm,bI h6 ag,bI h7 K,Co,Qs,Il,Mt,eh,ei,WS T i .i64 (ρ a) ra.1,st,aw];exact cX (es.length-(j+1)) [(0,.pointer (some ⟨B,0,none⟩)),(1,ev),(5,.pointer (some ⟨s,0,none⟩)),(7,.func (.func 143) #[] #[.pointer (some ⟨s,0,none⟩)]),(34,ev),(35,.int .i64 (es.length:Nat)),(36,.int .i64 (j+1:Nat))] (dN M) vy
   ⟨j+1,_,_,_,rfl,M,rfl,by rw[AHeap.Dz _ _ _ _ (Hn d5)];exact K,AHeap.zm _ _ _,(b4 h (b3 h N nT) nT).put _ nT,F7.join ra.1 rb.1 ra.2 rb.2,C'⟩
 have b1:es.length<=j:=Yv hf;rw[xV b1]at C;have Y:=fun v hv=>(F.rt v hv).1;clear b1 hf hj;obtain⟨h4,e4,l4,w4,o4⟩:=mV ar [.int .i64 (-1)];have s4:=hs.le (lz.trans l4);simp only[Ud,Nat.reduceLT,↓reduceIte,Nat.reduceEqDiff,reduceCtorEq,Vb,e4,sf0,Co,Qs,s4.l0];refine dK.intro pK ⟨lH,rfl,xr⟩ (SV W0 _ i QT h4 (RL.Kr (RS.whole o4 rfl))) ?_;rintro x h8 w8 ⟨A,rfl,hA,o8,l8⟩;have cx:=l4.trans l8;have aQ:=lz.trans cx;have aT:h8.own A=some (.cells (oY (List.replicate i (-1)))):=by rw[o8];simp[oY]
 have bQ:=cx.own _ _ o5;have bV:=cx.own _ _ oT
 have nA:h.own A=none:=(lz.trans l4).next w4 hA
 have dA:∀{b o},hz.own b=some o->A≠b:=fun{b o} ob e=>by have:=w4.lt (l4.own _ _ ob);omega
 have aX:=dA oT;have ej:=dA o5;have A0:QI i m es ρ (grpsM (MK i m es) es [] 0) (List.replicate i (-1)):=QI.zero Y;have P0:CK h h8 Y2 [] (I9 m (grpsM (MK i m es) es [] 0)):=(CK.nil h).up aQ;simp only[Ud,Nat.reduceLT,↓reduceIte,Nat.reduceEqDiff,reduceCtorEq,ed];refine W9.intro (fun k fr hz=>∃(j:Nat) (L at_:LF) (J:Value) (vs:List Value),k=es.length-j/\j<=es.length/\fr=mkF [(0,.pointer (some ⟨B,0,none⟩)),(7,.func (.func 143) #[] #[.pointer (some ⟨s,0,none⟩)]),(10,J),(11,.slice (some ⟨A,0,none⟩) i i),(77,ev),(78,.int .i64 (es.length:Nat)),(79,.int .i64 (j:Nat))]/\
   hz.own s=some (.cells [.slice (some ⟨T,0,none⟩) i i])/\hz.own T=some (.cells (oY L))/\hz.own A=some (.cells (oY at_))/\Sm i L ρ d/\QI i m es ρ (grpsM (MK i m es) es [] j) at_/\CK h hz J vs (I9 m (grpsM (MK i m es) es [] j))/\NB [T,s,A] (J::vs))
  es.length [(0,.pointer (some ⟨B,0,none⟩)),(7,.func (.func 143) #[] #[.pointer (some ⟨s,0,none⟩)]),(10,Y2),(11,.slice (some ⟨A,0,none⟩) i i),(77,ev),(78,.int .i64 (es.length:Nat)),(79,.int .i64 (0:Nat))] vy
  ⟨0,L,_,Y2,[],rfl,KW _,rfl,bQ,bV,aT,F,A0,P0,fun u w b _ q=>by rw[Rb.1 w]at q;cases q⟩ ?_
 clear A0 P0 bV bQ aT o8 l8 w8 o4 e4 F oT o5 ar s4 lz aQ cx l4 w4 hA dA;clear h8 h4 hz L j;rintro k fr hz ar ⟨j,L,at_,J,vs,rfl,hj,rfl,o5,oT,oA,F,AT,P,nb⟩;have lz:=P.sep.le;refine yq ?_;refine DK.intro (fun ht=>?_) (fun hf=>?_)
 rotate_left
 .have b1 : es.length <= j := Yv hf
  obtain rfl:j=es.length:=QT;refine yq ?_;exact⟨vs,P⟩
 have M:j<es.length:=Ub ht;clear ht;have ck:=XR M;obtain⟨a,b,da,eS,hb⟩:=O0 hR (om M);have ad:=he.addr (k:=.i64) j M;have ld:=(he.le lz).load ck;generalize es[j]=p at*;subst da;have eG:=Hh (fr:=MK i m es) ck (show(((a:Int),(b:Int)):Pr)∉([]:List Pr) by simp);obtain⟨nk,-,ek,e8,eT⟩:=RW (MK i m es) es [] j;obtain⟨h4,h5,e4,e5,l5,w5,oE⟩:=bS ar ((a:Int),(b:Int));have N:=lz.trans l5;have aj:=l5.own _ _ o5;have bo:=l5.own _ _ oT;have db:=l5.own _ _ oA;have P5:=P.up l5
 have nE:∀{x o},hz.own x=some o->x≠hz.next:=fun{x o} hx e=>by have:=ar.lt hx;omega
 have av:=nE oT;have en:=nE oA
 have e9:h.own hz.next=none:=lz.next ar (J4 _)
 have aY:∀u∈J::vs,blk u≠some hz.next:=fun u w q=>by
  obtain⟨t,ht⟩:=OH.1 w;have:=P.sep.own t u _ ht q
  exact this ((Le.refl hz).next ar (J4 _))
 generalize hz.next=E at*
 have D:a<i:=QT;have aw:=Gm j (ym M (Ei dV));have dc:∀g,g.own E=some (.cells (Zh ((a:Int),(b:Int))))->aload Tryz.prog g 3 ⟨E,0,none⟩=some (.int .i64 (a:Int)):=fun g o=>Ol o;have eo:∀g,g.own E=some (.cells (Zh ((a:Int),(b:Int))))->aload Tryz.prog g 3 ⟨E,1,none⟩=some (.int .i64 (b:Int)):=fun g o=>Lt o;have a1:=fun v hv=>WS A i .i64 v hv;have S:(I9 m (grpsM (MK i m es) es [] j)).length=(grpsM (MK i m es) es [] j).length:=by simp[I9]
 apply P3 (F:=fun(fr:EP) (h6:AHeap)=>∃(k:Nat) (L at_:LF) (J:Value) (vs:List Value) (ps:List (List Pr×LF)) (l:List Pr) (ft:LF),BM fr [(0,.pointer (some ⟨B,0,none⟩)),(7,.func (.func 143) #[] #[.pointer (some ⟨s,0,none⟩)]),(10,J),(11,.slice (some ⟨A,0,none⟩) i i),(13,.pointer (some ⟨E,0,none⟩)),(15,.int .i64 (k:Int)),(77,ev),(78,.int .i64 (es.length:Nat)),(79,.int .i64 (j:Nat))]/\
   WF h6/\h6.own s=some (.cells [.slice (some ⟨T,0,none⟩) i i])/\h6.own T=some (.cells (oY L))/\h6.own A=some (.cells (oY at_))/\h6.own E=some (.cells (Zh ((a:Int),(b:Int))))/\Sm i L ρ d/\QI i m es ρ (grpsM (MK i m es) es [] (j+1)) at_/\CK h h6 J vs ps/\NB [T,s,A] (J::vs)/\(∀u∈J::vs,blk u≠some E)/\
   ps[k]?=some (l,ft)/\l.length<=j/\ft.length<=i/\I9 m (grpsM (MK i m es) es [] (j+1))=ps.set k (l++[((a:Int),(b:Int))],(CO m ((a:Int),(b:Int))).foldl NO ft))
 .intro cont
  have s5:=hs.le N;have a6:∀{k:Nat} {f:Int} {l:List Pr},(grpsM (MK i m es) es [] j)[k]?=some (f,l)->∀e∈l,e∈es:=fun{k f l} hk e eU=>eT _ (Jb hk) e eU;cases ca:m a with
  |false=>
   have hf:MK i m es ((a:Int),(b:Int)) j=Lv i m es a:=by unfold MK qL;simp only[TK];rw[if_pos ca]
   have b5:=I h5 N a D;rw[ca]at b5;rw[hf]at eG;simp only[Ud,Nat.reduceLT,↓reduceIte,Nat.reduceEqDiff,reduceCtorEq,ad,ld,e4,e5,Il,sf2,Co,Qs,s5.l2,dc h5 oE,H a D,b5,P5.len_,H a D];refine dK.intro pK ⟨WC,rfl,xr⟩ (Ar W0 s T i L ρ d a h5 aj bo d5 F D) ?_;rintro y h6 w6 ⟨rfl,L6,F6,br,b3,Z⟩;have aB:=b3 h N nT;have s6:=hs.le aB;have dd:=I h6 aB a D;rw[ca]at dd;have ag:=Z s _ (Hn d5) aj;have aE:=Z A _ aX db;have ay:=Z E _ (Hn av) oE;have P6:=P5.kept aB fun c o G ho=>Z c o (fun e=>by obtain⟨u,w,hb⟩:=G;exact nb u w T YX (by rw[<-e];exact hb)) ho;rcases AT.val a D ca with⟨k,l,aK,U⟩|⟨aK,U⟩
   .have bx := AK aE aK
    have kp:decide ((k:Int)>=0)=true:=decide_eq_true QT;obtain⟨q1,q2⟩:=AT.cW nk U ((a:Int),(b:Int));simp only[Ud,Nat.reduceLT,↓reduceIte,Nat.reduceEqDiff,reduceCtorEq,a1 (ρ a) (Y a D),bx,kp];refine dK.intro pK ⟨WC,rfl,xr⟩ (Ar W0 s T i L6 ρ d a h6 ag br d5 F6 D) ?_;rintro y h7 w7 ⟨rfl,L7,F7,O,b4,ah⟩;have K:=ah s _ (Hn d5) ag;have Q:=ah A _ aX aE;have R:=ah E _ (Hn av) ay;have V:=b4 h aB nT;have P7:=P6.kept V fun c o G ho=>ah c o (fun e=>by obtain⟨u,w,hb⟩:=G;exact nb u w T YX (by rw[<-e];exact hb)) ho;have b6:=AK Q aK;simp only[Ud,Nat.reduceLT,↓reduceIte,Nat.reduceEqDiff,reduceCtorEq,a1 (ρ a) (Y a D),b6];refine Q7.zC fun fr' h' x y=>cont fr' h' ?_;subst x y;have dj:=ek _ (Jb U);refine⟨k,L7,at_,J,vs,_,l,Vv (jz m l),vy,w7,K,O,Q,R,F7,by rw[eG,q1];exact q2,P7,nb,aY,?_,dj,Wj hR (a6 U),?_⟩
    .unfold I9;rw[Rv,U];rfl
    .rw[eG,q1,Kw,rq]
   .have bx := AK aE aK
    have kp:decide ((-1:Int)>=0)=false:=by decide
    have q1:=rR U ((a:Int),(b:Int));have q2:=AT.new C Y D ca U ((a:Int),(b:Int));obtain⟨ak,g4,g5,q4,q5,P7,w7,ep,er,W⟩:=P6.push w6 (by rw[S];omega);have al:∀c,c∈[T,s,A]->blk J≠some c:=fun c G=>nb J YX c G;obtain⟨K,b8⟩:=W s _ ag (al s YX);obtain⟨O,b9⟩:=W T _ br (al T YX);obtain⟨Q,cc⟩:=W A _ aE (al A YX);obtain⟨R,a7⟩:=W E _ ay (aY J YX);have V:=P7.sep.le;have s7:=hs.le V;have a8:=I g5 V a D;rw[ca]at a8;have X:NB [T,s,A] (ak::(vs++[Y2,Y2])):=fun u w c G=>by
     simp only[aH,uK,RF,or_false]at w;rcases w with rfl|w|rfl|rfl
     .simp only [aH, RF, or_false] at G
      rcases G with rfl|rfl|rfl
      .exact b9
      .exact b8
      .exact cc
     .exact nb u (by simp[w]) c G
     .simp[blk]
     .simp[blk]
    have bb:∀u∈ak::(vs++[Y2,Y2]),blk u≠some E:=fun u w=>by
     simp only[aH,uK,RF,or_false]at w;rcases w with rfl|w|rfl|rfl
     .exact a7
     .exact aY u (by simp[w])
     .simp[blk]
     .simp[blk]
    simp only[Ud,Nat.reduceLT,↓reduceIte,Nat.reduceEqDiff,reduceCtorEq,a1 (ρ a) (Y a D),bx,kp,bld0,q4,q5,sf2,Co,Qs,s7.l2,H a D,a8];refine dK.intro pK ⟨WC,rfl,xr⟩ (Ar W0 s T i L6 ρ d a g5 K O d5 F6 D) ?_;rintro y h8 w8 ⟨rfl,L8,F8,bV,dk,aM⟩;have bQ:=aM s _ (Hn d5) K;have aT:=aM A _ aX Q;have dm:=aM E _ (Hn av) R;have aQ:=dk h V nT;have P8:=P7.kept aQ fun c o G ho=>aM c o (fun e=>by obtain⟨u,w,hb⟩:=G;exact X u w T YX (by rw[<-e];exact hb)) ho;have dp:=uH aT (i:=ρ a) (by rw[AT.len];exact Y a D) ((grpsM (MK i m es) es [] j).length:Int);have dr:=aQ.put (.cells (oY (at_.set (ρ a) ((grpsM (MK i m es) es [] j).length:Int)))) nA;have P9:=P8.kept dr fun c o G ho=>by
     obtain⟨u,w,hb⟩:=G;rw[AHeap.Dz _ _ _ _ (fun e=>X u w A YX (by rw[<-e];exact hb))];exact ho
    have bj:((I9 m (grpsM (MK i m es) es [] j)).length:Int)=((grpsM (MK i m es) es [] j).length:Int):=by rw[S]
    simp only[Ud,Nat.reduceLT,↓reduceIte,Nat.reduceEqDiff,reduceCtorEq,a1 (ρ a) (Y a D),bj,dp];refine Q7.zC fun fr' h' x y=>cont fr' h' ?_;subst x y;refine⟨(grpsM (MK i m es) es [] j).length,L8,_,ak,_,_,[],[],vy,w8.put _ (w8.lt aT),by rw[AHeap.Dz _ _ _ _ (Hn ej)];exact bQ,by rw[AHeap.Dz _ _ _ _ (Hn aX)];exact bV,AHeap.zm _ _ _,by rw[AHeap.Dz _ _ _ _ (Hn en)];exact dm,F8,by rw[eG,q1];exact q2,P9,X,bb,?_,KW _,KW _,?_⟩
    .rw[kc (by rw[S];exact J4 _),S,iE];rfl
    .rw[eG,q1,df,<-S,ZK _ _ (J4 _),iE];rfl
  |true=>
   have dv:=I h5 N a D;rw[ca]at dv;cases cb:m b with
   |false=>
    have hf:MK i m es ((a:Int),(b:Int)) j=Lv i m es b:=by unfold MK qL;simp only[TK];rw[if_neg (by rw[ca];simp),if_pos cb]
    have b5:=I h5 N b hb;rw[cb]at b5;rw[hf]at eG;simp only[Ud,Nat.reduceLT,↓reduceIte,Nat.reduceEqDiff,reduceCtorEq,ad,ld,e4,e5,Il,Mt,sf2,Co,Qs,s5.l2,dc h5 oE,eo h5 oE,H a D,dv,b5,P5.len_,H b hb];refine dK.intro pK ⟨WC,rfl,xr⟩ (Ar W0 s T i L ρ d b h5 aj bo d5 F hb) ?_;rintro y h6 w6 ⟨rfl,L6,F6,br,b3,Z⟩;have aB:=b3 h N nT;have s6:=hs.le aB;have dd:=I h6 aB b hb;rw[cb]at dd;have ag:=Z s _ (Hn d5) aj;have aE:=Z A _ aX db;have ay:=Z E _ (Hn av) oE;have P6:=P5.kept aB fun c o G ho=>Z c o (fun e=>by obtain⟨u,w,hb⟩:=G;exact nb u w T YX (by rw[<-e];exact hb)) ho;rcases AT.val b hb cb with⟨k,l,aK,U⟩|⟨aK,U⟩
    .have bx := AK aE aK
     have kp:decide ((k:Int)>=0)=true:=decide_eq_true QT;obtain⟨q1,q2⟩:=AT.cW nk U ((a:Int),(b:Int));simp only[Ud,Nat.reduceLT,↓reduceIte,Nat.reduceEqDiff,reduceCtorEq,a1 (ρ b) (Y b hb),bx,kp];refine dK.intro pK ⟨WC,rfl,xr⟩ (Ar W0 s T i L6 ρ d b h6 ag br d5 F6 hb) ?_;rintro y h7 w7 ⟨rfl,L7,F7,O,b4,ah⟩;have K:=ah s _ (Hn d5) ag;have Q:=ah A _ aX aE;have R:=ah E _ (Hn av) ay;have V:=b4 h aB nT;have P7:=P6.kept V fun c o G ho=>ah c o (fun e=>by obtain⟨u,w,hb⟩:=G;exact nb u w T YX (by rw[<-e];exact hb)) ho;have b6:=AK Q aK;simp only[Ud,Nat.reduceLT,↓reduceIte,Nat.reduceEqDiff,reduceCtorEq,a1 (ρ b) (Y b hb),b6];refine Q7.zC fun fr' h' x y=>cont fr' h' ?_;subst x y;have dj:=ek _ (Jb U);refine⟨k,L7,at_,J,vs,_,l,Vv (jz m l),vy,w7,K,O,Q,R,F7,by rw[eG,q1];exact q2,P7,nb,aY,?_,dj,Wj hR (a6 U),?_⟩
     .unfold I9;rw[Rv,U];rfl
     .rw[eG,q1,Kw,rq]
    .have bx := AK aE aK
     have kp:decide ((-1:Int)>=0)=false:=by decide
     have q1:=rR U ((a:Int),(b:Int));have q2:=AT.new C Y hb cb U ((a:Int),(b:Int));obtain⟨ak,g4,g5,q4,q5,P7,w7,ep,er,W⟩:=P6.push w6 (by rw[S];omega);have al:∀c,c∈[T,s,A]->blk J≠some c:=fun c G=>nb J YX c G;obtain⟨K,b8⟩:=W s _ ag (al s YX);obtain⟨O,b9⟩:=W T _ br (al T YX);obtain⟨Q,cc⟩:=W A _ aE (al A YX);obtain⟨R,a7⟩:=W E _ ay (aY J YX);have V:=P7.sep.le;have s7:=hs.le V;have a8:=I g5 V b hb;rw[cb]at a8;have X:NB [T,s,A] (ak::(vs++[Y2,Y2])):=fun u w c G=>by
      simp only[aH,uK,RF,or_false]at w;rcases w with rfl|w|rfl|rfl
      .simp only [aH, RF, or_false] at G
       rcases G with rfl|rfl|rfl
       .exact b9
       .exact b8
       .exact cc
      .exact nb u (by simp[w]) c G
      .simp[blk]
      .simp[blk]
     have bb:∀u∈ak::(vs++[Y2,Y2]),blk u≠some E:=fun u w=>by
      simp only[aH,uK,RF,or_false]at w;rcases w with rfl|w|rfl|rfl
      .exact a7
      .exact aY u (by simp[w])
      .simp[blk]
      .simp[blk]
     simp only[Ud,Nat.reduceLT,↓reduceIte,Nat.reduceEqDiff,reduceCtorEq,a1 (ρ b) (Y b hb),bx,kp,bld0,q4,q5,sf2,Co,Qs,s7.l2,H b hb,a8];refine dK.intro pK ⟨WC,rfl,xr⟩ (Ar W0 s T i L6 ρ d b g5 K O d5 F6 hb) ?_;rintro y h8 w8 ⟨rfl,L8,F8,bV,dk,aM⟩;have bQ:=aM s _ (Hn d5) K;have aT:=aM A _ aX Q;have dm:=aM E _ (Hn av) R;have aQ:=dk h V nT;have P8:=P7.kept aQ fun c o G ho=>aM c o (fun e=>by obtain⟨u,w,hb⟩:=G;exact X u w T YX (by rw[<-e];exact hb)) ho;have dp:=uH aT (i:=ρ b) (by rw[AT.len];exact Y b hb) ((grpsM (MK i m es) es [] j).length:Int);have dr:=aQ.put (.cells (oY (at_.set (ρ b) ((grpsM (MK i m es) es [] j).length:Int)))) nA;have P9:=P8.kept dr fun c o G ho=>by
      obtain⟨u,w,hb⟩:=G;rw[AHeap.Dz _ _ _ _ (fun e=>X u w A YX (by rw[<-e];exact hb))];exact ho
     have bj:((I9 m (grpsM (MK i m es) es [] j)).length:Int)=((grpsM (MK i m es) es [] j).length:Int):=by rw[S]
     simp only[Ud,Nat.reduceLT,↓reduceIte,Nat.reduceEqDiff,reduceCtorEq,a1 (ρ b) (Y b hb),bj,dp];refine Q7.zC fun fr' h' x y=>cont fr' h' ?_;subst x y;refine⟨(grpsM (MK i m es) es [] j).length,L8,_,ak,_,_,[],[],vy,w8.put _ (w8.lt aT),by rw[AHeap.Dz _ _ _ _ (Hn ej)];exact bQ,by rw[AHeap.Dz _ _ _ _ (Hn aX)];exact bV,AHeap.zm _ _ _,by rw[AHeap.Dz _ _ _ _ (Hn en)];exact dm,F8,by rw[eG,q1];exact q2,P9,X,bb,?_,KW _,KW _,?_⟩
     .rw[kc (by rw[S];exact J4 _),S,iE];rfl
     .rw[eG,q1,df,<-S,ZK _ _ (J4 _),iE];rfl
   |true=>
    have hf:MK i m es ((a:Int),(b:Int)) j=(i:Int)+j:=by unfold MK qL;simp only[TK];rw[if_neg (by rw[ca];simp),if_neg (by rw[cb];simp)]
    have et:=I h5 N b hb;rw[cb]at et;rw[hf]at eG;have q1:=rR (O4 (on:=m) hR (i:=j)) ((a:Int),(b:Int));have q2:=AT.lone (f:=(i:Int)+j) QT ((a:Int),(b:Int));obtain⟨ak,g4,g5,q4,q5,P7,w7,ep,er,W⟩:=P5.push w5 (by rw[S];omega);have al:∀c,c∈[T,s,A]->blk J≠some c:=fun c G=>nb J YX c G;obtain⟨K,b8⟩:=W s _ aj (al s YX);obtain⟨O,b9⟩:=W T _ bo (al T YX);obtain⟨Q,cc⟩:=W A _ db (al A YX);obtain⟨R,a7⟩:=W E _ oE (aY J YX);have V:=P7.sep.le;have s7:=hs.le V;have a8:=I g5 V b hb;rw[cb]at a8;have X:NB [T,s,A] (ak::(vs++[Y2,Y2])):=fun u w c G=>by
     simp only[aH,uK,RF,or_false]at w;rcases w with rfl|w|rfl|rfl
     .simp only [aH, RF, or_false] at G
      rcases G with rfl|rfl|rfl
      .exact b9
      .exact b8
      .exact cc
     .exact nb u (by simp[w]) c G
     .simp[blk]
     .simp[blk]
    have bb:∀u∈ak::(vs++[Y2,Y2]),blk u≠some E:=fun u w=>by
     simp only[aH,uK,RF,or_false]at w;rcases w with rfl|w|rfl|rfl
     .exact a7
     .exact aY u (by simp[w])
     .simp[blk]
     .simp[blk]
    have bj:((I9 m (grpsM (MK i m es) es [] j)).length:Int)=((grpsM (MK i m es) es [] j).length:Int):=by rw[S]
    simp only[Ud,Nat.reduceLT,↓reduceIte,Nat.reduceEqDiff,reduceCtorEq,ad,ld,e4,e5,Il,Mt,sf2,Co,Qs,s5.l2,dc h5 oE,eo h5 oE,H a D,dv,et,P5.len_,H b hb,bld0,q4,q5,s7.l2,a8,bj];refine Q7.zC fun fr' h' x y=>cont fr' h' ?_;subst x y;refine⟨(grpsM (MK i m es) es [] j).length,L,at_,ak,_,_,[],[],vy,w7,K,O,Q,R,F,by rw[eG,q1];exact q2,P7,X,bb,?_,KW _,KW _,?_⟩
    .rw[kc (by rw[S];exact J4 _),S,iE];rfl
    .rw[eG,q1,df,<-S,ZK _ _ (J4 _),iE];rfl
 rintro fr h6 ⟨k,L,at_,J,vs,ps,l,ft,eu,w6,o5,oT,oA,oE,F,AT,P,nb,a7,dw,fb,fe,ew⟩;simp only[BM]at eu;obtain⟨f0,f7,dx,dy,dz,dB,dE,dH,dI,-⟩:=eu;have bF:=(bH.1 dw).1;have vl:=P.len;have dL:2*k<vs.length:=QT;obtain⟨gE,gF⟩:=P.ge k _ dw;simp only at gE gF;have a3:=P.sl.ad3 bF;have r0:=eA3 P.sl bF (r:=0);rw[dX]at r0;have ldE:=P.ldE bF;obtain⟨u',g4,g5,q4,q5,ey,cE,m4,cM,bW⟩:=gE.push w6 ((a:Int),(b:Int)) QT;have Lp:=E3 oE;obtain⟨h7,cd,P7,w7,eA,bX⟩:=P.setR (t:=22) (r:=0) (u':=u') (pk:=(l++[((a:Int),(b:Int))],ft)) pS zd bF QT cE cM bW (.inl ⟨rfl,ey,l,dw⟩);rw[dX]at cd;have cg:∀c,(∀u∈J::vs,blk u≠some c)->∀o,h6.own c=some o->h7.own c=some o:=fun c G o ho=>bX c o ho G;have aq:∀c∈[T,s,A],∀u∈J::vs,blk u≠some c:=fun c G u w=>nb u w c G;have K:=cg s (aq s YX) _ o5;have O:=cg T (aq T YX) _ oT;have Q:=cg A (aq A YX) _ oA;have R:=cg E a7 _ oE;have u0:vs.getD (2*k) Y2∈J::vs:=by rw[YR dL];exact Gs _ (om dL)
 have bm:∀c∈[T,s,A],∀o,h6.own c=some o->blk u'≠some c:=fun c G o ho=>(bW c o ho (aq c G _ u0)).2;have X:NB [T,s,A] (J::vs.set (2*k) u'):=fun u w c G=>by
  rcases aH.1 w with rfl|w
  .exact nb u YX c G
  .rcases zo w with w | rfl
   .exact nb u (by simp[w]) c G
   .simp only [aH, RF, or_false] at G
    rcases G with rfl|rfl|rfl
    .exact bm _ YX _ oT
    .exact bm _ YX _ o5
    .exact bm _ YX _ oA
 rw[dX]at P7;have eB:=E3 R;have dM:Le h6 g4:=m4;have eC:=E3 (dM.own _ _ oE);have c0:aload Tryz.prog g4 22 (elemAddr J (k*3))=some (vs.getD (2*k) Y2):=(P.up dM).ldE bF;refine rD (vu [0,1,2,3,4,5,6,7] (PO 8 [7] (PO 9 [6,8] (vu [10,11] (PO 12 [0,1,2,3,4,5,6,7,8,9,11] .done))))) ?_;simp only[Ud,Nat.reduceLT,↓reduceIte,Nat.reduceEqDiff,reduceCtorEq,Nat.reduceBEq,rm,f0,f7,dx,dy,dz,dB,dE,dH,dI,a3,pf0,r0,ldE,c0,Lp,eC,q4,q5,cd,eB];have eD:CK h h7 J (vs.set (2*k) u') (ps.set k (l++[((a:Int),(b:Int))],(G8 m ((a:Int),(b:Int)) 0).foldl NO ft)):=by
  have:G8 m ((a:Int),(b:Int)) 0=[]:=by simp[G8]
  rw[this];exact P7
 refine W9.intro (fun kk fr hq=>∃(q:Nat) (vs:List Value),kk=2-q/\q<=2/\fr=mkF [(0,.pointer (some ⟨B,0,none⟩)),(7,.func (.func 143) #[] #[.pointer (some ⟨s,0,none⟩)]),(10,J),(11,.slice (some ⟨A,0,none⟩) i i),(15,.int .i64 (k:Int)),(77,ev),(78,.int .i64 (es.length:Nat)),(79,.int .i64 (j:Nat)),(149,Ov ((a:Int),(b:Int))),(150,.int .i64 (q:Nat))]/\
   hq.own s=some (.cells [.slice (some ⟨T,0,none⟩) i i])/\hq.own T=some (.cells (oY L))/\hq.own A=some (.cells (oY at_))/\CK h hq J vs (ps.set k (l++[((a:Int),(b:Int))],(G8 m ((a:Int),(b:Int)) q).foldl NO ft))/\NB [T,s,A] (J::vs))
  2 [(0,.pointer (some ⟨B,0,none⟩)),(7,.func (.func 143) #[] #[.pointer (some ⟨s,0,none⟩)]),(10,J),(11,.slice (some ⟨A,0,none⟩) i i),(15,.int .i64 (k:Int)),(77,ev),(78,.int .i64 (es.length:Nat)),(79,.int .i64 (j:Nat)),(149,Ov ((a:Int),(b:Int))),(150,.int .i64 (0:Nat))] (by simp only[BM,Ud,Nat.reduceLT,↓reduceIte,Nat.reduceEqDiff,reduceCtorEq,f0,f7,dx,dy,dz,dB,dE,dH,dI];simp)
  ⟨0,_,rfl,KW _,rfl,K,O,Q,eD,X⟩ ?_
 clear eD c0 eC dM eB X bm u0 R Q O K aq cg P7 cd bX eA w7 Lp bW cM m4 cE ey q5 q4 ldE r0 a3 gE gF vl dL a7 nb P oE oA oT o5 w6 f0 f7 dx dy dz dB dE dH dI;rintro kk fr hq c6 ⟨q,vs,rfl,ff,rfl,o5,oT,oA,P,nb⟩;have lq:=P.sep.le;by_cases c:q<2
 rotate_left
 .have z : ((q : Int) < 2) = False := eq_false QT
  obtain rfl:q=2:=QT;have e2:G8 m ((a:Int),(b:Int)) 2=CO m ((a:Int),(b:Int)):=by simp[G8,CO]
  rw[e2,<-ew]at P;simp only[Ud,Nat.reduceLT,↓reduceIte,Nat.reduceEqDiff,reduceCtorEq,z,aw];exact cX (es.length-(j+1)) [(0,.pointer (some ⟨B,0,none⟩)),(7,.func (.func 143) #[] #[.pointer (some ⟨s,0,none⟩)]),(10,J),(11,.slice (some ⟨A,0,none⟩) i i),(77,ev),(78,.int .i64 (es.length:Nat)),(79,.int .i64 (j+1:Nat))] (dN M) vy ⟨j+1,L,at_,J,vs,rfl,M,rfl,o5,oT,oA,F,AT,P,nb⟩
 have z:((q:Int)<2)=True:=eq_true QT;have ix:=ix42 ((a:Int),(b:Int)) q c;have bY:=IS m ((a:Int),(b:Int)) q c;have eE:∃v:Nat,Yz ((a:Int),(b:Int)) q=(v:Int)/\v<i:=by
  unfold Yz;split
  .exact⟨a,rfl,D⟩
  .exact⟨b,rfl,hb⟩
 obtain⟨v,hv,dQ⟩:=eE;rw[hv]at ix bY;rw[TK]at bY;have sq:=hs.le lq;have cQ:=I hq lq v dQ;have eI:aField Tryz.prog 77 (.pointer (some ⟨B,0,none⟩)) 2=some (.pointer (some ⟨B,2,none⟩)):=rfl;have dT:=Gm q QT;have cY:k<(ps.set k (l++[((a:Int),(b:Int))],(G8 m ((a:Int),(b:Int)) q).foldl NO ft)).length:=by rw[qm];exact bF
 have c3:(ps.set k (l++[((a:Int),(b:Int))],(G8 m ((a:Int),(b:Int)) q).foldl NO ft))[k]?=some (l++[((a:Int),(b:Int))],(G8 m ((a:Int),(b:Int)) q).foldl NO ft):=by rw[v8,if_pos rfl,if_pos bF]
 cases co:m v with
 |false=>
  rw[co]at cQ bY;have e2:G8 m ((a:Int),(b:Int)) q=G8 m ((a:Int),(b:Int)) (q+1):=by rw[bY];simp
  rw[e2]at P;simp only[Ud,Nat.reduceLT,↓reduceIte,Nat.reduceEqDiff,reduceCtorEq,z,ix,eI,sq.l2,H v dQ,cQ,dT];exact cX (2-(q+1)) [(0,.pointer (some ⟨B,0,none⟩)),(7,.func (.func 143) #[] #[.pointer (some ⟨s,0,none⟩)]),(10,J),(11,.slice (some ⟨A,0,none⟩) i i),(15,.int .i64 (k:Int)),(77,ev),(78,.int .i64 (es.length:Nat)),(79,.int .i64 (j:Nat)),(149,Ov ((a:Int),(b:Int))),(150,.int .i64 (q+1:Nat))] (dN c) vy ⟨q+1,vs,rfl,c,rfl,o5,oT,oA,P,nb⟩
 |true=>
  rw[co,if_pos rfl]at bY;rw[co]at cQ;have eF:(G8 m ((a:Int),(b:Int)) (q+1)).foldl NO ft=NO ((G8 m ((a:Int),(b:Int)) q).foldl NO ft) (v:Int):=by rw[bY,Tr];rfl
  have c4:((G8 m ((a:Int),(b:Int)) q).foldl NO ft).length<=100000:=by
   have h1:∀(xs acc:LF),(xs.foldl NO acc).length<=acc.length+xs.length:=fun xs=>by
    induction xs with
    |nil=>intro acc;simp
    |cons x xs ih=>
     intro acc;have:=ih (NO acc x);have h2:(NO acc x).length<=acc.length+1:=by unfold NO;split<;>simp
     rw[kT,jD];omega
   have h2:(G8 m ((a:Int),(b:Int)) q).length<=2:=Jh (ET _ _) (by rw[Ja];exact Nat.min_le_right _ _);have:=h1 (G8 m ((a:Int),(b:Int)) q) ft;omega
  generalize (G8 m ((a:Int),(b:Int)) q).foldl NO ft=fq at*;have vl:=P.len;have eL:2*k+1<vs.length:=by rw[qm]at vl;omega
  obtain⟨gE,gF⟩:=P.ge k _ c3;simp only at gE gF;have a3:=P.sl.ad3 cY;have r1:=eA3 P.sl cY (r:=1);have ldF:=P.ldF cY;simp only[Ud,Nat.reduceLT,↓reduceIte,Nat.reduceEqDiff,reduceCtorEq,z,ix,eI,sq.l2,H v dQ,cQ,a3,pf1,r1,ldF];refine dK.intro pK ⟨Tryz.func101,rfl,xr⟩ (Xk W0 _ fq (v:Int) hq gF.rl c4) ?_;rintro y h9 w9 ⟨rfl,rfl⟩;by_cases cm:(v:Int)∈fq
  .have e3 : NO fq (v : Int) = fq := by unfold NO; rw [if_pos cm]
   rw[e3]at eF;rw[<-eF]at P;simp only[Ud,Nat.reduceLT,↓reduceIte,Nat.reduceEqDiff,reduceCtorEq,decide_eq_true cm,dT];exact cX (2-(q+1)) [(0,.pointer (some ⟨B,0,none⟩)),(7,.func (.func 143) #[] #[.pointer (some ⟨s,0,none⟩)]),(10,J),(11,.slice (some ⟨A,0,none⟩) i i),(15,.int .i64 (k:Int)),(77,ev),(78,.int .i64 (es.length:Nat)),(79,.int .i64 (j:Nat)),(149,Ov ((a:Int),(b:Int))),(150,.int .i64 (q+1:Nat))] (dN c) vy ⟨q+1,vs,rfl,c,rfl,o5,oT,oA,P,nb⟩
  .have e3 : NO fq (v : Int) = fq ++ [(v : Int)] := by unfold NO; rw [if_neg cm]
   rw[e3]at eF;obtain⟨u',g4,g5,q4,q5,e0,cE,m4,cM,bW⟩:=gF.push c6 (v:Int) c4;obtain⟨h7,cd,P7,w7,eA,bX⟩:=P.setR (t:=49) (r:=1) (u':=u') (pk:=(l++[((a:Int),(b:Int))],fq++[(v:Int)])) Rm zd cY QT cE cM bW (.inr ⟨rfl,e0,fq,c3⟩);rw[List.set_set,<-eF]at P7;have aq:∀c∈[T,s,A],∀u∈J::vs,blk u≠some c:=fun c G u w=>nb u w c G;have K:=bX s _ o5 (aq s YX);have O:=bX T _ oT (aq T YX);have Q:=bX A _ oA (aq A YX);have u0:vs.getD (2*k+1) Y2∈J::vs:=by rw[YR eL];exact Gs _ (om eL)
   have bm:∀c∈[T,s,A],∀o,h9.own c=some o->blk u'≠some c:=fun c G o ho=>(bW c o ho (aq c G _ u0)).2;have X:NB [T,s,A] (J::vs.set (2*k+1) u'):=fun u w c G=>by
    rcases aH.1 w with rfl|w
    .exact nb u YX c G
    .rcases zo w with w | rfl
     .exact nb u (by simp[w]) c G
     .simp only [aH, RF, or_false] at G
      rcases G with rfl|rfl|rfl
      .exact bm _ YX _ oT
      .exact bm _ YX _ o5
      .exact bm _ YX _ oA
   simp only[Ud,Nat.reduceLT,↓reduceIte,Nat.reduceEqDiff,reduceCtorEq,decide_eq_false cm,a3,pf1,r1,ldF,q4,q5,cd,dT];exact cX (2-(q+1)) [(0,.pointer (some ⟨B,0,none⟩)),(7,.func (.func 143) #[] #[.pointer (some ⟨s,0,none⟩)]),(10,J),(11,.slice (some ⟨A,0,none⟩) i i),(15,.int .i64 (k:Int)),(77,ev),(78,.int .i64 (es.length:Nat)),(79,.int .i64 (j:Nat)),(149,Ov ((a:Int),(b:Int))),(150,.int .i64 (q+1:Nat))] (dN c) vy ⟨q+1,_,rfl,c,rfl,K,O,Q,P7,X⟩
end
end Go.Fw
