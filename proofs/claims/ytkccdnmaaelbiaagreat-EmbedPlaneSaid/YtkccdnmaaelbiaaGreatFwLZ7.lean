/- A text. -/
import Derived.Test.YtkccdnmaaelbiaaGreatFwLW5
import Derived.Test.YtkccdnmaaelbiaaGreatFwLZ6
import Derived.Test.YtkccdnmaaelbiaaGreatFwLI2
set_option linter.all false
set_option maxRecDepth 99999
set_option maxHeartbeats 9999999
namespace Go.Fw
section
attribute [local irreducible] Ax YH XZ Uk KO KN KX KE VK DK Q7 dK W9
open Go.Proofs
variable {es:List Pr} {n:Nat}
structure LowR (n:Nat) (ls:List Lw) (o:wi):Prop where
 len:ls.length=n
 lt:∀v∈o,v<n
 sI:o.length<=n
 up:∀v,v<n->(ZZ ls v).2.1<(n:Int)
def lowM_R (hR:I7 n es):LowR n (xM n es).1 (xM n es).2:=by
 obtain⟨C,_⟩:=Tt hR n (J4 _);refine⟨by rw[xM,xj,wA];exact C.len,C.lt,C.toLowI.sI,fun v a=>?_⟩;rw[xM,(vT _ _ v).2,(Qu _ _ v).2];exact C.up v a
def uG (a b:Int):J3 (.int .i64 a) [.int .i64 b]=some (.int .i64 (max a b)):=by
 have:(if b>a then b else a)=max a b:=by split<;>omega
 simp only[J3,if_true,this]
def bP2 (a b:Int):aBuild Tryz.prog 38 [(0,.int .i64 a),(1,.int .i64 b)]=some (Ov (a,b)):=zd
end
section
open Go.Proofs
def Cs (ls:List Lw) (c:LF) (v:Nat):LF:=
 if 0<=(ZZ ls v).2.1/\(ZZ ls (ZZ ls v).2.1.toNat).1<=(ZZ ls v).2.2 then c.set (ZZ ls v).2.1.toNat (c.getD (ZZ ls v).2.1.toNat 0+1)else c
def cntM (ls:List Lw) (o:wi) (n:Nat):LF:=o.foldl (Cs ls) (List.replicate n 0)
def Nv (ls:List Lw) (c:LF) (v:Nat):(Cs ls c v).length=c.length:=by unfold Cs;split<;>simp
def zF (ls:List Lw) (c:LF) (v:Nat):Bool:=decide (c.getD v 0>1)||(decide (c.getD v 0=1)&&decide ((ZZ ls v).2.1>=0))
def Db (n:Nat) (es:List Pr):wi:=(List.range n).filter (zF (xM n es).1 (cntM (xM n es).1 (xM n es).2 n))
def mkI0 (h:AHeap):aBuildSlice Tryz.prog h 49 0 []=some (.slice (some ⟨h.next,0,none⟩) 0 0,h.alloc (.cells [])):=rfl
end
section
attribute [local irreducible] Ax YH XZ Uk KO KN KX KE VK DK Q7 dK W9
open Go.Proofs
def VU (ls:List Lw) (p:Pr):Nat:=if(ZZ ls p.1.toNat).1>(ZZ ls p.2.toNat).1 then p.1.toNat else p.2.toNat
def Tq (ls:List Lw) (H:LF) (v:Nat):LF:=
 if 0<=(ZZ ls v).2.1/\(ZZ ls v).2.2<(ZZ ls (ZZ ls v).2.1.toNat).1 then(H.set v (v:Int)).set v ((H.set v (v:Int)).getD (ZZ ls v).2.1.toNat 0)else H.set v (v:Int)
def hdM (ls:List Lw) (o:wi) (n:Nat):LF:=o.foldl (Tq ls) (List.replicate n 0)
def W7 (ls:List Lw) (c:LF) (v:Nat):(Tq ls c v).length=c.length:=by unfold Tq;split<;>simp
def XS (ls:List Lw):∀(o:wi) (c:LF),(o.foldl (Tq ls) c).length=c.length
 |[],c=>rfl
 |v::o,c=>by rw[kT,XS ls o,W7]
def oJ (n:Nat) (es:List Pr) (p:Pr):Int:=(hdM (xM n es).1 (xM n es).2 n).getD (VU (xM n es).1 p) 0
def AE (n:Nat) (es:List Pr):List (List Pr):=(grpsM (fun p _=>oJ n es p) es [] es.length).map (·.2)
def nu (r:Ac) (n L f a c:Nat) (ls:List Lw) (h:AHeap) (u:ls.length=n) (oV:h.own f=some (.cells [.slice (some ⟨L,0,none⟩) n n])) (oL:h.own L=some (.cells (Wu ls))) (ha:a<n) (l:c<n):
  AC Tryz.prog r 85 [Ov ((a:Int),(c:Int)),.pointer (some ⟨f,0,none⟩)] h fun x h'=>x=.int .i64 (VU ls ((a:Int),(c:Int)):Nat)/\Le h h':=by
 have e:=fun(g:AHeap) (o:g.own f=some (.cells [.slice (some ⟨L,0,none⟩) n n]))=>(wT (P:=Tryz.prog) iC rfl o (off:=0):aload Tryz.prog g 104 ⟨f,0,none⟩=_);simp only[WJ]at e;refine AC.vE ⟨Tryz.func85,rfl,xr⟩ Tryz.ntmps85 Tryz.results85 fun i=>?_;simp only[xq,Nat.reduceAdd];obtain⟨s,t,l1,w1,m⟩:=mV i (Zh ((a:Int),(c:Int)));have m1:=Ol m;have m2:=Lt m;simp only at m1 m2;have p:=O2 (ls:=ls) (v:=a) QT;have gc:=O2 (ls:=ls) (v:=c) QT;have b:=l1.own _ _ oL;have q:=e s (l1.own _ _ oV);simp only[Ud,Nat.reduceLT,↓reduceIte,xH,t]
 generalize h.next=E at*
 by_cases k:(ZZ ls a).1>(ZZ ls c).1
 .have d : decide ((ZZ ls a).1 > (ZZ ls c).1) = true := decide_eq_true k
  have j:VU ls ((a:Int),(c:Int))=a:=by simp only[VU,TK];rw[if_pos k]
  refine rD (vu [0,1,2,3,4,5,6,7,8,9,10,11,12] .done) ?_;simp only[Ud,Nat.reduceLT,↓reduceIte,Nat.reduceEqDiff,rm,Il,Mt,Co,dX,Qs,m1,m2,q,bT a ha,bT c l,fl0,rF b p,rF b gc,d];exact⟨by rw[j],l1⟩
 .have d : decide ((ZZ ls a).1 > (ZZ ls c).1) = false := decide_eq_false k
  have j:VU ls ((a:Int),(c:Int))=c:=by simp only[VU,TK];rw[if_neg k]
  refine rD (vu [0,1,2,3,4,5,6,7,8,9,10,11,12] .done) ?_;simp only[Ud,Nat.reduceLT,↓reduceIte,Nat.reduceEqDiff,rm,Il,Mt,Co,dX,Qs,m1,m2,q,bT a ha,bT c l,fl0,rF b p,rF b gc,d];exact⟨by rw[j],l1⟩
def yG (W0:Ac) (v:Value) (G:GM) (h:AHeap) (hg:GR h v G):
  AC Tryz.prog W0 46 [v] h fun x h'=>Le h h'/\((¬xO G/\x=.tuple #[.slice none 0 0,.int .i64 20])\/(xO G/\∃bv,x=.tuple #[bv,.int .i64 0]/\RL PR h' bv (AE G.n.toNat G.es))):=by
 have da:=hg;obtain⟨gn,es⟩:=G
 obtain⟨ev,rfl,hp⟩:=hg.open
 refine AC.vE ⟨Tryz.func46,rfl,xr⟩ Tryz.ntmps46 Tryz.results46 fun db=>?_;simp only[xq,Nat.reduceAdd];obtain⟨h1,b1,aj,eg,-,lA⟩:=WY (n:=gn) db hp
 generalize h.next=B at*
 have dd:=lA h1 (Le.refl _);simp only[Ud,Nat.reduceLT,↓reduceIte,Nat.reduceEqDiff,b1,dd.1];refine dK.intro pK ⟨Tryz.func84,rfl,xr⟩ (rh W0 _ _ h1 (da.le aj)) ?_;rintro x h2 b6 ⟨bb,bj⟩;have al:=qg h2;obtain⟨h3,e3,l3,w3,o3⟩:=mV b6 [.slice none 0 0];rw[e3]at al
 have nV:h2.own h2.next=none:=(Le.refl h2).next b6 (J4 _)
 rcases bj with⟨hr,rfl⟩|⟨hr,L,ov,rfl,oL,nL,go,nb,ao⟩
 .have st := Qr (P := Tryz.prog) (t := 104) (x := .slice none 0 0) iC zd o3 (off := 0) YX rfl rfl
  have d20:decide ((20:Int)=0)=false:=by decide
  simp only[Ud,Nat.reduceLT,↓reduceIte,Nat.reduceEqDiff,al,st,bne,d20];exact⟨(aj.trans bb).trans (l3.put _ nV),.inl ⟨hr,trivial⟩⟩
 have h0:0<=gn:=hr.n0;obtain⟨n,rfl⟩:=RT h0;have ee:(n:Int)<=200:=hr.n1;have ef:es.length<=594:=hr.len;have hR:=hr.si;have R:=lowM_R hr.si;simp only[TK]at oL go ⊢;have hM:AE n es=(grpsM (fun p _=>(hdM (xM n es).1 (xM n es).2 n).getD (VU (xM n es).1 p) 0) es [] es.length).map (·.2):=rfl;generalize (xM n es).1=ls at*;generalize (xM n es).2=o at*;have eh:=R.sI;have st:=Qr (P:=Tryz.prog) (t:=104) (x:=.slice (some ⟨L,0,none⟩) n n) iC zd o3 (off:=0) YX rfl rfl;have w4:=w3.put (.cells ([Value.slice none 0 0].set 0 (.slice (some ⟨L,0,none⟩) n n))) (w3.lt o3);have l4:=l3.put (.cells ([Value.slice none 0 0].set 0 (.slice (some ⟨L,0,none⟩) n n))) nV
 have bm:=AHeap.zm h3 h2.next (.cells ([Value.slice none 0 0].set 0 (.slice (some ⟨L,0,none⟩) n n)))
 simp only[aae]at bm l4 w4 st;have lo:=fun g=>go.rl.zw g;rw[tG]at lo;simp only[Ud,Nat.reduceLT,↓reduceIte,Nat.reduceEqDiff,al,st,bne];clear st al e3 o3 w3 l3
 generalize h3.put h2.next (.cells [.slice (some ⟨L,0,none⟩) n n])=h4 at*
 generalize h2.next=T at*
 clear h3;have b8:=lA h4 (bb.trans l4);have mk:=IG (P:=Tryz.prog) (t:=49) (z:=.int .i64 0) h4 Rm rfl rfl rfl rfl zd Ik zd n QT;obtain⟨h5,e5,l5,w5,o5⟩:=mV w4 (List.replicate n (.int .i64 0));rw[e5]at mk
 have nC:h4.own h4.next=none:=(Le.refl h4).next w4 (J4 _)
 simp only[Ud,Nat.reduceLT,↓reduceIte,Nat.reduceEqDiff,Cq,Co,Qs,b8.2.1,mk,lo]
 generalize h4.next=C at*
 have b9:h5.own C=some (.cells (oY (List.replicate n 0))):=by rw[o5];simp[oY]
 have dj:=l4.own _ _ oL;have dk:=go.le l4;have ak:=fun(g:AHeap) (o:Le h4 g)=>(wT (P:=Tryz.prog) iC rfl (o.own _ _ bm) (off:=0):aload Tryz.prog g 104 ⟨T,0,none⟩=_);simp only[WJ]at ak;have aq:∀(k:IntKind) (j:Nat),j<n->aIndexAddr Tryz.prog 49 (.slice (some ⟨C,0,none⟩) n n) (.int k j)=some (.pointer (some ⟨C,j,none⟩)):=fun k j hj=>by rw[vj Rm Ik zd j hj];simp[Co]
 have cc:∀(g:AHeap) (c:LF) (j:Nat),g.own C=some (.cells (oY c))->c.length=n->j<n->aload Tryz.prog g 3 ⟨C,j,none⟩=some (.int .i64 (c.getD j 0)):=fun g c j Q hl hj=>by
  rw[wT Ik rfl Q,YR QT];simp[oY,XR (show j<c.length by omega)]
 refine W9.intro (fun k fr m=>∃(i:Nat),k=o.length-i/\i<=o.length/\fr=mkF [(1,.pointer (some ⟨B,0,none⟩)),(4,.pointer (some ⟨T,0,none⟩)),(7,.slice (some ⟨C,0,none⟩) n n),(32,ov),(33,.int .i64 o.length),(34,.int .i64 i)]/\m.own C=some (.cells (oY ((o.take i).foldl (Tq ls) (List.replicate n 0))))/\Le h4 m)
  o.length [(1,.pointer (some ⟨B,0,none⟩)),(4,.pointer (some ⟨T,0,none⟩)),(7,.slice (some ⟨C,0,none⟩) n n),(32,ov),(33,.int .i64 o.length),(34,.int .i64 (0:Nat))] vy ⟨0,rfl,KW _,rfl,b9,l5⟩ ?_
 clear b9 o5 w5 l5 e5 mk lo b8;clear h5;rintro k fr m bo ⟨i,rfl,hi,rfl,oC,leq⟩;have ar:((o.take i).foldl (Tq ls) (List.replicate n 0)).length=n:=by rw[XS];simp
 refine yq ?_;refine DK.intro (fun ht=>?_) (fun hf=>?_)
 .have d : i < o.length := Ub ht
  clear ht;have cd:=XR d;have ad:=go.rl.qW i (by rw[tG];exact d);have ld:=(dk.le leq).rl.HN i (by rw[tG];exact d);rw[uD d]at ld;have cg:o.take (i+1)=o.take i++[o[i]]:=QM d;generalize o[i]=w at cd ld cg;have I:=R.lt w (Jb cd);have gw:=O2 (ls:=ls) (v:=w) (by rw[R.len];exact I);have J:(o.take (i+1)).foldl (Tq ls) (List.replicate n 0)=Tq ls ((o.take i).foldl (Tq ls) (List.replicate n 0)) w:=by rw[cg,Tr];rfl
  generalize (o.take i).foldl (Tq ls) (List.replicate n 0)=H at*;have st1:=Qr (P:=Tryz.prog) (t:=3) (x:=.int .i64 (w:Int)) Ik zd oC (off:=w) (by simp[oY];omega) rfl rfl;rw[Ko]at st1;have s:=leq.put (.cells (oY (H.set w (w:Int)))) nC;have av:=AHeap.zm m C (.cells (oY (H.set w (w:Int))));have ck:(H.set w (w:Int)).length=n:=by simpa using ar
  generalize m.put C (.cells (oY (H.set w (w:Int))))=h6 at*;have U:=s.own _ _ dj;simp only[Ud,Nat.reduceLT,↓reduceIte,Nat.reduceEqDiff,ad,ld,aq _ w I,st1,ak h6 s,bT w I,fl1,Co,lUp U gw];by_cases c1:0<=(ZZ ls w).2.1
  .obtain ⟨u, r⟩ := RT c1
   have V:u<n:=by have:=R.up w I;omega
   have gu:=O2 (ls:=ls) (v:=u) (by rw[R.len];exact V);have d1:decide ((u:Int)>=0)=true:=decide_eq_true QT;by_cases c2:(ZZ ls w).2.2<(ZZ ls u).1
   .have d2 : decide ((ZZ ls w).2.2 < (ZZ ls u).1) = true := decide_eq_true c2
    have hE:Tq ls H w=(H.set w (w:Int)).set w ((H.set w (w:Int)).getD u 0):=by unfold Tq;rw[r,TK,if_pos ⟨QT,c2⟩]
    have st:=Qr (P:=Tryz.prog) (t:=3) (x:=.int .i64 ((H.set w (w:Int)).getD u 0)) Ik zd av (off:=w) (by simp[oY];omega) rfl rfl;rw[Ko,<-hE,<-J]at st;simp only[r];refine rD (vu [0,1,2,3,4,5,6,7,8,9,10,11,12,13,14] .done) ?_;simp only[Ud,Nat.reduceLT,↓reduceIte,Nat.reduceEqDiff,rm,d1,d2,ak h6 s,bT w I,bT u V,fl0,fl2,Co,dX,W6 U gw,rF U gu,aq _ u V,aq _ w I,cc h6 _ u av ck V,st,Gm i QT];exact cX (o.length-(i+1)) [(1,.pointer (some ⟨B,0,none⟩)),(4,.pointer (some ⟨T,0,none⟩)),(7,.slice (some ⟨C,0,none⟩) n n),(32,ov),(33,.int .i64 o.length),(34,.int .i64 (i+1:Nat))] QT vy ⟨i+1,rfl,d,rfl,AHeap.zm _ _ _,s.put _ nC⟩
   .have d2 : decide ((ZZ ls w).2.2 < (ZZ ls u).1) = false := decide_eq_false c2
    have hE:Tq ls H w=H.set w (w:Int):=by unfold Tq;rw[r,TK,if_neg (fun h=>c2 h.2)]
    simp only[r];refine rD (vu [0,1,2,3,4,5,6,7,8,9,10,11,12,13,14] .done) ?_;simp only[Ud,Nat.reduceLT,↓reduceIte,Nat.reduceEqDiff,rm,d1,d2,ak h6 s,bT w I,bT u V,fl0,fl2,Co,dX,W6 U gw,rF U gu,Gm i QT];exact cX (o.length-(i+1)) [(1,.pointer (some ⟨B,0,none⟩)),(4,.pointer (some ⟨T,0,none⟩)),(7,.slice (some ⟨C,0,none⟩) n n),(32,ov),(33,.int .i64 o.length),(34,.int .i64 (i+1:Nat))] QT vy ⟨i+1,rfl,d,rfl,by rw[J,hE];exact av,s⟩
  .have d1 : decide ((ZZ ls w).2.1 >= 0) = false := decide_eq_false c1
   have hE:Tq ls H w=H.set w (w:Int):=by unfold Tq;rw[if_neg (fun h=>c1 h.1)]
   refine rD (vu [0,1,2,3,4,5,6,7,8,9,10,11,12,13,14] .done) ?_;simp only[Ud,Nat.reduceLT,↓reduceIte,Nat.reduceEqDiff,rm,d1,Gm i QT];exact cX (o.length-(i+1)) [(1,.pointer (some ⟨B,0,none⟩)),(4,.pointer (some ⟨T,0,none⟩)),(7,.slice (some ⟨C,0,none⟩) n n),(32,ov),(33,.int .i64 o.length),(34,.int .i64 (i+1:Nat))] QT vy ⟨i+1,rfl,d,rfl,by rw[J,hE];exact av,s⟩
 have br:o.length<=i:=Yv hf;rw[xV br]at oC ar;have cm:o.foldl (Tq ls) (List.replicate n 0)=hdM ls o n:=rfl;rw[cm]at oC ar;rw[hM];clear hM cm;generalize hdM ls o n=H at*
 obtain⟨S,e7,A,W,o7⟩:∃S,m.alloc (.map [])=S/\Le m S/\WF S/\S.own m.next=some (.map []):=⟨_,rfl,(Le.refl m).alloc bo _,bo.alloc _,AHeap.vA _ _⟩
 obtain⟨h8,e8,ay,dm,o8⟩:=mV W []
 have cr:aBuildSlice Tryz.prog S 49 0 []=some (.slice (some ⟨S.next,0,none⟩) 0 0,h8):=by rw[<-e8];rfl
 have nM:m.own m.next=none:=(Le.refl m).next bo (J4 _)
 have nD:m.own S.next=none:=A.next W (J4 _)
 have aY:S.next≠m.next:=fun e=>by have:=W.lt o7;omega
 have X:=bb.trans (l4.trans leq);have cx:=lA h8 (X.trans (A.trans ay));have ll:=fun g=>hp.len g;simp only[Ud,Nat.reduceLT,↓reduceIte,Nat.reduceEqDiff,e7,cr,vz,Co,Qs,cx.2.2,ll];have cE:=ay.own _ _ o7
 generalize m.next=M at*
 generalize S.next=D at*
 have dp:=hp.le (aj.trans X);have dr:=(l4.trans leq).own _ _ oL;have dv:=leq.own _ _ bm;generalize dw:(fun(p:Pr) (_:Nat)=>H.getD (VU ls p) 0)=fr at*;have R0:B9 m h8 M [] (grpsM fr es [] 0):=⟨cE,rfl,fun j u g r=>by simp at r,fun j u r=>by simp at r,fun j k u u' b _ r=>by simp at r,fun j u r=>by simp at r,A.trans ay,nM⟩;have gC:GI h8 (.slice (some ⟨D,0,none⟩) 0 0) (sK (grpsM fr es [] 0)):=GS.full o8 rfl xr;refine W9.intro (fun k Y hh=>∃(i:Nat) (cv:Value) (us:List Value),k=es.length-i/\i<=es.length/\Y=mkF [(7,.slice (some ⟨C,0,none⟩) n n),(11,.func (.func 85) #[] #[.pointer (some ⟨T,0,none⟩)]),(12,.map (some M)),(13,cv),(74,ev),(75,.int .i64 es.length),(76,.int .i64 i)]/\
   B9 m hh M us (grpsM fr es [] i)/\GI hh cv (sK (grpsM fr es [] i))/\blk cv≠some M/\(∀(j:Nat) u b,us[j]?=some u->blk u=some b->blk cv≠some b)/\tQ m cv)
  es.length [(7,.slice (some ⟨C,0,none⟩) n n),(11,.func (.func 85) #[] #[.pointer (some ⟨T,0,none⟩)]),(12,.map (some M)),(13,.slice (some ⟨D,0,none⟩) 0 0),(74,ev),(75,.int .i64 es.length),(76,.int .i64 (0:Nat))] vy
  ⟨0,_,[],rfl,KW _,rfl,R0,gC,by simpa[blk]using aY,fun j u b r=>by simp at r,fun b hb=>by simp[blk]at hb;subst hb;exact nD⟩ ?_
 clear R0 gC cE cx nD aY cr o8 dm ay e8 o7 W A e7;rintro k Y hh aB ⟨i,cv,us,rfl,hi,rfl,Rg,gc,nc,dc,ac⟩;have bx:=Rg.le;refine yq ?_;refine DK.intro (fun ht=>?_) (fun hf=>?_)
 rotate_left
 .have br : es.length <= i := Yv hf
  obtain rfl:i=es.length:=QT;obtain⟨nd,cM,a1,dx,cQ⟩:=RW fr es [] es.length;generalize bF:grpsM fr es [] es.length=gs at*;have lc:=fun g=>gc.rl.zw g;have cY:(sK gs).length=gs.length:=by simp[sK]
  rw[cY]at lc;have mk:=IG (P:=Tryz.prog) (t:=62) (z:=.slice none 0 0) hh qS24 MP rfl rfl rfl zd pS zd gs.length QT;obtain⟨h9,e9,K,aE,o9⟩:=mV aB (List.replicate gs.length (.slice none 0 0));rw[e9]at mk
  have nF:hh.own hh.next=none:=(Le.refl hh).next aB (J4 _)
  generalize hh.next=F at*
  simp only[Ud,Nat.reduceLT,↓reduceIte,Nat.reduceEqDiff,lc,mk];refine W9.intro (fun k Y hz=>∃(j:Nat) (cs:List Value),k=gs.length-j/\j<=gs.length/\Y=mkF [(12,.map (some M)),(17,.slice (some ⟨F,0,none⟩) gs.length gs.length),(107,cv),(108,.int .i64 gs.length),(109,.int .i64 j)]/\
    Le hh hz/\hz.own F=some (.cells cs)/\cs.length=gs.length/\∀(a:Nat) g,a<j->gs[a]?=some g->∃x,cs[a]?=some x/\PR hh x g.2)
   gs.length [(12,.map (some M)),(17,.slice (some ⟨F,0,none⟩) gs.length gs.length),(107,cv),(108,.int .i64 gs.length),(109,.int .i64 (0:Nat))] vy
   ⟨0,_,rfl,KW _,rfl,K,o9,YX,QT⟩ ?_
  clear e9 o9 aE K mk;clear h9;rintro k Y hz ei ⟨j,cs,rfl,hj,rfl,Z,oF,bI,ag⟩;refine yq ?_;refine DK.intro (fun ht=>?_) (fun hf=>?_)
  rotate_left
  .have br : gs.length <= j := Yv hf
   refine yq ?_;refine⟨(aj.trans X).trans (bx.trans Z),.inr ⟨hr,_,rfl,cs,?_,by simpa using bI,fun a f u ha r=>?_⟩⟩
   .rw[<-bI];exact RS.whole oF rfl
   .rw [Rv] at ha
    cases y:gs[a]? with
    |none=>rw[y]at ha;cases ha
    |some g=>
     rw[y]at ha;simp at ha;subst ha;obtain⟨x,q1,q2⟩:=ag a g (by have:=(bH.1 y).1;omega) y;rw[r]at q1;injection q1 with q1;subst q1;exact q2.le Z
  have bQ:j<gs.length:=Ub ht;clear ht;have aK:=XR bQ;generalize gs[j]=g at aK;obtain⟨f,l⟩:=g;have c0:(sK gs)[j]?=some f:=by simp[sK,aK]
  have c3:=(bH.1 c0).1;have dy:=gc.rl.qW j c3;have c4:=(gc.rl.le Rr.IJ Z).HN j c3;rw[(bH.1 c0).2]at c4;have Rz:=Rg.up Z;obtain⟨u,dz,aM⟩:=Rg.look f;rw[q9 nd aK]at aM;have r:aLookup Tryz.prog hz 110 (.map (some M)) (.int .i64 f) false=some u:=by rw[<-dz];simp only[aLookup,qS7,Ik,Rz.oM,Rg.oM]
  have dA:∀k:IntKind,aIndexAddr Tryz.prog 62 (.slice (some ⟨F,0,none⟩) gs.length gs.length) (.int k j)=some (.pointer (some ⟨F,j,none⟩)):=fun k=>by rw[vj qS24 pS zd j bQ];simp[Co]
  have stF:=Qr (P:=Tryz.prog) (t:=22) (x:=u) pS zd oF (off:=j) QT (vW.cells aM.pr.sl) (vW.one aM.pr.sl);simp only[Ud,Nat.reduceLT,↓reduceIte,Nat.reduceEqDiff,dy,c4,r,dA,stF,Gm j QT];refine cX (gs.length-(j+1)) [(12,.map (some M)),(17,.slice (some ⟨F,0,none⟩) gs.length gs.length),(107,cv),(108,.int .i64 gs.length),(109,.int .i64 (j+1:Nat))] QT vy
   ⟨j+1,cs.set j u,rfl,bQ,rfl,Z.put _ nF,AHeap.zm _ _ _,by simpa using bI,fun a g ha y=>?_⟩
  by_cases e:a=j
  .subst e
   rw[aK]at y;injection y with y;subst y;exact⟨u,by rw[v8,if_pos rfl,if_pos QT],aM.pr⟩
  .obtain ⟨x', q1, q2⟩ := ag a g QT y
   exact⟨x',by rw[v8,if_neg (Hn e)];exact q1,q2⟩
 have d:i<es.length:=Ub ht;clear ht;have aQ:=XR d;generalize es[i]=p at aQ;have dB:=Jb aQ;have a6:=hR p dB;have dE:=dp.le bx;have ad:=hp.addr (k:=.i64) i d;have ld:=dE.load aQ;obtain⟨a,c⟩:=p;simp only at a6;obtain⟨a,rfl⟩:=RT a6.1;obtain⟨c,rfl⟩:=RT (show 0<=c by omega);obtain⟨ej,S,e7,dH,A,W,o7⟩:=bS aB ((a:Int),(c:Int))
 have bV:hh.own hh.next=none:=(Le.refl hh).next aB (J4 _)
 have ah:=bx.trans A;have R7:=Rg.up A;have dI:=gc.le A
 have ek:hh.next≠M:=fun e=>by have:=Rg.oM;rw[<-e,bV]at this;cases this
 have dL:blk cv≠some hh.next:=fun e=>GS.Rf gc e bV
 have en:∀(j:Nat) u,us[j]?=some u->blk u≠some hh.next:=fun j u r e=>by
  have bF:∃q,(grpsM fr es [] i)[j]?=some q:=⟨_,XR (by rw[<-Rg.len];exact(bH.1 r).1)⟩;obtain⟨q,m⟩:=bF;exact GS.Rf (Rg.gp j u q r m) e bV
 generalize hh.next=E at*
 have dM:=E3 o7;simp only[Ud,Nat.reduceLT,↓reduceIte,Nat.reduceEqDiff,ad,ld,e7,dH,dM];refine dK.intro pK ⟨Tryz.func85,rfl,xr⟩ (nu W0 n L T a c ls S R.len (ah.own _ _ dv) (ah.own _ _ dr) QT QT) ?_;rintro x h9 aE ⟨rfl,K⟩;have hle:VU ls ((a:Int),(c:Int))<n:=by simp only[VU,TK];split<;>omega
 have a7:=ah.trans K;have R9:=R7.up K;have bW:=dI.le K;have o9:=K.own _ _ o7;have bX:=cc h9 H _ (a7.own _ _ oC) ar hle;have c1:((a:Int),(c:Int))∉([]:List Pr):=by simp
 obtain⟨nd,cM,a1,dx,cQ⟩:=RW fr es [] i;have a8:=Hh (fr:=fr) aQ c1;have dQ:fr ((a:Int),(c:Int)) i=H.getD (VU ls ((a:Int),(c:Int))) 0:=by rw[<-dw]
 rw[<-dQ]at bX;have O:=Mu (grpsM fr es [] i) (fr ((a:Int),(c:Int)) i) ((a:Int),(c:Int));have c5:=SO (f:=fr ((a:Int),(c:Int)) i) cM;have eo:=Ey (fr ((a:Int),(c:Int)) i) _ _ a1;have c6:=aq .i64 _ hle;generalize bF:grpsM fr es [] i=gs at*;generalize fr ((a:Int),(c:Int)) i=f at*;generalize VU ls ((a:Int),(c:Int))=lw at*;have cY:(sK gs).length<=1000:=by simp[sK];omega
 obtain⟨u,r,gu⟩:=R9.look f;have lu:=fun g=>gu.pr.len g;have bY:∀(j:Nat) a b,us[j]?=some a->blk a=some b->∃o,h9.own b=some o:=fun j a b ha hb=>by
  have m:∃q,gs[j]?=some q:=⟨_,XR (by rw[<-R9.len];exact(bH.1 ha).1)⟩;obtain⟨q,m⟩:=m;exact yu.1 (GS.Rf (R9.gp j a q ha m) hb)
 by_cases c2:lstG gs f=[]
 .have dT : ∀ g, aLen Tryz.prog g 22 u = some (.int .i64 0) := fun g => by rw [lu g, c2]; rfl
  have dV:f∉sK gs:=fun hm=>c5.1 hm c2;rw[if_neg dV]at O;obtain⟨aT,g4,g5,e4,e5,b0,w5,l4,dW,aX⟩:=bW.push aE f QT;obtain⟨l5,a5⟩:=dW m a7 ac;have R5:B9 m g5 M us gs:=R9.keep l5 fun b o Q hb=>(aX b o Q (by
   rcases hb with rfl|⟨j,a,ha,hb⟩
   .exact nc
   .exact dc j a b ha hb)).1
  obtain⟨dY,ep⟩:=aX E _ o9 dL;have b2:=(aX M _ R9.oM nc).2;obtain⟨u2,ec,q4,q5,q6,b3,eu,eb,ea,em,Rn,wn,ed,kq⟩:=R5.push w5 f ((a:Int),(c:Int)) (by rw[c2];simp);have b4:=E3 dY;rw[<-O]at b0;have ku:∀(j:Nat) a b,us[j]?=some a->blk a=some b->blk aT≠some b:=fun j a b ha hb=>by
   obtain⟨o,Q⟩:=bY j a b ha hb;exact(aX b o Q (dc j a b ha hb)).2
  have b5:GI q6 aT (sK (addG gs f ((a:Int),(c:Int)))):=GS.kept b0 fun b o hb Q=>(kq b o Q (fun e=>b2 (by rw[<-e];exact hb)) (fun j a ha N=>ku j a b ha N hb)).2.1;simp only[Ud,Nat.reduceLT,↓reduceIte,Nat.reduceEqDiff,c6,bX,r,dT,e4,e5,eu,b4,eb,ea,em,Gm i QT];refine cX (es.length-(i+1)) [(7,.slice (some ⟨C,0,none⟩) n n),(11,.func (.func 85) #[] #[.pointer (some ⟨T,0,none⟩)]),(12,.map (some M)),(13,aT),(74,ev),(75,.int .i64 es.length),(76,.int .i64 (i+1:Nat))] QT vy
   ⟨i+1,aT,b3,rfl,d,rfl,?_⟩
  rw[a8];refine⟨Rn,b5,b2,fun j a b ha hb hc=>?_,a5⟩;obtain⟨o,Q⟩:=yu.1 (GS.Rf b0 hc);exact(kq b o Q (fun e=>b2 (by rw[<-e];exact hc)) (fun j a ha N=>ku j a b ha N hc)).2.2 j a ha hb
 .have hz:(((lstG gs f).length:Nat):Int)≠0:=by
   have:(lstG gs f).length≠0:=fun e=>c2 (LB.1 e);omega
  rw[if_pos (c5.2 c2)]at O;obtain⟨u2,ec,q4,q5,q6,b3,eu,eb,ea,em,Rn,wn,ed,kq⟩:=R9.push aE f ((a:Int),(c:Int)) QT;obtain rfl:u=u2:=by rw[r]at eu;injection eu
  have b4:=E3 o9;have b5:GI q6 cv (sK (addG gs f ((a:Int),(c:Int)))):=by
   rw[O];exact GS.kept bW fun b o hb Q=>(kq b o Q (fun e=>nc (by rw[<-e];exact hb)) (fun j a ha N=>dc j a b ha N hb)).2.1
  simp only[Ud,Nat.reduceLT,↓reduceIte,Nat.reduceEqDiff,c6,bX,r,lu,eq_false hz,b4,eb,ea,em,Gm i QT];refine cX (es.length-(i+1)) [(7,.slice (some ⟨C,0,none⟩) n n),(11,.func (.func 85) #[] #[.pointer (some ⟨T,0,none⟩)]),(12,.map (some M)),(13,cv),(74,ev),(75,.int .i64 es.length),(76,.int .i64 (i+1:Nat))] QT vy
   ⟨i+1,cv,b3,rfl,d,rfl,?_⟩
  rw[a8];refine⟨Rn,b5,nc,fun j a b ha hb hc=>?_,ac⟩;obtain⟨o,Q⟩:=yu.1 (GS.Rf bW hc);exact(kq b o Q (fun e=>nc (by rw[<-e];exact hc)) (fun j a ha N=>dc j a b ha N hc)).2.2 j a ha hb
end
variable {a b c n u v:Nat} {es:List Pr} {ls:List Lw} {num:Nat->Nat} {o:wi} {up:Nat->Option Nat}
def G7 (S:yY n es ls o num up) (a:v<n) (c:up v=some u):((ZZ ls v).2.2<(ZZ ls u).1↔C6 es num up u v):=by
 have b:=((S.fo.VF v u a c).1.lt S.fo.uJ).1;obtain⟨x,d,h2⟩:=S.low v a;rw[d,S.QW u b,<-S.fo.low_bey a c h2];omega
def Ws (S:yY n es ls o num up) (a:v<n):(0<=(ZZ ls v).2.1/\∃u,up v=some u/\(ZZ ls v).2.1=(u:Int))\/(¬0<=(ZZ ls v).2.1/\up v=none):=by
 by_cases c:0<=(ZZ ls v).2.1
 .obtain ⟨u, b⟩ := RT c
  exact .inl ⟨c,u,by rw[<-S.ups v a,b,Us],b⟩
 .exact .inr ⟨c,by rw[<-S.ups v a];unfold Qm;rw[if_neg c]⟩
def U8 (n:Nat) (es:List Pr) (v:Nat):Nat:=((hdM (xM n es).1 (xM n es).2 n).getD v 0).toNat
def hd_fold (S:yY n es ls o num up):∀k,k<=n->
  ∃f:Nat->Nat,(∀(j v:Nat),j<k->o[j]?=some v->((o.take k).foldl (Tq ls) (List.replicate n 0)).getD v 0=(f v:Int)/\
   (up v=none->f v=v)/\(∀u,up v=some u->C6 es num up u v->f v=f u)/\(∀u,up v=some u->¬C6 es num up u v->f v=v)):=by
 intro k
 induction k with
 |zero=>intro _;exact⟨id,fun j v h=>by omega⟩
 |succ k M=>
  intro W;obtain⟨f,H⟩:=M QT;have p:k<o.length:=by rw[S.sI];omega
  have r:o.take (k+1)=o.take k++[o[k]]:=QM p;have a:=XR p;generalize o[k]=w at r a;have l:=(S.mem w).1 (Jb a);have N:((o.take k).foldl (Tq ls) (List.replicate n 0)).length=n:=by rw[XS];simp
  have m:(o.take (k+1)).foldl (Tq ls) (List.replicate n 0)=Tq ls ((o.take k).foldl (Tq ls) (List.replicate n 0)) w:=by rw[r,Tr];rfl
  rw[m];generalize (o.take k).foldl (Tq ls) (List.replicate n 0)=L at*;have s:∀(j v:Nat),j<k->o[j]?=some v->v≠w:=fun j v A d e=>by
   subst e;have:=(D9 (bH.1 d).1 S.nd).1 (d.trans a.symm);omega
  have t:∀u,up w=some u->∃j,j<k/\o[j]?=some u:=fun u b=>by
   obtain⟨C,h2⟩:=S.fo.VF w u l b;obtain⟨j,A⟩:=OH.1 ((S.mem u).2 (C.lt S.fo.uJ).1);have:=S.ord j u A;have:=S.ord k w a;exact⟨j,QT,A⟩
  let x:Nat:=match up w with
   |none=>w
   |some u=>if 0<=(ZZ ls w).2.1/\(ZZ ls w).2.2<(ZZ ls (ZZ ls w).2.1.toNat).1 then f u else w
  have O:(Tq ls L w).getD w 0=(x:Int)/\(∀v,v≠w->(Tq ls L w).getD v 0=L.getD v 0)/\(up w=none->x=w)/\(∀u,up w=some u->C6 es num up u w->x=f u)/\(∀u,up w=some u->¬C6 es num up u w->x=w):=by
   rcases Ws S l with⟨c,u,b,D⟩|⟨c,b⟩
   .have B : x = if 0 <= (ZZ ls w).2.1 /\ (ZZ ls w).2.2 < (ZZ ls (ZZ ls w).2.1.toNat).1 then f u else w := by show (match up w with | none => w | some u => _) = _; rw [b]
    have hb:=G7 S l b;by_cases q:C6 es num up u w
    .have g : 0 <= (ZZ ls w).2.1 /\ (ZZ ls w).2.2 < (ZZ ls (ZZ ls w).2.1.toNat).1 := ⟨c, by rw [D, TK]; exact hb.2 q⟩
     obtain⟨j,y,z⟩:=t u b;have E:=(H j u y z).1;have F:=s j u y z;rw[B,if_pos g];refine⟨?_,fun v d=>?_,fun e=>(by rw[b]at e;cases e),fun u' e _=>(by rw[b]at e;injection e with e;rw[e]),fun u' e nb=>(by rw[b]at e;injection e with e;subst e;exact absurd q nb)⟩
     .unfold Tq;rw[if_pos g,Ao,if_pos ⟨rfl,by simp[N,l]⟩,D,TK,Ao,if_neg (fun h=>F h.1.symm)];exact E
     .unfold Tq;rw[if_pos g,Ao,if_neg (fun h=>d h.1.symm),Ao,if_neg (fun h=>d h.1.symm)]
    .have g : ¬ (0 <= (ZZ ls w).2.1 /\ (ZZ ls w).2.2 < (ZZ ls (ZZ ls w).2.1.toNat).1) := fun h => q (hb.1 (by have := h.2; rwa [D, TK] at this))
     rw[B,if_neg g];refine⟨?_,fun v d=>?_,fun _=>rfl,fun u' e nb=>(by rw[b]at e;injection e with e;subst e;exact absurd nb q),fun u' e _=>rfl⟩
     .unfold Tq;rw[if_neg g,Ao,if_pos ⟨rfl,QT⟩]
     .unfold Tq;rw[if_neg g,Ao,if_neg (fun h=>d h.1.symm)]
   .have B : x = w := by show (match up w with | none => w | some u => _) = _; rw [b]
    have g:¬(0<=(ZZ ls w).2.1/\(ZZ ls w).2.2<(ZZ ls (ZZ ls w).2.1.toNat).1):=fun h=>c h.1;rw[B];refine⟨?_,fun v d=>?_,fun _=>rfl,fun u' e=>(by rw[b]at e;cases e),fun u' e=>(by rw[b]at e;cases e)⟩
    .unfold Tq;rw[if_neg g,Ao,if_pos ⟨rfl,QT⟩]
    .unfold Tq;rw[if_neg g,Ao,if_neg (fun h=>d h.1.symm)]
  obtain⟨P,Q,R,T,U⟩:=O
  refine⟨fun v=>if v=w then x else f v,fun j v A d=>?_⟩
  by_cases e:v=w
  .subst e
   simp only[if_pos];refine⟨P,R,fun u b hb=>?_,U⟩;obtain⟨i,G,I⟩:=t u b;rw[if_neg (s i u G I)];exact T u b hb
  .have J:j<k:=by
    rcases uj j k with h|h
    .exact h
    .have : j = k := QT
     subst this;rw[a]at d;injection d with d;exact absurd d.symm e
   obtain⟨C,h2,h3,V⟩:=H j v J d;simp only[if_neg e];refine⟨by rw[Q v e];exact C,h2,fun u b hb=>?_,V⟩;have K:=(S.mem v).1 (Jb d);obtain⟨X,Y⟩:=S.fo.VF v u K b;have:u≠w:=fun e'=>by
    subst e';have:=S.ord k u a;have:=S.ord j v d;omega
   rw[if_neg this];exact h3 u b hb
def vJ (S:yY n es (xM n es).1 (xM n es).2 num up):Fo.My n es num up (U8 n es)/\∀v,v<n->(hdM (xM n es).1 (xM n es).2 n).getD v 0=(U8 n es v:Int):=by
 obtain⟨f,H⟩:=hd_fold S n (J4 _);rw[xV (by rw[S.sI];exact J4 _)]at H;have ex:∀v,v<n->∃j,j<n/\(xM n es).2[j]?=some v:=fun v a=>by
  obtain⟨j,d⟩:=OH.1 ((S.mem v).2 a);exact⟨j,by have:=(bH.1 d).1;have:=S.sI;omega,d⟩
 have e:∀v,v<n->U8 n es v=f v:=fun v a=>by
  obtain⟨j,b,h2⟩:=ex v a;have:=(H j v b h2).1;unfold U8 hdM;rw[this];simp
 have ev:∀v,v<n->(hdM (xM n es).1 (xM n es).2 n).getD v 0=(U8 n es v:Int):=fun v a=>by
  obtain⟨j,b,h2⟩:=ex v a;have:=(H j v b h2).1;rw[e v a];exact this
 refine⟨⟨fun v a c=>?_,fun v u a c hb=>?_,fun v u a c hb=>?_⟩,ev⟩
 .obtain ⟨j, b, h2⟩ := ex v a
  rw[e v a];exact(H j v b h2).2.1 c
 .obtain ⟨j, b, h2⟩ := ex v a
  rw[e v a,e u ((S.fo.VF v u a c).1.lt S.fo.uJ).1];exact(H j v b h2).2.2.1 u c hb
 .obtain ⟨j, b, h2⟩ := ex v a
  rw[e v a];exact(H j v b h2).2.2.2 u c hb
def EA (S:yY n es (xM n es).1 (xM n es).2 num up) (ha:a<n) (d:c<n):oJ n es ((a:Int),(c:Int))=(U8 n es (Fo.lower num a c):Int):=by
 have e:VU (xM n es).1 ((a:Int),(c:Int))=Fo.lower num a c:=by
  simp only[VU,TK,Fo.lower,S.QW a ha,S.QW c d];by_cases q:num c<num a
  .rw[if_pos QT,if_pos q]
  .rw[if_neg QT,if_neg q]
 have b:Fo.lower num a c<n:=by unfold Fo.lower;split<;>assumption
 rw[oJ,e,(vJ S).2 _ b]
def uY (h:num a≠num b):Fo.lower num a b=Fo.lower num b a:=by
 unfold Fo.lower;by_cases q:num b<num a
 .rw[if_pos q,if_neg QT]
 .rw[if_neg q,if_pos QT]
def On (S:yY n es (xM n es).1 (xM n es).2 num up) (h:xA es a b):oJ n es (pe a b)=(U8 n es (Fo.lower num a b):Int):=by
 have d:=S.fo.DO h;have c:=h.lt S.fo.uJ;rw[iD];rcases Nat.le_total a b with q|q
 .rw[bE q,Nat.max_eq_right q];exact EA S c.1 c.2
 .rw[aaj q,Nat.max_eq_left q,EA S c.2 c.1,uY d.symm]
def IL (c:I7 n es) (ha:xA es v a) (hb:xA es v b):oJ n es (pe v a)=oJ n es (pe v b)↔Cn (wo v) es a b:=by
 obtain⟨num,up,S⟩:=Np c;rw[On S ha,On S hb,<-S.fo.lZ (vJ S).1 ha hb];constructor
 .intro h;exact Int.ofNat.inj h
 .intro h;rw[h]
def fkS (key:Pr->Int) (ks:LF) (p:Pr):LF:=if key p∈ks then ks else ks++[key p]
def kj (key:Pr->Int) (es:List Pr):LF:=es.foldl (fkS key) []
def jw (key:Pr->Int) (es:List Pr) (p:Pr):kj key (es++[p])=fkS key (kj key es) p:=by simp[kj]
def NW (key:Pr->Int):∀(k:Nat) (es:List Pr),es.length=k->(kj key es).Nodup/\∀x,x∈kj key es↔∃p∈es,key p=x:=by
 intro k
 induction k with
 |zero=>intro es h;obtain rfl:=b7 h;simp[kj]
 |succ k g=>
  intro es h;obtain⟨es,p,rfl⟩:∃d p,es=d++[p]:=by
   rcases iS es with rfl|⟨d,p,h'⟩
   .simp at h
   .exact⟨d,p,by simpa using h'⟩
  obtain⟨f,h2⟩:=g es (by simpa using h);rw[jw];unfold fkS;by_cases q:key p∈kj key es
  .rw [if_pos q]
   refine⟨f,fun x=>?_⟩;rw[h2];constructor
   .rintro⟨r,c,e⟩;exact⟨r,by simp[c],e⟩
   .rintro ⟨r, c, e⟩
    rw[uK,Rb]at c;rcases c with c|rfl
    .exact⟨r,c,e⟩
    .rw[<-e];exact(h2 _).1 q
  .rw [if_neg q]
   refine⟨?_,fun x=>?_⟩
   .rw [KM]
    exact⟨f,YX,fun a ha b hb e=>by rw[Rb]at hb;subst hb;subst e;exact q ha⟩
   .rw [uK, Rb, h2]
    constructor
    .rintro (⟨r, c, e⟩ | rfl)
     .exact⟨r,by simp[c],e⟩
     .exact⟨p,YX,rfl⟩
    .rintro ⟨r, c, e⟩
     rw[uK,Rb]at c;rcases c with c|rfl
     .exact .inl ⟨r,c,e⟩
     .exact .inr e.symm
def fH (F:Int->List Pr) (f:Int) (p:Pr):∀(ks:LF),ks.Nodup->addG (ks.map fun k=>(k,F k)) f p=if f∈ks then ks.map (fun k=>(k,if k=f then F k++[p]else F k))else ks.map (fun k=>(k,F k))++[(f,[p])]
 |[],_=>by simp[addG]
 |k::ks,a=>by
  rw[tS]at a;have b:=fH F f p ks a.2;simp only[Kj,addG];by_cases c:k=f
  .subst c
   rw[if_pos rfl,if_pos YX,if_pos rfl];congr 1;refine vG fun x d=>?_;rw[if_neg (fun e=>a.1 (by rw[<-e];exact d))]
  .rw [if_neg c, b]
   by_cases q:f∈ks
   .rw[if_pos q,if_pos (Gs _ q),if_neg c]
   .rw[if_neg q,if_neg (by simp only[aH,not_or];exact⟨fun e=>c e.symm,q⟩)];rfl
def SY (key:Pr->Int) (es:List Pr):∀m,m<=es.length->grpsM (fun p _=>key p) es [] m=(kj key (es.take m)).map fun k=>(k,(es.take m).filter fun p=>decide (key p=k))
 |0,_=>by simp[grpsM,kj]
 |m+1,h=>by
  have b:m<es.length:=h;have d:=XR b;have a:es.take (m+1)=es.take m++[es[m]]:=QM b;generalize es[m]=p at d a;obtain⟨f,h2⟩:=NW key _ (es.take m) rfl;rw[Hh d YX,SY key es m QT,fH _ _ _ _ f,a,jw];unfold fkS;by_cases q:key p∈kj key (es.take m)
  .rw [if_pos q, if_pos q]
   refine vG fun k _=>?_;rw[zQ];by_cases c:k=key p
   .subst c;simp
   .rw[if_neg c];simp[Hn c]
  .rw [if_neg q, if_neg q, qy]
   congr 1
   .refine vG fun k g => ?_
    have c:¬key p=k:=fun e=>q (by rw[e];exact g);rw[zQ];simp[c]
   .have:(es.take m).filter (fun r=>decide (key r=key p))=[]:=by
     rw[Iw];intro r i e;exact q ((h2 _).2 ⟨r,i,by simpa using e⟩)
    simp[this]
def vf (n:Nat) (es:List Pr):AE n es=(kj (oJ n es) es).map fun k=>es.filter fun p=>decide (oJ n es p=k):=by
 rw[AE,SY _ _ _ (J4 _),Cp,UD];rfl
def ZY (key:Pr->Int):∀(k:Nat) (es:List Pr),es.length=k->∀(i j:Nat) a b,i<j->(kj key es)[i]?=some a->(kj key es)[j]?=some b->∃(x:Nat) (p:Pr),es[x]?=some p/\key p=a/\∀(y:Nat) q,es[y]?=some q->key q=b->x<y:=by
 intro k
 induction k with
 |zero=>intro es h;obtain rfl:=b7 h;intro i j a b _ h;simp[kj]at h
 |succ k m=>
  intro es h i j a b f hi d;obtain⟨es,p,rfl⟩:∃g p,es=g++[p]:=by
   rcases iS es with rfl|⟨g,p,h'⟩
   .simp at h
   .exact⟨g,p,by simpa using h'⟩
  have m:=m es (by simpa using h);obtain⟨B,h2⟩:=NW key _ es rfl;rw[jw]at hi d;have lift:∀a b,(∃(x:Nat) (p:Pr),es[x]?=some p/\key p=a/\∀(y:Nat) q,es[y]?=some q->key q=b->x<y)->∃(x:Nat) (r:Pr),(es++[p])[x]?=some r/\key r=a/\∀(y:Nat) q,(es++[p])[y]?=some q->key q=b->x<y:=by
   rintro a b ⟨x,r,u,v,w⟩;have n:=(bH.1 u).1;refine⟨x,r,by rw[US n];exact u,v,fun y q l z=>?_⟩;by_cases c:y<es.length
   .rw[US c]at l;exact w y q l z
   .omega
  unfold fkS at hi d;by_cases q:key p∈kj key es
  .rw[if_pos q]at hi d;exact lift a b (m i j a b f hi d)
  .rw [if_neg q] at hi d
   rcases uj j (kj key es).length with c|c
   .rw [US c] at d
    rw[US QT]at hi;exact lift a b (m i j a b f hi d)
   .have o := (bH.1 d).1
    simp at o;have:j=(kj key es).length:=QT;subst this;rw[kc (J4 _)]at d;simp at d;subst d;rw[US f]at hi;obtain⟨r,A,e⟩:=(h2 a).1 (Jb hi);obtain⟨x,n⟩:=OH.1 A;have t:=(bH.1 n).1;refine⟨x,r,by rw[US t];exact n,e,fun y s l hs=>?_⟩;by_cases c:y<es.length
    .rw [US c] at l
     exact absurd ((h2 _).2 ⟨s,Jb l,hs⟩) q
    .omega
open Classical in
theorem C9 {n:Nat} {es:List Pr} {ls:List Lw} {o:wi} {num:Nat->Nat} {up:Nat->Option Nat} (S:yY n es ls o num up) (v:Nat) (g:v<n):∀(l:wi),(∀x∈l,x<n)->∀c:LF,c.length=n->
  (l.foldl (Cs ls) c).getD v 0=c.getD v 0+((l.filter fun x=>decide (up x=some v/\¬C6 es num up v x)).length:Int)
 |[],_,c,_=>by simp
 |w::l,f,c,i=>by
  have a:=f w YX;rw[kT,C9 S v g l (fun x j=>f x (by simp[j])) _ (by rw[Nv];exact i)]
  have key:(Cs ls c w).getD v 0=c.getD v 0+if up w=some v/\¬C6 es num up v w then 1 else 0:=by
   rcases Ws S a with⟨h,u,b,d⟩|⟨h,b⟩
   .have hb := G7 S a b
    have m:=((S.fo.VF w u a b).1.lt S.fo.uJ).1;unfold Cs;by_cases q:C6 es num up u w
    .rw [if_neg (by rw [d, TK]; intro k; have := hb.2 q; have := k.2; omega)]
     rw[if_neg (fun k=>by rw[b]at k;have:=k.1;injection this with e;subst e;exact k.2 q)];omega
    .rw [if_pos (by rw [d, TK]; refine ⟨QT, ?_⟩; have : ¬ (ZZ ls w).2.2 < (ZZ ls u).1 := fun k => q (hb.1 k); omega), d, TK, Ao]
     by_cases e:u=v
     .subst e;rw[if_pos ⟨rfl,QT⟩,if_pos ⟨b,q⟩]
     .rw[if_neg (fun k=>e k.1),if_neg (fun k=>by rw[b]at k;have:=k.1;injection this with e';exact e e')];omega
   .unfold Cs
    rw[if_neg (fun k=>h k.1),if_neg (fun k=>by rw[b]at k;cases k.1)];omega
  rw[key,UR];by_cases q:up w=some v/\¬C6 es num up v w
  .rw[if_pos q,if_pos (by simpa using q)];simp only[jD];omega
  .rw[if_neg q,if_neg (by simpa using q)];omega
def uW (B:I7 n es) {v:Nat} (l:v<n):zF (xM n es).1 (cntM (xM n es).1 (xM n es).2 n) v=true↔Fo.Ii es v:=by
 classical
 obtain⟨num,up,S⟩:=Np B;rw[S.fo.cut_iff v l];have A:=C9 S v l (xM n es).2 (fun x C=>(S.mem x).1 C) (List.replicate n 0) YX;have D:(List.replicate n (0:Int)).getD v 0=0:=by simp[l]
 rw[D,Int.zero_add]at A;have b:=S.nd.sublist (F5 (p:=fun x=>decide (up x=some v/\¬C6 es num up v x)));have a:∀x,x∈(xM n es).2.filter (fun x=>decide (up x=some v/\¬C6 es num up v x))↔x<n/\up x=some v/\¬C6 es num up v x:=fun x=>by
  rw[sX,S.mem,decide_eq_true_eq]
 have j:(ZZ (xM n es).1 v).2.1>=0↔up v≠none:=by
  rcases Ws S l with⟨h,u,k,_⟩|⟨h,k⟩
  .simp[k,h]
  .simp[k,h]
 have m:cntM (xM n es).1 (xM n es).2 n=(xM n es).2.foldl (Cs (xM n es).1) (List.replicate n 0):=rfl;simp only[zF,Z0,SH,decide_eq_true_eq,m,A,j];generalize (xM n es).2.filter (fun x=>decide (up x=some v/\¬C6 es num up v x))=L at*;constructor
 .rintro (h | ⟨E, h2⟩)
  .match L, h, b, a with
   |[],h,_,_=>simp at h
   |[_],h,_,_=>simp at h
   |x::y::r,_,b,a=>
    obtain⟨o,q,s⟩:=(a x).1 YX;obtain⟨F,G,H⟩:=(a y).1 YX;refine .inl ⟨x,y,o,F,fun e=>?_,q,G,s,H⟩;rw[tS]at b;exact b.1 (by rw[e];simp)
  .match L, E, a with
   |[],h,_=>simp at h
   |x::r,_,a=>
    obtain⟨o,q,s⟩:=(a x).1 YX;exact .inr ⟨x,o,q,s,h2⟩
 .rintro (⟨c, d, f, t, ne, g, w, i, z⟩ | ⟨c, f, g, i, k⟩)
  .have m1 := (a c).2 ⟨f, g, i⟩
   have m2:=(a d).2 ⟨t,w,z⟩;left
   match L,m1,m2 with
   |[],m1,_=>simp at m1
   |[x],m1,m2=>simp at m1 m2;exact absurd (m1.trans m2.symm) ne
   |x::y::r,_,_=>simp only[jD];omega
  .have m1 := (a c).2 ⟨f, g, i⟩
   match L,m1 with
   |[],m1=>simp at m1
   |[x],_=>right;exact⟨YX,k⟩
   |x::y::r,_=>left;simp only[jD];omega
def mH (b:I7 n es) (v:Nat):v∈Db n es↔v<n/\Fo.Ii es v:=by
 rw[Db,sX,vq];constructor
 .rintro⟨a,h2⟩;exact⟨a,(uW b a).1 h2⟩
 .rintro⟨a,h2⟩;exact⟨a,(uW b a).2 h2⟩
def Dy:∀(a b:List Pr),a.Pairwise (fun x y=>x.1<y.1\/x.1=y.1/\x.2<y.2)->b.Pairwise (fun x y=>x.1<y.1\/x.1=y.1/\x.2<y.2)->(∀x,x∈a↔x∈b)->a=b
 |[],[],_,_,_=>rfl
 |[],y::b,_,_,h=>by have:=(h y).2 YX;simp at this
 |x::a,[],_,_,h=>by have:=(h x).1 YX;simp at this
 |x::a,y::b,ha,hb,h=>by
  rw[jO]at ha hb;have e:x=y:=by
   have c:=(h x).1 YX;have h2:=(h y).2 YX;rw[aH]at c h2;rcases c with c|c
   .exact c
   .rcases h2 with h2 | h2
    .exact h2.symm
    .have:=hb.1 x c;have:=ha.1 y h2;omega
  subst e;rw[Dy a b ha.2 hb.2 fun z=>?_];constructor
  .intro d
   have:=(h z).1 (by simp[d]);rw[aH]at this;rcases this with rfl|h'
   .have:=ha.1 z d;omega
   .exact h'
  .intro d
   have:=(h z).2 (by simp[d]);rw[aH]at this;rcases this with rfl|h'
   .have:=hb.1 z d;omega
   .exact h'
end Go.Fw
namespace Go.Fw
open Go.Proofs
attribute [local instance] Classical.propDecidable
def Ij (l:wi):List Pr:=(List.range l.length).map fun i=>pe (l.getD i 0) (l.getD ((i+1)%l.length) 0)
def sF {l:wi} (nd:l.Nodup) {j:Nat} (a:j<l.length):nx l (l.getD j 0)=l.getD ((j+1)%l.length) 0:=by
 have b:(j+1)%l.length<l.length:=JH _ QT;rw[YR a,YR b];exact qK nd a
def eZ {l:wi} (nd:l.Nodup) {v w:Nat}:pe v w∈Ij l↔Js l v w:=by
 unfold Ij;rw[T8];constructor
 .rintro ⟨i, hi, e⟩
  rw[vq]at hi;have b:l.getD i 0∈l:=by rw[YR hi];exact om _
  rcases Fg e with⟨a,h2⟩|⟨a,h2⟩
  .rw[<-a,<-h2];exact .inl ⟨b,sF nd hi⟩
  .rw[<-a,<-h2];exact .inr ⟨b,sF nd hi⟩
 .have go:∀{v w},v∈l->nx l v=w->∃i∈List.range l.length,pe (l.getD i 0) (l.getD ((i+1)%l.length) 0)=pe v w:=fun{v w} c e=>by
   obtain⟨i,hi,rfl⟩:=iV.1 c;refine⟨i,vq.2 hi,?_⟩;rw[<-sF nd hi,YR hi,e]
  rintro(⟨a,h2⟩|⟨a,h2⟩)
  .exact go a h2
  .obtain ⟨i, hi, e⟩ := go a h2
   exact⟨i,hi,by rw[e,Ug]⟩
structure cV (n:Nat) (es:List Pr) (l:wi):Prop where
 nd:l.Nodup
 h3:3<=l.length
 xA:∀v∈l,xA es v (nx l v)
noncomputable def bk (n:Nat) (es:List Pr) (l:wi) (L:LF):DB:=
 ⟨XH (List.replicate n false) l,[l,l.reverse],(ql n es (sortP (Ij l)) L).map fun f=>⟨f.bG,f.Xt,fg [l,l.reverse] f.Xt [0,1]⟩⟩
section
variable {n : Nat} {es : List Pr} {l : List Nat} {L : List Int}
def cV.lt (R:cV n es l) (hR:I7 n es) {v:Nat} (a:v∈l):v<n:=((R.xA v a).lt hR).1
def cV.Ot (R:cV n es l) (hR:I7 n es) {e:Pr} (a:e∈Ij l):e∈es:=by
 unfold Ij at a;obtain⟨i,hi,rfl⟩:=T8.1 a;rw[vq]at hi;rw[<-sF R.nd hi];exact Pq hR (R.xA _ (by rw[YR hi];exact om _))
def cV.nodup (R:cV n es l):(Ij l).Nodup:=by
 unfold Ij;rw[gY,UB];refine(gY.1 SJ).imp_of_mem fun{i j} hi a c e=>?_;rw[vq]at hi a;have d:l.getD i 0∈l:=by rw[YR hi];exact om _
 have f:l.getD j 0∈l:=by rw[YR a];exact om _
 rw[<-sF R.nd hi,<-sF R.nd a]at e;rcases Fg e with⟨b,h2⟩|⟨b,h2⟩
 .rw [YR hi, YR a] at b
  exact c ((Iv R.nd).1 b)
 .refine iX R.nd R.h3 f ?_
  rw[<-b,<-h2,Zt R.nd d]
def cV.web (R:cV n es l) (hR:I7 n es):Ra es (sortP (Ij l)):=by
 refine⟨fun i p q hi b=>?_,fun p c=>R.Ot hR ((pj _ _).1 c)⟩;have d:=WU (Ij l);have h2:=gY.1 ((dt (Ij l)).nodup_iff.2 R.nodup);have h:=(d.and h2);rw[cR]at h;obtain⟨e,f⟩:=bH.1 hi;obtain⟨g,j⟩:=bH.1 b;have:=h i (i+1) e g QT;rw[f,j]at this;rw[gJ];obtain⟨h3,k⟩:=this;rcases h3 with h3|⟨h3,m⟩
 .exact .inl h3
 .refine .inr ⟨h3, ?_⟩
  rcases Int.lt_or_eq_of_le m with a|a
  .exact a
  .exact absurd (X9 h3 a) k
def cV.mem (R:cV n es l) {v w:Nat}:pe v w∈sortP (Ij l)↔Js l v w:=by rw[pj,eZ R.nd]
def rng_on (nd:l.Nodup) {v:Nat}:(∃w,Js l v w)↔v∈l:=by
 constructor
 .rintro ⟨w, h | h⟩
  .exact h.1
  .rw[<-h.2];exact zc h.1
 .intro h;exact⟨_,.inl ⟨h,rfl⟩⟩
def cV.offl (R:cV n es l) (hR:I7 n es) {v:Nat}:¬off (eN n es) (Js l) v↔v∈l:=by
 constructor
 .intro h
  obtain⟨w,_,h2⟩:=E2 h;exact(rng_on R.nd).1 ⟨w,h2⟩
 .intro h q
  exact q _ ((Jq hR).2 (R.xA v h)) (.inl ⟨h,rfl⟩)
def cV.wOn (R:cV n es l) {v:Nat}:HF (sortP (Ij l)) v↔v∈l:=by
 unfold HF;constructor
 .rintro ⟨e, a, h⟩
  rw[pj]at a;unfold Ij at a;obtain⟨i,hi,rfl⟩:=T8.1 a;rw[vq]at hi;have:=(QZ (e:=pe (l.getD i 0) (l.getD ((i+1)%l.length) 0)) rfl v).1 (h.imp aab aab);rcases this with e|e
  .rw[e,YR hi];exact om _
  .have b : (i + 1) % l.length < l.length := JH _ QT
   rw[e,YR b];exact om _
 .intro h
  refine⟨pe v (nx l v),R.mem.2 (.inl ⟨h,rfl⟩),?_⟩;exact((QZ rfl v).2 (.inl rfl)).imp aab aab
def cV.fOn (R:cV n es l) {v:Nat} (a:v<n):vi n (sortP (Ij l)) v=true↔v∈l:=by
 have:vi n (sortP (Ij l)) v=decide (HF (sortP (Ij l)) v):=by
  unfold vi QG;rw[OO,Rv,bp a];rfl
 rw[this,decide_eq_true_eq,R.wOn]
def cV.start (R:cV n es l) (hR:I7 n es) (hA:BD es) (J:Sr n (vi n (sortP (Ij l))) es L):RR n es (Js l) (bk n es l L):=by
 have H:=sL hR hA;have hs:∀v w,Js l v w->Js l w v:=fun v w h=>JU h;have A:∀v,v<n->(vi n (sortP (Ij l)) v=true↔¬off (eN n es) (Js l) v):=fun v r=>by rw[R.fOn r,R.offl hR]
 have T:=tD (n:=n) (web:=sortP (Ij l)) (same:=tN (vi n (sortP (Ij l))) es) hA.nodup fun j N e e' k B _ _=>jg hR hA.nodup J k B;have t:∀v w,pe v w∈es->pe v w∉sortP (Ij l)->Un (eN n es) (Js l) v w:=fun v w m h2=>by
  refine⟨(Jq hR).2 (iI (fun e=>?_) m),fun q=>h2 (R.mem.2 q)⟩;subst e;have:=(hR _ m).2.1;rw[iD]at this;simp at this
 have s:ql n es (sortP (Ij l)) L=((grpsM (qL n (vi n (sortP (Ij l))) L) es (sortP (Ij l)) es.length).map (·.2)).map fun g=>⟨g,LW (vi n (sortP (Ij l))) g⟩:=by
  unfold ql;rw[UD];rfl
 refine⟨KV.start R.nd R.h3 H fun v r=>(Jq hR).2 (R.xA v r),?_,fun v r=>?_,fun p o=>?_,fun v w z=>?_,?_,?_⟩
 .show (XH (List.replicate n false) l).length = n
  rw[Qi,vV]
 .show qt (XH (List.replicate n false) l) v = true ↔ _
  rw[bh _ _ (by rw[vV];exact r),R.offl hR];have:qt (List.replicate n false) v=false:=by
   unfold qt;rw[OO,gG,if_pos r];rfl
  rw[this];simp
 .obtain ⟨f, hf, rfl⟩ := T8.1 o
  rw[s]at hf;obtain⟨g,hg,rfl⟩:=T8.1 hf;clear hf o;have a:=T.sub g hg;have one:∀{v w x y:Nat},Un (eN n es) (Js l) x y->pe v w∈g->(pe x y∈g↔Jc (eN n es) (Js l) x y=Jc (eN n es) (Js l) v w):=fun{v w x y} b C=>
   wX hR hA hs (fun e k=>k) A T t (fun v w x y z _ _ _=>⟨un_in hR z,fun q=>z.2 (R.mem.1 q)⟩) hg b C
  have un:∀{v w},pe v w∈g->Un (eN n es) (Js l) v w:=fun h=>t _ _ (a.subset h) (T.inP g hg _ h);have D:=feet_eq (web:=sortP (Ij l)) hR fun p o=>a.subset o;have K:∀u:Nat,(u:Int)∈LW (vi n (sortP (Ij l))) g↔¬off (eN n es) (Js l) u/\∃w,Un (eN n es) (Js l) u w/\pe u w∈g:=fun u=>by
   rw[D,aR];constructor
   .rintro ⟨v, r, e, m, h2⟩
    obtain rfl:u=v:=QT;obtain⟨e,k,b⟩:=LM.1 h2;obtain⟨p,o,E⟩:=LM.1 m;refine⟨(R.offl hR).2 (R.wOn.1 ⟨p,o,by simpa[Mw]using E⟩),?_⟩;obtain⟨c,d,rfl,F,O⟩:=O0 hR (a.subset k);have I:((c:Int),(d:Int))=pe c d:=(SR F).symm;simp only[Mw,Z0,decide_eq_true_eq]at b;rcases b with b|b
    .obtain rfl : c = u := QT
     rw[I]at k;exact⟨d,un k,k⟩
    .obtain rfl : d = u := QT
     rw[I,Ug]at k;exact⟨c,un k,k⟩
   .rintro ⟨m, w, h2, h3⟩
    obtain⟨p,o,b⟩:=R.wOn.2 ((R.offl hR).1 m);refine⟨u,H.lt _ _ h2.1,rfl,LM.2 ⟨p,o,by simpa[Mw]using b⟩,LM.2 ⟨_,h3,?_⟩⟩;have:=(QZ (e:=pe u w) rfl u).2 (.inl rfl);simp only[Mw,Z0,decide_eq_true_eq];exact this.imp aab aab
  refine⟨T.ne g hg,a,fun v w h=>(un h).2,fun v w x y _ b h=>one b h,K,fun x b=>?_,?_,fun i=>?_,?_⟩
  .simp only at b
   rw[D,aR]at b;obtain⟨v,_,rfl,_⟩:=b;omega
  .simp only
   rw[D,aW,gY,UB];unfold Vh;exact(gY.1 (SJ.sublist F5)).imp fun h e=>h QT
  .simp only
   rw[y6];have M:(bk n es l L).K8.length=2:=rfl;rw[M];constructor
   .rintro ⟨m, h2⟩
    refine⟨?_,h2⟩;simp at m;omega
   .rintro ⟨m, h2⟩
    refine⟨?_,h2⟩;simp;omega
  .exact Em F5 YX
 .have C := un_in hR z
  obtain⟨g,hg,G⟩:=T.cov _ C fun q=>z.2 (R.mem.1 q);refine⟨⟨g,LW (vi n (sortP (Ij l))) g,fg [l,l.reverse] (LW (vi n (sortP (Ij l))) g) [0,1]⟩,?_,G⟩;show _∈(ql n es (sortP (Ij l)) L).map _;rw[s];exact T8.2 ⟨_,T8.2 ⟨g,hg,rfl⟩,rfl⟩
 .show ((ql n es (sortP (Ij l)) L).map _).Pairwise _
  rw[s,UB,UB];exact T.eX
 .show 2 + UX es (Js l) <= es.length + 2
  have:UX es (Js l)<=es.length:=ET _ _;omega
end
end Go.Fw
