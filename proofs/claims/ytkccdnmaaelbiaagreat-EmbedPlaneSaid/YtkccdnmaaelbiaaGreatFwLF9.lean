/- A text. -/
import Derived.Test.YtkccdnmaaelbiaaGreatFwLM1
set_option linter.all false
set_option maxRecDepth 99999
set_option maxHeartbeats 9999999
namespace Go.Fw
section
attribute [local instance] Classical.propDecidable
attribute [local irreducible] Ax YH XZ Uk KO KN KX KE VK DK Q7 dK W9
open Go.Proofs
variable {b0 h:AHeap} {i w:Nat} {rows:CA} {us:List Value}
def Rows.put {L:Nat} (R:Rows b0 h L us rows) (k:WF h) {u:Value} {r:LF} (j:us[w]?=some u) (l:rows[w]?=some r) (hi:i<r.length) (x:Int):
  ∃h',aStore Tryz.prog h 3 (.pointer (some (elemAddr u i))) (.int .i64 x)=some h'/\Rows b0 h' L us (rows.set w (r.set i x))/\WF h'/\(∀f,Le f h->tQ f u->Le f h')/\(∀b o,h.own b=some o->blk u≠some b->h'.own b=some o):=by
 obtain⟨h',e,g,wf,m,keep⟩:=GI.store (show GI h u r from R.gs w u r j l) k hi x;refine⟨h',e,⟨keep _ _ R.oL (R.nL w u j),by rw[qm];exact R.len,fun v a q ha d=>?_,R.nL,R.eX,R.ap,m _ R.le (R.ap w u j),R.bL⟩,wf,m,keep⟩;rw[v8]at d;by_cases c:w=v
 .subst c
  rw[if_pos rfl,if_pos (bH.1 l).1]at d;injection d with d;subst d;rw[j]at ha;injection ha with ha;subst ha;exact g
 .rw [if_neg c] at d
  refine(R.gs v a q ha d).kept fun b o hb n=>keep b o n fun AD=>R.eX w v u a b c j ha AD hb
def Tk (p:Ac) (v:Value) (xs:LF) (y:Int) (h:AHeap) (f:RL IJ h v xs) (w:xs.length<=100000):AC Tryz.prog p 141 [v,.int .i64 y] h fun x h'=>((x=.int .i64 (-1)/\y∉xs)\/∃i,∃hi:i<xs.length,x=.int .i64 (i:Nat)/\xs[i]=y/\∀j (b:j<i),xs[j]≠y)/\h'=h:=by
 refine AC.vE ⟨qS33,rfl,xr⟩ Tryz.ntmps141 Tryz.results141 fun q=>?_;simp only[xq,Nat.reduceAdd];have r:=fun g=>f.zw g;simp only[Ud,Nat.reduceLT,↓reduceIte,reduceCtorEq,r];refine W9.intro (fun k fr m=>∃i,k=xs.length-i/\i<=xs.length/\fr=mkF [(0,v),(1,.int .i64 y),(7,.int .i64 xs.length),(8,.int .i64 i)]/\m=h/\∀j (b:j<xs.length),j<i->xs[j]≠y)
  xs.length [(0,v),(1,.int .i64 y),(7,.int .i64 xs.length),(8,.int .i64 (0:Nat))] vy ⟨0,rfl,KW _,rfl,rfl,fun j _ b=>absurd b (kS _)⟩ ?_
 rintro k fr m s ⟨i,rfl,hi,rfl,rfl,d⟩;refine yq ?_;refine DK.intro (fun n=>?_) (fun hf=>?_)
 .have a : i < xs.length := Ub n
  clear n;have o:=f.qW i a;have ld:=f.HN i a;have hw:=Gm i QT;by_cases c:y=xs[i]
  .simp only [Ud, Nat.reduceLT, ↓reduceIte, Nat.reduceEqDiff, reduceCtorEq, o, ld, decide_eq_true c]
   exact⟨.inr ⟨i,a,rfl,c.symm,fun j b=>d j QT b⟩,trivial⟩
  .simp only [Ud, Nat.reduceLT, ↓reduceIte, Nat.reduceEqDiff, reduceCtorEq, o, ld, decide_eq_false c, hw]
   refine cX (xs.length-(i+1)) [(0,v),(1,.int .i64 y),(7,.int .i64 xs.length),(8,.int .i64 (i+1:Nat))] (dN a) vy ⟨i+1,rfl,a,rfl,rfl,fun j b l=>?_⟩;by_cases e:j=i
   .subst e;exact fun e=>c e.symm
   .exact d j b (x3 l e)
 .have t : xs.length <= i := Yv hf
  refine yq ?_;refine⟨.inl ⟨trivial,fun u=>?_⟩,trivial⟩;obtain⟨j,b,e⟩:=iV.1 u;exact d j b QT e
def Xk (b:Ac) (v:Value) (xs:LF) (y:Int) (h:AHeap) (c:RL IJ h v xs) (e:xs.length<=100000):AC Tryz.prog b 101 [v,.int .i64 y] h fun x h'=>x=.bool (decide (y∈xs))/\h'=h:=by
 refine AC.vE ⟨Tryz.func101,rfl,xr⟩ Tryz.ntmps101 Tryz.results101 fun f=>?_;simp only[xq,Nat.reduceAdd];refine yq ?_;refine dK.intro pK ⟨qS33,rfl,xr⟩ (Tk b v xs y h c e) ?_;rintro x h2 j ⟨⟨rfl,a⟩|⟨i,hi,rfl,a,-⟩,rfl⟩
 .have d : decide ((-1 : Int) >= 0) = false := by decide
  simp only[Ud,Nat.reduceLT,↓reduceIte,d,decide_eq_false a];exact⟨trivial,trivial⟩
 .have d : decide ((i : Int) >= 0) = true := by simp
  have g:y∈xs:=a▸om hi;simp only[Ud,Nat.reduceLT,↓reduceIte,d,decide_eq_true g];exact⟨trivial,trivial⟩
end
section
open Go.Proofs
variable {es:List Pr} {n:Nat} {rs:CA}
attribute [local instance] Classical.propDecidable in
theorem um {n:Nat} {es:List Pr} {rs:CA} (i:I7 n es) (ha:BD es) (G:Kk n es rs) (o:0<n) (m:∀v,v<n->Xb es 0 v):
  ZX n es rs↔(0<es.length->n+(dg n rs).length=es.length+2):=by
 have all:∀a,a<n->Q5 es es a=es.length/\(sH n es a).length=n/\Ng es (dg n rs) a=(dg n rs).length:=fun a j=>by
  have c:∀v,v<n->Xb es a v:=fun v d=>(m a j).symm.trans (m v d);refine⟨?_,?_,?_⟩
  .unfold Q5 Pu
   rw[JG.2];intro e p;have h:=i e p;exact decide_eq_true (c _ QT)
  .unfold sH
   rw[JG.2 (fun v d=>decide_eq_true (c v (vq.1 d)))];simp
  .unfold Ng Pu
   rw[JG.2];intro f hf;obtain⟨_,v,d,e⟩:=M0 i ha G hf;exact decide_eq_true (c _ (by rw[e];simpa using d))
 constructor
 .intro H q
  obtain⟨a,b,_⟩:=zh i 0 o;obtain⟨g,k,l⟩:=all a (jS.1 b).1;have:=H a b (by rw[g];exact q);rw[g,k,l]at this;exact this
 .intro H a b
  obtain⟨g,k,l⟩:=all a (jS.1 b).1;rw[g,k,l];exact H
def Dn (h:rs.length=n) (d:(List.range n).all (fun v=>(rs.getD v []).isPerm ((Oc n es).getD v []))=true):Kk n es rs:=
 ⟨h,fun v a=>List.isPerm_iff.1 (jE.1 d v (vq.2 a))⟩
def jq (a:xO ⟨(n:Int),es⟩) (G:Kk n es rs) {hs:List (JE×Nat)} (C:Cert n (Yg rs) hs):dg n rs=hs.map fun p=>(List.range p.2).map fun j=>(((it (Mo (Yg rs)) j p.1).1:Nat):Int):=by
 rw[dg,Cv (G.Tw a.si a.Fx) C,UD];refine vG fun p _=>?_;simp only[Function.comp,aW,UD];rfl
instance (n:Nat) (r:Nat->wi) (hs:List (JE×Nat)):Decidable (Cert n r hs):=by unfold Cert;infer_instance
end
section
attribute [local irreducible] dg ZX
open Go.Proofs
def mkP6 (h:AHeap) (a b c d e f:Pr):aBuildSlice Tryz.prog h 22 6 [(0,Ov a),(1,Ov b),(2,Ov c),(3,Ov d),(4,Ov e),(5,Ov f)]=some (.slice (some ⟨h.next,0,none⟩) 6 6,h.alloc (.cells (Mf [a,b,c,d,e,f]))):=zd
end
end Go.Fw
namespace Go.Fw
open Go.Proofs Go.ChangeShapes Go.WideShapes Go.RowKit
section
variable {H : Type} {enc : TypeId × Value → H} {W : World}
def XQ {v:Value} {d:DataW H} {ps:List MemPlace} {b0:Nat} (b:Value.okWide Tryz.prog W .any b0 28 v) (h:DataW.Trod enc Tryz.prog W 0 (fun _=>true) true 28 v d ps) (m:Ti):
  ∃u xs,VR 0 m u v/\RL (RL IJ) (Nj W) u xs:=by
 obtain⟨fuel,h⟩:=h;obtain⟨a,len,cap,rfl⟩:=okWide_slice Xx b;obtain⟨g,r,R,c,e,f⟩:=mU Xx zd (mU Rm zd (rd_i64 Ik)) _ _ _ h;simp[Value.cells]at c;subst c;exact⟨r,R,VR.OA e,f⟩
end
end Go.Fw
namespace Go.Fw
attribute [local instance] Classical.propDecidable
def It {α:Type} {p q:α->Bool}:∀(l:List α),(∀v∈l,p v=true\/q v=true)->(l.filter p).length+(l.filter q).length=l.length+(l.filter fun v=>p v&&q v).length
 |[],_=>rfl
 |x::l,h=>by
  have c:=It l fun v b=>h v (Gs _ b);have d:=h x jR;simp only[UR];cases c1:p x<;>cases c2:q x<;>simp_all<;>omega
def xB {P:Nat->Nat->Prop} {r:Nat->wi} {v:Nat} (h:∀w∈r v,P v w):Ps P r v=r v:=by
 rw[Ps,JG];intro w hw;simpa using h w hw
def Yc {n:Nat} {s:Nat->wi} (S:ZJ n s) {l:List Pr} (nd:l.Nodup) (c:I7 n l) (h:∀v w,w∈s v↔xA l v w):(dl n s).length=2*l.length:=by
 have key:∀l:List Pr,(l.flatMap fun p=>[(p.1.toNat,p.2.toNat),(p.2.toNat,p.1.toNat)]).length=2*l.length:=by
  intro l
  induction l with
  |nil=>rfl
  |cons p l k=>rw[Tx,Vw,k];simp;omega
 rw[<-key l];refine(wI (Pe S) ?_ fun d=>?_).length_eq
 .rw [gY, dJ]
  refine⟨fun p b=>?_,?_⟩
  .have := c p b
   simp only[jO,Rb,forall_eq,RF,false_implies,implies_true,List.Pairwise.nil,and_true];intro e;injection e with m o;omega
  .rw [gY] at nd
   refine iF (fun{p q} b r f=>?_) nd;have t:=c p b;have h2:=c q r;have g:p.1≠q.1\/p.2≠q.2:=mS fun u=>f (X9 QT QT);intro x i y j e;subst e;simp only[aH,RF,or_false]at i j;rcases i with rfl|rfl<;>rcases j with e|e<;>(injection e with m o;omega)
 .rw [ZE S, h, H0]
  obtain⟨v,w⟩:=d;simp only[xA,aH,RF,or_false,Ig];constructor
  .rintro (h | h)
   .exact⟨_,h,.inl ⟨YX,YX⟩⟩
   .exact⟨_,h,.inr ⟨YX,YX⟩⟩
  .rintro ⟨p, b, ⟨rfl, rfl⟩ | ⟨rfl, rfl⟩⟩
   .have := c p b
    left;rw[vC QT,vC QT];exact b
   .have := c p b
    right;rw[vC QT,vC QT];exact b
section
variable {n : Nat} {es : List Pr} {rs : List (List Int)} {a : Nat}
def SA (E:I7 n es) (ha:BD es) (G:Kk n es rs) (U:a∈Ju n es) (P:0<Q5 es es a):∃g,(sH n es a).length+Ng es (dg n rs) a+2*g=Q5 es es a+2:=by
 obtain⟨o,t⟩:=jS.1 U;have R:=G.Tw E ha;generalize u:Yg rs=r at R;have j:∀v w,w∈r v↔xA es v w:=fun v w=>by rw[<-u];exact G.mem E
 have S:ZJ n (Ps (fun v w=>Xb es a v/\Xb es a w) r):=Jt R fun v w h=>⟨h.2,h.1⟩;generalize hs:Ps (fun v w=>Xb es a v/\Xb es a w) r=s at S;have i:∀v w,w∈s v↔xA es v w/\Xb es a v:=fun v w=>by
  rw[<-hs,Bk,j];exact⟨fun h=>⟨h.1,h.2.1⟩,fun h=>⟨h.1,h.2,h.2.step h.1 rfl⟩⟩
 have row:∀v,Xb es a v->s v=r v:=fun v z=>by
  rw[<-hs];exact xB fun w hw=>⟨z,z.step ((j v w).1 hw) rfl⟩
 have A:∀v y,Cr s v y->v=y\/(Xb es a v/\Xb es a y):=fun v y h=>by
  induction h with
  |refl=>exact .inl rfl
  |@step b c _ V B=>
   obtain⟨f,h2⟩:=(i _ _).1 V;right;rcases B with rfl|⟨h3,_⟩
   .exact⟨h2,h2.step f rfl⟩
   .exact⟨h3,h2.step f rfl⟩
 have F:∀y,Xb es a y->Cr s a y:=fun y h=>by
  induction h with
  |refl=>exact .refl _
  |step f h2 _ B=>exact B.step ((i _ _).2 ⟨h2,f⟩)
 have W:KR n s+(sH n es a).length=n+1:=by
  have H:KR n s=((List.range n).filter fun v=>decide (v=a\/¬Xb es a v)).length:=by
   rw[KR,ln (fw _).symm (Cr.eqv S _),VY (lt:=fun a b=>a<b) (fun a b h g=>absurd h (Nat.lt_asymm g)) _ _ rfl (vS n)];congr 1;refine SD fun v z=>?_;rw[decide_eq_decide];constructor
   .intro h
    by_cases c:Xb es a v
    .left
     have f:¬a<v:=h a (vq.2 o) ((F v c).symm S);have h2:¬v<a:=fun q=>t v q c.symm;omega
    .exact .inr c
   .rintro (rfl | c) y _ Q
    .rcases A _ _ Q with rfl | ⟨_, h2⟩
     .exact aaz _
     .exact fun q=>t y q h2.symm
    .rcases A _ _ Q with rfl | ⟨f, _⟩
     .exact aaz _
     .exact absurd f c
  have C:=It (p:=fun v=>decide (v=a\/¬Xb es a v)) (q:=fun v=>decide (Xb es a v)) (List.range n) fun v _=>by
   simp only[decide_eq_true_eq];by_cases c:Xb es a v
   .exact .inr c
   .exact .inl (.inr c)
  have I:((List.range n).filter fun v=>decide (v=a\/¬Xb es a v)&&decide (Xb es a v)).length=1:=by
   refine pI ?_ (x:=a) ?_ ?_
   .exact SJ.sublist F5
   .rw [sX, vq, SH, decide_eq_true_eq, decide_eq_true_eq]
    exact⟨o,.inl rfl,Xb.refl es a⟩
   .intro b hb
    rw[sX,SH,decide_eq_true_eq,decide_eq_true_eq]at hb;rcases hb.2.1 with h|h
    .exact h
    .exact absurd hb.2.2 h
  rw[H];unfold sH;rw[I,xw]at C;exact C
 have nb:∀v,Xb es a v->∃w,xA es v w:=fun v z=>by
  unfold Q5 Pu at P;obtain⟨e,l⟩:=yX P;rw[sX,decide_eq_true_eq]at l;have X:=E e l.1;by_cases c:v=e.1.toNat
  .refine ⟨e.2.toNat, .inl ?_⟩
   rw[c,vC QT,vC QT];exact l.1
  .exact(mZ (z.symm.trans l.2) c).1
 have T:((List.range n).filter fun v=>decide (s v=[])).length+(sH n es a).length=n:=by
  have C:=It (p:=fun v=>decide (s v=[])) (q:=fun v=>decide (Xb es a v)) (List.range n) fun v _=>by
   simp only[decide_eq_true_eq];by_cases c:Xb es a v
   .exact .inr c
   .left
    rw[Zl];exact fun w hw=>c ((i _ _).1 hw).2
  have I:((List.range n).filter fun v=>decide (s v=[])&&decide (Xb es a v))=[]:=by
   rw[Iw];intro v _;rw[SH,decide_eq_true_eq,decide_eq_true_eq];rintro⟨f,h2⟩;obtain⟨w,hw⟩:=nb v h2;have:=(i v w).2 ⟨hw,h2⟩;rw[f]at this;cases this
  rw[I,xw]at C;unfold sH;simpa using C
 have J:(dl n s).length=2*Q5 es es a:=by
  unfold Q5 Pu;refine Yc S (ha.nodup.sublist F5) (fun p Y=>E p (sX.1 Y).1) fun v w=>?_;rw[i];simp only[xA,sX,decide_eq_true_eq,TK];constructor
  .rintro ⟨f | f, h2⟩
   .exact .inl ⟨f,h2⟩
   .exact .inr ⟨f,h2.step (.inr f) rfl⟩
  .rintro (⟨f, h2⟩ | ⟨f, h2⟩)
   .exact⟨.inl f,h2⟩
   .exact⟨.inr f,h2.step (.inl f) rfl⟩
 have p:=TL R;have q:=TL S;have K:∀d:JE,Xb es a d.2->Mo s d=Mo r d:=fun d m=>by
  show(d.2,nx (s d.2) d.1)=(d.2,nx (r d.2) d.1);rw[row _ m]
 have L:∀d:JE,d.2∈s d.1->Xb es a d.2:=fun d m=>by
  obtain⟨f,h2⟩:=(i _ _).1 m;exact h2.step f rfl
 have D:∀(k:Nat) (d:JE),d.2∈s d.1->it (Mo s) k d=it (Mo r) k d:=fun k d m=>by
  induction k with
  |zero=>rfl
  |succ k B=>
   show Mo s (it (Mo s) k d)=Mo r (it (Mo r) k d);have M:=q.F4 ((ZE S).2 m) k;rw[<-B,K _ (L _ ((ZE S).1 M))]
 have N:Ng es (dg n rs) a=(kZ n s).length:=by
  have H:kZ n s=(kZ n r).filter fun d=>decide (Xb es a d.1):=by
   refine Ej D3 (fun _ _ _=>TF) _ _ ((cO n s).filter _) (((cO n r).filter _).filter _) fun d=>?_;rw[sX,decide_eq_true_eq];show d∈kZ n s↔d∈kZ n r/\_;rw[MN S,MN R,i,j];constructor
   .rintro ⟨⟨f, h2⟩, h3⟩
    refine⟨⟨f,?_⟩,h2⟩;rintro e ⟨k,rfl⟩;rw[<-D k d ((i _ _).2 ⟨f,h2⟩)];exact h3 _ ⟨k,rfl⟩
   .rintro ⟨⟨f, h3⟩, h2⟩
    refine⟨⟨f,h2⟩,?_⟩;rintro e ⟨k,rfl⟩;rw[D k d ((i _ _).2 ⟨f,h2⟩)];exact h3 _ ⟨k,rfl⟩
  rw[H,Ng,Pu,dg,u,WW,UD,List.filter_map,yA];congr 1;refine SD fun(d:JE) m=>?_;have O:=((MN R).1 m).1;simp only[Function.comp];rw[decide_eq_decide,(XF R ((ZE R).2 O)).1,TK]
 obtain⟨g,hg⟩:=cU S;rw[Zz,<-cq S,<-N,J]at hg;exact⟨g,QT⟩
end
end Go.Fw
namespace Go.Fw
attribute [local instance] Classical.propDecidable
def X7 {P:Nat->Prop}:∀(hs:wi),hs.Nodup->(∃a∈hs,P a)->(∀a∈hs,∀b∈hs,P a->P b->a=b)->(hs.map fun a=>if P a then 1 else 0).sum=1
 |[],_,h,_=>by obtain⟨a,ha,_⟩:=h;cases ha
 |x::hs,nd,h,u=>by
  rw[tS]at nd;rw[Kj,Lh];by_cases c:P x
  .have z : ∀ a ∈ hs, ¬ P a := fun a ha d => nd.1 (by rw [u x jR a (Gs _ ha) c d]; exact ha)
   have:∀l:wi,(∀a∈l,¬P a)->(l.map fun a=>if P a then 1 else 0).sum=0:=by
    intro l
    induction l with
    |nil=>intro _;rfl
    |cons y l f=>intro e;rw[Kj,Lh,if_neg (e y jR),f fun a ha=>e a (Gs _ ha)]
   rw[if_pos c,this hs z]
  .rw [if_neg c, X7 hs nd.2 ?_ fun a ha b hb => u a (Gs _ ha) b (Gs _ hb)]
   obtain⟨a,ha,d⟩:=h;rcases aH.1 ha with rfl|ha
   .exact absurd d c
   .exact⟨a,ha,d⟩
def AV (f g:Nat->Nat):∀l:wi,(l.map fun a=>f a+g a).sum=(l.map f).sum+(l.map g).sum
 |[]=>rfl
 |x::l=>by simp only[Kj,Lh,AV f g l];omega
def RB {α:Type} {P:Nat->α->Prop} {hs:wi} (nd:hs.Nodup):∀(l:List α),(∀e∈l,∃a∈hs,P a e)->(∀e∈l,∀a∈hs,∀b∈hs,P a e->P b e->a=b)->(hs.map fun a=>Pu P l a).sum=l.length
 |[],_,_=>by
  have:∀l:wi,(l.map fun a=>Pu P ([]:List α) a).sum=0:=by
   intro l
   induction l with
   |nil=>rfl
   |cons x l d=>rw[Kj,Lh,d];rfl
  exact this hs
 |e::l,h,u=>by
  have d:=RB nd l (fun x f=>h x (Gs _ f)) fun x f=>u x (Gs _ f)
  have g:∀a,Pu P (e::l) a=(if P a e then 1 else 0)+Pu P l a:=fun a=>by
   unfold Pu;by_cases c:P a e
   .rw[fC (by simpa using c),if_pos c,jD];omega
   .rw[V4 (by simpa using c),if_neg c];omega
  simp only[g];rw[AV,d,X7 (P:=fun a=>P a e) hs nd (h e jR) (u e jR),jD];omega
def tL (l:wi) (p:Nat->Prop) [DecidablePred p]:(l.map fun a=>if p a then 1 else 0).sum=(l.filter fun a=>decide (p a)).length:=by
 induction l with
 |nil=>rfl
 |cons x l b=>
  rw[Kj,Lh,b];by_cases c:p x
  .rw[if_pos c,fC (by simpa using c),jD];omega
  .rw[if_neg c,V4 (by simpa using c)];omega
section
variable {n : Nat} {es : List Pr} {rs : List (List Int)}
def Qc (c:I7 n es) {v:Nat} (d:v<n):(∃a∈Ju n es,Xb es a v)/\∀a∈Ju n es,∀b∈Ju n es,Xb es a v->Xb es b v->a=b:=
 ⟨zh c v d,fun _ ha _ hb e h2=>wW ha hb (e.trans h2.symm)⟩
def UP (c:I7 n es):((Ju n es).map fun a=>(sH n es a).length).sum=n:=by
 have:=RB (P:=fun a v=>Xb es a v) (xk n es) (List.range n) (fun v b=>(Qc c (vq.1 b)).1) fun v b=>(Qc c (vq.1 b)).2;rw[xw]at this;unfold Pu at this;unfold sH;exact this
def BJ (c:I7 n es):((Ju n es).map fun a=>Q5 es es a).sum=es.length:=by
 have d:∀e∈es,e.1.toNat<n:=fun e b=>by have:=c e b;omega
 unfold Q5;exact RB (xk n es) es (fun e b=>(Qc c (d e b)).1) fun e b=>(Qc c (d e b)).2
def Pj (c:I7 n es) (ha:BD es) (G:Kk n es rs):((Ju n es).map fun a=>Ng es (dg n rs) a).sum=(dg n rs).length:=by
 have b:∀f∈dg n rs,(f.headD 0).toNat<n:=fun f hf=>by obtain⟨_,v,b,e⟩:=M0 c ha G hf;rw[e];simpa using b
 unfold Ng;exact RB (xk n es) (dg n rs) (fun e d=>(Qc c (b e d)).1) fun e d=>(Qc c (b e d)).2
def aC (k:I7 n es) {a:Nat} (d:a<n):0<Q5 es es a↔1<(sH n es a).length:=by
 have nd:(sH n es a).Nodup:=by unfold sH;exact SJ.sublist F5
 constructor
 .intro h
  unfold Q5 Pu at h;obtain⟨e,b⟩:=yX h;rw[sX,decide_eq_true_eq]at b;have l:=k e b.1;have h2:Xb es a e.2.toNat:=b.2.step (.inl (by rw[vC QT,vC QT];exact b.1)) rfl;have:=Jz (A:=[e.1.toNat,e.2.toNat]) (B:=sH n es a) (by simp;omega) fun x j=>by
   simp only[aH,RF,or_false]at j;rcases j with rfl|rfl
   .exact gD.2 ⟨QT,b.2⟩
   .exact gD.2 ⟨QT,h2⟩
  simp only[jD,Lz]at this;omega
 .intro h
  have:∃v∈sH n es a,v≠a:=mS fun f=>by
   have c:∀v∈sH n es a,v=a:=fun v g=>mS fun q=>f ⟨v,g,q⟩;have:=pI nd (gD.2 ⟨d,Xb.refl es a⟩) c;omega
  obtain⟨v,g,i⟩:=this;obtain⟨w,hw⟩:=(mZ (gD.1 g).2 (Hn i)).1;unfold Q5 Pu;have:∃e∈es,Xb es a e.1.toNat:=by
   rcases hw with hw|hw
   .exact⟨_,hw,by simpa using Xb.refl es a⟩
   .exact⟨_,hw,by simpa using NZ (.inr hw)⟩
  obtain⟨e,b,f⟩:=this;exact TR (sX.2 ⟨b,by simpa using f⟩)
end
end Go.Fw
namespace Go.Fw
section
attribute [local instance] Classical.propDecidable
attribute [local irreducible] Ax YH XZ Uk KO KN KX KE VK DK Q7 dK W9
open Go.Proofs
def fF (g:Ac) (v:Value) (xs:LF) (h:AHeap) (e:RL IJ h v xs) (t:xs.length<=100000):AC Tryz.prog g 93 [v] h fun x h'=>GI h' x xs/\Le h h'/\tQ h x:=by
 obtain⟨a,c,rfl,hs⟩:=e.sl;refine AC.vE ⟨dC,rfl,xr⟩ Tryz.ntmps93 Tryz.results93 fun d=>?_;simp only[xq,Nat.reduceAdd];cases a with
 |none=>
  have i:xs=[]:=by
   cases xs with
   |nil=>rfl
   |cons x l=>exact absurd (hs YX) YX
  subst i;simp only[Ud,Nat.reduceLT,↓reduceIte,reduceCtorEq,aEq,Rm,Option.isNone_none];exact⟨GI.nil _,Le.refl _,fun b hb=>by simp[blk]at hb⟩
 |some a=>
  obtain⟨f,j,l1,w1,k⟩:=mV d []
  have mk:aBuildSlice Tryz.prog h 49 0 []=some (.slice (some ⟨h.next,0,none⟩) 0 0,f):=by rw[<-j];rfl
  have m:h.own h.next=none:=(Le.refl h).next d (J4 _)
  have n:GI f (.slice (some ⟨h.next,0,none⟩) 0 0) []:=GS.full k rfl xr
  have o:tQ h (.slice (some ⟨h.next,0,none⟩) 0 0):=fun b hb=>by injection hb with hb;subst hb;exact m
  obtain⟨u,w,p,q,y,r,-⟩:=GI.join n w1 (e.le Rr.IJ l1) (by simp;omega);obtain⟨l6,s⟩:=r h l1 o;simp only[Ud,Nat.reduceLT,↓reduceIte,Nat.reduceEqDiff,reduceCtorEq,aEq,Rm,bN,mk,p];exact⟨by simpa using q,l6,s⟩
end
section
attribute [local instance] Classical.propDecidable
open Go.Proofs
variable {i:Nat} {xs ys:LF}
def cJ (xs ys:LF) (i:Nat):Prop:=ys.length=xs.length/\∀p,p<xs.length->ys[p]?=if p<i\/xs.length-i<=p then xs[xs.length-1-p]? else xs[p]?
def cJ.zero (xs:LF):cJ xs xs 0:=⟨rfl,fun p a=>by rw[if_neg QT]⟩
def cJ.fin (R:cJ xs ys i) (h:xs.length<=2*i+1):ys=xs.reverse:=by
 apply Lc;intro p;by_cases a:p<xs.length
 .rw [R.2 p a, kH a]
  split
  .rfl
  .congr 1;omega
 .rw[Tz (by rw[R.1];omega),Tz (by rw[UC];omega)]
def cJ.step {xs ys:LF} {i:Nat} (R:cJ xs ys i) (h:2*i+1<xs.length) (a:i<ys.length) (h2:xs.length-1-i<ys.length):
  cJ xs ((ys.set i ys[xs.length-1-i]).set (xs.length-1-i) ys[i]) (i+1):=by
 refine⟨by simp[R.1],fun p e=>?_⟩;have b:ys[xs.length-1-i]?=xs[xs.length-1-i]?:=by rw[R.2 _ QT,if_neg QT]
 have c:ys[i]?=xs[i]?:=by rw[R.2 _ QT,if_neg QT]
 rw[dR h2]at b;rw[dR a]at c;by_cases c1:p=xs.length-1-i
 .subst c1
  rw[XC (by simp;omega),if_pos QT,c];congr 1;omega
 .rw [Zw (Hn c1)]
  by_cases c2:p=i
  .subst c2
   rw[XC a,if_pos QT,b]
  .rw [Zw (Hn c2), R.2 p e]
   by_cases d:p<i\/xs.length-i<=p
   .rw[if_pos d,if_pos QT]
   .rw[if_neg d,if_neg QT]
end
section
attribute [local instance] Classical.propDecidable
attribute [local irreducible] Ax YH XZ Uk KO KN KX KE VK DK Q7 dK W9
open Go.Proofs
def Jg (y:Ac) (u:Value) (xs:LF) (h:AHeap) (g:GI h u xs) (L:xs.length<=100000):
  AC Tryz.prog y 94 [u] h fun _ h'=>GI h' u xs.reverse/\(∀f,Le f h->tQ f u->Le f h')/\∀b o,h.own b=some o->blk u≠some b->h'.own b=some o:=by
 refine AC.vE ⟨bU,rfl,xr⟩ Tryz.ntmps94 Tryz.results94 fun z=>?_;simp only[xq,Nat.reduceAdd];have lu:=fun A=>(GI.rl g).zw A;have B:awrap .i64 ((xs.length:Int)-1)=(xs.length:Int)-1-((0:Nat):Int):=by rw[GQ _ QT QT];omega
 simp only[Ud,Nat.reduceLT,↓reduceIte,Nat.reduceEqDiff,lu,B];refine W9.intro (fun k fr j=>∃(i:Nat) (ys:LF),k=xs.length-i/\2*i<=xs.length/\fr=mkF [(0,u),(2,.int .i64 i),(3,.int .i64 ((xs.length:Int)-1-(i:Int)))]/\cJ xs ys i/\GI j u ys/\(∀f,Le f h->tQ f u->Le f j)/\∀b o,h.own b=some o->blk u≠some b->j.own b=some o)
  xs.length [(0,u),(2,.int .i64 (0:Nat)),(3,.int .i64 ((xs.length:Int)-1-((0:Nat):Int)))] vy
  ⟨0,xs,rfl,KW _,rfl,cJ.zero xs,g,fun f n _=>n,fun b o hb _=>hb⟩ ?_
 rintro k fr j p ⟨i,ys,rfl,hi,rfl,R,q,w,x⟩;by_cases c:2*i+1<xs.length
 .have d : decide ((i : Int) < (xs.length : Int) - 1 - (i : Int)) = true := decide_eq_true QT
  have C:(xs.length:Int)-1-(i:Int)=((xs.length-1-i:Nat):Int):=QT;have l:i<ys.length:=by rw[R.1];omega
  have h2:xs.length-1-i<ys.length:=by rw[R.1];omega
  have m:=GI.rl q;have r:=m.qW i l;have e:=m.qW _ h2;have ld1:=m.HN i l;have s:=m.HN _ h2;obtain⟨M,D,E,F,l5,G⟩:=GI.store q p l ys[xs.length-1-i];obtain⟨N,H,I,O,l6,J⟩:=GI.store E F (i:=xs.length-1-i) (by rw[qm];exact h2) ys[i];have K:=R.step c l h2;have t:=Gm i QT;have v:awrap .i64 ((xs.length:Int)-1-(i:Int)-1)=(xs.length:Int)-1-((i+1:Nat):Int):=by rw[GQ _ QT QT];omega
  rw[<-C]at e;simp only[Ud,Nat.reduceLT,↓reduceIte,Nat.reduceEqDiff,reduceCtorEq,d];refine rD (vu [0,1,2,3,4,5,6,7,8,9,10,11,12] (PO 13 [0,1,4,5,6,7,11,12] (vu [14] (PO 15 [0,1,2,3,4,5,6,7,8,9,10,11,12,13,14] .done)))) ?_;simp only[Ud,Nat.reduceLT,↓reduceIte,Nat.reduceEqDiff,reduceCtorEq,Nat.reduceBEq,rm,r,e,ld1,s,D,H,t,v];exact cX (xs.length-(i+1)) [(0,u),(2,.int .i64 (i+1:Nat)),(3,.int .i64 ((xs.length:Int)-1-((i+1:Nat):Int)))] (dN QT) vy
   ⟨i+1,_,rfl,QT,rfl,K,I,fun f n af=>l6 f (l5 f (w f n af) af) af,fun b o hb a=>J b o (G b o (x b o hb a) a) a⟩
 .have d : decide ((i : Int) < (xs.length : Int) - 1 - (i : Int)) = false := decide_eq_false QT
  simp only[Ud,Nat.reduceLT,↓reduceIte,Nat.reduceEqDiff,reduceCtorEq,d];obtain rfl:=R.fin QT;exact⟨q,w,x⟩
end
end Go.Fw
namespace Go.Fw
open Go.Proofs
attribute [local instance] Classical.propDecidable
section
variable {n : Nat} {es : List Pr} {rs : List (List Int)}
def H6 (d:I7 n es) (G:Kk n es rs) {a b:Nat}:Cr (Yg rs) a b↔Xb es a b:=by
 constructor
 .intro h
  induction h with
  |refl=>exact Xb.refl es a
  |step _ e c=>exact c.step ((G.mem d).1 e) rfl
 .intro h
  induction h with
  |refl _=>exact .refl _
  |step _ h2 _ c=>exact c.step ((G.mem d).2 h2)
def Um (c:I7 n es) (ha:BD es) (G:Kk n es rs):KR n (Yg rs)=(Ju n es).length:=by
 have R:=G.Tw c ha;rw[KR,ln (fw _).symm (Cr.eqv R _),VY (lt:=fun a b=>a<b) (fun a b h g=>absurd h (Nat.lt_asymm g)) _ _ rfl (vS n),Ju];congr 1;refine SD fun v f=>?_;rw[decide_eq_decide];rw[vq]at f;constructor
 .intro h u d e
  exact h u (vq.2 QT) ((H6 c G).2 e.symm) d
 .intro h u _ e d
  exact h u d ((H6 c G).1 e).symm
def XT (f:I7 n es) (ha:BD es) (G:Kk n es rs):((List.range n).filter fun v=>decide (Yg rs v=[])).length=((Ju n es).filter fun a=>decide (Q5 es es a=0)).length:=by
 refine(wI (SJ.sublist F5) ((xk n es).sublist F5) fun v=>?_).length_eq;rw[sX,sX,vq,jS,decide_eq_true_eq,decide_eq_true_eq];constructor
 .rintro ⟨b, k⟩
  have g:∀w,¬xA es v w:=fun w hw=>by
   have:=(G.mem f).2 hw;rw[k]at this;cases this
  have d:∀u,Xb es v u->u=v:=fun u l=>mS fun i=>by
   obtain⟨w,hw⟩:=(mZ l (Hn i)).1;exact g w hw
  refine⟨⟨b,fun u l j=>?_⟩,?_⟩
  .have:=d u j.symm;omega
  .refine qL241 fun m => ?_
   have q:=(aC f b).1 m;have h2:(sH n es v).length=1:=pI (by unfold sH;exact SJ.sublist F5) (x:=v) (gD.2 ⟨b,Xb.refl es v⟩) fun y o=>d y (gD.1 o).2;omega
 .rintro ⟨⟨b, _⟩, k⟩
  refine⟨b,Zl.2 fun w hw=>?_⟩;have c:=(G.mem f).1 hw;have:∃e∈es,Xb es v e.1.toNat:=by
   rcases c with h|h
   .exact⟨_,h,by simpa using Xb.refl es v⟩
   .exact⟨_,h,by simpa using NZ (.inr h)⟩
  obtain⟨e,p,d⟩:=this;have:0<Q5 es es v:=by
   unfold Q5 Pu;exact TR (sX.2 ⟨p,by simpa using d⟩)
  omega
def mM {l:wi} (h:l.length=1) {x y:Nat} (a:x∈l) (b:y∈l):x=y:=by
 match l,h with
 |[z],_=>rw[Rb]at a b;rw[a,b]
def sumz:∀(l:wi) (f:Nat->Nat),(l.map f).sum=0↔∀a∈l,f a=0
 |[],f=>by simp
 |a::l,f=>by
  rw[Kj,Lh];have c:=sumz l f;constructor
  .intro h b hb
   rcases aH.1 hb with rfl|hb
   .omega
   .exact c.1 QT b hb
  .intro h
   have d:=h a jR;have h2:=c.2 fun b hb=>h b (Gs _ hb);omega
def JC (f g:Nat->Nat):∀l:wi,(∀a∈l,f a=g a)->(l.map f).sum=(l.map g).sum
 |[],_=>rfl
 |a::l,h=>by
  rw[Kj,Kj,Lh,Lh,h a jR,JC f g l fun b hb=>h b (Gs _ hb)]
def BQ (i:I7 n es) (ha:BD es) (G:Kk n es rs):ZX n es rs↔Flat n (Yg rs):=by
 have R:=G.Tw i ha
 have key:∀a,a∈Ju n es->∃g,(sH n es a).length+(Ng es (dg n rs) a+if Q5 es es a=0 then 1 else 0)+2*g=Q5 es es a+2/\(g=0↔(0<Q5 es es a->(sH n es a).length+Ng es (dg n rs) a=Q5 es es a+2)):=fun a b=>by
  by_cases c:0<Q5 es es a
  .obtain ⟨g, hg⟩ := SA i ha G b c
   refine⟨g,?_,?_⟩
   .rw[if_neg QT];omega
   .constructor
    .intro h _;omega
    .intro h;have:=h c;omega
  .refine ⟨0, ?_, by constructor <;> intro <;> omega⟩
   have x:Q5 es es a=0:=QT;rw[if_pos x,x];have C:¬1<(sH n es a).length:=fun q=>c ((aC i (jS.1 b).1).2 q);have h2:0<(sH n es a).length:=TR (gD.2 ⟨(jS.1 b).1,Xb.refl es a⟩);have h3:Ng es (dg n rs) a=0:=by
    refine qL241 fun y=>?_;unfold Ng Pu at y;obtain⟨f,hf⟩:=yX y;rw[sX,decide_eq_true_eq]at hf;obtain⟨o,j⟩:=hf;unfold dg at o;obtain⟨D,p,rfl⟩:=T8.1 o;rw[WW,T8]at p;obtain⟨d,z,rfl⟩:=p;have k:=((MN R).1 z).1;rw[(XF R ((ZE R).2 k)).1,TK]at j;have m:=(G.mem i).1 k;have:d.2=d.1:=by
     have e:(sH n es a).length=1:=QT;exact mM e (gD.2 ⟨Xb.lt i (show Xb es a d.2 from j.step m rfl) (jS.1 b).1,j.step m rfl⟩) (gD.2 ⟨j.lt i (jS.1 b).1,j⟩)
    rw[this]at k;exact R.ir _ k
   omega
 obtain⟨g,hg⟩:=OT (r:=fun a g=>a∈Ju n es->(sH n es a).length+(Ng es (dg n rs) a+if Q5 es es a=0 then 1 else 0)+2*g=Q5 es es a+2/\(g=0↔(0<Q5 es es a->(sH n es a).length+Ng es (dg n rs) a=Q5 es es a+2))) fun a=>by
  by_cases b:a∈Ju n es
  .obtain⟨g,h⟩:=key a b;exact⟨g,fun _=>h⟩
  .exact⟨0,fun h=>absurd h b⟩
 have S:=JC _ _ (Ju n es) fun a b=>(hg a b).1
 rw[AV (fun a=>(sH n es a).length+(Ng es (dg n rs) a+if Q5 es es a=0 then 1 else 0)),AV (fun a=>(sH n es a).length),AV (fun a=>Ng es (dg n rs) a),AV (fun a=>Q5 es es a) (fun _=>2),UP i,BJ i,Pj i ha G,tL]at S
 have A:((Ju n es).map fun _=>2).sum=2*(Ju n es).length:=by
  have:∀l:wi,(l.map fun _=>2).sum=2*l.length:=fun l=>by
   induction l with
   |nil=>rfl
   |cons a l s=>rw[Kj,Lh,s,jD];omega
  exact this _
 have B:((Ju n es).map fun a=>2*g a).sum=2*((Ju n es).map g).sum:=by
  have:∀l:wi,(l.map fun a=>2*g a).sum=2*(l.map g).sum:=fun l=>by
   induction l with
   |nil=>rfl
   |cons a l s=>rw[Kj,Kj,Lh,Lh,s];omega
  exact this _
 rw[A,B]at S;have t:Zz n (Yg rs)=(dg n rs).length+((Ju n es).filter fun a=>decide (Q5 es es a=0)).length:=by
  rw[Zz,<-cq R,XT i ha G,dg,WW,yA,yA]
 have u:(dl n (Yg rs)).length=2*es.length:=Yc R (ha.nodup) i fun v w=>G.mem i;have P:ZX n es rs↔∀a∈Ju n es,g a=0:=by
  constructor
  .intro h a b;exact(hg a b).2.2 (h a b)
  .intro h a b;exact(hg a b).2.1 (h a b)
 rw[P,<-sumz,Flat,Um i ha G,t,u];omega
end
end Go.Fw
namespace Go.Fw
open Go.Proofs
attribute [local instance] Classical.propDecidable
structure Ri (n:Nat) (es:List Pr):Prop where
 n3:3<=n
 one:(Ju n es).length=1
 rY:∀v,¬Fo.Ii es v
section
variable {n : Nat} {es : List Pr}
def Ri.je (T:Ri n es) {u v:Nat} (a:u<n) (b:v<n):Xb es u v:=Jk T.one a b
def nb_of (hR:I7 n es) {u v:Nat} (h:Xb es u v) (b:u≠v):∃w,xA es v w:=by
 cases h with
 |refl=>exact absurd rfl b
 |step _ a _=>exact⟨_,a.symm⟩
def Ri.ne (T:Ri n es) (hR:I7 n es) {v:Nat} (a:v<n):∃w,xA es v w:=by
 have h3:=T.n3;by_cases c:v=0
 .exact nb_of hR (T.je (u:=1) QT a) QT
 .exact nb_of hR (T.je (u:=0) QT a) QT
def cnW (hR:I7 n es) {c a b:Nat} (h:Cn (wo c) es a b):Cr (Ps (fun x y=>x≠c/\y≠c) (eN n es)) a b:=by
 induction h with
 |refl=>exact .refl _
 |@step x y d h2 h3 f=>
  have g:x≠c:=fun e=>by have:=d.gK;rw[e]at this;simp[wo]at this
  have i:y≠c:=fun e=>by rw[e]at h3;simp[wo]at h3
  exact f.step (Bk.2 ⟨(Jq hR).2 h2,g,i⟩)
def Hq (hR:I7 n es) {v:Nat}:eN n es v≠[]↔∃w,xA es v w:=by
 constructor
 .intro h
  obtain⟨w,l,e⟩:=bq h;exact⟨w,(Jq hR).1 (by rw[e];simp)⟩
 .rintro ⟨w, h⟩ e
  have:=(Jq hR).2 h;rw[e]at this;cases this
def Ri.DZ (T:Ri n es) (hR:I7 n es):pV (eN n es):=by
 have lt:∀{v},eN n es v≠[]->v<n:=fun h=>by obtain⟨w,hw⟩:=(Hq hR).1 h;exact(hw.lt hR).1
 refine⟨fun v w d hw=>(H6 hR (eH n es)).2 (T.je (lt d) (lt hw)),fun c v w j h2 d hw=>cnW hR ?_⟩;by_cases f:c<n
 .obtain ⟨a, h3, k⟩ := wH (T.je f (lt d)) j
  obtain⟨b,g,l⟩:=wH (T.je f (lt hw)) h2;have n1:a≠c:=fun e=>by rw[e]at h3;exact CZ hR h3
  have m:b≠c:=fun e=>by rw[e]at g;exact CZ hR g
  have i:Cn (wo c) es a b:=mS fun q=>T.rY c ⟨a,b,h3,g,q⟩;exact(((Pz n1).1 k).symm.trans i).trans ((Pz m).1 l)
 .have:∀{a b},Xb es a b->a≠c->Cn (wo c) es a b:=fun h ha=>by
   induction h with
   |refl=>exact .refl (Y1 ha)
   |step _ a _ o=>exact .step o a (Y1 fun e=>f (by have:=(a.lt hR).2;omega))
  exact this (T.je (lt d) (lt hw)) j
def Ri.es_ne (T:Ri n es) (hR:I7 n es):es≠[]:=fun e=>by
 obtain⟨w,hw⟩:=T.ne hR (v:=0) (by have:=T.n3;omega);rw[e]at hw;rcases hw with h|h<;>cases h
def MJ (b:xO ⟨(n:Int),es⟩) (h3:3<=n) (c:(Ju n es).length=1):(AE n es).length=1↔Ri n es:=by
 have hR:=b.si;constructor
 .intro f
  refine⟨h3,c,fun v a=>?_⟩;have:=(aU hR v).2 a;have h3:fD n es v<=(AE n es).length:=ET _ _;omega
 .intro T
  have K:=Ir b ⟨T.es_ne hR,c⟩;have d:Db n es=[]:=Zl.2 fun v a=>T.rY v ((mH hR v).1 a).2;have e:(sT n es).ls.length=((Db n es).map (fD n es)).sum:=by
   show(cz _ _ _).length=_;rw[xo _ _ _ (J4 _),Cp];rfl
  have:=K.len;rw[e,d]at this;simp at this;omega
def Jw (d:xO ⟨(n:Int),es⟩) (h3:3<=n) (e:(Ju n es).length=1):Db n es=[]↔Ri n es:=by
 have hR:=d.si;constructor
 .intro h
  refine⟨h3,e,fun v c=>?_⟩;obtain⟨a,b,f,_⟩:=id c;have:v∈Db n es:=(mH hR v).2 ⟨(f.lt hR).1,c⟩;rw[h]at this;cases this
 .intro T
  exact Zl.2 fun v c=>T.rY v ((mH hR v).1 c).2
def Ri.less (T:Ri n es) (hR:I7 n es) {a b:Nat} {rest:List Pr} (ha:a<n) (hb:b<n) (d:a≠b) (f:∀x y,xA es x y->¬((x=a/\y=b)\/(x=b/\y=a))->xA rest x y):Xb rest b a:=by
 have D:=T.DZ hR;have h3:=T.n3;obtain⟨t,l,g,i⟩:∃t,t<n/\t≠a/\t≠b:=by
  by_cases z:a≠0/\b≠0
  .exact⟨0,QT,QT,QT⟩
  by_cases c1:a≠1/\b≠1
  .exact⟨1,QT,QT,QT⟩
  .exact⟨2,QT,QT,QT⟩
 have key:∀{c x y:Nat},(c=a\/c=b)->Cr (Ps (fun x y=>x≠c/\y≠c) (eN n es)) x y->Xb rest x y:=fun{c x y} m h=>by
  induction h with
  |refl=>exact Xb.refl _ _
  |@step u w A h2 p=>
   obtain⟨k1,k2,o⟩:=Bk.1 h2;refine .step p (f _ _ ((Jq hR).1 k1) ?_) rfl;rintro(⟨j,k⟩|⟨j,k⟩)
   .rcases m with e | e
    .exact k2 (j.trans e.symm)
    .exact o (k.trans e.symm)
   .rcases m with e | e
    .exact o (k.trans e.symm)
    .exact k2 (j.trans e.symm)
 have ne:∀{v},v<n->eN n es v≠[]:=fun q=>(Hq hR).2 (T.ne hR q);have r:=key (.inl rfl) (D.DZ a b t (Hn d) g (ne hb) (ne l));have s:=key (.inr rfl) (D.DZ b t a i d (ne l) (ne ha));exact r.trans s
def iA (hR:I7 n es) {b:Nat} {L:LF} (F:Far n es b L):∀(k v:Nat),L[v]?=some (k:Int)->∃l:wi,pthM (Oc n es) L k v=aW l/\l.length=k+1/\l[0]?=some v/\l[k]?=some b/\
  (∀(i x:Nat),l[i]?=some x->L[x]?=some ((k-i:Nat):Int))/\∀(i x y:Nat),l[i]?=some x->l[i+1]?=some y->xA es x y
 |0,v,h=>by
  have hb:=F.zero v h;subst hb;refine⟨[v],rfl,rfl,rfl,rfl,fun i x f=>?_,fun i x y _ a=>by simp at a⟩;have hi:=(bH.1 f).1;simp at hi;subst hi;simp at f;subst f;simpa using h
 |k+1,v,h=>by
  obtain⟨w,ha,hw⟩:=F.pre v _ h QT;have d:L.getD v 0=((k+1:Nat):Int):=by rw[OO,h];rfl
  cases hf:((Oc n es).getD v []).find? (fun w=>decide (L.getD w.toNat 0=L.getD v 0-1))with
  |none=>
   rw[vH]at hf;have:=hf (w:Int) ((M8 hR v w).2 ha);rw[TK,OO,hw,d]at this;exact absurd (decide_eq_true rfl) this
  |some x=>
   have j:=qL227 hf;have h2:=aaS hf;obtain⟨u,rfl,m⟩:=iz hR j;have e:=XR (show u<L.length by rw[F.len];exact m);rw[decide_eq_true_eq,TK,OO,e,d]at h2;have g:L[u]?=some (k:Int):=by rw[e];congr 1;simp at h2;omega
   obtain⟨l,o,p,q,r,s,t⟩:=iA hR F k u g;refine⟨v::l,?_,by simp[p],rfl,by simpa using r,fun i y a=>?_,fun i y z a c=>?_⟩
   .rw [pthM, hf]
    simp only[TK];rw[o];rfl
   .cases i with
    |zero=>simp at a;subst a;simpa using h
    |succ i=>
     rw[pF]at a;rw[s i y a];congr 2;omega
   .cases i with
    |zero=>
     simp at a;subst a;rw[pF,q]at c;injection c with c;subst c;exact(M8 hR v u).1 j
    |succ i=>
     rw[pF]at a c;exact t i y z a c
def iK (B:xO ⟨(n:Int),es⟩) {a b:Nat} {rest:List Pr} (t:es=((a:Int),(b:Int))::rest) (F:Far n rest b (Oh (Oc n rest) n b)) (E:Xb rest b a):
  ∃l,iO n rest a b=aW l/\cV n es l:=by
 have hR:=B.si;have f:I7 n rest:=fun p G=>hR p (by rw[t];simp[G]);have w:(((a:Int),(b:Int)):Pr)∈es:=by rw[t];simp
 have z:=(hR _ w).2.1;simp only at z;have A:=(hR _ w).2.2;simp only at A;have nd:es.Nodup:=B.Fx.nodup;have g:=XR (show a<(Oh (Oc n rest) n b).length by rw[F.len];omega);have m:=(F.pos a _ g).2 E;obtain⟨k,H⟩:=RT m;have o:(Oh (Oc n rest) n b)[a]?=some (k:Int):=by rw[g,H]
 obtain⟨l,I,P,u,d,C,D⟩:=iA f F k a o;have J:k≠0:=fun e=>by
  subst e;rw[u]at d;injection d with d;omega
 have K:k≠1:=fun e=>by
  subst e;have:=D 0 a b u d;rw[t,tS]at nd;rcases this with h|h
  .exact nd.1 h
  .have:=(f _ h).2.1;simp only at this;omega
 have q:l.Nodup:=by
  rw[gY,cR];intro i j hi r L e;have s:=C i _ (dR hi);have h2:=C j _ (dR r);rw[e,h2]at s;injection s with s;omega
 refine⟨l,?_,q,QT,fun v M=>?_⟩
 .unfold iO
  rw[OO,o];exact I
 .obtain ⟨j, r, rfl⟩ := iV.1 M
  rw[qK q r];have sub:∀{x y},xA rest x y->xA es x y:=fun h=>by rw[t];exact h.imp (Gs _) (Gs _)
  by_cases c:j+1<l.length
  .have e : l[(j + 1) % l.length]'(JH _ QT) = l[j + 1] := getElem_congr_idx (bR c)
   rw[e];exact sub (D j _ _ (dR r) (dR c))
  .have N : j = k := QT
   subst N;have e:l[(j+1)%l.length]'(JH _ QT)=l[0]:=getElem_congr_idx (by rw[show j+1=l.length by omega,Nat.mod_self])
   rw[e];have s:l[j]=b:=by rw[dR r]at d;injection d
   have O:l[0]=a:=by rw[dR QT]at u;injection u
   rw[s,O];exact .inr w
end
end Go.Fw
namespace Go.Fw
open Go.Proofs
attribute [local instance] Classical.propDecidable
noncomputable def runM (n:Nat) (rows:CA):Nat->DB->Option DB
  |0,S=>some S
  |k+1,S=>if S.left=[]then some S else match PN n rows S with
    |some a=>runM n rows k a
    |none=>none
def Ck (f:wi):List (Nat×Nat×Nat):=(List.range f.length).map fun i=>(f.getD i 0,f.getD ((i+f.length-1)%f.length) 0,f.getD ((i+1)%f.length) 0)
def Wk (T:CA) (t:Nat×Nat×Nat):CA:=T.set t.1 ((T.getD t.1 []).set t.2.1 (t.2.2:Int))
def Z5 (n:Nat) (K8:ai):CA:=(K8.flatMap Ck).foldl Wk (List.replicate n (List.replicate n (-1)))
def itI (T:LF):Nat->Int->Int
 |0,u=>u
 |k+1,u=>T.getD (itI T k u).toNat 0
def HQ (T:CA) (rows:CA) (v:Nat):LF:=(List.range (rows.getD v []).length).map fun k=>itI (T.getD v []) k ((rows.getD v []).getD 0 0)
def RG (n:Nat) (rows:CA) (K8:ai):CA:=(List.range n).map (HQ (Z5 n K8) rows)
def MZ (n:Nat) (es:List Pr):wi:=(iO n (es.drop 1) (es.getD 0 (0,0)).1.toNat (es.getD 0 (0,0)).2.toNat).map Int.toNat
noncomputable def QA (n:Nat) (es:List Pr):DB:=bk n es (MZ n es) (ZB n (vi n (sortP (Ij (MZ n es)))) es)
noncomputable def embM (n:Nat) (es:List Pr):Option CA:=(runM n (Oc n es) es.length (QA n es)).map fun S=>RG n (Oc n es) S.K8
section
variable {n : Nat} {es : List Pr} {H : Nat → Nat → Prop} {S : DB}
def KC (hR:I7 n es) (hA:BD es) (D:pV (eN n es)):∀(k:Nat) (H:Nat->Nat->Prop) (S:DB),RR n es H S->UX es H<=k->
  (runM n (Oc n es) k S=none/\¬Gp n (eN n es))\/∃a b,runM n (Oc n es) k S=some a/\RR n es b a/\a.left=[]
 |0,H,S,I,h=>by
  refine .inr ⟨S,H,rfl,I,?_⟩;refine mS fun q=>?_;obtain⟨p,l,e⟩:=bq q;have P:=I.VI p (by rw[e];simp);obtain⟨x,t,j⟩:=bq P.ne;have g:x∈p.bG:=by rw[j];simp
  obtain⟨v,w,m,d,o⟩:=P.fj hR g;have i:x∈es.filter fun e=>decide (¬H e.1.toNat e.2.toNat):=by
   rw[sX];refine⟨P.sub.subset g,?_⟩;rw[m,SR d];simpa using o.2
  have r:(es.filter fun e=>decide (¬H e.1.toNat e.2.toNat)).length=0:=Nat.le_zero.1 h;rw[LB.1 r]at i;cases i
 |k+1,H,S,I,h=>by
  rw[runM];by_cases c:S.left=[]
  .rw[if_pos c];exact .inr ⟨S,H,rfl,I,c⟩
  .rw [if_neg c]
   rcases I.lay hR hA D c with⟨f,h2⟩|⟨a,b,f,h2,h3⟩
   .rw[f];exact .inl ⟨rfl,h2⟩
   .rw [f]
    exact KC hR hA D k b a h2 QT
def Ep (T:CA) (v u:Nat):Int:=(T.getD v []).getD u 0
def NU {T:CA} {t:Nat×Nat×Nat} (h:T.length=n/\∀v,v<n->(T.getD v []).length=n):(Wk T t).length=n/\∀v,v<n->((Wk T t).getD v []).length=n:=by
 unfold Wk;refine⟨by rw[qm];exact h.1,fun v a=>?_⟩;rw[Ao];split
 .rename_i c;rw[c.1,qm];exact h.2 v a
 .exact h.2 v a
def FQ {T:CA} {t:Nat×Nat×Nat} (h:T.length=n/\∀v,v<n->(T.getD v []).length=n) (a:t.1<n) (h2:t.2.1<n) (v u:Nat):Ep (Wk T t) v u=if t.1=v/\t.2.1=u then(t.2.2:Int)else Ep T v u:=by
 unfold Ep Wk;rw[Ao];by_cases c:t.1=v
 .subst c
  rw[if_pos ⟨rfl,by rw[h.1];exact a⟩,Ao,h.2 _ a];by_cases c2:t.2.1=u
  .rw[if_pos ⟨c2,h2⟩,if_pos ⟨rfl,c2⟩]
  .rw[if_neg (fun q=>c2 q.1),if_neg (fun q=>c2 q.2)]
 .rw[if_neg (fun q=>c q.1),if_neg (fun q=>c q.1)]
def jj {G:Nat->Nat->Nat}:∀(a:List (Nat×Nat×Nat)) (T:CA),(T.length=n/\∀v,v<n->(T.getD v []).length=n)->(∀t∈a,t.1<n/\t.2.1<n/\t.2.2=G t.1 t.2.1)->
  ((a.foldl Wk T).length=n/\∀v,v<n->((a.foldl Wk T).getD v []).length=n)/\∀v u,(Ep T v u=(G v u:Int)\/∃t∈a,t.1=v/\t.2.1=u)->Ep (a.foldl Wk T) v u=(G v u:Int)
 |[],T,h,_=>⟨h,fun v u q=>by
  rcases q with q|⟨t,d,_⟩
  .exact q
  .cases d⟩
 |t::a,T,h,hg=>by
  obtain⟨f,g,i⟩:=hg t YX;obtain⟨k1,k2⟩:=jj a (Wk T t) (NU h) fun t d=>hg t (by simp[d]);refine⟨k1,fun v u q=>k2 v u ?_⟩;rw[FQ h f g];by_cases c:t.1=v/\t.2.1=u
  .rw[if_pos c,i,c.1,c.2];exact .inl rfl
  .rw [if_neg c]
   rcases q with q|⟨j,b,e⟩
   .exact .inl q
   .rcases aH.1 b with rfl | b
    .exact absurd e c
    .exact .inr ⟨j,b,e⟩
def IU {f:wi} (nd:f.Nodup) {i:Nat} (hi:i<f.length):f.getD ((i+f.length-1)%f.length) 0=pv f (f.getD i 0):=by
 have a:(i+f.length-1)%f.length<f.length:=JH _ QT;have b:=sF nd a;have e:((i+f.length-1)%f.length+1)%f.length=i:=by
  rw[Nat.mod_add_mod,show i+f.length-1+1=i+f.length by omega,Fa,bR hi]
 rw[e]at b;rw[<-b,Zt nd (by rw[YR a];exact om _)]
def pQ {f:wi} (nd:f.Nodup) {t:Nat×Nat×Nat} (h:t∈Ck f):t.1∈f/\t.2.1=pv f t.1/\t.2.2=nx f t.1:=by
 unfold Ck at h;obtain⟨i,hi,rfl⟩:=T8.1 h;rw[vq]at hi;exact⟨by simp only;rw[YR hi];exact om _,IU nd hi,(sF nd hi).symm⟩
def E7 {f:wi} (nd:f.Nodup) {v:Nat} (h:v∈f):(v,pv f v,nx f v)∈Ck f:=by
 obtain⟨i,hi,rfl⟩:=iV.1 h;refine T8.2 ⟨i,vq.2 hi,?_⟩;rw[IU nd hi,<-sF nd hi,YR hi]
def OF {T:LF} {g:Nat->Nat} {P:Nat->Prop} (a:∀u,P u->T.getD u 0=(g u:Int)) (b:∀u,P u->P (g u)) {u:Nat} (c:P u):∀k,itI T k (u:Int)=((it g k u:Nat):Int)/\P (it g k u)
 |0=>⟨rfl,c⟩
 |k+1=>by
  obtain⟨e,p⟩:=OF a b c k;refine⟨?_,b _ p⟩;rw[itI,e,TK,a _ p];rfl
def circ_ok (C:xO ⟨(n:Int),es⟩) (E:Ri n es) {r:Nat->wi} {F:ai} (G:Dx n r F) (fl:Flat n r) (q:∀x y,y∈r x↔y∈eN n es x):
  Kk n es (RG n (Oc n es) F)/\Flat n (Yg (RG n (Oc n es) F)):=by
 have hR:=C.si;have hA:=C.Fx;have D:=sL hR hA;have s:∀f∈F,f.Nodup:=G.O.nd;let b:Nat->Nat->Nat:=fun v u=>nx (r v) u;have z:∀t∈F.flatMap Ck,t.1<n/\t.2.1<n/\t.2.2=b t.1 t.2.1:=fun t I=>by
  obtain⟨f,hf,h⟩:=H0.1 I;obtain⟨d,h2,h3⟩:=pQ (s f hf) h;obtain⟨N,Q,J⟩:=G.O.pv hf d;have hi:=G.O.Zy G.Pc hf d;refine⟨G.Pc.lt _ _ hi,by rw[h2];exact G.Pc.lt _ _ (G.Pc.sy _ _ hi),?_⟩;show t.2.2=nx (r t.1) t.2.1;rw[h3,h2,J]
 have K:(List.replicate n (List.replicate n (-1:Int))).length=n/\∀v,v<n->((List.replicate n (List.replicate n (-1:Int))).getD v []).length=n:=by
  refine⟨vV,fun v a=>?_⟩;rw[OO,gG,if_pos a];simp
 obtain⟨-,L⟩:=jj (F.flatMap Ck) _ K z;have A:∀v u,u∈r v->Ep (Z5 n F) v u=(b v u:Int):=fun v u o=>by
  refine L v u (.inr ?_);obtain⟨f,hf,i,e⟩:=G.O.cover u v (G.Pc.sy _ _ o);have a:v∈f:=by rw[<-e];exact zc i
  refine⟨_,H0.2 ⟨f,hf,E7 (s f hf) a⟩,rfl,?_⟩;simp only;rw[<-e,Zt (s f hf) i]
 have row:∀v,v<n->∃u c,eN n es v=u::c/\(Oc n es).getD v []=(u:Int)::aW c/\u∈r v:=fun v a=>by
  obtain⟨w,hw⟩:=E.ne hR a;obtain⟨u,c,e⟩:=bq ((Hq hR).2 ⟨w,hw⟩);have hb:=(eH n es).back hR v;refine⟨u,c,e,?_,(q v u).2 (by rw[e];simp)⟩;rw[<-hb];show(eN n es v).map _=_;rw[e];rfl
 have bK:∀v,v<n->∃l:wi,HQ (Z5 n F) (Oc n es) v=aW l/\Cyc (r v) l:=fun v a=>by
  obtain⟨u,c,B,p,o⟩:=row v a;have hlen:((Oc n es).getD v []).length=(r v).length:=by
   have d:(eN n es v).length=((Oc n es).getD v []).length:=by rw[B,p];simp[aW]
   rw[<-d];exact(wI (D.nd v) (G.Pc.nd v) fun x=>(q v x).symm).length_eq
  refine⟨(List.range (r v).length).map fun k=>it (b v) k u,?_,OL G.Pc G.O (next:=b) (fun f hf x j=>(G.O.pv hf j).2.2) o⟩
  unfold HQ;rw[hlen,p];show _=((List.range (r v).length).map fun k=>it (b v) k u).map fun(x:Nat)=>(x:Int);rw[UD];refine vG fun k _=>?_;show itI _ k ((u:Int))=_;exact(OF (g:=b v) (P:=fun x=>x∈r v) (fun x j=>A v x j) (fun x j=>zc j) o k).1
 have get:∀v,v<n->(RG n (Oc n es) F).getD v []=HQ (Z5 n F) (Oc n es) v:=fun v a=>by
  unfold RG;rw[OO,Rv,bp a];rfl
 have m:∀v,v<n->∃l:wi,(RG n (Oc n es) F).getD v []=aW l/\Yg (RG n (Oc n es) F) v=l/\Cyc (r v) l:=fun v a=>by
  obtain⟨l,d,h2⟩:=bK v a;refine⟨l,(get v a).trans d,?_,h2⟩;unfold Yg;rw[get v a,d,aW,UD]
  conv=>rhs;rw[<-aac l]
  exact vG fun x _=>by simp
 have len:(RG n (Oc n es) F).length=n:=by simp[RG]
 have R:Kk n es (RG n (Oc n es) F):=⟨len,fun v a=>by
  obtain⟨l,d,h2,h3⟩:=m v a;rw[d];have M:l.Perm (eN n es v):=h3.perm.symm.trans (wI (G.Pc.nd v) (D.nd v) fun x=>q v x);have:=M.map fun(x:Nat)=>(x:Int);rw[(eH n es).back hR v]at this;exact this⟩
 refine⟨R,?_⟩;have same:qD r (Yg (RG n (Oc n es) F)):=fun v=>by
  by_cases a:v<n
  .obtain ⟨l, d, h2, h3⟩ := m v a
   rw[h2];exact h3
  .have B : r v = [] := Zl.2 fun w hw => a (G.Pc.lt _ _ hw)
   have p:Yg (RG n (Oc n es) F) v=[]:=by
    unfold Yg;rw[OO,Tz (by rw[len];omega)];rfl
   rw[B,p];exact .refl _
 exact(same.flat G.Pc).1 fl
def Vn (l:wi):(aW l).map Int.toNat=l:=by
 rw[aW,UD]
 conv=>rhs;rw[<-aac l]
 exact vG fun x _=>by simp
def X8 (f:xO ⟨(n:Int),es⟩) {a b:Nat} {rest:List Pr} (c:es=((a:Int),(b:Int))::rest) (F:Far n rest b (Oh (Oc n rest) n b)) (g:Xb rest b a):
  iO n rest a b=aW (MZ n es)/\cV n es (MZ n es):=by
 obtain⟨l,d,h2⟩:=iK f c F g;have e:MZ n es=l:=by
  unfold MZ;subst c;simp only[Mi,sQ,List.getD_cons_zero,TK];rw[d,Vn]
 rw[e];exact⟨d,h2⟩
def Gp.MT {E E':Nat->wi} (h:∀v w,w∈E v↔w∈E' v):Gp n E↔Gp n E':=
 ⟨fun⟨R,a,h2,h3⟩=>⟨R,a,h2,fun v w=>(h3 v w).trans (h v w)⟩,fun⟨R,a,h2,h3⟩=>⟨R,a,h2,fun v w=>(h3 v w).trans (h v w).symm⟩⟩
def C1 (hR:I7 n es) (hA:BD es) {rs:CA} (G:Kk n es rs) (fl:Flat n (Yg rs)):Gp n (eN n es):=⟨Yg rs,G.Tw hR hA,fl,fun v w=>by rw[G.mem hR,Jq hR]⟩
def many_no (b:xO ⟨(n:Int),es⟩) (a:Ri n es) (h:3*n<es.length+6):¬Gp n (eN n es):=fun⟨R,c,h2,h3⟩=>by
 have hR:=b.si;have D:=(a.DZ hR).same h3;have ne:∀v,v<n->R v≠[]:=fun v d e=>by
  obtain⟨w,hw⟩:=a.ne hR d;have:=(h3 v w).2 ((Jq hR).2 hw);rw[e]at this;cases this
 have:=(yN c h2 D a.n3 ne).1;have hA:BD es:=b.Fx;have:=Yc c hA.nodup hR fun v w=>(h3 v w).trans (Jq hR);omega
end
end Go.Fw
namespace Go.Fw
section
attribute [local irreducible] Ax YH XZ Uk KO KN KX KE VK DK Q7 dK W9
open Go.Proofs
variable {c i j m t:Nat}
def UU (d:Ac) (a b:Nat) (h:AHeap):AC Tryz.prog d 91 [.int .i64 (a:Int),.int .i64 (b:Int)] h fun x h'=>x=Ov (pe a b)/\Le h h':=by
 refine AC.vE ⟨Tryz.func91,rfl,xr⟩ Tryz.ntmps91 Tryz.results91 fun c=>?_;simp only[xq,Nat.reduceAdd];obtain⟨e,f,l1,w1,g⟩:=mV c [.int .i64 0,.int .i64 0]
 have i:h.own h.next=none:=(Le.refl h).next c (J4 _)
 have st:=Qf (p:=(min (a:Int) (b:Int),max (a:Int) (b:Int))) g
 have oo:=AHeap.zm e h.next (.cells (Zh (min (a:Int) (b:Int),max (a:Int) (b:Int))))
 have ld:=E3 oo;simp only[Ud,Nat.reduceLT,↓reduceIte,Nat.reduceEqDiff,reduceCtorEq,aaP,f,OE,uG,NJ,st,ld];exact⟨rfl,l1.put _ i⟩
def jK (h:0<m):((c:Int)+1).tmod (m:Int)=(((c+1)%m:Nat):Int):=by
 rw[qL222 QT,show(c:Int)+1=((c+1:Nat):Int) by omega,Int.natCast_emod]
def sf (hi:i<m) (a:j<m) (b:t<=(j+m-i)%m):(i+t)%m=j↔t=(j+m-i)%m:=by
 have c:(j+m-i)%m<m:=JH _ QT;have e:(i+(j+m-i)%m)%m=j:=by
  rw[Nat.add_mod_mod,show i+(j+m-i)=j+m by omega,Fa,bR a]
 constructor
 .intro h
  have:=ez hi (show t<m by omega);rw[h]at this;exact this.symm
 .intro h;rw[h];exact e
def qo (C:Ac) (v:Value) (f:wi) (i j:Nat) (h:AHeap) (q:RL IJ h v (aW f)) (hi:i<f.length) (E:j<f.length) (V:f.length<=1000):
  AC Tryz.prog C 142 [v,.int .i64 (i:Int),.int .i64 (j:Int)] h fun x h'=>GI h' x (aW (r9 f i j))/\Le h h'/\tQ h x:=by
 refine AC.vE ⟨Tryz.func142,rfl,xr⟩ Tryz.ntmps142 Tryz.results142 fun a=>?_;simp only[xq,Nat.reduceAdd];have F:(aW f).length=f.length:=tG f;have z:=fun g=>q.zw g;rw[F]at z;have A:∀c,c<f.length->aIndexAddr Tryz.prog 49 v (.int .i64 (c:Int))=some (.pointer (some (elemAddr v c))):=fun c r=>q.qW c QT;have ld:∀g,Le h g->∀c,c<f.length->aload Tryz.prog g 3 (elemAddr v c)=some (.int .i64 ((f.getD c 0:Nat):Int)):=fun g G c r=>by
  rw[(q.le Rr.IJ G).HN c QT,uD r,YR r]
 obtain⟨H,I,l1,w1,J⟩:=mV a [.int .i64 ((f.getD i 0:Nat):Int)];simp only[Ud,Nat.reduceLT,↓reduceIte,Nat.reduceEqDiff,reduceCtorEq,A i hi,ld h (Le.refl _) i hi,Vb,I]
 have nB:h.own h.next=none:=(Le.refl h).next a (J4 _)
 have D:(j+f.length-i)%f.length<f.length:=JH _ QT;let L:Nat->wi:=fun t=>(List.range (t+1)).map fun t=>f.getD ((i+t)%f.length) 0;have K:L 0=[f.getD i 0]:=by simp[L,bR hi]
 have M:GI H (.slice (some ⟨h.next,0,none⟩) 1 1) (aW (L 0)):=by rw[K];exact GS.full J rfl (show 1<1000000000000 by decide)
 refine W9.intro (fun k fr o=>∃(t:Nat) (p:Value),k=(j+f.length-i)%f.length-t/\t<=(j+f.length-i)%f.length/\fr=mkF [(0,v),(1,.int .i64 (((i+t)%f.length:Nat):Int)),(2,.int .i64 (j:Int)),(7,p)]/\GI o p (aW (L t))/\Le h o/\tQ h p)
  ((j+f.length-i)%f.length) [(0,v),(1,.int .i64 (i:Int)),(2,.int .i64 (j:Int)),(7,.slice (some ⟨h.next,0,none⟩) 1 1)] vy
  ⟨0,_,rfl,KW _,by rw[dX,bR hi],M,l1,fun b hb=>by simp[blk]at hb;subst hb;exact nB⟩ ?_
 rintro k fr o s ⟨t,p,rfl,N,rfl,g,leq,ap⟩;have st:=sf hi E N;have W:(i+t)%f.length<f.length:=JH _ QT;by_cases c:(i+t)%f.length=j
 .have d : decide ((((i + t) % f.length : Nat) : Int) = (j : Int)) = true := decide_eq_true QT
  simp only[Ud,Nat.reduceLT,↓reduceIte,Nat.reduceEqDiff,reduceCtorEq,bne,d];have e:L t=r9 f i j:=by rw[st.1 c];rfl
  rw[<-e];exact⟨g,leq,ap⟩
 .have d : decide ((((i + t) % f.length : Nat) : Int) = (j : Int)) = false := decide_eq_false QT
  have u:t<(j+f.length-i)%f.length:=by
   have:t≠(j+f.length-i)%f.length:=fun e=>c (st.2 e);omega
  have aw:=Gm ((i+t)%f.length) QT;have O:((i+t)%f.length+1)%f.length=(i+(t+1))%f.length:=by rw[Nat.mod_add_mod];rfl
  have l:(i+(t+1))%f.length<f.length:=JH _ QT;have P:¬((f.length:Int)=0):=QT;have B:=jK (c:=(i+t)%f.length) (m:=f.length) QT;rw[O]at B;have w:(((((i+t)%f.length+1:Nat):Int))).tmod (f.length:Int)=(((i+(t+1))%f.length:Nat):Int):=by rw[<-B];congr 1
  have y:awrap .i64 (((i+(t+1))%f.length:Nat):Int)=(((i+(t+1))%f.length:Nat):Int):=HY _ QT QT;obtain⟨n,X,Y,Q,R,S,Z,l4,hf,-⟩:=g.push s ((f.getD ((i+(t+1))%f.length) 0:Nat):Int) (by rw[tG];simp[L];omega);obtain⟨l5,T⟩:=hf h leq ap;simp only[Ud,Nat.reduceLT,↓reduceIte,Nat.reduceEqDiff,reduceCtorEq,bne,d,aw,z,P,w,A _ l,ld o leq _ l,Q,R];refine cX ((j+f.length-i)%f.length-(t+1)) [(0,v),(1,.int .i64 (((i+(t+1))%f.length:Nat):Int)),(2,.int .i64 (j:Int)),(7,n)] QT vy ⟨t+1,n,rfl,u,rfl,?_,l5,T⟩;have:L (t+1)=L t++[f.getD ((i+(t+1))%f.length) 0]:=by simp only[L];rw[pR,qy];rfl
  rw[this];have U:aW (L t++[f.getD ((i+(t+1))%f.length) 0])=aW (L t)++[((f.getD ((i+(t+1))%f.length) 0:Nat):Int)]:=by simp[aW]
  rw[U];exact S
variable {h:AHeap} {v:Value} {xs:LF}
def GI.tail (g:GI h v xs) (hi:i<=xs.length):
  ∃u,aSlice Tryz.prog 49 v (some (.int .i64 (i:Int))) none none=some u/\((i=xs.length/\vW u 0)\/(i<xs.length/\∃cap,u=.slice (some (elemAddr v i)) (xs.length-i) cap)):=by
 obtain⟨k,⟨rfl,d⟩|⟨id,c,cap,rfl,l,m,f⟩⟩:=g
 .have : i = 0 := QT
  subst this;refine⟨.slice none 0 0,?_,.inl ⟨d.symm,⟨none,0,rfl,YX⟩⟩⟩;have:¬km<=0:=by decide
  simp[aSlice,this,aBounds,aBound]
 .have h2 : (0 : Int) <= (i : Int) := QT
  have h3:(i:Int)<=(xs.length:Int):=QT;have b:JO Tryz.prog 3=1:=zd;rcases f with rfl|⟨rfl,j⟩
  .refine ⟨.slice (some (Co ⟨id, 0, none⟩ i)) (xs.length - i) (km + 1), by simp [aSlice, b, aBounds, aBound, h2, h3], ?_⟩
   by_cases c:i=xs.length
   .exact .inl ⟨c,⟨_,_,by rw[c,iE],YX⟩⟩
   .exact .inr ⟨QT,_,rfl⟩
  .have a : ¬ km <= xs.length := eV.2 (K2 j xr)
   refine⟨.slice (if xs.length=i then some ⟨id,0,none⟩else some (Co ⟨id,0,none⟩ i)) (xs.length-i) (xs.length-i),by simp[aSlice,b,aBounds,aBound,h2,h3,a],?_⟩
   by_cases c:i=xs.length
   .refine .inl ⟨c,⟨_,_,by rw[c,iE],YX⟩⟩
   .exact .inr ⟨QT,_,by rw[if_neg (fun e=>c e.symm)];rfl⟩
def Yr (g:GI h v xs) (hi:i<xs.length):elemAddr (.slice (some (elemAddr v i)) (xs.length-i) c) j=elemAddr v (i+j):=by
 obtain⟨a,⟨rfl,b⟩|⟨id,c,cap,rfl,d,e,f⟩⟩:=g
 .omega
 .rw[Tl,Tl,Tl,Ak]
def rev_w (h:m<=100000) (a:2*j<=m):awrap .i64 ((m:Int)-1-(j:Int)-1)=(m:Int)-1-((j+1:Nat):Int):=by rw[GQ _ QT QT];omega
def rev_2 (h:2*j+1<m):2*(j+1)<=m:=QT
def zz (X:Ac) (u v:Value) (xs:LF) (i:Nat) (h:AHeap) (g:GI h v xs) (hn:xs.length<=100000) (A:(i=xs.length/\vW u 0)\/(i<xs.length/\∃cap,u=.slice (some (elemAddr v i)) (xs.length-i) cap)):
  AC Tryz.prog X 94 [u] h fun _ h'=>GI h' v (xs.take i++(xs.drop i).reverse)/\(∀f,Le f h->tQ f v->Le f h')/\∀b o,h.own b=some o->blk v≠some b->h'.own b=some o:=by
 have Y:i<=xs.length:=by rcases A with h|h<;>omega
 have n:(xs.drop i).length=xs.length-i:=YA;have lu:∀w,aLen Tryz.prog w 49 u=some (.int .i64 ((xs.drop i).length:Int)):=fun w=>by
  rcases A with⟨e,a,c,rfl,_⟩|⟨_,cap,rfl⟩
  .rw[lD Rm w,n,e,iE]
  .rw[lD Rm w,n]
 refine AC.vE ⟨bU,rfl,xr⟩ Tryz.ntmps94 Tryz.results94 fun Z=>?_;simp only[xq,Nat.reduceAdd];have w0:awrap .i64 (((xs.drop i).length:Int)-1)=((xs.drop i).length:Int)-1-((0:Nat):Int):=by rw[GQ _ QT QT];omega
 simp only[Ud,Nat.reduceLT,↓reduceIte,Nat.reduceEqDiff,lu,w0];refine W9.intro (fun k fr y=>∃(j:Nat) (ys:LF),k=(xs.drop i).length-j/\2*j<=(xs.drop i).length/\fr=mkF [(0,u),(2,.int .i64 j),(3,.int .i64 (((xs.drop i).length:Int)-1-(j:Int)))]/\cJ (xs.drop i) ys j/\GI y v (xs.take i++ys)/\(∀f,Le f h->tQ f v->Le f y)/\∀b o,h.own b=some o->blk v≠some b->y.own b=some o)
  (xs.drop i).length [(0,u),(2,.int .i64 (0:Nat)),(3,.int .i64 (((xs.drop i).length:Int)-1-((0:Nat):Int)))] vy
  ⟨0,xs.drop i,rfl,KW _,rfl,cJ.zero _,by rw[aV];exact g,fun f B _=>B,fun b o hb _=>hb⟩ ?_
 rintro k fr y C ⟨j,ys,rfl,hj,rfl,R,D,Q,S⟩;have E:(xs.drop i).length<=100000:=QT;generalize ad:xs.drop i=ds at*;by_cases c:2*j+1<ds.length
 .have d : decide ((j : Int) < (ds.length : Int) - 1 - (j : Int)) = true := decide_eq_true QT
  have F:(ds.length:Int)-1-(j:Int)=((ds.length-1-j:Nat):Int):=QT;have T:j<ys.length:=by rw[R.1];omega
  have h2:ds.length-1-j<ys.length:=by rw[R.1];omega
  have G:i<xs.length:=QT;obtain⟨_,cap,rfl⟩:=A.resolve_left fun q=>by omega
  have z:(xs.take i).length=i:=by rw[Ja];omega
  have ll:(xs.take i++ys).length=xs.length:=by rw[Vw,z,R.1];omega
  have H:i+j<(xs.take i++ys).length:=by rw[Vw,z];omega
  have I:i+(ds.length-1-j)<(xs.take i++ys).length:=by rw[Vw,z];omega
  have U:=GI.rl D;have r:∀p:Nat,p<xs.length-i->aIndexAddr Tryz.prog 49 (.slice (some (elemAddr v i)) (xs.length-i) cap) (.int .i64 (p:Int))=some (.pointer (some (elemAddr v (i+p)))):=fun p J=>by
   rw[vj (P:=Tryz.prog) Rm Ik zd p J,<-Yr g G (c:=cap)];rfl
  have K:=r j QT;have s:=r (ds.length-1-j) QT;have ld1:=U.HN _ H;have t:=U.HN _ I;have ge:∀p (J:i+p<(xs.take i++ys).length) (L:p<ys.length),(xs.take i++ys)[i+p]=ys[p]:=fun p J L=>by
   rw[List.getElem_append_right QT];exact getElem_congr_idx QT
  rw[ge _ H T]at ld1;rw[ge _ I h2]at t;have st:∀(M:LF) p x,(xs.take i++M).set (i+p) x=xs.take i++M.set p x:=fun M p x=>by
   rw[ZK _ _ QT,z,GF]
  obtain⟨h5,e5,V,w5,l5,k5⟩:=GI.store D C H ys[ds.length-1-j];rw[st]at V;obtain⟨h6,e6,W,w6,l6,k6⟩:=GI.store V w5 (i:=i+(ds.length-1-j)) (by rw[<-st,qm];exact I) ys[j];rw[st]at W;have R6:=R.step c T h2;have N:=Gm j QT;have O:=rev_w (m:=ds.length) (j:=j) E hj;rw[<-F]at s;simp only[Ud,Nat.reduceLT,↓reduceIte,Nat.reduceEqDiff,reduceCtorEq,d];refine rD (vu [0,1,2,3,4,5,6,7,8,9,10,11,12] (PO 13 [0,1,4,5,6,7,11,12] (vu [14] (PO 15 [0,1,2,3,4,5,6,7,8,9,10,11,12,13,14] .done)))) ?_;simp only[Ud,Nat.reduceLT,↓reduceIte,Nat.reduceEqDiff,reduceCtorEq,Nat.reduceBEq,rm,K,s,ld1,t,e5,e6,N,O];exact cX (ds.length-(j+1)) [(0,.slice (some (elemAddr v i)) (xs.length-i) cap),(2,.int .i64 (j+1:Nat)),(3,.int .i64 ((ds.length:Int)-1-((j+1:Nat):Int)))] QT vy
   ⟨j+1,_,rfl,rev_2 c,rfl,R6,W,fun f B af=>l6 f (l5 f (Q f B af) af) af,fun b o hb l=>k6 b o (k5 b o (S b o hb l) l) l⟩
 .have d : decide ((j : Int) < (ds.length : Int) - 1 - (j : Int)) = false := decide_eq_false QT
  simp only[Ud,Nat.reduceLT,↓reduceIte,Nat.reduceEqDiff,reduceCtorEq,d];obtain rfl:=R.fin QT;exact⟨D,Q,S⟩
end
end Go.Fw
namespace Go.Fw
open Go.Proofs
attribute [local irreducible] Ax YH XZ Uk KO KN KX KE VK DK Q7 dK W9
def sf0 (a:Addr):aField Tryz.prog 77 (.pointer (some a)) 0=some (.pointer (some (Co a 0))):=rfl
def sf1 (a:Addr):aField Tryz.prog 77 (.pointer (some a)) 1=some (.pointer (some (Co a 1))):=rfl
def sf2 (a:Addr):aField Tryz.prog 77 (.pointer (some a)) 2=some (.pointer (some (Co a 2))):=rfl
def sf4 (a:Addr):aField Tryz.prog 77 (.pointer (some a)) 4=some (.pointer (some (Co a 4))):=rfl
structure sg (h:AHeap) (B:Nat) (n:Nat) (bv ov fv iv lv:Value):Prop where
 o:h.own B=some (.cells [.int .i64 n,bv,ov,fv,iv,lv])
section
variable {h : AHeap} {B n : Nat} {bv ov fv iv lv : Value}
def sg.le {h':AHeap} (s:sg h B n bv ov fv iv lv) (e:Le h h'):sg h' B n bv ov fv iv lv:=⟨e.own _ _ s.o⟩
def sg.l0 (s:sg h B n bv ov fv iv lv):aload Tryz.prog h 3 ⟨B,0,none⟩=some (.int .i64 n):=by rw[wT Ik rfl s.o];rfl
def sg.l1 (s:sg h B n bv ov fv iv lv):aload Tryz.prog h 27 ⟨B,1,none⟩=some bv:=by rw[wT qS9 rfl s.o];rfl
def sg.l2 (s:sg h B n bv ov fv iv lv):aload Tryz.prog h 59 ⟨B,2,none⟩=some ov:=by rw[wT aO rfl s.o];rfl
def sg.l3 (s:sg h B n bv ov fv iv lv):aload Tryz.prog h 27 ⟨B,3,none⟩=some fv:=by rw[wT qS9 rfl s.o];rfl
def sg.l4 (s:sg h B n bv ov fv iv lv):aload Tryz.prog h 74 ⟨B,4,none⟩=some iv:=by rw[wT qS25 rfl s.o];rfl
def sg.l5 (s:sg h B n bv ov fv iv lv):aload Tryz.prog h 75 ⟨B,5,none⟩=some lv:=by rw[wT rU rfl s.o];rfl
end
def rZ (n:Nat) (f:wi):(Ex n f).length=n:=by simp[Ex]
def Rl {n v:Nat} (f:wi) (a:v<n):(Ex n f)[v]?=some (decide (v∈f)):=by simp[Ex,a]
def Xu (n:Nat):Ex n []=List.replicate n false:=by
 apply Lc;intro i;by_cases c:i<n
 .rw[Rl [] c,gG,if_pos c];simp
 .rw[Tz (by rw[rZ];omega),Tz (by simp;omega)]
def MQ {n v:Nat} (f:wi) (a:v<n):Ex n (f++[v])=(Ex n f).set v true:=by
 apply Lc;intro i;by_cases c:i<n
 .rw [Rl _ c, v8, rZ]
  by_cases e:v=i
  .subst e;rw[if_pos rfl,if_pos a];simp
  .rw [if_neg e, Rl f c]
   have:i≠v:=fun q=>e q.symm;simp[this]
 .rw[Tz (by rw[rZ];omega),Tz (by rw[qm,rZ];omega)]
def x8 (q:Ac) (B n:Nat) (bv ov fv iv lv v:Value) (f:wi) (h:AHeap) (hs:sg h B n bv ov fv iv lv) (e:RL IJ h v (aW f)) (hf:∀x∈f,x<n) (r:n<=1000) (D:f.length<=1000):
  AC Tryz.prog q 133 [.pointer (some ⟨B,0,none⟩),v] h fun x h'=>GS 1 h' x n (Bo (Ex n f))/\Le h h'/\tQ h x:=by
 refine AC.vE ⟨Tryz.func133,rfl,xr⟩ Tryz.ntmps133 Tryz.results133 fun c=>?_;simp only[xq,Nat.reduceAdd];obtain⟨s,u,l1,w1,w⟩:=mV c (List.replicate n (.bool false));have mk:=sA h n r;rw[u]at mk;have hlen:(aW f).length=f.length:=tG f;have o:=fun g=>e.zw g;rw[hlen]at o;simp only[Ud,Nat.reduceLT,↓reduceIte,Nat.reduceEqDiff,reduceCtorEq,sf0,Co,Qs,hs.l0,mk,o]
 have nT:h.own h.next=none:=(Le.refl h).next c (J4 _)
 generalize h.next=T at*
 have y:s.own T=some (.cells (Bo (Ex n (f.take 0)))):=by rw[w,AP,Xu];simp[Bo]
 refine W9.intro (fun k fr d=>∃i:Nat,k=f.length-i/\i<=f.length/\fr=mkF [(5,.slice (some ⟨T,0,none⟩) n n),(13,v),(14,.int .i64 (f.length:Nat)),(15,.int .i64 (i:Nat))]/\d.own T=some (.cells (Bo (Ex n (f.take i))))/\Le h d)
  f.length [(5,.slice (some ⟨T,0,none⟩) n n),(13,v),(14,.int .i64 (f.length:Nat)),(15,.int .i64 (0:Nat))] vy ⟨0,rfl,KW _,rfl,y,l1⟩ ?_
 rintro k fr d z ⟨i,rfl,hi,rfl,oT,leq⟩;refine yq ?_;refine DK.intro (fun p=>?_) (fun hf=>?_)
 .have a : i < f.length := Ub p
  clear p;have A:=e.qW i QT;have ld:=(e.le Rr.IJ leq).HN i QT;rw[uD a]at ld;have j:f.take (i+1)=f.take i++[f[i]]:=QM a;have l:=hf f[i] (om a);generalize f[i]=x at*;have C:aIndexAddr Tryz.prog 59 (.slice (some ⟨T,0,none⟩) n n) (.int .i64 (x:Int))=some (.pointer (some ⟨T,x,none⟩)):=by
   rw[vj aO v7 zd x l];simp[Co]
  have st:aStore Tryz.prog d 4 (.pointer (some ⟨T,x,none⟩)) (.bool true)=some (d.put T (.cells (Bo (Ex n (f.take (i+1)))))):=by
   rw[Qr (P:=Tryz.prog) (t:=4) (x:=.bool true) v7 zd oT (off:=x) (by rw[YM,rZ];exact l) rfl rfl,GZ,j,MQ _ l]
  simp only[Ud,Nat.reduceLT,↓reduceIte,Nat.reduceEqDiff,A,ld,C,st,Gm i QT];exact cX (f.length-(i+1)) [(5,.slice (some ⟨T,0,none⟩) n n),(13,v),(14,.int .i64 (f.length:Nat)),(15,.int .i64 (i+1:Nat))] QT vy ⟨i+1,rfl,a,rfl,AHeap.zm _ _ _,leq.put _ nT⟩
 .have m : f.length <= i := Yv hf
  rw[xV m]at oT;refine yq ?_;refine⟨GS.full oT (by rw[YM,rZ,uZ]) QT,leq,fun b hb=>by simp[blk]at hb;subst hb;exact nT⟩
def Ob (l:Ac) (lv:Value) (xs:LF) (P:Int->Bool) (F:FuncId) {fn:Func} {c:Code} (b:Good Tryz.prog F fn c) (cap:List Value) (h:AHeap) (e:RL IJ h lv xs) (w:xs.length<=100000)
  (hf:∀x∈xs,AC Tryz.prog l F (.int .i64 x::cap) h fun y h'=>y=.bool (P x)/\h'=h):
  AC Tryz.prog l 168 [lv,.func (.func F) #[] cap.toArray] h fun x h'=>((x=.int .i64 (-1)/\xs.any P=false)\/∃i:Nat,x=.int .i64 (i:Nat)/\xs.any P=true)/\h'=h:=by
 refine AC.vE ⟨Tryz.func168,rfl,xr⟩ Tryz.ntmps168 Tryz.results168 fun r=>?_;simp only[xq,Nat.reduceAdd];have s:=fun g=>e.zw g;simp only[Ud,Nat.reduceLT,↓reduceIte,reduceCtorEq,s];refine W9.intro (fun k fr m=>∃i:Nat,k=xs.length-i/\i<=xs.length/\fr=mkF [(0,lv),(1,.func (.func F) #[] cap.toArray),(7,.int .i64 (xs.length:Nat)),(8,.int .i64 (i:Nat))]/\m=h/\(xs.take i).any P=false)
  xs.length [(0,lv),(1,.func (.func F) #[] cap.toArray),(7,.int .i64 (xs.length:Nat)),(8,.int .i64 (0:Nat))] vy ⟨0,rfl,KW _,rfl,rfl,rfl⟩ ?_
 rintro k fr m t ⟨i,rfl,hi,rfl,rfl,d⟩;refine yq ?_;refine DK.intro (fun o=>?_) (fun hf=>?_)
 .have a : i < xs.length := Ub o
  clear o;have u:=e.qW i a;have ld:=e.HN i a;have f:xs.take (i+1)=xs.take i++[xs[i]]:=QM a;have p:=om a;have v:=hf xs[i] p;generalize xs[i]=x at*;simp only[Ud,Nat.reduceLT,↓reduceIte,Nat.reduceEqDiff,reduceCtorEq,u,ld];refine dK.intro pK b (by simpa using v) ?_;rintro y h2 z ⟨rfl,rfl⟩;cases q:P x with
  |true=>
   refine yq ?_;refine⟨.inr ⟨i,rfl,?_⟩,trivial⟩;rw[oZ];exact⟨x,p,q⟩
  |false=>
   simp only[Ud,Nat.reduceLT,↓reduceIte,Nat.reduceEqDiff,reduceCtorEq,Gm i QT];refine cX (xs.length-(i+1)) [(0,lv),(1,.func (.func F) #[] cap.toArray),(7,.int .i64 (xs.length:Nat)),(8,.int .i64 (i+1:Nat))] QT vy ⟨i+1,rfl,a,rfl,rfl,?_⟩;rw[f,List.any_append,d];simp[q]
 .have j : xs.length <= i := Yv hf
  rw[xV j]at d;refine yq ?_;exact⟨.inl ⟨trivial,d⟩,trivial⟩
def Xm (b:Ac) (lv:Value) (xs:LF) (P:Int->Bool) (F:FuncId) {fn:Func} {c:Code} (a:Good Tryz.prog F fn c) (cap:List Value) (h:AHeap) (f:RL IJ h lv xs) (g:xs.length<=100000)
  (hf:∀x∈xs,AC Tryz.prog b F (.int .i64 x::cap) h fun y h'=>y=.bool (P x)/\h'=h):
  AC Tryz.prog b 139 [lv,.func (.func F) #[] cap.toArray] h fun x h'=>x=.bool (xs.any P)/\h'=h:=by
 refine AC.vE ⟨Tryz.func139,rfl,xr⟩ Tryz.ntmps139 Tryz.results139 fun j=>?_;simp only[xq,Nat.reduceAdd];refine yq ?_;refine dK.intro pK ⟨Tryz.func168,rfl,xr⟩ (Ob b lv xs P F a cap h f g hf) ?_;rintro x h2 k ⟨⟨rfl,e⟩|⟨i,rfl,e⟩,rfl⟩
 .have d : decide ((-1 : Int) >= 0) = false := by decide
  simp only[Ud,Nat.reduceLT,↓reduceIte,d,e];exact⟨trivial,trivial⟩
 .have d : decide ((i : Int) >= 0) = true := decide_eq_true QT
  simp only[Ud,Nat.reduceLT,↓reduceIte,d,e];exact⟨trivial,trivial⟩
end Go.Fw
namespace Go.Fw
section
attribute [local instance] Classical.propDecidable
attribute [local irreducible] Ax YH XZ Uk KO KN KX KE VK DK Q7 dK W9
open Go.Proofs
variable {h:AHeap}
def out_any (m:Ac) (B n f d e v:Nat) (bv o p j q:Value) (F:ai) (h:AHeap) (hs:sg h B n bv o p j q) (hi:RL (RL Po) h j (F.map (Ex n))) (hf:f<F.length) (l:v<n)
  (r:h.own e=some (.cells [.pointer (some ⟨B,0,none⟩)])) (s:h.own d=some (.cells [.int .i64 (f:Int)])):
  AC Tryz.prog m 138 [.int .i64 (v:Int),.pointer (some ⟨e,0,none⟩),.pointer (some ⟨d,0,none⟩)] h fun x h'=>x=.bool (!decide (v∈F.getD f []))/\h'=h:=by
 refine AC.vE ⟨Tryz.func138,rfl,xr⟩ Tryz.ntmps138 Tryz.results138 fun t=>?_;simp only[xq,Nat.reduceAdd];have b:f<(F.map (Ex n)).length:=by rw[yA];exact hf
 have l3:aload Tryz.prog h 72 ⟨e,0,none⟩=some (.pointer (some ⟨B,0,none⟩)):=by rw[wT Tryz.underlying72 rfl r];rfl
 have w:aload Tryz.prog h 3 ⟨d,0,none⟩=some (.int .i64 (f:Int)):=by rw[wT Ik rfl s];rfl
 have y:=hi.addr (P:=Tryz.prog) qS25 aO zd (k:=.i64) f b;obtain⟨u,lu,g⟩:=hi.load (P:=Tryz.prog) aO rfl f b;have z:(F.map (Ex n))[f]=Ex n (F.getD f []):=by rw[IP,YR hf]
 rw[z]at g;have a:v<(Ex n (F.getD f [])).length:=by rw[rZ];exact l
 have i:=g.U6 (k:=.i64) v a;have c:=g.Qh v a;have A:(Ex n (F.getD f []))[v]=decide (v∈F.getD f []):=by
  have:=Rl (F.getD f []) l;rw[dR a]at this;injection this
 rw[A]at c;refine yq ?_;refine rD (vu [0,1,2,3,4,5,6,7,8,9,10,11] .done) ?_;simp only[Ud,Nat.reduceLT,↓reduceIte,Nat.reduceEqDiff,reduceCtorEq,rm,l3,w,sf4,Co,Qs,hs.l4,y,lu,i,c]
 try exact⟨trivial,trivial⟩
def box72 (x:Value) (a:x.oneCell'=true) (b:x.cells=#[x]):Qq h x=some (.pointer (some ⟨h.next,0,none⟩),h.alloc (.cells [x])):=by
 simp[Qq,QX,b,a]
def allocI (h:AHeap):aAlloc Tryz.prog h 3=some (.pointer (some ⟨h.next,0,none⟩),h.alloc (.cells [.int .i64 0])):=rfl
def newI (hw:WF h) (x:Int):∃a h2,aAlloc Tryz.prog h 3=some (.pointer (some ⟨h.next,0,none⟩),a)/\aStore Tryz.prog a 3 (.pointer (some ⟨h.next,0,none⟩)) (.int .i64 x)=some h2/\Le h h2/\WF h2/\h2.own h.next=some (.cells [.int .i64 x]):=by
 obtain⟨a,c,l1,w1,b⟩:=mV hw [.int .i64 0]
 have d:h.own h.next=none:=(Le.refl h).next hw (J4 _)
 have st:=Qr (P:=Tryz.prog) (t:=3) (x:=.int .i64 x) Ik zd b (off:=0) YX rfl rfl;exact⟨a,_,by rw[allocI,c],st,l1.put _ d,w1.put _ (w1.lt b),AHeap.zm _ _ _⟩
def iQ (s:Ac) (B n:Nat) (bv N O t P j m:Value) (F:ai) (Xt:LF) (a:wi) (h:AHeap) (hs:sg h B n bv N O t P) (hi:RL (RL Po) h t (F.map (Ex n)))
  (V:RL IJ h j Xt) (ha:RL IJ h m (aW a)) (u:∀x∈Xt,∃v:Nat,x=(v:Int)/\v<n) (w:∀f∈a,f<F.length) (W:Xt.length<=100000) (X:a.length<=100000):
  AC Tryz.prog s 97 [.pointer (some ⟨B,0,none⟩),j,m] h fun x h'=>GI h' x (aW (fg F Xt a))/\Le h h'/\tQ h x:=by
 refine AC.vE ⟨KL,rfl,xr⟩ Tryz.ntmps97 Tryz.results97 fun z=>?_;simp only[xq,Nat.reduceAdd];obtain⟨A,Y,l1,w1,Z⟩:=mV z [.pointer (some ⟨B,0,none⟩)];have Q:=box72 (h:=h) (.pointer (some ⟨B,0,none⟩)) rfl rfl;rw[Y]at Q;have C:(aW a).length=a.length:=tG a;have R:=fun g=>ha.zw g;rw[C]at R
 generalize h.next=o at*
 simp only[Ud,Nat.reduceLT,↓reduceIte,Nat.reduceEqDiff,reduceCtorEq,Q,R];refine W9.intro (fun k fr p=>∃(i:Nat) (q:Value),k=a.length-i/\i<=a.length/\fr=mkF [(1,j),(3,.pointer (some ⟨o,0,none⟩)),(7,q),(11,m),(12,.int .i64 (a.length:Nat)),(13,.int .i64 (i:Nat))]/\Le A p/\GI p q (aW (fg F Xt (a.take i)))/\tQ A q)
  a.length [(1,j),(3,.pointer (some ⟨o,0,none⟩)),(7,.slice none 0 0),(11,m),(12,.int .i64 (a.length:Nat)),(13,.int .i64 (0:Nat))] vy ⟨0,_,rfl,KW _,rfl,Le.refl _,GI.nil _,fun b hb=>by simp[blk]at hb⟩ ?_
 rintro k fr p D ⟨i,q,rfl,ag,rfl,E,g,ap⟩;refine yq ?_;refine DK.intro (fun S=>?_) (fun hf=>?_)
 .have d : i < a.length := Ub S
  clear S;have ad:=ha.qW i QT;have ld:=(ha.le Rr.IJ (l1.trans E)).HN i QT;rw[uD d]at ld;have G:a.take (i+1)=a.take i++[a[i]]:=QM d;have H:=w a[i] (om d);generalize a[i]=f at*;obtain⟨h2,h3,e2,e3,l3,w3,T⟩:=newI D (f:Int);have e:=E.trans l3;have l:=l1.trans e
  have I:aload Tryz.prog h3 3 ⟨p.next,0,none⟩=some (.int .i64 (f:Int)):=by rw[wT Ik rfl T];rfl
  have key:=Xm s j Xt (fun x=>!decide (x.toNat∈F.getD f [])) 138 ⟨Tryz.func138,rfl,xr⟩ [.pointer (some ⟨o,0,none⟩),.pointer (some ⟨p.next,0,none⟩)] h3 (V.le Rr.IJ l) W fun x J=>by
   obtain⟨v,rfl,hv⟩:=u x J
   have:=out_any s B n f p.next o v bv N O t P F h3 (hs.le l) (hi.le (Rr.RL Rr.Po) l) H hv (e.own _ _ Z) T
   rw[TK];exact this
  simp only[Ud,Nat.reduceLT,↓reduceIte,Nat.reduceEqDiff,ad,ld,e2,e3];refine dK.intro pK ⟨Tryz.func139,rfl,xr⟩ key ?_;rintro y h4 w4 ⟨rfl,rfl⟩
  have c:fg F Xt (a.take (i+1))=fg F Xt (a.take i)++if(Xt.any fun x=>!decide (x.toNat∈F.getD f []))=false then[f]else[]:=by
   rw[G];unfold fg;rw[zQ];congr 1;have:TV F Xt f=!(Xt.any fun x=>!decide (x.toNat∈F.getD f [])):=by
    unfold TV;rw[List.not_any_eq_all_not];simp
   rw[UR,this];cases (Xt.any fun x=>!decide (x.toNat∈F.getD f []))<;>simp
  cases hb:(Xt.any fun x=>!decide (x.toNat∈F.getD f []))with
  |true=>
   rw[hb]at c;simp only[Ud,Nat.reduceLT,↓reduceIte,Nat.reduceEqDiff,Gm i QT];refine cX (a.length-(i+1)) [(1,j),(3,.pointer (some ⟨o,0,none⟩)),(7,q),(11,m),(12,.int .i64 (a.length:Nat)),(13,.int .i64 (i+1:Nat))] QT vy ⟨i+1,q,rfl,d,rfl,e,?_,ap⟩;rw[c];simpa using g.le l3
  |false=>
   rw[hb,if_pos rfl]at c;have g3:=g.le l3;have K:(aW (fg F Xt (a.take i))).length<=100000:=by
    rw[tG];have:=ET (TV F Xt) (a.take i);unfold fg;rw[Ja]at this;omega
   obtain⟨r,h5,h6,e5,e6,U,w6,l5,L,-⟩:=g3.push w3 (f:Int) K;obtain⟨l6,a6⟩:=L A e ap;have e7:aW (fg F Xt (a.take i))++[(f:Int)]=aW (fg F Xt (a.take (i+1))):=by rw[c];simp[aW]
   rw[e7]at U;simp only[Ud,Nat.reduceLT,↓reduceIte,Nat.reduceEqDiff,I,e5,e6,Gm i QT];exact cX (a.length-(i+1)) [(1,j),(3,.pointer (some ⟨o,0,none⟩)),(7,r),(11,m),(12,.int .i64 (a.length:Nat)),(13,.int .i64 (i+1:Nat))] QT vy ⟨i+1,r,rfl,d,rfl,l6,U,a6⟩
 .have M : a.length <= i := Yv hf
  rw[xV M]at g;refine yq ?_;exact⟨g,l1.trans E,fun b hb=>l1.none (ap b hb)⟩
variable {a b:Int} {j m:Nat} {p:Pr} {pl:LF} {α:Type}
def yI {n:Nat} {way:wi} (a:way.length<=1000):∀i,i<=way.length->∀(v:Nat) x,(XP n way i)[v]?=some x->-1<=x/\x<=1000
 |0,_,v,x,h=>by
  rw[XP,gG]at h;split at h
  .injection h with h;omega
  .cases h
 |i+1,hi,v,x,h=>by
  rw[XP,v8]at h;split at h
  .split at h
   .injection h with h;omega
   .cases h
  .exact yI a i QT v x h
def zE (ha:pl.getD p.1.toNat 0=a) (hb:pl.getD p.2.toNat 0=b) (h:a<0\/b<0\/(a-b≠1/\b-a≠1)):Cf pl p=true:=by
 unfold Cf;rw[ha,hb];simp only[Z0,SH,decide_eq_true_eq];rcases h with h|h|h
 .exact .inl (.inl h)
 .exact .inl (.inr h)
 .exact .inr h
def Zb (ha:pl.getD p.1.toNat 0=a) (hb:pl.getD p.2.toNat 0=b) (c:¬a<0) (h2:¬b<0) (h3:a-b=1\/b-a=1):Cf pl p=false:=by
 unfold Cf;rw[ha,hb];simp only[qL252,YZ,decide_eq_false_iff_not];refine⟨⟨c,h2⟩,?_⟩;rcases h3 with h|h
 .exact .inl fun q=>q h
 .exact .inr fun q=>q h
def mY {x y:Int} (a:-1<=x/\x<=1000) (b:-1<=y/\y<=1000):awrap .i64 (x-y)=x-y:=GQ _ QT QT
def fil_b {l:List α} (q:α->Bool) (h:l.length<=1000) (j:Nat):((l.take j).filter q).length+1<=100000:=by
 have:=ET q (l.take j);rw[Ja]at this;omega
def Ei (h:m<=1000):m<=40000:=QT
def ym (h:j<m) (h2:m<=40000):j<4611686018427387904:=QT
def Pd (W0:Ac) (B n:Nat) (bv ov fv iv lv ev A:Value) (bG:List Pr) (way:wi) (h:AHeap) (hs:sg h B n bv ov fv iv lv) (V:PR h ev bG) (hw:RL IJ h A (aW way))
  (hR:I7 n bG) (W:∀x∈way,x<n) (hn:n<=300) (C:bG.length<=1000) (hl:way.length<=1000):
  AC Tryz.prog W0 103 [.pointer (some ⟨B,0,none⟩),ev,A] h fun x h'=>GP h' x (im n bG way)/\Le h h'/\tQ h x:=by
 refine AC.vE ⟨Tryz.func103,rfl,xr⟩ Tryz.ntmps103 Tryz.results103 fun X=>?_;simp only[xq,Nat.reduceAdd];obtain⟨h1,e1,l1,w1,o1⟩:=mV X [.int .i64 (-1)];have s1:=hs.le l1;simp only[Ud,Nat.reduceLT,↓reduceIte,reduceCtorEq,Vb,e1,sf0,Co,Qs,s1.l0];refine dK.intro pK ⟨lH,rfl,xr⟩ (SV W0 _ n QT h1 (RL.Kr (RS.whole o1 rfl))) ?_;rintro x h2 w2 ⟨T,rfl,hT,o2,l2⟩
 have nT:h.own T=none:=l1.next w1 hT
 have D:=l1.trans l2;have oT:h2.own T=some (.cells (oY (XP n way 0))):=by rw[o2];simp[oY,XP]
 have hlen:(aW way).length=way.length:=tG way;have ll:=fun g=>hw.zw g;rw[hlen]at ll;have r:=fun(k:IntKind) j hj=>WS T n k j hj;simp only[Ud,Nat.reduceLT,↓reduceIte,Nat.reduceEqDiff,ll];refine W9.intro (fun k fr Y=>∃i:Nat,k=way.length-i/\i<=way.length/\fr=mkF [(1,ev),(7,.slice (some ⟨T,0,none⟩) n n),(21,A),(22,.int .i64 (way.length:Nat)),(23,.int .i64 (i:Nat))]/\Y.own T=some (.cells (oY (XP n way i)))/\Le h Y)
  way.length [(1,ev),(7,.slice (some ⟨T,0,none⟩) n n),(21,A),(22,.int .i64 (way.length:Nat)),(23,.int .i64 (0:Nat))] vy ⟨0,rfl,KW _,rfl,oT,D⟩ ?_
 clear oT o2 l2 w2 D;rintro k fr Y Z ⟨i,rfl,hi,rfl,oT,R⟩;refine yq ?_;refine DK.intro (fun F=>?_) (fun hf=>?_)
 .have e : i < way.length := Ub F
  clear F;have ad:=hw.qW i QT;have ld:=(hw.le Rr.IJ R).HN i QT;rw[uD e]at ld;have hx:=W way[i] (om e);have ag:way.getD i 0=way[i]:=YR e;have st:=uH oT (i:=way[i]) (by rw[iL];exact hx) (i:Int);simp only[Ud,Nat.reduceLT,↓reduceIte,Nat.reduceEqDiff,ad,ld,r _ _ hx,st,Gm i (ym e (Ei hl))];refine cX (way.length-(i+1)) [(1,ev),(7,.slice (some ⟨T,0,none⟩) n n),(21,A),(22,.int .i64 (way.length:Nat)),(23,.int .i64 (i+1:Nat))] (dN e) vy ⟨i+1,rfl,e,rfl,?_,R.put _ nT⟩;rw[AHeap.zm,XP,ag]
 have G:way.length<=i:=Yv hf;obtain rfl:i=way.length:=QT;have uJ:=yI (n:=n) hl way.length (J4 _);have H:=iL n way way.length;have ah:=fun g=>V.len g;unfold im;generalize XP n way way.length=pl at*;simp only[Ud,Nat.reduceLT,↓reduceIte,Nat.reduceEqDiff,ah];refine W9.intro (fun k fr o=>∃(j:Nat) (l:Value),k=bG.length-j/\j<=bG.length/\fr=mkF [(7,.slice (some ⟨T,0,none⟩) n n),(10,l),(33,ev),(34,.int .i64 (bG.length:Nat)),(35,.int .i64 (j:Nat))]/\o.own T=some (.cells (oY pl))/\Le h o/\GP o l ((bG.take j).filter (Cf pl))/\tQ h l/\blk l≠some T)
  bG.length [(7,.slice (some ⟨T,0,none⟩) n n),(10,.slice none 0 0),(33,ev),(34,.int .i64 (bG.length:Nat)),(35,.int .i64 (0:Nat))] vy ⟨0,_,rfl,KW _,rfl,oT,R,GP.nil _,fun b hb=>by simp[blk]at hb,by simp[blk]⟩ ?_
 clear oT R Z;rintro k fr o I ⟨j,l,rfl,hj,rfl,oT,lz,g,ap,nb⟩;refine yq ?_;refine DK.intro (fun F=>?_) (fun hf=>?_)
 rotate_left
 .have G : bG.length <= j := Yv hf
  rw[xV G]at g;refine yq ?_;exact⟨g,lz,ap⟩
 have c:j<bG.length:=Ub F;clear F;have aj:=XR c;have J:bG.take (j+1)=bG.take j++[bG[j]]:=QM c;obtain⟨p1,p2,p3⟩:=hR bG[j] (om c);have ad:=V.addr (k:=.i64) j c;have ld:=(V.le lz).load aj;generalize bG[j]=p at*;obtain⟨h3,h4,e3,e4,l4,w4,o4⟩:=bS I p
 have aE:o.own o.next=none:=(Le.refl o).next I (J4 _)
 have s:=lz.trans l4;have f:=l4.own _ _ oT;have g4:=g.le l4;have Lp:=E3 o4;have L0:=Ol o4;have L1:=Lt o4
 generalize o.next=E at*
 obtain⟨a,ea⟩:∃a:Nat,p.1=(a:Int):=⟨p.1.toNat,QT⟩;obtain⟨b,eb⟩:∃b:Nat,p.2=(b:Int):=⟨p.2.toNat,QT⟩;have K:a<n:=QT;have L:b<n:=QT;rw[ea]at L0;rw[eb]at L1;have ak:a<pl.length:=by rw[H];exact K
 have al:b<pl.length:=by rw[H];exact L
 have hA:=XR ak;have hB:=XR al;have rA:=uJ a _ hA;have rB:=uJ b _ hB;have M:pl.getD p.1.toNat 0=pl[a]:=by rw[ea,TK];exact YR _
 have gB:pl.getD p.2.toNat 0=pl[b]:=by rw[eb,TK];exact YR _
 have lA:=AK f hA;have lB:=AK f hB;generalize pl[a]=x at*;generalize pl[b]=y at*;have t:=mY rA rB;have N:=mY rB rA;have aw:=Gm j (ym c (Ei C));have aq:=fil_b (Cf pl) C j
 have yes:Cf pl p=true->∃d u m,aBuildSlice Tryz.prog h4 22 1 [(0,Ov p)]=some (.slice (some ⟨h4.next,0,none⟩) 1 1,u)/\aAppend Tryz.prog u 22 22 l (.slice (some ⟨h4.next,0,none⟩) 1 1)=some (d,m)/\m.own T=some (.cells (oY pl))/\Le h m/\GP m d ((bG.take (j+1)).filter (Cf pl))/\tQ h d/\blk d≠some T:=fun q=>by
  obtain⟨d,u,m,v,w,g7,w7,l6,ar,av⟩:=g4.push w4 p aq;obtain⟨l7,a7⟩:=ar h s ap;obtain⟨ay,aB⟩:=av T _ f nb;refine⟨d,u,m,v,w,ay,l7,?_,a7,aB⟩;rw[J,zQ,UR,q];exact g7
 have no:Cf pl p=false->(bG.take (j+1)).filter (Cf pl)=(bG.take j).filter (Cf pl):=fun q=>by
  rw[J,zQ,UR,q];simp
 simp only[Ud,Nat.reduceLT,↓reduceIte,Nat.reduceEqDiff,ad,ld,e3,e4];refine rD (vu [0,1,2,3,4,5,6,7,8,9,10,11] .done) ?_;simp only[Ud,Nat.reduceLT,↓reduceIte,Nat.reduceEqDiff,rm,Il,Mt,Co,Qs,L0,L1,r _ a K,r _ b L,lA,lB];by_cases c1:x<0
 .obtain ⟨d, u, m, v, w, r1, r2, O, P, Q⟩ := yes (zE M gB (.inl c1))
  simp only[Ud,Nat.reduceLT,↓reduceIte,Nat.reduceEqDiff,c1,Lp,v,w,aw];exact cX (bG.length-(j+1)) [(7,.slice (some ⟨T,0,none⟩) n n),(10,d),(33,ev),(34,.int .i64 (bG.length:Nat)),(35,.int .i64 (j+1:Nat))] (dN c) vy ⟨j+1,d,rfl,c,rfl,r1,r2,O,P,Q⟩
 by_cases c2:y<0
 .obtain ⟨d, u, m, v, w, r1, r2, O, P, Q⟩ := yes (zE M gB (.inr (.inl c2)))
  simp only[Ud,Nat.reduceLT,↓reduceIte,Nat.reduceEqDiff,c1,c2,Lp,v,w,aw];exact cX (bG.length-(j+1)) [(7,.slice (some ⟨T,0,none⟩) n n),(10,d),(33,ev),(34,.int .i64 (bG.length:Nat)),(35,.int .i64 (j+1:Nat))] (dN c) vy ⟨j+1,d,rfl,c,rfl,r1,r2,O,P,Q⟩
 by_cases S:x-y=1
 .have z := no (Zb M gB c1 c2 (.inl S))
  have d3:decide (x-y=1)=true:=decide_eq_true S;simp only[Ud,Nat.reduceLT,↓reduceIte,Nat.reduceEqDiff,c1,c2,t,bne,d3,aw];exact cX (bG.length-(j+1)) [(7,.slice (some ⟨T,0,none⟩) n n),(10,l),(33,ev),(34,.int .i64 (bG.length:Nat)),(35,.int .i64 (j+1:Nat))] (dN c) vy ⟨j+1,l,rfl,c,rfl,f,s,by rw[z];exact g4,ap,nb⟩
 have d3:decide (x-y=1)=false:=decide_eq_false S;by_cases U:y-x=1
 .have z := no (Zb M gB c1 c2 (.inr U))
  have d4:decide (y-x=1)=true:=decide_eq_true U;simp only[Ud,Nat.reduceLT,↓reduceIte,Nat.reduceEqDiff,c1,c2,t,N,bne,d3,d4,aw];exact cX (bG.length-(j+1)) [(7,.slice (some ⟨T,0,none⟩) n n),(10,l),(33,ev),(34,.int .i64 (bG.length:Nat)),(35,.int .i64 (j+1:Nat))] (dN c) vy ⟨j+1,l,rfl,c,rfl,f,s,by rw[z];exact g4,ap,nb⟩
 have d4:decide (y-x=1)=false:=decide_eq_false U;obtain⟨d,u,m,v,w,r1,r2,O,P,Q⟩:=yes (zE M gB (.inr (.inr ⟨S,U⟩)));simp only[Ud,Nat.reduceLT,↓reduceIte,Nat.reduceEqDiff,c1,c2,t,N,bne,d3,d4,Lp,v,w,aw];exact cX (bG.length-(j+1)) [(7,.slice (some ⟨T,0,none⟩) n n),(10,d),(33,ev),(34,.int .i64 (bG.length:Nat)),(35,.int .i64 (j+1:Nat))] (dN c) vy ⟨j+1,d,rfl,c,rfl,r1,r2,O,P,Q⟩
end
end Go.Fw
namespace Go.Fw
open Go.Proofs
attribute [local irreducible] Ax YH XZ Uk KO KN KX KE VK DK Q7 dK W9
attribute [local instance] Classical.propDecidable
def RV (h:AHeap):aAlloc Tryz.prog h 49=some (.pointer (some ⟨h.next,0,none⟩),h.alloc (.cells [.slice none 0 0])):=rfl
structure ss (b0 h:AHeap) (S5 T6 M7 T n start:Nat) (mv:Value) (st:LF×wi):Prop where
 oS:h.own S5=some (.cells [.int .i64 (start:Int)])
 o6:h.own T6=some (.cells [.slice (some ⟨T,0,none⟩) n n])
 oT:h.own T=some (.cells (oY st.1))
 oM:h.own M7=some (.cells [mv])
 gm:GI h mv (aW st.2)
 nS:b0.own S5=none
 n6:b0.own T6=none
 nT:b0.own T=none
 nM:b0.own M7=none
 am:tQ b0 mv
 d1:T≠T6
 d2:T≠M7
 d3:T≠S5
 d4:M7≠S5
 d5:M7≠T6
 m1:blk mv≠some S5
 m2:blk mv≠some T6
 m3:blk mv≠some T
 m4:blk mv≠some M7
 le:Le b0 h
section
variable {b0 h : AHeap} {S5 T6 M7 T n start : Nat} {mv : Value} {st : List Int × List Nat}
def ss.up {h':AHeap} (W:ss b0 h S5 T6 M7 T n start mv st) (e:Le h h'):ss b0 h' S5 T6 M7 T n start mv st:=
 {W with oS:=e.own _ _ W.oS,o6:=e.own _ _ W.o6,oT:=e.own _ _ W.oT,oM:=e.own _ _ W.oM,gm:=W.gm.le e,le:=W.le.trans e}
def ss.lS (W:ss b0 h S5 T6 M7 T n start mv st):aload Tryz.prog h 3 ⟨S5,0,none⟩=some (.int .i64 (start:Int)):=by rw[wT Ik rfl W.oS];rfl
def ss.l6 (W:ss b0 h S5 T6 M7 T n start mv st):aload Tryz.prog h 49 ⟨T6,0,none⟩=some (.slice (some ⟨T,0,none⟩) n n):=by rw[wT Rm rfl W.o6];rfl
def ss.lM (W:ss b0 h S5 T6 M7 T n start mv st):aload Tryz.prog h 49 ⟨M7,0,none⟩=some mv:=by rw[wT Rm rfl W.oM];rfl
end
def wZ {start:Nat} {st:LF×wi} {v by_:Nat} (h:v≠start) (h2:st.1.getD v 0<0):Cm start st v by_=(st.1.set v (by_:Int),st.2++[v]):=by unfold Cm;rw[if_pos ⟨h,h2⟩]
def Bd {start:Nat} {st:LF×wi} {v by_:Nat} (h:v=start\/¬st.1.getD v 0<0):Cm start st v by_=st:=by
 unfold Cm;rw[if_neg];rintro⟨a,b⟩;exact h.elim a fun q=>q b
def Sz (p:Ac) {b0 h:AHeap} {S5 T6 M7 T n start:Nat} {mv:Value} {st:LF×wi} (W:ss b0 h S5 T6 M7 T n start mv st) (z:st.1.length=n) {v by_:Nat} (q:v<n) (A:st.2.length<=1000):
  AC Tryz.prog p 140 [.int .i64 (v:Int),.int .i64 (by_:Int),.pointer (some ⟨S5,0,none⟩),.pointer (some ⟨T6,0,none⟩),.pointer (some ⟨M7,0,none⟩)] h fun _ h'=>∃d,ss b0 h' S5 T6 M7 T n start d (Cm start st v by_):=by
 refine AC.vE ⟨qS34,rfl,xr⟩ Tryz.ntmps140 Tryz.results140 fun e=>?_;simp only[xq,Nat.reduceAdd];have r:=XR (show v<st.1.length by omega);have gd:st.1.getD v 0=st.1[v]'(by omega):=YR QT
 have o:=WS T n .i64 v q;have ld:=AK W.oT r;generalize st.1[v]'(by omega)=x at*
 by_cases c1:v=start
 .have d1 : decide ((v : Int) = (start : Int)) = true := decide_eq_true QT
  simp only[Ud,Nat.reduceLT,↓reduceIte,Nat.reduceEqDiff,reduceCtorEq,W.lS,bne,d1];exact⟨mv,by rw[Bd (.inl c1)];exact W⟩
 have d1:decide ((v:Int)=(start:Int))=false:=decide_eq_false QT;by_cases c2:x<0
 rotate_left
 .simp only [Ud, Nat.reduceLT, ↓reduceIte, Nat.reduceEqDiff, reduceCtorEq, W.lS, bne, d1, W.l6, o, ld, c2]
  exact⟨mv,by rw[Bd (.inr (by rw[gd];exact c2))];exact W⟩
 have st1:=uH W.oT (i:=v) QT (by_:Int);have b:ss b0 (h.put T (.cells (oY (st.1.set v (by_:Int))))) S5 T6 M7 T n start mv (st.1.set v (by_:Int),st.2):=
  {W with
   oS:=by rw[AHeap.Dz _ _ _ _ (Hn W.d3)];exact W.oS
   o6:=by rw[AHeap.Dz _ _ _ _ (Hn W.d1)];exact W.o6
   oT:=AHeap.zm _ _ _
   oM:=by rw[AHeap.Dz _ _ _ _ (Hn W.d2)];exact W.oM
   gm:=GS.put W.gm _ W.m3
   le:=W.le.put _ W.nT}
 have w1:WF (h.put T (.cells (oY (st.1.set v (by_:Int))))):=e.put _ (e.lt W.oT);rw[wZ c1 (by rw[gd];exact c2)];simp only[Ud,Nat.reduceLT,↓reduceIte,Nat.reduceEqDiff,reduceCtorEq,W.lS,bne,d1,W.l6,o,ld,c2,st1];generalize h.put T (.cells (oY (st.1.set v (by_:Int))))=B at*;obtain⟨d,h2,h3,s,u,f,C,l2,hf,g⟩:=b.gm.push w1 (v:Int) (by rw[tG];simp only;omega);obtain⟨l3,w⟩:=hf b0 b.le b.am;obtain⟨j,m1⟩:=g _ _ b.oS b.m1;obtain⟨k,m2⟩:=g _ _ b.o6 b.m2;obtain⟨l,m3⟩:=g _ _ b.oT b.m3;obtain⟨m,m4⟩:=g _ _ b.oM b.m4;have stM:=Qr (P:=Tryz.prog) (t:=49) (x:=d) Rm zd m (off:=0) YX (by obtain⟨a,c,rfl,_⟩:=f.rl.sl;rfl) f.rl.sl.one;simp only[Ud,Nat.reduceLT,↓reduceIte,Nat.reduceEqDiff,reduceCtorEq,b.lM,s,u,stM];have y:aW st.2++[(v:Int)]=aW (st.2++[v]):=by simp[aW]
 rw[y]at f;exact⟨d,{b with
   oS:=by rw[AHeap.Dz _ _ _ _ (Hn W.d4)];exact j
   o6:=by rw[AHeap.Dz _ _ _ _ (Hn W.d5)];exact k
   oT:=by rw[AHeap.Dz _ _ _ _ W.d2];exact l
   oM:=AHeap.zm _ _ _
   gm:=GS.put f _ m4
   am:=w,m1:=m1,m2:=m2,m3:=m3,m4:=m4
   le:=l3.put _ W.nM}⟩
end Go.Fw
