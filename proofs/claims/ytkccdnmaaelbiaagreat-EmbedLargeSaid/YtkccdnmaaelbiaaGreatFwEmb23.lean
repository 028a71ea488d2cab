/- A text. -/
import Derived.Test.YtkccdnmaaelbiaaGreatFwEmb17
set_option linter.all false
set_option maxRecDepth 99999
set_option maxHeartbeats 9999999
namespace Go.Fw
attribute [local instance] Classical.propDecidable
structure QG (R:Nat->II):Prop where
 bp:∀v w,R v≠[]->R w≠[]->Cr R v w
 Z7:∀c v w,v≠c->w≠c->R v≠[]->R w≠[]->Cr (Om (fun x y=>x≠c/\y≠c) R) v w
section
variable {n : Nat} {R R' : Nat → List Nat} {H : Nat → Nat → Prop} {F : List (List Nat)}
theorem QG.same (D:QG R) (b:∀v w,w∈R' v↔w∈R v):QG R':=by
 have ne:∀{v},R' v≠[]->R v≠[]:=fun{v} h e=>by
  obtain⟨w,l,q⟩:=Gw h;have:w∈R v:=(b v w).1 (by rw[q];simp)
  grind
 refine⟨fun v w a hw=>(D.bp v w (ne a) (ne hw)).mono fun x y h=>(b x y).2 h,fun c v w d h2 a hw=>(D.Z7 c v w d h2 (ne a) (ne hw)).mono fun x y h=>?_⟩
 grind [EM]
theorem tq {r:Nat->II} (g:V7 n R) (sub:∀v w,w∈r v->w∈R v) {v w:Nat} (h:Cr r v w) (d:off R H v):(Cr (Mm R H) v w/\off R H w)\/∃y z,Cr (Mm R H) v y/\off R H y/\¬off R H z/\z∈r y:=by
 induction h with
 |refl=>exact .inl ⟨.refl _,d⟩
 |@step b c _ e a=>
  rcases a with⟨f,h2⟩|a
  .by_cases q : off R H c
   .exact .inl ⟨f.step (EM.2 ⟨sub _ _ e,h2,q⟩),q⟩
   grind
  grind
theorem Ctx.pieces (C:Ctx n R H F) (D:QG R) (h2:∃p q,p≠q/\¬off R H p/\¬off R H q):Pg n R H F:=by
 obtain⟨p,q,A,j,J⟩:=h2;have a:=C.Rl;have d:∀{v w},w∈R v->R v≠[]:=fun h e=>by grind
 have m:∀{v},¬off R H v->R v≠[]:=fun h=>by grind [Q7]
 have mk:∀{r:Nat->II} {v w:Nat},(∀v w,w∈r v->w∈R v)->Cr r v w->off R H v->¬off R H w->∃u x,QP R H u x/\QI R H u x=(0,lo R H v,0)/\x∈R u/\u∈r x:=fun{r v w} sub o B hw=>by
  rcases tq a sub o B with h|⟨y,z,E,h2,h3,f⟩
  .grind
  .have s := a.sy _ _ (sub _ _ f)
   exact⟨z,y,⟨h3,s,fun k=>h2 z (sub _ _ f) (C.sym _ _ k)⟩,by grind [Jn,fX],s,f⟩
 refine⟨C,fun u x b=>?_,fun v w hw G=>?_⟩
 .by_cases c : off R H x
  .have : ∃ t, t ≠ u /\ ¬ off R H t := pw
   obtain⟨t,I,g⟩:=this;have i:x≠u:=fun e=>b.on (e▸c);have o:=D.Z7 u x t i I (d (a.sy _ _ b.mem)) (m g)
   grind [EM,Jn,QP.on]
  .exact⟨x,u,⟨c,a.sy _ _ b.mem,fun k=>b.nh (C.sym _ _ k)⟩,fun e=>a.ir u (e▸b.mem),RX a b.mem⟩
 .by_cases c : off R H v
  .obtain ⟨z, y, E, h2, _⟩ := mk (fun _ _ h => h) (D.bp v p (d hw) (m j)) c j
   grind [M6]
  .exact⟨v,w,⟨c,hw,G⟩,rfl⟩
end
def Ei (l:II) (x y:Nat):Prop:=(x∈l/\nx l x=y)\/(y∈l/\nx l y=x)
theorem fz {l:II} (nd:l.Nodup) (h3:3<=l.length) {v:Nat} (d:v∈l):nx l v≠pv l v:=fun e=>by
 have f:nx l (nx l v)=v:=by grind [G5]
 have QI:∀k,it (nx l) k v=v\/it (nx l) k v=nx l v:=fun k=>by
  induction k<;>grind [it]
 have sub:∀w∈l,w∈[v,nx l v]:=fun w hw=>by
  obtain⟨k,rfl⟩:=JT nd d hw
  grind
 clear QI f e d;generalize nx l v=w at sub
 match l,h3 with
 |a::b::c::t,_=>
  have ha:=sub a Ma;have hb:=sub b Ma;have g:=sub c Ma
  grind
section
variable {n : Nat} {R : Nat → List Nat} {l : List Nat}
def ki {x y:Nat} (h:Ei l x y):Ei l y x:=h.symm
theorem Cy (i:V7 n R) (fl:Flat n R) (nd:l.Nodup) (h3:3<=l.length) (j:∀v∈l,nx l v∈R v):Ctx n R (Ei l) [l,l.reverse]:=by
 have hR:V7 n (Om (Ei l) R):=OG i fun _ _ h=>ki h;have m:l.reverse.Nodup:=Gv nd;have b:∀v∈l,∀w,w∈Om (Ei l) R v↔w=pv l v\/w=nx l v:=fun v a w=>by
  rw[EM];constructor
  .rintro ⟨_, h | h⟩
   all_goals grind [c7]
  .rintro (rfl | rfl)
   .have k1 := BJ a
    have k2:=G5 nd a;refine⟨?_,.inr ⟨k1,k2⟩⟩
    grind [V7.sy]
   .exact⟨j v a,.inl ⟨a,rfl⟩⟩
 have c:∀v w,w∈Om (Ei l) R v->v∈l:=fun v w h=>by
  rcases(EM.1 h).2 with h|h
  all_goals grind [ZP]
 have two:∀v∈l,nx (Om (Ei l) R v) (pv l v)=nx l v/\nx (Om (Ei l) R v) (nx l v)=pv l v:=fun v a=>ZZ (hR.nd v) (uV (fz nd h3 a)) (b v a);have p:∀v,nx l.reverse v=pv l v:=fun v=>rfl;have ne:l≠[]:=fun e=>by grind
 have O:FO (Om (Ei l) R) [l,l.reverse]:=by
  refine⟨fun f hf=>?_,fun f hf=>?_,fun f hf v a=>?_,fun f hf v a=>?_,fun v w hw=>?_,fun f hf g hg v r h2 e=>?_,?_⟩
  .grind
  .simp at hf; rcases hf with rfl | rfl
   .exact ne
   .simpa using ne
  .grind
  .grind [ZP,c7]
  .grind
  .grind [fz]
  .simp only [xD, j9, Db, not_false_eq_true, gS, and_true]
   intro e;obtain⟨v,t,q⟩:=Gw ne;have a:v∈l:=by rw[q];simp
   grind [fz]
 refine⟨i,fun _ _ h=>ki h,fl,O,fun v w a hw=>?_⟩;have inl:∀{v},Om (Ei l) R v≠[]->v∈l:=fun{v} h=>by
  obtain⟨w,t,q⟩:=Gw h;exact c v w (by rw[q];simp)
 obtain⟨k,rfl⟩:=JT nd (inl a) (inl hw);have d:=inl a;clear hw a;have:∀k,Cr (Om (Ei l) R) v (it (nx l) k v):=fun k=>by
  induction k with
  |zero=>exact .refl _
  |succ k o=>exact o.step ((b _ (O.it Ma d k).1 _).2 (.inr rfl))
 exact this k
end
end Go.Fw
namespace Go.Fw
attribute [local instance] Classical.propDecidable
noncomputable def kV (n:Nat) (r:Nat->II):II:=(List.range n).filter fun v=>decide (r v≠[])
def iI (n:Nat) (r:Nat->II) (F:Cs):Prop:=2*((kV n r).length+F.length)=(dl n r).length+4
theorem nu {L:II} {c:Nat}:∀X:II,(X.map fun v=>if v∈L then c else 0).sum=c*(X.filter fun v=>decide (v∈L)).length
 |[]=>rfl
 |x::X=>by
  rw[QD,C4,nu X]
  grind
def NT {f g h k:Nat->Nat}:∀X:II,(∀x∈X,f x=g x+h x+k x)->(X.map f).sum=(X.map g).sum+(X.map h).sum+(X.map k).sum
 |[],_=>rfl
 |x::X,c=>by
  simp only[QD,C4];rw[NT X fun y d=>c y (kc _ d),c x iy];omega
theorem Xp {n:Nat} {L:II} (nd:L.Nodup) (h:∀x∈L,x<n):((List.range n).filter fun v=>decide (v∈L)).length=L.length:=by
 refine(yR (LH.sublist ZT) nd fun v=>?_).length_eq
 grind
theorem Vq (n:Nat) (r:Nat->II):(dl n r).length=((List.range n).map fun v=>(r v).length).sum:=by grind [dl,List.map_congr_left]
section
variable {n : Nat} {r r' : Nat → List Nat} {F F' : List (List Nat)} {a b : Nat} {inn : List Nat}
def Lay.lts (L:Lay n r r' a b inn):a<n/\b<n/\∀x∈inn,x<n:=by
 refine⟨L.R'.lt _ _ L.sa,L.R'.lt _ _ L.sb,fun x c=>?_⟩;obtain⟨i,p,d,h2⟩:=qm (a:=a) (b:=b) (.inr c);exact L.R'.lt _ _ (L.R'.sy _ _ (L.UQ d h2))
theorem Lay.deg (L:Lay n r r' a b inn) (v:Nat):(r' v).length=(r v).length+(if v∈[a,b]then 1 else 0)+(if v∈inn then 2 else 0):=by
 have one:∀{l:II} {s:Nat},s∈l->l.length=(l.erase s).length+1:=fun{l s} h=>by grind
 by_cases c1:v=a
 .subst c1
  rw[one L.sa,L.ea,if_pos Ma,if_neg L.ain]
 by_cases c2:v=b
 .subst c2
  rw[one L.sb,L.eb,if_pos Ma,if_neg L.bin]
 rw[if_neg (by simp[c1,c2])];by_cases c:v∈inn
 .rw [if_pos c, L.off v c]
  obtain⟨i,p,f,g⟩:=qm (a:=a) (b:=b) (.inr c);have j:=(vT.1 g).1;have hi:i+2<(nr a inn b).length:=by grind [Eo,Fg]
  obtain⟨_,_,k⟩:=L.mid i p v _ f g (BS hi);have d:p≠(nr a inn b)[i+2]:=fun e=>by
   have:=X6 L.ndP f (by rw[e];exact BS hi);omega
  have:=(yR (L.R'.nd v) (by simp[d]:[p,(nr a inn b)[i+2]].Nodup) fun y=>by rw[k];simp).length_eq
  grind
 grind [Lay.Wn]
theorem Lay.num (L:Lay n r r' a b inn) (d:F'.length=F.length+1) (N:iI n r F):iI n r' F':=by
 obtain⟨f,g,li⟩:=L.lts;have h:(dl n r').length=(dl n r).length+2*(inn.length+1):=by
  rw[Vq,Vq,NT _ fun v _=>L.deg v,nu,nu,Xp (by simp[L.ab]) pw,Xp L.nd li];simp;omega
 have i:(kV n r').length=(kV n r).length+inn.length:=by
  have pm:(kV n r').Perm (kV n r++inn):=by
   refine yR (LH.sublist ZT) ?_ fun v=>?_
   .rw [Z6]
    refine⟨LH.sublist ZT,L.nd,fun x c y j e=>?_⟩;subst e;have:=(jz.1 c).2
    grind [Lay.off]
   .unfold kV
    rw[Sb,jz,jz,Og,decide_eq_true_eq,decide_eq_true_eq];have k:=L.deg v
    grind [Lay.ra,Lay.rb,Lay.Wn]
  rw[pm.length_eq,jf]
 grind [iI]
theorem iI.flat (N:iI n r F) (R:V7 n r) (O:FO r F) (bp:∀v w,r v≠[]->r w≠[]->Cr r v w) (ne:∃v,v<n/\r v≠[]):Flat n r:=by
 obtain⟨d,i,j⟩:=ne;have g:((List.range n).filter fun v=>decide (r v=[])).length+(kV n r).length=n:=by
  have QI:∀X:II,(X.filter fun v=>decide (r v=[])).length+(X.filter fun v=>decide (r v≠[])).length=X.length:=fun X=>by
   induction X<;>grind
  have:=QI (List.range n);rw[gK]at this;exact this
 have m:iJ n r=((List.range n).filter fun v=>decide (r v=[])).length+1:=by
  unfold iJ;have iso:∀{v w},r v=[]->Cr r v w->v=w:=fun{v w} h c=>by
   induction c<;>grind
  have k1:∀y∈((List.range n).filter fun v=>decide (r v=[]))++[d],y∈List.range n:=fun y k=>by grind
  have k2:(((List.range n).filter fun v=>decide (r v=[]))++[d]).Pairwise fun a b=>¬Cr r a b:=by
   rw[V9];refine⟨?_,Ma,fun x e y k c=>?_⟩
   .refine AQ (R := fun x y => x ≠ y) (fun {x y} e _ f c => f ?_) (EU.1 (LH.sublist ZT))
    grind
   grind
  have l:∀x∈List.range n,∃y∈((List.range n).filter fun v=>decide (r v=[]))++[d],Cr r x y:=fun x e=>by
   by_cases h:r x=[]
   .exact⟨x,Hs _ (jz.2 ⟨e,decide_eq_true h⟩),.refl _⟩
   grind
  rw[qo (Cr.eqv R _) LH k1 k2 l];simp
 grind [Flat,mj,FO.cls,iI]
end
end Go.Fw
namespace Go.Fw
attribute [local instance] Classical.propDecidable
section
variable {n : Nat} {r r' : Nat → List Nat} {F : List (List Nat)} {f A B : List Nat} {a b : Nat} {inn : List Nat}
theorem Lay.mem (L:Lay n r r' a b inn) {x y:Nat}:y∈r' x↔y∈r x\/Ay a inn b x y:=by
 have ends:∀{a b:Nat} {inn:II} (_:Lay n r r' a b inn) {y:Nat},y∈r' a->y∈r a\/Ay a inn b a y:=fun{a b inn} L {y} h=>by
  by_cases c:y=(inn++[b]).headD 0
  .subst c
   obtain⟨k,m⟩:=yT a b inn;exact .inr (.inl ⟨0,k,m⟩)
  grind [Lay.ea]
 constructor
 .intro h
  by_cases c1:x=a
  .grind
  by_cases c2:x=b
  .subst c2;exact(ends L.swap h).imp id Ha.1
  by_cases o:x∈inn
  .obtain ⟨i, p, e, d⟩ := qm (a := a) (b := b) (.inr o)
   have q:=(vT.1 d).1;have hi:i+2<(nr a inn b).length:=by grind [Eo,Fg]
   have g:(nr a inn b)[i+2]?=some ((nr a inn b)[i+2]'hi):=BS hi
   rcases((L.mid i p x _ e d g).2.2 y).1 h with rfl|rfl
   .exact .inr (.inr ⟨i,e,d⟩)
   .exact .inr (.inl ⟨i+1,d,g⟩)
  grind [Lay.Wn]
 .rintro (h | ⟨i, j, h2⟩ | ⟨i, j, h2⟩)
  .exact L.sub h
  .grind [Lay.UQ]
  .exact L.R'.sy _ _ (L.UQ j h2)
theorem Lay.conn2 (L:Lay n r r' a b inn) (bp:∀v w,r v≠[]->r w≠[]->Cr r v w):∀v w,r' v≠[]->r' w≠[]->Cr r' v w:=by
 have along:∀(i x:Nat),(nr a inn b)[i]?=some x->Cr r' a x:=fun i=>by
  induction i with
  |zero=>
   intro x c;have:=c.symm.trans (yT a b inn).1;injection this with this;subst this;exact .refl _
  |succ i j=>
   intro x c;have k:=(vT.1 c).1;have g:(nr a inn b)[i]?=some ((nr a inn b)[i]'(by omega)):=BS NH
   exact(j _ g).step (L.UQ g c)
 have toA:∀v,r' v≠[]->Cr r' a v:=fun v d=>by
  obtain⟨w,l,e⟩:=Gw d;have hw:w∈r' v:=by rw[e];simp
  rcases L.mem.1 hw with h|⟨i,m,_⟩|⟨i,_,h2⟩
  .exact(bp a v L.ra fun q=>by grind).mono fun x y h=>L.sub h
  all_goals grind
 exact fun v w d hw=>((toA v d).symm L.R').trans (toA w hw)
structure vy (n:Nat) (r:Nat->II) (F:Cs):Prop where
 Rl:V7 n r
 O:FO r F
 bp:∀v w,r v≠[]->r w≠[]->Cr r v w
 num:iI n r F
 ne:F≠[]
theorem vy.flat (G:vy n r F):Flat n r:=by
 obtain⟨f,l,e⟩:=Gw G.ne;have hf:f∈F:=by rw[e];simp
 have c:=G.O.bz f hf _ (Lt (G.O.ne f hf));exact G.num.flat G.Rl G.O G.bp ⟨_,G.Rl.lt _ _ c,fun q=>by grind⟩
theorem vy.lay (G:vy n r F) (hf:f∈F) (C:UN n r f a b inn) (cy:Cyc f ((a::A)++(b::B))):
  vy n (EO r f a b inn) (half a A b inn::half b B a inn.reverse::F.erase f)/\∀x y,y∈EO r f a b inn x↔y∈r x\/Ay a inn b x y:=by
 obtain⟨L,c,h2,h3,d⟩:=C.lay G.Rl G.O hf;refine⟨⟨L.R',L.gY G.O hf cy c h2 h3 d,L.conn2 G.bp,L.num ?_ G.num,Ma⟩,fun x y=>L.mem⟩
 grind
end
noncomputable def gH (l:II) (v:Nat):II:=if v∈l then[pv l v,nx l v]else[]
section
variable {n : Nat} {l : List Nat}
theorem ez (nd:l.Nodup) {v w:Nat}:w∈gH l v↔Ei l v w:=by grind [gH,Ei,BJ,G5,c7,ZP]
theorem dP (nd:l.Nodup) (h3:3<=l.length) (lt:∀v∈l,v<n):vy n (gH l) [l,l.reverse]:=by
 have d:=fun{v w}=>ez (v:=v) (w:=w) nd;have i:l≠[]:=fun e=>by grind
 have m:∀v∈l,nx l v≠v:=fun v c e=>by grind [Bk]
 have R:V7 n (gH l):=by
  refine⟨fun v=>?_,fun v w h=>?_,fun v w h=>d.2 (ki (d.1 h)),fun v h=>?_⟩
  .grind [gH,fz]
  .rcases d.1 h with h | h
   all_goals grind [ZP]
  .rcases d.1 h with h | h
   all_goals grind
 have s:Om (Ei l) (gH l)=gH l:=cS fun v w h=>d.1 h;have two:∀v∈l,nx (gH l v) (pv l v)=nx l v/\nx (gH l v) (nx l v)=pv l v:=fun v c=>by grind [gH,ss,fz]
 have O:FO (gH l) [l,l.reverse]:=by
  refine⟨fun f hf=>?_,fun f hf=>?_,fun f hf v c=>?_,fun f hf v c=>?_,fun v w hw=>?_,fun f hf g hg v o h2 e=>?_,?_⟩
  .grind
  .simp at hf; rcases hf with rfl | rfl
   .exact i
   .simpa using i
  .simp at hf; rcases hf with rfl | rfl
   .exact d.2 (.inl ⟨c,rfl⟩)
   .have c := wI.1 c
    exact d.2 (.inr ⟨BJ c,G5 nd c⟩)
  .simp at hf; rcases hf with rfl | rfl
   .grind [ZP,c7]
   .have c := wI.1 c
    have:=(two _ (BJ c)).2;rw[G5 nd c]at this;exact this
  .rcases d.1 hw with h | h
   all_goals grind [ZP,pv,c7]
  .simp at hf hg
   rcases hf with rfl|rfl
   .rcases hg with rfl | rfl
    .rfl
    .exact absurd e (fz nd h3 o)
   .rcases hg with rfl | rfl
    .exact absurd e.symm (fz nd h3 h2)
    .rfl
  .simp only [xD, j9, Db, not_false_eq_true, gS, and_true]
   intro e;have c:=Lt i
   grind [fz,pv]
 have inl:∀{v},gH l v≠[]->v∈l:=fun{v} h=>fR fun q=>h (if_neg q);refine⟨R,O,fun v w c hw=>?_,?_,Ma⟩
 .obtain ⟨k, rfl⟩ := JT nd (inl c) (inl hw)
  have j:=inl c;clear hw c;have:∀k,Cr (gH l) v (it (nx l) k v):=fun k=>by
   induction k with
   |zero=>exact .refl _
   |succ k p=>exact p.step (d.2 (.inl ⟨(O.it Ma j k).1,rfl⟩))
  exact this k
 .have t:(kV n (gH l)).length=l.length:=by
   rw[<-Xp nd lt]
   grind [kV,gH]
  have u:(dl n (gH l)).length=2*l.length:=by
   rw[Vq,<-Xp nd lt,<-nu]
   grind [gH]
  grind [iI]
end
end Go.Fw
namespace Go.Fw
attribute [local instance] Classical.propDecidable
def XU (n:Nat) (E:Nat->II):Prop:=∃R,V7 n R/\Flat n R/\∀v w,w∈R v↔w∈E v
structure PU (n:Nat) (E:Nat->II) (H:Nat->Nat->Prop) (F:Cs):Prop where
 sub:∀x y,H x y->y∈E x
 XK:∃r,vy n r F/\∀x y,y∈r x↔H x y
 full:XU n E->∃R,(∀v w,w∈R v↔w∈E v)/\Ctx n R H F
section
variable {n : Nat} {E : Nat → List Nat} {H : Nat → Nat → Prop} {F : List (List Nat)} {f A B inn l : List Nat} {a b s : Nat}
theorem BW {R R':Nat->II} (d:∀v w,w∈R' v↔w∈R v) {k:Nat×Nat×Nat} {h:II}:Fits R' H k h↔Fits R H k h:=
 ⟨fun q u x c e=>q u x ((Fv d).2 c) (by grind [Py]),fun q u x c e=>q u x ((Fv d).1 c) (by grind [Py])⟩
theorem PU.start (nd:l.Nodup) (h3:3<=l.length) (g:V7 n E) (d:∀v∈l,nx l v∈E v):PU n E (Ei l) [l,l.reverse]:=by
 refine⟨fun x y h=>?_,⟨_,dP nd h3 fun v c=>g.lt _ _ (d v c),fun x y=>ez nd⟩,fun⟨R,i,fl,e⟩=>⟨R,e,Cy i fl nd h3 fun v c=>(e _ _).2 (d v c)⟩⟩;rcases h with h|h
 all_goals grind [V7.sy]
def PU.Re (I:PU n E H F):∃p q,p≠q/\¬off E H p/\¬off E H q:=by
 obtain⟨r,G,d⟩:=I.XK;obtain⟨f,t,e⟩:=Gw G.ne;have hf:f∈F:=by rw[e];simp
 have c:=G.O.bz f hf _ (Lt (G.O.ne f hf));have g:=(d _ _).1 c;have h2:=(d _ _).1 (G.Rl.sy _ _ c);exact⟨_,_,fun e=>G.Rl.ir _ (by rw[<-e]at c;exact c),fun q=>q _ (I.sub _ _ g) g,fun q=>q _ (I.sub _ _ h2) h2⟩
def PU.pieces (I:PU n E H F) (D:QG E) {R:Nat->II} (c:∀v w,w∈R v↔w∈E v) (C:Ctx n R H F):Pg n R H F:=by
 obtain⟨p,q,d,h2,h3⟩:=I.Re;exact C.pieces (D.same c) ⟨p,q,d,fun k=>h2 ((uR c p).1 k),fun k=>h3 ((uR c q).1 k)⟩
theorem PU.step (I:PU n E H F) (D:QG E) (k:V7 n E) (hf:f∈F) (z:QP E H a s) (fit:Fits E H (QI E H a s) f)
  (cond:(∀h∈F,Fits E H (QI E H a s) h->h=f)\/∀u x,QP E H u x->∃c∈F,∃h2∈F,c≠h2/\Fits E H (QI E H u x) c/\Fits E H (QI E H u x) h2)
  (W:Ka E H a inn b) (hs:(inn++[b]).headD 0=s) (cy:Cyc f ((a::A)++(b::B))):
  PU n E (fun x y=>H x y\/Ay a inn b x y) (half a A b inn::half b B a inn.reverse::F.erase f):=by
 obtain⟨r,G,m⟩:=I.XK;have g:∀v w,H v w->H w v:=fun v w h=>(m _ _).1 (G.Rl.sy _ _ ((m _ _).2 h));refine⟨fun x y h=>h.elim (I.sub x y) fun h=>(W.wE k g h).1,?_,fun J=>?_⟩
 .have C:UN n r f a b inn:=by
   refine⟨W.ab,cy.perm.mem_iff.2 Ma,cy.perm.mem_iff.2 Ma,?_,fun x o=>?_,fun x o=>?_,fun e q=>?_⟩
   .have := W.nd
    grind [nr.eq_1]
   .refine fR fun q => ?_
    obtain⟨w,t,e⟩:=Gw q;have h:=(m x w).1 (by rw[e];simp);exact W.off x o w (I.sub _ _ h) h
   .obtain ⟨i, p, c, h2⟩ := qm (a := a) (b := b) (.inr o)
    exact k.lt _ _ (k.sy _ _ (W.UQ i p x c h2).1)
   .subst e
    have c:(nr a [] b)[0]?=some a:=rfl
    grind [nr,Ka.UQ]
  obtain⟨N,j⟩:=G.lay hf C cy
  grind
 .obtain ⟨R, j, C⟩ := I.full J
  have P:=I.pieces D j C;have d:(∀h∈F,Fits R H (QI R H a s) h->h=f)\/∀u x,QP R H u x->∃c∈F,∃h2∈F,c≠h2/\Fits R H (QI R H u x) c/\Fits R H (QI R H u x) h2:=by
   rcases cond with q|q
   .grind [Py,BW]
   .refine .inr fun u x K => ?_
    obtain⟨c,m1,h2,m2,L,O,Q⟩:=q u x ((Fv j).1 K)
    grind [Py,BW]
  obtain⟨R',M,C'⟩:=P.step hf ((Fv j).2 z) (by grind [Py,BW]) d (W.same j) hs cy
  grind
theorem PU.fail (I:PU n E H F) (D:QG E) {u x:Nat} (d:QP E H u x) (h:∀f∈F,¬Fits E H (QI E H u x) f):¬XU n E:=fun e=>by
 obtain⟨R,c,C⟩:=I.full e;obtain⟨g,hg,k⟩:=(I.pieces D c C).fits ((Fv c).2 d)
 grind [Py,BW]
def PU.done (I:PU n E H F) (h:∀x y,y∈E x->H x y):∃r,vy n r F/\Flat n r/\∀x y,y∈r x↔y∈E x:=by
 obtain⟨r,G,c⟩:=I.XK;exact⟨r,G,G.flat,fun x y=>(c x y).trans ⟨I.sub x y,h x y⟩⟩
end
end Go.Fw
namespace Go.Fw
attribute [local instance] Classical.propDecidable
theorem LC {α:Type} {A B:List α} (b:A.Nodup) (nb:B.Nodup) (h:∀a∈A,a∈B):A.length<=B.length:=by
 have pm:B.Perm (A++B.filter fun x=>decide (x∉A)):=pw;rw[pm.length_eq,jf];omega
theorem vR {α β:Type} {k:Nat} {g:α->List β}:∀{L:List α},(∀x∈L,k<=(g x).length)->k*L.length<=(L.flatMap g).length
 |[],_=>by simp
 |x::L,h=>by
  have:=vR (L:=L) fun y a=>h y (kc _ a)
  grind [Nat.mul_succ]
section
variable {n : Nat} {r : Nat → List Nat}
theorem Gj (R:V7 n r) {k:Nat} (h:∀d∈dl n r,k<=bt (Nv r) d):k*cls (WD (Nv r)) (dl n r)<=(dl n r).length:=by
 have p:=TG R;rw[<-yp R];have b:∀d∈L3 n r,d∈dl n r:=fun d b=>(IP R).2 ((gQ R).1 b).1;have f:(L3 n r).Nodup:=(dy n r).sublist (by grind [L3,List.filter_sublist]);refine Tn (vR (g:=AA (Nv r)) fun d a=>by grind [oN]) (LC ?_ (J8 R) fun e c=>?_)
 .rw [EU, KV]
  grind [Ri,List.Pairwise.imp_of_mem,vA,RM,WD.trans,Pm.xw]
 .obtain ⟨d, a, c⟩ := BR.1 c
  obtain⟨j,rfl⟩:=(vA p (b d a)).1 c
  grind [Pm.uN]
theorem Bu (R:V7 n r) (hf:Flat n r) (bp:∀v w,r v≠[]->r w≠[]->Cr r v w) (all:∀v,v<n->r v≠[]) (a:0<n):2*(n+cls (WD (Nv r)) (dl n r))=(dl n r).length+4:=by
 have d:((List.range n).filter fun v=>decide (r v=[]))=[]:=filter_none fun z b q=>all z (Og.1 b) (of_decide_eq_true q);have e:iJ n r=1:=by
  unfold iJ;rw[qo (Cr.eqv R _) LH (L:=[0]) (fun y f=>by grind) Ma fun x c=>⟨0,Ma,bp x 0 (all x (Og.1 c)) (all 0 a)⟩];rfl
 grind [Flat,mj]
theorem QG.deg (D:QG r) {v w:Nat} (h:r v=[w]) {x:Nat} (a:r x≠[]) (b:x≠v) (h2:x≠w) (hw:v≠w):False:=by
 have c:=D.Z7 w v x hw h2 (by rw[h];simp) a;have:∀y,Cr (Om (fun x y=>x≠w/\y≠w) r) v y->y=v:=fun y c=>by
  induction c<;>grind [EM]
 grind
theorem Co (R:V7 n r) (D:QG r) (h3:3<=n) (all:∀v,v<n->r v≠[]) {d:H8} (b:d∈dl n r):3<=bt (Nv r) d/\(bt (Nv r) d=3->∃x y z,y∈r x/\z∈r y/\x∈r z):=by
 have p:=TG R;obtain⟨o,g,_⟩:=bk p b;have j:=Sg R b;have m0:=(IP R).1 b;have m1:=(IP R).1 (p.uN b 1);have m2:=(IP R).1 (p.uN b 2);obtain⟨v,w⟩:=d;have a:∃x,x<n/\x≠v/\x≠w:=by
  by_cases h:0≠v/\0≠w
  .exact⟨0,NH,h.1,h.2⟩
  by_cases i:1≠v/\1≠w
  .exact⟨1,NH,i.1,i.2⟩
  .exact⟨2,NH,NH,NH⟩
 obtain⟨x,k,x1,l⟩:=a;have m:v≠w:=fun e=>R.ir v pw;constructor
 .refine Fz j fun e => ?_
  rw[<-e]at g;have c:(nx (r w) v,nx (r (nx (r w) v)) w)=((v,w):H8):=g;injection c with c _;have f:v∈r w:=R.sy _ _ m0;have:=(Bk (R.nd w) f).1 c;exact D.deg this (all x k) l x1 (uV m)
 grind [it,Nv]
theorem UU (R:V7 n r) (hf:Flat n r) (D:QG r) (h3:3<=n) (all:∀v,v<n->r v≠[]):(dl n r).length+12<=6*n/\((∀x y z,y∈r x->z∈r y->x∉r z)->(dl n r).length+8<=4*n):=by
 have e:=Bu R hf D.bp all NH;constructor
 .have := Gj R (k := 3) fun d a => (Co R D h3 all a).1
  omega
 .intro b
  have:=Gj R (k:=4) fun d a=>by grind [Co]
  omega
end
end Go.Fw
namespace Go.Fw
section
attribute [local instance] Classical.propDecidable
variable {l:II} {n u v:Nat} {r:Nat->II}
theorem J5 {f g:Nat->Nat} {P:Nat->Prop} (b:∀x,P x->P (f x)) (h:∀x,P x->f x=g x) {u:Nat} (a:P u):∀k,it f k u=it g k u/\P (it f k u)
 |0=>⟨rfl,a⟩
 |k+1=>by
  obtain⟨e,p⟩:=J5 b h a k
  grind [it]
def Pc {l:II} (nd:l.Nodup) {u:Nat} {c:II} (e:l=u::c):∀k,k<l.length->l[k]?=some (it (nx l) k u)
 |0,_=>by rw[e];rfl
 |k+1,hk=>by
  have ih:=Pc nd e k NH;have h1:l[k+1]?=some (l[k+1]'hk):=BS hk
  rw[h1];congr 1;exact(aZ nd ih h1).1.symm
theorem N1 (nd:l.Nodup) (f:u∈l):Cyc l ((List.range l.length).map fun k=>it (nx l) k u):=by
 obtain⟨c,a⟩:=Cyc.front f;have b:=a.perm.nodup_iff.1 nd;have e:((List.range l.length).map fun k=>it (nx l) k u)=u::c:=by
  refine K4 fun i=>?_;rw[a.perm.length_eq];by_cases h:i<(u::c).length
  .rw [zm, Bc h, Pc b rfl i h]
   simp only[Ly];congr 1;exact(J5 (P:=fun x=>x∈l) (fun x d=>ZP d) (fun x d=>a.nx nd d) f i).1
  grind
 grind
theorem nZ {F:Cs} (R:V7 n r) (O:FO r F) {next:Nat->Nat->Nat} (h:∀f∈F,∀v∈f,next v (pv f v)=nx f v) (b:u∈r v):
  Cyc (r v) ((List.range (r v).length).map fun k=>it (next v) k u):=by
 have QI:∀w∈r v,next v w=nx (r v) w:=fun w hw=>by
  obtain⟨f,hf,c,e⟩:=O.cover w v (R.sy _ _ hw)
  grind [ZP,c7,FO.nd,FO.pv]
 have e:((List.range (r v).length).map fun k=>it (next v) k u)=(List.range (r v).length).map fun k=>it (nx (r v)) k u:=by
  refine Lm fun k _=>?_;exact((J5 (P:=fun x=>x∈r v) (fun x a=>ZP a) (fun x a=>(QI x a).symm) b k).1).symm
 rw[e];exact N1 (R.nd v) b
end
end Go.Fw
namespace Go.Fw
attribute [local instance] Classical.propDecidable
section
variable {n : Nat} {E E' : Nat → List Nat} {a b m : Nat}
def XU.congr (h:∀v w,w∈E' v↔w∈E v):XU n E'↔XU n E:=by
 constructor
 .rintro⟨R,c,fl,d⟩;exact⟨R,c,fl,fun v w=>(d v w).trans (h v w)⟩
 .rintro⟨R,c,fl,d⟩;exact⟨R,c,fl,fun v w=>(d v w).trans (h v w).symm⟩
end
end Go.Fw
namespace Go.Fw
attribute [local instance] Classical.propDecidable
section
variable {n : Nat} {r : Nat → List Nat} {F : List (List Nat)}
theorem iso_on (n:Nat) (r:Nat->II):((List.range n).filter fun v=>decide (r v=[])).length+(kV n r).length=n:=by
 have QI:∀X:II,(X.filter fun v=>decide (r v=[])).length+(X.filter fun v=>decide (r v≠[])).length=X.length:=fun X=>by
  induction X<;>grind
 have:=QI (List.range n);rw[gK]at this;exact this
theorem ue (R:V7 n r) (bp:∀v w,r v≠[]->r w≠[]->Cr r v w) (ne:∃v,v<n/\r v≠[]):iJ n r=((List.range n).filter fun v=>decide (r v=[])).length+1:=by
 obtain⟨d,g,i⟩:=ne;unfold iJ;have iso:∀{v w},r v=[]->Cr r v w->v=w:=fun{v w} h c=>by
  induction c<;>grind
 have k1:∀y∈((List.range n).filter fun v=>decide (r v=[]))++[d],y∈List.range n:=fun y j=>by grind
 have k2:(((List.range n).filter fun v=>decide (r v=[]))++[d]).Pairwise fun a b=>¬Cr r a b:=by
  rw[V9];refine⟨?_,Ma,fun x e y j c=>?_⟩
  .refine AQ (R := fun x y => x ≠ y) (fun {x y} e _ f c => f ?_) (EU.1 (LH.sublist ZT))
   grind
  grind
 have k:∀x∈List.range n,∃y∈((List.range n).filter fun v=>decide (r v=[]))++[d],Cr r x y:=fun x e=>by
  by_cases h:r x=[]
  .exact⟨x,Hs _ (jz.2 ⟨e,decide_eq_true h⟩),.refl _⟩
  grind
 rw[qo (Cr.eqv R _) LH k1 k2 k];simp
theorem BQ (R:V7 n r) (hf:Flat n r) (bp:∀v w,r v≠[]->r w≠[]->Cr r v w) (ne:∃v,v<n/\r v≠[]):2*((kV n r).length+cls (WD (Nv r)) (dl n r))=(dl n r).length+4:=by grind [iso_on,ue,Flat,mj]
theorem Oz (h3:3<=(kV n r).length) (v w:Nat):∃x,x<n/\r x≠[]/\x≠v/\x≠w:=by
 have nd:(kV n r).Nodup:=LH.sublist ZT;have d:∀x∈kV n r,x<n/\r x≠[]:=fun x e=>⟨Og.1 (jz.1 e).1,of_decide_eq_true (jz.1 e).2⟩;generalize kV n r=L at h3 nd d
 match L,h3 with
 |a::b::c::t,_=>
  have ha:=d a Ma;have hb:=d b Ma;have f:=d c Ma
  grind
theorem qh (R:V7 n r) (D:QG r) (h3:3<=(kV n r).length) {d:H8} (a:d∈dl n r):3<=bt (Nv r) d/\(bt (Nv r) d=3->∃x y z,y∈r x/\z∈r y/\x∈r z):=by
 have p:=TG R;obtain⟨k,g,_⟩:=bk p a;have h:=Sg R a;have m0:=(IP R).1 a;have m1:=(IP R).1 (p.uN a 1);have m2:=(IP R).1 (p.uN a 2);obtain⟨v,w⟩:=d;obtain⟨x,l,b,x1,i⟩:=Oz h3 v w;have j:v≠w:=fun e=>R.ir v pw;constructor
 .refine Fz h fun e => ?_
  rw[<-e]at g;have c:(nx (r w) v,nx (r (nx (r w) v)) w)=((v,w):H8):=g;injection c with c _;have f:v∈r w:=R.sy _ _ m0;exact D.deg ((Bk (R.nd w) f).1 c) b i x1 (uV j)
 grind [it,Nv]
theorem LR (R:V7 n r) (hf:Flat n r) (D:QG r) (h3:3<=(kV n r).length):(dl n r).length+12<=6*(kV n r).length/\((∀x y z,y∈r x->z∈r y->x∉r z)->(dl n r).length+8<=4*(kV n r).length):=by
 obtain⟨x,c,a,_⟩:=Oz h3 0 0;have e:=BQ R hf D.bp ⟨x,c,a⟩;constructor
 .have := Gj R (k := 3) fun d b => (qh R D h3 b).1
  omega
 .intro f
  have:=Gj R (k:=4) fun d b=>by grind [qh]
  omega
theorem XU.bound {E:Nat->II} (b:V7 n E) (D:QG E) (h3:3<=(kV n E).length) (c:XU n E):(dl n E).length+12<=6*(kV n E).length/\((∀x y z,y∈E x->z∈E y->x∉E z)->(dl n E).length+8<=4*(kV n E).length):=by
 obtain⟨R,a,fl,e⟩:=c;have f:kV n R=kV n E:=by
  refine qH fun v _=>?_;rw[decide_eq_decide];have:R v=[]↔E v=[]:=by
   rw[j3,j3]
   grind
  grind
 have g:(dl n R).length=(dl n E).length:=(yR (J8 a) (J8 b) fun d=>by grind [IP]).length_eq;have:=LR a fl (D.same e) pw
 grind
end
end Go.Fw
namespace Go.Fw
section
attribute [local instance] Classical.propDecidable
variable {l:II} {m n v w x:Nat}
theorem xT {E:Nat->II} (h:∀v,m<=v->E v=[]) (k:Nat):dl (m+k) E=dl m E/\kV (m+k) E=kV m E:=by
 have e:List.range (m+k)=List.range m++(List.range k).map (m+·):=List.range_add;constructor
 .grind [dl,List.flatMap_eq_nil_iff]
 grind [kV,filter_none]
def Hr (v:Nat):II:=if v<5 then(List.range 5).filter fun w=>w !=v else[]
def pT (v:Nat):II:=if v<3 then[3,4,5]else if v<6 then[0,1,2]else[]
theorem pZ:w∈Hr v↔v<5/\w<5/\w≠v:=by grind [Hr]
theorem Vb:w∈pT v↔(v<3/\3<=w/\w<6)\/(3<=v/\v<6/\w<3):=by grind [pT]
theorem Ce (h:x∈l):l≠[]:=fun e=>by grind
def WB (h:l≠[]):∃x,x∈l:=by
 obtain⟨x,t,e⟩:=Gw h;exact⟨x,by rw[e];simp⟩
theorem k5_no (b:5<=n):¬XU n Hr:=fun d=>by
 have lt:∀{v},Hr v≠[]->v<5:=fun h=>by obtain⟨x,f⟩:=WB h;grind [pZ]
 have R:V7 n Hr:=by
  refine⟨fun v=>?_,fun v w h=>?_,fun v w h=>?_,fun v h=>?_⟩
  all_goals grind [Hr,List.filter_sublist]
 have D:QG Hr:=by
  refine⟨fun v w a hw=>?_,fun c v w g h2 a hw=>?_⟩
  .by_cases e : w = v
   .rw[e];exact .refl _
   grind [Cr.one,pZ]
  .by_cases e : w = v
   .rw[e];exact .refl _
   grind [Cr.one,EM,pZ]
 have off:∀v,5<=v->Hr v=[]:=fun v h=>by grind
 obtain⟨k,rfl⟩:=qL184 b;obtain⟨i,j⟩:=xT off k;have l1:(dl 5 Hr).length=20:=by decide
 have l2:(kV 5 Hr).length=5:=by
  have:kV 5 Hr=List.range 5:=KG.2 fun v a=>by
   have a:=Og.1 a
   refine decide_eq_true (Ce (x:=if v=0 then 1 else 0) (pZ.2 ⟨a,?_,?_⟩))
   all_goals grind
  grind
 have:=(d.bound R D pw).1
 grind
theorem k33_no (f:6<=n):¬XU n pT:=fun g=>by
 have lt:∀{v},pT v≠[]->v<6:=fun h=>by obtain⟨x,l⟩:=WB h;grind [Vb]
 have R:V7 n pT:=by
  refine⟨fun v=>?_,fun v w h=>?_,fun v w h=>?_,fun v h=>?_⟩
  all_goals grind [pT]
 have D:QG pT:=by
  have two:∀c v w,v≠c->w≠c->v<6->w<6->Cr (Om (fun x y=>x≠c/\y≠c) pT) v w:=fun c v w d h2 e hw=>by
   have UQ:∀{x y},x≠c->y≠c->((x<3/\3<=y/\y<6)\/(3<=x/\x<6/\y<3))->Cr (Om (fun x y=>x≠c/\y≠c) pT) x y:=fun i j q=>Cr.one (EM.2 ⟨Vb.2 q,i,j⟩);by_cases a:v<3
   .by_cases b : w < 3
    .by_cases z : c = 3
     .exact(UQ (y:=4) d NH NH).trans (UQ NH h2 NH)
     .exact(UQ (y:=3) d NH NH).trans (UQ NH h2 NH)
    grind
   .by_cases b : w < 3
    .grind
    .by_cases z : c = 0
     .exact(UQ (y:=1) d NH NH).trans (UQ NH h2 NH)
     .exact(UQ (y:=0) d NH NH).trans (UQ NH h2 NH)
  refine⟨fun v w e hw=>?_,fun c v w d h2 e hw=>two c v w d h2 (lt e) (lt hw)⟩;have a:=lt e;have b:=lt hw;exact(two 6 v w NH NH a b).mono fun x y h=>(EM.1 h).1
 have off:∀v,6<=v->pT v=[]:=fun v h=>by grind
 obtain⟨k,rfl⟩:=qL184 f;obtain⟨m,o⟩:=xT off k;have l1:(dl 6 pT).length=18:=by decide
 have l2:(kV 6 pT).length=6:=by grind [kV,pT,List.filter_eq_self]
 have:=(g.bound R D pw).2 fun x y z d h2 h3=>by grind [Vb]
 grind
end
end Go.Fw
