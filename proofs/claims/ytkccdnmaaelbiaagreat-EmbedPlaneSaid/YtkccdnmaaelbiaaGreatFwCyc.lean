/- A text. -/
import Derived.Test.YtkccdnmaaelbiaaGreatFwZA
set_option linter.all false
set_option maxRecDepth 99999
set_option maxHeartbeats 9999999
namespace Go.Fw
attribute [local instance] Classical.propDecidable
variable {α : Type}
noncomputable def cls (R:α->α->Prop):List α->Nat
 |[]=>0
 |x::l=>cls R l+if∃y∈l,R x y then 0 else 1
structure Eqv (X:List α) (R:α->α->Prop):Prop where
 refl:∀x∈X,R x x
 symm:∀x∈X,∀y∈X,R x y->R y x
 trans:∀x∈X,∀y∈X,∀z∈X,R x y->R y z->R x z
def Eqv.sub {X Y:List α} {R:α->α->Prop} (h:Eqv X R) (hs:∀y∈Y,y∈X):Eqv Y R:=
 ⟨fun x a=>h.refl x (hs x a),fun x a y b=>h.symm x (hs x a) y (hs y b),fun x a y b z c=>h.trans x (hs x a) y (hs y b) z (hs z c)⟩
def Yn {R R':α->α->Prop}:∀{X:List α},(∀x∈X,∀y∈X,R x y↔R' x y)->cls R X=cls R' X
 |[],_=>rfl
 |x::l,h=>by
  have d:=Yn (X:=l) fun a ha b hb=>h a (Gs _ ha) b (Gs _ hb);have:(∃y∈l,R x y)↔∃y∈l,R' x y:=⟨fun⟨y,c,r⟩=>⟨y,c,(h x jR y (Gs _ c)).1 r⟩,fun⟨y,c,r⟩=>⟨y,c,(h x jR y (Gs _ c)).2 r⟩⟩;rw[cls,cls,d];simp only[this]
def ln {R:α->α->Prop} {X Y:List α} (p:X.Perm Y):Eqv X R->cls R X=cls R Y:=by
 induction p with
 |nil=>intro _;rfl
 |@cons x l l' p j=>
  intro h;have:(∃y∈l,R x y)↔∃y∈l',R x y:=⟨fun⟨y,a,r⟩=>⟨y,p.mem_iff.1 a,r⟩,fun⟨y,a,r⟩=>⟨y,p.mem_iff.2 a,r⟩⟩;rw[cls,cls,j (h.sub fun y a=>Gs _ a)];simp only[this]
 |@swap x y l=>
  intro h;have c:x∈y::x::l:=by simp
  have a:y∈y::x::l:=by simp
  have i:∀z∈l,z∈y::x::l:=fun z b=>by simp[b]
  simp only[cls,aH,exists_eq_or_imp];by_cases e:R y x
  .have e' := h.symm y a x c e
   have:(∃z,z∈l/\R y z)↔∃z,z∈l/\R x z:=⟨fun⟨z,b,r⟩=>⟨z,b,h.trans x c y a z (i z b) e' r⟩,fun⟨z,b,r⟩=>⟨z,b,h.trans y a x c z (i z b) e r⟩⟩;simp only[e,e',this,true_or,if_true]
  .have e' : ¬ R x y := fun r => e (h.symm x c y a r)
   simp only[e,e',false_or];omega
 |trans p q d g=>intro h;rw[d h,g (h.sub fun y a=>p.mem_iff.2 a)]
def Cz {X:List α} {R R':α->α->Prop} (h:Eqv X R) {a b:α} (ha:a∈X) (hb:b∈X) (q:¬R a b) (hR:∀x∈X,∀y∈X,R' x y↔R x y\/(R x a/\R b y)\/(R x b/\R a y)):cls R X=cls R' X+1:=by
 have key:∀l:List α,(∀x∈l,x∈X)->cls R l=cls R' l+if(∃y∈l,R a y)/\(∃y∈l,R b y)then 1 else 0:=by
  intro l
  induction l with
  |nil=>intro _;simp[cls]
  |cons x l s=>
   intro hs;have d:=hs x jR;have e:∀z∈l,z∈X:=fun z c=>hs z (Gs _ c);have i:=s e;simp only[cls,aH,exists_eq_or_imp];by_cases xa:R a x
   .have ax := h.symm a ha x d xa
    have nb:¬R b x:=fun r=>q (h.trans a ha x d b hb xa (h.symm b hb x d r));have g:¬R x b:=fun r=>nb (h.symm x d b hb r);have m:(∃y,y∈l/\R x y)↔∃y,y∈l/\R a y:=⟨fun⟨z,c,r⟩=>⟨z,c,h.trans a ha x d z (e z c) xa r⟩,fun⟨z,c,r⟩=>⟨z,c,h.trans x d a ha z (e z c) ax r⟩⟩;have k:(∃y,y∈l/\R' x y)↔(∃y,y∈l/\R a y)\/∃y,y∈l/\R b y:=by
     constructor
     .rintro ⟨z, c, r⟩
      rcases(hR x d z (e z c)).1 r with r|⟨_,r⟩|⟨r,_⟩
      .exact .inl ⟨z,c,h.trans a ha x d z (e z c) xa r⟩
      .exact .inr ⟨z,c,r⟩
      .exact absurd r g
     .rintro (⟨z, c, r⟩ | ⟨z, c, r⟩)
      .exact⟨z,c,(hR x d z (e z c)).2 (.inl (h.trans x d a ha z (e z c) ax r))⟩
      .exact⟨z,c,(hR x d z (e z c)).2 (.inr (.inl ⟨ax,r⟩))⟩
    simp only[m,k,xa,nb,true_or,false_or,true_and];by_cases n:∃y,y∈l/\R a y<;>by_cases o:∃y,y∈l/\R b y<;>simp only[n,o,and_self,and_true,and_false,true_or,or_true,or_self,if_true,if_false]at i ⊢<;>omega
   .by_cases xb : R b x
    .have p := h.symm b hb x d xb
     have j:¬R x a:=fun r=>xa (h.symm x d a ha r);have m:(∃y,y∈l/\R x y)↔∃y,y∈l/\R b y:=⟨fun⟨z,c,r⟩=>⟨z,c,h.trans b hb x d z (e z c) xb r⟩,fun⟨z,c,r⟩=>⟨z,c,h.trans x d b hb z (e z c) p r⟩⟩;have k:(∃y,y∈l/\R' x y)↔(∃y,y∈l/\R a y)\/∃y,y∈l/\R b y:=by
      constructor
      .rintro ⟨z, c, r⟩
       rcases(hR x d z (e z c)).1 r with r|⟨r,_⟩|⟨_,r⟩
       .exact .inr ⟨z,c,h.trans b hb x d z (e z c) xb r⟩
       .exact absurd r j
       .exact .inl ⟨z,c,r⟩
      .rintro (⟨z, c, r⟩ | ⟨z, c, r⟩)
       .exact⟨z,c,(hR x d z (e z c)).2 (.inr (.inr ⟨p,r⟩))⟩
       .exact⟨z,c,(hR x d z (e z c)).2 (.inl (h.trans x d b hb z (e z c) p r))⟩
     simp only[m,k,xa,xb,true_or,false_or,and_true];by_cases n:∃y,y∈l/\R a y<;>by_cases o:∃y,y∈l/\R b y<;>simp only[n,o,and_self,and_true,and_false,or_true,or_self,if_true,if_false,or_false]at i ⊢<;>omega
    .have j : ¬ R x a := fun r => xa (h.symm x d a ha r)
     have g:¬R x b:=fun r=>xb (h.symm x d b hb r);have k:(∃y,y∈l/\R' x y)↔∃y,y∈l/\R x y:=by
      constructor
      .rintro ⟨z, c, r⟩
       rcases(hR x d z (e z c)).1 r with r|⟨r,_⟩|⟨r,_⟩
       .exact⟨z,c,r⟩
       .exact absurd r j
       .exact absurd r g
      .rintro⟨z,c,r⟩;exact⟨z,c,(hR x d z (e z c)).2 (.inl r)⟩
     simp only[k,xa,xb,false_or];omega
 have:=key X fun _ h=>h;rw[if_pos ⟨⟨a,ha,h.refl a ha⟩,b,hb,h.refl b hb⟩]at this;exact this
structure Pm (X:List α) (f:α->α):Prop where
 nd:X.Nodup
 mem:∀x∈X,f x∈X
 inj:∀x∈X,∀y∈X,f x=f y->x=y
def it (f:α->α):Nat->α->α
 |0,x=>x
 |k+1,x=>f (it f k x)
def du (f:α->α):∀(k:Nat) (x:α),it f (k+1) x=it f k (f x)
 |0,_=>rfl
 |k+1,x=>by rw[it,du f k x];rfl
def td (f:α->α) (j:Nat):∀(k:Nat) (x:α),it f (j+k) x=it f j (it f k x)
 |0,_=>rfl
 |k+1,x=>by rw[<-Lj,du,td f j k (f x),du]
def Jz {A B:List α} (b:A.Nodup) (h:∀a∈A,a∈B):A.length<=B.length:=by
 induction A generalizing B with
 |nil=>simp
 |cons a A d=>
  rw[tS]at b;have hb:=h a jR;have:=d (B:=B.erase a) b.2 fun x c=>(Bi (fun e=>b.1 (by rw[<-e];exact c))).2 (h x (Gs _ c));rw[VZ hb]at this;have:=TR hb;rw[jD];omega
def kD (f:α->α) (x y:α):Prop:=∃k,it f k x=y
namespace Pm
variable {X : List α} {f : α → α}
def F4 (p:Pm X f) {x:α} (a:x∈X):∀k,it f k x∈X
 |0=>a
 |k+1=>p.mem _ (p.F4 a k)
def sx (p:Pm X f) {x y:α} (a:x∈X) (b:y∈X):∀k,it f k x=it f k y->x=y
 |0,h=>h
 |k+1,h=>p.sx a b k (p.inj _ (p.F4 a k) _ (p.F4 b k) h)
def period (p:Pm X f) {x:α} (b:x∈X):∃k,0<k/\it f k x=x:=by
 refine mS fun c=>?_;have nd:((List.range (X.length+1)).map fun k=>it f k x).Nodup:=by
  rw[gY,UB];refine List.Pairwise.imp ?_ (Be (n:=X.length+1));intro i j d e;refine c ⟨j-i,QT,?_⟩;have:it f j x=it f i (it f (j-i) x):=by rw[<-td];congr 1;omega
  rw[this]at e;exact(p.sx b (p.F4 b _) i e).symm
 have:=Jz nd (B:=X) fun a ha=>by
  obtain⟨k,_,rfl⟩:=T8.1 ha;exact p.F4 b k
 rw[yA,xw]at this;omega
def O8 (_:Pm X f) {x:α} {k:Nat} (h:it f k x=x):∀m,it f (m*k) x=x
 |0=>by rw[Nat.zero_mul];rfl
 |m+1=>by rw[WB,Nat.one_mul,td,h];exact O8 ‹_› h m
def Tp (p:Pm X f) {x y:α} (a:x∈X) (h:kD f x y):kD f y x:=by
 obtain⟨k,rfl⟩:=h;obtain⟨q,b,c⟩:=p.period a;refine⟨k*q-k,?_⟩;rw[<-td];have:k*q-k+k=k*q:=by
  have:k*1<=k*q:=Nat.mul_le_mul_left k b;omega
 rw[this];exact p.O8 c k
def eqv (p:Pm X f):Eqv X (kD f):=
 ⟨fun x _=>⟨0,rfl⟩,fun x a _ _ h=>p.Tp a h,fun _ _ _ _ _ _ ⟨j,b⟩ ⟨k,c⟩=>⟨k+j,by rw[td,b,c]⟩⟩
def vo (p:Pm X f) {x y:α} (a:x∈X) (h:kD f x y):y∈X:=by obtain⟨k,rfl⟩:=h;exact p.F4 a k
end Pm
def kD.refl (f:α->α) (x:α):kD f x x:=⟨0,rfl⟩
def kD.one (f:α->α) (x:α):kD f x (f x):=⟨1,rfl⟩
def kD.trans {f:α->α} {x y z:α} (h:kD f x y) (g:kD f y z):kD f x z:=by
 obtain⟨j,rfl⟩:=h;obtain⟨k,rfl⟩:=g;exact⟨k+j,td f k j x⟩
def Py {p:Nat->Prop} (h:∃k,p k):∃k,p k/\∀j,j<k->¬p j:=by
 obtain⟨k,c⟩:=h
 induction k using Nat.strongRecOn with
 |_ k d=>
  by_cases q:∃j,j<k/\p j
  .obtain⟨j,a,b⟩:=q;exact d j a b
  .exact⟨k,c,fun j a b=>q ⟨j,a,b⟩⟩
def FX {f g:α->α} {x:α}:∀k,(∀j,j<k->f (it f j x)=g (it f j x))->it g k x=it f k x
 |0,_=>rfl
 |k+1,h=>by rw[it,it,FX k fun j a=>h j QT,h k QT]
noncomputable def swp (f:α->α) (a b:α):α->α:=fun x=>if x=a then f b else if x=b then f a else f x
def Mm (f:α->α) (a b:α):swp f a b a=f b:=by simp[swp]
def zL (f:α->α) (a b:α):swp f a b b=f a:=by
 unfold swp;split
 .rename_i h;rw[h]
 .simp
def dD {f:α->α} {a b x:α} (c:x≠a) (h2:x≠b):swp f a b x=f x:=by simp[swp,c,h2]
def aa3 (f:α->α) (a b:α):swp (swp f a b) a b=f:=by
 funext x;by_cases h:x=a
 .subst h;rw[Mm,zL]
 .by_cases k : x = b
  .subst k;rw[zL,Mm]
  .rw[dD h k,dD h k]
def Pm.swp {X:List α} {f:α->α} (p:Pm X f) {a b:α} (ha:a∈X) (hb:b∈X):Pm X (swp f a b):=by
 have v:∀x,∃y,Fw.swp f a b x=f y/\(x∈X->y∈X)/\((x=a/\y=b)\/(x≠a/\x=b/\y=a)\/(x≠a/\x≠b/\y=x)):=fun x=>by
  by_cases h:x=a
  .subst h;exact⟨b,Mm _ _ _,fun _=>hb,.inl ⟨rfl,rfl⟩⟩
  .by_cases k : x = b
   .subst k;exact⟨a,zL _ _ _,fun _=>ha,.inr (.inl ⟨h,rfl,rfl⟩)⟩
   .exact⟨x,dD h k,id,.inr (.inr ⟨h,k,rfl⟩)⟩
 refine⟨p.nd,fun x c=>?_,fun x c y d e=>?_⟩
 .obtain⟨y,e,d,_⟩:=v x;rw[e];exact p.mem y (d c)
 .obtain ⟨x', j, l, c1⟩ := v x
  obtain⟨r,m,h2,c2⟩:=v y;rw[j,m]at e;have:=p.inj _ (l c) _ (h2 d) e;rcases c1 with⟨n,g⟩|⟨n1,n,g⟩|⟨n1,m1,g⟩<;>rcases c2 with⟨o,i⟩|⟨q,o,i⟩|⟨q,m2,i⟩<;>simp_all
def Ni {X:List α} {f:α->α} (p:Pm X f) {a b:α} (ha:a∈X) (hb:b∈X) (w:¬kD f a b):∀x∈X,∀y∈X,kD (swp f a b) x y↔kD f x y\/(kD f x a/\kD f b y)\/(kD f x b/\kD f a y):=by
 have q:=p.swp ha hb;have s:¬kD f b a:=fun h=>w (p.Tp hb h);have to:∀{c d:α},(c=a/\d=b\/c=b/\d=a)->∀x∈X,kD f x c->kD (swp f a b) x c:=by
  intro c d t x i h;obtain⟨k,D,E⟩:=Py h;have A:∀j,it f j x≠d:=fun j B=>by
   have l:kD f x d:=⟨j,B⟩;have h2:kD f x c:=⟨k,D⟩;rcases t with⟨rfl,rfl⟩|⟨rfl,rfl⟩
   .exact w ((p.Tp i h2).trans l)
   .exact s ((p.Tp i h2).trans l)
  refine⟨k,?_⟩;rw[FX k fun j B=>?_,D];have l:=E j B;have h2:=A j;rcases t with⟨rfl,rfl⟩|⟨rfl,rfl⟩
  .exact(dD l h2).symm
  .exact(dD h2 l).symm
 have n:=fun x i=>to (c:=a) (d:=b) (.inl ⟨rfl,rfl⟩) x i;have m:=fun x i=>to (c:=b) (d:=a) (.inr ⟨rfl,rfl⟩) x i;have ab:kD (swp f a b) a b:=by
  have l:=m (f b) (p.mem b hb) (p.Tp hb (kD.one f b));have h2:=kD.one (swp f a b) a;rw[Mm]at h2;exact h2.trans l
 have one:∀x∈X,kD f x (swp f a b x)\/(kD f x a/\kD f b (swp f a b x))\/(kD f x b/\kD f a (swp f a b x)):=fun x _=>by
  by_cases h:x=a
  .subst h;rw[Mm];exact .inr (.inl ⟨kD.refl _ _,kD.one _ _⟩)
  .by_cases k : x = b
   .subst k;rw[zL];exact .inr (.inr ⟨kD.refl _ _,kD.one _ _⟩)
   .rw[dD h k];exact .inl (kD.one _ _)
 intro x i y r;constructor
 .rintro ⟨k, rfl⟩
  clear r
  induction k with
  |zero=>exact .inl (kD.refl _ _)
  |succ k F=>
   have C:=q.F4 i k;have o:=one _ C;rw[it];generalize it (swp f a b) k x=z at*;rcases F with h|⟨h,g⟩|⟨h,g⟩<;>rcases o with o|⟨u,v⟩|⟨u,v⟩
   .exact .inl (h.trans o)
   .exact .inr (.inl ⟨h.trans u,v⟩)
   .exact .inr (.inr ⟨h.trans u,v⟩)
   .exact .inr (.inl ⟨h,g.trans o⟩)
   .exact absurd (g.trans u) s
   .exact .inl (h.trans v)
   .exact .inr (.inr ⟨h,g.trans o⟩)
   .exact .inl (h.trans v)
   .exact absurd (g.trans u) w
 .have back : ∀ z ∈ X, ∀ c, (kD f c z -> z ∈ X) := fun z C _ _ => C
  rintro(h|⟨h,g⟩|⟨h,g⟩)
  .by_cases l : kD f x a
   .have h2 := (p.Tp i h).trans l
    exact(n x i l).trans (q.Tp r (n y r h2))
   .by_cases h2 : kD f x b
    .have h3 := (p.Tp i h).trans h2
     exact(m x i h2).trans (q.Tp r (m y r h3))
    .obtain ⟨k, rfl⟩ := h
     refine⟨k,FX k fun j _=>(dD (fun e=>l ⟨j,e⟩) fun e=>h2 ⟨j,e⟩).symm⟩
  .exact((n x i h).trans ab).trans (q.Tp r (m y r (p.Tp hb g)))
  .exact((m x i h).trans (q.Tp ha ab)).trans (q.Tp r (n y r (p.Tp ha g)))
def V6 {X:List α} {f:α->α} (p:Pm X f) {a b:α} (ha:a∈X) (d:a≠b) (n:kD f a b):¬kD (swp f a b) a b:=by
 obtain⟨k,g,o⟩:=Py n;have hb:=p.vo ha n;have q:=p.swp ha hb;have k0:k≠0:=fun e=>d (by subst e;exact g);have r:∀j,0<j->j<k->it f j a≠a:=fun j i s e=>by
  have:it f (k-j) a=b:=by
   rw[<-g];have:k=(k-j)+j:=QT
   conv=>rhs;rw[this,td,e]
  exact o (k-j) QT this
 have l:∀m,∃j,0<j/\j<=k/\it (swp f a b) m b=it f j a:=by
  intro m
  induction m with
  |zero=>exact⟨k,QT,J4 _,g.symm⟩
  |succ m t=>
   obtain⟨j,i,s,e⟩:=t;rw[it,e];by_cases c:j=k
   .subst c;rw[g,zL];exact⟨1,QT,QT,rfl⟩
   .rw[dD (r j i QT) (o j QT)];exact⟨j+1,QT,QT,rfl⟩
 intro h;obtain⟨m,u⟩:=q.Tp ha h;obtain⟨j,i,s,e⟩:=l m;rw[u]at e;by_cases c:j=k
 .subst c;rw[g]at e;exact d e
 .exact r j i QT e.symm
def Yo {X:List α} {f:α->α} (p:Pm X f) {a b:α} (ha:a∈X) (hb:b∈X) (c:a≠b):
  (kD f a b->cls (kD (swp f a b)) X=cls (kD f) X+1)/\(¬kD f a b->cls (kD (swp f a b)) X+1=cls (kD f) X):=by
 constructor
 .intro h
  have q:=p.swp ha hb;have:=Cz q.eqv ha hb (V6 p ha c h) (R':=kD f) fun x d y e=>by
   have:=Ni q ha hb (V6 p ha c h) x d y e;rwa[aa3]at this
  exact this
 .intro h
  exact(Cz p.eqv ha hb h (Ni p ha hb h)).symm
noncomputable def aI (f:α->α) (d:α):α->α:=fun x=>if f x=d then f d else f x
def OG {X Y:List α} {f:α->α} (p:Pm X f) {d:α} (i:X.Perm (d::Y)):Pm Y (aI f d):=by
 have nd:(d::Y).Nodup:=i.nodup_iff.1 p.nd;rw[tS]at nd;have mem:∀x,x∈X↔x=d\/x∈Y:=fun x=>by rw[i.mem_iff,aH]
 have g:d∈X:=(mem d).2 (.inl rfl);have ne:∀x∈Y,x≠d:=fun x b e=>nd.1 (by rw[<-e];exact b);refine⟨nd.2,fun x b=>?_,fun x b y j e=>?_⟩
 .have a := (mem x).2 (.inr b)
  unfold aI;split
  .rename_i h
   rcases(mem _).1 (p.mem d g)with h2|h2
   .exact absurd (p.inj x a d g (h.trans h2.symm)) (ne x b)
   .exact h2
  .rename_i h
   rcases(mem _).1 (p.mem x a)with h2|h2
   .exact absurd h2 h
   .exact h2
 .have a := (mem x).2 (.inr b)
  have c:=(mem y).2 (.inr j);unfold aI at e;split at e<;>split at e
  .rename_i k h2;exact p.inj x a y c (k.trans h2.symm)
  .exact absurd (p.inj d g y c e).symm (ne y j)
  .exact absurd (p.inj x a d g e) (ne x b)
  .exact p.inj x a y c e
def aax {X Y:List α} {f:α->α} (p:Pm X f) {d:α} (g:X.Perm (d::Y)):∀x∈Y,∀y∈Y,kD (aI f d) x y↔kD f x y:=by
 have q:=OG p g;have nd:(d::Y).Nodup:=g.nodup_iff.1 p.nd;rw[tS]at nd;have mem:∀x,x∈X↔x=d\/x∈Y:=fun x=>by rw[g.mem_iff,aH]
 intro x i y l;constructor
 .rintro ⟨k, rfl⟩
  clear l
  induction k with
  |zero=>exact kD.refl _ _
  |succ k b=>
   rw[it];generalize it (aI f d) k x=z at*;unfold aI;split
   .rename_i h;have:=kD.one f z;rw[h]at this;exact(b.trans this).trans (kD.one f d)
   .exact b.trans (kD.one f z)
 .rintro ⟨k, a⟩
  induction k using Nat.strongRecOn generalizing x with
  |_ k b=>
   cases k with
   |zero=>exact⟨0,a⟩
   |succ k=>
    have m:=(mem x).2 (.inr i);rw[du]at a;by_cases e:f x=d
    .cases k with
     |zero=>exact absurd l (by rw[<-a,it,e];exact nd.1)
     |succ k=>
      rw[du,e]at a;have c:aI f d x=f d:=by simp[aI,e]
      have j:f d∈Y:=by rw[<-c];exact q.mem x i
      have:=b k QT (f d) j a;have h2:=kD.one (aI f d) x;rw[c]at h2;exact h2.trans this
    .have c : aI f d x = f x := by simp [aI, e]
     have j:f x∈Y:=by rw[<-c];exact q.mem x i
     have:=b k QT (f x) j a;have h2:=kD.one (aI f d) x;rw[c]at h2;exact h2.trans this
def JN {X Y:List α} {f:α->α} (p:Pm X f) {d:α} (a:X.Perm (d::Y)):cls (kD f) X=cls (kD (aI f d)) Y+if f d=d then 1 else 0:=by
 have nd:(d::Y).Nodup:=a.nodup_iff.1 p.nd;rw[tS]at nd;have mem:∀x,x∈X↔x=d\/x∈Y:=fun x=>by rw[a.mem_iff,aH]
 have g:d∈X:=(mem d).2 (.inl rfl);rw[ln a p.eqv,cls,Yn (aax p a)];congr 1;by_cases e:f d=d
 .rw [if_pos e, if_neg]
  rintro⟨y,c,k,b⟩;have:it f k d=d:=by
   clear b
   induction k with
   |zero=>rfl
   |succ k i=>rw[it,i,e]
  rw[this]at b;rw[<-b]at c;exact nd.1 c
 .rw [if_neg e, if_pos]
  rcases(mem _).1 (p.mem d g)with h|h
  .exact absurd h e
  .exact⟨_,h,kD.one f d⟩
end Go.Fw
namespace Go.Fw
attribute [local instance] Classical.propDecidable
def nxF (h:Nat):wi->Nat->Nat
 |[],_=>h
 |x::l,y=>if x=y then l.headD h else nxF h l y
def nx (l:wi) (y:Nat):Nat:=nxF (l.headD y) l y
def Xw (h y:Nat) (b:wi):∀a:wi,y∉a->nxF h (a++y::b) y=b.headD h
 |[],_=>by simp[nxF]
 |x::a,c=>by
  rw[E9,nxF,if_neg (fun e=>c (by simp[e])),Xw h y b a (fun h=>c (Gs _ h))]
def BR {a b:wi} {y:Nat} (d:y∉a):nx (a++y::b) y=(b++(a++[y])).headD 0:=by
 rw[nx,Xw _ _ _ _ d];cases b with
 |cons c b=>rfl
 |nil=>cases a<;>rfl
def PH {l:wi} {y:Nat} (h:y∈l):∃a b,l=a++y::b/\y∉a:=by
 induction l with
 |nil=>cases h
 |cons x l c=>
  by_cases e:x=y
  .subst e;exact⟨[],l,rfl,YX⟩
  .obtain ⟨a, b, rfl, d⟩ := c (by simpa [Hn e] using h)
   exact⟨x::a,b,rfl,by simp[d,Hn e]⟩
def TP {c:wi} {y:Nat}:nx (y::c) y=(c++[y]).headD 0:=by
 have:=BR (a:=[]) (b:=c) (y:=y) YX;simpa using this
def rK {a b:wi} (nd:(a++b).Nodup) {y:Nat} (k:y∈a++b):nx (a++b) y=nx (b++a) y:=by
 rw[KM]at nd;obtain⟨l,nb,d⟩:=nd;rcases uK.1 k with h|h
 .obtain ⟨f, i, rfl, e⟩ := PH h
  have h2:y∉b++f:=fun c=>by
   rcases uK.1 c with c|c
   .exact d y YX y c rfl
   .exact e c
  rw[Nd,E9,BR e,show b++(f++y::i)=(b++f)++y::i by simp,BR h2];simp only[Nd]
 .obtain ⟨g, j, rfl, e⟩ := PH h
  have h2:y∉a++g:=fun c=>by
   rcases uK.1 c with c|c
   .exact d y c y YX rfl
   .exact e c
  rw[<-Nd,BR h2,show g++y::j++a=g++y::(j++a) by simp,BR e];simp only[Nd]
def CX {l:wi} (nd:l.Nodup) {y:Nat} (h:y∈l):∃c,(∀z,z∈l↔z=y\/z∈c)/\(y::c).Nodup/\(∀z∈l,nx l z=nx (y::c) z)/\(∃a b,l=a++y::b/\c=b++a):=by
 obtain⟨a,b,rfl,f⟩:=PH h;have d:(a++y::b).Perm (y::(b++a)):=by
  have:(a++y::b).Perm (y::b++a):=FV;simpa using this
 exact⟨b++a,fun z=>by rw[d.mem_iff,aH],d.nodup_iff.1 nd,fun z e=>by rw[rK nd e];rfl,a,b,rfl,rfl⟩
def zc {l:wi} {y:Nat} (h:y∈l):nx l y∈l:=by
 obtain⟨a,b,rfl,d⟩:=PH h;rw[BR d];cases b with
 |cons c b=>simp
 |nil=>cases a<;>simp
def Nc {l:wi} (nd:l.Nodup):l.reverse.Nodup:=(fw l).nodup_iff.2 nd
def Pk {l:wi} (nd:l.Nodup) {y:Nat} (h:y∈l):nx l.reverse (nx l y)=y:=by
 obtain⟨a,b,rfl,k⟩:=PH h;have f:nx (a++y::b) y=nx (y::(b++a)) y:=by rw[rK nd h];rfl
 have d:(a++y::b).reverse.Nodup:=Nc nd;have g:∀z∈a++y::b,nx (a++y::b).reverse z=nx (y::(b++a)).reverse z:=fun z i=>by
  have:(a++y::b).reverse=(y::b).reverse++a.reverse:=by simp
  rw[this]at d ⊢;rw[rK d (by rw[<-this];exact PT.2 i)];congr 1;simp
 rw[g _ (zc h),f,TP];have e:(y::(b++a)).Nodup:=by
  have j:(a++y::b).Perm (y::b++a):=FV;exact j.nodup_iff.1 nd
 generalize b++a=c at*;cases c with
 |nil=>simp[nx,nxF]
 |cons z c=>
  rw[E9,OR];rw[tS,tS]at e;have:(y::z::c).reverse=c.reverse++z::[y]:=by simp
  rw[this,BR (by simpa using e.2.1)];rfl
def aay {l:wi} (nd:l.Nodup) {y:Nat} (h:y∈l):nx l (nx l.reverse y)=y:=by
 have:=Pk (Nc nd) (PT.2 h);rwa[Ny]at this
def M6 {l:wi} (nd:l.Nodup) {x y:Nat} (a:x∈l) (b:y∈l) (e:nx l x=nx l y):x=y:=by
 rw[<-Pk nd a,<-Pk nd b,e]
def Zc {l:wi} (nd:l.Nodup) {x:Nat} (d:x∈l):nx l x=x↔l=[x]:=by
 constructor
 .intro h
  obtain⟨c,i,e,g,a,b,rfl,rfl⟩:=CX nd d;rw[g x d,TP]at h;cases f:b++a with
  |nil=>
   obtain⟨rfl,rfl⟩:=Zf.1 f;rfl
  |cons z c=>
   rw[f]at h e;rw[E9,OR]at h;subst h;simp at e
 .rintro rfl;simp[nx,nxF]
def uM {l:wi} (nd:l.Nodup) {x y:Nat} (j:x∈l) (k:y∈l) (d:y≠x):nx (l.erase x) y=if nx l y=x then nx l x else nx l y:=by
 obtain⟨c,t,m,o,a,b,rfl,rfl⟩:=CX nd j;have g:x∉a:=fun h=>by
  rw[KM]at nd;exact nd.2.2 x h x YX rfl
 have u:(a++x::b).erase x=a++b:=by
  rw[Z3 _ g,Zd]
 have f:y∈b++a:=by rcases(t y).1 k with h|h;exact absurd h d;exact h
 have i:(a++b).Nodup:=by
  rw[KM]at nd ⊢;exact⟨nd.1,(tS.1 nd.2.1).2,fun p v q w=>nd.2.2 p v q (Gs _ w)⟩
 rw[u,rK i (by simpa[or_comm]using f),o y k,o x j];generalize b++a=c at*;obtain⟨c1,c2,rfl,s⟩:=PH f;have h2:y∉x::c1:=by simp[d,s]
 rw[BR s,TP];have h3:nx (x::(c1++y::c2)) y=(c2++(x::c1++[y])).headD 0:=by
  have:=BR (b:=c2) h2;simpa using this
 rw[h3];rw[tS]at m;cases c2 with
 |nil=>simp
 |cons z c2=>
  have:z≠x:=fun e=>m.1 (by simp[e]);simp[this]
def Ma {l:wi} (nd:l.Nodup) {x y:Nat} (C:x∈l) (D:y∈l):kD (nx l) x y:=by
 obtain⟨c,A,B,E,-⟩:=CX nd C;have o:∀z∈l,z∈x::c:=fun z d=>by rw[aH];exact(A z).1 d
 have main:∀(p:wi) (q:wi),x::c=p++q->∀z∈p,kD (nx l) x z:=by
  intro p
  induction i:p.length generalizing p with
  |zero=>intro q _ z d;rw[LB.1 i]at d;cases d
  |succ k F=>
   intro q e z d;obtain⟨j,w,rfl⟩:∃j w,p=j++[w]:=⟨p.dropLast,p.getLast (fun h=>by rw[h]at i;cases i),(aa _).symm⟩;have f:=F j (by simpa using i) (w::q) (by rw[e];simp);rcases uK.1 d with h|h
   .exact f z h
   .rw [Rb] at h; subst h
    cases j with
    |nil=>injection e with s H;rw[<-s];exact kD.refl _ _
    |cons a b=>
     have ea:a=x:=by injection e with s _;exact s.symm
     subst ea;obtain⟨g,u,m⟩:∃g u,a::b=g++[u]:=⟨(a::b).dropLast,(a::b).getLast YX,(aa _).symm⟩;have t:u∈a::b:=by rw[m];simp
     have v:u∈l:=by
      have:u∈a::c:=by rw[e];simp[m]
      rw[aH]at this;exact(A u).2 this
     have G:=f u t;have h2:nx l u=z:=by
      rw[E u v,e,m];have nn:u∉g:=fun h=>by
       rw[e,m,KM,KM,KM]at B;exact B.1.1.2.2 u h u YX rfl
      have:g++[u]++[z]++q=g++u::(z::q):=by simp
      rw[this,BR nn];rfl
     have:=kD.one (nx l) u;rw[h2]at this;exact G.trans this
 exact main (x::c) [] YX y (o y D)
structure ZJ (n:Nat) (r:Nat->wi):Prop where
 nd:∀v,(r v).Nodup
 lt:∀v w,w∈r v->v<n
 sy:∀v w,w∈r v->v∈r w
 ir:∀v,v∉r v
abbrev JE:=Nat×Nat
def dl (n:Nat) (r:Nat->wi):List JE:=(List.range n).flatMap fun v=>(r v).map fun w=>(v,w)
def Mo (r:Nat->wi) (d:JE):JE:=(d.2,nx (r d.2) d.1)
section
variable {n : Nat} {r : Nat → List Nat}
def ZE (R:ZJ n r) {d:JE}:d∈dl n r↔d.2∈r d.1:=by
 obtain⟨v,w⟩:=d;simp only[dl,H0,vq,T8,Ig];constructor
 .rintro⟨x,_,y,a,rfl,rfl⟩;exact a
 .intro h;exact⟨v,R.lt v w h,w,h,rfl,rfl⟩
def EO {f:Nat->List JE} (c:∀v,(f v).Nodup) (h2:∀v,∀d∈f v,d.1=v):∀{l:wi},l.Nodup->(l.flatMap f).Nodup
 |[],_=>by simp
 |v::l,h=>by
  rw[tS]at h;rw[Tx,KM];refine⟨c v,EO c h2 h.2,fun a ha b hb e=>?_⟩;obtain⟨w,hw,hb⟩:=H0.1 hb;subst e;rw[<-h2 w a hb,h2 v a ha]at hw;exact h.1 hw
def Pe (R:ZJ n r):(dl n r).Nodup:=by
 refine EO (fun v=>?_) (fun v d a=>?_) SJ
 .rw [gY, UB]
  exact(gY.1 (R.nd v)).imp fun h e=>h (by injection e)
 .obtain⟨w,_,rfl⟩:=T8.1 a;rfl
def TL (R:ZJ n r):Pm (dl n r) (Mo r):=by
 refine⟨Pe R,fun d a=>?_,fun d a e b h=>?_⟩
 .rw[ZE R]at a ⊢;exact zc (R.sy _ _ a)
 .rw [ZE R] at a b
  obtain⟨v,w⟩:=d;obtain⟨x,y⟩:=e;simp only[Mo,Ig]at h;obtain⟨rfl,h⟩:=h;have:v=x:=M6 (R.nd w) (R.sy _ _ a) (R.sy _ _ b) h;rw[this]
def del (r:Nat->wi) (v w:Nat):Nat->wi:=fun x=>if x=v then(r v).erase w else if x=w then(r w).erase v else r x
def D8 (r:Nat->wi) (v w:Nat):del r v w v=(r v).erase w:=by simp[del]
def B6 {v w:Nat} (r:Nat->wi) (h:v≠w):del r v w w=(r w).erase v:=by simp[del,Hn h]
def jW {v w x:Nat} (r:Nat->wi) (a:x≠v) (h2:x≠w):del r v w x=r x:=by simp[del,a,h2]
def Ru (R:ZJ n r) {v w:Nat} (c:v≠w) {x y:Nat}:y∈del r v w x↔y∈r x/\¬(x=v/\y=w)/\¬(x=w/\y=v):=by
 by_cases d:x=v
 .subst d; rw [D8, (R.nd x).mem_erase_iff]
  constructor
  .rintro⟨a,b⟩;exact⟨b,fun h=>a h.2,fun h=>c h.1⟩
  .rintro⟨a,b,_⟩;exact⟨fun e=>b ⟨rfl,e⟩,a⟩
 .by_cases h2 : x = w
  .subst h2; rw [B6 r c, (R.nd x).mem_erase_iff]
   constructor
   .rintro⟨a,b⟩;exact⟨b,fun h=>d h.1,fun h=>a h.2⟩
   .rintro⟨a,_,b⟩;exact⟨fun e=>b ⟨rfl,e⟩,a⟩
  .rw [jW r d h2]
   exact⟨fun h=>⟨h,fun e=>d e.1,fun e=>h2 e.1⟩,fun h=>h.1⟩
def FH (R:ZJ n r) {v w:Nat} (a:v≠w):ZJ n (del r v w):=by
 refine⟨fun x=>?_,fun x y h=>R.lt x y ((Ru R a).1 h).1,fun x y h=>?_,fun x h=>R.ir x ((Ru R a).1 h).1⟩
 .unfold del; split
  .exact(R.nd v).erase _
  .split
   .exact(R.nd w).erase _
   .exact R.nd x
 .rw [Ru R a] at h ⊢
  exact⟨R.sy _ _ h.1,fun e=>h.2.2 ⟨e.2,e.1⟩,fun e=>h.2.1 ⟨e.2,e.1⟩⟩
def wI {α:Type} {A B:List α} (c:A.Nodup) (nb:B.Nodup) (h:∀x,x∈A↔x∈B):A.Perm B:=by
 induction A generalizing B with
 |nil=>
  cases B with
  |nil=>exact .nil
  |cons b B=>exact absurd ((h b).2 jR) YX
 |cons a A f=>
  rw[tS]at c;have hb:=(h a).1 jR;refine .trans (.cons a (f (B:=B.erase a) c.2 (nb.erase _) fun x=>?_)) (List.perm_cons_erase hb).symm;rw[nb.mem_erase_iff,<-h x,aH];constructor
  .intro d;exact⟨fun e=>c.1 (by rw[<-e];exact d),.inr d⟩
  .rintro⟨g,h2|h2⟩;exact absurd h2 g;exact h2
def NN (R:ZJ n r) {v w:Nat} (h:w∈r v):(dl n r).Perm ((v,w)::(w,v)::dl n (del r v w)):=by
 have a:v≠w:=fun e=>R.ir v (by rw[<-e]at h;exact h);have R':=FH R a;refine wI (Pe R) ?_ fun d=>?_
 .rw [tS, tS]
  refine⟨?_,?_,Pe R'⟩
  .simp only [aH, Ig, ZE R', Ru R a]
   rintro(⟨e,_⟩|⟨_,e,_⟩)
   .exact a e
   .exact e ⟨trivial,trivial⟩
  .simp only [ZE R', Ru R a]
   rintro⟨_,_,e⟩;exact e ⟨trivial,trivial⟩
 .obtain ⟨x, y⟩ := d
  simp only[aH,ZE R,ZE R',Ru R a,Ig];by_cases b:x=v/\y=w
  .obtain⟨rfl,rfl⟩:=b;simp[h]
  .by_cases h2 : x = w /\ y = v
   .obtain⟨rfl,rfl⟩:=h2;simp[R.sy _ _ h]
   .simp[b,h2]
def vF {α:Type} (f:α->α) (d x:α):aI f d x=if f x=d then f d else f x:=rfl
def aaA (R:ZJ n r) {v w:Nat} (h:w∈r v) {d:JE} (q:d∈dl n (del r v w)):Mo (del r v w) d=aI (aI (swp (Mo r) (v,w) (w,v)) (v,w)) (w,v) d:=by
 have c:v≠w:=fun e=>R.ir v (by rw[<-e]at h;exact h);have R':=FH R c;obtain⟨a,b⟩:=d;rw[ZE R',Ru R c]at q;obtain⟨f,n1,l⟩:=q;simp only at f n1 l;have s0:swp (Mo r) (v,w) (w,v) (a,b)=Mo r (a,b):=dD (fun e=>n1 (by simpa using e)) (fun e=>l (by simpa using e));have g:=R.sy _ _ f;by_cases k:b=v
 .subst k
  have m:a≠w:=fun e=>l ⟨e,rfl⟩
  have o:Mo (del r b w) (a,b)=(b,if nx (r b) a=w then nx (r b) w else nx (r b) a):=by
   simp only[Mo];rw[D8,uM (R.nd b) h g m]
  have i:aI (swp (Mo r) (b,w) (w,b)) (b,w) (a,b)=(b,if nx (r b) a=w then nx (r b) w else nx (r b) a):=by
   unfold aI;rw[s0,Mm];simp only[Mo,Ig,true_and];split<;>simp_all
  have j:aI (aI (swp (Mo r) (b,w) (w,b)) (b,w)) (w,b) (a,b)=aI (swp (Mo r) (b,w) (w,b)) (b,w) (a,b):=by
   rw[vF (aI (swp (Mo r) (b,w) (w,b)) (b,w)),if_neg];rw[i];intro e;injection e with e _;exact c e
  rw[o,j,i]
 .have i:aI (swp (Mo r) (v,w) (w,v)) (v,w) (a,b)=Mo r (a,b):=by
   unfold aI;rw[s0,if_neg];simp only[Mo,Ig];exact fun e=>k e.1
  by_cases h2:b=w
  .subst h2
   have p:a≠v:=fun e=>n1 ⟨e,rfl⟩
   have o:Mo (del r v b) (a,b)=(b,if nx (r b) a=v then nx (r b) v else nx (r b) a):=by
    simp only[Mo];rw[B6 r c,uM (R.nd b) (R.sy _ _ h) g p]
   have s:aI (swp (Mo r) (v,b) (b,v)) (v,b) (b,v)=(b,nx (r b) v):=by
    unfold aI;rw[zL,if_neg]
    .rfl
    .simp only[Mo,Ig];exact fun e=>k e.1
   have j:aI (aI (swp (Mo r) (v,b) (b,v)) (v,b)) (b,v) (a,b)=if Mo r (a,b)=(b,v)then(b,nx (r b) v)else Mo r (a,b):=by
    rw[vF (aI (swp (Mo r) (v,b) (b,v)) (v,b)),i,s];by_cases hh:Mo r (a,b)=(b,v)
    .rw[if_pos hh,if_pos hh]
    .rw[if_neg hh,if_neg hh]
   rw[o,j];simp only[Mo,Ig,true_and];split<;>rfl
  .have j:aI (aI (swp (Mo r) (v,w) (w,v)) (v,w)) (w,v) (a,b)=Mo r (a,b):=by
    rw[vF (aI (swp (Mo r) (v,w) (w,v)) (v,w)),i,if_neg];simp only[Mo,Ig];exact fun e=>h2 e.1
   rw[j];simp only[Mo];rw[jW r k h2]
noncomputable def Zz (n:Nat) (r:Nat->wi):Nat:=cls (kD (Mo r)) (dl n r)+((List.range n).filter fun v=>decide (r v=[])).length
def Jo {α:Type} {f g:α->α} {X:List α} (p:Pm X f) (h:∀x∈X,f x=g x):∀x∈X,∀y∈X,kD f x y↔kD g x y:=by
 intro x b y _;have e:∀k,it g k x=it f k x:=fun k=>FX k fun j _=>h _ (p.F4 b j);exact⟨fun⟨k,a⟩=>⟨k,by rw[e];exact a⟩,fun⟨k,a⟩=>⟨k,by rw[<-e];exact a⟩⟩
def aaB (R:ZJ n r) {v w:Nat} (h:w∈r v):((List.range n).filter fun x=>decide (del r v w x=[])).length=((List.range n).filter fun x=>decide (r x=[])).length+(if r v=[w]then 1 else 0)+if r w=[v]then 1 else 0:=by
 have f:v≠w:=fun e=>R.ir v (by rw[<-e]at h;exact h);have hw:=R.sy _ _ h
 have key:∀l:wi,l.Nodup->(l.filter fun x=>decide (del r v w x=[])).length=(l.filter fun x=>decide (r x=[])).length+(if v∈l/\r v=[w]then 1 else 0)+if w∈l/\r w=[v]then 1 else 0:=by
  intro l
  induction l with
  |nil=>intro _;simp
  |cons x l m=>
   intro nd;rw[tS]at nd;have i:=m nd.2;have j:∀{a b:Nat},b∈r a->((r a).erase b=[]↔r a=[b]):=fun{a b} hb=>by
    constructor
    .intro e
     have d:=VZ hb;rw[e]at d;obtain⟨c,k⟩:=Fl.1 (show(r a).length=1 by have:=TR hb;simp at d;omega);rw[k]at hb;rw[Rb]at hb;rw[k,hb]
    .intro e;rw[e];simp
   by_cases d:x=v
   .subst d
    have g:r x≠[]:=fun e=>by rw[e]at h;cases h
    rw[UR,UR,D8];simp only[j h,g,decide_false,aH,true_or,true_and,nd.1,false_and,if_false,Z2,decide_eq_true_eq,Hn f,false_or]at i ⊢
    split<;>(try simp only[jD])<;>omega
   .by_cases h2 : x = w
    .subst h2
     have g:r x≠[]:=fun e=>by rw[e]at hw;cases hw
     rw[UR,UR,B6 r f];simp only[j hw,g,decide_false,aH,true_or,true_and,nd.1,false_and,if_false,Z2,decide_eq_true_eq,f,false_or]at i ⊢
     split<;>(try simp only[jD])<;>omega
    .rw [UR, UR, jW r d h2]
     simp only[aH,Hn d,Hn h2,false_or]at i ⊢
     split<;>(try simp only[jD])<;>omega
 have:=key (List.range n) SJ;have d:v∈List.range n:=vq.2 (R.lt _ _ h);have h2:w∈List.range n:=vq.2 (R.lt _ _ hw);simp only[d,h2,true_and]at this;exact this
def GD (R:ZJ n r) {v w:Nat} (h:w∈r v):(kD (Mo r) (v,w) (w,v)->Zz n (del r v w)=Zz n r+1)/\(¬kD (Mo r) (v,w) (w,v)->Zz n (del r v w)+1=Zz n r):=by
 have a:v≠w:=fun e=>R.ir v (by rw[<-e]at h;exact h);have hw:=R.sy _ _ h;have R':=FH R a;have p:=TL R;have f:(v,w)∈dl n r:=(ZE R).2 h;have b:(w,v)∈dl n r:=(ZE R).2 hw;have c:((v,w):JE)≠(w,v):=fun e=>by injection e with e _;exact a e
 obtain⟨s1,s2⟩:=Yo p f b c;have q:=p.swp f b;have g:=NN R h;have k1:=JN q g;have j:=OG q g;have k2:=JN j (.refl _);have o:=OG j (.refl _);have c1:cls (kD (Mo (del r v w))) (dl n (del r v w))=cls (kD (aI (aI (swp (Mo r) (v,w) (w,v)) (v,w)) (w,v))) (dl n (del r v w)):=
  Yn (Jo (TL R') fun x k=>aaA R h k)
 have l:(swp (Mo r) (v,w) (w,v) (v,w)=(v,w))↔r v=[w]:=by
  rw[Mm];simp only[Mo,Ig,true_and];exact Zc (R.nd v) h
 have m:(aI (swp (Mo r) (v,w) (w,v)) (v,w) (w,v)=(w,v))↔r w=[v]:=by
  have:aI (swp (Mo r) (v,w) (w,v)) (v,w) (w,v)=Mo r (v,w):=by
   unfold aI;rw[zL,if_neg];simp only[Mo,Ig];exact fun e=>a e.1.symm
  rw[this];simp only[Mo,Ig,true_and];exact Zc (R.nd w) hw
 simp only[l]at k1;simp only[m]at k2;have i:=aaB R h;unfold Zz;constructor
 .intro d;have:=s1 d;omega
 .intro d;have:=s2 d;omega
inductive Cr (r:Nat->wi):Nat->Nat->Prop
 |refl (a:Nat):Cr r a a
 |step {a b c:Nat}:Cr r a b->c∈r b->Cr r a c
def Cr.trans {a b c:Nat} (h:Cr r a b) (g:Cr r b c):Cr r a c:=by
 induction g with
 |refl=>exact h
 |step _ e d=>exact .step d e
def Cr.one {a b:Nat} (h:b∈r a):Cr r a b:=.step (.refl a) h
def Cr.symm (R:ZJ n r) {a b:Nat} (h:Cr r a b):Cr r b a:=by
 induction h with
 |refl=>exact .refl _
 |step _ e c=>exact(Cr.one (R.sy _ _ e)).trans c
def Cr.eqv (R:ZJ n r) (X:wi):Eqv X (Cr r):=⟨fun x _=>.refl x,fun _ _ _ _ h=>h.symm R,fun _ _ _ _ _ _ h g=>h.trans g⟩
def Cr.mono {d:Nat->wi} (h:∀v w,w∈r v->w∈d v) {a b:Nat} (c:Cr r a b):Cr d a b:=by
 induction c with
 |refl=>exact .refl _
 |step _ e f=>exact .step f (h _ _ e)
noncomputable def KR (n:Nat) (r:Nat->wi):Nat:=cls (Cr r) (List.range n)
def MX (R:ZJ n r) {v w:Nat} (h:w∈r v) {a b:Nat}:Cr r a b↔Cr (del r v w) a b\/(Cr (del r v w) a v/\Cr (del r v w) w b)\/(Cr (del r v w) a w/\Cr (del r v w) v b):=by
 have f:v≠w:=fun e=>R.ir v (by rw[<-e]at h;exact h);have sub:∀x y,y∈del r v w x->y∈r x:=fun x y l=>((Ru R f).1 l).1;constructor
 .intro c
  induction c with
  |refl=>exact .inl (.refl _)
  |@step b c _ e g=>
   by_cases k:b=v/\c=w
   .obtain ⟨rfl, rfl⟩ := k
    rcases g with i|⟨i,_⟩|⟨i,_⟩
    .exact .inr (.inl ⟨i,.refl _⟩)
    .exact .inr (.inl ⟨i,.refl _⟩)
    .exact .inl i
   .by_cases h2 : b = w /\ c = v
    .obtain ⟨rfl, rfl⟩ := h2
     rcases g with i|⟨i,_⟩|⟨i,_⟩
     .exact .inr (.inr ⟨i,.refl _⟩)
     .exact .inl i
     .exact .inr (.inr ⟨i,.refl _⟩)
    .have e' : c ∈ del r v w b := (Ru R f).2 ⟨e, k, h2⟩
     rcases g with i|⟨i,j⟩|⟨i,j⟩
     .exact .inl (.step i e')
     .exact .inr (.inl ⟨i,.step j e'⟩)
     .exact .inr (.inr ⟨i,.step j e'⟩)
 .rintro (c | ⟨c, d⟩ | ⟨c, d⟩)
  .exact c.mono sub
  .exact((c.mono sub).trans (.one h)).trans (d.mono sub)
  .exact((c.mono sub).trans (.one (R.sy _ _ h))).trans (d.mono sub)
def xL (R:ZJ n r) {v w:Nat} (h:w∈r v):(Cr (del r v w) v w->KR n (del r v w)=KR n r)/\(¬Cr (del r v w) v w->KR n (del r v w)=KR n r+1):=by
 have d:v≠w:=fun e=>R.ir v (by rw[<-e]at h;exact h);have R':=FH R d;constructor
 .intro c
  refine Yn fun a _ b _=>?_;rw[MX R h];exact⟨.inl,fun x=>x.elim id fun x=>x.elim (fun x=>(x.1.trans c).trans x.2) fun x=>(x.1.trans (c.symm R')).trans x.2⟩
 .intro c
  exact Cz (Cr.eqv R' _) (vq.2 (R.lt _ _ h)) (vq.2 (R.lt _ _ (R.sy _ _ h))) c fun a _ b _=>MX R h
def wx (R:ZJ n r) {v w:Nat} (h:w∈r v) (hb:¬Cr (del r v w) v w):kD (Mo r) (v,w) (w,v):=by
 have d:v≠w:=fun e=>R.ir v (by rw[<-e]at h;exact h);have R':=FH R d;have p:=TL R;have l:(v,w)∈dl n r:=(ZE R).2 h;refine mS fun f=>hb ?_;have key:∀j,0<j->Cr (del r v w) w (it (Mo r) j (v,w)).1\/∃i,0<i/\i<j/\it (Mo r) i (v,w)=(v,w):=by
  intro j
  induction j with
  |zero=>intro h;omega
  |succ j q=>
   intro _;by_cases s:j=0
   .subst s;exact .inl (.refl _)
   rcases q QT with c|⟨i,g,A,e⟩
   .by_cases m : it (Mo r) j (v, w) = (v, w)
    .exact .inr ⟨j,QT,QT,m⟩
    have t:it (Mo r) j (v,w)≠(w,v):=fun e=>f ⟨j,e⟩;have o:=p.F4 l j;rw[it];generalize it (Mo r) j (v,w)=z at*;obtain⟨a,b⟩:=z;rw[ZE R]at o;refine .inl (c.step ?_);exact(Ru R d).2 ⟨o,fun e=>m (X9 e.1 e.2),fun e=>t (X9 e.1 e.2)⟩
   .exact .inr ⟨i,g,QT,e⟩
 obtain⟨k,⟨k0,u⟩,x⟩:=Py (p:=fun k=>0<k/\it (Mo r) k (v,w)=(v,w)) (p.period l);rcases key k k0 with c|⟨i,g,y,e⟩
 .rw[u]at c;exact c.symm R'
 .exact absurd ⟨g,e⟩ (x i y)
def aaC (R:ZJ n r) (h:dl n r=[]) (v:Nat):r v=[]:=by
 cases e:r v with
 |nil=>rfl
 |cons w l=>
  have:(v,w)∈dl n r:=(ZE R).2 (by show w∈r v;rw[e];exact jR);rw[h]at this;cases this
def Bu:∀(m:Nat) (r:Nat->wi),ZJ n r->(dl n r).length=2*m->∃g,n+Zz n r+2*g=m+2*KR n r
 |0,r,R,h=>by
  have k:=LB.1 h;have o:=aaC R k;refine⟨0,?_⟩;have z:Zz n r=n:=by
   unfold Zz;rw[k];have:(List.range n).filter (fun v=>decide (r v=[]))=List.range n:=by rw[JG];intro a _;simp[o]
   rw[this];simp[cls]
  have A:KR n r=n:=by
   unfold KR;have:∀a b,Cr r a b↔a=b:=fun a b=>by
    constructor
    .intro c
     induction c with
     |refl=>rfl
     |step _ e _=>rw[o]at e;cases e
    .rintro rfl;exact .refl _
   have key:∀l:wi,l.Nodup->cls (Cr r) l=l.length:=by
    intro l
    induction l with
    |nil=>intro _;rfl
    |cons x l p=>
     intro nd;rw[tS]at nd;rw[cls,p nd.2,if_neg];rfl;rintro⟨y,q,c⟩;rw[(this x y).1 c]at nd;exact nd.1 q
   rw[key _ SJ,xw]
  omega
 |m+1,r,R,h=>by
  obtain⟨d,l,e⟩:∃d l,dl n r=d::l:=by
   cases hh:dl n r with
   |nil=>rw[hh]at h;simp at h
   |cons d l=>exact⟨d,l,rfl⟩
  obtain⟨v,w⟩:=d;have hw:w∈r v:=(ZE (d:=(v,w)) R).1 (by rw[e];exact jR);have i:v≠w:=fun e=>R.ir v (by rw[<-e]at hw;exact hw);have s:=(NN R hw).length_eq;simp only[jD]at s;obtain⟨g,hg⟩:=Bu m (del r v w) (FH R i) QT;obtain⟨t,u⟩:=GD R hw;obtain⟨c1,c2⟩:=xL R hw;by_cases j:kD (Mo r) (v,w) (w,v)
  .have := t j
   by_cases f:Cr (del r v w) v w
   .have:=c1 f;exact⟨g+1,QT⟩
   .have:=c2 f;exact⟨g,QT⟩
  .have := u j
   have f:Cr (del r v w) v w:=mS fun f=>j (wx R hw f);have:=c1 f;exact⟨g,QT⟩
end
end Go.Fw
namespace Go.Fw
section
attribute [local instance] Classical.propDecidable
variable {n : Nat} {r : Nat → List Nat}
def Flat (n:Nat) (r:Nat->wi):Prop:=2*(n+Zz n r)=(dl n r).length+4*KR n r
def aaD:∀(m:Nat) (r:Nat->wi),ZJ n r->(dl n r).length=m->m%2=0:=by
 intro m
 induction m using Nat.strongRecOn with
 |_ m b=>
  intro r R h;cases hh:dl n r with
  |nil=>rw[hh]at h;simp at h;omega
  |cons d l=>
   obtain⟨v,w⟩:=d;have hw:w∈r v:=(ZE (d:=(v,w)) R).1 (by rw[hh];exact jR);have a:v≠w:=fun e=>R.ir v (by rw[<-e]at hw;exact hw);have c:=(NN R hw).length_eq;simp only[jD]at c;have:=b _ QT _ (FH R a) rfl;omega
def cU (R:ZJ n r):∃g,2*(n+Zz n r)+4*g=(dl n r).length+4*KR n r:=by
 have a:=aaD _ r R rfl;obtain⟨g,hg⟩:=Bu ((dl n r).length / 2) r R QT;exact⟨g,QT⟩
def kP (R:ZJ n r) {v w:Nat} (h:w∈r v) (hf:Flat n r):Flat n (del r v w)/\(kD (Mo r) (v,w) (w,v)↔¬Cr (del r v w) v w):=by
 have c:v≠w:=fun e=>R.ir v (by rw[<-e]at h;exact h);have R':=FH R c;have d:=(NN R h).length_eq;simp only[jD]at d;obtain⟨f,i⟩:=GD R h;obtain⟨c1,c2⟩:=xL R h;obtain⟨g,hg⟩:=cU R';have hb:=wx R h;unfold Flat at*;by_cases b:kD (Mo r) (v,w) (w,v)
 .have := f b
  by_cases a:Cr (del r v w) v w
  .have:=c1 a;omega
  .have:=c2 a;exact⟨QT,fun _=>a,fun _=>b⟩
 .have := i b
  have a:Cr (del r v w) v w:=mS fun a=>b (hb a);have:=c1 a;exact⟨QT,fun h=>absurd h b,fun h=>absurd a h⟩
noncomputable def Ps (P:Nat->Nat->Prop) (r:Nat->wi):Nat->wi:=fun v=>(r v).filter fun w=>decide (P v w)
def Bk {P:Nat->Nat->Prop} {v w:Nat}:w∈Ps P r v↔w∈r v/\P v w:=by simp[Ps]
def Jt (R:ZJ n r) {P:Nat->Nat->Prop} (a:∀v w,P v w->P w v):ZJ n (Ps P r):=
 ⟨fun v=>(R.nd v).sublist F5,fun v w h=>R.lt v w (Bk.1 h).1,fun v w h=>Bk.2 ⟨R.sy _ _ (Bk.1 h).1,a _ _ (Bk.1 h).2⟩,fun v h=>R.ir v (Bk.1 h).1⟩
def yB {P:Nat->Nat->Prop} (h:∀v w,w∈r v->P v w):Ps P r=r:=by
 funext v;rw[Ps,JG];intro w hw;simpa using h v w hw
def YC (R:ZJ n r) {P:Nat->Nat->Prop} {v w:Nat} (a:v≠w) (b:¬P v w) (h2:¬P w v):Ps P (del r v w)=Ps P r:=by
 funext x;unfold Ps del;split
 .rename_i e; subst e
  rw[(R.nd x).erase_eq_filter,Lm];refine SD fun y _=>?_;by_cases e:y=w
  .subst e;simp[b]
  .simp[e]
 .split
  .rename_i c e; subst e
   rw[(R.nd x).erase_eq_filter,Lm];refine SD fun y _=>?_;by_cases e:y=v
   .subst e;simp[h2]
   .simp[e]
  .rfl
def G4:∀(m:Nat) (r:Nat->wi),ZJ n r->(dl n r).length=m->Flat n r->∀{P:Nat->Nat->Prop},(∀v w,P v w->P w v)->Flat n (Ps P r):=by
 intro m
 induction m using Nat.strongRecOn with
 |_ m f=>
  intro r R j hf P d;by_cases a:∀v w,w∈r v->P v w
  .rw[yB a];exact hf
  obtain⟨v,w,hw,c⟩:∃v w,w∈r v/\¬P v w:=mS fun g=>a fun v w hw=>mS fun c=>g ⟨v,w,hw,c⟩;have b:v≠w:=fun e=>R.ir v (by rw[<-e]at hw;exact hw);have i:=(NN R hw).length_eq;simp only[jD]at i;rw[<-YC R b c fun h=>c (d _ _ h)];exact f _ QT _ (FH R b) rfl (kP R hw hf).1 d
def Flat.keep (R:ZJ n r) (hf:Flat n r) {P:Nat->Nat->Prop} (a:∀v w,P v w->P w v):Flat n (Ps P r):=G4 _ r R rfl hf a
end
end Go.Fw
namespace Go.Fw
attribute [local instance] Classical.propDecidable
section
variable {α : Type} {X : List α} {f : α → α}
noncomputable def qS (f:α->α) (x:α):Nat:=if h:∃k,0<k/\it f k x=x then Classical.choose (Py h)else 0
def zZ (p:Pm X f) {x:α} (a:x∈X):0<qS f x/\it f (qS f x) x=x/\∀j,0<j->j<qS f x->it f j x≠x:=by
 have h:=p.period a;unfold qS;rw[dif_pos h];have:=DC (Py h);exact⟨this.1.1,this.1.2,fun j b c e=>this.2 j c ⟨b,e⟩⟩
noncomputable def Vq (f:α->α) (x:α):List α:=(List.range (qS f x)).map fun k=>it f k x
def Dw (f:α->α) (x:α):(Vq f x).length=qS f x:=by simp[Vq]
def IN (p:Pm X f) {x:α} (a:x∈X) (k:Nat):it f k x=it f (k%qS f x) x:=by
 have h:=(zZ p a).2.1;have e:k=k%qS f x+(k / qS f x)*qS f x:=by have:=Nat.mod_add_div k (qS f x);rw[Nat.mul_comm]at this;omega
 conv=>lhs;rw[e,td,p.O8 h]
def Ts (p:Pm X f) {x:α} (a:x∈X) {y:α}:y∈Vq f x↔kD f x y:=by
 unfold Vq;rw[T8];constructor
 .rintro⟨k,_,rfl⟩;exact⟨k,rfl⟩
 .rintro ⟨k, rfl⟩
  exact⟨k%qS f x,vq.2 (JH _ (zZ p a).1),(IN p a k).symm⟩
def Mb (p:Pm X f) {x:α} (a:x∈X) {i j:Nat} (c:j<qS f x) (b:i<j):it f i x≠it f j x:=fun e=>by
 have h:it f j x=it f i (it f (j-i) x):=by rw[<-td];congr 1;omega
 rw[h]at e;have:=p.sx a (p.F4 a _) i e;exact(zZ p a).2.2 (j-i) QT QT this.symm
def lK (p:Pm X f) {x:α} (c:x∈X):(Vq f x).Nodup:=by
 unfold Vq;rw[gY,UB,cR];intro i j hi b a;rw[xw]at b;simp only[aad];exact Mb p c b a
end
def dG (a b:JE):Prop:=a.1<b.1\/a.1=b.1/\a.2<b.2
instance (a b:JE):Decidable (dG a b):=by unfold dG;infer_instance
def D3 (a:JE):¬dG a a:=by unfold dG;omega
def TF {a b c:JE} (h:dG a b) (g:dG b c):dG a c:=by unfold dG at*;omega
def aaE (a b:JE):dG a b\/a=b\/dG b a:=by
 unfold dG;by_cases h:a=b
 .exact .inr (.inl h)
 .have : a.1 ≠ b.1 \/ a.2 ≠ b.2 := mS fun c => h (X9 QT QT)
  omega
def VY {α:Type} {lt:α->α->Prop} {R:α->α->Prop} (d:∀a b,lt a b->¬lt b a):∀(k:Nat) (l:List α),l.length=k->l.Pairwise lt->cls R l.reverse=(l.filter fun x=>decide (∀y∈l,R x y->¬lt y x)).length
 |0,l,h,_=>by rw[LB.1 h];rfl
 |k+1,l,h,g=>by
  obtain⟨l,x,rfl⟩:∃l' x,l=l'++[x]:=⟨l.dropLast,l.getLast (fun e=>by rw[e]at h;cases h),(aa _).symm⟩;rw[zu]at g;obtain⟨i,_,h3⟩:=g;have j:=VY (R:=R) d k l (by simpa using h) i;rw[Yj,List.reverse_cons,List.reverse_nil,IT,qL246,cls,j,zQ,Vw];congr 1
  .congr 1
   refine SD fun z m=>?_;rw[decide_eq_decide];constructor
   .intro h y c r
    rcases uK.1 c with c|c
    .exact h y c r
    .rw[Rb]at c;subst c;exact d _ _ (h3 z m y YX)
   .intro h y c r;exact h y (KF _ c) r
  .by_cases q : ∃ y ∈ l.reverse, R x y
   .rw [if_pos q]
    obtain⟨y,c,r⟩:=q;rw[PT]at c;rw[UR,if_neg];rfl;rw[decide_eq_true_eq];intro h;exact h y (KF _ c) r (h3 y c x YX)
   .rw [if_neg q, UR, if_pos]; rfl
    rw[decide_eq_true_eq];intro y c r;rcases uK.1 c with c|c
    .exact absurd ⟨y,PT.2 c,r⟩ q
    .rw[Rb]at c;subst c;exact fun h=>d _ _ h h
section
variable {n : Nat} {r : Nat → List Nat}
noncomputable def ig (n:Nat) (r:Nat->wi):List JE:=(List.range n).flatMap fun v=>((List.range n).filter fun w=>decide (w∈r v)).map fun w=>(v,w)
def sY (R:ZJ n r) {d:JE}:d∈ig n r↔d.2∈r d.1:=by
 obtain⟨v,w⟩:=d;simp only[ig,H0,vq,T8,sX,decide_eq_true_eq,Ig];constructor
 .rintro⟨x,_,y,⟨_,a⟩,rfl,rfl⟩;exact a
 .intro h;exact⟨v,R.lt v w h,w,⟨R.lt w v (R.sy _ _ h),h⟩,rfl,rfl⟩
def cO (n:Nat) (r:Nat->wi):(ig n r).Pairwise dG:=by
 unfold ig;rw[dJ];constructor
 .intro v _
  rw[UB];exact((Be (n:=n)).filter _).imp fun h=>.inr ⟨rfl,h⟩
 .refine (Be (n := n)).imp fun {a b} h x c y d => ?_
  obtain⟨_,_,rfl⟩:=T8.1 c;obtain⟨_,_,rfl⟩:=T8.1 d;exact .inl h
def FE (n:Nat) (r:Nat->wi):(ig n r).Nodup:=(gY).2 ((cO n r).imp fun h e=>by subst e;exact D3 _ h)
def VL (R:ZJ n r):(dl n r).Perm (ig n r):=wI (Pe R) (FE n r) fun d=>by rw[ZE R,sY R]
def Hd (r:Nat->wi) (d:JE):Prop:=∀e,kD (Mo r) d e->¬dG e d
noncomputable def kZ (n:Nat) (r:Nat->wi):List JE:=(ig n r).filter fun d=>decide (Hd r d)
noncomputable def uQ (r:Nat->wi) (d:JE):wi:=(Vq (Mo r) d).map (·.1)
noncomputable def WW (n:Nat) (r:Nat->wi):ai:=(kZ n r).map (uQ r)
def cq (R:ZJ n r):(kZ n r).length=cls (kD (Mo r)) (dl n r):=by
 have p:=TL R;have c:=VL R;rw[ln (c.trans (fw _).symm) p.eqv,VY (lt:=dG) (fun a b h g=>D3 a (TF h g)) _ _ rfl (cO n r),kZ];congr 1;refine SD fun d i=>?_;rw[decide_eq_decide];have e:d∈dl n r:=c.mem_iff.2 i;exact⟨fun h y _ o=>h y o,fun h y o=>h y (c.mem_iff.1 (p.vo e o)) o⟩
def MN (R:ZJ n r) {d:JE}:d∈kZ n r↔d.2∈r d.1/\Hd r d:=by
 rw[kZ,sX,sY R,decide_eq_true_eq]
def xP (R:ZJ n r) {d e:JE} (a:d∈kZ n r) (b:e∈kZ n r) (h:kD (Mo r) d e):d=e:=by
 rw[MN R]at a b;have c:=a.2 e h;have h2:=b.2 d ((TL R).Tp ((ZE R).2 a.1) h);rcases aaE d e with q|q|q
 .exact absurd q h2
 .exact q
 .exact absurd q c
def JJ (R:ZJ n r) {d:JE} (a:d∈dl n r):2<=qS (Mo r) d:=by
 have p:=TL R;obtain⟨c,b,_⟩:=zZ p a;refine mS fun g=>?_;have e:qS (Mo r) d=1:=QT;rw[e]at b;have h2:d.2=d.1:=congrArg Prod.fst b;have:=(ZE R).1 a;rw[h2]at this;exact R.ir _ this
end
end Go.Fw
namespace Go.Fw
attribute [local instance] Classical.propDecidable
def Ej {α:Type} {lt:α->α->Prop} (d:∀a,¬lt a a) (tr:∀a b c,lt a b->lt b c->lt a c):∀(l m:List α),l.Pairwise lt->m.Pairwise lt->(∀x,x∈l↔x∈m)->l=m
 |[],[],_,_,_=>rfl
 |[],y::m,_,_,h=>absurd ((h y).2 jR) RF
 |x::l,[],_,_,h=>absurd ((h x).1 jR) RF
 |x::l,y::m,f,i,h=>by
  rw[jO]at f i;have e:x=y:=by
   rcases aH.1 ((h x).1 jR)with e|e
   .exact e
   .rcases aH.1 ((h y).2 jR) with j | j
    .exact j.symm
    .exact absurd (tr _ _ _ (f.1 y j) (i.1 x e)) (d x)
  subst e;congr 1;refine Ej d tr l m f.2 i.2 fun z=>?_;have k:=h z;simp only[aH]at k;constructor
  .intro g
   rcases k.1 (.inr g)with e|e
   .subst e;exact absurd (f.1 z g) (d z)
   .exact e
  .intro g
   rcases k.2 (.inr g)with e|e
   .subst e;exact absurd (i.1 z g) (d z)
   .exact e
section
variable {n : Nat} {r : Nat → List Nat}
def aaF {α:Type} {X:List α} {f:α->α} (p:Pm X f) {x:α} (d:x∈X) {k:Nat} (e:0<k) (g:it f k x=x) (h2:∀j,j<k->0<j->it f j x≠x):qS f x=k:=by
 obtain⟨a,b,c⟩:=zZ p d;rcases zX (qS f x) k with h|h|h
 .exact absurd b (h2 _ h a)
 .exact h
 .exact absurd g (c k e h)
def Cert (n:Nat) (r:Nat->wi) (hs:List (JE×Nat)):Prop:=
 (∀p∈hs,p.1.2∈r p.1.1/\0<p.2/\it (Mo r) p.2 p.1=p.1/\∀j,j<p.2->(0<j->it (Mo r) j p.1≠p.1)/\¬dG (it (Mo r) j p.1) p.1)/\(hs.map (·.1)).Pairwise dG/\∀d∈dl n r,∃p∈hs,d∈(List.range p.2).map fun j=>it (Mo r) j p.1
def Cv (R:ZJ n r) {hs:List (JE×Nat)} (C:Cert n r hs):WW n r=hs.map fun p=>(List.range p.2).map fun j=>(it (Mo r) j p.1).1:=by
 obtain⟨h,h2,h3⟩:=C;have p:=TL R;have m:∀q∈hs,qS (Mo r) q.1=q.2:=fun q f=>by
  obtain⟨a,b,c,d⟩:=h q f;exact aaF p ((ZE R).2 a) b c fun j o s=>(d j o).1 s
 have g:∀q∈hs,Hd r q.1:=fun q f=>by
  obtain⟨a,b,c,d⟩:=h q f;rintro e ⟨k,rfl⟩;rw[IN p ((ZE R).2 a) k,m q f];exact(d _ (JH _ b)).2
 have e:kZ n r=hs.map (·.1):=by
  refine Ej D3 (fun _ _ _=>TF) _ _ ((cO n r).filter _) h2 fun x=>?_;constructor
  .intro i
   obtain⟨l,t⟩:=(MN R).1 i;obtain⟨q,f,u⟩:=h3 x ((ZE R).2 l);obtain⟨j,_,v⟩:=T8.1 u;have:q.1∈kZ n r:=(MN R).2 ⟨(h q f).1,g q f⟩;have:=xP R this i ⟨j,v⟩;rw[<-this];exact T8.2 ⟨q,f,rfl⟩
  .intro i
   obtain⟨q,f,rfl⟩:=T8.1 i;exact(MN R).2 ⟨(h q f).1,g q f⟩
 rw[WW,e,UD];refine vG fun q f=>?_;simp only[Function.comp,uQ,Vq,m q f,UD];rfl
end
end Go.Fw
namespace Go.Fw
attribute [local instance] Classical.propDecidable
def ph {α β:Type} {R:β->β->Prop} (f:α->β):∀X:List α,cls R (X.map f)=cls (fun x y=>R (f x) (f y)) X
 |[]=>rfl
 |x::l=>by
  rw[Kj,cls,cls,ph f l];have:(∃y∈l.map f,R (f x) y)↔∃y∈l,R (f x) (f y):=by
   constructor
   .rintro ⟨y, a, h⟩
    obtain⟨z,b,rfl⟩:=T8.1 a;exact⟨z,b,h⟩
   .rintro ⟨y, a, h⟩
    exact⟨f y,T8.2 ⟨y,a,rfl⟩,h⟩
  simp only[this]
def inv (d:JE):JE:=(d.2,d.1)
def inv_inv (d:JE):inv (inv d)=d:=rfl
def qH (r:Nat->wi) (v:Nat):wi:=(r v).reverse
section
variable {n : Nat} {r : Nat → List Nat}
def XU {v w:Nat}:w∈qH r v↔w∈r v:=by simp[qH]
def cH (R:ZJ n r):ZJ n (qH r):=
 ⟨fun v=>Nc (R.nd v),fun v w h=>R.lt v w (XU.1 h),fun v w h=>XU.2 (R.sy v w (XU.1 h)),fun v h=>R.ir v (XU.1 h)⟩
def D6 (R:ZJ n r) {d:JE}:inv d∈dl n r↔d∈dl n r:=by
 rw[ZE R,ZE R];exact⟨R.sy _ _,R.sy _ _⟩
def eR (R:ZJ n r) {d:JE}:d∈dl n (qH r)↔d∈dl n r:=by rw[ZE R,ZE (cH R),XU]
def Ql (R:ZJ n r) {d:JE} (a:d∈dl n r):Mo (qH r) (inv (Mo r d))=inv d:=by
 have h:=R.sy _ _ ((ZE R).1 a);show(d.2,nx (r d.2).reverse (nx (r d.2) d.1))=(d.2,d.1);rw[Pk (R.nd _) h]
def Dl (R:ZJ n r) {d:JE} (a:d∈dl n r):∀k,it (Mo (qH r)) k (inv (it (Mo r) k d))=inv d
 |0=>rfl
 |k+1=>by
  rw[du];have:it (Mo r) (k+1) d=Mo r (it (Mo r) k d):=rfl;rw[this,Ql R ((TL R).F4 a k)];exact Dl R a k
def JR (R:ZJ n r) {d e:JE} (a:d∈dl n r) (h:kD (Mo r) d e):kD (Mo (qH r)) (inv d) (inv e):=by
 obtain⟨k,rfl⟩:=h;have pm:=TL (cH R);exact pm.Tp ((eR R).2 ((D6 R).2 ((TL R).F4 a k))) ⟨k,Dl R a k⟩
def aaG (r:Nat->wi):qH (qH r)=r:=by funext v;simp[qH]
def Vk (R:ZJ n r) {d e:JE} (a:d∈dl n r):kD (Mo (qH r)) (inv d) (inv e)↔kD (Mo r) d e:=by
 refine⟨fun h=>?_,JR R a⟩;have:=JR (cH R) ((eR R).2 ((D6 R).2 a)) h;rw[aaG]at this;exact this
def kh (R:ZJ n r):cls (kD (Mo (qH r))) (dl n (qH r))=cls (kD (Mo r)) (dl n r):=by
 have a:(dl n (qH r)).Perm ((dl n r).map inv):=wI (Pe (cH R)) ((gY).2 (UB.2 ((gY.1 (Pe R)).imp fun h e=>h (by have:=congrArg inv e;simpa[inv_inv]using this)))) fun d=>by
  rw[eR R,T8];constructor
  .intro h;exact⟨inv d,(D6 R).2 h,rfl⟩
  .rintro⟨e,b,rfl⟩;exact(D6 R).2 b
 rw[ln a (TL (cH R)).eqv,ph];exact Yn fun x c y _=>Vk R c
def Kl (R:ZJ n r):Flat n (qH r)↔Flat n r:=by
 have a:(dl n (qH r)).length=(dl n r).length:=(wI (Pe (cH R)) (Pe R) fun d=>eR R).length_eq;have b:Zz n (qH r)=Zz n r:=by
  rw[Zz,Zz,kh R];congr 2;refine SD fun v _=>?_;simp[qH]
 have c:KR n (qH r)=KR n r:=Yn fun x _ y _=>⟨fun h=>h.mono fun v w hw=>XU.1 hw,fun h=>h.mono fun v w hw=>XU.2 hw⟩;rw[Flat,Flat,a,b,c]
end
end Go.Fw
namespace Go.Fw
attribute [local instance] Classical.propDecidable
def Iu {l:wi} (h:l≠[]):l.headD 0∈l:=by
 cases l with
 |nil=>exact absurd rfl h
 |cons x l=>simp
def Xi {p q rest a:wi} {v b:Nat} (h:v∉p):nx (p++v::(q++b::rest)) v=nx (p++v::(q++b::a)) v:=by
 rw[BR h,BR h];cases q with
 |nil=>rfl
 |cons z q=>rfl
def nj {p rest:wi} {v z:Nat} (h:v∉p):nx (p++v::z::rest) v=z:=by
 rw[BR h];rfl
def C2 {p:wi} {x v:Nat} (h:v∉x::p):nx (x::(p++[v])) v=x:=by
 have:=BR (b:=[]) h;simpa using this
def pv (l:wi) (y:Nat):Nat:=nx l.reverse y
def j8 {l:wi} {y:Nat} (h:y∈l):pv l y∈l:=by
 have:=zc (PT.2 h);exact PT.1 this
def mz {l:wi} (nd:l.Nodup) {y:Nat} (h:y∈l):nx l (pv l y)=y:=aay nd h
def Zt {l:wi} (nd:l.Nodup) {y:Nat} (h:y∈l):pv l (nx l y)=y:=Pk nd h
structure FO (r:Nat->wi) (F:ai):Prop where
 nd:∀f∈F,f.Nodup
 ne:∀f∈F,f≠[]
 cG:∀f∈F,∀v∈f,nx f v∈r v
 step:∀f∈F,∀v∈f,nx (r (nx f v)) v=nx f (nx f v)
 cover:∀v w,w∈r v->∃f∈F,v∈f/\nx f v=w
 uniq:∀f∈F,∀g∈F,∀v,v∈f->v∈g->nx f v=nx g v->f=g
 nodup:F.Nodup
section
variable {n : Nat} {r : Nat → List Nat} {F : List (List Nat)}
def FO.perm (O:FO r F) {G:ai} (h:F.Perm G):FO r G:=
 ⟨fun f hf=>O.nd f (h.mem_iff.2 hf),fun f hf=>O.ne f (h.mem_iff.2 hf),fun f hf=>O.cG f (h.mem_iff.2 hf),fun f hf=>O.step f (h.mem_iff.2 hf),
  fun v w hw=>by obtain⟨f,hf,q⟩:=O.cover v w hw;exact⟨f,h.mem_iff.1 hf,q⟩,fun f hf g hg=>O.uniq f (h.mem_iff.2 hf) g (h.mem_iff.2 hg),h.nodup_iff.1 O.nodup⟩
def FO.it (O:FO r F) {f:wi} (hf:f∈F) {v:Nat} (a:v∈f):∀k,it (nx f) k v∈f/\it (Mo r) k (v,nx f v)=(it (nx f) k v,nx f (it (nx f) k v))
 |0=>⟨a,rfl⟩
 |k+1=>by
  obtain⟨b,h2⟩:=FO.it O hf a k;refine⟨zc b,?_⟩;show Mo r (Go.Fw.it (Mo r) k (v,nx f v))=_;rw[h2,Mo];simp only;rw[O.step f hf _ b];rfl
def FO.orb (O:FO r F) {f:wi} (hf:f∈F) {v:Nat} (a:v∈f) {d:JE}:kD (Mo r) (v,nx f v) d↔∃u∈f,d=(u,nx f u):=by
 constructor
 .rintro ⟨k, rfl⟩
  obtain⟨b,h2⟩:=O.it hf a k;exact⟨_,b,h2⟩
 .rintro ⟨u, c, rfl⟩
  obtain⟨k,e⟩:=Ma (O.nd f hf) a c;refine⟨k,?_⟩;rw[(O.it hf a k).2,e]
def Vx {α:Type} {R:α->α->Prop} {L:List α} (d:L.Pairwise fun a b=>¬R a b):∀rest:List α,(∀x∈rest,∃y∈L,R x y)->cls R (rest++L)=L.length
 |[],_=>by
  induction L with
  |nil=>rfl
  |cons x l f=>
   rw[jO]at d;have e:=f d.2 (fun x g=>absurd g RF);rw[IT]at e;rw[IT,cls,e,if_neg fun⟨y,c,h⟩=>d.1 y c h];rfl
 |x::rest,h=>by
  rw[E9,cls,Vx d rest fun y c=>h y (Gs _ c),if_pos]
  .rfl
  .obtain ⟨y, c, q⟩ := h x jR
   exact⟨y,KQ _ c,q⟩
def N3 {α:Type} {R:α->α->Prop} {X L:List α} (E:Eqv X R) (nd:X.Nodup) (d:∀y∈L,y∈X) (f:L.Pairwise fun a b=>¬R a b) (g:∀x∈X,∃y∈L,R x y):cls R X=L.length:=by
 have nL:L.Nodup:=by
  rw[gY];exact iF (fun{a b} ha _ h e=>h (e▸E.refl a (d a ha))) f
 have pm:X.Perm (X.filter (fun x=>decide (x∉L))++L):=by
  refine wI nd ?_ fun x=>?_
  .rw [KM]
   refine⟨nd.sublist F5,nL,fun a ha b hb e=>?_⟩;subst e;rw[sX,decide_eq_true_eq]at ha;exact ha.2 hb
  .rw [uK, sX, decide_eq_true_eq]
   constructor
   .intro h
    by_cases c:x∈L
    .exact .inr c
    .exact .inl ⟨h,c⟩
   .rintro (h | h)
    .exact h.1
    .exact d x h
 rw[ln pm E];exact Vx f _ fun x i=>g x (sX.1 i).1
def FO.cls (R:ZJ n r) (O:FO r F):cls (kD (Mo r)) (dl n r)=F.length:=by
 have p:=TL R;have e:=N3 p.eqv (Pe R) (L:=F.map fun f=>(f.headD 0,nx f (f.headD 0))) (fun d i=>?_) ?_ (fun d i=>?_)
 .rw[e,yA]
 .obtain ⟨f, hf, rfl⟩ := T8.1 i
  exact(ZE R).2 (O.cG f hf _ (Iu (O.ne f hf)))
 .rw [UB]
  refine iF (R:=fun a b=>a≠b) (fun{f g} hf hg j h=>j ?_) (gY.1 O.nodup);obtain⟨u,l,e⟩:=(O.orb hf (Iu (O.ne f hf))).1 h;injection e with m k;have c:=Iu (O.ne g hg);rw[m]at c k;exact(O.uniq g hg f hf u c l k).symm
 .obtain ⟨f, hf, o, e⟩ := O.cover d.1 d.2 ((ZE R).1 i)
  refine⟨_,T8.2 ⟨f,hf,rfl⟩,?_⟩;refine p.Tp ((ZE R).2 (O.cG f hf _ (Iu (O.ne f hf)))) ?_;exact(O.orb hf (Iu (O.ne f hf))).2 ⟨d.1,o,by rw[e]⟩
def FO.pv (O:FO r F) {f:wi} (hf:f∈F) {v:Nat} (a:v∈f):pv f v∈f/\nx f (Go.Fw.pv f v)=v/\nx (r v) (Go.Fw.pv f v)=nx f v:=by
 have b:=j8 a;have h2:=mz (O.nd f hf) a;have h3:=O.step f hf _ b;rw[h2]at h3;exact⟨b,h2,h3⟩
def FO.Zy (R:ZJ n r) (O:FO r F) {f:wi} (hf:f∈F) {v:Nat} (a:v∈f):Go.Fw.pv f v∈r v:=by
 obtain⟨b,h2,_⟩:=O.pv hf a;have:=O.cG f hf _ b;rw[h2]at this;exact R.sy _ _ this
end
end Go.Fw
namespace Go.Fw
attribute [local instance] Classical.propDecidable
section
variable {α : Type}
noncomputable def two (P:α->Prop) (f g:α->α) (x:α):α:=if P x then f x else g x
def O6 {R:α->α->Prop} {Y:List α}:∀X:List α,(∀x∈X,∀y∈Y,¬R x y)->cls R (X++Y)=cls R X+cls R Y
 |[],_=>by simp[cls]
 |x::X,h=>by
  rw[E9,cls,cls,O6 X fun z b=>h z (Gs _ b)];have:(∃y∈X++Y,R x y)↔∃y∈X,R x y:=by
   constructor
   .rintro ⟨y, a, r⟩
    rcases uK.1 a with a|a
    .exact⟨y,a,r⟩
    .exact absurd r (h x jR y a)
   .rintro⟨y,a,r⟩;exact⟨y,KF _ a,r⟩
  simp only[this];omega
structure Vg (D A B:List α) (P:α->Prop) (f g:α->α):Prop where
 perm:D.Perm (A++B)
 pa:∀x∈A,P x
 pb:∀x∈B,¬P x
 fa:Pm A f
 gb:Pm B g
variable {D A B : List α} {P : α → Prop} {f g : α → α}
def Vg.inA (p:Vg D A B P f g) {x:α} (a:x∈A):two P f g x=f x:=if_pos (p.pa x a)
def Vg.inB (p:Vg D A B P f g) {x:α} (a:x∈B):two P f g x=g x:=if_neg (p.pb x a)
def Vg.mem (p:Vg D A B P f g) {x:α}:x∈D↔x∈A\/x∈B:=by rw[p.perm.mem_iff,uK]
def Vg.itA (p:Vg D A B P f g) {x:α} (a:x∈A):∀k,it (two P f g) k x=it f k x
 |0=>rfl
 |k+1=>by
  show two P f g (it (two P f g) k x)=f (it f k x);rw[p.itA a k,p.inA (p.fa.F4 a k)]
def Vg.itB (p:Vg D A B P f g) {x:α} (a:x∈B):∀k,it (two P f g) k x=it g k x
 |0=>rfl
 |k+1=>by
  show two P f g (it (two P f g) k x)=g (it g k x);rw[p.itB a k,p.inB (p.gb.F4 a k)]
def Vg.orbA (p:Vg D A B P f g) {x:α} (a:x∈A) {y:α}:kD (two P f g) x y↔kD f x y:=
 ⟨fun⟨k,h⟩=>⟨k,by rw[<-p.itA a];exact h⟩,fun⟨k,h⟩=>⟨k,by rw[p.itA a];exact h⟩⟩
def Vg.orbB (p:Vg D A B P f g) {x:α} (a:x∈B) {y:α}:kD (two P f g) x y↔kD g x y:=
 ⟨fun⟨k,h⟩=>⟨k,by rw[<-p.itB a];exact h⟩,fun⟨k,h⟩=>⟨k,by rw[p.itB a];exact h⟩⟩
def Vg.Ht (p:Vg D A B P f g) {x y:α} (a:x∈A) (b:y∈B):¬kD (two P f g) x y:=fun h=>by
 have:=p.fa.vo a ((p.orbA a).1 h);exact p.pb y b (p.pa y this)
def Vg.pm (p:Vg D A B P f g):Pm D (two P f g):=by
 refine⟨?_,fun x c=>?_,fun x c y d e=>?_⟩
 .rw [p.perm.nodup_iff, KM]
  exact⟨p.fa.nd,p.gb.nd,fun a ha b hb e=>p.pb b hb (e▸p.pa a ha)⟩
 .rcases p.mem.1 c with h | h
  .rw[p.inA h];exact p.mem.2 (.inl (p.fa.mem x h))
  .rw[p.inB h];exact p.mem.2 (.inr (p.gb.mem x h))
 .rcases p.mem.1 c with h | h <;> rcases p.mem.1 d with k | k
  .rw[p.inA h,p.inA k]at e;exact p.fa.inj x h y k e
  .rw [p.inA h, p.inB k] at e
   exact absurd (p.pa _ (p.fa.mem x h)) (e▸p.pb _ (p.gb.mem y k))
  .rw [p.inB h, p.inA k] at e
   exact absurd (p.pa _ (p.fa.mem y k)) (e▸p.pb _ (p.gb.mem x h))
  .rw[p.inB h,p.inB k]at e;exact p.gb.inj x h y k e
def Vg.cls (p:Vg D A B P f g):cls (kD (two P f g)) D=cls (kD f) A+cls (kD g) B:=by
 rw[ln p.perm p.pm.eqv,O6 A fun x a y b=>p.Ht a b];rw[Yn (R':=kD f) fun x a y _=>p.orbA a,Yn (X:=B) (R':=kD g) fun x a y _=>p.orbB a]
def Vg.join1 (p:Vg D A B P f g) {a b:α} (ha:a∈A) (hb:b∈B):Go.Fw.cls (kD (swp (two P f g) a b)) D+1=Go.Fw.cls (kD f) A+Go.Fw.cls (kD g) B:=by
 have:=(Yo p.pm (p.mem.2 (.inl ha)) (p.mem.2 (.inr hb)) fun e=>p.pb b hb (e▸p.pa a ha)).2 (p.Ht ha hb);rw[this,p.cls]
def Vg.orb2 (p:Vg D A B P f g) {a b a' c:α} (ha:a∈A) (hb:b∈B) (WA:a'∈A) (AD:c∈B):kD (swp (two P f g) a b) a' c↔kD f a' a/\kD g b c:=by
 rw[Ni p.pm (p.mem.2 (.inl ha)) (p.mem.2 (.inr hb)) (p.Ht ha hb) a' (p.mem.2 (.inl WA)) c (p.mem.2 (.inr AD)),<-p.orbA WA (y:=a),<-p.orbB hb (y:=c)];constructor
 .rintro (h | h | h)
  .exact absurd h (p.Ht WA AD)
  .exact h
  .exact absurd h.1 (p.Ht WA hb)
 .exact fun h=>.inr (.inl h)
def Vg.join2 (p:Vg D A B P f g) {a b a' c:α} (ha:a∈A) (hb:b∈B) (WA:a'∈A) (AD:c∈B):
  ((kD f a' a/\kD g b c)->Go.Fw.cls (kD (swp (swp (two P f g) a b) a' c)) D=Go.Fw.cls (kD f) A+Go.Fw.cls (kD g) B)/\
   (¬(kD f a' a/\kD g b c)->Go.Fw.cls (kD (swp (swp (two P f g) a b) a' c)) D+2=Go.Fw.cls (kD f) A+Go.Fw.cls (kD g) B):=by
 have d:=p.join1 ha hb;have q:=p.pm.swp (p.mem.2 (.inl ha)) (p.mem.2 (.inr hb));obtain⟨h2,h3⟩:=Yo q (p.mem.2 (.inl WA)) (p.mem.2 (.inr AD)) fun e=>p.pb c AD (e▸p.pa a' WA);rw[p.orb2 ha hb WA AD]at h2 h3;exact⟨fun h=>by rw[h2 h,d],fun h=>by have:=h3 h;omega⟩
end
end Go.Fw
namespace Go.Fw
attribute [local instance] Classical.propDecidable
def ZR (a:Nat) (inn:wi) (b:Nat):wi:=a::(inn++[b])
structure Lay (n:Nat) (r r':Nat->wi) (a b:Nat) (inn:wi):Prop where
 R:ZJ n r
 R':ZJ n r'
 ab:a≠b
 ra:r a≠[]
 rb:r b≠[]
 nd:inn.Nodup
 off:∀x∈inn,r x=[]
 UZ:∀x,x≠a->x≠b->x∉inn->r' x=r x
 ea:(r' a).erase ((inn++[b]).headD 0)=r a
 sa:(inn++[b]).headD 0∈r' a
 eb:(r' b).erase ((inn.reverse++[a]).headD 0)=r b
 sb:(inn.reverse++[a]).headD 0∈r' b
 mid:∀(i p x q:Nat),(ZR a inn b)[i]?=some p->(ZR a inn b)[i+1]?=some x->(ZR a inn b)[i+2]?=some q->nx (r' x) p=q/\nx (r' x) q=p/\∀y,y∈r' x↔y=p\/y=q
def vm (a b:Nat) (inn:wi):(ZR a inn b).reverse=ZR b inn.reverse a:=by simp[ZR]
def OQ (a b:Nat) (inn:wi):(ZR a inn b).length=inn.length+2:=by simp[ZR]
def EZ {l:wi} (h:l≠[]):l[0]?=some (l.headD 0):=by
 cases l with
 |nil=>exact absurd rfl h
 |cons x l=>rfl
def W3 (a b:Nat) (inn:wi):(ZR a inn b)[0]?=some a/\(ZR a inn b)[1]?=some ((inn++[b]).headD 0):=by
 refine⟨rfl,?_⟩;show(inn++[b])[0]?=_;exact EZ YX
def YS (a b:Nat) (inn:wi):(ZR a inn b)[inn.length+1]?=some b/\(ZR a inn b)[inn.length]?=some ((inn.reverse++[a]).headD 0):=by
 obtain⟨c,h2⟩:=W3 b a inn.reverse;have d:=OQ a b inn;rw[<-vm]at c h2;rw[kH QT,d]at c h2;exact⟨c,h2⟩
def Lay.swap {n:Nat} {r r':Nat->wi} {a b:Nat} {inn:wi} (L:Lay n r r' a b inn):Lay n r r' b a inn.reverse:=by
 refine⟨L.R,L.R',Hn L.ab,L.rb,L.ra,Nc L.nd,fun x d=>L.off x (PT.1 d),fun x c h2 h3=>L.UZ x h2 c (fun h=>h3 (PT.2 h)),L.eb,L.sb,?_,?_,fun i p x q c h2 h3=>?_⟩
 .rw[Ny];exact L.ea
 .rw[Ny];exact L.sa
 .rw [<- vm] at c h2 h3
  have e:=(bH.1 h3).1;rw[UC]at e;rw[kH QT]at c h2 h3;obtain⟨f,g,j⟩:=L.mid ((ZR a inn b).length-1-(i+2)) q x p h3 (by rw[<-h2];congr 1;omega) (by rw[<-c];congr 1;omega);exact⟨g,f,fun y=>by rw[j,or_comm]⟩
section
variable {n : Nat} {r r' : Nat → List Nat} {F : List (List Nat)} {a b : Nat} {inn : List Nat}
def Lay.ain (L:Lay n r r' a b inn):a∉inn:=fun h=>L.ra (L.off a h)
def Lay.bin (L:Lay n r r' a b inn):b∉inn:=fun h=>L.rb (L.off b h)
def Lay.kC (L:Lay n r r' a b inn):(inn++[b]).headD 0∉r a:=by
 rw[<-L.ea];exact fun h=>((L.R'.nd a).not_mem_erase) h
def Lay.way (L:Lay n r r' a b inn):∀(i x y:Nat),(ZR a inn b)[i]?=some x->(ZR a inn b)[i+1]?=some y->kD (Mo r') (a,(inn++[b]).headD 0) (x,y)
 |0,x,y,c,h2=>by
  obtain⟨d,f⟩:=W3 a b inn;rw[d]at c;rw[f]at h2;injection c with c;injection h2 with h2;subst c h2;exact kD.refl _ _
 |i+1,x,y,c,h2=>by
  have h:=(bH.1 c).1;have e:(ZR a inn b)[i]?=some ((ZR a inn b)[i]'(by omega)):=dR QT
  have g:=L.way i _ x e c;obtain⟨d,_,_⟩:=L.mid i _ x y e c h2;have:Mo r' ((ZR a inn b)[i]'(by omega),x)=(x,y):=by rw[Mo];simp only[d]
  rw[<-this];exact g.trans (kD.one _ _)
def Lay.thru (L:Lay n r r' a b inn):kD (Mo r') (a,(inn++[b]).headD 0) ((inn.reverse++[a]).headD 0,b):=by
 obtain⟨c,h2⟩:=YS a b inn;exact L.way _ _ _ h2 c
def Lay.Ah (L:Lay n r r' a b inn) (O:FO r F):∃f∈F,∃x∈f,nx f x=a/\x∈r a/\nx (r' a) x=(inn++[b]).headD 0/\nx f a=nx (r' a) ((inn++[b]).headD 0)/\∀z∈r a,z≠x->nx (r' a) z=nx (r a) z:=by
 have nd:=L.R'.nd a;have hs:=L.sa;have c:=L.ea;have u:=L.kC;generalize (inn++[b]).headD 0=s at*;have p:=j8 hs;have d:=mz nd hs;have g:pv (r' a) s≠s:=fun e=>by
  rw[e]at d;rw[(Zc nd hs).1 d]at c;simp at c;exact L.ra c
 have h:pv (r' a) s∈r a:=by rw[<-c];exact(Bi g).2 p
 have i:∀z,z∈r a->z∈r' a/\z≠s:=fun z j=>by
  rw[<-c]at j;exact⟨c9 j,fun e=>nd.not_mem_erase (e▸j)⟩
 have q:nx (r a) (pv (r' a) s)=nx (r' a) s:=by
  rw[<-c,uM nd hs p g,if_pos d]
 obtain⟨f,hf,k,l⟩:=O.cover _ _ (L.R.sy _ _ h);have h3:=O.step f hf _ k;rw[l,q]at h3;refine⟨f,hf,pv (r' a) s,k,l,h,d,h3.symm,fun z j m=>?_⟩;obtain⟨o,t⟩:=i z j;have:=uM nd hs o t;rw[c,if_neg fun e=>m (M6 nd o p (e.trans d.symm))]at this;exact this.symm
def Lay.sub (L:Lay n r r' a b inn) {v w:Nat} (h:w∈r v):w∈r' v:=by
 by_cases c1:v=a
 .subst c1;rw[<-L.ea]at h;exact c9 h
 by_cases c2:v=b
 .subst c2;rw[<-L.eb]at h;exact c9 h
 by_cases c:v∈inn
 .rw[L.off v c]at h;cases h
 .rw[L.UZ v c1 c2 c];exact h
def Lay.mf (L:Lay n r r' a b inn):(ZR a inn b).Nodup:=by
 rw[ZR,tS,uK,Rb,KM];refine⟨fun h=>h.elim L.ain L.ab,L.nd,YX,fun x d y c e=>?_⟩;rw[Rb]at c;subst c e;exact L.bin d
def yQ {l:wi} (nd:l.Nodup) {i j x:Nat} (hi:l[i]?=some x) (h:l[j]?=some x):i=j:=by
 obtain⟨d,e⟩:=bH.1 hi;obtain⟨f,g⟩:=bH.1 h;rw[gY,cR]at nd;rcases zX i j with c|c|c
 .exact absurd (e.trans g.symm) (nd i j d f c)
 .exact c
 .exact absurd (g.trans e.symm) (nd j i f d c)
def Lay.as (L:Lay n r r' a b inn):a≠(inn++[b]).headD 0:=fun e=>by
 have:=yQ L.mf (W3 a b inn).1 (by rw[(W3 a b inn).2,<-e]);omega
def Lay.fj (L:Lay n r r' a b inn) {i x y:Nat} (c:(ZR a inn b)[i]?=some x) (h2:(ZR a inn b)[i+1]?=some y):y∈r' x:=by
 cases i with
 |zero=>
  rw[(W3 a b inn).1]at c;have h2:=h2.symm.trans (W3 a b inn).2;injection c with c;injection h2 with h2;subst c h2;exact L.sa
 |succ i=>
  have d:=(bH.1 c).1;exact((L.mid i _ x y (dR QT) c h2).2.2 y).2 (.inr rfl)
def Lay.conn (L:Lay n r r' a b inn) (f:Cr r a b):Cr (del r' a ((inn++[b]).headD 0)) a ((inn++[b]).headD 0):=by
 have hs:=L.as;have g:Cr (del r' a ((inn++[b]).headD 0)) a b:=f.mono fun v w h=>by
  rw[Ru L.R' hs];refine⟨L.sub h,fun e=>?_,fun e=>?_⟩
  .rw[e.1,e.2]at h;exact L.kC h
  .rw[e.1,e.2]at h;exact L.kC (L.R.sy _ _ h)
 have h2:∀(i x:Nat),(ZR a inn b)[i+1]?=some x->Cr (del r' a ((inn++[b]).headD 0)) ((inn++[b]).headD 0) x:=fun i=>by
  induction i with
  |zero=>
   intro x c;have c:=c.symm.trans (W3 a b inn).2;injection c with c;subst c;exact .refl _
  |succ i j=>
   intro x c;have k:=(bH.1 c).1;have d:(ZR a inn b)[i+1]?=some ((ZR a inn b)[i+1]'(by omega)):=dR QT
   refine(j _ d).step ((Ru L.R' hs).2 ⟨L.fj d c,fun e=>?_,fun e=>?_⟩)
   .have := yQ L.mf (W3 a b inn).1 (by rw [d, e.1])
    omega
   .have := yQ L.mf (W3 a b inn).1 (by rw [c, e.2])
    omega
 exact g.trans ((h2 _ _ (YS a b inn).1).symm (FH L.R' hs))
def Lay.qZ (L:Lay n r r' a b inn) (O:FO r F) (hf:Flat n r') (D:Cr r a b):
  ∃f∈F,a∈f/\b∈f/\nx (r' a) (pv f a)=(inn++[b]).headD 0/\nx (r' b) (pv f b)=(inn.reverse++[a]).headD 0/\nx f a=nx (r' a) ((inn++[b]).headD 0)/\nx f b=nx (r' b) ((inn.reverse++[a]).headD 0):=by
 obtain⟨fa,i,xa,l,ea,E,G,H,I⟩:=L.Ah O;obtain⟨c,d,xb,m,eb,J,nb,y,K⟩:=L.swap.Ah O;have p:a∈fa:=by rw[<-ea];exact zc l
 have g:b∈c:=by rw[<-eb];exact zc m
 have pa:pv fa a=xa:=by rw[<-ea];exact Zt (O.nd fa i) l
 have pb:pv c b=xb:=by rw[<-eb];exact Zt (O.nd c d) m
 by_cases z:fa=c
 .subst z
  exact⟨fa,i,p,g,by rw[pa];exact G,by rw[pb];exact nb,H,y⟩
 .exfalso
  have t:¬kD (Mo r') (a,(inn++[b]).headD 0) ((inn++[b]).headD 0,a):=fun h=>(kP L.R' L.sa hf).2.1 h (L.conn D);have o:∀u∈c,u≠xb->Mo r' (u,nx c u)=(nx c u,nx c (nx c u)):=fun u v w=>by
   have q:=O.cG c d u v;have hs:=O.step c d u v;rw[Mo];simp only;congr 1;by_cases c1:nx c u=a
   .rw [c1] at hs q ⊢
    have x:u≠xa:=fun e=>by
     subst e;exact z (O.uniq fa i c d u l v (by rw[ea,c1]))
    rw[I u (L.R.sy _ _ q) x,hs]
   by_cases c2:nx c u=b
   .rw [c2] at hs q ⊢
    rw[K u (L.R.sy _ _ q) w,hs]
   .rw [L.UZ _ c1 c2 fun h => ?_, hs]
    have:=L.off _ h;have h3:=L.R.sy _ _ q;rw[this]at h3;cases h3
  obtain⟨k,M,s⟩:=Py (Ma (O.nd c d) g m);have along:∀j,j<=k->it (Mo r') j (b,nx c b)=(it (nx c) j b,nx c (it (nx c) j b)):=fun j=>by
   induction j with
   |zero=>intro _;rfl
   |succ j N=>
    intro S;show Mo r' (it (Mo r') j (b,nx c b))=_;rw[N QT,o _ (O.it d g j).1 (s j QT)];rfl
  have P:kD (Mo r') (b,nx c b) (xb,b):=⟨k,by rw[along k (J4 _),M,eb]⟩;have Q:=L.thru;have A:=L.swap.thru;rw[Ny]at A;have s1:Mo r' ((inn.reverse++[a]).headD 0,b)=(b,nx c b):=by rw[Mo];simp only[y]
  have s2:Mo r' (xb,b)=(b,(inn.reverse++[a]).headD 0):=by rw[Mo];simp only[nb]
  have B:=(Q.trans (kD.one _ _));rw[s1]at B;have C:=(B.trans P).trans (kD.one _ _);rw[s2]at C;exact t (C.trans A)
end
end Go.Fw
namespace Go.Fw
attribute [local instance] Classical.propDecidable
def half (a:Nat) (A:wi) (b:Nat) (inn:wi):wi:=a::(A++b::inn.reverse)
def ZD {l:wi} {i x y:Nat} (e:l[i]?=some x) (h2:l[i+1]?=some y):∃u v,l=u++x::y::v:=by
 obtain⟨f,g⟩:=bH.1 e;obtain⟨h,j⟩:=bH.1 h2;refine⟨l.take i,l.drop (i+2),?_⟩;have c:=BG f;have d:=BG h;rw[g]at c;rw[j]at d;rw[d]at c;rw[<-c];exact(aV i l).symm
structure aaH (f:wi) (a b:Nat) (inn A:wi) (one:wi):Prop where
 nd:one.Nodup
 mem:∀v,v∈one↔v=a\/v∈A\/v=b\/v∈inn
 fwd:∀v,v=a\/v∈A->nx one v=nx f v/\(nx f v∈A\/nx f v=b)
 back:∀(i p x:Nat),(ZR a inn b)[i]?=some p->(ZR a inn b)[i+1]?=some x->nx one x=p
def Cyc (f g:wi):Prop:=∃u v,f=u++v/\g=v++u
def Cyc.refl (f:wi):Cyc f f:=⟨[],f,rfl,YX⟩
def Cyc.shift {f x y:wi} (h:Cyc f (x++y)):Cyc f (y++x):=by
 obtain⟨u,v,rfl,e⟩:=h;rcases List.append_eq_append_iff.1 e with⟨c,d,h2⟩|⟨c,d,h2⟩
 .subst d h2
  exact⟨u++x,c,YX,YX⟩
 .subst d h2
  exact⟨c,y++v,YX,YX⟩
def Cyc.perm {f g:wi} (h:Cyc f g):f.Perm g:=by
 obtain⟨u,v,rfl,rfl⟩:=h;exact FV
def Cyc.nx {f g:wi} (h:Cyc f g) (nd:f.Nodup) {y:Nat} (c:y∈f):nx f y=nx g y:=by
 obtain⟨u,v,rfl,rfl⟩:=h;exact rK nd c
def Cyc.front {f:wi} {a:Nat} (h:a∈f):∃c,Cyc f (a::c):=by
 obtain⟨u,v,rfl,_⟩:=PH h;exact⟨v++u,u,a::v,rfl,rfl⟩
def cD {f:wi} {a b:Nat} {inn A B:wi} (H:f.Nodup) (hf:Cyc f ((a::A)++(b::B))) (I:(ZR a inn b).Nodup) (L:∀x∈inn,x∉f):aaH f a b inn A (half a A b inn):=by
 have n0:(a::(A++b::B)).Nodup:=hf.perm.nodup_iff.1 H;have l:∀v∈f,nx f v=nx (a::(A++b::B)) v:=fun v s=>hf.nx H s;have m:∀v,v∈f↔v=a\/v∈A\/v=b\/v∈B:=fun v=>by
  rw[hf.perm.mem_iff];simp
 rw[tS,KM,uK,aH]at n0;obtain⟨t,nA,nB,C⟩:=n0;rw[tS]at nB;rw[ZR,tS,uK,Rb,KM]at I;obtain⟨M,N,_,O⟩:=I;have d:(half a A b inn).Nodup:=by
  unfold half;rw[tS,KM,uK,aH,PT,tS,PT];refine⟨fun h=>?_,nA,⟨fun h=>O b h b YX rfl,Nc N⟩,fun x k y P e=>?_⟩
  .rcases h with h | h | h
   .exact t (.inl h)
   .exact t (.inr (.inl h))
   .exact M (.inl h)
  .subst e
   rcases aH.1 P with h|h
   .exact C x k b YX h
   .exact L x (PT.1 h) ((m x).2 (.inr (.inl k)))
 refine⟨d,fun v=>?_,fun v s=>?_,fun i j x o h2=>?_⟩
 .unfold half
  rw[aH,uK,aH,PT]
 .have D : v ∈ f := (m v).2 (s.elim .inl fun h => .inr (.inl h))
  rw[l v D];have E:v∈a::A:=by rcases s with h|h;exact h▸jR;exact Gs _ h
  obtain⟨u,w,e,J⟩:=PH E;have p:half a A b inn=u++v::(w++b::inn.reverse):=by
   unfold half;rw[show a::(A++b::inn.reverse)=(a::A)++b::inn.reverse from rfl,e];simp
  have Q:a::(A++b::B)=u++v::(w++b::B):=by
   rw[show a::(A++b::B)=(a::A)++b::B from rfl,e];simp
  rw[p,Q];refine⟨Xi J,?_⟩;rw[BR J];cases w with
  |nil=>exact .inr rfl
  |cons z w=>
   left;have:z∈a::A:=by rw[e];simp
   rcases aH.1 this with h|h
   .subst h
    have g:(z::A).Nodup:=by rw[tS];exact⟨fun h=>t (.inl h),nA⟩
    rw[e]at g;cases u with
    |nil=>
     rw[IT]at e;injection e with p _;subst p;simp at g
    |cons c u=>
     rw[E9]at e g;injection e with p _;subst p;rw[tS]at g;exact absurd YX g.1
   .exact h
 .have R := (bH.1 h2).1
  rw[OQ]at R;have q:(ZR b inn.reverse a)[inn.length-i]?=some x:=by
   rw[<-vm,kH (by rw[OQ];omega),OQ,<-h2];congr 1;omega
  have K:(ZR b inn.reverse a)[inn.length-i+1]?=some j:=by
   rw[<-vm,kH (by rw[OQ];omega),OQ,<-o];congr 1;omega
  by_cases c:i=0
  .subst c
   have S:j=a:=by
    have:=(W3 a b inn).1;rw[this]at o;injection o with o;exact o.symm
   subst S;have k:∃u,b::inn.reverse=u++[x]:=by
    have:(b::inn.reverse)[inn.length]?=some x:=by
     rw[aan]at q;have e:ZR b inn.reverse j=(b::inn.reverse)++[j]:=rfl;rw[e,US YX]at q;exact q
    have T:(b::inn.reverse).length=inn.length+1:=by simp
    obtain⟨U,V⟩:=bH.1 this;refine⟨(b::inn.reverse).take inn.length,?_⟩
    conv=>lhs;rw[<-aV inn.length (b::inn.reverse)]
    rw[BG U,V,zl QT]
   obtain⟨u,G⟩:=k;have e:half j A b inn=j::((A++u)++[x]):=by unfold half;rw[G];simp
   rw[e]at d ⊢;refine C2 fun h=>?_;rw[<-E9,KM]at d;exact d.2.2 x h x YX rfl
  .have k:∃u w,b::inn.reverse=u++x::j::w:=by
    have e:ZR b inn.reverse a=(b::inn.reverse)++[a]:=rfl;rw[e,US (by simp;omega)]at q K;exact ZD q K
   obtain⟨u,w,G⟩:=k;have e:half a A b inn=((a::A)++u)++x::j::w:=by unfold half;rw[G];simp
   rw[e]at d ⊢;refine nj fun h=>?_;rw[KM]at d;exact d.2.2 x h x YX rfl
section
variable {n : Nat} {r r' : Nat → List Nat} {F : List (List Nat)} {a b : Nat} {inn : List Nat}
def xD {a b:Nat} {inn:wi} {v:Nat} (h:v=b\/v∈inn):∃i p:Nat,(ZR a inn b)[i]?=some p/\(ZR a inn b)[i+1]?=some v:=by
 have c:v∈inn++[b]:=by rw[uK,Rb];exact h.symm
 obtain⟨i,hi⟩:=OH.1 c;have d:=(bH.1 hi).1;have:i<(ZR a inn b).length:=by rw[OQ];simp at d;omega
 exact⟨i,_,dR this,hi⟩
structure HalfR (r r':Nat->wi) (f:wi) (a:Nat) (A:wi) (one:wi):Prop where
 cG:∀v∈one,nx one v∈r' v
 step:∀v∈one,nx (r' (nx one v)) v=nx one (nx one v)
 cW:∀v∈one,nx one v∈r v->v=a\/v∈A
def Lay.halfR (L:Lay n r r' a b inn) (O:FO r F) {f:wi} (j:f∈F) {A B one:wi} (cy:Cyc f ((a::A)++(b::B))) (H:aaH f a b inn A one)
  (nb:nx (r' b) (pv f b)=(inn.reverse++[a]).headD 0) (E:nx f a=nx (r' a) ((inn++[b]).headD 0)):HalfR r r' f a A one:=by
 have C:=O.nd f j;have u:∀v,v∈f↔(v=a\/v∈A)\/(v=b\/v∈B):=fun v=>by
  rw[cy.perm.mem_iff];simp[or_assoc]
 have n0:((a::A)++(b::B)).Nodup:=cy.perm.nodup_iff.1 C;rw[KM]at n0;have k:∀v,v=a\/v∈A->v∈f:=fun v h=>(u v).2 (.inl h);have eX:∀v,v=a\/v∈A->¬(v=b\/v∈B):=fun v g h2=>n0.2.2 v (aH.2 g) v (aH.2 h2) rfl;have w:a∉A:=(tS.1 n0.1).1;have m:∀x∈inn,x∉f:=fun x G h=>by
  have:=O.cG f j x h;rw[L.off x G]at this;cases this
 have d:∀v∈one,(v=a\/v∈A)\/∃i p:Nat,(ZR a inn b)[i]?=some p/\(ZR a inn b)[i+1]?=some v:=fun v l=>by
  rcases(H.mem v).1 l with h|h|h
  .exact .inl (.inl h)
  .exact .inl (.inr h)
  .exact .inr (xD h)
 refine⟨fun v l=>?_,fun v l=>?_,fun v l t=>?_⟩
 .rcases d v l with h | ⟨i, p, g, h2⟩
  .rw[(H.fwd v h).1];exact L.sub (O.cG f j v (k v h))
  .rw[H.back i p v g h2];exact L.R'.sy _ _ (L.fj g h2)
 .rcases d v l with h | ⟨i, p, g, h2⟩
  .obtain ⟨o, c⟩ := H.fwd v h
   rw[o];have hs:=O.step f j v (k v h);rcases c with c|c
   .have y : nx f v ≠ b := fun e => eX _ (.inr c) (.inl e)
    have z:nx f v≠a:=fun e=>w (e▸c);rw[L.UZ _ z y fun h=>m _ h (k _ (.inr c)),hs,(H.fwd _ (.inr c)).1]
   .rw [c]
    have:pv f b=v:=by rw[<-c];exact Zt C (k v h)
    rw[<-this,nb];obtain⟨q,s⟩:=YS a b inn;exact(H.back _ _ _ s q).symm
  .rw [H.back i p v g h2]
   cases i with
   |zero=>
    obtain⟨q,s⟩:=W3 a b inn;have o:=g.symm.trans q;have c:=h2.symm.trans s;injection o with o;injection c with c;subst o c;rw[<-E,(H.fwd _ (.inl rfl)).1]
   |succ i=>
    have I:=(bH.1 g).1;have D:(ZR a inn b)[i]?=some ((ZR a inn b)[i]'(by omega)):=dR QT
    rw[(L.mid i _ p v D g h2).2.1,H.back i _ p D g]
 .rcases (H.mem v).1 l with h | h | h | h
  .exact .inl h
  .exact .inr h
  .exfalso
   subst h;obtain⟨q,s⟩:=YS a v inn;rw[H.back _ _ _ s q]at t;exact L.swap.kC t
  .rw[L.off v h]at t;cases t
def Lay.xy (L:Lay n r r' a b inn) (O:FO r F) {f:wi} (l:f∈F) {A B:wi} (cy:Cyc f ((a::A)++(b::B)))
  (na:nx (r' a) (pv f a)=(inn++[b]).headD 0) (nb:nx (r' b) (pv f b)=(inn.reverse++[a]).headD 0) (da:nx f a=nx (r' a) ((inn++[b]).headD 0)) (db:nx f b=nx (r' b) ((inn.reverse++[a]).headD 0)):
  FO r' (half a A b inn::half b B a inn.reverse::F.erase f):=by
 have K:=O.nd f l;have t:∀x∈inn,x∉f:=fun x Y h=>by
  have:=O.cG f l x h;rw[L.off x Y]at this;cases this
 have H1:aaH f a b inn A (half a A b inn):=cD K cy L.mf t;have H2:aaH f b a inn.reverse B (half b B a inn.reverse):=cD K cy.shift L.swap.mf fun x Y=>t x (PT.1 Y);have u:∀v,v∈f↔(v=a\/v∈A)\/(v=b\/v∈B):=fun v=>by
  rw[cy.perm.mem_iff];simp[or_assoc]
 have n0:((a::A)++(b::B)).Nodup:=cy.perm.nodup_iff.1 K;rw[KM]at n0;have C:a∈f:=(u a).2 (.inl (.inl rfl));have D:b∈f:=(u b).2 (.inr (.inl rfl));have M:∀v,v=a\/v∈A->v∈f:=fun v h=>(u v).2 (.inl h);have Z:∀v,v=b\/v∈B->v∈f:=fun v h=>(u v).2 (.inr h);have eX:∀v,v=a\/v∈A->¬(v=b\/v∈B):=fun v m h2=>n0.2.2 v (aH.2 m) v (aH.2 h2) rfl;have ad:a∉A:=(tS.1 n0.1).1;have ay:b∉B:=(tS.1 n0.2.1).1;have S:=L.halfR O l cy H1 nb da;have T:=L.swap.halfR O l cy.shift H2 (by rw[Ny];exact na) db;have m1:∀{v},v∈half a A b inn->nx (half a A b inn) v∈r v->nx (half a A b inn) v=nx f v/\(v=a\/v∈A):=fun o N=>⟨(H1.fwd _ (S.cW _ o N)).1,S.cW _ o N⟩;have m2:∀{v},v∈half b B a inn.reverse->nx (half b B a inn.reverse) v∈r v->nx (half b B a inn.reverse) v=nx f v/\(v=b\/v∈B):=fun o N=>⟨(H2.fwd _ (T.cW _ o N)).1,T.cW _ o N⟩;obtain⟨p1,p2⟩:=W3 a b inn;obtain⟨z1,z2⟩:=YS a b inn;obtain⟨y1,y2⟩:=YS b a inn.reverse;rw[Ny]at y2;have G:nx (half a A b inn) b=(inn.reverse++[a]).headD 0:=H1.back _ _ _ z2 z1;have H:nx (half b B a inn.reverse) a=(inn++[b]).headD 0:=H2.back _ _ _ y2 y1;have b1:b∈half a A b inn:=(H1.mem b).2 (.inr (.inr (.inl rfl)));have a2:a∈half b B a inn.reverse:=(H2.mem a).2 (.inr (.inr (.inl rfl)));have a1:a∈half a A b inn:=(H1.mem a).2 (.inl rfl);have q:∀v,v∈half a A b inn->v∈half b B a inn.reverse->nx (half a A b inn) v≠nx (half b B a inn.reverse) v:=fun v m h2 e=>by
  rcases(H1.mem v).1 m with h|h|h|h
  .subst h
   rw[H,(H1.fwd v (.inl rfl)).1]at e;have:=O.cG f l v C;rw[e]at this;exact L.kC this
  .rcases (H2.mem v).1 h2 with g | g | g | g
   .exact eX v (.inr h) (.inl g)
   .exact eX v (.inr h) (.inr g)
   .subst g;exact ad h
   .exact t v (PT.1 g) (M v (.inr h))
  .subst h
   rw[G,(H2.fwd v (.inl rfl)).1]at e;have:=O.cG f l v D;rw[<-e]at this;exact L.swap.kC this
  .obtain ⟨i, p, P, y⟩ := xD (a := a) (b := b) (.inr h)
   obtain⟨j,p',J,U⟩:=xD (a:=b) (b:=a) (inn:=inn.reverse) (.inr (PT.2 h));rw[H1.back i p v P y,H2.back j p' v J U]at e;subst e;have ag:=(bH.1 U).1;rw[<-vm,UC]at ag;rw[<-vm,kH QT]at J U;have V:=yQ L.mf P J;have e2:=yQ L.mf y U;omega
 have k:∀g∈F.erase f,g∈F/\g≠f:=fun g hg=>⟨c9 hg,fun e=>O.nodup.not_mem_erase (e▸hg)⟩;have ah:half a A b inn∉F.erase f:=fun h=>by
  have:=O.cG _ (k _ h).1 b b1;rw[G]at this;exact L.swap.kC this
 have aj:half b B a inn.reverse∉F.erase f:=fun h=>by
  have:=O.cG _ (k _ h).1 a a2;rw[H]at this;exact L.kC this
 have u1:∀g∈F.erase f,∀v,v∈half a A b inn->v∈g->nx (half a A b inn) v=nx g v->False:=fun g hg v m h2 e=>by
  have z:=O.cG g (k g hg).1 v h2;rw[<-e]at z;obtain⟨V,h3⟩:=m1 m z;exact(k g hg).2 (O.uniq g (k g hg).1 f l v h2 (M v h3) (by rw[<-e,V]))
 have u2:∀g∈F.erase f,∀v,v∈half b B a inn.reverse->v∈g->nx (half b B a inn.reverse) v=nx g v->False:=fun g hg v m h2 e=>by
  have z:=O.cG g (k g hg).1 v h2;rw[<-e]at z;obtain⟨V,h3⟩:=m2 m z;exact(k g hg).2 (O.uniq g (k g hg).1 f l v h2 (Z v h3) (by rw[<-e,V]))
 have ak:half a A b inn≠half b B a inn.reverse:=fun e=>q a a1 a2 (by rw[e]);have al:∀g∈F.erase f,∀v∈g,nx (r' (nx g v)) v=nx g (nx g v):=fun g hg v o=>by
  obtain⟨E,Q⟩:=k g hg;have z:=O.cG g E v o;have hs:=O.step g E v o;by_cases c1:nx g v=a
  .rw [c1] at hs z ⊢
   have aq:v≠pv f a:=fun e=>Q (O.uniq g E f l v o (by rw[e];exact j8 C) (by rw[c1,e];exact(mz K C).symm));rw[<-hs];have s:v∈r a:=L.R.sy _ _ z;have I:v≠(inn++[b]).headD 0:=fun e=>L.kC (e▸s);have:=uM (L.R'.nd a) L.sa (L.sub s) I;rw[L.ea]at this;rw[this,if_neg fun e=>aq (M6 (L.R'.nd a) (L.sub s) (L.sub (O.Zy L.R l C)) (e.trans na.symm))]
  by_cases c2:nx g v=b
  .rw [c2] at hs z ⊢
   have ar:v≠pv f b:=fun e=>Q (O.uniq g E f l v o (by rw[e];exact j8 D) (by rw[c2,e];exact(mz K D).symm));rw[<-hs];have s:v∈r b:=L.R.sy _ _ z;have I:v≠(inn.reverse++[a]).headD 0:=fun e=>L.swap.kC (e▸s);have:=uM (L.R'.nd b) L.sb (L.sub s) I;rw[L.eb]at this;rw[this,if_neg fun e=>ar (M6 (L.R'.nd b) (L.sub s) (L.sub (O.Zy L.R l D)) (e.trans nb.symm))]
  .rw [L.UZ _ c1 c2 fun h => ?_, hs]
   have h3:=L.R.sy _ _ z;rw[L.off _ h]at h3;cases h3
 refine⟨fun g hg=>?_,fun g hg=>?_,fun g hg=>?_,fun g hg=>?_,fun v w hw=>?_,fun g hg W d v m h2 e=>?_,?_⟩
 .rcases aH.1 hg with rfl | hg
  .exact H1.nd
  rcases aH.1 hg with rfl|hg
  .exact H2.nd
  .exact O.nd g (k g hg).1
 .rcases aH.1 hg with rfl | hg
  .simp[half]
  rcases aH.1 hg with rfl|hg
  .simp[half]
  .exact O.ne g (k g hg).1
 .rcases aH.1 hg with rfl | hg
  .exact S.cG
  rcases aH.1 hg with rfl|hg
  .exact T.cG
  .exact fun v o=>L.sub (O.cG g (k g hg).1 v o)
 .rcases aH.1 hg with rfl | hg
  .exact S.step
  rcases aH.1 hg with rfl|hg
  .exact T.step
  .exact al g hg
 .by_cases c : w ∈ r v
  .obtain ⟨g, hg, o, e⟩ := O.cover v w c
   by_cases cg:g=f
   .subst cg
    rcases(u v).1 o with h|h
    .exact⟨_,jR,(H1.mem v).2 (h.elim .inl fun h=>.inr (.inl h)),by rw[(H1.fwd v h).1,e]⟩
    .exact⟨_,Gs _ jR,(H2.mem v).2 (h.elim .inl fun h=>.inr (.inl h)),by rw[(H2.fwd v h).1,e]⟩
   .exact⟨g,Gs _ (Gs _ ((Bi cg).2 hg)),o,e⟩
  .by_cases c1 : v = a
   .subst c1
    have:w=(inn++[b]).headD 0:=mS fun h=>c (by rw[<-L.ea];exact(Bi h).2 hw);exact⟨_,Gs _ jR,a2,by rw[H,this]⟩
   by_cases c2:v=b
   .subst c2
    have:w=(inn.reverse++[a]).headD 0:=mS fun h=>c (by rw[<-L.eb];exact(Bi h).2 hw);exact⟨_,jR,b1,by rw[G,this]⟩
   by_cases X:v∈inn
   .obtain ⟨i, p, P, y⟩ := xD (a := a) (b := b) (.inr X)
    have av:=(bH.1 y).1;have hi:i+2<(ZR a inn b).length:=by
     refine Jp av fun e=>?_;rw[OQ]at e;have:i=inn.length:=QT;subst this;rw[z1]at y;injection y with y;exact c2 y.symm
    have J:(ZR a inn b)[i+2]?=some ((ZR a inn b)[i+2]'hi):=dR hi
    rcases((L.mid i p v _ P y J).2.2 w).1 hw with h|h
    .exact⟨_,jR,(H1.mem v).2 (.inr (.inr (.inr X))),by rw[H1.back i p v P y,h]⟩
    .refine ⟨_, Gs _ jR, (H2.mem v).2 (.inr (.inr (.inr (PT.2 X)))), ?_⟩
     have aB:=OQ a b inn;have g1:(ZR b inn.reverse a)[inn.length+2-1-(i+2)]?=some ((ZR a inn b)[i+2]'hi):=by
      rw[<-vm,kH QT,<-J];congr 1;omega
     have g2:(ZR b inn.reverse a)[inn.length+2-1-(i+2)+1]?=some v:=by
      rw[<-vm,kH QT,<-y];congr 1;omega
     rw[H2.back _ _ _ g1 g2,h]
   .rw[L.UZ v c1 c2 X]at hw;exact absurd hw c
 .rcases aH.1 hg with rfl | hg
  .rcases aH.1 d with rfl | d
   .rfl
   rcases aH.1 d with rfl|d
   .exact absurd e (q v m h2)
   .exact(u1 W d v m h2 e).elim
  rcases aH.1 hg with rfl|hg
  .rcases aH.1 d with rfl | d
   .exact absurd e.symm (q v h2 m)
   rcases aH.1 d with rfl|d
   .rfl
   .exact(u2 W d v m h2 e).elim
  .rcases aH.1 d with rfl | d
   .exact(u1 g hg v h2 m e.symm).elim
   rcases aH.1 d with rfl|d
   .exact(u2 g hg v h2 m e.symm).elim
   .exact O.uniq g (k g hg).1 W (k W d).1 v m h2 e
 .rw [tS, aH, tS]
  exact⟨fun h=>h.elim ak ah,aj,O.nodup.sublist List.erase_sublist⟩
end
end Go.Fw
namespace Go.Fw
attribute [local instance] Classical.propDecidable
def Cyc.filter {f g:wi} (h:Cyc f g) (p:Nat->Bool):Cyc (f.filter p) (g.filter p):=by
 obtain⟨u,v,rfl,rfl⟩:=h;exact⟨u.filter p,v.filter p,zQ ..,zQ ..⟩
def Rj {A B:wi} {x y:Nat} (nd:((A++[x])++(B++[y])).Nodup):
  (∀p∈A,nx ((A++[x])++(B++[y])) p=nx (A++[x]) p)/\nx ((A++[x])++(B++[y])) x=nx (B++[y]) y:=by
 have n1:=(KM.1 nd).1;have b:=(KM.1 nd).2.1;constructor
 .intro p c
  obtain⟨s,q,rfl,d⟩:=PH c;have a:(s++p::q++[x])++(B++[y])=s++p::(q++x::(B++[y])):=by simp
  have e:s++p::q++[x]=s++p::(q++x::[]):=by simp
  rw[a,e];exact Xi d
 .have f : x ∉ A := fun h => (KM.1 n1).2.2 x h x YX rfl
  have g:y∉B:=fun h=>(KM.1 b).2.2 y h y YX rfl;have a:(A++[x])++(B++[y])=A++x::(B++[y]):=by simp
  rw[a,BR f,BR g];cases B with
  |nil=>rfl
  |cons z B=>rfl
structure DL (n:Nat) (R:Nat->wi) (EX:Nat->Nat->Prop) (u w:Nat) (A:wi) (x:Nat) (B:wi) (y:Nat) (A':wi) (x':Nat) (B':wi) (y':Nat):Prop where
 Pc:ZJ n R
 sym:∀a b,EX a b->EX b a
 uw:u≠w
 UZ:∀v,v≠u->v≠w->(∀a∈R v,EX v a)\/(∀a∈R v,¬EX v a)
 cu:Cyc (R u) ((A++[x])++(B++[y]))
 au:∀a∈A++[x],EX u a
 bu:∀b∈B++[y],¬EX u b
 cw:Cyc (R w) ((A'++[x'])++(B'++[y']))
 aw:∀a∈A'++[x'],EX w a
 bw:∀b∈B'++[y'],¬EX w b
section
variable {n : Nat} {R : Nat → List Nat} {EX : Nat → Nat → Prop} {u w : Nat} {A B A' B' : List Nat} {x y x' y' : Nat}
def Dj {r:Nat->wi} {P:Nat->Nat->Prop} {v:Nat} (h:∀w∈r v,P v w):Ps P r v=r v:=by
 unfold Ps;exact JG.2 fun w hw=>by simpa using h w hw
def QB {l:wi} {C D:wi} {p:Nat->Prop} (h:Cyc l (C++D)) (c:∀a∈C,p a) (d:∀b∈D,¬p b):Cyc (l.filter fun a=>decide (p a)) C:=by
 have:=h.filter fun a=>decide (p a);have e:C.filter (fun a=>decide (p a))=C:=JG.2 fun a ha=>by simpa using c a ha
 have f:D.filter (fun a=>decide (p a))=[]:=(Iw).2 fun a ha=>by simpa using d a ha
 rw[zQ,e,f,C7]at this;exact this
def DL.Yq (T:DL n R EX u w A x B y A' x' B' y'):DL n R EX w u A' x' B' y' A x B y:=
 ⟨T.Pc,T.sym,Hn T.uw,fun v a h2=>T.UZ v h2 a,T.cw,T.aw,T.bw,T.cu,T.au,T.bu⟩
def DL.rx (T:DL n R EX u w A x B y A' x' B' y'):ZJ n (Ps EX R):=Jt T.Pc T.sym
def DL.ry (T:DL n R EX u w A x B y A' x' B' y'):ZJ n (Ps (fun a b=>¬EX a b) R):=Jt T.Pc fun a b h q=>h (T.sym _ _ q)
def DL.parts (T:DL n R EX u w A x B y A' x' B' y'):Vg (dl n R) (dl n (Ps EX R)) (dl n (Ps (fun a b=>¬EX a b) R)) (fun d=>EX d.1 d.2) (Mo (Ps EX R)) (Mo (Ps (fun a b=>¬EX a b) R)):=by
 refine⟨wI (Pe T.Pc) ?_ fun d=>?_,fun d f=>(Bk.1 ((ZE T.rx).1 f)).2,fun d f=>(Bk.1 ((ZE T.ry).1 f)).2,TL T.rx,TL T.ry⟩
 .rw [KM]
  exact⟨Pe T.rx,Pe T.ry,fun a ha b hb e=>(Bk.1 ((ZE T.ry).1 hb)).2 (e▸(Bk.1 ((ZE T.rx).1 ha)).2)⟩
 .rw [uK, ZE T.Pc, ZE T.rx, ZE T.ry, Bk, Bk]
  by_cases c:EX d.1 d.2
  .exact⟨fun h=>.inl ⟨h,c⟩,fun h=>h.elim And.left And.left⟩
  .exact⟨fun h=>.inr ⟨h,c⟩,fun h=>h.elim And.left And.left⟩
def pJ {α:Type} {f g:α->α} {a b x:α} (c:f a=g a) (h2:f b=g b) (h3:f x=g x):swp f a b x=swp g a b x:=by
 unfold swp;rw[c,h2,h3]
def DL.at (T:DL n R EX u w A x B y A' x' B' y'):(∀p∈A,nx (R u) p=nx (Ps EX R u) p)/\(∀p∈B,nx (R u) p=nx (Ps (fun a b=>¬EX a b) R u) p)/\
  nx (R u) x=nx (Ps (fun a b=>¬EX a b) R u) y/\nx (R u) y=nx (Ps EX R u) x:=by
 have nd:=T.Pc.nd u;have n0:=T.cu.perm.nodup_iff.1 nd;have n1:((B++[y])++(A++[x])).Nodup:=FV.nodup_iff.1 n0;have d:Cyc (Ps EX R u) (A++[x]):=QB T.cu T.au T.bu;have e:Cyc (Ps (fun a b=>¬EX a b) R u) (B++[y]):=QB T.cu.shift T.bu fun a ha=>not_not_intro (T.au a ha);have g:=T.rx.nd u;have h:=T.ry.nd u;obtain⟨i,j⟩:=Rj n0;obtain⟨k,l⟩:=Rj n1;have m1:∀p∈A++[x],p∈R u/\p∈Ps EX R u:=fun p c=>⟨T.cu.perm.mem_iff.2 (KF _ c),d.perm.mem_iff.2 c⟩;have m2:∀p∈B++[y],p∈R u/\p∈Ps (fun a b=>¬EX a b) R u:=fun p c=>⟨T.cu.perm.mem_iff.2 (KQ _ c),e.perm.mem_iff.2 c⟩;refine⟨fun p c=>?_,fun p c=>?_,?_,?_⟩
 .obtain ⟨f, h2⟩ := m1 p (by simp [c])
  rw[T.cu.nx nd f,i p c,d.nx g h2]
 .obtain ⟨f, h2⟩ := m2 p (by simp [c])
  rw[T.cu.shift.nx nd f,k p c,e.nx h h2]
 .rw[T.cu.nx nd (m1 x YX).1,j,e.nx h (m2 y YX).2]
 .rw[T.cu.shift.nx nd (m2 y YX).1,l,d.nx g (m1 x YX).2]
def DL.phi (T:DL n R EX u w A x B y A' x' B' y') {d:JE} (o:d∈dl n R):
  Mo R d=swp (swp (Go.Fw.two (fun d=>EX d.1 d.2) (Mo (Ps EX R)) (Mo (Ps (fun a b=>¬EX a b) R))) (x,u) (y,u)) (x',w) (y',w) d:=by
 have uw:=T.uw;have c:∀{u w:Nat} {A B A' B':wi} {x y x' y':Nat} (T:DL n R EX u w A x B y A' x' B' y') {p:Nat},p∈R u->
   Mo R (p,u)=swp (Go.Fw.two (fun d=>EX d.1 d.2) (Mo (Ps EX R)) (Mo (Ps (fun a b=>¬EX a b) R))) (x,u) (y,u) (p,u):=fun{u w A B A' B' x y x' y'} T {p} g=>by
  obtain⟨r,h2,h3,s⟩:=T.at;have n0:=T.cu.perm.nodup_iff.1 (T.Pc.nd u);have f:=T.cu.perm.mem_iff.1 g;have i:EX x u:=T.sym _ _ (T.au x YX);have j:¬EX y u:=fun h=>T.bu y YX (T.sym _ _ h);rw[KM,KM,KM]at n0;rcases uK.1 f with f|f
  .have hex : EX p u := T.sym _ _ (T.au p f)
   rcases uK.1 f with hA|hA
   .have k : p ≠ x := fun e => n0.1.2.2 p hA x YX e
    have l:p≠y:=fun e=>j (e▸hex);rw[dD (fun e=>k (J9 e).1) (fun e=>l (J9 e).1),Go.Fw.two,if_pos hex,Mo,Mo];simp only[r p hA]
   .rw [Rb] at hA
    subst hA;rw[Mm,Go.Fw.two,if_neg j,Mo,Mo];simp only[h3]
  .have hex : ¬ EX p u := fun h => T.bu p f (T.sym _ _ h)
   rcases uK.1 f with hB|hB
   .have l : p ≠ y := fun e => n0.2.1.2.2 p hB y YX e
    have k:p≠x:=fun e=>hex (e▸i);rw[dD (fun e=>k (J9 e).1) (fun e=>l (J9 e).1),Go.Fw.two,if_neg hex,Mo,Mo];simp only[h2 p hB]
   .rw [Rb] at hB
    subst hB;rw[zL,Go.Fw.two,if_pos i,Mo,Mo];simp only[s]
 obtain⟨p,v⟩:=d;have g:p∈R v:=T.Pc.sy _ _ ((ZE T.Pc).1 o);by_cases c1:v=u
 .subst c1
  have n1:((p,v):JE)≠(x',w):=fun e=>uw (J9 e).2;have t:((p,v):JE)≠(y',w):=fun e=>uw (J9 e).2;rw[dD n1 t];exact c T g
 by_cases c2:v=w
 .subst c2
  rw[c T.Yq g];have Jc:∀q:Nat,swp (Go.Fw.two (fun d=>EX d.1 d.2) (Mo (Ps EX R)) (Mo (Ps (fun a b=>¬EX a b) R))) (x,u) (y,u) (q,v)=Go.Fw.two (fun d=>EX d.1 d.2) (Mo (Ps EX R)) (Mo (Ps (fun a b=>¬EX a b) R)) (q,v):=fun q=>
   dD (fun e=>c1 (J9 e).2) (fun e=>c1 (J9 e).2)
  exact pJ (Jc _).symm (Jc _).symm (Jc _).symm
 .have m : ∀ q z : Nat, ((p, v) : JE) ≠ (q, u) /\ ((p, v) : JE) ≠ (z, w) := fun q z => ⟨fun e => c1 (J9 e).2, fun e => c2 (J9 e).2⟩
  rw[dD (m 0 x').2 (m 0 y').2,dD (m x 0).1 (m y 0).1];rcases T.UZ v c1 c2 with h|h
  .rw [Go.Fw.two, if_pos (T.sym _ _ (h p g)), Mo, Mo]
   simp only[Dj h]
  .rw [Go.Fw.two, if_neg fun q => h p g (T.sym _ _ q), Mo, Mo]
   simp only[Dj (P:=fun a b=>¬EX a b) h]
end
end Go.Fw
namespace Go.Fw
attribute [local instance] Classical.propDecidable
def Cyc.symm {f g:wi} (h:Cyc f g):Cyc g f:=by
 obtain⟨u,v,rfl,rfl⟩:=h;exact⟨v,u,rfl,rfl⟩
def Cyc.trans {f g k:wi} (h:Cyc f g) (h':Cyc g k):Cyc f k:=by
 obtain⟨u,v,rfl,rfl⟩:=h';exact h.shift
def Cyc.reverse {f g:wi} (h:Cyc f g):Cyc f.reverse g.reverse:=by
 obtain⟨u,v,rfl,rfl⟩:=h;exact⟨v.reverse,u.reverse,Yj,Yj⟩
def Cyc.nil {f:wi} (h:Cyc f []):f=[]:=by
 have:=h.perm.length_eq;exact b7 this
def qD (s t:Nat->wi):Prop:=∀v,Cyc (s v) (t v)
section
variable {n : Nat} {s t : Nat → List Nat}
def qD.mem (h:qD s t) {v w:Nat}:w∈s v↔w∈t v:=(h v).perm.mem_iff
def qD.symm (h:qD s t):qD t s:=fun v=>(h v).symm
def qD.Pc (h:qD s t) (S:ZJ n s):ZJ n t:=
 ⟨fun v=>(h v).perm.nodup_iff.1 (S.nd v),fun v w q=>S.lt v w (h.mem.2 q),fun v w q=>h.mem.1 (S.sy v w (h.mem.2 q)),fun v q=>S.ir v (h.mem.2 q)⟩
def qD.phi (h:qD s t) (S:ZJ n s) {d:JE} (a:d∈dl n s):Mo s d=Mo t d:=by
 have:=S.sy _ _ ((ZE S).1 a);rw[Mo,Mo,(h d.2).nx (S.nd _) this]
def qD.dl (h:qD s t) (S:ZJ n s):(dl n s).Perm (dl n t):=
 wI (Pe S) (Pe (h.Pc S)) fun d=>by rw[ZE S,ZE (h.Pc S),h.mem]
def qD.orb (h:qD s t) (S:ZJ n s) {d e:JE} (a:d∈Go.Fw.dl n s) (b:e∈Go.Fw.dl n s):kD (Mo s) d e↔kD (Mo t) d e:=
 Jo (TL S) (fun _ c=>h.phi S c) d a e b
def qD.cls (h:qD s t) (S:ZJ n s):cls (kD (Mo s)) (Go.Fw.dl n s)=cls (kD (Mo t)) (Go.Fw.dl n t):=by
 rw[Yn fun d a e b=>h.orb S a b];rw[ln (h.dl S)];have p:=TL (h.Pc S);exact p.eqv.sub fun d a=>(h.dl S).mem_iff.1 a
def qD.flat (h:qD s t) (S:ZJ n s):Flat n s↔Flat n t:=by
 have a:Zz n s=Zz n t:=by
  rw[Zz,Zz,h.cls S];congr 2;refine SD fun v _=>?_;rw[decide_eq_decide];constructor
  .intro q;have:=h v;rw[q]at this;exact this.symm.nil
  .intro q;have:=h v;rw[q]at this;exact this.nil
 have b:KR n s=KR n t:=Yn fun x _ y _=>⟨fun c=>c.mono fun v w q=>h.mem.1 q,fun c=>c.mono fun v w q=>h.mem.2 q⟩;rw[Flat,Flat,a,b,(h.dl S).length_eq]
end
section
variable {n : Nat} {R : Nat → List Nat} {EX : Nat → Nat → Prop} {u w : Nat} {A B A' B' : List Nat} {x y x' y' : Nat}
def DL.xK (T:DL n R EX u w A x B y A' x' B' y'):((x,u):JE)∈dl n (Ps EX R):=by
 rw[ZE T.rx];refine T.rx.sy _ _ (Bk.2 ⟨T.cu.perm.mem_iff.2 YX,T.au x YX⟩)
def DL.Xs (T:DL n R EX u w A x B y A' x' B' y'):((y,u):JE)∈dl n (Ps (fun a b=>¬EX a b) R):=by
 rw[ZE T.ry];refine T.ry.sy _ _ (Bk.2 ⟨T.cu.perm.mem_iff.2 YX,T.bu y YX⟩)
def DL.cls (T:DL n R EX u w A x B y A' x' B' y'):
  ((kD (Mo (Ps EX R)) (x',w) (x,u)/\kD (Mo (Ps (fun a b=>¬EX a b) R)) (y,u) (y',w))->cls (kD (Mo R)) (dl n R)=cls (kD (Mo (Ps EX R))) (dl n (Ps EX R))+cls (kD (Mo (Ps (fun a b=>¬EX a b) R))) (dl n (Ps (fun a b=>¬EX a b) R)))/\
  (¬(kD (Mo (Ps EX R)) (x',w) (x,u)/\kD (Mo (Ps (fun a b=>¬EX a b) R)) (y,u) (y',w))->cls (kD (Mo R)) (dl n R)+2=cls (kD (Mo (Ps EX R))) (dl n (Ps EX R))+cls (kD (Mo (Ps (fun a b=>¬EX a b) R))) (dl n (Ps (fun a b=>¬EX a b) R))):=by
 have h:=T.parts.join2 T.xK T.Xs T.Yq.xK T.Yq.Xs;have e:Go.Fw.cls (kD (Mo R)) (dl n R)=Go.Fw.cls (kD (swp (swp (Go.Fw.two (fun d=>EX d.1 d.2) (Mo (Ps EX R)) (Mo (Ps (fun a b=>¬EX a b) R))) (x,u) (y,u)) (x',w) (y',w))) (dl n R):=
  Yn fun d c e f=>Jo (TL T.Pc) (fun _ g=>T.phi g) d c e f
 rw[e];exact h
noncomputable def kW (R:Nat->wi) (EX:Nat->Nat->Prop) (u w:Nat) (L K b c:wi):Nat->wi:=fun v=>
 if v=u then L.reverse++K else if v=w then b.reverse++c else if∃a∈R v,EX v a then(R v).reverse else R v
def PJ (A:wi) (x:Nat):∃h t,A++[x]=h::t/\(A++[x]).reverse=t.reverse++[h]/\nx (A++[x]) x=if x∈A then nx (A++[x]) x else h:=by
 cases A with
 |nil=>exact⟨x,[],rfl,rfl,by simp[nx,nxF]⟩
 |cons h t=>
  refine⟨h,t++[x],rfl,YX,?_⟩;split
  .rfl
  .rename_i a
   exact C2 (p:=t) a
def DR (T:DL n R EX u w A x B y A' x' B' y') {v a:Nat}:a∈kW R EX u w (A++[x]) (B++[y]) (A'++[x']) (B'++[y']) v↔a∈R v:=by
 unfold kW;by_cases c1:v=u
 .subst c1;rw[if_pos rfl,T.cu.perm.mem_iff];simp only[uK,PT]
 .rw [if_neg c1]
  by_cases c2:v=w
  .subst c2;rw[if_pos rfl,T.cw.perm.mem_iff];simp only[uK,PT]
  .rw [if_neg c2]
   split
   .rw[PT]
   .rfl
def DL.zk (T:DL n R EX u w A x B y A' x' B' y'):ZJ n (kW R EX u w (A++[x]) (B++[y]) (A'++[x']) (B'++[y'])):=by
 refine⟨fun v=>?_,fun v a h=>T.Pc.lt v a ((DR T).1 h),fun v a h=>(DR T).2 (T.Pc.sy v a ((DR T).1 h)),fun v h=>T.Pc.ir v ((DR T).1 h)⟩;unfold kW;by_cases c1:v=u
 .subst c1
  rw[if_pos rfl];exact((fw _).append_right _).nodup_iff.2 (T.cu.perm.nodup_iff.1 (T.Pc.nd v))
 .rw [if_neg c1]
  by_cases c2:v=w
  .subst c2
   rw[if_pos rfl];exact((fw _).append_right _).nodup_iff.2 (T.cw.perm.nodup_iff.1 (T.Pc.nd v))
  .rw [if_neg c2]
   split
   .exact Nc (T.Pc.nd v)
   .exact T.Pc.nd v
def DL.flip (T:DL n R EX u w A x B y A' x' B' y'):∃h t h' c,A++[x]=h::t/\A'++[x']=h'::c/\DL n (kW R EX u w (A++[x]) (B++[y]) (A'++[x']) (B'++[y'])) EX u w t.reverse h B y c.reverse h' B' y':=by
 obtain⟨h,t,f,e,_⟩:=PJ A x;obtain⟨h',c,d,b,_⟩:=PJ A' x';refine⟨h,t,h',c,f,d,T.zk,T.sym,T.uw,fun v g h2=>?_,?_,fun a ha=>T.au a ?_,T.bu,?_,fun a ha=>T.aw a ?_,T.bw⟩
 .rcases T.UZ v g h2 with q | q
  .exact .inl fun a ha=>q a ((DR T).1 ha)
  .exact .inr fun a ha=>q a ((DR T).1 ha)
 .rw[<-e];unfold kW;rw[if_pos rfl];exact Cyc.refl _
 .rw[<-e]at ha;exact PT.1 ha
 .rw[<-b];unfold kW;rw[if_neg (Hn T.uw),if_pos rfl];exact Cyc.refl _
 .rw[<-b]at ha;exact PT.1 ha
def DL.flipX (T:DL n R EX u w A x B y A' x' B' y'):qD (Ps EX (kW R EX u w (A++[x]) (B++[y]) (A'++[x']) (B'++[y']))) (qH (Ps EX R)):=fun v=>by
 have Jc:∀{l K L:wi} {v:Nat},Cyc l (L++K)->(∀a∈L,EX v a)->(∀a∈K,¬EX v a)->Cyc ((L.reverse++K).filter fun a=>decide (EX v a)) (l.filter fun a=>decide (EX v a)).reverse:=fun{l K L v} e c d=>by
  have f:=(QB (p:=fun a=>EX v a) e c d).reverse;have g:(L.reverse++K).filter (fun a=>decide (EX v a))=L.reverse:=by
   rw[zQ,JG.2 fun a ha=>by simpa using c a (PT.1 ha),Iw.2 fun a ha=>by simpa using d a ha,C7]
  rw[g];exact f.symm
 unfold qH Ps kW;by_cases c1:v=u
 .subst c1;rw[if_pos rfl];exact Jc T.cu T.au T.bu
 .rw [if_neg c1]
  by_cases c2:v=w
  .subst c2;rw[if_pos rfl];exact Jc T.cw T.aw T.bw
  .rw [if_neg c2]
   split
   .rw[<-List.filter_reverse];exact Cyc.refl _
   .rename_i b
    have:(R v).filter (fun a=>decide (EX v a))=[]:=Iw.2 fun a ha=>by simpa using fun q=>b ⟨a,ha,q⟩
    rw[this];exact Cyc.refl _
def DL.flipN (T:DL n R EX u w A x B y A' x' B' y') {c:Nat->Nat->Prop} (f:∀a b,c a b↔¬EX a b):qD (Ps c (kW R EX u w (A++[x]) (B++[y]) (A'++[x']) (B'++[y']))) (Ps c R):=fun v=>by
 have Jc:∀{l K L:wi} {v:Nat},Cyc l (L++K)->(∀a∈L,EX v a)->(∀a∈K,¬EX v a)->Cyc ((L.reverse++K).filter fun a=>decide (c v a)) (l.filter fun a=>decide (c v a)):=fun{l K L v} i j k=>by
  have d:∀a∈L,¬c v a:=fun a ha q=>(f v a).1 q (j a ha);have e:∀a∈K,c v a:=fun a ha=>(f v a).2 (k a ha);have g:=QB (p:=fun a=>c v a) i.shift e d;have m:L.reverse.filter (fun a=>decide (c v a))=[]:=Iw.2 fun a ha=>by simpa using d a (PT.1 ha)
  have o:K.filter (fun a=>decide (c v a))=K:=JG.2 fun a ha=>by simpa using e a ha
  rw[zQ,m,o,IT];exact g.symm
 unfold Ps kW;by_cases c1:v=u
 .subst c1;rw[if_pos rfl];exact Jc T.cu T.au T.bu
 .rw [if_neg c1]
  by_cases c2:v=w
  .subst c2;rw[if_pos rfl];exact Jc T.cw T.aw T.bw
  .rw [if_neg c2]
   split
   .rename_i hex
    rcases T.UZ v c1 c2 with q|q
    .have g : (R v).filter (fun a => decide (c v a)) = [] := Iw.2 fun a ha => by simpa using fun h => (f v a).1 h (q a ha)
     rw[List.filter_reverse,g];exact Cyc.refl _
    .obtain ⟨a, ha, h⟩ := hex
     exact absurd h (q a ha)
   .exact Cyc.refl _
def DL.flipY (T:DL n R EX u w A x B y A' x' B' y'):qD (Ps (fun a b=>¬EX a b) (kW R EX u w (A++[x]) (B++[y]) (A'++[x']) (B'++[y']))) (Ps (fun a b=>¬EX a b) R):=T.flipN fun _ _=>yJ
def DL.PM (T:DL n R EX u w A x B y A' x' B' y'):Flat n (kW R EX u w (A++[x]) (B++[y]) (A'++[x']) (B'++[y']))↔Flat n R:=by
 obtain⟨h,t,h',I,D,j,f⟩:=T.flip;have z:=T.flipX;have C:=T.flipY;have c1:=T.cls;have c2:=f.cls;have g:=T.rx;have J:=cH g;rw[z.cls f.rx,C.cls f.ry,kh g]at c2;have head:∀{A B A' B':wi} {x y x' y' u w h:Nat} {t:wi},DL n R EX u w A x B y A' x' B' y'->A++[x]=h::t->inv (Mo (Ps EX R) (x,u))=(h,u):=fun{A B A' B' x y x' y' u w h t} T e=>by
  have nd:=T.rx.nd u;have k:Cyc (Ps EX R u) (A++[x]):=QB T.cu T.au T.bu;have E:x∈Ps EX R u:=k.perm.mem_iff.2 YX;have F:x∉A:=fun q=>by
   have:=k.perm.nodup_iff.1 nd;rw[KM]at this;exact this.2.2 x q x YX rfl
  have:nx (A++[x]) x=h:=by
   cases A with
   |nil=>rw[IT]at e ⊢;injection e with e _;rw[<-e];simp[nx,nxF]
   |cons a A=>rw[E9]at e ⊢;injection e with e _;rw[<-e];exact C2 F
  show(nx (Ps EX R u) x,u)=(h,u);rw[k.nx nd E,this]
 have G:=head T D;have l:=head T.Yq j;have K:=(TL g).mem _ T.xK;have H:=(TL g).mem _ T.Yq.xK;have k1:kD (Mo (Ps EX (kW R EX u w (A++[x]) (B++[y]) (A'++[x']) (B'++[y'])))) (h',w) (h,u)↔kD (Mo (Ps EX R)) (x',w) (x,u):=by
  rw[z.orb f.rx f.Yq.xK f.xK,<-G,<-l,Vk g H];have p:=TL g;constructor
  .intro q
   exact(kD.one _ _).trans (q.trans (p.Tp T.xK (kD.one _ _)))
  .intro q
   exact(p.Tp T.Yq.xK (kD.one _ _)).trans (q.trans (kD.one _ _))
 have k2:kD (Mo (Ps (fun a b=>¬EX a b) (kW R EX u w (A++[x]) (B++[y]) (A'++[x']) (B'++[y'])))) (y,u) (y',w)↔kD (Mo (Ps (fun a b=>¬EX a b) R)) (y,u) (y',w):=
  C.orb f.ry f.Xs f.Yq.Xs
 rw[k1,k2]at c2;have i:Go.Fw.cls (kD (Mo (kW R EX u w (A++[x]) (B++[y]) (A'++[x']) (B'++[y'])))) (dl n (kW R EX u w (A++[x]) (B++[y]) (A'++[x']) (B'++[y'])))=Go.Fw.cls (kD (Mo R)) (dl n R):=by
  by_cases q:kD (Mo (Ps EX R)) (x',w) (x,u)/\kD (Mo (Ps (fun a b=>¬EX a b) R)) (y,u) (y',w)
  .rw[c1.1 q,c2.1 q]
  .have:=c1.2 q;have:=c2.2 q;omega
 have m:(dl n (kW R EX u w (A++[x]) (B++[y]) (A'++[x']) (B'++[y']))).length=(dl n R).length:=(wI (Pe f.Pc) (Pe T.Pc) fun d=>by rw[ZE f.Pc,ZE T.Pc,DR T]).length_eq;have o:KR n (kW R EX u w (A++[x]) (B++[y]) (A'++[x']) (B'++[y']))=KR n R:=Yn fun x _ y _=>⟨fun c=>c.mono fun v w q=>(DR T).1 q,fun c=>c.mono fun v w q=>(DR T).2 q⟩;have r:Zz n (kW R EX u w (A++[x]) (B++[y]) (A'++[x']) (B'++[y']))=Zz n R:=by
  rw[Zz,Zz,i];congr 2;refine SD fun v _=>?_;rw[decide_eq_decide,Zl,Zl];exact⟨fun q a ha=>q a ((DR T).2 ha),fun q a ha=>q a ((DR T).1 ha)⟩
 rw[Flat,Flat,r,m,o]
end
end Go.Fw
namespace Go.Fw
attribute [local instance] Classical.propDecidable
def nx_map {h:Nat->Nat} {l:wi} (inj:∀x∈l,∀y∈l,h x=h y->x=y) {y:Nat} (g:y∈l):nx (l.map h) (h y)=h (nx l y):=by
 obtain⟨p,q,rfl,d⟩:=PH g;have c:h y∉p.map h:=fun i=>by
  obtain⟨z,f,e⟩:=T8.1 i;exact d (inj z (by simp[f]) y YX e▸f)
 rw[qy,Kj,BR c,BR d];cases q with
 |cons z q=>rfl
 |nil=>cases p<;>rfl
def zt {α:Type} {R R':α->α->Prop}:∀{X:List α},(∀x∈X,∀y∈X,R x y->R' x y)->cls R' X<=cls R X
 |[],_=>J4 _
 |x::l,h=>by
  have e:=zt (X:=l) fun a ha b hb=>h a (Gs _ ha) b (Gs _ hb);rw[cls,cls];by_cases c:∃y∈l,R x y
  .obtain ⟨y, d, r⟩ := c
   rw[if_pos ⟨y,d,h x jR y (Gs _ d) r⟩,if_pos ⟨y,d,r⟩];omega
  .rw [if_neg c]
   split<;>omega
section
variable {n : Nat} {r : Nat → List Nat} {F : List (List Nat)}
def cut_ex (R:ZJ n r) (O:FO r F) {f g:wi} (hf:f∈F) (hg:g∈F) (l:f≠g) {a:Nat} (c:a∈f) (d:a∈g):
  ∃A B,Cyc (r a) ((A++[pv g a])++(B++[pv f a]))/\(A++[pv g a]).headD 0=nx f a/\(B++[pv f a]).headD 0=nx g a:=by
 have nd:=R.nd a;obtain⟨s,t,w⟩:=O.pv hf c;obtain⟨x,y,C⟩:=O.pv hg d;have i:=O.Zy R hf c;have j:=O.Zy R hg d;have m:pv g a≠pv f a:=fun e=>l (O.uniq f hf g hg (pv f a) s (e▸x) (by rw[t];rw[<-e,y]));obtain⟨u,v,e,K⟩:=PH i;have c1:Cyc (r a) (v++(u++[pv f a])):=by
  have:Cyc (r a) ((u++[pv f a])++v):=by
   have D:(u++[pv f a])++v=r a:=by rw[e];simp
   rw[D];exact Cyc.refl _
  exact this.shift
 have o:pv g a∈v++u:=by
  have:=c1.perm.mem_iff.1 j;rw[<-Nd,uK,Rb]at this;exact this.resolve_right m
 obtain⟨A,B,E,G⟩:=PH o;have c2:Cyc (r a) ((A++[pv g a])++(B++[pv f a])):=by
  have:v++(u++[pv f a])=(A++[pv g a])++(B++[pv f a]):=by rw[<-Nd,E];simp
  rwa[this]at c1
 have k:=c2.perm.nodup_iff.1 nd;obtain⟨M,H⟩:=Rj k;have n3:((B++[pv f a])++(A++[pv g a])).Nodup:=FV.nodup_iff.1 k;obtain⟨N,I⟩:=Rj n3;have nB:=(KM.1 k).2.1;have nA:=(KM.1 k).1;have p:∀{L:wi} {z:Nat},(L++[z]).Nodup->nx (L++[z]) z=(L++[z]).headD 0:=fun{L z} h=>by
  have J:z∉L:=fun q=>(KM.1 h).2.2 z q z YX rfl;rw[BR J];simp
 refine⟨A,B,c2,?_,?_⟩
 .rw[<-p nA,<-I,<-c2.shift.nx nd i,w]
 .rw[<-p nB,<-H,<-c2.nx nd j,C]
end
noncomputable def Ph (n a b:Nat) (B B':wi) (p q:Nat):Nat:=if p=a then(if q∈B then n else a)else if p=b then(if q∈B' then n+1 else b)else p
noncomputable def j4 (n a b:Nat) (r:Nat->wi) (A B A' B':wi) (v:Nat):wi:=if v=a then A else if v=b then A' else if v=n then B else if v=n+1 then B' else r v
noncomputable def CF (n a b:Nat) (v:Nat):Nat:=if v=n then a else if v=n+1 then b else v
noncomputable def Pf (n a b:Nat) (r:Nat->wi) (A B A' B':wi) (v:Nat):wi:=(j4 n a b r A B A' B' v).map fun q=>Ph n a b B B' q (CF n a b v)
structure jF (n:Nat) (r:Nat->wi) (a b:Nat) (A B A' B':wi):Prop where
 R:ZJ n r
 ab:a≠b
 an:a<n
 bn:b<n
 ca:Cyc (r a) (A++B)
 cb:Cyc (r b) (A'++B')
section
variable {n : Nat} {r : Nat → List Nat} {a b : Nat} {A B A' B' : List Nat}
def jF.disA (S:jF n r a b A B A' B') {q:Nat} (c:q∈A) (h2:q∈B):False:=by
 have:=S.ca.perm.nodup_iff.1 (S.R.nd a);exact(KM.1 this).2.2 q c q h2 rfl
def jF.disB (S:jF n r a b A B A' B') {q:Nat} (c:q∈A') (h2:q∈B'):False:=by
 have:=S.cb.perm.nodup_iff.1 (S.R.nd b);exact(KM.1 this).2.2 q c q h2 rfl
def jF.Xq (S:jF n r a b A B A' B') {p q:Nat} (d:p<n):CF n a b (Ph n a b B B' p q)=p:=by
 have e:=S.an;have h2:=S.bn;have h3:=S.ab;unfold CF Ph;by_cases c1:p=a
 .subst c1
  rw[if_pos rfl];by_cases c:q∈B
  .rw[if_pos c,if_pos rfl]
  .rw[if_neg c,if_neg QT,if_neg QT]
 .rw [if_neg c1]
  by_cases c2:p=b
  .subst c2
   rw[if_pos rfl];by_cases c:q∈B'
   .rw[if_pos c,if_neg QT,if_pos rfl]
   .rw[if_neg c,if_neg QT,if_neg QT]
  .rw[if_neg c2,if_neg QT,if_neg QT]
def jF.BK (S:jF n r a b A B A' B') {p q:Nat} (h:p∈r q):p∈j4 n a b r A B A' B' (Ph n a b B B' q p):=by
 have e:=S.an;have h2:=S.bn;have h3:=S.ab;have f:=S.R.lt _ _ h;unfold j4 Ph;by_cases c1:q=a
 .subst c1
  rw[if_pos rfl];have d:=S.ca.perm.mem_iff.1 h;by_cases c:p∈B
  .rw[if_pos c,if_neg QT,if_neg QT,if_pos rfl];exact c
  .rw[if_neg c,if_pos rfl];exact(uK.1 d).resolve_right c
 .rw [if_neg c1]
  by_cases c2:q=b
  .subst c2
   rw[if_pos rfl];have d:=S.cb.perm.mem_iff.1 h;by_cases c:p∈B'
   .rw[if_pos c,if_neg QT,if_neg QT,if_neg QT,if_pos rfl];exact c
   .rw[if_neg c,if_neg c1,if_pos rfl];exact(uK.1 d).resolve_right c
  .rw[if_neg c2,if_neg c1,if_neg c2,if_neg QT,if_neg QT];exact h
def jF.NQ (S:jF n r a b A B A' B') {v q:Nat} (h:q∈j4 n a b r A B A' B' v):q∈r (CF n a b v)/\v=Ph n a b B B' (CF n a b v) q/\CF n a b v<n:=by
 have f:=S.an;have h2:=S.bn;have h3:=S.ab;unfold j4 at h;by_cases c1:v=a
 .subst c1
  rw[if_pos rfl]at h;have e:CF n v b v=v:=by unfold CF;rw[if_neg QT,if_neg QT]
  rw[e];refine⟨S.ca.perm.mem_iff.2 (KF _ h),?_,f⟩;unfold Ph;rw[if_pos rfl,if_neg fun q=>S.disA h q]
 rw[if_neg c1]at h;by_cases c2:v=b
 .subst c2
  rw[if_pos rfl]at h;have e:CF n a v v=v:=by unfold CF;rw[if_neg QT,if_neg QT]
  rw[e];refine⟨S.cb.perm.mem_iff.2 (KF _ h),?_,h2⟩;unfold Ph;rw[if_neg c1,if_pos rfl,if_neg fun q=>S.disB h q]
 rw[if_neg c2]at h;by_cases c:v=n
 .subst c
  rw[if_pos rfl]at h;have e:CF v a b v=a:=by unfold CF;rw[if_pos rfl]
  rw[e];refine⟨S.ca.perm.mem_iff.2 (KQ _ h),?_,f⟩;unfold Ph;rw[if_pos rfl,if_pos h]
 rw[if_neg c]at h;by_cases d:v=n+1
 .subst d
  rw[if_pos rfl]at h;have e:CF n a b (n+1)=b:=by unfold CF;rw[if_neg QT,if_pos rfl]
  rw[e];refine⟨S.cb.perm.mem_iff.2 (KQ _ h),?_,h2⟩;unfold Ph;rw[if_neg (Hn h3),if_pos rfl,if_pos h]
 .rw [if_neg d] at h
  have e:CF n a b v=v:=by unfold CF;rw[if_neg c,if_neg d]
  rw[e];refine⟨h,?_,S.R.lt _ _ h⟩;unfold Ph;rw[if_neg c1,if_neg c2]
def jF.tau_lt (S:jF n r a b A B A' B') {p q:Nat} (c:p<n):Ph n a b B B' p q<n+2:=by
 have d:=S.an;have h2:=S.bn;unfold Ph;split
 .split<;>omega
 .split
  .split<;>omega
  .omega
def jF.Sg (S:jF n r a b A B A' B') {p c q:Nat} (f:p<n) (d:c<n) (e:Ph n a b B B' p q=Ph n a b B B' c q):p=c:=by
 rw[<-S.Xq f (q:=q),e,S.Xq d]
def jF.mem (S:jF n r a b A B A' B') {v w:Nat}:w∈Pf n a b r A B A' B' v↔∃p q,q∈r p/\v=Ph n a b B B' p q/\w=Ph n a b B B' q p:=by
 unfold Pf;rw[T8];constructor
 .rintro ⟨q, c, rfl⟩
  obtain⟨d,h2,_⟩:=S.NQ c;exact⟨_,q,d,h2,rfl⟩
 .rintro ⟨p, q, h, rfl, rfl⟩
  have e:=S.R.lt _ _ h;exact⟨q,S.BK h,by rw[S.Xq e]⟩
def jF.Pc (S:jF n r a b A B A' B'):ZJ (n+2) (Pf n a b r A B A' B'):=by
 have nA:=S.ca.perm.nodup_iff.1 (S.R.nd a);have nB:=S.cb.perm.nodup_iff.1 (S.R.nd b);rw[KM]at nA nB;refine⟨fun v=>?_,fun v w h=>?_,fun v w h=>?_,fun v h=>?_⟩
 .have f:(j4 n a b r A B A' B' v).Nodup:=by
   unfold j4;split
   .exact nA.1
   split
   .exact nB.1
   split
   .exact nA.2.1
   split
   .exact nB.2.1
   .exact S.R.nd v
  unfold Pf;rw[gY,UB];refine iF (fun{p q} g i d e=>d ?_) (gY.1 f);exact S.Sg (S.R.lt _ _ (S.R.sy _ _ (S.NQ g).1)) (S.R.lt _ _ (S.R.sy _ _ (S.NQ i).1)) e
 .obtain ⟨p, q, c, rfl, _⟩ := S.mem.1 h
  exact S.tau_lt (S.R.lt _ _ c)
 .obtain ⟨p, q, c, h2, h3⟩ := S.mem.1 h
  exact S.mem.2 ⟨q,p,S.R.sy _ _ c,h3,h2⟩
 .obtain ⟨p, q, c, h2, h3⟩ := S.mem.1 h
  have e:p=q:=by rw[<-S.Xq (S.R.lt _ _ c) (q:=q),<-h2,h3,S.Xq (S.R.lt _ _ (S.R.sy _ _ c))]
  rw[e]at c;exact S.R.ir _ c
noncomputable def rho (n a b:Nat) (B B':wi) (d:JE):JE:=(Ph n a b B B' d.1 d.2,Ph n a b B B' d.2 d.1)
def jF.qc (S:jF n r a b A B A' B') {d e:JE} (f:d∈dl n r) (g:e∈dl n r) (h:rho n a b B B' d=rho n a b B B' e):d=e:=by
 have d1:=(ZE S.R).1 f;have c:=(ZE S.R).1 g;injection h with i h2;refine X9 ?_ ?_
 .rw[<-S.Xq (S.R.lt _ _ d1) (q:=d.2),i,S.Xq (S.R.lt _ _ c)]
 .rw[<-S.Xq (S.R.lt _ _ (S.R.sy _ _ d1)) (q:=d.1),h2,S.Xq (S.R.lt _ _ (S.R.sy _ _ c))]
def jF.Tg (S:jF n r a b A B A' B'):(dl (n+2) (Pf n a b r A B A' B')).Perm ((dl n r).map (rho n a b B B')):=by
 refine wI (Pe S.Pc) ?_ fun d=>?_
 .rw [gY, UB]
  exact iF (fun{d e} g c f q=>f (S.qc g c q)) (gY.1 (Pe S.R))
 .rw [ZE S.Pc, T8]
  constructor
  .intro h
   obtain⟨p,q,i,h2,h3⟩:=S.mem.1 h;exact⟨(p,q),(ZE S.R).2 i,X9 h2.symm h3.symm⟩
  .rintro ⟨e, c, rfl⟩
   exact S.mem.2 ⟨e.1,e.2,(ZE S.R).1 c,rfl,rfl⟩
noncomputable def psi (n a b:Nat) (r:Nat->wi) (A B A' B':wi) (d:JE):JE:=(d.2,nx (j4 n a b r A B A' B' (Ph n a b B B' d.2 d.1)) d.1)
def jF.phi (S:jF n r a b A B A' B') {d:JE} (i:d∈dl n r):Mo (Pf n a b r A B A' B') (rho n a b B B' d)=rho n a b B B' (psi n a b r A B A' B' d)/\psi n a b r A B A' B' d∈dl n r:=by
 obtain⟨p,q⟩:=d;have j:q∈r p:=(ZE S.R).1 i;have h2:=S.R.sy _ _ j;have c:=S.R.lt _ _ h2;have hg:=S.BK h2;have k:=zc hg;obtain⟨f,g,s⟩:=S.NQ k;rw[S.Xq c]at f g;refine⟨?_,(ZE S.R).2 f⟩;show(Ph n a b B B' q p,nx (Pf n a b r A B A' B' (Ph n a b B B' q p)) (Ph n a b B B' p q))=(Ph n a b B B' q (nx (j4 n a b r A B A' B' (Ph n a b B B' q p)) p),Ph n a b B B' (nx (j4 n a b r A B A' B' (Ph n a b B B' q p)) p) q);rw[<-g];unfold Pf;rw[S.Xq c];congr 1;exact nx_map (h:=fun x=>Ph n a b B B' x q) (fun x l y m e=>by
  have ex:=(S.NQ l).1;have o:=(S.NQ m).1;exact S.Sg (S.R.lt _ _ (S.R.sy _ _ ex)) (S.R.lt _ _ (S.R.sy _ _ o)) e) hg
def jF.it (S:jF n r a b A B A' B') {d:JE} (c:d∈dl n r):∀k,it (Mo (Pf n a b r A B A' B')) k (rho n a b B B' d)=rho n a b B B' (it (psi n a b r A B A' B') k d)/\Go.Fw.it (psi n a b r A B A' B') k d∈dl n r
 |0=>⟨rfl,c⟩
 |k+1=>by
  obtain⟨e,h2⟩:=S.it c k;obtain⟨h3,f⟩:=S.phi h2;refine⟨?_,f⟩;show Mo _ (Go.Fw.it (Mo (Pf n a b r A B A' B')) k (rho n a b B B' d))=_;rw[e,h3];rfl
def jF.cls (S:jF n r a b A B A' B'):cls (kD (Mo (Pf n a b r A B A' B'))) (dl (n+2) (Pf n a b r A B A' B'))=cls (kD (psi n a b r A B A' B')) (dl n r):=by
 rw[ln S.Tg (TL S.Pc).eqv,ph];refine Yn fun d c e f=>⟨fun⟨k,h⟩=>⟨k,?_⟩,fun⟨k,h⟩=>⟨k,?_⟩⟩
 .rw [(S.it c k).1] at h
  exact S.qc (S.it c k).2 f h
 .rw[(S.it c k).1,h]
end
end Go.Fw
namespace Go.Fw
attribute [local instance] Classical.propDecidable
section
variable {n : Nat} {r : Nat → List Nat} {a b : Nat} {A B A' B' : List Nat} {x y x' y' : Nat}
def jF.swapped (S:jF n r a b (A++[x]) (B++[y]) (A'++[x']) (B'++[y'])) {d:JE} (t:d∈dl n r):
  psi n a b r (A++[x]) (B++[y]) (A'++[x']) (B'++[y']) d=swp (swp (Mo r) (x,a) (y,a)) (x',b) (y',b) d:=by
 have F:=S.an;have h2:=S.bn;have h3:=S.ab;obtain⟨p,v⟩:=d;have i:p∈r v:=S.R.sy _ _ ((ZE S.R).1 t);have at_:∀{c:Nat} {A B:wi} {x y:Nat},Cyc (r c) ((A++[x])++(B++[y]))->p∈r c->(p∉B++[y]->nx (A++[x]) p=(swp (Mo r) (x,c) (y,c) (p,c)).2)/\(p∈B++[y]->nx (B++[y]) p=(swp (Mo r) (x,c) (y,c) (p,c)).2)/\(swp (Mo r) (x,c) (y,c) (p,c)).1=c:=fun{c A B x y} f g=>by
  have nd:=S.R.nd c;have h:=f.perm.nodup_iff.1 nd;have n3:((B++[y])++(A++[x])).Nodup:=FV.nodup_iff.1 h;obtain⟨u,w⟩:=Rj h;obtain⟨z,C⟩:=Rj n3;have D:=f.perm.mem_iff.1 g;have j:x∈r c:=f.perm.mem_iff.2 YX;have k:y∈r c:=f.perm.mem_iff.2 YX;have E:=(KM.1 h).2.2;have nA:=(KM.1 h).1;have nB:=(KM.1 h).2.1;have fst:(swp (Mo r) (x,c) (y,c) (p,c)).1=c:=by
   unfold swp;split
   .rfl
   .split<;>rfl
  refine⟨fun s=>?_,fun hB=>?_,fst⟩
  .have hA := (uK.1 D).resolve_right s
   rcases uK.1 hA with hA|hA
   .have l : p ≠ x := fun e => (KM.1 nA).2.2 p hA x YX e
    have m:p≠y:=fun e=>s (by rw[e];simp);rw[dD (fun e=>l (J9 e).1) (fun e=>m (J9 e).1),Mo];simp only;rw[f.nx nd g,u p hA]
   .rw [Rb] at hA
    subst hA;rw[Mm,Mo];simp only;rw[f.shift.nx nd k,C]
  .rcases uK.1 hB with hB | hB
   .have m : p ≠ y := fun e => (KM.1 nB).2.2 p hB y YX e
    have l:p≠x:=fun e=>E x YX p (by simp[hB]) e.symm;rw[dD (fun e=>l (J9 e).1) (fun e=>m (J9 e).1),Mo];simp only;rw[f.shift.nx nd g,z p hB]
   .rw [Rb] at hB
    subst hB;rw[zL,Mo];simp only;rw[f.nx nd j,w]
 show(v,nx (j4 n a b r (A++[x]) (B++[y]) (A'++[x']) (B'++[y']) (Ph n a b (B++[y]) (B'++[y']) v p)) p)=_;by_cases c1:v=a
 .subst c1
  rw[dD (fun e=>h3 (J9 e).2) (fun e=>h3 (J9 e).2)];obtain⟨k1,k2,o⟩:=at_ S.ca i;refine X9 o.symm ?_;simp only;unfold Ph j4;rw[if_pos rfl];by_cases c:p∈B++[y]
  .rw[if_pos c,if_neg QT,if_neg QT,if_pos rfl];exact k2 c
  .rw[if_neg c,if_pos rfl];exact k1 c
 by_cases c2:v=b
 .subst c2
  have Jc:∀q:Nat,swp (Mo r) (x,a) (y,a) (q,v)=Mo r (q,v):=fun q=>dD (fun e=>c1 (J9 e).2) (fun e=>c1 (J9 e).2);rw[pJ (Jc _) (Jc _) (Jc _)];obtain⟨k1,k2,o⟩:=at_ S.cb i;refine X9 o.symm ?_;simp only;unfold Ph j4;rw[if_neg c1,if_pos rfl];by_cases c:p∈B'++[y']
  .rw[if_pos c,if_neg QT,if_neg QT,if_neg QT,if_pos rfl];exact k2 c
  .rw[if_neg c,if_neg c1,if_pos rfl];exact k1 c
 .rw [dD (fun e => c2 (J9 e).2) (fun e => c2 (J9 e).2), dD (fun e => c1 (J9 e).2) (fun e => c1 (J9 e).2), Mo]
  have G:=S.R.lt _ _ i;unfold Ph j4;rw[if_neg c1,if_neg c2,if_neg c1,if_neg c2,if_neg QT,if_neg QT]
def jF.iso (S:jF n r a b (A++[x]) (B++[y]) (A'++[x']) (B'++[y'])):
  ((List.range (n+2)).filter fun v=>decide (Pf n a b r (A++[x]) (B++[y]) (A'++[x']) (B'++[y']) v=[])).length=((List.range n).filter fun v=>decide (r v=[])).length:=by
 have k:=S.an;have h2:=S.bn;have g:∀v,Pf n a b r (A++[x]) (B++[y]) (A'++[x']) (B'++[y']) v=[]↔j4 n a b r (A++[x]) (B++[y]) (A'++[x']) (B'++[y']) v=[]:=fun v=>by unfold Pf;rw[List.map_eq_nil_iff]
 have i:¬j4 n a b r (A++[x]) (B++[y]) (A'++[x']) (B'++[y']) n=[]:=by
  unfold j4;rw[if_neg QT,if_neg QT,if_pos rfl];simp
 have j:¬j4 n a b r (A++[x]) (B++[y]) (A'++[x']) (B'++[y']) (n+1)=[]:=by
  unfold j4;rw[if_neg QT,if_neg QT,if_neg QT,if_pos rfl];simp
 have d:r a≠[]:=fun e=>by have:=S.ca;rw[e]at this;have:=this.symm.nil;simp at this
 have f:r b≠[]:=fun e=>by have:=S.cb;rw[e]at this;have:=this.symm.nil;simp at this
 rw[pR,pR,Nd,zQ];have e:([n]++[n+1]).filter (fun v=>decide (Pf n a b r (A++[x]) (B++[y]) (A'++[x']) (B'++[y']) v=[]))=[]:=by
  rw[Iw];intro v c;rw[decide_eq_true_eq,g];simp only[E9,IT,aH,RF,or_false]at c;rcases c with rfl|rfl
  .exact i
  .exact j
 rw[e,C7];congr 1;refine SD fun v c=>?_;rw[vq]at c;rw[decide_eq_decide,g];unfold j4;by_cases c1:v=a
 .subst c1;rw[if_pos rfl];exact⟨fun h=>by simp at h,fun h=>absurd h d⟩
 rw[if_neg c1];by_cases c2:v=b
 .subst c2;rw[if_pos rfl];exact⟨fun h=>by simp at h,fun h=>absurd h f⟩
 rw[if_neg c2,if_neg QT,if_neg QT]
def jF.parts (S:jF n r a b (A++[x]) (B++[y]) (A'++[x']) (B'++[y'])) (hf:Flat n r) (j:¬kD (Mo r) (x,a) (y,a)) (s:kD (Mo r) (x',b) (y,a)) (h2:kD (Mo r) (x,a) (y',b)):
  KR n r+1<=KR (n+2) (Pf n a b r (A++[x]) (B++[y]) (A'++[x']) (B'++[y'])):=by
 have p:=TL S.R;have mem:∀{q c:Nat},q∈r c->((q,c):JE)∈dl n r:=fun h=>(ZE S.R).2 (S.R.sy _ _ h);have k:=mem (S.ca.perm.mem_iff.2 (by simp:x∈(A++[x])++(B++[y])));have l:=mem (S.ca.perm.mem_iff.2 (by simp:y∈(A++[x])++(B++[y])));have f:=mem (S.cb.perm.mem_iff.2 (by simp:x'∈(A'++[x'])++(B'++[y'])));have i:=mem (S.cb.perm.mem_iff.2 (by simp:y'∈(A'++[x'])++(B'++[y'])));have F:=(Yo p k l fun e=>j (by rw[e];exact kD.refl _ _)).2 j;have q:=p.swp k l;have t:kD (swp (Mo r) (x,a) (y,a)) (x',b) (y',b):=(Ni p k l j _ f _ i).2 (.inr (.inr ⟨s,h2⟩));have m:((x',b):JE)≠(y',b):=fun e=>by
  have:=S.cb.perm.nodup_iff.1 (S.R.nd b);rw[KM]at this;exact this.2.2 x' YX y' YX (J9 e).1
 have G:=(Yo q f i m).1 t;have u:Go.Fw.cls (kD (psi n a b r (A++[x]) (B++[y]) (A'++[x']) (B'++[y']))) (dl n r)=Go.Fw.cls (kD (swp (swp (Mo r) (x,a) (y,a)) (x',b) (y',b))) (dl n r):=by
  have v:=q.swp f i;refine Yn fun d w e C=>?_;exact(Jo v (fun z D=>(S.swapped D).symm) d w e C).symm
 have E:=S.cls;obtain⟨g,hg⟩:=cU S.Pc;have o:(dl (n+2) (Pf n a b r (A++[x]) (B++[y]) (A'++[x']) (B'++[y']))).length=(dl n r).length:=by rw[S.Tg.length_eq,yA]
 rw[Zz,S.iso,o,E,u]at hg;rw[Flat,Zz]at hf;omega
end
end Go.Fw
namespace Go.Fw
attribute [local instance] Classical.propDecidable
section
variable {n : Nat} {r : Nat → List Nat} {F : List (List Nat)} {a b : Nat} {A B A' B' : List Nat}
def vb {v q:Nat} (c:v≠a) (h2:v≠b):Ph n a b B B' v q=v:=by unfold Ph;rw[if_neg c,if_neg h2]
def jF.fj (S:jF n r a b A B A' B') {p q:Nat} (h:q∈r p):Ph n a b B B' q p∈Pf n a b r A B A' B' (Ph n a b B B' p q):=S.mem.2 ⟨p,q,h,rfl,rfl⟩
def Sn (S:jF n r a b A B A' B') (O:FO r F) {f:wi} (hf:f∈F) {c d:Nat} (u:c∈f) (y:d∈f) (p:c≠d) (l:∀v,v≠c->v≠d->v≠a/\v≠b):
  Cr (Pf n a b r A B A' B') (Ph n a b B B' c (nx f c)) (Ph n a b B B' d (pv f d)):=by
 obtain⟨k,o,g⟩:=Py (Ma (O.nd f hf) u y);have z:k≠0:=fun e=>by subst e;exact p o
 have i:=fun j=>(O.it hf u j).1;have s:∀j,j+1<k->it (nx f) (j+1) c≠c:=fun j t e=>by
  have:it (nx f) (k-(j+1)) c=d:=by
   have h:it (nx f) (k-(j+1)+(j+1)) c=it (nx f) (k-(j+1)) (it (nx f) (j+1) c):=td _ _ _ _;rw[e,show k-(j+1)+(j+1)=k by omega,o]at h;exact h.symm
  exact g _ QT this
 have P:∀j,j<k->Cr (Pf n a b r A B A' B') (Ph n a b B B' c (nx f c)) (Ph n a b B B' (it (nx f) j c) (it (nx f) (j+1) c)):=fun j=>by
  induction j with
  |zero=>intro _;exact .refl _
  |succ j C=>
   intro t;have h:=(C QT).step (S.fj (O.cG f hf _ (i j)));have w:=l (it (nx f) (j+1) c) (s j t) (g _ t);have x:∀q,Ph n a b B B' (it (nx f) (j+1) c) q=it (nx f) (j+1) c:=fun q=>vb w.1 w.2;rw[x]at h;rw[x];exact h
 obtain⟨m,rfl⟩:∃m,k=m+1:=⟨k-1,QT⟩;have h:=(P m QT).step (S.fj (O.cG f hf _ (i m)));have e:nx f (it (nx f) m c)=d:=o;have D:pv f d=it (nx f) m c:=by rw[<-e];exact Zt (O.nd f hf) (i m)
 rw[o,<-D]at h;exact h
def Ea (S:jF n r a b A B A' B') (g:Cr (Pf n a b r A B A' B') a b) (f:Cr (Pf n a b r A B A' B') (n+1) n) (l:KR n r+1<=KR (n+2) (Pf n a b r A B A' B')):¬Cr (Pf n a b r A B A' B') a n:=fun h=>by
 have R':=S.Pc;have d:∀p q,Cr (Pf n a b r A B A' B') p (Ph n a b B B' p q):=fun p q=>by
  unfold Ph;split
  .rename_i e; subst e
   split
   .exact h
   .exact .refl _
  .split
   .rename_i e; subst e
    split
    .exact(g.symm R').trans (h.trans (f.symm R'))
    .exact .refl _
   .exact .refl _
 have lift:∀p q,Cr r p q->Cr (Pf n a b r A B A' B') p q:=fun p q c=>by
  induction c with
  |refl=>exact .refl _
  |step _ hw i=>exact i.trans ((d _ _).trans ((Cr.one (S.fj hw)).trans ((d _ _).symm R')))
 have hle:KR (n+2) (Pf n a b r A B A' B')<=KR n r:=by
  have j:KR (n+2) (Pf n a b r A B A' B')=cls (Cr (Pf n a b r A B A' B')) (n::(n+1)::List.range n):=by
   unfold KR;refine ln ?_ (Cr.eqv R' _);rw[pR,pR,Nd];exact FV
  have k:∃z∈(n+1)::List.range n,Cr (Pf n a b r A B A' B') n z:=⟨n+1,jR,f.symm R'⟩;have h2:∃z∈List.range n,Cr (Pf n a b r A B A' B') (n+1) z:=⟨a,vq.2 S.an,f.trans (h.symm R')⟩;rw[j,cls,if_pos k,cls,if_pos h2];exact zt fun p _ q _ c=>lift p q c
 omega
structure uu (r:Nat->wi) (f g:wi) (a b:Nat) (A B A' B':wi) (X:Nat->Prop):Prop where
 ca:Cyc (r a) ((A++[pv g a])++(B++[pv f a]))
 ha:(A++[pv g a]).headD 0=nx f a
 WA:(B++[pv f a]).headD 0=nx g a
 cb:Cyc (r b) ((A'++[pv f b])++(B'++[pv g b]))
 hb:(A'++[pv f b]).headD 0=nx g b
 AD:(B'++[pv g b]).headD 0=nx f b
 xa:∀v∈A++[pv g a],v≠b->X v
 ya:∀v∈B++[pv f a],v≠b->¬X v
 xb:∀v∈A'++[pv f b],v≠a->X v
 yb:∀v∈B'++[pv g b],v≠a->¬X v
 xA:∀v w,w∈r v->v≠a->v≠b->w≠a->w≠b->(X v↔X w)
 fj:b∈A++[pv g a]↔a∈A'++[pv f b]
def zx {l:wi} {x:Nat}:(l++[x]).headD 0∈l++[x]:=Iu YX
def sides (R:ZJ n r) (O:FO r F) (I:Flat n r) {f g:wi} (hf:f∈F) (hg:g∈F) (J:f≠g) (c:a≠b) (o:a∈f) (K:a∈g) (p:b∈f) (L:b∈g)
  (ca:Cyc (r a) ((A++[pv g a])++(B++[pv f a]))) (ha:(A++[pv g a]).headD 0=nx f a) (WA:(B++[pv f a]).headD 0=nx g a)
  (cb:Cyc (r b) ((A'++[pv f b])++(B'++[pv g b]))) (hb:(A'++[pv f b]).headD 0=nx g b) (AD:(B'++[pv g b]).headD 0=nx f b):
  ∃X:Nat->Prop,uu r f g a b A B A' B' X:=by
 have S:jF n r a b (A++[pv g a]) (B++[pv f a]) (A'++[pv f b]) (B'++[pv g b]):=⟨R,c,R.lt _ _ (O.Zy R hf o),R.lt _ _ (O.Zy R hf p),ca,cb⟩;obtain⟨Q,T,f3⟩:=O.pv hf o;obtain⟨V,W,g3⟩:=O.pv hg K;obtain⟨Y,Z,f6⟩:=O.pv hf p;obtain⟨g4,g5,g6⟩:=O.pv hg L;have U:∀d,kD (Mo r) (pv g a,a) d↔∃u∈g,d=(u,nx g u):=fun d=>by have:=O.orb hg V (d:=d);rwa[W]at this
 have M:∀d,kD (Mo r) (pv f b,b) d↔∃u∈f,d=(u,nx f u):=fun d=>by have:=O.orb hf Y (d:=d);rwa[Z]at this
 have hm:¬kD (Mo r) (pv g a,a) (pv f a,a):=fun h=>by
  obtain⟨u,hu,e⟩:=(U _).1 h;injection e with j s;exact J (O.uniq f hf g hg (pv f a) Q (j▸hu) (by rw[T,j,<-s]))
 have l:kD (Mo r) (pv f b,b) (pv f a,a):=(M _).2 ⟨pv f a,Q,by rw[T]⟩;have h2:kD (Mo r) (pv g a,a) (pv g b,b):=(U _).2 ⟨pv g b,g4,by rw[g5]⟩;have hp:=S.parts I hm l h2;have nA:=ca.perm.nodup_iff.1 (R.nd a);have nB:=cb.perm.nodup_iff.1 (R.nd b);have N:∀{q:Nat},q∈A++[pv g a]->q∉B++[pv f a]:=fun l h2=>S.disA l h2;have P:∀{q:Nat},q∈A'++[pv f b]->q∉B'++[pv g b]:=fun l h2=>S.disB l h2;have m:Cr (Pf n a b r (A++[pv g a]) (B++[pv f a]) (A'++[pv f b]) (B'++[pv g b])) a b:=by
  have:=Sn S O hf o p c fun v l h2=>⟨l,h2⟩;have j:Ph n a b (B++[pv f a]) (B'++[pv g b]) a (nx f a)=a:=by unfold Ph;rw[if_pos rfl,if_neg (N (by rw[<-ha];exact zx))]
  have s:Ph n a b (B++[pv f a]) (B'++[pv g b]) b (pv f b)=b:=by unfold Ph;rw[if_neg (Hn c),if_pos rfl,if_neg (P YX)]
  rwa[j,s]at this
 have x:Cr (Pf n a b r (A++[pv g a]) (B++[pv f a]) (A'++[pv f b]) (B'++[pv g b])) (n+1) n:=by
  have:=Sn S O hf p o (Hn c) fun v l h2=>⟨h2,l⟩;have j:Ph n a b (B++[pv f a]) (B'++[pv g b]) b (nx f b)=n+1:=by unfold Ph;rw[if_neg (Hn c),if_pos rfl,if_pos (by rw[<-AD];exact zx)]
  have s:Ph n a b (B++[pv f a]) (B'++[pv g b]) a (pv f a)=n:=by unfold Ph;rw[if_pos rfl,if_pos YX]
  rwa[j,s]at this
 have t:=Ea S m x hp;have R':=S.Pc;have ea:∀v,v≠a->v≠b->∀q,Ph n a b (B++[pv f a]) (B'++[pv g b]) v q=v:=fun v l h2 q=>vb l h2;have inA:∀v∈A++[pv g a],v≠b->v∈Pf n a b r (A++[pv g a]) (B++[pv f a]) (A'++[pv f b]) (B'++[pv g b]) a:=fun v i y=>by
  have k:=ca.perm.mem_iff.2 (KF _ i);have:=S.fj k;rw[ea v (fun e=>R.ir a (e▸k)) y]at this;have j:Ph n a b (B++[pv f a]) (B'++[pv g b]) a v=a:=by unfold Ph;rw[if_pos rfl,if_neg (N i)]
  rwa[j]at this
 have inB:∀v∈B++[pv f a],v≠b->v∈Pf n a b r (A++[pv g a]) (B++[pv f a]) (A'++[pv f b]) (B'++[pv g b]) n:=fun v i y=>by
  have k:=ca.perm.mem_iff.2 (KQ _ i);have:=S.fj k;rw[ea v (fun e=>R.ir a (e▸k)) y]at this;have j:Ph n a b (B++[pv f a]) (B'++[pv g b]) a v=n:=by unfold Ph;rw[if_pos rfl,if_pos i]
  rwa[j]at this
 have D:∀v∈A'++[pv f b],v≠a->v∈Pf n a b r (A++[pv g a]) (B++[pv f a]) (A'++[pv f b]) (B'++[pv g b]) b:=fun v i z=>by
  have k:=cb.perm.mem_iff.2 (KF _ i);have:=S.fj k;rw[ea v z (fun e=>R.ir b (e▸k))]at this;have j:Ph n a b (B++[pv f a]) (B'++[pv g b]) b v=b:=by unfold Ph;rw[if_neg (Hn c),if_pos rfl,if_neg (P i)]
  rwa[j]at this
 have E:∀v∈B'++[pv g b],v≠a->v∈Pf n a b r (A++[pv g a]) (B++[pv f a]) (A'++[pv f b]) (B'++[pv g b]) (n+1):=fun v i z=>by
  have k:=cb.perm.mem_iff.2 (KQ _ i);have:=S.fj k;rw[ea v z (fun e=>R.ir b (e▸k))]at this;have j:Ph n a b (B++[pv f a]) (B'++[pv g b]) b v=n+1:=by unfold Ph;rw[if_neg (Hn c),if_pos rfl,if_pos i]
  rwa[j]at this
 refine⟨fun v=>Cr (Pf n a b r (A++[pv g a]) (B++[pv f a]) (A'++[pv f b]) (B'++[pv g b])) a v,ca,ha,WA,cb,hb,AD,fun v i h=>Cr.one (inA v i h),fun v i h q=>t (q.trans ((Cr.one (inB v i h)).symm R')),fun v i h=>m.step (D v i h),fun v i h q=>t ((q.trans ((Cr.one (E v i h)).symm R')).trans x),fun v w hw l h2 h3 h4=>?_,?_⟩
 .have := S.fj hw
  rw[ea v l h2,ea w h3 h4]at this;exact⟨fun q=>q.step this,fun q=>q.step (R'.sy _ _ this)⟩
 .constructor
  .intro G
   have k:=ca.perm.mem_iff.2 (KF _ G);have C:=cb.perm.mem_iff.1 (R.sy _ _ k);refine(uK.1 C).resolve_right fun hB=>?_;have:=S.fj k;have j:Ph n a b (B++[pv f a]) (B'++[pv g b]) a b=a:=by unfold Ph;rw[if_pos rfl,if_neg (N G)]
   have s:Ph n a b (B++[pv f a]) (B'++[pv g b]) b a=n+1:=by unfold Ph;rw[if_neg (Hn c),if_pos rfl,if_pos hB]
   rw[j,s]at this;exact t ((Cr.one this).trans x)
  .intro H
   have k:=cb.perm.mem_iff.2 (KF _ H);have C:=ca.perm.mem_iff.1 (R.sy _ _ k);refine(uK.1 C).resolve_right fun hB=>?_;have:=S.fj k;have j:Ph n a b (B++[pv f a]) (B'++[pv g b]) b a=b:=by unfold Ph;rw[if_neg (Hn c),if_pos rfl,if_neg (P H)]
   have s:Ph n a b (B++[pv f a]) (B'++[pv g b]) a b=n:=by unfold Ph;rw[if_pos rfl,if_pos hB]
   rw[j,s]at this;exact t (m.trans (Cr.one this))
end
end Go.Fw
