/- A text. -/
import Derived.Test.YtkccdnmaaelbiaaGreatFwZA
set_option linter.all false
set_option maxRecDepth 99999
set_option maxHeartbeats 9999999
namespace Go.Fw
attribute [local instance] Classical.propDecidable
variable {α : Type}
noncomputable def cls (R:α->α->Prop):List α->Nat
 |[]=>0
 |x::l=>cls R l+if∃y∈l,R x y then 0 else 1
structure RC (X:List α) (R:α->α->Prop):Prop where
 refl:∀x∈X,R x x
 symm:∀x∈X,∀y∈X,R x y->R y x
 trans:∀x∈X,∀y∈X,∀z∈X,R x y->R y z->R x z
theorem RC.sub {X Y:List α} {R:α->α->Prop} (h:RC X R) (hs:∀y∈Y,y∈X):RC Y R:=
 ⟨fun x a=>h.refl x (hs x a),fun x a y b=>h.symm x (hs x a) y (hs y b),fun x a y b z c=>h.trans x (hs x a) y (hs y b) z (hs z c)⟩
theorem IZ {R R':α->α->Prop}:∀{X:List α},(∀x∈X,∀y∈X,R x y↔R' x y)->cls R X=cls R' X
 |[],_=>rfl
 |x::l,h=>by
  have d:=IZ (X:=l) fun a ha b hb=>h a (ZT _ ha) b (ZT _ hb);have:(∃y∈l,R x y)↔∃y∈l,R' x y:=⟨fun⟨y,c,r⟩=>⟨y,c,(h x N8 y (ZT _ c)).1 r⟩,fun⟨y,c,r⟩=>⟨y,c,(h x N8 y (ZT _ c)).2 r⟩⟩;rw[cls,cls,d];simp only[this]
theorem Yy {R:α->α->Prop} {X Y:List α} (p:X.Perm Y):RC X R->cls R X=cls R Y:=by
 induction p with
 |nil=>grind
 |@cons x l l' p g=>
  intro h;have:(∃y∈l,R x y)↔∃y∈l',R x y:=⟨fun⟨y,a,r⟩=>⟨y,p.mem_iff.1 a,r⟩,fun⟨y,a,r⟩=>⟨y,p.mem_iff.2 a,r⟩⟩;rw[cls,cls,g (h.sub fun y a=>ZT _ a)];simp only[this]
 |@swap x y l=>
  intro h;have c:x∈y::x::l:=by simp
  have a:y∈y::x::l:=by simp
  have d:∀z∈l,z∈y::x::l:=fun z b=>by simp[b]
  simp only[cls,Z6,exists_eq_or_imp];by_cases e:R y x
  .have e' := h.symm y a x c e
   have:(∃z,z∈l/\R y z)↔∃z,z∈l/\R x z:=⟨fun⟨z,b,r⟩=>⟨z,b,h.trans x c y a z (d z b) e' r⟩,fun⟨z,b,r⟩=>⟨z,b,h.trans y a x c z (d z b) e r⟩⟩;simp_all
  grind [RC.symm]
 |trans p q i j=>grind [RC.sub]
theorem GQ {X:List α} {R R':α->α->Prop} (h:RC X R) {a b:α} (ha:a∈X) (hb:b∈X) (p:¬R a b) (hR:∀x∈X,∀y∈X,R' x y↔R x y\/(R x a/\R b y)\/(R x b/\R a y)):cls R X=cls R' X+1:=by
 have key:∀l:List α,(∀x∈l,x∈X)->cls R l=cls R' l+if(∃y∈l,R a y)/\(∃y∈l,R b y)then 1 else 0:=by
  intro l
  induction l with
  |nil=>grind [cls]
  |cons x l q=>
   intro hs;have d:=hs x N8;have e:∀z∈l,z∈X:=fun z c=>hs z (ZT _ c);have i:=q e;simp only[cls,Z6,exists_eq_or_imp];by_cases xa:R a x
   .have ax := h.symm a ha x d xa
    have nb:¬R b x:=fun r=>p (h.trans a ha x d b hb xa (h.symm b hb x d r));have j:¬R x b:=fun r=>nb (h.symm x d b hb r);have k:(∃y,y∈l/\R x y)↔∃y,y∈l/\R a y:=⟨fun⟨z,c,r⟩=>⟨z,c,h.trans a ha x d z (e z c) xa r⟩,fun⟨z,c,r⟩=>⟨z,c,h.trans x d a ha z (e z c) ax r⟩⟩;have g:(∃y,y∈l/\R' x y)↔(∃y,y∈l/\R a y)\/∃y,y∈l/\R b y:=pw;simp only[k,g,xa,nb,true_or,false_or,true_and];by_cases m:∃y,y∈l/\R a y<;>by_cases n:∃y,y∈l/\R b y<;>simp only[m,n,and_self,and_true,and_false,true_or,or_true,or_self,if_true,if_false]at i ⊢<;>omega
   .by_cases xb : R b x
    .have s := h.symm b hb x d xb
     have o:¬R x a:=fun r=>xa (h.symm x d a ha r);have k:(∃y,y∈l/\R x y)↔∃y,y∈l/\R b y:=⟨fun⟨z,c,r⟩=>⟨z,c,h.trans b hb x d z (e z c) xb r⟩,fun⟨z,c,r⟩=>⟨z,c,h.trans x d b hb z (e z c) s r⟩⟩;have g:(∃y,y∈l/\R' x y)↔(∃y,y∈l/\R a y)\/∃y,y∈l/\R b y:=pw;simp only[k,g,xa,xb,true_or,false_or,and_true];by_cases m:∃y,y∈l/\R a y<;>by_cases n:∃y,y∈l/\R b y<;>simp only[m,n,and_self,and_true,and_false,true_or,or_true,or_self,if_true,if_false,or_false,false_or]at i ⊢<;>omega
    .have o : ¬ R x a := fun r => xa (h.symm x d a ha r)
     have j:¬R x b:=fun r=>xb (h.symm x d b hb r);have g:(∃y,y∈l/\R' x y)↔∃y,y∈l/\R x y:=pw;simp only[g,xa,xb,false_or];omega
 have:=key X fun _ h=>h;rw[if_pos ⟨⟨a,ha,h.refl a ha⟩,b,hb,h.refl b hb⟩]at this;exact this
structure Pm (X:List α) (f:α->α):Prop where
 nd:X.Nodup
 mem:∀x∈X,f x∈X
 inj:∀x∈X,∀y∈X,f x=f y->x=y
def it (f:α->α):Nat->α->α
 |0,x=>x
 |k+1,x=>f (it f k x)
theorem aaA (f:α->α):∀(k:Nat) (x:α),it f (k+1) x=it f k (f x)
 |0,_=>rfl
 |k+1,x=>by rw[it,aaA f k x];rfl
theorem qu (f:α->α) (j:Nat):∀(k:Nat) (x:α),it f (j+k) x=it f j (it f k x)
 |0,_=>rfl
 |k+1,x=>by rw[<-adS,aaA,qu f j k (f x),aaA]
theorem tf {A B:List α} (b:A.Nodup) (h:∀a∈A,a∈B):A.length<=B.length:=by
 induction A generalizing B with
 |nil=>simp
 |cons a A c=>
  rw[xD]at b;have hb:=h a N8;have:=c (B:=B.erase a) b.2 fun x d=>(List.mem_erase_of_ne (fun e=>b.1 pw)).2 (h x (ZT _ d))
  grind
def WD (f:α->α) (x y:α):Prop:=∃k,it f k x=y
namespace Pm
variable {X : List α} {f : α → α}
theorem uN (p:Pm X f) {x:α} (a:x∈X):∀k,it f k x∈X
 |0=>a
 |k+1=>p.mem _ (p.uN a k)
def FT (p:Pm X f) {x y:α} (a:x∈X) (b:y∈X):∀k,it f k x=it f k y->x=y
 |0,h=>h
 |k+1,h=>p.FT a b k (p.inj _ (p.uN a k) _ (p.uN b k) h)
theorem period (p:Pm X f) {x:α} (c:x∈X):∃k,0<k/\it f k x=x:=by
 refine IE fun b=>?_;have nd:((List.range (X.length+1)).map fun k=>it f k x).Nodup:=by
  rw[Sb,vg];refine List.Pairwise.imp ?_ (Bx (n:=X.length+1));intro i j d e;refine b ⟨j-i,NH,?_⟩;have:it f j x=it f i (it f (j-i) x):=by rw[<-qu];grind
  rw[this]at e;exact(p.FT c (p.uN c _) i e).symm
 have:=tf nd (B:=X) fun a ha=>by grind [Pm.uN]
 grind
theorem MH (_:Pm X f) {x:α} {k:Nat} (h:it f k x=x):∀m,it f (m*k) x=x
 |0=>by rw[Nat.zero_mul];rfl
 |m+1=>by rw[Cj,Nat.one_mul,qu,h];exact MH ‹_› h m
theorem xw (p:Pm X f) {x y:α} (a:x∈X) (h:WD f x y):WD f y x:=by
 obtain⟨k,rfl⟩:=h;obtain⟨q,b,c⟩:=p.period a;refine⟨k*q-k,?_⟩;rw[<-qu];have:k*q-k+k=k*q:=by
  have:k*1<=k*q:=Nat.mul_le_mul_left k b;omega
 grind [Pm.MH]
theorem eqv (p:Pm X f):RC X (WD f):=
 ⟨fun x _=>⟨0,rfl⟩,fun x a _ _ h=>p.xw a h,fun _ _ _ _ _ _ ⟨j,b⟩ ⟨k,c⟩=>⟨k+j,by rw[qu,b,c]⟩⟩
theorem sP (p:Pm X f) {x y:α} (a:x∈X) (h:WD f x y):y∈X:=by obtain⟨k,rfl⟩:=h;grind [Pm.uN]
end Pm
theorem WD.refl (f:α->α) (x:α):WD f x x:=⟨0,rfl⟩
theorem WD.one (f:α->α) (x:α):WD f x (f x):=⟨1,rfl⟩
theorem WD.trans {f:α->α} {x y z:α} (h:WD f x y) (g:WD f y z):WD f x z:=by
 obtain⟨j,rfl⟩:=h;obtain⟨k,rfl⟩:=g;exact⟨k+j,qu f k j x⟩
theorem On {p:Nat->Prop} (h:∃k,p k):∃k,p k/\∀j,j<k->¬p j:=by
 obtain⟨k,a⟩:=h
 induction k using Nat.strongRecOn<;>grind
theorem Nr {f g:α->α} {x:α}:∀k,(∀j,j<k->f (it f j x)=g (it f j x))->it g k x=it f k x
 |0,_=>rfl
 |k+1,h=>by rw[it,it,Nr k fun j a=>h j NH,h k NH]
noncomputable def swp (f:α->α) (a b:α):α->α:=fun x=>if x=a then f b else if x=b then f a else f x
theorem C5 (f:α->α) (a b:α):swp f a b a=f b:=by simp[swp]
theorem dX (f:α->α) (a b:α):swp f a b b=f a:=by grind [swp]
theorem Q3 {f:α->α} {a b x:α} (c:x≠a) (h2:x≠b):swp f a b x=f x:=by grind [swp]
theorem swp_swp (f:α->α) (a b:α):swp (swp f a b) a b=f:=by
 funext x;by_cases h:x=a
 .grind [C5,dX]
 .by_cases k : x = b
  all_goals grind [dX,C5,Q3]
theorem Pm.swp {X:List α} {f:α->α} (p:Pm X f) {a b:α} (ha:a∈X) (hb:b∈X):Pm X (swp f a b):=by
 have v:∀x,∃y,Fw.swp f a b x=f y/\(x∈X->y∈X)/\((x=a/\y=b)\/(x≠a/\x=b/\y=a)\/(x≠a/\x≠b/\y=x)):=fun x=>by
  by_cases h:x=a
  .grind [C5]
  .by_cases k : x = b
   all_goals grind [dX,Q3]
 refine⟨p.nd,fun x c=>?_,fun x c y d e=>?_⟩
 .obtain⟨y,e,d,_⟩:=v x;grind [Pm.mem]
 .obtain ⟨x', g, i, c1⟩ := v x
  obtain⟨j,l,h2,c2⟩:=v y
  grind [Pm.inj]
theorem cG {X:List α} {f:α->α} (p:Pm X f) {a b:α} (ha:a∈X) (hb:b∈X) (l:¬WD f a b):∀x∈X,∀y∈X,WD (swp f a b) x y↔WD f x y\/(WD f x a/\WD f b y)\/(WD f x b/\WD f a y):=by
 have q:=p.swp ha hb;have m:¬WD f b a:=fun h=>l (p.xw hb h);have to:∀{c d:α},(c=a/\d=b\/c=b/\d=a)->∀x∈X,WD f x c->WD (swp f a b) x c:=by
  intro c d n x i h;obtain⟨k,w,A⟩:=On h;have o:∀j,it f j x≠d:=fun j B=>by grind [WD,Pm.xw,WD.trans]
  refine⟨k,?_⟩
  grind [Nr,Q3]
 have r:=fun x i=>to (c:=a) (d:=b) (.inl ⟨rfl,rfl⟩) x i;have s:=fun x i=>to (c:=b) (d:=a) (.inr ⟨rfl,rfl⟩) x i;have ab:WD (swp f a b) a b:=by grind [Pm.mem,Pm.xw,WD.one,C5,WD.trans]
 have one:∀x∈X,WD f x (swp f a b x)\/(WD f x a/\WD f b (swp f a b x))\/(WD f x b/\WD f a (swp f a b x)):=fun x _=>by
  by_cases h:x=a
  .grind [C5,WD.refl,WD.one]
  .by_cases k : x = b
   all_goals grind [dX,WD.refl,WD.one,Q3]
 intro x i y t;constructor
 .rintro ⟨k, rfl⟩
  clear t
  induction k<;>grind [WD.refl,Pm.uN,it.eq_1,it.eq_2,WD.trans]
 .have back : ∀ z ∈ X, ∀ c, (WD f c z -> z ∈ X) := fun z u _ _ => u
  rintro(h|⟨h,g⟩|⟨h,g⟩)
  .by_cases v : WD f x a
   .grind [Pm.xw,WD.trans]
   .by_cases h2 : WD f x b
    .grind [Pm.xw,WD.trans]
    .obtain ⟨k, rfl⟩ := h
     refine⟨k,Nr k fun j _=>(Q3 (fun e=>v ⟨j,e⟩) fun e=>h2 ⟨j,e⟩).symm⟩
  all_goals grind [WD.trans,Pm.xw]
theorem N6 {X:List α} {f:α->α} (p:Pm X f) {a b:α} (ha:a∈X) (g:a≠b) (n:WD f a b):¬WD (swp f a b) a b:=by
 obtain⟨k,d,r⟩:=On n;have hb:=p.sP ha n;have q:=p.swp ha hb;have k0:k≠0:=fun e=>g (by subst e;exact d);have s:∀j,0<j->j<k->it f j a≠a:=fun j i o e=>by
  have:it f (k-j) a=b:=by
   rw[<-d];have:k=(k-j)+j:=NH
   conv=>rhs;rw[this,qu,e]
  grind
 have l:∀m,∃j,0<j/\j<=k/\it (swp f a b) m b=it f j a:=by
  intro m
  induction m with
  |zero=>exact⟨k,NH,Ny _,d.symm⟩
  |succ m t=>
   obtain⟨j,i,o,e⟩:=t;rw[it,e];by_cases c:j=k
   .subst c;rw[d,dX];exact⟨1,NH,NH,rfl⟩
   .rw[Q3 (s j i NH) (r j NH)];exact⟨j+1,NH,NH,rfl⟩
 intro h;obtain⟨m,u⟩:=q.xw ha h;obtain⟨j,i,o,e⟩:=l m
 grind
theorem WC {X:List α} {f:α->α} (p:Pm X f) {a b:α} (ha:a∈X) (hb:b∈X) (c:a≠b):
  (WD f a b->cls (WD (swp f a b)) X=cls (WD f) X+1)/\(¬WD f a b->cls (WD (swp f a b)) X+1=cls (WD f) X):=by
 constructor
 .intro h
  have q:=p.swp ha hb;have:=GQ q.eqv ha hb (N6 p ha c h) (R':=WD f) fun x d y e=>by grind [cG,N6,swp_swp]
  exact this
 .intro h
  exact(GQ p.eqv ha hb h (cG p ha hb h)).symm
noncomputable def UR (f:α->α) (d:α):α->α:=fun x=>if f x=d then f d else f x
theorem Y4 {X Y:List α} {f:α->α} (p:Pm X f) {d:α} (b:X.Perm (d::Y)):Pm Y (UR f d):=by
 have nd:(d::Y).Nodup:=b.nodup_iff.1 p.nd;rw[xD]at nd;have mem:∀x,x∈X↔x=d\/x∈Y:=fun x=>by grind
 have hd:d∈X:=(mem d).2 (.inl rfl);have ne:∀x∈Y,x≠d:=fun x a e=>nd.1 pw;refine⟨nd.2,fun x a=>?_,fun x a y c e=>?_⟩
 all_goals grind [UR,Pm.mem,Pm.inj]
theorem skp_orb {X Y:List α} {f:α->α} (p:Pm X f) {d:α} (a:X.Perm (d::Y)):∀x∈Y,∀y∈Y,WD (UR f d) x y↔WD f x y:=by
 have q:=Y4 p a;have nd:(d::Y).Nodup:=a.nodup_iff.1 p.nd;rw[xD]at nd;have mem:∀x,x∈X↔x=d\/x∈Y:=fun x=>by grind
 intro x c y g;constructor
 .rintro ⟨k, rfl⟩
  clear g
  induction k<;>grind [WD.refl,it.eq_1,it.eq_2,UR,WD.one,WD.trans]
 .rintro ⟨k, b⟩
  induction k using Nat.strongRecOn generalizing x with
  |_ k i=>
   cases k with
   |zero=>exact⟨0,b⟩
   |succ k=>
    have h:=(mem x).2 (.inr c);rw[aaA]at b;by_cases e:f x=d
    .cases k<;>grind [it.eq_1,aaA,UR,Pm.mem,WD.one,WD.trans]
    grind [UR,Pm.mem,WD.one,WD.trans]
theorem iQ {X Y:List α} {f:α->α} (p:Pm X f) {d:α} (a:X.Perm (d::Y)):cls (WD f) X=cls (WD (UR f d)) Y+if f d=d then 1 else 0:=by
 have nd:(d::Y).Nodup:=a.nodup_iff.1 p.nd;rw[xD]at nd;have mem:∀x,x∈X↔x=d\/x∈Y:=fun x=>by grind
 have hd:d∈X:=(mem d).2 (.inl rfl);rw[Yy a p.eqv,cls,IZ (skp_orb p a)];congr 1;by_cases e:f d=d
 .rw [if_pos e, if_neg]
  rintro⟨y,c,k,b⟩;have:it f k d=d:=by
   clear b
   induction k<;>grind [it.eq_1,it.eq_2]
  grind
 .rw [if_neg e, if_pos]
  grind [Pm.mem,WD.one]
end Go.Fw
namespace Go.Fw
attribute [local instance] Classical.propDecidable
def nxF (h:Nat):II->Nat->Nat
 |[],_=>h
 |x::l,y=>if x=y then l.headD h else nxF h l y
def nx (l:II) (y:Nat):Nat:=nxF (l.headD y) l y
theorem vF (h y:Nat) (b:II):∀a:II,y∉a->nxF h (a++y::b) y=b.headD h
 |[],_=>by simp[nxF]
 |x::a,c=>by rw[ab4,nxF,if_neg (fun e=>c (by simp[e])),vF h y b a (fun h=>c (ZT _ h))]
theorem ZL {a b:II} {y:Nat} (c:y∉a):nx (a++y::b) y=(b++(a++[y])).headD 0:=by grind [nx.eq_1,vF]
theorem sC {l:II} {y:Nat} (h:y∈l):∃a b,l=a++y::b/\y∉a:=by
 induction l with
 |nil=>cases h
 |cons x l c=>
  by_cases e:x=y
  .subst e;exact⟨[],l,rfl,Ma⟩
  grind
theorem ET {c:II} {y:Nat}:nx (y::c) y=(c++[y]).headD 0:=by
 have:=ZL (a:=[]) (b:=c) (y:=y) Ma
 grind
theorem aR {a b:II} (nd:(a++b).Nodup) {y:Nat} (c:y∈a++b):nx (a++b) y=nx (b++a) y:=by
 rw[yM]at nd
 grind [sC,ZL]
theorem Hq {l:II} (nd:l.Nodup) {y:Nat} (h:y∈l):∃c,(∀z,z∈l↔z=y\/z∈c)/\(y::c).Nodup/\(∀z∈l,nx l z=nx (y::c) z)/\(∃a b,l=a++y::b/\c=b++a):=by
 obtain⟨a,b,rfl,e⟩:=sC h;have d:(a++y::b).Perm (y::(b++a)):=pw;exact⟨b++a,fun z=>by rw[d.mem_iff,Z6],d.nodup_iff.1 nd,fun z f=>by grind [aR],a,b,rfl,rfl⟩
theorem ZP {l:II} {y:Nat} (h:y∈l):nx l y∈l:=by
 obtain⟨a,b,rfl,d⟩:=sC h;rw[ZL d];cases b with
 |cons c b=>simp
 |nil=>cases a<;>simp
theorem Gv {l:II} (nd:l.Nodup):l.reverse.Nodup:=(Yl l).nodup_iff.2 nd
theorem qb {l:II} (nd:l.Nodup) {y:Nat} (h:y∈l):nx l.reverse (nx l y)=y:=by
 obtain⟨a,b,rfl,i⟩:=sC h;have e:nx (a++y::b) y=nx (y::(b++a)) y:=by grind [aR]
 have f:(a++y::b).reverse.Nodup:=Gv nd;have g:∀z∈a++y::b,nx (a++y::b).reverse z=nx (y::(b++a)).reverse z:=fun z j=>by grind [aR]
 rw[g _ (ZP h),e,ET];have d:(y::(b++a)).Nodup:=pw;generalize b++a=c at*;cases c with
 |nil=>simp[nx,nxF]
 |cons z c=>
  rw[ab4,sD];rw[xD,xD]at d;have:(y::z::c).reverse=c.reverse++z::[y]:=by simp
  grind [ZL]
theorem nx_rev' {l:II} (nd:l.Nodup) {y:Nat} (h:y∈l):nx l (nx l.reverse y)=y:=by grind [qb,List.reverse_reverse]
theorem C9 {l:II} (nd:l.Nodup) {x y:Nat} (a:x∈l) (b:y∈l) (e:nx l x=nx l y):x=y:=by rw[<-qb nd a,<-qb nd b,e]
theorem Bk {l:II} (nd:l.Nodup) {x:Nat} (d:x∈l):nx l x=x↔l=[x]:=by
 constructor
 .intro h
  obtain⟨c,f,g,e,a,b,rfl,rfl⟩:=Hq nd d;rw[e x d,ET]at h;cases i:b++a<;>grind [List.append_eq_nil_iff]
 grind [nx,nxF]
theorem Hn {l:II} (nd:l.Nodup) {x y:Nat} (e:x∈l) (g:y∈l) (i:y≠x):nx (l.erase x) y=if nx l y=x then nx l x else nx l y:=by
 obtain⟨c,p,j,f,a,b,rfl,rfl⟩:=Hq nd e;have k:x∉a:=fun h=>by grind
 have m:(a++x::b).erase x=a++b:=pw;have d:y∈b++a:=pw;have nab:(a++b).Nodup:=pw;rw[m,aR nab pw,f y g,f x e];generalize b++a=c at*;obtain⟨c1,c2,rfl,o⟩:=sC d;have h2:y∉x::c1:=pw;rw[ZL o,ET];have h3:nx (x::(c1++y::c2)) y=(c2++(x::c1++[y])).headD 0:=by grind [ZL]
 rw[h3];rw[xD]at j;cases c2 with
 |nil=>simp
 |cons z c2=>
  grind
theorem JT {l:II} (nd:l.Nodup) {x y:Nat} (t:x∈l) (v:y∈l):WD (nx l) x y:=by
 obtain⟨c,C,D,A,-⟩:=Hq nd t;have i:∀z∈l,z∈x::c:=fun z o=>by grind
 have main:∀(p:II) (q:II),x::c=p++q->∀z∈p,WD (nx l) x z:=by
  intro p
  induction E:p.length generalizing p with
  |zero=>grind
  |succ k B=>
   intro q e z o;obtain⟨g,w,rfl⟩:∃g w,p=g++[w]:=⟨p.dropLast,p.getLast (fun h=>by grind),(qQ _).symm⟩;have d:=B g pw (w::q) (by rw[e];simp);rcases WA.1 o with h|h
   .exact d z h
   .rw [Eh] at h; subst h
    cases g with
    |nil=>grind [WD.refl]
    |cons a b=>
     have ea:a=x:=pw;subst ea;obtain⟨f,u,s⟩:∃f u,a::b=f++[u]:=⟨(a::b).dropLast,(a::b).getLast Ma,(qQ _).symm⟩;have j:u∈a::b:=by rw[s];simp
     have m:u∈l:=pw;have F:=d u j;have h2:nx l u=z:=by
      rw[A u m,e,s];have nn:u∉f:=fun h=>by grind [List.nodup_append]
      have:f++[u]++[z]++q=f++u::(z::q):=by simp
      rw[this,ZL nn];rfl
     grind [WD.one,WD.trans]
 exact main (x::c) [] Ma y (i y v)
structure V7 (n:Nat) (r:Nat->II):Prop where
 nd:∀v,(r v).Nodup
 lt:∀v w,w∈r v->v<n
 sy:∀v w,w∈r v->v∈r w
 ir:∀v,v∉r v
abbrev H8:=Nat×Nat
def dl (n:Nat) (r:Nat->II):List H8:=(List.range n).flatMap fun v=>(r v).map fun w=>(v,w)
def Nv (r:Nat->II) (d:H8):H8:=(d.2,nx (r d.2) d.1)
section
variable {n : Nat} {r : Nat → List Nat}
theorem IP (R:V7 n r) {d:H8}:d∈dl n r↔d.2∈r d.1:=by grind [dl,V7.lt]
theorem iq {f:Nat->List H8} (a:∀v,(f v).Nodup) (h2:∀v,∀d∈f v,d.1=v):∀{l:II},l.Nodup->(l.flatMap f).Nodup
 |[],_=>by simp
 |v::l,h=>by grind
theorem J8 (R:V7 n r):(dl n r).Nodup:=by
 refine iq (fun v=>?_) (fun v d hd=>?_) jz
 .rw [Sb, vg]
  exact(Sb.1 (R.nd v)).imp fun h e=>h (by injection e)
 grind
theorem TG (R:V7 n r):Pm (dl n r) (Nv r):=by
 refine⟨J8 R,fun d hd=>?_,fun d hd e a h=>?_⟩
 .rw[IP R]at hd ⊢;exact ZP (R.sy _ _ hd)
 .rw [IP R] at hd a
  obtain⟨v,w⟩:=d;obtain⟨x,y⟩:=e;simp only[Nv,si]at h;obtain⟨rfl,h⟩:=h;have:v=x:=C9 (R.nd w) (R.sy _ _ hd) (R.sy _ _ a) h;rw[this]
def del (r:Nat->II) (v w:Nat):Nat->II:=fun x=>if x=v then(r v).erase w else if x=w then(r w).erase v else r x
theorem OE (r:Nat->II) (v w:Nat):del r v w v=(r v).erase w:=by simp[del]
theorem u9 {v w:Nat} (r:Nat->II) (h:v≠w):del r v w w=(r w).erase v:=by grind [del]
theorem ac7 {v w x:Nat} (r:Nat->II) (a:x≠v) (h2:x≠w):del r v w x=r x:=by grind [del]
theorem JF (R:V7 n r) {v w:Nat} (a:v≠w) {x y:Nat}:y∈del r v w x↔y∈r x/\¬(x=v/\y=w)/\¬(x=w/\y=v):=by
 by_cases b:x=v
 .subst b; rw [OE, (R.nd x).mem_erase_iff]
  grind
 .by_cases h2 : x = w
  .subst h2; rw [u9 r a, (R.nd x).mem_erase_iff]
   grind
  grind [ac7]
theorem pG (R:V7 n r) {v w:Nat} (a:v≠w):V7 n (del r v w):=by
 refine⟨fun x=>?_,fun x y h=>R.lt x y ((JF R a).1 h).1,fun x y h=>?_,fun x h=>R.ir x ((JF R a).1 h).1⟩
 .unfold del; split
  .exact(R.nd v).erase _
  .split
   .exact(R.nd w).erase _
   .exact R.nd x
 grind [JF,V7.sy]
theorem yR {α:Type} {A B:List α} (a:A.Nodup) (nb:B.Nodup) (h:∀x,x∈A↔x∈B):A.Perm B:=by
 induction A generalizing B<;>grind
theorem yH (R:V7 n r) {v w:Nat} (h:w∈r v):(dl n r).Perm ((v,w)::(w,v)::dl n (del r v w)):=by
 have a:v≠w:=fun e=>R.ir v pw;have R':=pG R a
 grind [J8,IP,JF,V7.sy]
theorem Qv {α:Type} (f:α->α) (d x:α):UR f d x=if f x=d then f d else f x:=rfl
theorem phi_del (R:V7 n r) {v w:Nat} (h:w∈r v) {d:H8} (hd:d∈dl n (del r v w)):Nv (del r v w) d=UR (UR (swp (Nv r) (v,w) (w,v)) (v,w)) (w,v) d:=by
 have c:v≠w:=fun e=>R.ir v pw;have R':=pG R c;obtain⟨a,b⟩:=d;rw[IP R',JF R c]at hd;obtain⟨f,n1,i⟩:=hd;simp only at f n1 i;have s0:swp (Nv r) (v,w) (w,v) (a,b)=Nv r (a,b):=Q3 (fun e=>n1 (by simpa using e)) (fun e=>i (by simpa using e));have g:=R.sy _ _ f;by_cases l:b=v
 .subst l
  have j:a≠w:=fun e=>i ⟨e,rfl⟩
  have m:Nv (del r b w) (a,b)=(b,if nx (r b) a=w then nx (r b) w else nx (r b) a):=by simp only[Nv];rw[OE,Hn (R.nd b) h g j]
  grind [Nv,C5,Qv]
 .have o : UR (swp (Nv r) (v, w) (w, v)) (v, w) (a, b) = Nv r (a, b) := by grind [UR, Nv]
  by_cases h2:b=w
  .subst h2
   have k:a≠v:=fun e=>n1 ⟨e,rfl⟩
   have m:Nv (del r v b) (a,b)=(b,if nx (r b) a=v then nx (r b) v else nx (r b) a):=by simp only[Nv];rw[u9 r c,Hn (R.nd b) (R.sy _ _ h) g k]
   grind [Nv,dX,Qv]
  grind [Nv,Qv,ac7]
noncomputable def mj (n:Nat) (r:Nat->II):Nat:=cls (WD (Nv r)) (dl n r)+((List.range n).filter fun v=>decide (r v=[])).length
theorem ER {α:Type} {f g:α->α} {X:List α} (p:Pm X f) (h:∀x∈X,f x=g x):∀x∈X,∀y∈X,WD f x y↔WD g x y:=by
 intro x a y _;have e:∀k,it g k x=it f k x:=fun k=>Nr k fun j _=>h _ (p.uN a j);exact⟨fun⟨k,b⟩=>⟨k,pw⟩,fun⟨k,b⟩=>⟨k,pw⟩⟩
theorem iso_del (R:V7 n r) {v w:Nat} (h:w∈r v):((List.range n).filter fun x=>decide (del r v w x=[])).length=((List.range n).filter fun x=>decide (r x=[])).length+(if r v=[w]then 1 else 0)+if r w=[v]then 1 else 0:=by
 have c:v≠w:=fun e=>R.ir v pw;have hw:=R.sy _ _ h
 have key:∀l:II,l.Nodup->(l.filter fun x=>decide (del r v w x=[])).length=(l.filter fun x=>decide (r x=[])).length+(if v∈l/\r v=[w]then 1 else 0)+if w∈l/\r w=[v]then 1 else 0:=by
  intro l
  induction l with
  |nil=>intro _;simp
  |cons x l d=>
   intro nd;rw[xD]at nd;have i:=d nd.2;have f:∀{a b:Nat},b∈r a->((r a).erase b=[]↔r a=[b]):=fun{a b} hb=>by grind [List.length_erase_of_mem,List.length_eq_one_iff,List.mem_singleton]
   by_cases g:x=v
   .grind [OE]
   .by_cases h2 : x = w
    .grind [u9]
    grind [ac7]
 have:=key (List.range n) jz
 grind [V7.lt]
theorem xf (R:V7 n r) {v w:Nat} (h:w∈r v):(WD (Nv r) (v,w) (w,v)->mj n (del r v w)=mj n r+1)/\(¬WD (Nv r) (v,w) (w,v)->mj n (del r v w)+1=mj n r):=by
 have b:v≠w:=fun e=>R.ir v pw;have hw:=R.sy _ _ h;have R':=pG R b;have p:=TG R;have hd:(v,w)∈dl n r:=(IP R).2 h;have a:(w,v)∈dl n r:=(IP R).2 hw;have c:((v,w):H8)≠(w,v):=fun e=>by grind
 obtain⟨s1,s2⟩:=WC p hd a c;have q:=p.swp hd a;have d:=yH R h;have k1:=iQ q d;have f:=Y4 q d;have k2:=iQ f (.refl _);have i:=Y4 f (.refl _);have c1:cls (WD (Nv (del r v w))) (dl n (del r v w))=cls (WD (UR (UR (swp (Nv r) (v,w) (w,v)) (v,w)) (w,v))) (dl n (del r v w)):=
  IZ (ER (TG R') fun x g=>phi_del R h g)
 have j:(swp (Nv r) (v,w) (w,v) (v,w)=(v,w))↔r v=[w]:=by rw[C5];simp only[Nv,si,true_and];exact Bk (R.nd v) h
 have k:(UR (swp (Nv r) (v,w) (w,v)) (v,w) (w,v)=(w,v))↔r w=[v]:=by
  have:UR (swp (Nv r) (v,w) (w,v)) (v,w) (w,v)=Nv r (v,w):=by grind [UR,dX,Nv]
  rw[this];simp only[Nv,si,true_and];exact Bk (R.nd w) hw
 grind [iso_del,mj]
inductive Cr (r:Nat->II):Nat->Nat->Prop
 |refl (a:Nat):Cr r a a
 |step {a b c:Nat}:Cr r a b->c∈r b->Cr r a c
theorem Cr.trans {a b c:Nat} (h:Cr r a b) (g:Cr r b c):Cr r a c:=by
 induction g with
 |refl=>exact h
 |step _ e d=>exact .step d e
theorem Cr.one {a b:Nat} (h:b∈r a):Cr r a b:=.step (.refl a) h
theorem Cr.symm (R:V7 n r) {a b:Nat} (h:Cr r a b):Cr r b a:=by
 induction h with
 |refl=>exact .refl _
 |step _ e c=>exact(Cr.one (R.sy _ _ e)).trans c
theorem Cr.eqv (R:V7 n r) (X:II):RC X (Cr r):=⟨fun x _=>.refl x,fun _ _ _ _ h=>h.symm R,fun _ _ _ _ _ _ h g=>h.trans g⟩
theorem Cr.mono {d:Nat->II} (h:∀v w,w∈r v->w∈d v) {a b:Nat} (c:Cr r a b):Cr d a b:=by
 induction c with
 |refl=>exact .refl _
 |step _ e f=>exact .step f (h _ _ e)
noncomputable def iJ (n:Nat) (r:Nat->II):Nat:=cls (Cr r) (List.range n)
theorem MJ (R:V7 n r) {v w:Nat} (h:w∈r v) {a b:Nat}:Cr r a b↔Cr (del r v w) a b\/(Cr (del r v w) a v/\Cr (del r v w) w b)\/(Cr (del r v w) a w/\Cr (del r v w) v b):=by
 have f:v≠w:=fun e=>R.ir v pw;have sub:∀x y,y∈del r v w x->y∈r x:=fun x y l=>((JF R f).1 l).1;constructor
 .intro c
  induction c with
  |refl=>exact .inl (.refl _)
  |@step b c _ e g=>
   by_cases k:b=v/\c=w
   .obtain ⟨rfl, rfl⟩ := k
    rcases g with i|⟨i,_⟩|⟨i,_⟩
    .exact .inr (.inl ⟨i,.refl _⟩)
    .exact .inr (.inl ⟨i,.refl _⟩)
    grind
   .by_cases h2 : b = w /\ c = v
    .obtain ⟨rfl, rfl⟩ := h2
     rcases g with i|⟨i,_⟩|⟨i,_⟩
     .exact .inr (.inr ⟨i,.refl _⟩)
     .exact .inl i
     .exact .inr (.inr ⟨i,.refl _⟩)
    .have e' : c ∈ del r v w b := (JF R f).2 ⟨e, k, h2⟩
     rcases g with i|⟨i,j⟩|⟨i,j⟩
     .exact .inl (.step i e')
     .exact .inr (.inl ⟨i,.step j e'⟩)
     .exact .inr (.inr ⟨i,.step j e'⟩)
 .rintro (c | ⟨c, d⟩ | ⟨c, d⟩)
  .grind [Cr.mono]
  .exact((c.mono sub).trans (.one h)).trans (d.mono sub)
  .exact((c.mono sub).trans (.one (R.sy _ _ h))).trans (d.mono sub)
theorem ab6 (R:V7 n r) {v w:Nat} (h:w∈r v):(Cr (del r v w) v w->iJ n (del r v w)=iJ n r)/\(¬Cr (del r v w) v w->iJ n (del r v w)=iJ n r+1):=by
 have d:v≠w:=fun e=>R.ir v pw;have R':=pG R d;constructor
 .intro c
  refine IZ fun a _ b _=>?_
  grind [MJ,Cr.trans,Cr.symm]
 .intro c
  exact GQ (Cr.eqv R' _) (j9.2 (R.lt _ _ h)) (j9.2 (R.lt _ _ (R.sy _ _ h))) c fun a _ b _=>MJ R h
theorem jh (R:V7 n r) {v w:Nat} (h:w∈r v) (hb:¬Cr (del r v w) v w):WD (Nv r) (v,w) (w,v):=by
 have d:v≠w:=fun e=>R.ir v pw;have R':=pG R d;have p:=TG R;have hd:(v,w)∈dl n r:=(IP R).2 h;refine IE fun f=>hb ?_;have key:∀j,0<j->Cr (del r v w) w (it (Nv r) j (v,w)).1\/∃i,0<i/\i<j/\it (Nv r) i (v,w)=(v,w):=by
  intro j
  induction j with
  |zero=>grind
  |succ j l=>
   intro _;by_cases m:j=0
   .subst m;exact .inl (.refl _)
   rcases l NH with c|⟨i,s,t,e⟩
   .by_cases o : it (Nv r) j (v, w) = (v, w)
    .grind
    have q:it (Nv r) j (v,w)≠(w,v):=fun e=>f ⟨j,e⟩;have g:=p.uN hd j;rw[it];generalize it (Nv r) j (v,w)=z at*;obtain⟨a,b⟩:=z;rw[IP R]at g;refine .inl (c.step ?_);exact(JF R d).2 ⟨g,fun e=>o (aaV e.1 e.2),fun e=>q (aaV e.1 e.2)⟩
   grind
 obtain⟨k,⟨k0,u⟩,x⟩:=On (p:=fun k=>0<k/\it (Nv r) k (v,w)=(v,w)) (p.period hd)
 grind [Cr.symm]
theorem no_dart (R:V7 n r) (h:dl n r=[]) (v:Nat):r v=[]:=by
 cases e:r v with
 |nil=>rfl
 |cons w l=>
  have:(v,w)∈dl n r:=(IP R).2 pw
  grind
theorem aE:∀(m:Nat) (r:Nat->II),V7 n r->(dl n r).length=2*m->∃g,n+mj n r+2*g=m+2*iJ n r
 |0,r,R,h=>by
  have i:=IC.1 h;have q:=no_dart R i;refine⟨0,?_⟩;have s:mj n r=n:=by grind [mj,List.filter_eq_self,cls]
  have t:iJ n r=n:=by
   unfold iJ;have:∀a b,Cr r a b↔a=b:=fun a b=>by
    constructor
    .intro c
     induction c<;>grind
    .rintro rfl;exact .refl _
   have key:∀l:II,l.Nodup->cls (Cr r) l=l.length:=by
    intro l
    induction l<;>grind [cls.eq_1,cls.eq_2]
   grind
  omega
 |m+1,r,R,h=>by
  obtain⟨d,l,e⟩:∃d l,dl n r=d::l:=by
   cases hh:dl n r<;>grind
  obtain⟨v,w⟩:=d;have hw:w∈r v:=(IP (d:=(v,w)) R).1 pw;have f:v≠w:=fun e=>R.ir v pw;have j:=(yH R hw).length_eq;simp only[Uz]at j;obtain⟨g,hg⟩:=aE m (del r v w) (pG R f) NH;obtain⟨k,u⟩:=xf R hw;obtain⟨c1,c2⟩:=ab6 R hw;by_cases o:WD (Nv r) (v,w) (w,v)
  .have := k o
   by_cases p:Cr (del r v w) v w
   .have:=c1 p;exact⟨g+1,NH⟩
   grind
  grind [jh]
end
end Go.Fw
