/- A text. -/
import Derived.Test.YtnakkbhjoiheoaaGreatFwZA
set_option linter.all false
set_option maxRecDepth 99999
set_option maxHeartbeats 9999999
open Option renaming some→Z,none→Y
open List renaming range→rG
namespace Go.Fw
attribute [local instance] Classical.propDecidable
variable{α:Type}
noncomputable def cls(R:α->α->Prop):List α->Nat
 |[]=>0
 |x::l=>cls R l+if∃y∈l,R x y then 0 else 1
structure Eqv (X:List α) (R:α->α->Prop):Prop where
 refl:∀x∈X,R x x
 symm:∀x∈X,∀y∈X,R x y->R y x
 trans:∀x∈X,∀y∈X,∀z∈X,R x y->R y z->R x z
theorem Eqv.sub{X Y:List α}{R:α->α->Prop}(h:Eqv X R)(hs:∀y∈Y,y∈X):Eqv Y R:=⟨by grind[Eqv.refl],(by grind[Eqv.symm]),(by grind[Eqv.trans])⟩
theorem IZ{R R':α->α->Prop}:∀{X:List α},(∀x∈X,∀y∈X,R x y↔R' x y)->cls R X=cls R' X
 |[],_=>rfl
 |x::l,h=>by
  have c:=IZ (X:=l) fun a ha b hb=>h a (ZT _ ha) b (ZT _ hb);have:(∃y∈l,R x y)↔∃y∈l,R' x y:=by grind[List.mem_cons_of_mem]
  rw[cls,cls,c];simp only[this]
theorem Yy{R:α->α->Prop}{X Y:List α}(p:X.Perm Y):Eqv X R->cls R X=cls R Y:=by
 induction p with
 |nil=>grind
 |@cons x l l' p a=>
  intro h;have:(∃y∈l,R x y)↔∃y∈l',R x y:=by grind[List.Perm.mem_iff]
  rw[cls,cls,a (by grind[Eqv.sub])];simp only[this]
 |@swap x y l=>
  intro h;have b:x∈y::x::l:=by simp
  have c:y∈y::x::l:=by simp
  have i:∀z∈l,z∈y::x::l:=hGr;simp only[cls,Og,exists_eq_or_imp];by_cases e:R y x
  .have e':=h.symm y c x b e;have:(∃z,z∈l/\R y z)↔∃z,z∈l/\R x z:=by grind[Eqv.trans]
   simp_all
  grind[Eqv.symm]
 |trans p q d g=>grind[Eqv.sub]
theorem GQ{X:List α}{R R':α->α->Prop}(h:Eqv X R){a b:α}(ha:a∈X)(hb:b∈X)(p:¬R a b)(hR:∀x∈X,∀y∈X,R' x y↔R x y\/(R x a/\R b y)\/(R x b/\R a y)):cls R X=cls R' X+1:=by
 have key:∀l:List α,(∀x∈l,x∈X)->cls R l=cls R' l+if(∃y∈l,R a y)/\(∃y∈l,R b y)then 1 else 0:=by
  intro l
  induction l with
  |nil=>grind[cls]
  |cons x l k=>
   intro hs;have j:=hs x abV;have m:∀z∈l,z∈X:=by grind[List.mem_cons_of_mem]
   have i:=k m;simp only[cls,Og,exists_eq_or_imp];by_cases xa:R a x
   .have ax:=h.symm a ha x j xa;have nb:¬R b x:=by grind[Eqv.trans,Eqv.symm]
    have d:(∃y,y∈l/\R x y)↔∃y,y∈l/\R a y:=by grind[Eqv.trans]
    have c:(∃y,y∈l/\R' x y)↔(∃y,y∈l/\R a y)\/∃y,y∈l/\R b y:=hGr;simp only[d,c,xa,nb,true_or,false_or,true_and];by_cases e:∃y,y∈l/\R a y<;>by_cases g:∃y,y∈l/\R b y<;>simp only[e,g,and_self,and_true,and_false,true_or,or_true,or_self,if_true,if_false]at i ⊢<;>omega
   .by_cases xb:R b x
    .have q:=h.symm b hb x j xb;have d:(∃y,y∈l/\R x y)↔∃y,y∈l/\R b y:=by grind[Eqv.trans]
     have c:(∃y,y∈l/\R' x y)↔(∃y,y∈l/\R a y)\/∃y,y∈l/\R b y:=hGr;simp only[d,c,xa,xb,true_or,false_or,and_true];by_cases e:∃y,y∈l/\R a y<;>by_cases g:∃y,y∈l/\R b y<;>simp only[e,g,and_self,and_true,and_false,true_or,or_true,or_self,if_true,if_false,or_false,false_or]at i ⊢<;>omega
    .have n:¬R x a:=by grind[Eqv.symm]
     have o:¬R x b:=by grind[Eqv.symm]
     have c:(∃y,y∈l/\R' x y)↔∃y,y∈l/\R x y:=hGr;simp only[c,xa,xb,false_or];omega
 have:=key X fun _ h=>h;rw[IE (by grind[Eqv.refl])]at this;exact this
structure Pm (X:List α) (f:α->α):Prop where
 nd:X.Nodup
 mem:∀x∈X,f x∈X
 inj:∀x∈X,∀y∈X,f x=f y->x=y
def it(f:α->α):Nat->α->α
 |0,x=>x
 |k+1,x=>f (it f k x)
theorem aaS(f:α->α):∀(k:Nat)(x:α),it f (k+1) x=it f k (f x)
 |0,_=>rfl
 |k+1,x=>by rw[it,aaS f k x];rfl
theorem qu(f:α->α)(j:Nat):∀(k:Nat)(x:α),it f (j+k) x=it f j (it f k x)
 |0,_=>rfl
 |k+1,x=>by rw[<-qL235,aaS,qu f j k (f x),aaS]
theorem tf{A B:List α}(b:A.Nodup)(h:∀a∈A,a∈B):A.length<=B.length:=by
 induction A generalizing B with
 |nil=>simp
 |cons a A c=>rw[jz]at b;have hb:=h a abV;have:=c (B:=B.erase a) b.2 fun x d=>(akN (fun e=>b.1 hGr)).2 (h x (ZT _ d));grind
def WD(f:α->α)(x y:α):Prop:=∃k,it f k x=y
namespace Pm
variable{X:List α}{f:α->α}
theorem uN(p:Pm X f){x:α}(a:x∈X):∀k,it f k x∈X
 |0=>a
 |k+1=>p.mem _ (p.uN a k)
def FT(p:Pm X f){x y:α}(a:x∈X)(b:y∈X):∀k,it f k x=it f k y->x=y
 |0,h=>h
 |k+1,h=>p.FT a b k (p.inj _ (p.uN a k) _ (p.uN b k) h)
theorem period(p:Pm X f){x:α}(b:x∈X):∃k,0<k/\it f k x=x:=by
 refine Hs fun a=>?_;have nd:((rG (X.length+1)).map fun k=>it f k x).Nodup:=by
  rw[Gw,vY];refine qL124 ?_ (U9 (n:=X.length+1));intro i j c e;refine a ⟨j-i,NH,?_⟩;have:it f j x=it f i (it f (j-i) x):=by rw[<-qu];grind
  rw[this]at e;exact(p.FT b (p.uN b _) i e).symm
 have:=tf nd (B:=X) (by grind[Pm.uN]);grind
theorem MH(_:Pm X f){x:α}{k:Nat}(h:it f k x=x):∀m,it f (m*k) x=x
 |0=>by rw[Nat.zero_mul];rfl
 |m+1=>by rw[aiL,Nat.one_mul,qu,h];exact MH ‹_› h m
theorem adK(p:Pm X f){x y:α}(a:x∈X)(h:WD f x y):WD f y x:=by
 obtain⟨k,rfl⟩:=h;obtain⟨q,b,c⟩:=p.period a;refine⟨k*q-k,?_⟩;rw[<-qu];have:k*q-k+k=k*q:=by have:k*1<=k*q:=Nat.mul_le_mul_left k b;omega
 grind[Pm.MH]
theorem eqv(p:Pm X f):Eqv X (WD f):=⟨fun x _=>⟨0,rfl⟩,(by grind[Pm.adK]),fun _ _ _ _ _ _ ⟨j,a⟩ ⟨k,b⟩=>⟨k+j,by rw[qu,a,b]⟩⟩
theorem sP(p:Pm X f){x y:α}(a:x∈X)(h:WD f x y):y∈X:=by obtain⟨k,rfl⟩:=h;grind[Pm.uN]
end Pm
theorem WD.refl(f:α->α)(x:α):WD f x x:=⟨0,rfl⟩
theorem WD.one(f:α->α)(x:α):WD f x (f x):=⟨1,rfl⟩
theorem WD.trans{f:α->α}{x y z:α}(h:WD f x y)(g:WD f y z):WD f x z:=by obtain⟨j,rfl⟩:=h;obtain⟨k,rfl⟩:=g;exact⟨k+j,qu f k j x⟩
theorem On{p:Nat->Prop}(h:∃k,p k):∃k,p k/\∀j,j<k->¬p j:=by
 obtain⟨k,a⟩:=h
 induction k using Nat.strongRecOn<;>grind
theorem Nr{f g:α->α}{x:α}:∀k,(∀j,j<k->f (it f j x)=g (it f j x))->it g k x=it f k x
 |0,_=>rfl
 |k+1,h=>by rw[it,it,Nr k fun j a=>h j NH,h k NH]
noncomputable def swp(f:α->α)(a b:α):α->α:=fun x=>if x=a then f b else if x=b then f a else f x
theorem C5(f:α->α)(a b:α):swp f a b a=f b:=by simp[swp]
theorem dX(f:α->α)(a b:α):swp f a b b=f a:=by grind[swp]
theorem Q3{f:α->α}{a b x:α}(c:x≠a)(h2:x≠b):swp f a b x=f x:=by grind[swp]
theorem swp_swp(f:α->α)(a b:α):swp (swp f a b) a b=f:=by
 funext x;by_cases h:x=a
 .grind[C5,dX]
 .by_cases k:x=b
  all_goals grind[dX,C5,Q3]
theorem Pm.swp{X:List α}{f:α->α}(p:Pm X f){a b:α}(ha:a∈X)(hb:b∈X):Pm X (swp f a b):=by
 have v:∀x,∃y,Fw.swp f a b x=f y/\(x∈X->y∈X)/\((x=a/\y=b)\/(x≠a/\x=b/\y=a)\/(x≠a/\x≠b/\y=x)):=fun x=>by
  by_cases h:x=a
  .grind[C5]
  .by_cases k:x=b
   all_goals grind[dX,Q3]
 refine⟨p.nd,fun x c=>?_,fun x c y d e=>?_⟩
 .obtain⟨y,e,d,_⟩:=v x;grind[Pm.mem]
 .obtain⟨x',g,i,c1⟩:=v x;obtain⟨j,l,h2,c2⟩:=v y;grind[Pm.inj]
theorem cG{X:List α}{f:α->α}(p:Pm X f){a b:α}(ha:a∈X)(hb:b∈X)(s:¬WD f a b):∀x∈X,∀y∈X,WD (swp f a b) x y↔WD f x y\/(WD f x a/\WD f b y)\/(WD f x b/\WD f a y):=by
 have q:=p.swp ha hb;have to:∀{c d:α},(c=a/\d=b\/c=b/\d=a)->∀x∈X,WD f x c->WD (swp f a b) x c:=by
  intro c d l x i h;obtain⟨k,t,u⟩:=On h;have m:∀j,it f j x≠d:=by grind[WD,Pm.adK,WD.trans]
  refine⟨k,?_⟩;grind[Nr,Q3]
 have n:=fun x i=>to (c:=a) (d:=b) hGr x i;have o:=fun x i=>to (c:=b) (d:=a) hGr x i;have ab:WD (swp f a b) a b:=by grind[Pm.mem,Pm.adK,WD.one,C5,WD.trans]
 have one:∀x∈X,WD f x (swp f a b x)\/(WD f x a/\WD f b (swp f a b x))\/(WD f x b/\WD f a (swp f a b x)):=fun x _=>by
  by_cases h:x=a
  .grind[C5,WD.refl,WD.one]
  .by_cases k:x=b
   all_goals grind[dX,WD.refl,WD.one,Q3]
 intro x i y v;constructor
 .rintro⟨k,rfl⟩
  induction k<;>grind[WD.refl,Pm.uN,it.eq_1,it.eq_2,WD.trans]
 .rintro(h|⟨h,g⟩|⟨h,g⟩)
  .by_cases r:WD f x a
   .grind[Pm.adK,WD.trans]
   .by_cases h2:WD f x b
    .grind[Pm.adK,WD.trans]
    .obtain⟨k,rfl⟩:=h;refine⟨k,Nr k fun j _=>(Q3 (fun e=>r ⟨j,e⟩) fun e=>h2 ⟨j,e⟩).symm⟩
  all_goals grind[WD.trans,Pm.adK]
theorem N6{X:List α}{f:α->α}(p:Pm X f){a b:α}(ha:a∈X)(g:a≠b)(l:WD f a b):¬WD (swp f a b) a b:=by
 obtain⟨k,d,r⟩:=On l;have hb:=p.sP ha l;have q:=p.swp ha hb;have k0:k≠0:=fun e=>g (by subst e;exact d);have t:∀j,0<j->j<k->it f j a≠a:=fun j n o e=>by
  have:it f (k-j) a=b:=by
   rw[<-d];have:k=(k-j)+j:=NH
   conv=>rhs;rw[this,qu,e]
  grind
 have i:∀m,∃j,0<j/\j<=k/\it (swp f a b) m b=it f j a:=by
  intro m
  induction m with
  |zero=>exact⟨k,NH,qL0 _,d.symm⟩
  |succ m s=>
   obtain⟨j,n,o,e⟩:=s;rw[it,e];by_cases c:j=k
   .subst c;rw[d,dX];exact⟨1,NH,NH,rfl⟩
   .rw[Q3 hGr (r j NH)];exact⟨j+1,NH,NH,rfl⟩
 intro h;obtain⟨m,u⟩:=q.adK ha h;obtain⟨j,n,o,e⟩:=i m;grind
theorem WC{X:List α}{f:α->α}(p:Pm X f){a b:α}(ha:a∈X)(hb:b∈X)(c:a≠b):
  (WD f a b->cls (WD (swp f a b)) X=cls (WD f) X+1)/\(¬WD f a b->cls (WD (swp f a b)) X+1=cls (WD f) X):=by
 constructor
 .intro h;have q:=p.swp ha hb;have:=GQ q.eqv ha hb (N6 p ha c h) (R':=WD f) (by grind[cG,N6,swp_swp]);exact this
 .intro h;exact(GQ p.eqv ha hb h (cG p ha hb h)).symm
noncomputable def UR(f:α->α)(d:α):α->α:=fun x=>if f x=d then f d else f x
theorem skp_pm{X Y:List α}{f:α->α}(p:Pm X f){d:α}(a:X.Perm (d::Y)):Pm Y (UR f d):=by
 have nd:(d::Y).Nodup:=a.nodup_iff.1 p.nd;rw[jz]at nd;refine⟨nd.2,fun x b=>?_,fun x b y c e=>?_⟩
 all_goals grind[UR,Pm.mem,Pm.inj]
theorem skp_orb{X Y:List α}{f:α->α}(p:Pm X f){d:α}(a:X.Perm (d::Y)):∀x∈Y,∀y∈Y,WD (UR f d) x y↔WD f x y:=by
 have q:=skp_pm p a;have nd:(d::Y).Nodup:=a.nodup_iff.1 p.nd;have mem:∀x,x∈X↔x=d\/x∈Y:=fun x=>by grind
 intro x g y c;constructor
 .rintro⟨k,rfl⟩;clear c
  induction k<;>grind[WD.refl,it.eq_1,it.eq_2,UR,WD.one,WD.trans]
 .rintro⟨k,b⟩
  induction k using Nat.strongRecOn generalizing x with
  |_ k h=>
   cases k with
   |zero=>exact⟨0,b⟩
   |succ k=>
    rw[aaS]at b;by_cases e:f x=d
    .cases k<;>grind[it.eq_1,aaS,UR,Pm.mem,WD.one,WD.trans]
    grind[UR,Pm.mem,WD.one,WD.trans]
theorem iQ{X Y:List α}{f:α->α}(p:Pm X f){d:α}(a:X.Perm (d::Y)):cls (WD f) X=cls (WD (UR f d)) Y+if f d=d then 1 else 0:=by
 have nd:(d::Y).Nodup:=a.nodup_iff.1 p.nd;have mem:∀x,x∈X↔x=d\/x∈Y:=fun x=>by grind
 rw[Yy a p.eqv,cls,IZ (skp_orb p a)];by_cases e:f d=d
 .rw[IE e,yM];rintro⟨y,c,k,b⟩;have:it f k d=d:=by
   clear b
   induction k<;>grind[it.eq_1,it.eq_2]
  grind
 .rw[yM e,IE];grind[Pm.mem,WD.one]
end Go.Fw
namespace Go.Fw
section
attribute [local instance] Classical.propDecidable
def nxF(h:Nat):II->Nat->Nat
 |[],_=>h
 |x::l,y=>if x=y then l.headD h else nxF h l y
def nx(l:II)(y:Nat):Nat:=nxF (l.headD y) l y
theorem vF(h y:Nat)(b:II):∀a:II,y∉a->nxF h (a++y::b) y=b.headD h
 |[],_=>by simp[nxF]
 |x::a,c=>by rw[adz,nxF,yM hGr,vF h y b a (by grind[List.mem_cons_of_mem])]
theorem ZL{a b:II}{y:Nat}(c:y∉a):nx (a++y::b) y=(b++(a++[y])).headD 0:=by grind[nx.eq_1,vF]
theorem sC{l:II}{y:Nat}(h:y∈l):∃a b,l=a++y::b/\y∉a:=by
 induction l with
 |nil=>cases h
 |cons x l c=>
  by_cases e:x=y
  .subst e;exact⟨[],l,rfl,Ma⟩
  grind
theorem ET{c:II}{y:Nat}:nx (y::c) y=(c++[y]).headD 0:=by have:=ZL (a:=[]) (b:=c) (y:=y) Ma;grind
theorem aR{a b:II}(nd:(a++b).Nodup){y:Nat}(c:y∈a++b):nx (a++b) y=nx (b++a) y:=by grind[sC,ZL]
theorem Hq{l:II}(nd:l.Nodup){y:Nat}(h:y∈l):∃c,(∀z,z∈l↔z=y\/z∈c)/\(y::c).Nodup/\(∀z∈l,nx l z=nx (y::c) z)/\(∃a b,l=a++y::b/\c=b++a):=by obtain⟨a,b,rfl,e⟩:=sC h;have d:(a++y::b).Perm (y::(b++a)):=hGr;exact⟨b++a,fun z=>by rw[d.mem_iff,Og],d.nodup_iff.1 nd,(by grind[aR]),a,b,rfl,rfl⟩
theorem ZP{l:II}{y:Nat}(h:y∈l):nx l y∈l:=by
 obtain⟨a,b,rfl,d⟩:=sC h;rw[ZL d];cases b with
 |cons c b=>simp
 |nil=>cases a<;>simp
theorem Gv{l:II}(nd:l.Nodup):l.reverse.Nodup:=by grind[List.Perm.nodup_iff]
theorem qb{l:II}(nd:l.Nodup){y:Nat}(h:y∈l):nx l.reverse (nx l y)=y:=by
 obtain⟨a,b,rfl,g⟩:=sC h;have d:nx (a++y::b) y=nx (y::(b++a)) y:=by grind[aR]
 have e:∀z∈a++y::b,nx (a++y::b).reverse z=nx (y::(b++a)).reverse z:=by grind[aR]
 rw[e _ (ZP h),d,ET];have f:(y::(b++a)).Nodup:=hGr;generalize b++a=c at*;cases c with
 |nil=>simp[nx,nxF]
 |cons z c=>grind[ZL]
theorem nx_rev'{l:II}(nd:l.Nodup){y:Nat}(h:y∈l):nx l (nx l.reverse y)=y:=by grind[qb,List.reverse_reverse]
theorem C9{l:II}(nd:l.Nodup){x y:Nat}(a:x∈l)(b:y∈l)(e:nx l x=nx l y):x=y:=by rw[<-qb nd a,<-qb nd b,e]
theorem Bk{l:II}(nd:l.Nodup){x:Nat}(d:x∈l):nx l x=x↔l=[x]:=by
 constructor
 .intro h;obtain⟨c,f,g,e,a,b,rfl,rfl⟩:=Hq nd d;rw[e x d,ET]at h;cases i:b++a<;>grind[List.append_eq_nil_iff]
 grind[nx,nxF]
theorem Hn{l:II}(nd:l.Nodup){x y:Nat}(e:x∈l)(g:y∈l)(h:y≠x):nx (l.erase x) y=if nx l y=x then nx l x else nx l y:=by
 obtain⟨c,k,m,f,a,b,rfl,rfl⟩:=Hq nd e;have i:(a++x::b).erase x=a++b:=hGr;have d:y∈b++a:=hGr;have nab:(a++b).Nodup:=hGr;rw[i,aR nab hGr,f y g,f x e];generalize b++a=c at*;obtain⟨c1,c2,rfl,j⟩:=sC d;rw[ZL j,ET];have h3:nx (x::(c1++y::c2)) y=(c2++(x::c1++[y])).headD 0:=by grind[ZL]
 rw[h3];cases c2 with
 |nil=>simp
 |cons z c2=>grind
theorem JT{l:II}(nd:l.Nodup){x y:Nat}(o:x∈l)(s:y∈l):WD (nx l) x y:=by
 obtain⟨c,C,D,t,-⟩:=Hq nd o;have g:∀z∈l,z∈x::c:=hGr;have main:∀(p:II)(q:II),x::c=p++q->∀z∈p,WD (nx l) x z:=by
  intro p
  induction E:p.length generalizing p with
  |zero=>grind
  |succ k v=>
   intro q e z A;obtain⟨f,w,rfl⟩:∃f w,p=f++[w]:=⟨p.dropLast,p.getLast hGr,(Zw _).symm⟩;have i:=v f hGr (w::q) (by rw[e];simp);rcases aax.1 A with h|h
   .exact i z h
   .rw[xD]at h;subst h;cases f with
    |nil=>grind[WD.refl]
    |cons a b=>
     obtain⟨d,u,m⟩:∃d u,a::b=d++[u]:=⟨(a::b).dropLast,(a::b).getLast Ma,(Zw _).symm⟩;have B:u∈a::b:=by rw[m];simp
     have j:u∈l:=hGr;have h2:nx l u=z:=by
      rw[t u j,e,m];have nn:u∉d:=by grind[List.nodup_append]
      have:d++[u]++[z]++q=d++u::(z::q):=by simp
      rw[this,ZL nn];rfl
     grind[WD.one,WD.trans]
 exact main (x::c) [] Ma y (g y s)
structure V7 (n:Nat) (r:Nat->II):Prop where
 nd:∀v,(r v).Nodup
 lt:∀v w,w∈r v->v<n
 sy:∀v w,w∈r v->v∈r w
 ir:∀v,v∉r v
abbrev H8:=Nat×Nat
def dl(n:Nat)(r:Nat->II):List H8:=(rG n).flatMap fun v=>(r v).map fun w=>(v,w)
def Nv(r:Nat->II)(d:H8):H8:=(d.2,nx (r d.2) d.1)
section
variable{n:Nat}{r:Nat->II}
theorem IP(R:V7 n r){d:H8}:d∈dl n r↔d.2∈r d.1:=by grind[dl,V7.lt]
theorem iq{f:Nat->List H8}(a:∀v,(f v).Nodup)(h2:∀v,∀d∈f v,d.1=v):∀{l:II},l.Nodup->(l.flatMap f).Nodup
 |[],_=>by simp
 |v::l,h=>by grind
theorem J8(R:V7 n r):(dl n r).Nodup:=by
 refine iq (fun v=>?_) (fun v d hd=>?_) AQ
 .rw[Gw,vY];exact(Gw.1 (R.nd v)).imp hGr
 grind
theorem aaG(R:V7 n r):Pm (dl n r) (Nv r):=by
 refine⟨J8 R,fun d hd=>?_,fun d hd e a h=>?_⟩
 .rw[IP R]at hd ⊢;exact ZP (R.sy _ _ hd)
 .rw[IP R]at hd a;obtain⟨v,w⟩:=d;obtain⟨x,y⟩:=e;simp only[Nv,si]at h;obtain⟨rfl,h⟩:=h;have:v=x:=C9 (R.nd w) (R.sy _ _ hd) (R.sy _ _ a) h;rw[this]
def del(r:Nat->II)(v w:Nat):Nat->II:=fun x=>if x=v then(r v).erase w else if x=w then(r w).erase v else r x
theorem OE(r:Nat->II)(v w:Nat):del r v w v=(r v).erase w:=by simp[del]
theorem u9{v w:Nat}(r:Nat->II)(h:v≠w):del r v w w=(r w).erase v:=by grind[del]
theorem ab1{v w x:Nat}(r:Nat->II)(a:x≠v)(h2:x≠w):del r v w x=r x:=by grind[del]
theorem JF(R:V7 n r){v w:Nat}(a:v≠w){x y:Nat}:y∈del r v w x↔y∈r x/\¬(x=v/\y=w)/\¬(x=w/\y=v):=by
 by_cases b:x=v
 .subst b;rw[OE,(R.nd x).mem_erase_iff];grind
 .by_cases h2:x=w
  .subst h2;rw[u9 r a,(R.nd x).mem_erase_iff];grind
  grind[ab1]
theorem afL(R:V7 n r){v w:Nat}(a:v≠w):V7 n (del r v w):=by
 refine⟨fun x=>?_,fun x y h=>R.lt x y (by grind[JF]),fun x y h=>?_,(by grind[V7.ir,JF])⟩
 .unfold del;split
  .exact(R.nd v).erase _
  .split
   .exact(R.nd w).erase _
   .exact R.nd x
 grind[JF,V7.sy]
theorem yR{α:Type}{A B:List α}(a:A.Nodup)(nb:B.Nodup)(h:∀x,x∈A↔x∈B):A.Perm B:=by
 induction A generalizing B<;>grind
theorem yH(R:V7 n r){v w:Nat}(h:w∈r v):(dl n r).Perm ((v,w)::(w,v)::dl n (del r v w)):=by
 have a:v≠w:=by grind[V7.ir]
 have R':=afL R a;grind[J8,IP,JF,V7.sy]
theorem Qv{α:Type}(f:α->α)(d x:α):UR f d x=if f x=d then f d else f x:=rfl
theorem phi_del(R:V7 n r){v w:Nat}(h:w∈r v){d:H8}(hd:d∈dl n (del r v w)):Nv (del r v w) d=UR (UR (swp (Nv r) (v,w) (w,v)) (v,w)) (w,v) d:=by
 have c:v≠w:=by grind[V7.ir]
 have R':=afL R c;obtain⟨a,b⟩:=d;rw[IP R',JF R c]at hd;obtain⟨f,n1,l⟩:=hd;have s0:swp (Nv r) (v,w) (w,v) (a,b)=Nv r (a,b):=Q3 hGr hGr;have e:=R.sy _ _ f;by_cases j:b=v
 .subst j;have g:a≠w:=hGr
  have k:Nv (del r b w) (a,b)=(b,if nx (r b) a=w then nx (r b) w else nx (r b) a):=by simp only[Nv];rw[OE,Hn (R.nd b) h e g]
  grind[Nv,C5,Qv]
 .by_cases h2:b=w
  .subst h2;have i:a≠v:=hGr
   have k:Nv (del r v b) (a,b)=(b,if nx (r b) a=v then nx (r b) v else nx (r b) a):=by simp only[Nv];rw[u9 r c,Hn (R.nd b) (R.sy _ _ h) e i]
   grind[Nv,dX,Qv]
  grind[Nv,Qv,ab1]
noncomputable def mj(n:Nat)(r:Nat->II):Nat:=cls (WD (Nv r)) (dl n r)+((rG n).filter fun v=>decide (r v=[])).length
theorem ER{α:Type}{f g:α->α}{X:List α}(p:Pm X f)(h:∀x∈X,f x=g x):∀x∈X,∀y∈X,WD f x y↔WD g x y:=by
 intro x b y _;have e:∀k,it g k x=it f k x:=by grind[Nr,Pm.uN]
 exact⟨fun⟨k,a⟩=>⟨k,hGr⟩,fun⟨k,a⟩=>⟨k,hGr⟩⟩
theorem iso_del(R:V7 n r){v w:Nat}(h:w∈r v):((rG n).filter fun x=>decide (del r v w x=[])).length=((rG n).filter fun x=>decide (r x=[])).length+(if r v=[w]then 1 else 0)+if r w=[v]then 1 else 0:=by
 have c:v≠w:=by grind[V7.ir]
 have hw:=R.sy _ _ h
 have key:∀l:II,l.Nodup->(l.filter fun x=>decide (del r v w x=[])).length=(l.filter fun x=>decide (r x=[])).length+(if v∈l/\r v=[w]then 1 else 0)+if w∈l/\r w=[v]then 1 else 0:=by
  intro l
  induction l with
  |nil=>simp
  |cons x l d=>
   intro nd;rw[jz]at nd;have e:∀{a b:Nat},b∈r a->((r a).erase b=[]↔r a=[b]):=fun{a b} hb=>by grind[List.length_erase_of_mem,List.length_eq_one_iff,List.mem_singleton]
   by_cases f:x=v
   .grind[OE]
   .by_cases h2:x=w
    .grind[u9]
    grind[ab1]
 grind[V7.lt]
theorem aed(R:V7 n r){v w:Nat}(h:w∈r v):(WD (Nv r) (v,w) (w,v)->mj n (del r v w)=mj n r+1)/\(¬WD (Nv r) (v,w) (w,v)->mj n (del r v w)+1=mj n r):=by
 have b:v≠w:=by grind[V7.ir]
 have hw:=R.sy _ _ h;have R':=afL R b;have p:=aaG R;have hd:(v,w)∈dl n r:=(IP R).2 h;have a:(w,v)∈dl n r:=(IP R).2 hw;have c:((v,w):H8)≠(w,v):=fun e=>by grind
 obtain⟨s1,s2⟩:=WC p hd a c;have q:=p.swp hd a;have d:=yH R h;have k1:=iQ q d;have f:=skp_pm q d;have k2:=iQ f (.refl _);have c1:cls (WD (Nv (del r v w))) (dl n (del r v w))=cls (WD (UR (UR (swp (Nv r) (v,w) (w,v)) (v,w)) (w,v))) (dl n (del r v w)):=IZ (ER (aaG R') fun x g=>phi_del R h g);have i:(swp (Nv r) (v,w) (w,v) (v,w)=(v,w))↔r v=[w]:=by rw[C5];simp only[Nv,si,true_and];exact Bk (R.nd v) h
 have j:(UR (swp (Nv r) (v,w) (w,v)) (v,w) (w,v)=(w,v))↔r w=[v]:=by
  have:UR (swp (Nv r) (v,w) (w,v)) (v,w) (w,v)=Nv r (v,w):=by grind[UR,dX,Nv]
  rw[this];simp only[Nv,si,true_and];exact Bk (R.nd w) hw
 grind[iso_del,mj]
inductive Cr (r:Nat->II):Nat->Nat->Prop
 |refl (a:Nat):Cr r a a
 |step {a b c:Nat}:Cr r a b->c∈r b->Cr r a c
theorem Cr.trans{a b c:Nat}(h:Cr r a b)(g:Cr r b c):Cr r a c:=by
 induction g with
 |refl=>exact h
 |step _ e d=>exact .step d e
theorem Cr.one{a b:Nat}(h:b∈r a):Cr r a b:=.step (.refl a) h
theorem Cr.symm(R:V7 n r){a b:Nat}(h:Cr r a b):Cr r b a:=by
 induction h with
 |refl=>exact .refl _
 |step _ e c=>exact(Cr.one (R.sy _ _ e)).trans c
theorem Cr.eqv(R:V7 n r)(X:II):Eqv X (Cr r):=⟨fun x _=>.refl x,(by grind[Cr.symm]),(by grind[Cr.trans])⟩
theorem Cr.mono{d:Nat->II}(h:∀v w,w∈r v->w∈d v){a b:Nat}(c:Cr r a b):Cr d a b:=by
 induction c with
 |refl=>exact .refl _
 |step _ e f=>exact .step f (h _ _ e)
noncomputable def iJ(n:Nat)(r:Nat->II):Nat:=cls (Cr r) (rG n)
theorem cr_del(R:V7 n r){v w:Nat}(h:w∈r v){a b:Nat}:Cr r a b↔Cr (del r v w) a b\/(Cr (del r v w) a v/\Cr (del r v w) w b)\/(Cr (del r v w) a w/\Cr (del r v w) v b):=by
 have g:v≠w:=by grind[V7.ir]
 have sub:∀x y,y∈del r v w x->y∈r x:=by grind[JF]
 constructor
 .intro c
  induction c with
  |refl=>exact .inl (.refl _)
  |@step b c _ e f=>
   by_cases k:b=v/\c=w
   .obtain⟨rfl,rfl⟩:=k;rcases f with i|⟨i,_⟩|⟨i,_⟩
    .exact .inr (.inl ⟨i,.refl _⟩)
    .exact .inr (.inl ⟨i,.refl _⟩)
    grind
   .by_cases h2:b=w/\c=v
    .obtain⟨rfl,rfl⟩:=h2;rcases f with i|⟨i,_⟩|⟨i,_⟩
     .exact .inr (.inr ⟨i,.refl _⟩)
     .exact .inl i
     .exact .inr (.inr ⟨i,.refl _⟩)
    .have e':c∈del r v w b:=by grind[JF]
     rcases f with i|⟨i,j⟩|⟨i,j⟩
     .exact .inl (.step i e')
     .exact .inr (.inl ⟨i,.step j e'⟩)
     .exact .inr (.inr ⟨i,.step j e'⟩)
 .rintro(c|⟨c,d⟩|⟨c,d⟩)
  .grind[Cr.mono]
  .exact((c.mono sub).trans (.one h)).trans (d.mono sub)
  .exact((c.mono sub).trans (.one (R.sy _ _ h))).trans (d.mono sub)
theorem ac3(R:V7 n r){v w:Nat}(h:w∈r v):(Cr (del r v w) v w->iJ n (del r v w)=iJ n r)/\(¬Cr (del r v w) v w->iJ n (del r v w)=iJ n r+1):=by
 have d:v≠w:=by grind[V7.ir]
 have R':=afL R d;constructor
 .intro c;refine IZ fun a _ b _=>?_;grind[cr_del,Cr.trans,Cr.symm]
 .intro c;exact GQ (Cr.eqv R' _) (by grind[V7.lt]) (K4.2 (R.lt _ _ (R.sy _ _ h))) c (by grind[cr_del])
theorem jh(R:V7 n r){v w:Nat}(h:w∈r v)(hb:¬Cr (del r v w) v w):WD (Nv r) (v,w) (w,v):=by
 have a:v≠w:=by grind[V7.ir]
 have R':=afL R a;have p:=aaG R;have hd:(v,w)∈dl n r:=(IP R).2 h;refine Hs fun b=>hb ?_;have key:∀j,0<j->Cr (del r v w) w (it (Nv r) j (v,w)).1\/∃i,0<i/\i<j/\it (Nv r) i (v,w)=(v,w):=by
  intro j
  induction j with
  |zero=>grind
  |succ j f=>
   intro _;by_cases g:j=0
   .subst g;exact .inl (.refl _)
   rcases f NH with c|⟨i,o,q,e⟩
   .by_cases l:it (Nv r) j (v,w)=(v,w)
    .grind
    have m:it (Nv r) j (v,w)≠(w,v):=fun e=>b ⟨j,e⟩;have d:=p.uN hd j;rw[IP R]at d;refine .inl (c.step ?_);exact(JF R a).2 ⟨d,fun e=>l (ahJ e.1 e.2),fun e=>m (ahJ e.1 e.2)⟩
   grind
 obtain⟨k,⟨k0,s⟩,t⟩:=On (p:=fun k=>0<k/\it (Nv r) k (v,w)=(v,w)) (p.period hd);grind[Cr.symm]
theorem qe(R:V7 n r)(h:dl n r=[])(v:Nat):r v=[]:=by
 cases e:r v with
 |nil=>rfl
 |cons w l=>
  have:(v,w)∈dl n r:=by grind[IP]
  grind
theorem aE:∀(m:Nat)(r:Nat->II),V7 n r->(dl n r).length=2*m->∃g,n+mj n r+2*g=m+2*iJ n r
 |0,r,R,h=>by
  have i:=qL126.1 h;have q:=qe R i;refine⟨0,?_⟩;have s:mj n r=n:=by grind[mj,List.filter_eq_self,cls]
  have t:iJ n r=n:=by
   unfold iJ;have:∀a b,Cr r a b↔a=b:=fun a b=>by
    constructor
    .intro c
     induction c<;>grind
    .rintro rfl;exact .refl _
   have key:∀l:II,l.Nodup->cls (Cr r) l=l.length:=by
    intro l
    induction l<;>grind[cls.eq_1,cls.eq_2]
   grind
  omega
 |m+1,r,R,h=>by
  obtain⟨d,l,e⟩:∃d l,dl n r=d::l:=by
   cases hh:dl n r<;>grind
  obtain⟨v,w⟩:=d;have hw:w∈r v:=(IP (d:=(v,w)) R).1 hGr;have f:v≠w:=by grind[V7.ir]
  have j:=(yH R hw).length_eq;simp only[ah6]at j;obtain⟨g,hg⟩:=aE m (del r v w) (afL R f) NH;obtain⟨k,u⟩:=aed R hw;obtain⟨c1,c2⟩:=ac3 R hw;by_cases o:WD (Nv r) (v,w) (w,v)
  .have:=k o;by_cases p:Cr (del r v w) v w
   .have:=c1 p;exact⟨g+1,NH⟩
   grind
  grind[jh]
end
section
variable{α:Type}
noncomputable def two(P:α->Prop)(f g:α->α)(x:α):α:=if P x then f x else g x
theorem Ae{R:α->α->Prop}{Y:List α}:∀X:List α,(∀x∈X,∀y∈Y,¬R x y)->cls R (X++Y)=cls R X+cls R Y
 |[],_=>by simp[cls]
 |x::X,h=>by rw[adz,cls,cls,Ae X (by grind[List.mem_cons_of_mem])];have:(∃y∈X++Y,R x y)↔∃y∈X,R x y:=hGr;simp only[this];omega
structure Oi (D A B:List α) (P:α->Prop) (f g:α->α):Prop where
 perm:D.Perm (A++B)
 pa:∀x∈A,P x
 pb:∀x∈B,¬P x
 fa:Pm A f
 gb:Pm B g
variable{D A B:List α}{P:α->Prop}{f g:α->α}
def Oi.inA(p:Oi D A B P f g){x:α}(a:x∈A):two P f g x=f x:=IE (p.pa x a)
def Oi.inB(p:Oi D A B P f g){x:α}(a:x∈B):two P f g x=g x:=yM (p.pb x a)
theorem Oi.mem(p:Oi D A B P f g){x:α}:x∈D↔x∈A\/x∈B:=by rw[p.perm.mem_iff,aax]
theorem Oi.itA(p:Oi D A B P f g){x:α}(a:x∈A):∀k,it (two P f g) k x=it f k x
 |0=>rfl
 |k+1=>by show two P f g (it (two P f g) k x)=f (it f k x);rw[p.itA a k,p.inA (p.fa.uN a k)]
theorem Oi.itB(p:Oi D A B P f g){x:α}(a:x∈B):∀k,it (two P f g) k x=it g k x
 |0=>rfl
 |k+1=>by show two P f g (it (two P f g) k x)=g (it g k x);rw[p.itB a k,p.inB (p.gb.uN a k)]
theorem Oi.orbA(p:Oi D A B P f g){x:α}(a:x∈A){y:α}:WD (two P f g) x y↔WD f x y:=⟨fun⟨k,h⟩=>⟨k,by grind[Oi.itA]⟩,fun⟨k,h⟩=>⟨k,by grind[Oi.itA]⟩⟩
theorem Oi.orbB(p:Oi D A B P f g){x:α}(a:x∈B){y:α}:WD (two P f g) x y↔WD g x y:=⟨fun⟨k,h⟩=>⟨k,by grind[Oi.itB]⟩,fun⟨k,h⟩=>⟨k,by grind[Oi.itB]⟩⟩
theorem Oi.noAB(p:Oi D A B P f g){x y:α}(a:x∈A)(b:y∈B):¬WD (two P f g) x y:=fun h=>by have:=p.fa.sP a ((p.orbA a).1 h);grind[Oi.pb,Oi.pa]
theorem Oi.pm(p:Oi D A B P f g):Pm D (two P f g):=by
 refine⟨?_,fun x a=>?_,fun x a y b e=>?_⟩
 .rw[p.perm.nodup_iff,jf];exact⟨p.fa.nd,p.gb.nd,(by grind[Oi.pb,Oi.pa])⟩
 .rcases p.mem.1 a with h|h
  .rw[p.inA h];exact p.mem.2 (.inl (p.fa.mem x h))
  .rw[p.inB h];exact p.mem.2 (.inr (p.gb.mem x h))
 .rcases p.mem.1 a with h|h<;>rcases p.mem.1 b with k|k
  .rw[p.inA h,p.inA k]at e;exact p.fa.inj x h y k e
  .rw[p.inA h,p.inB k]at e;exact absurd (p.pa _ (p.fa.mem x h)) (e▸p.pb _ (p.gb.mem y k))
  .rw[p.inB h,p.inA k]at e;exact absurd (p.pa _ (p.fa.mem y k)) (e▸p.pb _ (p.gb.mem x h))
  .rw[p.inB h,p.inB k]at e;exact p.gb.inj x h y k e
theorem Oi.cls(p:Oi D A B P f g):cls (WD (two P f g)) D=cls (WD f) A+cls (WD g) B:=by rw[Yy p.perm p.pm.eqv,Ae A (by grind[Oi.noAB])];grind[IZ,Oi.orbA,Oi.orbB]
theorem Oi.join1(p:Oi D A B P f g){a b:α}(ha:a∈A)(hb:b∈B):Go.Fw.cls (WD (swp (two P f g) a b)) D+1=Go.Fw.cls (WD f) A+Go.Fw.cls (WD g) B:=by have:=(WC p.pm (p.mem.2 (.inl ha)) (p.mem.2 (.inr hb)) (by grind[Oi.pb,Oi.pa])).2 (p.noAB ha hb);rw[this,p.cls]
theorem Oi.orb2(p:Oi D A B P f g){a b a' c:α}(ha:a∈A)(hb:b∈B)(mi:a'∈A)(sZ:c∈B):WD (swp (two P f g) a b) a' c↔WD f a' a/\WD g b c:=by rw[cG p.pm (p.mem.2 (.inl ha)) (p.mem.2 (.inr hb)) (p.noAB ha hb) a' (p.mem.2 (.inl mi)) c (p.mem.2 (.inr sZ)),<-p.orbA mi (y:=a),<-p.orbB hb (y:=c)];grind[Oi.noAB]
theorem Oi.join2(p:Oi D A B P f g){a b a' c:α}(ha:a∈A)(hb:b∈B)(mi:a'∈A)(sZ:c∈B):
  ((WD f a' a/\WD g b c)->Go.Fw.cls (WD (swp (swp (two P f g) a b) a' c)) D=Go.Fw.cls (WD f) A+Go.Fw.cls (WD g) B)/\
   (¬(WD f a' a/\WD g b c)->Go.Fw.cls (WD (swp (swp (two P f g) a b) a' c)) D+2=Go.Fw.cls (WD f) A+Go.Fw.cls (WD g) B):=by
 have d:=p.join1 ha hb;have q:=p.pm.swp (p.mem.2 (.inl ha)) (p.mem.2 (.inr hb));obtain⟨h2,h3⟩:=WC q (p.mem.2 (.inl mi)) (p.mem.2 (.inr sZ)) (by grind[Oi.pb,Oi.pa]);grind[Oi.orb2]
end
variable{n:Nat}{r:Nat->II}
def Flat(n:Nat)(r:Nat->II):Prop:=2*(n+mj n r)=(dl n r).length+4*iJ n r
theorem dl_even:∀(m:Nat)(r:Nat->II),V7 n r->(dl n r).length=m->m%2=0:=by
 intro m
 induction m using Nat.strongRecOn with
 |_ m b=>
  intro r R h;cases hh:dl n r with
  |nil=>grind
  |cons d l=>
   obtain⟨v,w⟩:=d;have hw:w∈r v:=(IP (d:=(v,w)) R).1 hGr;have a:v≠w:=by grind[V7.ir]
   grind[yH,List.Perm.length_eq,List.length_cons,afL]
def genus(R:V7 n r):∃g,2*(n+mj n r)+4*g=(dl n r).length+4*iJ n r:=by have a:=dl_even _ r R rfl;obtain⟨g,hg⟩:=aE ((dl n r).length / 2) r R NH;exact⟨g,NH⟩
theorem Lq(R:V7 n r){v w:Nat}(h:w∈r v)(hf:Flat n r):Flat n (del r v w)/\(WD (Nv r) (v,w) (w,v)↔¬Cr (del r v w) v w):=by
 have a:v≠w:=by grind[V7.ir]
 have R':=afL R a;have b:=(yH R h).length_eq;obtain⟨c,d⟩:=aed R h;obtain⟨c1,c2⟩:=ac3 R h;obtain⟨g,hg⟩:=genus R';have hb:=jh R h;unfold Flat at*;by_cases e:WD (Nv r) (v,w) (w,v)
 .by_cases f:Cr (del r v w) v w
  all_goals grind
 grind
theorem abG(R:V7 n r){v w:Nat}(h:w∈r v)(hf:Flat n (del r v w))(hh:WD (Nv r) (v,w) (w,v)↔¬Cr (del r v w) v w):Flat n r:=by have a:=(yH R h).length_eq;grind[aed,ac3,Flat]
noncomputable def Om(P:Nat->Nat->Prop)(r:Nat->II):Nat->II:=fun v=>(r v).filter fun w=>decide (P v w)
theorem EM{P:Nat->Nat->Prop}{v w:Nat}:w∈Om P r v↔w∈r v/\P v w:=by simp[Om]
theorem OG(R:V7 n r){P:Nat->Nat->Prop}(a:∀v w,P v w->P w v):V7 n (Om P r):=⟨fun v=>(R.nd v).sublist N8,fun v w h=>R.lt v w (EM.1 h).1,(by grind[EM,V7.sy]),(by grind[V7.ir,EM])⟩
theorem cS{P:Nat->Nat->Prop}(h:∀v w,w∈r v->P v w):Om P r=r:=by grind[Om.eq_1,List.filter_eq_self]
theorem zH(R:V7 n r){P:Nat->Nat->Prop}{v w:Nat}(a:v≠w)(b:¬P v w)(h2:¬P w v):Om P (del r v w)=Om P r:=by
 funext x;unfold Om del;split
 .rename_i e;subst e;rw[(R.nd x).erase_eq_filter,NC];grind
 .split
  .rename_i c e;subst e;rw[(R.nd x).erase_eq_filter,NC];grind
  .rfl
theorem j7:∀(m:Nat)(r:Nat->II),V7 n r->(dl n r).length=m->Flat n r->∀{P:Nat->Nat->Prop},(∀v w,P v w->P w v)->Flat n (Om P r):=by
 intro m
 induction m using Nat.strongRecOn with
 |_ m d=>
  intro r R e hf P f;by_cases b:∀v w,w∈r v->P v w
  .grind[cS]
  obtain⟨v,w,hw,c⟩:∃v w,w∈r v/\¬P v w:=hGr;have a:v≠w:=by grind[V7.ir]
  have g:=(yH R hw).length_eq;rw[<-zH R a c hGr];grind[afL,Lq]
theorem Flat.keep(R:V7 n r)(hf:Flat n r){P:Nat->Nat->Prop}(a:∀v w,P v w->P w v):Flat n (Om P r):=j7 _ r R rfl hf a
end
section
attribute [local instance] Classical.propDecidable
section
variable{α:Type}{X:List α}{f:α->α}
noncomputable def bt(f:α->α)(x:α):Nat:=if h:∃k,0<k/\it f k x=x then Classical.choose (On h)else 0
theorem aaM(p:Pm X f){x:α}(a:x∈X):0<bt f x/\it f (bt f x) x=x/\∀j,0<j->j<bt f x->it f j x≠x:=by grind[Pm.period,bt]
noncomputable def AA(f:α->α)(x:α):List α:=(rG (bt f x)).map fun k=>it f k x
theorem oN(f:α->α)(x:α):(AA f x).length=bt f x:=by simp[AA]
theorem QF(p:Pm X f){x:α}(a:x∈X)(k:Nat):it f k x=it f (k%bt f x) x:=by grind[aaM,Nat.mod_add_div,Nat.mul_comm,qu,Pm.MH]
theorem vA(p:Pm X f){x:α}(a:x∈X){y:α}:y∈AA f x↔WD f x y:=by
 unfold AA;rw[Eh];constructor
 .rintro⟨k,_,rfl⟩;exact⟨k,rfl⟩
 .rintro⟨k,rfl⟩;grind[Nat.mod_lt,aaM,QF]
theorem zk(p:Pm X f){x:α}(a:x∈X){i j:Nat}(c:j<bt f x)(b:i<j):it f i x≠it f j x:=fun e=>by
 have h:it f j x=it f i (it f (j-i) x):=by rw[<-qu];grind
 rw[h]at e;have:=p.FT a (p.uN a _) i e;grind[aaM]
theorem Ri(p:Pm X f){x:α}(a:x∈X):(AA f x).Nodup:=by grind[AA,List.pairwise_iff_getElem,zk]
end
def TD(a b:H8):Prop:=a.1<b.1\/a.1=b.1/\a.2<b.2
instance (a b:H8):Decidable (TD a b):=by unfold TD;infer_instance
theorem JN(a:H8):¬TD a a:=by grind[TD]
theorem Nd{a b c:H8}(h:TD a b)(g:TD b c):TD a c:=by grind[TD]
theorem ltD_tri(a b:H8):TD a b\/a=b\/TD b a:=by grind[TD]
theorem zE{α:Type}{lt:α->α->Prop}{R:α->α->Prop}(c:∀a b,lt a b->¬lt b a):∀(k:Nat)(l:List α),l.length=k->l.Pairwise lt->cls R l.reverse=(l.filter fun x=>decide (∀y∈l,R x y->¬lt y x)).length
 |0,l,h,_=>by rw[qL126.1 h];rfl
 |k+1,l,h,d=>by
  obtain⟨l,x,rfl⟩:∃l' x,l=l'++[x]:=⟨l.dropLast,l.getLast hGr,(Zw _).symm⟩;rw[To]at d;obtain⟨e,_,h3⟩:=d;have g:=zE (R:=R) c k l (by simpa using h) e;rw[qL192,List.reverse_cons,List.reverse_nil,ah2,qL184,cls,g,Db,aaf];congr 1
  .grind[List.filter_congr]
  .by_cases q:∃y∈l.reverse,R x y
   all_goals grind
section
variable{n:Nat}{r:Nat->II}
noncomputable def ddl(n:Nat)(r:Nat->II):List H8:=(rG n).flatMap fun v=>((rG n).filter fun w=>decide (w∈r v)).map fun w=>(v,w)
theorem Ks(R:V7 n r){d:H8}:d∈ddl n r↔d.2∈r d.1:=by grind[ddl,V7.lt,V7.sy]
theorem pI(n:Nat)(r:Nat->II):(ddl n r).Pairwise TD:=by
 unfold ddl;rw[qL228];constructor
 .intro v _;rw[vY];exact((U9 (n:=n)).filter _).imp fun h=>.inr ⟨rfl,h⟩
 .refine(U9 (n:=n)).imp fun{a b} h x c y d=>?_;obtain⟨_,_,rfl⟩:=Eh.1 c;obtain⟨_,_,rfl⟩:=Eh.1 d;exact .inl h
theorem adS(n:Nat)(r:Nat->II):(ddl n r).Nodup:=by grind[pI,List.Pairwise.imp,JN]
theorem ddl_perm(R:V7 n r):(dl n r).Perm (ddl n r):=by grind[J8,adS,IP,Ks]
def Hd(r:Nat->II)(d:H8):Prop:=∀e,WD (Nv r) d e->¬TD e d
noncomputable def ahN(n:Nat)(r:Nat->II):List H8:=(ddl n r).filter fun d=>decide (Hd r d)
noncomputable def zu(r:Nat->II)(d:H8):II:=(AA (Nv r) d).map (·.1)
noncomputable def vf(n:Nat)(r:Nat->II):Cs:=(ahN n r).map (zu r)
theorem yp(R:V7 n r):(ahN n r).length=cls (WD (Nv r)) (dl n r):=by have p:=aaG R;have c:=ddl_perm R;rw[Yy (c.trans (afI _).symm) p.eqv,zE (lt:=TD) (fun a b h g=>JN a (Nd h g)) _ _ rfl (pI n r),ahN];congr 1;refine QD fun d hd=>?_;rw[fE];have e:d∈dl n r:=c.mem_iff.2 hd;exact⟨fun h y _ o=>h y o,fun h y o=>by grind[Pm.sP]⟩
theorem gQ(R:V7 n r){d:H8}:d∈ahN n r↔d.2∈r d.1/\Hd r d:=by grind[ahN.eq_1,Ks]
theorem RM(R:V7 n r){d e:H8}(hd:d∈ahN n r)(a:e∈ahN n r)(h:WD (Nv r) d e):d=e:=by rw[gQ R]at hd a;have b:=hd.2 e h;have h2:=a.2 d ((aaG R).adK ((IP R).2 hd.1) h);grind[ltD_tri]
theorem Sg(R:V7 n r){d:H8}(hd:d∈dl n r):2<=bt (Nv r) d:=by have p:=aaG R;obtain⟨b,a,_⟩:=aaM p hd;refine Hs fun c=>?_;have e:bt (Nv r) d=1:=NH;rw[e]at a;have h2:d.2=d.1:=congrArg Prod.fst a;grind[IP,V7.ir]
end
theorem afe{α:Type}{lt:α->α->Prop}(d:∀a,¬lt a a)(tr:∀a b c,lt a b->lt b c->lt a c):∀(l m:List α),l.Pairwise lt->m.Pairwise lt->(∀x,x∈l↔x∈m)->l=m
 |[],[],_,_,_=>rfl
 |[],y::m,_,_,h=>by grind[List.mem_cons_self]
 |x::l,[],_,_,h=>by grind[List.mem_cons_self]
 |x::l,y::m,f,g,h=>by
  rw[acg]at f g;have e:x=y:=by
   rcases Og.1 ((h x).1 abV)with e|e
   .exact e
   .rcases Og.1 ((h y).2 abV)with i|i
    all_goals grind
  congr 1;refine afe d tr l m f.2 g.2 fun z=>?_;grind
section
variable{n:Nat}{r:Nat->II}
theorem ordr_eq{α:Type}{X:List α}{f:α->α}(p:Pm X f){x:α}(a:x∈X){k:Nat}(b:0<k)(c:it f k x=x)(h2:∀j,j<k->0<j->it f j x≠x):bt f x=k:=by grind[aaM]
def Cert(n:Nat)(r:Nat->II)(hs:List (H8×Nat)):Prop:=(∀p∈hs,p.1.2∈r p.1.1/\0<p.2/\it (Nv r) p.2 p.1=p.1/\∀j,j<p.2->(0<j->it (Nv r) j p.1≠p.1)/\¬TD (it (Nv r) j p.1) p.1)/\(hs.map (·.1)).Pairwise TD/\∀d∈dl n r,∃p∈hs,d∈(rG p.2).map fun j=>it (Nv r) j p.1
theorem Fs(R:V7 n r){hs:List (H8×Nat)}(C:Cert n r hs):vf n r=hs.map fun p=>(rG p.2).map fun j=>(it (Nv r) j p.1).1:=by
 obtain⟨i,h2,h3⟩:=C;have p:=aaG R;have l:∀q∈hs,bt (Nv r) q.1=q.2:=fun q b=>by grind[ordr_eq,IP]
 have d:∀q∈hs,Hd r q.1:=fun q b=>by
  rintro e ⟨k,rfl⟩;grind[QF,IP,Nat.mod_lt]
 have e:ahN n r=hs.map (·.1):=by
  refine afe JN (by grind[Nd]) _ _ ((pI n r).filter _) h2 fun x=>?_;constructor
  .intro c;obtain⟨a,f⟩:=(gQ R).1 c;obtain⟨q,b,g⟩:=h3 x ((IP R).2 a);obtain⟨j,_,h⟩:=Eh.1 g;have:q.1∈ahN n r:=by grind[gQ]
   have:=RM R this c ⟨j,h⟩;grind
  grind[gQ]
 grind[vf.eq_1,List.map_congr_left,zu,AA]
end
theorem Zx{α β:Type}{R:β->β->Prop}(f:α->β):∀X:List α,cls R (X.map f)=cls (fun x y=>R (f x) (f y)) X
 |[]=>rfl
 |x::l=>by rw[Lm,cls,cls,Zx f l];have:(∃y∈l.map f,R (f x) y)↔∃y∈l,R (f x) (f y):=hGr;simp only[this]
def inv(d:H8):H8:=(d.2,d.1)
theorem inv_inv(d:H8):inv (inv d)=d:=rfl
def qI(r:Nat->II)(v:Nat):II:=(r v).reverse
section
variable{n:Nat}{r:Nat->II}
theorem ju{v w:Nat}:w∈qI r v↔w∈r v:=by simp[qI]
theorem Xn(R:V7 n r):V7 n (qI r):=⟨fun v=>Gv (R.nd v),fun v w h=>R.lt v w (ju.1 h),(by grind[ju,V7.sy]),(by grind[V7.ir,ju])⟩
theorem O4(R:V7 n r){d:H8}:inv d∈dl n r↔d∈dl n r:=by rw[IP R,IP R];exact⟨R.sy _ _,R.sy _ _⟩
theorem O5(R:V7 n r){d:H8}:d∈dl n (qI r)↔d∈dl n r:=by grind[IP,Xn,ju]
def mir_step(R:V7 n r){d:H8}(hd:d∈dl n r):Nv (qI r) (inv (Nv r d))=inv d:=by have h:=R.sy _ _ ((IP R).1 hd);show(d.2,nx (r d.2).reverse (nx (r d.2) d.1))=(d.2,d.1);rw[qb (R.nd _) h]
def mir_it(R:V7 n r){d:H8}(hd:d∈dl n r):∀k,it (Nv (qI r)) k (inv (it (Nv r) k d))=inv d
 |0=>rfl
 |k+1=>by rw[aaS];have:it (Nv r) (k+1) d=Nv r (it (Nv r) k d):=rfl;rw[this,mir_step R ((aaG R).uN hd k)];exact mir_it R hd k
theorem aeD(R:V7 n r){d e:H8}(hd:d∈dl n r)(h:WD (Nv r) d e):WD (Nv (qI r)) (inv d) (inv e):=by obtain⟨k,rfl⟩:=h;have pm:=aaG (Xn R);exact pm.adK (by grind[O5,O4,aaG,Pm.uN]) ⟨k,mir_it R hd k⟩
theorem mir_mir(r:Nat->II):qI (qI r)=r:=by grind[qI]
theorem SY(R:V7 n r){d e:H8}(hd:d∈dl n r):WD (Nv (qI r)) (inv d) (inv e)↔WD (Nv r) d e:=by refine⟨fun h=>?_,aeD R hd⟩;have:=aeD (Xn R) (by grind[O5,O4]) h;rw[mir_mir]at this;exact this
theorem jX(R:V7 n r):cls (WD (Nv (qI r))) (dl n (qI r))=cls (WD (Nv r)) (dl n r):=by
 have a:(dl n (qI r)).Perm ((dl n r).map inv):=yR (J8 (Xn R)) (by grind[J8,inv_inv]) fun d=>by
  rw[O5 R,Eh];constructor
  .intro h;exact⟨inv d,(O4 R).2 h,rfl⟩
  grind[O4]
 rw[Yy a (aaG (Xn R)).eqv,Zx];grind[IZ,SY]
theorem mir_flat(R:V7 n r):Flat n (qI r)↔Flat n r:=by
 have a:(dl n (qI r)).length=(dl n r).length:=by grind[J8,Xn,O5,List.Perm.length_eq]
 grind[qI,mj.eq_1,jX,iJ,IZ,Cr.mono,Flat.eq_1]
end
theorem Lt{l:II}(h:l≠[]):l.headD 0∈l:=by
 cases l<;>grind
theorem nx_mid{p q rest a:II}{v b:Nat}(h:v∉p):nx (p++v::(q++b::rest)) v=nx (p++v::(q++b::a)) v:=by grind[ZL]
theorem Nu{p rest:II}{v z:Nat}(h:v∉p):nx (p++v::z::rest) v=z:=by grind[ZL]
theorem vB{p:II}{x v:Nat}(h:v∉x::p):nx (x::(p++[v])) v=x:=by grind[ZL]
def pv(l:II)(y:Nat):Nat:=nx l.reverse y
theorem BJ{l:II}{y:Nat}(h:y∈l):pv l y∈l:=by have:=ZP (aj3.2 h);exact aj3.1 this
theorem aa3{l:II}(nd:l.Nodup){y:Nat}(h:y∈l):nx l (pv l y)=y:=nx_rev' nd h
theorem c7{l:II}(nd:l.Nodup){y:Nat}(h:y∈l):pv l (nx l y)=y:=qb nd h
structure FO (r:Nat->II) (F:Cs):Prop where
 nd:∀f∈F,f.Nodup
 ne:∀f∈F,f≠[]
 bz:∀f∈F,∀v∈f,nx f v∈r v
 step:∀f∈F,∀v∈f,nx (r (nx f v)) v=nx f (nx f v)
 cover:∀v w,w∈r v->∃f∈F,v∈f/\nx f v=w
 uniq:∀f∈F,∀g∈F,∀v,v∈f->v∈g->nx f v=nx g v->f=g
 nodup:F.Nodup
section
variable{n:Nat}{r:Nat->II}{F:Cs}
theorem FO.perm(O:FO r F){G:Cs}(h:F.Perm G):FO r G:=
 ⟨by grind[FO.nd],(by grind[FO.ne]),(by grind[FO.bz]),(by grind[FO.step]),
  fun v w hw=>by obtain⟨f,hf,q⟩:=O.cover v w hw;grind,(by grind[FO.uniq]),h.nodup_iff.1 O.nodup⟩
theorem FO.it(O:FO r F){f:II}(hf:f∈F){v:Nat}(a:v∈f):∀k,it (nx f) k v∈f/\it (Nv r) k (v,nx f v)=(it (nx f) k v,nx f (it (nx f) k v))
 |0=>⟨a,rfl⟩
 |k+1=>by obtain⟨b,h2⟩:=FO.it O hf a k;grind[ZP,it,Nv.eq_1,FO.step]
theorem FO.orb(O:FO r F){f:II}(hf:f∈F){v:Nat}(a:v∈f){d:H8}:WD (Nv r) (v,nx f v) d↔∃u∈f,d=(u,nx f u):=by
 constructor
 .rintro⟨k,rfl⟩;obtain⟨c,h2⟩:=O.it hf a k;grind
 .rintro⟨u,b,rfl⟩;obtain⟨k,e⟩:=JT (O.nd f hf) a b;refine⟨k,?_⟩;grind[FO.it]
theorem XT{α:Type}{R:α->α->Prop}{L:List α}(c:L.Pairwise fun a b=>¬R a b):∀rest:List α,(∀x∈rest,∃y∈L,R x y)->cls R (rest++L)=L.length
 |[],_=>by
  induction L<;>grind[cls.eq_1,cls.eq_2]
 |x::rest,h=>by
  rw[adz,cls,XT c rest (by grind[List.mem_cons_of_mem]),IE]
  all_goals grind[List.mem_cons_self]
theorem ach{α:Type}{R:α->α->Prop}{X L:List α}(E:Eqv X R)(nd:X.Nodup)(c:∀y∈L,y∈X)(d:L.Pairwise fun a b=>¬R a b)(e:∀x∈X,∃y∈L,R x y):cls R X=L.length:=by
 have nL:L.Nodup:=by grind[List.Pairwise.imp_of_mem,Eqv.refl]
 have pm:X.Perm (X.filter (fun x=>decide (x∉L))++L):=hGr;rw[Yy pm E];grind[XT]
theorem FO.cls(R:V7 n r)(O:FO r F):cls (WD (Nv r)) (dl n r)=F.length:=by
 have p:=aaG R;have e:=ach p.eqv (J8 R) (L:=F.map fun f=>(f.headD 0,nx f (f.headD 0))) (fun d hd=>?_) ?_ (fun d hd=>?_)
 .grind
 .grind[IP,FO.bz,Lt,FO.ne]
 .rw[vY];refine V3 (R:=fun a b=>a≠b) (fun{f g} hf hg c h=>c ?_) (Gw.1 O.nodup);grind[FO.orb,Lt,FO.ne,FO.uniq]
 .obtain⟨f,hf,i,e⟩:=O.cover d.1 d.2 ((IP R).1 hd);refine⟨_,Eh.2 ⟨f,hf,rfl⟩,?_⟩;grind[Lt,FO.orb]
theorem FO.pv(O:FO r F){f:II}(hf:f∈F){v:Nat}(a:v∈f):pv f v∈f/\nx f (Go.Fw.pv f v)=v/\nx (r v) (Go.Fw.pv f v)=nx f v:=by grind[BJ,aa3,FO.nd,FO.step]
theorem FO.df(R:V7 n r)(O:FO r F){f:II}(hf:f∈F){v:Nat}(a:v∈f):Go.Fw.pv f v∈r v:=by grind[FO.pv,FO.bz,V7.sy]
end
def nr(a:Nat)(inn:II)(b:Nat):II:=a::(inn++[b])
structure Lay (n:Nat) (r r':Nat->II) (a b:Nat) (inn:II):Prop where
 R:V7 n r
 R':V7 n r'
 ab:a≠b
 ra:r a≠[]
 rb:r b≠[]
 nd:inn.Nodup
 off:∀x∈inn,r x=[]
 Wn:∀x,x≠a->x≠b->x∉inn->r' x=r x
 ea:(r' a).erase ((inn++[b]).headD 0)=r a
 sa:(inn++[b]).headD 0∈r' a
 eb:(r' b).erase ((inn.reverse++[a]).headD 0)=r b
 sb:(inn.reverse++[a]).headD 0∈r' b
 mid:∀(i p x q:Nat),(nr a inn b)[i]?=Z p->(nr a inn b)[i+1]?=Z x->(nr a inn b)[i+2]?=Z q->nx (r' x) p=q/\nx (r' x) q=p/\∀y,y∈r' x↔y=p\/y=q
theorem Ec(a b:Nat)(inn:II):(nr a inn b).reverse=nr b inn.reverse a:=by simp[nr]
theorem Eo(a b:Nat)(inn:II):(nr a inn b).length=inn.length+2:=by simp[nr]
theorem agq{l:II}(h:l≠[]):l[0]?=Z (l.headD 0):=by
 cases l<;>grind
theorem yT(a b:Nat)(inn:II):(nr a inn b)[0]?=Z a/\(nr a inn b)[1]?=Z ((inn++[b]).headD 0):=by refine⟨rfl,?_⟩;show(inn++[b])[0]?=_;grind[agq]
theorem Fg(a b:Nat)(inn:II):(nr a inn b)[inn.length+1]?=Z b/\(nr a inn b)[inn.length]?=Z ((inn.reverse++[a]).headD 0):=by obtain⟨c,h2⟩:=yT b a inn.reverse;have d:=Eo a b inn;grind[Ec]
theorem Lay.swap{n:Nat}{r r':Nat->II}{a b:Nat}{inn:II}(L:Lay n r r' a b inn):Lay n r r' b a inn.reverse:=by
 refine⟨L.R,L.R',j3 L.ab,L.rb,L.ra,Gv L.nd,(by grind[Lay.off]),(by grind[Lay.Wn]),L.eb,L.sb,?_,?_,fun i p x q c h2 h3=>?_⟩
 .grind[Lay.ea]
 .grind[Lay.sa]
 .rw[<-Ec]at c h2 h3;have d:=(Ny.1 h3).1;rw[akO]at d;rw[WS NH]at c h2 h3;obtain⟨e,f,e3⟩:=L.mid ((nr a inn b).length-1-(i+2)) q x p h3 hGr hGr;grind
section
variable{n:Nat}{r r':Nat->II}{F:Cs}{a b:Nat}{inn:II}
theorem Lay.ain(L:Lay n r r' a b inn):a∉inn:=fun h=>L.ra (L.off a h)
theorem Lay.bin(L:Lay n r r' a b inn):b∉inn:=fun h=>L.rb (L.off b h)
theorem Lay.sna(L:Lay n r r' a b inn):(inn++[b]).headD 0∉r a:=by rw[<-L.ea];exact fun h=>((L.R'.nd a).not_mem_erase) h
theorem Lay.way(L:Lay n r r' a b inn):∀(i x y:Nat),(nr a inn b)[i]?=Z x->(nr a inn b)[i+1]?=Z y->WD (Nv r') (a,(inn++[b]).headD 0) (x,y)
 |0,x,y,c,h2=>by grind[yT,WD.refl]
 |i+1,x,y,c,h2=>by
  have e:=(Ny.1 c).1;have d:(nr a inn b)[i]?=Z ((nr a inn b)[i]'(by omega)):=XJ NH
  have f:=L.way i _ x d c;obtain⟨g,_,_⟩:=L.mid i _ x y d c h2;grind[Nv.eq_1,WD.trans,WD.one]
theorem Lay.thru(L:Lay n r r' a b inn):WD (Nv r') (a,(inn++[b]).headD 0) ((inn.reverse++[a]).headD 0,b):=by obtain⟨c,h2⟩:=Fg a b inn;grind[Lay.way]
theorem Lay.zI(L:Lay n r r' a b inn)(O:FO r F):∃f∈F,∃x∈f,nx f x=a/\x∈r a/\nx (r' a) x=(inn++[b]).headD 0/\nx f a=nx (r' a) ((inn++[b]).headD 0)/\∀z∈r a,z≠x->nx (r' a) z=nx (r a) z:=by
 have nd:=L.R'.nd a;have hs:=L.sa;have d:=L.ea;generalize (inn++[b]).headD 0=s at*;have j:=BJ hs;have e:=aa3 nd hs;have g:pv (r' a) s≠s:=by grind[Bk,Lay.ra]
 have c:pv (r' a) s∈r a:=hGr;obtain⟨f,hf,h,i⟩:=O.cover _ _ (L.R.sy _ _ c);grind[FO.step,Hn,C9]
theorem Lay.sub(L:Lay n r r' a b inn){v w:Nat}(h:w∈r v):w∈r' v:=by
 by_cases c1:v=a
 .subst c1;rw[<-L.ea]at h;grind
 by_cases c2:v=b
 .subst c2;rw[<-L.eb]at h;grind
 by_cases c:v∈inn
 all_goals grind[Lay.off,Lay.Wn]
theorem Lay.ndP(L:Lay n r r' a b inn):(nr a inn b).Nodup:=by grind[nr.eq_1,Lay.ain,Lay.ab,Lay.nd,Lay.bin]
theorem X6{l:II}(nd:l.Nodup){i j x:Nat}(hi:l[i]?=Z x)(c:l[j]?=Z x):i=j:=by grind[List.pairwise_iff_getElem]
def Lay.as(L:Lay n r r' a b inn):a≠(inn++[b]).headD 0:=fun e=>by have:=X6 L.ndP (yT a b inn).1 (by rw[(yT a b inn).2,<-e]);omega
theorem Lay.UQ(L:Lay n r r' a b inn){i x y:Nat}(c:(nr a inn b)[i]?=Z x)(h2:(nr a inn b)[i+1]?=Z y):y∈r' x:=by
 cases i with
 |zero=>grind[yT,Lay.sa]
 |succ i=>have d:=(Ny.1 c).1;exact((L.mid i _ x y (XJ NH) c h2).2.2 y).2 (.inr rfl)
theorem Lay.conn(L:Lay n r r' a b inn)(f:Cr r a b):Cr (del r' a ((inn++[b]).headD 0)) a ((inn++[b]).headD 0):=by
 have hs:=L.as;have g:Cr (del r' a ((inn++[b]).headD 0)) a b:=f.mono fun v w h=>by
  rw[JF L.R' hs];refine⟨L.sub h,fun e=>?_,fun e=>?_⟩
  .grind[Lay.sna]
  .rw[e.1,e.2]at h;exact L.sna (L.R.sy _ _ h)
 have h2:∀(i x:Nat),(nr a inn b)[i+1]?=Z x->Cr (del r' a ((inn++[b]).headD 0)) ((inn++[b]).headD 0) x:=fun i=>by
  induction i with
  |zero=>intro x c;have c:=c.symm.trans (yT a b inn).2;injection c with c;subst c;exact .refl _
  |succ i j=>
   intro x c;have k:=(Ny.1 c).1;have d:(nr a inn b)[i+1]?=Z ((nr a inn b)[i+1]'(by omega)):=XJ NH
   refine(j _ d).step ((JF L.R' hs).2 ⟨L.UQ d c,fun e=>?_,fun e=>?_⟩)
   all_goals grind[X6,Lay.ndP,yT]
 exact g.trans ((h2 _ _ (Fg a b inn).1).symm (afL L.R' hs))
theorem Lay.EI(L:Lay n r r' a b inn)(O:FO r F)(hf:Flat n r')(s:Cr r a b):
  ∃f∈F,a∈f/\b∈f/\nx (r' a) (pv f a)=(inn++[b]).headD 0/\nx (r' b) (pv f b)=(inn.reverse++[a]).headD 0/\nx f a=nx (r' a) ((inn++[b]).headD 0)/\nx f b=nx (r' b) ((inn.reverse++[a]).headD 0):=by
 obtain⟨fa,t,xa,v,ea,w,C,D,x⟩:=L.zI O;obtain⟨c,d,xb,i,eb,y,nb,E,z⟩:=L.swap.zI O;have o:a∈fa:=by grind[ZP]
 have e:b∈c:=by grind[ZP]
 have pa:pv fa a=xa:=by grind[c7,FO.nd]
 have pb:pv c b=xb:=by grind[c7,FO.nd]
 by_cases G:fa=c
 .grind
 .have A:¬WD (Nv r') (a,(inn++[b]).headD 0) ((inn++[b]).headD 0,a):=fun h=>(Lq L.R' L.sa hf).2.1 h (L.conn s);have g:∀u∈c,u≠xb->Nv r' (u,nx c u)=(nx c u,nx c (nx c u)):=fun u p l=>by
   have hd:=O.bz c d u p;have hs:=O.step c d u p;rw[Nv];by_cases c1:nx c u=a
   .rw[c1]at hs hd ⊢;have m:u≠xa:=by grind[FO.uniq]
    rw[x u (L.R.sy _ _ hd) m,hs]
   by_cases c2:nx c u=b
   .rw[c2]at hs hd ⊢;rw[z u (L.R.sy _ _ hd) l,hs]
   .rw[L.Wn _ c1 c2 fun h=>?_,hs];have:=L.off _ h;have h3:=L.R.sy _ _ hd;grind
  obtain⟨k,H,q⟩:=On (JT (O.nd c d) e i);have along:∀j,j<=k->it (Nv r') j (b,nx c b)=(it (nx c) j b,nx c (it (nx c) j b)):=fun j=>by
   induction j with
   |zero=>intro _;rfl
   |succ j B=>intro I;show Nv r' (it (Nv r') j (b,nx c b))=_;rw[B NH,g _ (O.it d e j).1 hGr];rfl
  have J:WD (Nv r') (b,nx c b) (xb,b):=⟨k,hGr⟩;have K:=L.thru;grind[Lay.thru,Lay.swap,List.reverse_reverse,Nv.eq_1,WD.trans,WD.one]
end
end
end Go.Fw
