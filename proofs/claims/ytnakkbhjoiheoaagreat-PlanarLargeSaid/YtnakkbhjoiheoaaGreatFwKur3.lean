/- A text. -/
import Derived.Test.YtnakkbhjoiheoaaGreatFwEmb30
set_option linter.all false
set_option maxRecDepth 99999
set_option maxHeartbeats 9999999
open Option renaming some→Z,none→Y
open List renaming range→rG
open List
namespace Go.Fw
section
attribute [local instance] Classical.propDecidable
theorem cyc2{f:II}{a b:Nat}(ha:a∈f)(hb:b∈f)(ne:a≠b):∃A B,Cyc f ((a::A)++(b::B)):=by
 have⟨c,e⟩:=Cyc.front ha;have d:b∈c:=by grind[Cyc.perm,List.Perm.mem_iff]
 grind[sC]
def akt(r:Nat->II)(x:Nat)(Q:II)(v w:Nat):Prop:=w∈r v\/(v=x/\w∈Q)\/(w=x/\v∈Q)
theorem ai6{a b x y:Nat}:Ay a [] b x y↔(x=a/\y=b)\/(x=b/\y=a):=by
 have key:∀x y,Vj (nr a [] b) x y↔x=a/\y=b:=fun x y=>by
  constructor
  .rintro⟨i,c,h2⟩;grind[nr]
  .rintro⟨rfl,rfl⟩;exact⟨0,rfl,rfl⟩
 grind[Ay]
theorem agz{a b m x y:Nat}:Ay a [m] b x y↔(x=a/\y=m)\/(x=m/\y=b)\/(x=m/\y=a)\/(x=b/\y=m):=by
 have key:∀x y,Vj (nr a [m] b) x y↔(x=a/\y=m)\/(x=m/\y=b):=fun x y=>by
  constructor
  .rintro⟨i,c,h2⟩
   match i with
   |0=>grind[nr]
   |1=>grind[nr]
   |i+2=>grind[nr]
  .rintro(⟨rfl,rfl⟩|⟨rfl,rfl⟩)
   .exact⟨0,rfl,rfl⟩
   .exact⟨1,rfl,rfl⟩
 grind[Ay]
theorem adD{a b v:Nat}{A inn:II}:v∈half a A b inn↔v=a\/v∈A\/v=b\/v∈inn:=by simp[half]
section
variable{n:Nat}
theorem ahp{r:Nat->II}{a h2:II}{b:Cs}{f:II}(G:abK n r (a::h2::b.erase f))(nd:b.Nodup):h2≠a/\∀g∈b,g≠f->g∈a::h2::b.erase f/\g≠a/\g≠h2:=by have:=G.O.nodup;grind
theorem fan:∀(k:Nat)(Q:II),Q.length=k->∀{r:Nat->II}{F:Cs}{f:II}{x:Nat},abK n r F->f∈F->x∈f->Q.Nodup->(∀q∈Q,q∈f/\q≠x/\q∉r x)->
  ∃l m,abK n l m/\(∀v w,w∈l v↔akt r x Q v w)/\∀g∈F,g≠f->g∈m:=by
 intro k
 induction k using Nat.strongRecOn with
 |_ k o=>
  intro Q z r F f x G hf p nd hQ;cases Q with
  |nil=>grind[akt]
  |cons q a=>
   have⟨s,t,D⟩:=hQ q Ma;have⟨A,B,cy⟩:=cyc2 p s (ff t);have C:UN n r f x q []:=⟨ff t,p,s,qL254,fun _ h=>absurd h Ma,fun _ h=>absurd h Ma,fun _=>D⟩;have⟨u,m1⟩:=G.lay hf C cy;have⟨d,qi⟩:=ahp u G.O.nodup;have⟨N,b⟩:=xD.1 nd;have l1:(a.filter fun v=>decide (v∈A)).length<=a.length:=KG _ _;have l2:(a.filter fun v=>decide (v∉A)).length<=a.length:=KG _ _;have P:a.length+1=k:=z;have⟨r2,R,E,m2,H⟩:=o (a.filter fun v=>decide (v∈A)).length NH _ rfl (x:=x) u (f:=half x A q []) Ma (adD.2 (.inl rfl)) (b.filter _) (fun v e=>by have⟨i,c⟩:=iy.1 e;have c:v∈A:=hGr;obtain⟨-,j,y⟩:=hQ v (by simp[i]);refine⟨adD.2 (.inr (.inl c)),j,fun h=>?_⟩;grind[ai6]);have⟨I,J,K,m3,S⟩:=o (a.filter fun v=>decide (v∉A)).length NH _ rfl (x:=x) E (f:=half q B x [].reverse) (H _ Ma d) (adD.2 (.inr (.inr (.inl rfl)))) (b.filter fun v=>decide (v∉A)) (fun v e=>by
    have⟨i,c⟩:=iy.1 e;have c:v∉A:=hGr;have⟨L,j,y⟩:=hQ v (by simp[i]);have:=cy.perm.mem_iff.1 L;refine⟨adD.2 hGr,j,fun h=>?_⟩;rcases(m2 _ _).1 h with h|⟨-,h⟩|⟨-,h⟩
    .rcases(m1 _ _).1 h with h|h
     .exact y h
     grind[ai6]
    .grind
    grind)
   refine⟨I,J,K,fun v w=>?_,fun g hg M=>?_⟩
   .rw[m3];unfold akt;rw[m2];unfold akt;rw[m1,ai6];simp only[iy,Sb,Hs];grind
   grind
theorem lay_two{r:Nat->II}{F:Cs}{f A B X Y:II}{x y s t:Nat}(G:abK n r F)(hf:f∈F)(cy:Cyc f ((s::A)++(t::B)))(xn:x<n)(yn:y<n)(xy:x≠y)(x0:r x=[])(y0:r y=[])(T:∀q∈X,q=s\/q∈A\/q=t)(sX:s∈X)(tX:t∈X)(U:∀q∈Y,q=t\/q∈B\/q=s)(V:Y≠[])(nX:X.Nodup)(M:Y.Nodup):
  aae n fun v w=>(w∈r v\/(v=x/\w∈X)\/(w=x/\v∈X))\/((v=y/\w∈Y)\/(w=y/\v∈Y))\/(v=x/\w=y)\/(v=y/\w=x):=by
 have p:f.Nodup:=G.O.nd f hf;have nd:=cy.perm.nodup_iff.1 p;have inf:∀v,v∈f↔v=s\/v∈A\/v=t\/v∈B:=fun v=>by rw[cy.perm.mem_iff];simp
 have g:∀v∈f,r v≠[]:=fun v b e=>by have:=G.O.bz f hf v b;grind
 have xf:x∉f:=fun h=>g x h x0;have yf:y∉f:=fun h=>g y h y0;have u:s≠t:=fun e=>by grind
 have C:UN n r f s t [x]:=⟨u,(inf s).2 (.inl rfl),(inf t).2 (.inr (.inr (.inl rfl))),Ma,fun v b=>by grind,fun v b=>by grind,fun h=>by simp at h⟩;have⟨N,m1⟩:=G.lay hf C cy;obtain⟨z,-⟩:=ahp N G.O.nodup;have W:∀w,w∉EO r f s t [x] y:=fun w h=>by grind[agz]
 have D:x∉A/\x∉B/\x≠s/\x≠t/\y∉A/\y∉B/\y≠s/\y≠t:=hGr;have⟨r2,F2,P,m2,o2⟩:=fan _ (X.filter fun v=>decide (v∈A)) rfl (x:=x) N (f:=half s A t [x]) Ma (adD.2 (.inr (.inr (.inr Ma)))) (nX.filter _) (fun v b=>by have⟨o,i⟩:=iy.1 b;have i:v∈A:=hGr;refine⟨adD.2 (.inr (.inl i)),fun e=>D.1 (e▸i),fun h=>?_⟩;grind[agz]);have E:half t B s [x].reverse∈F2:=o2 _ Ma z;have H:∀w,w∉r2 y:=fun w h=>by
  rcases(m2 _ _).1 h with h|⟨e,-⟩|⟨-,e⟩
  all_goals grind
 have⟨a,c⟩:=akp _ V;have Q:=U a c;have j:x≠a:=fun e=>by grind
 have xh:x∈half t B s [x].reverse:=adD.2 (.inr (.inr (.inr Ma)));have I:∀q∈Y,q∈half t B s [x].reverse:=fun q hq=>adD.2 hGr;have⟨d,B',k⟩:=cyc2 xh (I a c) j;have C':UN n r2 (half t B s [x].reverse) x a [y]:=⟨j,xh,I a c,Ma,fun v b=>by rw[Gw.1 b];exact jz.2 H,fun v b=>by grind,fun h=>by simp at h⟩;have⟨R,m3⟩:=P.lay E C' k;obtain⟨J,-⟩:=ahp R P.O.nodup;have yq:∀q∈Y,q≠y/\q≠x:=fun q hq=>by grind
 have K:∀w,w∈EO r2 (half t B s [x].reverse) x a [y] y↔w=x\/w=a:=fun w=>by grind[agz]
 have⟨r4,F4,G4,m4,o4⟩:=fan _ ((Y.filter fun v=>decide (v≠a)).filter fun v=>decide (v∈d)) rfl (x:=y) R (f:=half x d a [y]) Ma (adD.2 (.inr (.inr (.inr Ma)))) ((M.filter _).filter _) (fun v b=>by grind[adD]);have aa:∀w,w∈r4 y↔w=x\/w=a\/((w∈Y/\w≠a)/\w∈d):=fun w=>by rw[m4];unfold akt;rw[K];simp only[iy,Hs];have:y∉Y:=fun h=>(yq y h).1 rfl;grind
 obtain⟨r5,F5,S,m5,-⟩:=fan _ ((Y.filter fun v=>decide (v≠a)).filter fun v=>decide (v∉d)) rfl (x:=y) G4 (f:=half a B' x [y].reverse) (o4 _ Ma J) (adD.2 (.inr (.inr (.inr Ma)))) ((M.filter _).filter _) (fun v b=>by have⟨o,i⟩:=iy.1 b;have⟨o,v3⟩:=iy.1 o;have i:v∉d:=hGr;have v3:v≠a:=hGr;have L:=I v o;rw[k.perm.mem_iff]at L;grind[adD]);refine⟨r5,S.Rl,S.flat,fun v w=>?_⟩;rw[m5];unfold akt;rw[m4];unfold akt;rw[m3,agz,m2];unfold akt;rw[m1,agz];simp only[iy,Hs];have l:∀q,q∈X↔(q∈X/\q∈A)\/q=s\/q=t:=fun q=>by have:=T q;grind
 have m:∀q,q∈Y↔((q∈Y/\q≠a)/\q∈d)\/((q∈Y/\q≠a)/\q∉d)\/q=a:=fun q=>by grind
 rw[l w,l v,m w,m v];grind
end
variable {X Y:Nat->Prop} {f l:II} {y:Nat}
theorem ahw{X:Nat->Prop}:∀{l:II},(∃q∈l,X q)->∃l1 s l2,l=l1++s::l2/\X s/\∀q∈l1,¬X q
 |[],h=>by grind
 |a::l,h=>by
  by_cases c:X a
  .exact⟨[],a,l,rfl,c,Ma⟩
  .obtain⟨l1,s,l2,rfl,d,h2⟩:=ahw (l:=l) (by
    have⟨q,b,k⟩:=h;rcases Sb.1 b with rfl|b
    .exact absurd k c
    .exact⟨q,b,k⟩)
   grind
theorem last_at(h:∃q∈l,X q):∃l1 s l2,l=l1++s::l2/\X s/\∀q∈l2,¬X q:=by have⟨l1,s,l2,e,a,h2⟩:=ahw (l:=l.reverse) (X:=X) (by simpa using h);refine⟨l2.reverse,s,l1.reverse,?_,a,fun q b=>h2 q hGr⟩;grind
theorem ama(h:∃p q,p∈l/\q∈l/\p≠q/\X p/\X q):∃l1 s m t l2,l=l1++s::(m++t::l2)/\X s/\X t/\(∀q∈l1,¬X q)/\∀q∈l2,¬X q:=by have⟨p,q,a,c,ne,b,d⟩:=h;obtain⟨l1,s,l',rfl,e,h2⟩:=ahw ⟨p,a,b⟩;have:∃z∈l',X z:=hGr;obtain⟨m,t,l2,rfl,f,g⟩:=last_at this;grind
def akD(f:II)(X Y:Nat->Prop):Prop:=∃s t A B,Cyc f ((s::A)++(t::B))/\X s/\X t/\(∀q∈f,X q->q=s\/q∈A\/q=t)/\∀q∈f,Y q->q=t\/q∈B\/q=s
def ag9(f:II)(X Y:Nat->Prop):Prop:=∃a e b g c h d i,Cyc f ((a::e)++((b::g)++((c::h)++(d::i))))/\X a/\Y b/\X c/\Y d
def ThreeR(f:II)(X Y:Nat->Prop):Prop:=∃a d b e c g,Cyc f ((a::d)++((b::e)++(c::g)))/\(∀q∈f,(X q↔Y q)/\(X q↔q=a\/q=b\/q=c))
theorem ag9.aly(h:ag9 f Y X):ag9 f X Y:=by have⟨a,e,b,g,c,i,d,j,cy,k,h2,h3,l⟩:=h;refine⟨b,g,c,i,d,j,a,e,?_,h2,h3,l,k⟩;grind[Cyc.shift]
theorem alb(h2:∃p q,p∈f/\q∈f/\p≠q/\X p/\X q)(a:y∈f)(b:Y y)(g:¬X y):akD f X Y\/ag9 f X Y:=by
 have⟨l,cy⟩:=Cyc.front a;have h:∀q,q∈f↔q=y\/q∈l:=fun q=>by rw[cy.perm.mem_iff];simp
 obtain⟨l1,s,m,t,l2,rfl,xs,xt,n1,i⟩:=ama (l:=l) (X:=X) (by grind);by_cases c:∃z∈m,Y z
 .obtain⟨z,d,yz⟩:=c;obtain⟨m1,m2,rfl,-⟩:=sC d;right;refine ag9.aly ⟨y,l1,s,m1,z,m2,t,l2,?_,b,xs,yz,xt⟩;grind
 .left;refine⟨s,t,m,l2++y::l1,?_,xs,xt,fun q e j=>?_,fun q e k=>?_⟩
  all_goals grind[Cyc.shift]
theorem alz(i:∃p q,p∈f/\q∈f/\p≠q/\X p/\X q)(n:∃p q,p∈f/\q∈f/\p≠q/\Y p/\Y q):akD f X Y\/akD f Y X\/ag9 f X Y\/ThreeR f X Y:=by
 by_cases c1:∃y∈f,Y y/\¬X y
 .grind[alb]
 by_cases c2:∃x∈f,X x/\¬Y x
 .grind[alb,ag9.aly]
 have same:∀q∈f,X q↔Y q:=fun q a=>⟨fun x=>j9 fun h=>c2 ⟨q,a,x,h⟩,fun x=>j9 fun h=>c1 ⟨q,a,x,h⟩⟩;obtain⟨l1,s,m,t,l2,rfl,xs,xt,n1,o⟩:=ama i;have c:∀b,b=m->Cyc (l1++s::(m++t::l2)) ((s::b)++(t::(l2++l1))):=fun b e=>by grind[Cyc.shift,Cyc.refl]
 have g:∀{q},q∈l1++s::(m++t::l2)->X q->Y q:=fun h x=>(same _ h).1 x;by_cases j:∃p∈m,X p
 rotate_left
 .left;refine⟨s,t,m,l2++l1,c m rfl,xs,xt,fun q a d=>?_,fun q a r=>?_⟩
  all_goals grind
 obtain⟨m1,p,b,rfl,k,u⟩:=ahw j;by_cases l:∃q∈b,X q
 .obtain⟨q,a,d⟩:=l;obtain⟨m2,m3,rfl,-⟩:=sC a;right;right;left;refine⟨s,m1,p,m2,q,m3,t,l2++l1,?_,xs,g Ma k,d,g Ma xt⟩;grind
 .right;right;right;refine⟨s,m1,p,b,t,l2++l1,?_,fun q a=>⟨same q a,fun d=>?_,fun h=>?_⟩⟩
  .grind
  .grind
  .rcases h with rfl|rfl|rfl
   all_goals grind
variable {A:Nat->Nat->Prop} {a b c d e n:Nat} {p q:Nat->Nat}
def chn(A:Nat->Nat->Prop):Nat->II->Nat->Prop
 |a,[],b=>A a b
 |a,p::P,b=>A a p/\chn A p P b
def alc{A B:Nat->Nat->Prop}{z:Nat}(h:∀v w,v≠z->w≠z->A v w->B v w):∀{P:II}{a b:Nat},a≠z->b≠z->z∉P->chn A a P b->chn B a P b
 |[],_,_,d,h2,_,c=>h _ _ d h2 c
 |p::P,_,_,d,h2,h3,c=>by simp at h3;exact⟨h _ _ d (ff h3.1) c.1,alc h (ff h3.1) h2 h3.2 c.2⟩
theorem ai9{n:Nat}:∀(P:II){A:Nat->Nat->Prop}{a b:Nat},aae n A->chn A a P b->P.Nodup->a∉P->b∉P->a≠b->∃B,aae n B/\B a b/\∀v w,v∉P->w∉P->A v w->B v w
 |[],A,a,b,h,c,_,_,_,_=>⟨A,h,c,fun _ _ _ _ q=>q⟩
 |p::P,A,a,b,h,c,nd,ha,hb,ne=>by
  have⟨c1,c2⟩:=c;simp only[Sb,not_or]at ha hb;have⟨d,nd⟩:=xD.1 nd;have g:∀v w,v≠p->w≠p->A v w->aik A a p v w:=fun v w f h2 q=>⟨f,h2,fun e=>h.ir v hGr,.inl q⟩;have⟨B,f,h2,h3⟩:=ai9 P (h.bp c1) (a:=a) (b:=b) (by
   cases P with
   |nil=>exact⟨ha.1,hb.1,ne,.inr (.inl ⟨rfl,c2⟩)⟩
   |cons q P=>simp only[Sb,not_or]at d ha hb;exact⟨⟨ha.1,ff d.1,ha.2.1,.inr (.inl ⟨rfl,c2.1⟩)⟩,alc g (ff d.1) hb.1 d.2 c2.2⟩) nd ha.2 hb.2 ne
  grind
theorem akE(nd:l.Nodup)(lt:∀v∈l,v<n):∃p q,Ren n p q/\∀i,(h:i<l.length)->p i=l[i]:=by
 let L:=l++(rG n).filter fun v=>decide (v∉l);have nL:L.Nodup:=by grind[nodup_range]
 have b:∀v,v∈L↔v<n:=fun v=>by grind
 have c:L.Perm (rG n):=yR nL uV fun v=>by grind
 have d:L.length=n:=by grind[List.Perm.length_eq]
 have gL:∀i,(h:i<n)->L.getD i 0=L[i]'(by omega):=fun i h=>by grind
 refine⟨fun i=>L.getD i 0,fun v=>L.idxOf v,⟨fun v a=>?_,fun v a=>?_,fun v a=>?_,fun v a=>?_⟩,fun i h=>?_⟩
 .grind[getElem_mem]
 .grind
 .grind
 .grind
 grind
def Ren.flip(N:Ren n p q):Ren n q p:=⟨N.ql,N.pl,N.qp,N.pq⟩
theorem no_ren(N:Ren n p q){K:Nat->II}(c:∀v w,w∈K v->v<n/\w<n)(sy:∀v w,w∈K v->v∈K w)(no:¬XU n K)(P:aae n A)(h:∀v w,w∈K v->A (p v) (p w)):False:=by
 let E:Nat->II:=fun v=>if v<n then(rG n).filter fun w=>decide (q w∈K (q v))else[]
 have a:∀v w,w∈E v↔v<n/\w<n/\q w∈K (q v):=fun v w=>by grind
 have b:XU n E:=P.less (B:=fun v w=>w∈E v) (fun v w k=>by grind[Ren.pq]) fun v w k=>by grind
 refine no (b.ren N.flip fun v w=>?_);rw[a];constructor
 all_goals grind[Ren.pl,Ren.qp]
theorem no5(P:aae n A)(nd:[a,b,c,d,e].Nodup)(h:∀v∈[a,b,c,d,e],∀w∈[a,b,c,d,e],v≠w->A v w):False:=by
 have ab:A a b:=h a Ma b Ma hGr;have lt:∀v∈[a,b,c,d,e],v<n:=fun v f=>by
  by_cases q:v=a
  .rw[q];exact(P.lt ab).1
  .exact(P.lt (h a Ma v f (ff q))).2
 have⟨p,q,N,g⟩:=akE nd lt;have i:5<=n:=by have:=aks nd uV (B:=rG n) fun v f=>EP.2 (lt v f);grind
 refine no_ren N (K:=k5E) (fun v w k=>?_) (fun v w k=>?_) (k5_no i) P fun v w k=>?_
 .grind[pZ]
 .grind[pZ]
 .rw[pZ]at k;have j:v<[a,b,c,d,e].length:=k.1;have h2:w<[a,b,c,d,e].length:=k.2.1;rw[g v j,g w h2];exact h _ (si _) _ (si _) fun e=>k.2.2 (X6 nd (Gc h2) hGr)
theorem no33(P:aae n A){a b c d e f:Nat}(nd:[a,b,c,d,e,f].Nodup)(h:∀v∈[a,b,c],∀w∈[d,e,f],A v w):False:=by
 have lt:∀v∈[a,b,c,d,e,f],v<n:=fun v i=>by
  by_cases q:v∈[a,b,c]
  .exact(P.lt (h v q d Ma)).1
  .exact(P.lt (h a Ma v hGr)).2
 have⟨p,q,N,g⟩:=akE nd lt;have n6:6<=n:=by have:=aks nd uV (B:=rG n) fun v i=>EP.2 (lt v i);grind
 have l:=g 0 Ma;have m:=g 1 Ma;have h2:=g 2 Ma;have h3:=g 3 Ma;have o:=g 4 Ma;have r:=g 5 Ma;simp at l m h2 h3 o r;have s:∀v,v<3->p v∈[a,b,c]:=fun v i=>by have:v=0\/v=1\/v=2:=NH;grind
 have t:∀v,3<=v->v<6->p v∈[d,e,f]:=fun v u x=>by
  have:v=3\/v=4\/v=5:=NH;rcases this with rfl|rfl|rfl
  all_goals grind
 refine no_ren N (K:=ahu) (fun v w k=>?_) (fun v w k=>?_) (k33_no n6) P fun v w k=>?_
 .rw[agU]at k;omega
 .rw[agU]at k ⊢;omega
 .rw[agU]at k;rcases k with⟨k1,k2,j⟩|⟨k1,k2,j⟩
  .grind
  .exact P.sy (h _ (s w j) _ (t v k1 k2))
noncomputable def exL(E:Nat->II)(l:II):Nat->II:=Om (fun x y=>x∉l/\y∉l) E
theorem ae2{E:Nat->II}{l:II}{v w:Nat}:w∈exL E l v↔w∈E v/\v∉l/\w∉l:=EM
structure aga (n:Nat) (E:Nat->II):Prop where
 Rl:V7 n E
 no:¬aae n fun v w=>w∈E v
 del:∀a b,b∈E a->aae n fun v w=>w∈E v/\¬(v=a/\w=b)/\¬(v=b/\w=a)
 bp:∀a b,b∈E a->aae n (aik (fun v w=>w∈E v) a b)
 deg:∀v a,a∈E v->∃b c,b∈E v/\c∈E v/\b≠a/\c≠a/\b≠c
 sp:∃m,m<n/\E m=[]
 n3:3<=n
theorem cr_iso{r:Nat->II}{x y:Nat}(h:∀t,t∉r x)(c:Cr r x y):x=y:=by
 induction c<;>grind
theorem agA{E:Nat->II}{l:II}{c q:Nat}(a:c∉l)(h:Cr (exL E l) c q):q∉l:=by
 cases h<;>grind[ae2]
def aim{S:Nat->Nat->Prop}:∀{P:II}{a b:Nat},(∀(i x y:Nat),(a::(P++[b]))[i]?=Z x->(a::(P++[b]))[i+1]?=Z y->S x y)->chn S a P b
 |[],a,b,h=>h 0 a b rfl rfl
 |p::P,a,b,h=>⟨h 0 a p rfl rfl,aim fun i x y c h2=>h (i+1) x y c h2⟩
section
variable{n:Nat}{E:Nat->II}
def aio(R:V7 n E)(l:II):V7 n (exL E l):=OG R fun _ _ h=>⟨h.2,h.1⟩
theorem aga.sub(C:aga n E){B:Nat->Nat->Prop}(sub:∀v w,B v w->w∈E v)(sy:∀v w,B v w->B w v){a b:Nat}(h:b∈E a)(nb:¬B a b):aae n B:=(C.del a b h).less (fun v w q=>⟨sub v w q,fun e=>nb hGr,fun e=>nb hGr⟩) sy
theorem aga.two(C:aga n E)(c:Nat){v w:Nat}(p:v≠c)(hw:w≠c)(g:E v≠[])(aw:E w≠[]):Cr (exL E [c]) v w:=by
 refine j9 fun q=>?_;have⟨a,ha⟩:=akp _ g;have⟨b,hb⟩:=akp _ aw;have cl:∀z t,Cr (exL E [c]) v z->t∈E z->t=c\/Cr (exL E [c]) v t:=fun z t h e=>by
  by_cases k:t=c
  .exact .inl k
  .exact .inr (h.step (ae2.2 ⟨e,agA hGr h,by simpa using k⟩))
 have nb:¬Cr (exL E [c]) v b:=fun h=>(cl b w h (C.Rl.sy _ _ hb)).elim hw q;have i:aae n fun x y=>y∈E x/\(Cr (exL E [c]) v x\/Cr (exL E [c]) v y):=C.sub (fun _ _ h=>h.1) (fun _ _ h=>⟨C.Rl.sy _ _ h.1,h.2.symm⟩) hb fun h=>h.2.elim q nb;have j:aae n fun x y=>y∈E x/\¬Cr (exL E [c]) v x/\¬Cr (exL E [c]) v y:=C.sub (fun _ _ h=>h.1) (fun _ _ h=>⟨C.Rl.sy _ _ h.1,h.2.2,h.2.1⟩) ha fun h=>h.2.1 (.refl _);have⟨f,r1,l,m1⟩:=i;have⟨d,r2,m,m2⟩:=j;have iso:∀{x y},Cr (exL E [c]) v x->Cr d x y->x=y:=fun{x y} h k=>cr_iso (fun t o=>((m2 _ _).1 o).2.1 h) k;have H:abC n d f fun z=>Cr (exL E [c]) v z\/z=c:=⟨r2,r1,fun x y h=>by grind[V7.sy],fun x y r s ne k=>by grind[Cr.symm]⟩;refine C.no ⟨aar d f,H.Rl,H.flat m l,fun x y=>?_⟩;grind[aaT]
theorem aga.side(C:aga n E){u v:Nat}(L:u≠v){S:Nat->Prop}(Su:¬S u)(Sv:¬S v)(cl:∀z t,S z->t∈E z->t=u\/t=v\/S t){s t:Nat}(hs:S s)(as:E s≠[])(M:¬S t)(N:t≠u)(O:t≠v)(at_:E t≠[]):
  aae n fun x y=>(y∈E x/\(S x\/S y))\/(x=u/\y=v)\/(x=v/\y=u):=by
 let r:=Om (fun x y=>(¬S x/\¬S y)/\¬(x=u/\y=v)/\¬(x=v/\y=u)) E;have d:∀{x y},y∈r x↔y∈E x/\(¬S x/\¬S y)/\¬(x=u/\y=v)/\¬(x=v/\y=u):=EM;have rr:V7 n r:=OG C.Rl fun x y h=>⟨⟨h.1.2,h.1.1⟩,fun e=>h.2.2 ⟨e.2,e.1⟩,fun e=>h.2.1 ⟨e.2,e.1⟩⟩;have key:∀u' v',(u'=u/\v'=v)\/(u'=v/\v'=u)->Cr r t u':=fun u' v' Q=>by
  have g:∀z,Cr (exL E [v']) t z->((¬S z/\z≠u/\z≠v)/\Cr r t z)\/Cr r t u':=fun z c=>by
   induction c with
   |refl=>exact .inl ⟨⟨M,N,O⟩,.refl _⟩
   |@step b c _ e R=>
    rcases R with⟨⟨a,h2,h3⟩,I⟩|h
    .obtain⟨o,T,e3⟩:=ae2.1 e;have nS:¬S c:=fun h=>by have:=cl c b h (C.Rl.sy _ _ o);grind
     have J:c∈r b:=d.2 ⟨o,⟨a,nS⟩,fun e=>h2 e.1,fun e=>h3 e.1⟩;have e3:c≠v':=hGr;by_cases k:c=u'
     .exact .inr (k▸I.step J)
     .refine .inl ⟨⟨nS,?_,?_⟩,I.step J⟩<;>grind
    grind
  grind[aga.two]
 have q:Cr r u v:=((key u v (.inl ⟨rfl,rfl⟩)).symm rr).trans (key v u (.inr ⟨rfl,rfl⟩));obtain⟨l,nd,⟨t',o⟩,⟨U,T⟩,m,-⟩:=uF q;obtain⟨P,rfl⟩:∃P,l=u::(P++[v]):=by
  cases U<;>grind
 have f:=nd;simp only[xD,abe,Gw,not_or,aaf]at nd;obtain⟨⟨V,-⟩,nP,-,A⟩:=nd;have A:v∉P:=fun h=>A v h v rfl rfl;have ch:chn (fun x y=>y∈r x) u P v:=aim m;cases P with
 |nil=>exact absurd ⟨rfl,rfl⟩ (d.1 ch).2.2.1
 |cons p P=>
 have D:∀z∈p::P,¬S z:=fun z W=>by
  have⟨i,hi,e⟩:=ail W;have X:(u::(p::P++[v]))[i+1]?=Z z:=by rw[dZ,VU hi,Gc hi,e]
  have F:i<(u::(p::P++[v])).length:=hGr;exact(d.1 (m i _ z (Gc F) X)).2.1.2
 have pu:p≠u:=hGr;have aa:p≠v:=hGr;have G:u∈E p:=C.Rl.sy _ _ (d.1 (m 0 u p rfl rfl)).1;have⟨b,c,hb,hc,nb,nc,ae⟩:=C.deg p u G;obtain⟨w,hw,wu,wn⟩:∃w,w∈E p/\w≠u/\(P++[v])[0]?≠Z w:=hGr;have Sp:¬S p:=D p Ma;have Sw:¬S w:=fun h=>by have:=cl w p h (C.Rl.sy _ _ hw);grind
 have PD:aae n fun x y=>(y∈E x/\(S x\/S y))\/Vj (u::(p::P++[v])) x y\/Vj (u::(p::P++[v])) y x:=by
  refine C.sub (fun x y h=>?_) (fun x y h=>?_) hw fun h=>?_
  .rcases h with h|⟨i,a,h2⟩|⟨i,a,h2⟩
   .exact h.1
   .grind
   .exact C.Rl.sy _ _ (d.1 (m i y x a h2)).1
  .rcases h with h|h|h
   .exact .inl ⟨C.Rl.sy _ _ h.1,h.2.symm⟩
   all_goals grind
  .rcases h with h|⟨i,a,h2⟩|⟨i,a,h2⟩
   .grind
   .have:i=1:=X6 f a rfl;subst this;exact wn h2
   .have:i+1=1:=X6 f h2 rfl;grind
 have H:chn (fun x y=>(y∈E x/\(S x\/S y))\/Vj (u::(p::P++[v])) x y\/Vj (u::(p::P++[v])) y x) u (p::P) v:=aim fun i x y a h2=>.inr (.inl ⟨i,a,h2⟩);have⟨B,K,j,hB⟩:=ai9 (p::P) PD H nP V A L;refine K.less (fun x y h=>?_) fun x y h=>?_
 .rcases h with h|⟨rfl,rfl⟩|⟨rfl,rfl⟩
  .refine hB x y ?_ ?_ (.inl h)
   .rcases h.2 with k|k
    .grind
    .rcases cl y x k (C.Rl.sy _ _ h.1)with rfl|rfl|k
     all_goals grind
   .rcases h.2 with k|k
    .rcases cl x y k h.1 with rfl|rfl|k
     all_goals grind
    grind
  .exact j
  .exact K.sy j
 .rcases h with h|h|h
  .exact .inl ⟨C.Rl.sy _ _ h.1,h.2.symm⟩
  all_goals grind
theorem aga.three(C:aga n E)(u v:Nat){s t:Nat}(hs:s∉[u,v])(B:t∉[u,v])(as:E s≠[])(at_:E t≠[]):Cr (exL E [u,v]) s t:=by
 have d:s≠u/\s≠v:=hGr;have c:t≠u/\t≠v:=hGr;have iso:∀{a b:Nat},(E b=[]\/b=a)->∀x y,y∈exL E [a] x->y∈exL E [a,b] x/\y∈exL E [b,a] x:=fun{a b} hb x y h=>by have⟨g,h2,h3⟩:=ae2.1 h;have D:=C.Rl.sy _ _ g;grind[ae2]
 by_cases f:u=v
 .exact(C.two u d.1 c.1 as at_).mono fun x y h=>(iso (.inr f.symm) x y h).1
 by_cases i:E u=[]
 .exact(C.two v d.2 c.2 as at_).mono fun x y h=>(iso (.inl i) x y h).2
 by_cases j:E v=[]
 .exact(C.two u d.1 c.1 as at_).mono fun x y h=>(iso (.inl j) x y h).1
 refine j9 fun q=>?_;have⟨m,mn,m0⟩:=C.sp;have F:m≠u:=fun e=>i (e▸m0);have G:m≠v:=fun e=>j (e▸m0);have l:¬Cr (exL E [u,v]) s u:=fun h=>agA hs h Ma;have o:¬Cr (exL E [u,v]) s v:=fun h=>agA hs h Ma;have cl:∀z t,Cr (exL E [u,v]) s z->t∈E z->t=u\/t=v\/Cr (exL E [u,v]) s t:=fun z t h e=>by
  by_cases k:t∈[u,v]
  .grind
  .exact .inr (.inr (h.step (ae2.2 ⟨e,agA hs h,k⟩)))
 have p:=C.side f l o cl (.refl s) as q c.1 c.2 at_;have r:=C.side f (S:=fun z=>¬Cr (exL E [u,v]) s z/\z≠u/\z≠v) (fun h=>h.2.1 rfl) (fun h=>h.2.2 rfl) (fun z t h e=>by have:=cl t z;have:=C.Rl.sy _ _ e;grind) ⟨q,c.1,c.2⟩ at_ (fun h=>h.1 (.refl s)) d.1 d.2 as;have m1:∀w,w∉E m:=fun w h=>by grind
 have m2:∀w,m∉E w:=fun w h=>m1 w (C.Rl.sy _ _ h);have key:=aae.two p r (u:=u) (v:=v) (m:=m) (.inr (.inl ⟨rfl,rfl⟩)) (.inr (.inl ⟨rfl,rfl⟩)) mn (fun w h=>by
  grind) (fun w h=>by
  grind) (fun z ⟨w,hw⟩ ⟨w',A⟩=>by
  have g:Cr (exL E [u,v]) s z\/z=u\/z=v:=by
   rcases hw with⟨h,h'|h'⟩|h|h
   .exact .inl h'
   .have:=cl w z h' (C.Rl.sy _ _ h);grind
   all_goals grind
  grind)
 refine C.no (key.less (fun x y h=>?_) fun x y h=>C.Rl.sy _ _ h);have ne:x≠y:=fun e=>C.Rl.ir x hGr;grind
theorem aga.leave(C:aga n E){l:II}{a b m c d:Nat}(j:∀q,q∈l↔q=a\/q=b\/q=m)(i:c∉l)(hd:d∉l)(ac:E c≠[])(ad:E d≠[])(h:¬Cr (exL E l) c d):∃e,Cr (exL E l) c e/\m∈E e:=by
 refine j9 fun no=>h ?_;have:∀q,Cr (exL E [a,b]) c q->Cr (exL E l) c q:=fun q k=>by
  induction k with
  |refl=>exact .refl _
  |@step x y _ e f=>have⟨g,o,e3⟩:=ae2.1 e;have:y≠m:=fun k=>no ⟨x,f,k▸g⟩;refine f.step (ae2.2 ⟨g,agA i f,fun k=>?_⟩);grind
 grind[aga.three]
noncomputable def hang(n:Nat)(E:Nat->II)(l:II)(c:Nat):II:=(rG n).filter fun q=>decide (Cr (exL E l) c q)
theorem aga.smaller(C:aga n E)(H:∀x y,y∈E x->∃z c d,c∉[x,y,z]/\d∉[x,y,z]/\E c≠[]/\E d≠[]/\¬Cr (exL E [x,y,z]) c d):
  ∀(k:Nat)(x y z c d:Nat),y∈E x->c∉[x,y,z]->d∉[x,y,z]->E c≠[]->E d≠[]->(hang n E [x,y,z] c).length=k->Cr (exL E [x,y,z]) c d:=by
 intro k
 induction k using Nat.strongRecOn with
 |_ k t=>
  intro x y z c d R u hd ac ad X;refine j9 fun no=>?_;have⟨v,cv,D⟩:=C.leave (a:=x) (b:=y) (m:=z) Ma u hd ac ad no;have S:=agA u cv;have⟨w,c1,d1,f,g,F,G,i⟩:=H z v (C.Rl.sy _ _ D);obtain⟨c2,d2,j,l,I,o,J,p⟩:∃c2 d2,c2∉[z,v,w]/\d2∉[z,v,w]/\E c2≠[]/\E d2≠[]/\¬Cr (exL E [z,v,w]) c2 d2/\∀q,Cr (exL E [z,v,w]) c2 q->q≠x/\q≠y:=by
   by_cases K:∀q,Cr (exL E [z,v,w]) c1 q->q≠x/\q≠y
   .grind
   by_cases h2:∀q,Cr (exL E [z,v,w]) d1 q->q≠x/\q≠y
   .exact⟨d1,c1,g,f,G,F,fun h=>i (h.symm (aio C.Rl _)),h2⟩
   exfalso;have⟨r,k1⟩:=pz.1 K;have⟨s,k2⟩:=pz.1 h2;have⟨r1,e1⟩:=agm.1 k1;have⟨r2,e2⟩:=agm.1 k2;have yx:=C.Rl.sy _ _ R;have T:=agA f r1;have U:=agA g r2;have:Cr (exL E [z,v,w]) r s:=by
    by_cases e:r=s
    .rw[e];exact .refl _
    .have:s∈E r:=hGr;exact Cr.one (ae2.2 ⟨this,T,U⟩)
   exact i ((r1.trans this).trans (r2.symm (aio C.Rl _)))
  have⟨e,ce,O⟩:=C.leave (a:=z) (b:=w) (m:=v) (by simp;grind) j l I o J;have L:=agA j ce;have ex:=p e ce;have M:e∉[x,y,z]:=by simp at L ⊢;grind
  have V:Cr (exL E [x,y,z]) c e:=cv.step (ae2.2 ⟨C.Rl.sy _ _ O,S,M⟩);have sub:∀q,Cr (exL E [z,v,w]) e q->Cr (exL E [x,y,z]) c q/\Cr (exL E [z,v,w]) c2 q:=fun q h=>by
   induction h with
   |refl=>grind
   |@step a b _ h t=>have⟨P,W⟩:=t;have⟨K,h2,h3⟩:=ae2.1 h;have Q:=W.step h;have:=p b Q;refine⟨P.step (ae2.2 ⟨K,agA u P,?_⟩),Q⟩;simp at h3 ⊢;grind
  have nv:v∉hang n E [z,v,w] e:=fun h=>by have:=(iy.1 h).2;exact agA L (by simpa using this) Ma
  have lt:(hang n E [z,v,w] e).length<(hang n E [x,y,z] c).length:=by
   have:=tf (A:=v::hang n E [z,v,w] e) (B:=hang n E [x,y,z] c) (xD.2 ⟨nv,uV.filter _⟩) fun q N=>by
    rcases Sb.1 N with rfl|N
    .exact iy.2 ⟨EP.2 (C.Rl.lt _ _ (C.Rl.sy _ _ (C.Rl.sy _ _ D))),hGr⟩
    .obtain⟨r,s⟩:=iy.1 N;exact iy.2 ⟨r,hGr⟩
   grind
  have:=t _ NH z v w e d2 (C.Rl.sy _ _ D) L l (aiM O) o rfl;grind
theorem aga.UQ(C:aga n E){x0 y0:Nat}(a:y0∈E x0):∃x y,y∈E x/\∀z c d,c∉[x,y,z]->d∉[x,y,z]->E c≠[]->E d≠[]->Cr (exL E [x,y,z]) c d:=by
 refine j9 fun no=>?_;have H:∀x y,y∈E x->∃z c d,c∉[x,y,z]/\d∉[x,y,z]/\E c≠[]/\E d≠[]/\¬Cr (exL E [x,y,z]) c d:=fun x y h=>by grind
 have⟨z,c,d,b,h2,h3,e,f⟩:=H x0 y0 a;exact f (C.smaller H _ x0 y0 z c d a b h2 h3 e rfl)
end
theorem keep_keep{R:Nat->II}{S H:Nat->Nat->Prop}(sub:∀v w,w∈R v->H v w->S v w):Om H (Om S R)=Om H R:=by funext v;unfold Om;rw[afg];grind[filter_congr]
theorem keep_self{R:Nat->II}{S:Nat->Nat->Prop}:Om (fun v w=>w∈Om S R v) R=Om S R:=by grind[filter_congr,Om]
noncomputable def unlK(n:Nat)(R:Nat->II)(H:Nat->Nat->Prop):List H8:=(dl n R).filter fun d=>decide (¬H d.1 d.2)
section
variable{n:Nat}{R:Nat->II}{S:Nat->Nat->Prop}
theorem growK(t:V7 n R)(fl:Flat n R)(sy:∀v w,S v w->S w v)(D:QG (Om S R)):∀(k:Nat){H:Nat->Nat->Prop}{F:Cs},Ctx n R H F->(∀v w,H v w->w∈Om S R v)->(∃p q,p≠q/\¬off R H p/\¬off R H q)->
  (unlK n (Om S R) H).length=k->∃L,Ctx n R (fun v w=>w∈Om S R v) L:=by
 intro k
 induction k using Nat.strongRecOn with
 |_ k M=>
  intro H F C sub two N;have a:V7 n (Om S R):=OG t sy;have m:Flat n (Om S R):=fl.keep t sy;by_cases all:∀v w,w∈Om S R v->H v w
  .have e:H=fun v w=>w∈Om S R v:=hGr;grind
  have⟨v,Q⟩:=pz.1 all;have⟨w,hw⟩:=pz.1 Q;have⟨hw,nh⟩:=agm.1 hw;have kk:Om H (Om S R)=Om H R:=keep_keep fun v w _ h=>(EM.1 (sub v w h)).2;have C':Ctx n (Om S R) H F:=⟨a,C.sym,m,by grind[Ctx.O],by rw[kk];exact C.bp⟩;have c:∀p,¬off R H p->¬off (Om S R) H p:=fun p h q=>by obtain⟨w,-,h2⟩:=Q7 h;exact q w (sub p w h2) h2
  have⟨p,q,pq,E,G⟩:=two;have P:=C'.pieces D ⟨p,q,pq,c p E,c q G⟩;obtain⟨u,x,g,-⟩:=P.one v w hw nh;have⟨z,y,o,I,j⟩:=P.two u x g;obtain⟨inn,W,U,-,-⟩:=ZW a C.sym g.on o.on I g.mem g.nh o.mem o.nh j;have GD:∀{v w},w∈Om S R v->w∈R v:=fun h=>(EM.1 h).1;have J:Ka R H u inn z:=⟨W.nd,fun i x y b h2=>⟨GD (W.UQ i x y b h2).1,(W.UQ i x y b h2).2⟩,fun x T w _ h=>W.off x T w (sub x w h) h,by grind[Ka.ona],by grind[Ka.onb]⟩;obtain⟨f,hf,c1,c2,-,-⟩:=C.drawn J;have⟨A,B,cy⟩:=cyc2 c1.ug c2.ug I;have K:=C.lay J hf c1 cy;obtain⟨l,r⟩:∃l,l=fun v w=>H v w\/Ay u inn z v w:=⟨_,rfl⟩;rw[<-r]at K;have s:∀v w,l v w↔H v w\/Ay u inn z v w:=fun v w=>by rw[r]
  clear r;refine M _ ?_ K (fun v w h=>((s v w).1 h).elim (sub v w) fun h=>(W.wE a C.sym h).1) ⟨p,q,pq,fun k=>?_,fun k=>?_⟩ rfl
  .rw[<-N];have nd:=J8 a;have:=tf (A:=(u,x)::unlK n (Om S R) l) (B:=unlK n (Om S R) H) (xD.2 ⟨fun h=>?_,nd.filter _⟩) fun d hd=>by
    rcases Sb.1 hd with rfl|hd
    .exact iy.2 ⟨(IP a).2 g.mem,by grind[QP.nh]⟩
    .obtain⟨d1,d2⟩:=iy.1 hd;refine iy.2 ⟨d1,?_⟩;grind
   .grind
   .have h2:=(iy.1 h).2;grind[Ka.Fp]
  .obtain⟨w,b,h2⟩:=Q7 E;exact k w b ((s _ _).2 (.inl h2))
  .obtain⟨w,b,h2⟩:=Q7 G;exact k w b ((s _ _).2 (.inl h2))
theorem ring_in(D:QG R){a b c:Nat}(hb:b∈R a)(u:c∈R a)(nb:R b≠[])(m:R c≠[])(ab:b≠a)(ac:c≠a)(ne:b≠c)(sy:∀v w,w∈R v->v∈R w):∃l:II,l.Nodup/\3<=l.length/\∀v∈l,nx l v∈R v:=by
 have⟨l,nd,⟨t,g⟩,⟨s,o⟩,j,f⟩:=uF (D.Z7 a b c ab ac nb m);have p:a∉l:=fun h=>by
  have⟨i,hi,e⟩:=ail h;have hlen:1<l.length:=hGr;by_cases k:i+1<l.length
  .have:=(EM.1 (j i a _ hGr (Gc k))).2.1;grind
  grind
 have d:(a::l).Nodup:=xD.2 ⟨p,nd⟩;refine⟨a::l,d,?_,fun v f=>?_⟩
 .rw[g];cases t with
  |nil=>grind
  |cons=>simp
 .rcases Sb.1 f with rfl|f
  .rw[(aZ d (i:=0) (x:=v) (y:=b) rfl (by rw[g];rfl)).1];exact hb
  .obtain⟨i,hi,e⟩:=ail f;by_cases k:i+1<l.length
   .have q:(a::l)[i+1]?=Z v:=hGr;have r:(a::l)[i+1+1]?=Z l[i+1]:=hGr;rw[(aZ d q r).1];exact(EM.1 (j i v _ hGr (Gc k))).1
   .have:v=c:=by
     have hs:l.length=s.length+1:=by rw[o];simp
     grind
    grind[vB]
theorem star(m:V7 n R)(fl:Flat n R){x a b c:Nat}(D:QG (exL R [x]))(hb:b∈exL R [x] a)(A:c∈exL R [x] a)(ne:b≠c)(on:∀u∈R x,exL R [x] u≠[])(two:∃u v,u∈R x/\v∈R x/\u≠v):
  ∃F,abK n (exL R [x]) F/\∃f∈F,∀u∈R x,u∈f:=by
 have j:=aio m [x];have B:Flat n (exL R [x]):=fl.keep m fun _ _ h=>⟨h.2,h.1⟩;have d:∀{v w},w∈exL R [x] v->v≠w/\exL R [x] w≠[]:=fun{v w} h=>⟨fun e=>j.ir v hGr,aiM (j.sy _ _ h)⟩;have⟨l,nd,l3,y⟩:=ring_in D hb A (d hb).2 (d A).2 (ff (d hb).1) (ff (d A).1) ne j.sy;have GD:∀{v w},w∈exL R [x] v->w∈R v:=fun h=>(ae2.1 h).1;have J:=ala m fl nd l3 fun v s=>GD (y v s);have ZA:∀v∈l,¬off R (Ei l) v:=fun v s q=>q _ (GD (y v s)) (.inl ⟨s,rfl⟩);have⟨F,C⟩:=growK m fl (fun _ _ h=>⟨h.2,h.1⟩) D _ J (fun v w h=>by
  rcases h with⟨o,rfl⟩|⟨o,rfl⟩
  .exact y v o
  .exact j.sy _ _ (y w o)) ⟨l[0],l[1],fun e=>by have:=X6 nd (Gc (by omega:0<l.length)) (by rw[e];exact Gc (by omega:1<l.length));omega,ZA _ (si _),ZA _ (si _)⟩ rfl
 have O:FO (exL R [x]) F:=by have:=C.O;rwa[keep_self]at this
 have⟨r,u1,t,o,E⟩:=two;have G:∃v,v<n/\exL R [x] v≠[]:=⟨r,m.lt _ _ (m.sy _ _ t),on r t⟩;refine⟨F,⟨j,O,D.bp,?_,fun e=>?_⟩,?_⟩
 .have:=al3 j B D.bp G;rw[O.cls j]at this;exact this
 .obtain⟨w,hw⟩:=akp _ (on r t);obtain⟨f,hf,-⟩:=O.cover r w hw;grind
 have W:∀u v,u∈R x->v∈R x->u≠v->Ka R (fun v w=>w∈exL R [x] v) u [x] v:=fun u v z s H=>by
  have K:u≠x:=fun e=>m.ir x hGr;have L:v≠x:=fun e=>m.ir x hGr;have I:∀w,w∉exL R [x] x:=fun w h=>by grind[ae2]
  refine⟨by simp[nr,K,H,ff L],fun i p q o h2=>?_,fun p M w hw h=>?_,?_,?_⟩
  .match i with
   |0=>simp[nr]at o h2;subst o h2;exact⟨m.sy _ _ z,fun h=>I _ (j.sy _ _ h)⟩
   |1=>simp[nr]at o h2;grind
   |i+2=>simp[nr]at h2
  .grind
  .obtain⟨w,hw⟩:=akp _ (on u z);grind
  .obtain⟨w,hw⟩:=akp _ (on v s);grind
 obtain⟨f,hf,c1,c2,-,-⟩:=C.drawn (W r u1 t o E);refine⟨f,hf,fun u z=>?_⟩;by_cases k:u=r
 .grind[WQ.ug]
 .obtain⟨g,hg,d1,d2,-,-⟩:=C.drawn (W r u t z (ff k));grind[Ctx.YQ,WQ.ug]
end
def Five(A:Nat->Nat->Prop):Prop:=∃a b c d e:Nat,[a,b,c,d,e].Nodup/\∀v w,A v w↔v∈[a,b,c,d,e]/\w∈[a,b,c,d,e]/\v≠w
def Six(A:Nat->Nat->Prop):Prop:=∃a b c d e f:Nat,[a,b,c,d,e,f].Nodup/\∀v w,A v w↔(v∈[a,b,c]/\w∈[d,e,f])\/(v∈[d,e,f]/\w∈[a,b,c])
def ais{A B:Nat->Nat->Prop}{Z:II}(h:∀v w,v∉Z->w∉Z->A v w->B v w):∀{P:II}{a b:Nat},a∉Z->b∉Z->(∀p∈P,p∉Z)->chn A a P b->chn B a P b
 |[],_,_,d,h2,_,c=>h _ _ d h2 c
 |p::P,_,_,d,h2,h3,c=>by have e:=h3 p Ma;exact⟨h _ _ d e c.1,ais h e h2 (fun q f=>h3 q (by simp[f])) c.2⟩
theorem ahK{n:Nat}:∀(ps:List (Nat×II×Nat)){A:Nat->Nat->Prop},aae n A->(ps.flatMap fun t=>t.2.1).Nodup->(∀t∈ps,chn A t.1 t.2.1 t.2.2/\t.1≠t.2.2/\t.1∉(ps.flatMap fun t=>t.2.1)/\t.2.2∉(ps.flatMap fun t=>t.2.1))->
  ∃B,aae n B/\(∀t∈ps,B t.1 t.2.2)/\∀v w,v∉(ps.flatMap fun t=>t.2.1)->w∉(ps.flatMap fun t=>t.2.1)->A v w->B v w
 |[],A,h,_,_=>⟨A,h,fun _ q=>absurd q Ma,fun _ _ _ _ q=>q⟩
 |t::ps,A,h,nd,l=>by
  have⟨c,ne,d,e⟩:=l t Ma;rw[aj3]at nd d e;have⟨f,g,i⟩:=aaf.1 nd;simp only[abe,not_or]at d e;have⟨B,m,hB,kB⟩:=ai9 t.2.1 h c f d.1 e.1 ne;have⟨D,o,r,kD⟩:=ahK ps m g (fun s hs=>by have⟨c',ne',a,b⟩:=l s (by simp[hs]);rw[aj3]at a b;simp only[abe,not_or]at a b;refine⟨ais kB a.1 b.1 (fun p j k=>?_) c',ne',a.2,b.2⟩;exact i p k p (Vn.2 ⟨s,hs,j⟩) rfl);refine⟨D,o,fun s hs=>?_,fun v w u hw q=>?_⟩
  .grind
  grind
theorem agW{f P Q:II}{a b:Nat}(nd:f.Nodup)(cy:Cyc f ((a::P)++(b::Q))):chn (Ei f) a P b:=by
 refine aim fun i x y h h2=>.inl ?_;have c:=cy.perm.nodup_iff.1 nd;have e:(a::P)++(b::Q)=(a::(P++[b]))++Q:=by simp
 have l1:=(Ny.1 h).1;have l2:=(Ny.1 h2).1;have d:((a::P)++(b::Q))[i]?=Z x:=hGr;have j:((a::P)++(b::Q))[i+1]?=Z y:=hGr;have g:x∈f:=cy.perm.mem_iff.2 (BS d);exact⟨g,by rw[cy.nx nd g];exact(aZ c d j).1⟩
section
variable{n:Nat}{E:Nat->II}
theorem k4_plan{x y a b:Nat}(nd:[x,y,a,b].Nodup)(lt:∀v∈[x,y,a,b],v<n):aae n fun v w=>v∈[x,y,a,b]/\w∈[x,y,a,b]/\v≠w:=by
 have c:[x,y,a].Nodup:=hGr;have G:=dP (n:=n) c Ma fun v d=>lt v hGr;have rm:∀v w,w∈gH [x,y,a] v↔Ei [x,y,a] v w:=fun v w=>ez c;have i:nx [x,y,a] x=y/\nx [x,y,a] y=a/\nx [x,y,a] a=x:=by simp at c;grind[nx,nxF]
 have C:UN n (gH [x,y,a]) [x,y,a] x y [b]:=⟨hGr,Ma,Ma,Ma,fun v d=>by
  rw[Gw.1 d];refine jz.2 fun w hw=>?_;rcases(rm _ _).1 hw with⟨h,-⟩|⟨h,h2⟩
  .grind
  .simp at h;rcases h with rfl|rfl|rfl
   all_goals grind,fun v d=>by grind,fun h=>by simp at h⟩
 have⟨j,m1⟩:=G.lay Ma C (A:=[]) (B:=[a]) (Cyc.refl _);obtain⟨r,F,e,m2,-⟩:=fan 1 [a] rfl (x:=b) j (f:=half y [a] x [b].reverse) Ma (adD.2 Ma) Ma (fun q k=>by
  rw[Gw.1 k];refine⟨adD.2 Ma,hGr,fun h=>?_⟩;rcases(m1 _ _).1 h with h|h
  .rw[rm]at h;rcases h with⟨h,-⟩|⟨-,h⟩
   all_goals grind
  grind[agz])
 refine aae.less ⟨r,e.Rl,e.flat,fun v w=>m2 v w⟩ (fun v w h=>?_) fun v w h=>⟨h.2.1,h.1,ff h.2.2⟩;have⟨g,h2,h3⟩:=h;unfold akt;rw[m1,agz,rm];unfold Ei;simp only[Sb,eR,or_false]at g h2 ⊢;have⟨n1,l,n3⟩:=i
 rcases g with rfl|rfl|rfl|rfl<;>rcases h2 with rfl|rfl|rfl|rfl<;>first|exact absurd rfl h3|grind
theorem aga.apart(C:aga n E){x y:Nat}(g:y∈E x){r:Nat->II}{F:Cs}{f:II}(G:abK n r F)(i:∀v w,w∈r v↔w∈E v/\v∉[x,y]/\w∉[x,y])(hf:f∈F)(inf:∀u,(u∈E x/\u≠y)\/(u∈E y/\u≠x)->u∈f)(h:akD f (fun u=>u∈E x/\u≠y) fun u=>u∈E y/\u≠x):False:=by
 have⟨s,t,A,B,cy,xs,xt,k,l⟩:=h;have j:=C.Rl.sy _ _ g;have d:x≠y:=fun e=>C.Rl.ir y hGr;obtain⟨b,c,hb,-,nb,-,-⟩:=C.deg y x j;have nil:∀z,z∈[x,y]->r z=[]:=fun z m=>jz.2 fun w hw=>((i z w).1 hw).2.1 m;have P:=lay_two G hf cy (C.Rl.lt _ _ g) (C.Rl.lt _ _ j) d (nil x Ma) (nil y Ma) (X:=(E x).filter fun u=>decide (u≠y)) (Y:=(E y).filter fun u=>decide (u≠x))
  (fun q o=>k q (inf q (.inl hGr)) hGr) hGr hGr (fun q o=>l q (inf q (.inr hGr)) hGr) (aiM (a:=b) (by simp[hb,nb])) ((C.Rl.nd x).filter _) ((C.Rl.nd y).filter _)
 refine C.no (P.less (fun v w h=>?_) fun v w h=>C.Rl.sy _ _ h);have h':=C.Rl.sy _ _ h;rw[i];grind
theorem aga.all(C:aga n E){S:Nat->Nat->Prop}(sub:∀v w,S v w->w∈E v)(sy:∀v w,S v w->S w v)(no:¬aae n S){v w:Nat}(h:w∈E v):S v w:=j9 fun q=>no (C.sub sub sy h q)
theorem aga.inner(C:aga n E){f:II}(nd:f.Nodup){v:Nat}(e:v∈f)(a:nx f v∈E v)(h:∀w,w∈E v->Ei f v w):False:=by have⟨b,c,hb,g,nb,i,d⟩:=C.deg v _ a;grind[Ei,C9]
theorem aga.turns(C:aga n E){x y:Nat}(xy:y∈E x){f:II}(nd:f.Nodup)(V:x∉f)(W:y∉f)(ring:∀v∈f,nx f v∈E v)(h:ag9 f (fun u=>u∈E x/\u≠y) fun u=>u∈E y/\u≠x):Six fun v w=>w∈E v:=by
 obtain⟨a,g,b,i,c,j,d,k,cy,⟨xa,-⟩,⟨yb,-⟩,⟨xc,-⟩,⟨yd,-⟩⟩:=h;have X:x≠y:=fun e=>C.Rl.ir y hGr;let st:Nat->Nat->Prop:=fun v w=>(v=x/\(w=a\/w=c\/w=y))\/(v=y/\(w=b\/w=d));let S:Nat->Nat->Prop:=fun v w=>Ei f v w\/st v w\/st w v;have B:∀v w,st v w->w∈E v:=fun v w h=>by grind
 have sub:∀v w,S v w->w∈E v:=fun v w h=>by
  rcases h with(⟨h,rfl⟩|⟨h,rfl⟩)|h|h
  .grind
  .exact C.Rl.sy _ _ (ring w h)
  .grind
  .exact C.Rl.sy _ _ (B _ _ h)
 have sy:∀v w,S v w->S w v:=fun v w h=>by
  rcases h with h|h|h
  .exact .inl h.symm
  all_goals grind
 have F:=cy.perm.nodup_iff.1 nd;have inf:∀v,v∈f↔v=a\/v∈g\/v=b\/v∈i\/v=c\/v∈j\/v=d\/v∈k:=fun v=>by rw[cy.perm.mem_iff];simp
 have xo:=mt (inf x).2 V;have yo:=mt (inf y).2 W;have o:(g++(i++(j++k))).Nodup/\(∀v∈[a,b,c,d],v∉g++(i++(j++k)))/\[a,b,c,d].Nodup:=by simp[aaf]at F ⊢;grind
 have⟨o,l,p⟩:=o;have no:¬aae n S:=fun P=>by
  have c1:chn (Ei f) a g b:=agW nd (Q:=i++((c::j)++(d::k))) hGr;have aa:=cy.shift;have c2:chn (Ei f) b i c:=agW nd (Q:=j++((d::k)++(a::g))) hGr;have G:Cyc f ((c::j)++((d::k)++((a::g)++(b::i)))):=by grind[Cyc.shift]
  have c3:chn (Ei f) c j d:=agW nd (Q:=k++((a::g)++(b::i))) hGr;have ae:=G.shift;have c4:chn (Ei f) d k a:=agW nd (Q:=g++((b::i)++(c::j))) hGr;have up:∀{a b:Nat}{P:II},chn (Ei f) a P b->chn S a P b:=fun{a b P} h=>ais (Z:=[]) (fun _ _ _ _ q=>.inl q) Ma Ma Ma h;have fl:([(a,g,b),(b,i,c),(c,j,d),(d,k,a)].flatMap fun t=>t.2.1)=g++(i++(j++k)):=by simp
  have oa:=l a Ma;have ob:=l b Ma;have oc:=l c Ma;have od:=l d Ma;have ox:x∉g++(i++(j++k)):=by simp;grind
  have oy:y∉g++(i++(j++k)):=by simp;grind
  have H:=p;simp only[xD,Sb,eR,or_false,not_or]at H;have⟨D,I,z,kD⟩:=ahK [(a,g,b),(b,i,c),(c,j,d),(d,k,a)] P hGr (fun t T=>by
   rw[fl];simp only[Sb,eR,or_false]at T;rcases T with rfl|rfl|rfl|rfl
   .grind
   .grind
   .grind
   grind)
  rw[fl]at kD;have J:D a b:=z (a,g,b) Ma;have K:D b c:=z (b,i,c) Ma;have L:D c d:=z (c,j,d) Ma;have M:D d a:=z (d,k,a) Ma;have sx:∀w,w=a\/w=c\/w=y->S x w:=fun w h=>.inr (.inl (.inl ⟨rfl,h⟩));have ai:∀w,w=b\/w=d->S w y:=fun w h=>.inr (.inr (.inr ⟨rfl,h⟩));refine no33 I (a:=x) (b:=b) (c:=d) (d:=y) (e:=a) (f:=c) (by simp;grind) fun v m w hw=>?_;simp only[Sb,eR,or_false]at m hw;rcases m with rfl|rfl|rfl<;>rcases hw with rfl|rfl|rfl
  .grind
  .grind
  .grind
  .grind
  .exact I.sy J
  .exact K
  .grind
  .exact M
  .exact I.sy L
 have all:∀v w,w∈E v->S v w:=fun v w h=>C.all sub sy no h;have N:∀v,v∈g++(i++(j++k))->False:=fun v m=>by
  have r:v∈f:=(inf v).2 (by simp at m;grind);refine C.inner nd r (ring v r) fun w hw=>?_;rcases all v w hw with h|h|h
  .exact h
  .have:v≠x/\v≠y:=by constructor<;>(grind)
   grind
  .exfalso;have O:v≠x/\v≠y:=by constructor<;>(grind)
   rcases h with⟨-,h|h|h⟩|⟨-,h|h⟩
   .grind
   .exact l c Ma (h▸m)
   .exact O.2 h
   .exact l b Ma (h▸m)
   .exact l d Ma (h▸m)
 have U:g++(i++(j++k))=[]:=jz.2 N;simp only[qL140]at U;obtain⟨rfl,rfl,rfl,rfl⟩:=U;have H:=p;simp only[xD,Sb,eR,or_false,not_or]at H;have A:nx f a=b/\nx f b=c/\nx f c=d/\nx f d=a:=by rw[cy.nx nd ((inf a).2 Ma),cy.nx nd ((inf b).2 Ma),cy.nx nd ((inf c).2 Ma),cy.nx nd ((inf d).2 Ma)];refine⟨?_,?_,?_,?_⟩<;>simp[nx,nxF]<;>grind
 refine⟨x,b,d,y,a,c,by simp;grind,fun v w=>⟨fun h=>?_,fun h=>?_⟩⟩
 .have:=all v w h;simp only[Sb,eR,or_false]at inf ⊢;have i1:=inf v;have i2:=inf w;rcases this with(⟨s,h2⟩|⟨s,h2⟩)|s|s
  .grind
  .grind
  .show(v=x\/v=b\/v=d)/\(w=y\/w=a\/w=c)\/_;rcases s with⟨rfl,h⟩|⟨rfl,h⟩<;>grind
  .rcases s with⟨rfl,h⟩|⟨rfl,h⟩<;>grind
 .have r1:=ring a ((inf a).2 Ma);have r2:=ring b ((inf b).2 Ma);have r3:=ring c ((inf c).2 Ma);have r4:=ring d ((inf d).2 Ma);rw[A.1]at r1;rw[A.2.1]at r2;rw[A.2.2.1]at r3;rw[A.2.2.2]at r4;have R:=C.Rl.sy;have key:∀v w,v∈[x,b,d]->w∈[y,a,c]->w∈E v:=fun v w m hw=>by
   simp only[Sb,eR,or_false]at m hw
   rcases m with rfl|rfl|rfl<;>rcases hw with rfl|rfl|rfl<;>first|assumption|(apply R;assumption)
  rcases h with h|h
  .grind
  grind
theorem aga.threes(C:aga n E){x y:Nat}(R:y∈E x){f:II}(nd:f.Nodup)(T:x∉f)(U:y∉f)(ring:∀v∈f,nx f v∈E v)(J:∀u,(u∈E x/\u≠y)\/(u∈E y/\u≠x)->u∈f)(h:ThreeR f (fun u=>u∈E x/\u≠y) fun u=>u∈E y/\u≠x):Five fun v w=>w∈E v:=by
 have⟨a,g,b,i,c,j,cy,V⟩:=h;have W:x≠y:=fun e=>C.Rl.ir y hGr;have inf:∀v,v∈f↔v=a\/v∈g\/v=b\/v∈i\/v=c\/v∈j:=fun v=>by rw[cy.perm.mem_iff];simp
 have z:∀v,v∈[a,b,c]->v∈E x/\v∈E y:=fun v l=>by grind
 let st:Nat->Nat->Prop:=fun v w=>(v=x/\(w∈[a,b,c]\/w=y))\/(v=y/\w∈[a,b,c]);let S:Nat->Nat->Prop:=fun v w=>Ei f v w\/st v w\/st w v;have A:∀v w,st v w->w∈E v:=fun v w h=>by grind
 have sub:∀v w,S v w->w∈E v:=fun v w h=>by
  rcases h with(⟨h,rfl⟩|⟨h,rfl⟩)|h|h
  .grind
  .exact C.Rl.sy _ _ (ring w h)
  .grind
  .exact C.Rl.sy _ _ (A _ _ h)
 have sy:∀v w,S v w->S w v:=fun v w h=>by
  rcases h with h|h|h
  .exact .inl h.symm
  .exact .inr (.inr h)
  .exact .inr (.inl h)
 have B:=cy.perm.nodup_iff.1 nd;have xo:=mt (inf x).2 T;have yo:=mt (inf y).2 U;have o:(g++(i++j)).Nodup/\(∀v∈[a,b,c],v∉g++(i++j))/\[a,b,c].Nodup:=by simp[aaf]at B ⊢;grind
 have⟨o,k,F⟩:=o;have X:=F;simp only[xD,Sb,eR,or_false,not_or]at X;have no:¬aae n S:=fun P=>by
  have c1:chn (Ei f) a g b:=agW nd (Q:=i++(c::j)) hGr;have aa:=cy.shift;have c2:chn (Ei f) b i c:=agW nd (Q:=j++(a::g)) hGr;have ae:Cyc f ((c::j)++((a::g)++(b::i))):=by grind[Cyc.shift]
  have c3:chn (Ei f) c j a:=agW nd (Q:=g++(b::i)) hGr;have up:∀{a b:Nat}{P:II},chn (Ei f) a P b->chn S a P b:=fun{a b P} h=>ais (Z:=[]) (fun _ _ _ _ q=>.inl q) Ma Ma Ma h;have fl:([(a,g,b),(b,i,c),(c,j,a)].flatMap fun t=>t.2.1)=g++(i++j):=by simp
  have oa:=k a Ma;have ob:=k b Ma;have oc:=k c Ma;have ox:x∉g++(i++j):=by simp;grind
  have K:y∉g++(i++j):=by simp;grind
  have⟨D,L,G,kD⟩:=ahK [(a,g,b),(b,i,c),(c,j,a)] P hGr (fun t M=>by
   rw[fl];simp only[Sb,eR,or_false]at M;rcases M with rfl|rfl|rfl
   .grind
   .grind
   grind)
  rw[fl]at kD;have ai:D a b:=G (a,g,b) Ma;have aj:D b c:=G (b,i,c) Ma;have aq:D c a:=G (c,j,a) Ma;have dx:∀w,w∈[a,b,c]->D x w:=fun w h=>kD _ _ ox (k w h) (.inr (.inl (.inl ⟨rfl,.inl h⟩)));have m:∀w,w∈[a,b,c]->D y w:=fun w h=>kD _ _ K (k w h) (.inr (.inl (.inr ⟨rfl,h⟩)));have ar:D x y:=kD _ _ ox K (.inr (.inl (.inl ⟨rfl,.inr rfl⟩)));have ds:∀{v w},D v w->D w v:=L.sy;refine no5 L (a:=x) (b:=y) (c:=a) (d:=b) (e:=c) (by simp;grind) fun v l w hw ne=>?_;simp only[Sb,eR,or_false]at l hw dx m;rcases l with rfl|rfl|rfl|rfl|rfl<;>rcases hw with rfl|rfl|rfl|rfl|rfl<;>
   first|exact absurd rfl ne|assumption|exact ds (by assumption)|exact dx _ Ma|exact m _ Ma|exact ds (dx _ Ma)|exact ds (m _ Ma)
 have all:∀v w,w∈E v->S v w:=fun v w h=>C.all sub sy no h;have H:∀v,v∈g++(i++j)->False:=fun v l=>by
  have p:v∈f:=(inf v).2 hGr;have av:v≠x/\v≠y:=by constructor<;>(grind)
  refine C.inner nd p (ring v p) fun w hw=>?_;grind
 have N:g++(i++j)=[]:=jz.2 H;simp only[qL140]at N;obtain⟨rfl,rfl,rfl⟩:=N;have I:nx f a=b/\nx f b=c/\nx f c=a:=by rw[cy.nx nd ((inf a).2 Ma),cy.nx nd ((inf b).2 Ma),cy.nx nd ((inf c).2 Ma)];refine⟨?_,?_,?_⟩<;>simp[nx,nxF]<;>grind
 have r:∀v,v∈f↔v∈[a,b,c]:=fun v=>by rw[inf];simp
 refine⟨x,y,a,b,c,hGr,fun v w=>⟨fun h=>?_,fun h=>?_⟩⟩
 .have ne:v≠w:=fun e=>C.Rl.ir v hGr;have on:∀v w,w∈E v->v∈[x,y,a,b,c]:=fun v w h=>by
   by_cases k1:v=x
   .simp[k1]
   by_cases k2:v=y
   .simp[k2]
   rcases all v w h with(s|s)|s|s
   .grind
   .have h2:=C.Rl.sy _ _ h;have:v∈f:=s.2▸ZP s.1;have:=(r v).1 this;simp at this ⊢;grind
   .grind
   grind
  exact⟨on v w h,on w v (C.Rl.sy _ _ h),ne⟩
 .obtain⟨l,hw,ne⟩:=h;have r1:=ring a ((inf a).2 Ma);have r2:=ring b ((inf b).2 Ma);have O:=ring c ((inf c).2 Ma);rw[I.1]at r1;rw[I.2.1]at r2;rw[I.2.2]at O;have yx:=C.Rl.sy _ _ R;have q1:=C.Rl.sy _ _ r1;have q2:=C.Rl.sy _ _ r2;have q3:=C.Rl.sy _ _ O;have dx:∀w,w∈[a,b,c]->w∈E x/\x∈E w:=fun w h=>⟨(z w h).1,C.Rl.sy _ _ (z w h).1⟩;have m:∀w,w∈[a,b,c]->w∈E y/\y∈E w:=fun w h=>⟨(z w h).2,C.Rl.sy _ _ (z w h).2⟩;simp only[Sb,eR,or_false]at l hw;rcases l with rfl|rfl|rfl|rfl|rfl<;>rcases hw with rfl|rfl|rfl|rfl|rfl<;>
   first|exact absurd rfl ne|assumption|exact(dx _ Ma).1|exact(m _ Ma).1|exact(dx _ Ma).2|exact(m _ Ma).2
theorem aga.tw(C:aga n E){x0 y0:Nat}(h0:y0∈E x0):(Five fun v w=>w∈E v)\/Six fun v w=>w∈E v:=by
 have⟨x,y,r,hT⟩:=C.UQ h0;have S:=C.Rl.sy _ _ r;have i:=C.Rl.sy;have ae:x≠y:=fun e=>C.Rl.ir y hGr;have⟨R,hr,fl,m⟩:=C.bp x y r;have s:∀v w,w∈exL R [x] v↔w∈E v/\v∉[x,y]/\w∉[x,y]:=fun v w=>by rw[ae2,m];unfold aik;have:=C.Rl.ir v;grind
 have T:∀u,u∈R x↔(u∈E x/\u≠y)\/(u∈E y/\u≠x):=fun u=>by rw[m];unfold aik;have H:=C.Rl.ir x;have h2:=C.Rl.ir y;grind
 have out:∀{v},exL R [x] v≠[]->v∉[x,y]/\E v≠[]:=fun{v} h=>by have⟨w,hw⟩:=akp _ h;grind
 have D:QG (exL R [x]):=by
  refine⟨fun v w g hw=>?_,fun c v w vc wc g hw=>?_⟩
  .obtain⟨v1,U⟩:=out g;have⟨w1,w2⟩:=out hw;exact(C.three x y v1 w1 U w2).mono fun p q h=>(s p q).2 (by grind[ae2])
  .obtain⟨v1,U⟩:=out g;have⟨w1,w2⟩:=out hw;refine(hT c v w hGr hGr U w2).mono fun p q h=>?_;grind[ae2,EM]
 have d:∀u t,t∈E u->∃w,w∈E u/\w≠x/\w≠y:=fun u t I=>by
  by_cases k1:t≠x/\t≠y
  .grind
  have⟨b,c,hb,hc,nb,nc,J⟩:=C.deg u t I;grind
 have on:∀u∈R x,exL R [x] u≠[]:=fun u hu=>by
  have k:u∉[x,y]:=by have H:=C.Rl.ir x;have h2:=C.Rl.ir y;grind
  have I:∃t,t∈E u:=hGr;have⟨t,I⟩:=I;have⟨w,hw,w1,w2⟩:=d u t I;grind
 have⟨b0,c0,j,z,A,B,l⟩:=C.deg y x S;have⟨b1,c1,K,L,M,N,P⟩:=C.deg x y r;have two:∃u v,u∈R x/\v∈R x/\u≠v:=⟨b0,c0,(T _).2 (.inr ⟨j,A⟩),(T _).2 (.inr ⟨z,B⟩),l⟩;have ald:∃a b c,b∈exL R [x] a/\c∈exL R [x] a/\b≠c:=by
  refine j9 fun no=>?_;have one:∀a b c,b∈exL R [x] a->c∈exL R [x] a->b=c:=fun a b c H h2=>j9 fun k=>no ⟨a,b,c,H,h2,k⟩;have ai:b0≠y:=fun e=>C.Rl.ir y hGr;have⟨b,hb,bx,bY⟩:=d b0 y (i _ _ j);have H:b∈exL R [x] b0:=(s _ _).2 ⟨hb,hGr,by simp[bx,bY]⟩;have h2:b0∈exL R [x] b:=(aio hr _).sy _ _ H;have nb:b≠b0:=fun e=>C.Rl.ir b0 hGr;have cl:∀q,Cr (exL E [x,y]) b0 q->q=b0\/q=b:=fun q k=>by
   induction k with
   |refl=>grind
   |@step p q _ e ih=>
    have e':=(s p q).2 (ae2.1 e);rcases ih with rfl|rfl
    all_goals grind
  have V:E b0≠[]:=aiM hb;have o:∀v w,w∈E v->v∈[x,y,b0,b]:=fun v w h=>by
   by_cases k:v∈[x,y]
   .simp at k ⊢;grind
   .have:=cl v (C.three x y hGr k V (aiM h));simp;grind
  have W:[x,y,b0,b].Nodup:=by simp;grind
  refine C.no ((k4_plan (n:=n) W fun v g=>?_).less (fun v w h=>⟨o v w h,o w v (i _ _ h),fun e=>C.Rl.ir v hGr⟩) fun _ _ h=>i _ _ h);simp only[Sb,eR,or_false]at g;rcases g with rfl|rfl|rfl|rfl
  .exact C.Rl.lt _ _ r
  .exact C.Rl.lt _ _ S
  .exact C.Rl.lt _ _ hb
  .exact C.Rl.lt _ _ (i _ _ hb)
 have⟨a,b,c,hb,hc,J⟩:=ald;have⟨F,G,f,hf,aa⟩:=star hr fl D hb hc J on two;have Q:=G.O.nd f hf;have bz:=G.O.bz f hf;have ring:∀v∈f,nx f v∈E v:=fun v g=>((s _ _).1 (bz v g)).1;have off:∀v∈f,v∉[x,y]:=fun v g=>((s _ _).1 (bz v g)).2.1;have xf:x∉f:=fun h=>off x h Ma;have yf:y∉f:=fun h=>off y h Ma;have inf:∀u,(u∈E x/\u≠y)\/(u∈E y/\u≠x)->u∈f:=fun u h=>aa u ((T u).2 h);rcases alz (f:=f) (X:=fun u=>u∈E x/\u≠y) (Y:=fun u=>u∈E y/\u≠x) ⟨b1,c1,inf _ (.inl ⟨K,M⟩),inf _ (.inl ⟨L,N⟩),P,⟨K,M⟩,⟨L,N⟩⟩ ⟨b0,c0,inf _ (.inr ⟨j,A⟩),inf _ (.inr ⟨z,B⟩),l,⟨j,A⟩,⟨z,B⟩⟩with h|h|h|h
 .exact(C.apart r G s hf inf h).elim
 .refine(C.apart S G (fun v w=>?_) hf (fun u h=>inf u h.symm) h).elim;rw[s];simp;grind
 .exact .inr (C.turns r Q xf yf ring h)
 .exact .inl (C.threes r Q xf yf ring inf h)
end
def upR(A:Nat->Nat->Prop)(a b v x y:Nat):Prop:=(A x y/\¬(x=a/\y=b)/\¬(x=b/\y=a))\/(x=v/\(y=a\/y=b))\/(y=v/\(x=a\/x=b))
inductive Tw:(Nat->Nat->Prop)->Prop
 |five {A:Nat->Nat->Prop} (h:Five A):Tw A
 |six {A:Nat->Nat->Prop} (h:Six A):Tw A
 |up {A B:Nat->Nat->Prop} {a b v:Nat} (T:Tw A) (ab:A a b) (iso:∀w,¬A v w) (h:∀x y,B x y↔upR A a b v x y):Tw B
noncomputable def lst(n:Nat)(A:Nat->Nat->Prop)(v:Nat):II:=(rG n).filter fun w=>decide (A v w)
theorem aaD{n:Nat}{A:Nat->Nat->Prop}(lt:∀v w,A v w->w<n){v w:Nat}:w∈lst n A v↔A v w:=by grind[lst]
def aej{n:Nat}{A:Nat->Nat->Prop}(lt:∀v w,A v w->w<n)(sy:∀v w,A v w->A w v)(ir:∀v,¬A v v):V7 n (lst n A):=⟨fun v=>uV.filter _,fun v w h=>lt w v (sy v w ((aaD lt).1 h)),fun v w h=>(aaD lt).2 (sy v w ((aaD lt).1 h)),fun v h=>ir v ((aaD lt).1 h)⟩
section
variable{n:Nat}{A:Nat->Nat->Prop}
theorem aae.aac(P:aae n A){v a:Nat}(iso:∀w,¬A v w)(o:v<n)(an:a<n)(ne:v≠a):aae n fun x y=>A x y\/(x=v/\y=a)\/(x=a/\y=v):=by
 have sy:=fun v w=>P.sy (v:=v) (w:=w);have⟨R,r,f,m⟩:=P;have i:R v=[]:=jz.2 fun w h=>iso w ((m v w).1 h);have nv:∀x,v∉R x:=fun x h=>iso x (sy _ _ ((m x v).1 h))
 let q:Nat->II:=fun x=>if x=v then[a]else if x=a then R a++[v]else R x
 have j:q v=[a]:=qL7 rfl;have k:q a=R a++[v]:=hGr;have l:∀x,x≠v->x≠a->q x=R x:=fun x b h2=>by grind
 have mem:∀x y,y∈q x↔y∈R x\/(x=v/\y=a)\/(x=a/\y=v):=fun x y=>by grind
 have Q:V7 n q:=by
  refine⟨fun x=>?_,fun x y h=>?_,fun x y h=>?_,fun x h=>?_⟩
  .by_cases b:x=v
   .grind
   by_cases h2:x=a
   .subst h2;rw[k];have:=r.nd x;grind
   .rw[l x b h2];exact r.nd x
  .rcases(mem x y).1 h with h|⟨h,-⟩|⟨h,-⟩
   .exact r.lt x y h
   all_goals grind
  all_goals grind[V7.ir]
 have d:a∈q v:=by rw[j];simp
 have dl:del q v a=R:=by grind[OE,u9,ab1]
 have e:¬Cr (del q v a) v a:=fun c=>ne (cr_iso (fun t g=>by rw[dl,i]at g;simp at g) c);refine⟨q,Q,abG Q d hGr ⟨fun _=>e,fun _=>jh Q d e⟩,fun x y=>?_⟩;rw[mem,m]
theorem aae.up(P:aae n A){v a b:Nat}(ab:A a b)(iso:∀w,¬A v w)(c:v<n):aae n (upR A a b v):=by have⟨R,r,f,m⟩:=P;have S:aan n R a b v:=⟨r,(m _ _).2 ab,jz.2 fun w h=>iso w ((m v w).1 h),c⟩;exact⟨aap R a b v,S.aff,S.flat.2 f,fun x y=>by rw[S.mem,m];rfl⟩
theorem aae.ear(P:aae n A){v a b:Nat}(ab:A a b)(iso:∀w,¬A v w)(d:v<n):aae n fun x y=>A x y\/(x=v/\(y=a\/y=b))\/(y=v/\(x=a\/x=b)):=by
 have sy:=fun v w=>P.sy (v:=v) (w:=w);have ir:=P.ir;have nab:a≠b:=fun e=>ir b (e▸ab:A b b);have nva:v≠a:=fun e=>iso b (e▸ab);have nvb:v≠b:=fun e=>iso a (e▸sy _ _ ab);have⟨q,Q,F,i⟩:=P.up ab iso d;have c:∀y,y∈q v↔y=a\/y=b:=fun y=>by grind[upR]
 have f:nx (q v) a=b:=by
  have g:=ZP ((c a).2 (.inl rfl));rcases(c _).1 g with h|h
  .have:=(Bk (Q.nd v) ((c a).2 (.inl rfl))).1 h;have h2:=(c b).2 (.inr rfl);grind
  .exact h
 have nb:b∉q a:=fun h=>by grind[upR]
 have⟨s,T,G,ms⟩:=ab3 Q F ((c a).2 (.inl rfl)) f nab nb;refine⟨s,T,G,fun x y=>?_⟩;grind[upR]
theorem agx(h3:3<=n)(h:∀v w,¬A v w):aae n A:=by have G:=dP (n:=n) (l:=[0,1,2]) Ma Ma (by simp;omega);exact aae.less (A:=fun v w=>w∈gH [0,1,2] v) ⟨_,G.Rl,G.flat,fun _ _=>Iff.rfl⟩ (fun v w q=>absurd q (h v w)) fun v w q=>absurd q (h v w)
theorem min_sub:∀(k:Nat){B:Nat->Nat->Prop},(∀v w,B v w->w<n)->(∀v w,B v w->B w v)->(∀v,¬B v v)->¬aae n B->(dl n (lst n B)).length=k->
  ∃E,V7 n E/\(∀v w,w∈E v->B v w)/\¬aae n (fun v w=>w∈E v)/\∀a b,b∈E a->aae n fun v w=>w∈E v/\¬(v=a/\w=b)/\¬(v=b/\w=a):=by
 intro k
 induction k using Nat.strongRecOn with
 |_ k q=>
  intro B lt sy ir no t;have p:=aej lt sy ir;by_cases c:∀a b,B a b->aae n fun v w=>B v w/\¬(v=a/\w=b)/\¬(v=b/\w=a)
  .refine⟨lst n B,p,fun v w h=>(aaD lt).1 h,fun P=>no (P.congr fun v w=>aaD lt),fun a b h=>(c a b ((aaD lt).1 h)).congr fun v w=>by rw[aaD lt]⟩
  .obtain⟨a,ha⟩:=pz.1 c;have⟨b,hb⟩:=pz.1 ha;have⟨ab,l⟩:=agm.1 hb;obtain⟨e,g⟩:∃e:Nat->Nat->Prop,e=fun v w=>B v w/\¬(v=a/\w=b)/\¬(v=b/\w=a):=⟨_,rfl⟩;have j:∀v w,e v w↔B v w/\¬(v=a/\w=b)/\¬(v=b/\w=a):=fun v w=>by rw[g]
   rw[<-g]at l;clear g;have f:∀v w,e v w->w<n:=fun v w h=>lt v w ((j v w).1 h).1;have m:∀v w,e v w->e w v:=fun v w h=>(j w v).2 (by have:=(j v w).1 h;have:=sy _ _ this.1;grind);have o:∀v,¬e v v:=fun v h=>ir v ((j v v).1 h).1;have i:=aej f m o;have less:(dl n (lst n e)).length<(dl n (lst n B)).length:=by
    have:=tf (A:=(a,b)::dl n (lst n e)) (B:=dl n (lst n B)) (xD.2 ⟨fun h=>by
     have h:=(aaD f).1 ((IP i).1 h);grind,J8 i⟩) fun d hd=>by
     rcases Sb.1 hd with rfl|hd
     .exact(IP p).2 ((aaD lt).2 ab)
     .exact(IP p).2 ((aaD lt).2 ((j _ _).1 ((aaD f).1 ((IP i).1 hd))).1)
    grind
   have⟨E,r,h2,h3,s⟩:=q _ NH f m o l rfl;exact⟨E,r,fun v w h=>((j v w).1 (h2 v w h)).1,h3,s⟩
end
noncomputable def alA(n:Nat)(E:Nat->II):II:=(rG n).filter fun v=>decide (E v≠[])
theorem amb{n:Nat}{E:Nat->II}(a:V7 n E){v:Nat}:v∈alA n E↔∃w,w∈E v:=by grind[alA,exists_mem_of_ne_nil,V7.lt]
theorem ale{n:Nat}{E E':Nat->II}(b:V7 n E)(a:V7 n E')(sub:∀v w,w∈E' v->∃u,u∈E v){y t:Nat}(c:t∈E y)(ny:∀w,w∉E' y):(alA n E').length<(alA n E).length:=by
 have:=tf (A:=y::alA n E') (B:=alA n E) (xD.2 ⟨fun h=>by grind[amb],uV.filter _⟩) fun v d=>by grind[amb]
 grind
theorem six_deg{A:Nat->Nat->Prop}(h:Six A){x p q r s:Nat}(nd:[p,q,r,s].Nodup)(hA:∀v∈[p,q,r,s],A x v):False:=by
 have⟨a,b,c,d,e,f,i,h⟩:=h;have two:∀L:II,L.length=3->(∀v∈[p,q,r,s],v∈L)->False:=fun L j g=>by have:=tf nd g;grind
 have key:∀v∈[p,q,r,s],(x∈[a,b,c]/\v∈[d,e,f])\/(x∈[d,e,f]/\v∈[a,b,c]):=fun v g=>(h x v).1 (hA v g);have ap:∀v,v∈[a,b,c]->v∈[d,e,f]->False:=fun v l h2=>by grind
 by_cases k:x∈[a,b,c]
 .exact two [d,e,f] rfl fun v g=>(key v g).elim (fun q=>q.2) fun q=>(ap x k q.1).elim
 .exact two [a,b,c] rfl fun v g=>(key v g).elim (fun q=>absurd q.1 k) fun q=>q.2
section
variable{n:Nat}
theorem alB(n3:3<=n):∀(k:Nat)(E:Nat->II),(alA n E).length=k->V7 n E->(∃m,m<n/\E m=[])->¬aae n (fun v w=>w∈E v)->
  (∀a b,b∈E a->aae n fun v w=>w∈E v/\¬(v=a/\w=b)/\¬(v=b/\w=a))->Tw fun v w=>w∈E v:=by
 intro k
 induction k using Nat.strongRecOn with
 |_ k ih=>
  intro E hk Rl sp no i;have g:=Rl.sy;have L:=Rl.ir;have sub:∀{B:Nat->Nat->Prop},(∀v w,B v w->w∈E v)->(∀v w,B v w->B w v)->∀{a b:Nat},b∈E a->¬B a b->aae n B:=fun{B} sb sy {a b} h nb=>(i a b h).less (fun v w q=>⟨sb v w q,fun e=>nb hGr,fun e=>nb hGr⟩) sy;by_cases deg:∀v a,a∈E v->∃b c,b∈E v/\c∈E v/\b≠a/\c≠a/\b≠c
  rotate_left
  .obtain⟨v,F⟩:=pz.1 deg;have⟨a,ha⟩:=pz.1 F;have⟨M,aL⟩:=agm.1 ha;have va:=g _ _ M;have nva:v≠a:=fun e=>L a hGr;by_cases one:∀b,b∈E v->b=a
   .have P:=(i v a M).aac (v:=v) (a:=a) (fun w h=>h.2.1 ⟨rfl,one w h.1⟩) (Rl.lt _ _ M) (Rl.lt _ _ va) nva;refine(no (P.congr fun x y=>?_)).elim;grind
   have⟨b,hb⟩:=pz.1 one;have⟨bv,O⟩:=agm.1 hb;have vb:=g _ _ bv;have nvb:v≠b:=fun e=>L b hGr;have two:∀w,w∈E v->w=a\/w=b:=fun w hw=>j9 fun q=>aL ⟨b,w,bv,hw,O,fun e=>q (.inl e),fun e=>q (.inr e.symm)⟩;by_cases ab:b∈E a
   .have P0:aae n fun x y=>y∈E x/\x≠v/\y≠v:=sub (fun _ _ h=>h.1) (fun _ _ h=>⟨g _ _ h.1,h.2.2,h.2.1⟩) M fun h=>h.2.1 rfl;have P:=P0.ear (v:=v) (a:=a) (b:=b) ⟨ab,ff nva,ff nvb⟩ (fun w h=>h.2.1 rfl) (Rl.lt _ _ M);refine(no (P.congr fun x y=>?_)).elim;constructor
    .rintro(h|⟨rfl,rfl|rfl⟩|⟨rfl,rfl|rfl⟩)
     .exact h.1
     all_goals assumption
    .intro h;by_cases k1:x=v
     .grind
     by_cases k2:y=v
     .subst k2;exact .inr (.inr ⟨rfl,two x (g _ _ h)⟩)
     grind
   obtain⟨j,aa⟩:∃j:Nat->Nat->Prop,j=fun x y=>(y∈E x/\x≠v/\y≠v)\/(x=a/\y=b)\/(x=b/\y=a):=⟨_,rfl⟩;have m0:∀x y,j x y↔(y∈E x/\x≠v/\y≠v)\/(x=a/\y=b)\/(x=b/\y=a):=fun x y=>by rw[aa]
   clear aa;have ae:∀x y,j x y->y<n:=fun x y h=>by
    rcases(m0 x y).1 h with h|h|h
    .exact Rl.lt _ _ (g _ _ h.1)
    .rw[h.2];exact Rl.lt _ _ vb
    .rw[h.2];exact Rl.lt _ _ va
   have ai:∀x y,j x y->j y x:=fun x y h=>by
    rw[m0]at h ⊢;rcases h with h|h|h
    .grind
    all_goals grind
   have aN:∀x,¬j x x:=fun x h=>by
    rcases(m0 x x).1 h with h|h|h
    .grind
    all_goals grind
   have r0:=aej ae ai aN;have mm:∀x y,y∈lst n j x↔j x y:=fun x y=>aaD ae;have G:∀w,¬j v w:=fun w h=>by grind
   have aj:j a b:=(m0 a b).2 (.inr (.inl ⟨rfl,rfl⟩));have aq:∀x y,y∈E x↔upR j a b v x y:=fun x y=>by
    unfold upR;rw[m0];constructor
    .intro h;by_cases k1:x=v
     .grind
     by_cases k2:y=v
     .subst k2;exact .inr (.inr ⟨rfl,two x (g _ _ h)⟩)
     .refine .inl ⟨.inl ⟨h,k1,k2⟩,?_,?_⟩
      all_goals grind
    .rintro(⟨h|h|h,n1,n2⟩|⟨rfl,rfl|rfl⟩|⟨rfl,rfl|rfl⟩)
     .exact h.1
     .grind
     .grind
     all_goals assumption
   have T:Tw fun x y=>y∈lst n j x:=by
    refine ih _ ?_ (lst n j) rfl r0 ⟨v,Rl.lt _ _ M,jz.2 fun w h=>G w ((mm v w).1 h)⟩ (fun P=>?_) fun p q Q=>?_
    .rw[<-hk];refine ale Rl r0 (fun x y h=>?_) M fun w h=>G w ((mm v w).1 h);rcases(m0 x y).1 ((mm x y).1 h)with h|h|h
     .grind
     .grind
     grind
    .have P':aae n j:=P.congr mm;exact no ((P'.up aj G (Rl.lt _ _ M)).congr fun x y=>(aq x y).symm)
    .have Q:=(mm p q).1 Q;have key:∀{B:Nat->Nat->Prop},aae n B->(∀x y,j x y->¬(x=p/\y=q)->¬(x=q/\y=p)->B x y)->aae n fun x y=>y∈lst n j x/\¬(x=p/\y=q)/\¬(x=q/\y=p):=fun P h=>
      P.less (fun x y k=>h x y ((mm x y).1 k.1) k.2.1 k.2.2) fun x y k=>⟨(mm y x).2 (ai _ _ ((mm x y).1 k.1)),fun e=>k.2.2 ⟨e.2,e.1⟩,fun e=>k.2.1 ⟨e.2,e.1⟩⟩
     by_cases kk:(p=a/\q=b)\/(p=b/\q=a)
     .refine key (i v a M) fun x y h n1 n2=>?_;rcases(m0 x y).1 h with h|h|h
      .grind
      .rcases kk with kk|kk
       all_goals grind
      .rcases kk with kk|kk
       all_goals grind
     .have ar:q∈E p/\p≠v/\q≠v:=by
       rcases(m0 p q).1 Q with h|h|h
       .exact h
       all_goals grind
      have⟨I,s,q3⟩:=ar;have Pc:=(i p q I).bp (x:=a) (y:=v) ⟨va,fun e=>q3 e.2.symm,fun e=>s e.2.symm⟩;refine key Pc fun x y h n1 n2=>?_;have sZ:b∈E v/\¬(v=p/\b=q)/\¬(v=q/\b=p):=⟨bv,fun e=>s e.1.symm,fun e=>q3 e.1.symm⟩;rcases(m0 x y).1 h with h|⟨rfl,rfl⟩|⟨rfl,rfl⟩
      .exact⟨h.2.1,h.2.2,fun e=>L x hGr,.inl ⟨h.1,n1,n2⟩⟩
      .exact⟨ff nva,ff nvb,ff O,.inr (.inl ⟨rfl,sZ⟩)⟩
      .exact⟨ff nvb,ff nva,O,.inr (.inr ⟨rfl,vb,fun e=>q3 e.2.symm,fun e=>s e.2.symm⟩)⟩
   have T':Tw j:=by
    have e:(fun x y=>y∈lst n j x)=j:=by funext x y;grind
    grind
   exact .up T' aj G aq
  by_cases cons:∀a b,b∈E a->aae n (aik (fun v w=>w∈E v) a b)
  .have C:aga n E:=⟨Rl,no,i,cons,deg,sp,n3⟩;by_cases emp:∀a b,b∉E a
   .grind[agx]
   .obtain⟨a,ha⟩:=pz.1 emp;have⟨b,hb⟩:=pz.1 ha;exact(C.tw (Classical.not_not.1 hb)).elim .five .six
  exfalso;have⟨x,hx⟩:=pz.1 cons;have⟨y,hy⟩:=pz.1 hx;have⟨xy,aP⟩:=agm.1 hy;have yx:=g _ _ xy;have bb:x≠y:=fun e=>L y hGr;have⟨H,N,l,ay,az⟩:=min_sub (n:=n) _ (B:=aik (fun v w=>w∈E v) x y) (fun v w h=>by
   obtain⟨-,-,-,h|⟨-,h⟩|⟨rfl,-⟩⟩:=h
   .exact Rl.lt _ _ (g _ _ h)
   .exact Rl.lt _ _ (g _ _ h)
   .exact Rl.lt _ _ xy) (al7 (fun _ _ h=>g _ _ h) x y) (fun v h=>h.2.2.1 rfl) aP rfl
  have K:∀{v w},w∈H v->v≠y/\w≠y:=fun h=>⟨(l _ _ h).1,(l _ _ h).2.1⟩;have T:Tw fun v w=>w∈H v:=by
   refine ih _ ?_ H rfl N ⟨y,Rl.lt _ _ yx,jz.2 fun w h=>(K h).1 rfl⟩ ay az;rw[<-hk];refine ale Rl N (fun v w h=>?_) yx fun w h=>(K h).1 rfl;obtain⟨-,-,-,h|⟨rfl,-⟩|⟨-,h⟩⟩:=l v w h
   .grind
   .grind
   grind
  have R:∀v w,w∈H v->v≠x->w≠x->w∈E v:=fun v w h S h2=>by
   obtain⟨-,-,-,h|⟨h,-⟩|⟨h,-⟩⟩:=l v w h
   all_goals grind
  have a8:∀w,w∈H x->w∉E x->w∈E y:=fun w h hn=>by
   obtain⟨-,-,k,h|⟨-,h⟩|⟨h,-⟩⟩:=l x w h
   all_goals grind
  let D:Nat->Nat->Prop:=fun v w=>(v=x/\w=y)\/(v≠x/\v≠y/\w≠x/\w≠y/\w∈H v)\/(v=x/\w≠y/\w∈H x/\w∈E x)\/(v=y/\w≠x/\w∈H x/\w∉E x);have DE:∀v w,D v w->w∈E v:=fun v w h=>by
   rcases h with⟨rfl,rfl⟩|⟨S,-,h3,-,h⟩|⟨rfl,-,-,h⟩|⟨rfl,-,h,hn⟩
   .exact xy
   .grind
   all_goals grind
  have all:∀v w,w∈E v->D v w\/D w v:=fun v w h=>j9 fun q=>by
   have P:=sub (B:=fun v w=>D v w\/D w v) (fun v w h=>h.elim (DE v w) fun h=>g _ _ (DE w v h)) (fun _ _ h=>h.symm) h q;refine ay ((P.bp (x:=x) (y:=y) (.inl (.inl ⟨rfl,rfl⟩))).less (fun v w h=>?_) fun _ _ h=>N.sy _ _ h);have⟨S,h2⟩:=K h;have h3:v≠w:=fun e=>N.ir v hGr;refine⟨S,h2,h3,?_⟩;by_cases k1:v=x
   .grind
   by_cases k2:w=x
   .subst k2;have h':=N.sy _ _ h;grind
   grind
  have aT:∀w,w∈E x->w≠y->w∈H x:=fun w h hn=>by grind
  have U:∀w,w∈E y->w≠x->w∈H x/\w∉E x:=fun w h hn=>by grind
  have aW:∀v w,w∈E v->v≠x->v≠y->w≠x->w≠y->w∈H v:=fun v w h S h2 h3 h4=>by
   rcases all v w h with(⟨h,-⟩|⟨-,-,-,-,h⟩|⟨h,-⟩|⟨h,-⟩)|(⟨h,-⟩|⟨-,-,-,-,h⟩|⟨h,-⟩|⟨h,-⟩)
   .grind
   .exact h
   .grind
   .grind
   .grind
   .grind[V7.sy]
   all_goals grind
  have⟨z,J,V,W,bg,bh,np⟩:=deg x y xy;have⟨I,s,aC,aD,aF,aH,nq⟩:=deg y x yx;have ap:∀{p q},p∈E x->q∈E y->q≠x->p≠q:=fun{p q} S h2 h3 e=>(U q h2 h3).2 (e▸S);have X:[z,J,I,s].Nodup:=by have:=ap V aC aF;have:=ap V aD aH;have:=ap W aC aF;have:=ap W aD aH;simp;grind
  have four:∀v∈[z,J,I,s],v∈H x:=fun v F=>by
   simp only[Sb,eR,or_false]at F;rcases F with rfl|rfl|rfl|rfl
   .grind
   .grind
   .grind
   grind
  have deg3:∀v w,w∈H v->∀a b,∃u,u∈H v/\u≠a/\u≠b:=fun v w h a b=>by
   by_cases kx:v=x
   .subst kx;refine j9 fun q=>?_;have:=tf (A:=[z,J,I,s]) (B:=[a,b]) X fun u r=>by
     have:=four u r;by_cases k1:u=a
     .simp[k1]
     by_cases k2:u=b
     .simp[k2]
     .exact(q ⟨u,this,k1,k2⟩).elim
    simp at this
   .have ky:=(K h).1;have:∃t,t∈E v:=by
     obtain⟨-,-,-,h|⟨h,-⟩|⟨-,h⟩⟩:=l v w h
     .exact⟨_,h⟩
     .grind
     .exact⟨_,h⟩
    have⟨t,ht⟩:=this;have⟨c,d,hc,hd,nc,nd,aX⟩:=deg v t ht
    let φ:Nat->Nat:=fun u=>if u=y then x else u
    have φH:∀u,u∈E v->φ u∈H v:=fun u r=>by
     show(if u=y then x else u)∈H v
     split
     .rename_i e;exact N.sy _ _ (U v (g _ _ hGr) kx).1
     .rename_i e;by_cases k:u=x
      .rw[k]at r ⊢;exact N.sy _ _ (aT v (g _ _ r) ky)
      .exact aW v u r kx ky k e
    have φi:∀u u',u∈E v->u'∈E v->φ u=φ u'->u=u':=fun u u' r bk e=>by
     have n1:¬(x∈E v/\y∈E v):=fun h=>(U v (g _ _ h.2) kx).2 (g _ _ h.1)
     have e:(if u=y then x else u)=if u'=y then x else u':=e
     by_cases k1:u=y
     .grind
     .by_cases k2:u'=y
      .grind
      grind
    refine j9 fun q=>?_;have a6:[φ t,φ c,φ d].Nodup:=by have S:=mt (φi t c ht hc) (ff nc);have h2:=mt (φi t d ht hd) (ff nd);have h3:=mt (φi c d hc hd) aX;simp;grind
    have:=tf (A:=[φ t,φ c,φ d]) (B:=[a,b]) a6 fun u r=>by
     have:u∈H v:=by
      simp only[Sb,eR,or_false]at r;rcases r with rfl|rfl|rfl
      .exact φH _ ht
      .exact φH _ hc
      .exact φH _ hd
     by_cases k1:u=a
     .simp[k1]
     by_cases k2:u=b
     .simp[k2]
     .exact(q ⟨u,this,k1,k2⟩).elim
    simp at this
  cases T with
  |@up A _ a b v T ab iso h=>
   have F:a∈H v:=(h v a).2 (.inr (.inl ⟨rfl,.inl rfl⟩));have⟨u,r,n1,n2⟩:=deg3 v a F a b;have nva:v≠a:=fun e=>iso b (e▸ab);rcases(h v u).1 r with h|⟨-,h⟩|⟨rfl,h⟩
   .exact iso u h.1
   .grind
   grind
  |six h=>exact six_deg h X four
  |five h=>
   have⟨a,b,c,d,e,bm,h5⟩:=h;have bo:x∈[a,b,c,d,e]:=((h5 x z).1 (four z Ma)).1;have aJ:∀v∈[z,J,I,s],v∈[a,b,c,d,e]:=fun v F=>((h5 x v).1 (four v F)).2.1;have aK:∀u∈[z,J,I,s],∀w∈[z,J,I,s],u≠w->w∈H u:=fun u r w hw ne=>(h5 u w).2 ⟨aJ u r,aJ w hw,ne⟩;have nx4:∀v∈[z,J,I,s],v≠x/\v≠y:=fun v F=>⟨fun e=>N.ir x (by have:=four v F;grind),(K (four v F)).2⟩;have o:∀u∈[z,J,I,s],∀w∈[z,J,I,s],u≠w->w∈E u:=fun u r w hw ne=>R u w (aK u r w hw ne) (nx4 u r).1 (nx4 w hw).1;have a7:=o z Ma J Ma np;have P:=i z J a7;have a1:=nx4 z Ma;have a2:=nx4 J Ma;have a3:=nx4 I Ma;have a4:=nx4 s Ma;have n4:=X;simp only[xD,Sb,eR,or_false,not_or]at n4;refine no33 P (a:=x) (b:=I) (c:=s) (d:=y) (e:=z) (f:=J) (by simp;grind) fun v F w hw=>?_;simp only[Sb,eR,or_false]at F hw;have hE:w∈E v:=by
    rcases F with rfl|rfl|rfl<;>rcases hw with rfl|rfl|rfl
    .exact xy
    .exact V
    .exact W
    .grind
    .exact o _ Ma _ Ma hGr
    .exact o _ Ma _ Ma hGr
    .grind
    .exact o _ Ma _ Ma hGr
    .exact o _ Ma _ Ma hGr
   refine⟨hE,?_,?_⟩<;>grind
end
end
end Go.Fw
