/- A text. -/
import Derived.Test.YtkccdnmaaelbiaaGreatFwEmb3
set_option linter.all false
set_option maxRecDepth 99999
set_option maxHeartbeats 9999999
namespace Go.Fw
attribute [local instance] Classical.propDecidable
theorem HL {h:Nat->Nat} {l:II} (inj:∀x∈l,∀y∈l,h x=h y->x=y) {y:Nat} (d:y∈l):nx (l.map h) (h y)=h (nx l y):=by
 obtain⟨p,q,rfl,e⟩:=sC d;have c:h y∉p.map h:=fun f=>by grind
 rw[U9,j3,ZL c,ZL e];cases q with
 |cons z q=>rfl
 |nil=>cases p<;>rfl
def yX {α:Type} {R R':α->α->Prop}:∀{X:List α},(∀x∈X,∀y∈X,R x y->R' x y)->cls R' X<=cls R X
 |[],_=>Ny _
 |x::l,h=>by
  have e:=yX (X:=l) fun a ha b hb=>h a (ZT _ ha) b (ZT _ hb);rw[cls,cls];by_cases c:∃y∈l,R x y
  .obtain ⟨y, d, r⟩ := c
   rw[if_pos ⟨y,d,h x N8 y (ZT _ d) r⟩,if_pos ⟨y,d,r⟩];omega
  .rw [if_neg c]
   split<;>omega
section
variable {n : Nat} {r : Nat → List Nat} {F : List (List Nat)}
theorem cut_ex (R:V7 n r) (O:FO r F) {f g:II} (hf:f∈F) (hg:g∈F) (j:f≠g) {a:Nat} (c:a∈f) (d:a∈g):
  ∃A B,Cyc (r a) ((A++[pv g a])++(B++[pv f a]))/\(A++[pv g a]).headD 0=nx f a/\(B++[pv f a]).headD 0=nx g a:=by
 have nd:=R.nd a;obtain⟨m,w,x⟩:=O.pv hf c;obtain⟨o,y,C⟩:=O.pv hg d;have k:=O.df R hf c;have p:=O.df R hg d;have s:pv g a≠pv f a:=fun e=>j (O.uniq f hf g hg (pv f a) m (e▸o) pw);obtain⟨u,v,e,D⟩:=sC k;have c1:Cyc (r a) (v++(u++[pv f a])):=by grind [Cyc.refl,Cyc.shift]
 have l:pv g a∈v++u:=pw;obtain⟨A,B,e3,t⟩:=sC l;have c2:Cyc (r a) ((A++[pv g a])++(B++[pv f a])):=pw;have i:=c2.perm.nodup_iff.1 nd;obtain⟨E,G⟩:=oW i;have n3:((B++[pv f a])++(A++[pv g a])).Nodup:=ab2.nodup_iff.1 i;obtain⟨H,I⟩:=oW n3;have nB:=(yM.1 i).2.1;have nA:=(yM.1 i).1;have hd:∀{L:II} {z:Nat},(L++[z]).Nodup->nx (L++[z]) z=(L++[z]).headD 0:=fun{L z} h=>by
  have J:z∉L:=fun q=>(yM.1 h).2.2 z q z Ma rfl
  grind [ZL]
 grind [Cyc.shift,Cyc.nx]
end
noncomputable def pF (n a b:Nat) (B B':II) (p q:Nat):Nat:=if p=a then(if q∈B then n else a)else if p=b then(if q∈B' then n+1 else b)else p
noncomputable def CL (n a b:Nat) (r:Nat->II) (A B A' B':II) (v:Nat):II:=if v=a then A else if v=b then A' else if v=n then B else if v=n+1 then B' else r v
noncomputable def Nq (n a b:Nat) (v:Nat):Nat:=if v=n then a else if v=n+1 then b else v
noncomputable def uO (n a b:Nat) (r:Nat->II) (A B A' B':II) (v:Nat):II:=(CL n a b r A B A' B' v).map fun q=>pF n a b B B' q (Nq n a b v)
structure Tu (n:Nat) (r:Nat->II) (a b:Nat) (A B A' B':II):Prop where
 R:V7 n r
 ab:a≠b
 an:a<n
 bn:b<n
 ca:Cyc (r a) (A++B)
 cb:Cyc (r b) (A'++B')
section
variable {n : Nat} {r : Nat → List Nat} {a b : Nat} {A B A' B' : List Nat}
theorem Tu.disA (S:Tu n r a b A B A' B') {q:Nat} (c:q∈A) (h2:q∈B):False:=by
 have:=S.ca.perm.nodup_iff.1 (S.R.nd a)
 grind
theorem Tu.disB (S:Tu n r a b A B A' B') {q:Nat} (c:q∈A') (h2:q∈B'):False:=by
 have:=S.cb.perm.nodup_iff.1 (S.R.nd b)
 grind
theorem Tu.GZ (S:Tu n r a b A B A' B') {p q:Nat} (c:p<n):Nq n a b (pF n a b B B' p q)=p:=by grind [Nq,pF]
theorem Tu.TU (S:Tu n r a b A B A' B') {p q:Nat} (h:p∈r q):p∈CL n a b r A B A' B' (pF n a b B B' q p):=by
 have d:=S.an;have h2:=S.bn;have h3:=S.ab;have e:=S.R.lt _ _ h;unfold CL pF;by_cases c1:q=a
 .subst c1
  rw[if_pos rfl];have c:=S.ca.perm.mem_iff.1 h
  grind
 .rw [if_neg c1]
  by_cases c2:q=b
  .subst c2
   rw[if_pos rfl];have c:=S.cb.perm.mem_iff.1 h
   grind
  grind
theorem Tu.jL (S:Tu n r a b A B A' B') {v q:Nat} (h:q∈CL n a b r A B A' B' v):q∈r (Nq n a b v)/\v=pF n a b B B' (Nq n a b v) q/\Nq n a b v<n:=by
 have c:=S.an;have h2:=S.bn;have h3:=S.ab;unfold CL at h;by_cases c1:v=a
 .subst c1
  rw[if_pos rfl]at h;have e:Nq n v b v=v:=by grind [Nq]
  rw[e];refine⟨S.ca.perm.mem_iff.2 (mJ _ h),?_,c⟩
  grind [pF,Tu.disA]
 rw[if_neg c1]at h;by_cases c2:v=b
 .subst c2
  rw[if_pos rfl]at h;have e:Nq n a v v=v:=by grind [Nq]
  rw[e];refine⟨S.cb.perm.mem_iff.2 (mJ _ h),?_,h2⟩
  grind [pF,Tu.disB]
 rw[if_neg c2]at h;by_cases d:v=n
 .subst d
  rw[if_pos rfl]at h;have e:Nq v a b v=a:=by grind [Nq]
  rw[e];refine⟨S.ca.perm.mem_iff.2 (Ki _ h),?_,c⟩
  grind [pF]
 rw[if_neg d]at h;by_cases f:v=n+1
 .subst f
  rw[if_pos rfl]at h;have e:Nq n a b (n+1)=b:=by grind [Nq]
  rw[e];refine⟨S.cb.perm.mem_iff.2 (Ki _ h),?_,h2⟩
  grind [pF]
 .rw [if_neg f] at h
  have e:Nq n a b v=v:=by grind [Nq]
  rw[e];refine⟨h,?_,S.R.lt _ _ h⟩
  grind [pF]
theorem Tu.tau_lt (S:Tu n r a b A B A' B') {p q:Nat} (c:p<n):pF n a b B B' p q<n+2:=by grind [pF]
theorem Tu.Az (S:Tu n r a b A B A' B') {p c q:Nat} (f:p<n) (d:c<n) (e:pF n a b B B' p q=pF n a b B B' c q):p=c:=by grind [Tu.GZ]
theorem Tu.mem (S:Tu n r a b A B A' B') {v w:Nat}:w∈uO n a b r A B A' B' v↔∃p q,q∈r p/\v=pF n a b B B' p q/\w=pF n a b B B' q p:=by
 unfold uO;rw[aae];constructor
 .grind [Tu.jL]
 .rintro ⟨p, q, h, rfl, rfl⟩
  have c:=S.R.lt _ _ h
  grind [Tu.TU,Tu.GZ]
theorem Tu.Rl (S:Tu n r a b A B A' B'):V7 (n+2) (uO n a b r A B A' B'):=by
 have nA:=S.ca.perm.nodup_iff.1 (S.R.nd a);have nB:=S.cb.perm.nodup_iff.1 (S.R.nd b);rw[yM]at nA nB;refine⟨fun v=>?_,fun v w h=>?_,fun v w h=>?_,fun v h=>?_⟩
 .have f:(CL n a b r A B A' B' v).Nodup:=by
   unfold CL;split
   .exact nA.1
   split
   .exact nB.1
   split
   .exact nA.2.1
   split
   .exact nB.2.1
   .exact S.R.nd v
  unfold uO;rw[Sb,vg];refine wI (fun{p q} g i d e=>d ?_) (Sb.1 f);exact S.Az (S.R.lt _ _ (S.R.sy _ _ (S.jL g).1)) (S.R.lt _ _ (S.R.sy _ _ (S.jL i).1)) e
 .obtain ⟨p, q, c, rfl, _⟩ := S.mem.1 h
  exact S.tau_lt (S.R.lt _ _ c)
 .obtain ⟨p, q, c, h2, h3⟩ := S.mem.1 h
  exact S.mem.2 ⟨q,p,S.R.sy _ _ c,h3,h2⟩
 .obtain ⟨p, q, c, h2, h3⟩ := S.mem.1 h
  have e:p=q:=by rw[<-S.GZ (S.R.lt _ _ c) (q:=q),<-h2,h3,S.GZ (S.R.lt _ _ (S.R.sy _ _ c))]
  rw[e]at c;exact S.R.ir _ c
noncomputable def rho (n a b:Nat) (B B':II) (d:H8):H8:=(pF n a b B B' d.1 d.2,pF n a b B B' d.2 d.1)
theorem Tu.Ln (S:Tu n r a b A B A' B') {d e:H8} (hd:d∈dl n r) (f:e∈dl n r) (h:rho n a b B B' d=rho n a b B B' e):d=e:=by
 have d1:=(IP S.R).1 hd;have c:=(IP S.R).1 f;injection h with g h2;refine aaV ?_ ?_
 .rw[<-S.GZ (S.R.lt _ _ d1) (q:=d.2),g,S.GZ (S.R.lt _ _ c)]
 .rw[<-S.GZ (S.R.lt _ _ (S.R.sy _ _ d1)) (q:=d.1),h2,S.GZ (S.R.lt _ _ (S.R.sy _ _ c))]
theorem Tu.dW (S:Tu n r a b A B A' B'):(dl (n+2) (uO n a b r A B A' B')).Perm ((dl n r).map (rho n a b B B')):=by
 refine yR (J8 S.Rl) ?_ fun d=>?_
 .grind [List.Pairwise.imp_of_mem,Tu.Ln,J8,Tu.R]
 .rw [IP S.Rl, aae]
  constructor
  .intro h
   obtain⟨p,q,c,h2,h3⟩:=S.mem.1 h;exact⟨(p,q),(IP S.R).2 c,aaV h2.symm h3.symm⟩
  .rintro ⟨e, f, rfl⟩
   exact S.mem.2 ⟨e.1,e.2,(IP S.R).1 f,rfl,rfl⟩
noncomputable def psi (n a b:Nat) (r:Nat->II) (A B A' B':II) (d:H8):H8:=(d.2,nx (CL n a b r A B A' B' (pF n a b B B' d.2 d.1)) d.1)
theorem Tu.phi (S:Tu n r a b A B A' B') {d:H8} (hd:d∈dl n r):Nv (uO n a b r A B A' B') (rho n a b B B' d)=rho n a b B B' (psi n a b r A B A' B' d)/\psi n a b r A B A' B' d∈dl n r:=by
 obtain⟨p,q⟩:=d;have i:q∈r p:=(IP S.R).1 hd;have h2:=S.R.sy _ _ i;have c:=S.R.lt _ _ h2;have hg:=S.TU h2;have j:=ZP hg;obtain⟨f,g,o⟩:=S.jL j;rw[S.GZ c]at f g;refine⟨?_,(IP S.R).2 f⟩;show(pF n a b B B' q p,nx (uO n a b r A B A' B' (pF n a b B B' q p)) (pF n a b B B' p q))=(pF n a b B B' q (nx (CL n a b r A B A' B' (pF n a b B B' q p)) p),pF n a b B B' (nx (CL n a b r A B A' B' (pF n a b B B' q p)) p) q);rw[<-g];unfold uO;rw[S.GZ c];congr 1;exact HL (h:=fun x=>pF n a b B B' x q) (fun x k y l e=>by
  have ex:=(S.jL k).1;have m:=(S.jL l).1;exact S.Az (S.R.lt _ _ (S.R.sy _ _ ex)) (S.R.lt _ _ (S.R.sy _ _ m)) e) hg
theorem Tu.it (S:Tu n r a b A B A' B') {d:H8} (hd:d∈dl n r):∀k,it (Nv (uO n a b r A B A' B')) k (rho n a b B B' d)=rho n a b B B' (it (psi n a b r A B A' B') k d)/\Go.Fw.it (psi n a b r A B A' B') k d∈dl n r
 |0=>⟨rfl,hd⟩
 |k+1=>by
  obtain⟨c,h2⟩:=S.it hd k
  grind [Tu.phi,it]
theorem Tu.cls (S:Tu n r a b A B A' B'):cls (WD (Nv (uO n a b r A B A' B'))) (dl (n+2) (uO n a b r A B A' B'))=cls (WD (psi n a b r A B A' B')) (dl n r):=by
 rw[Yy S.dW (TG S.Rl).eqv,Zx];refine IZ fun d hd e c=>⟨fun⟨k,h⟩=>⟨k,?_⟩,fun⟨k,h⟩=>⟨k,?_⟩⟩
 all_goals grind [Tu.it,Tu.Ln]
end
end Go.Fw
namespace Go.Fw
attribute [local instance] Classical.propDecidable
section
variable {n : Nat} {r : Nat → List Nat} {a b : Nat} {A B A' B' : List Nat} {x y x' y' : Nat}
theorem Tu.swapped (S:Tu n r a b (A++[x]) (B++[y]) (A'++[x']) (B'++[y'])) {d:H8} (hd:d∈dl n r):
  psi n a b r (A++[x]) (B++[y]) (A'++[x']) (B'++[y']) d=swp (swp (Nv r) (x,a) (y,a)) (x',b) (y',b) d:=by
 have w:=S.an;have h2:=S.bn;have h3:=S.ab;obtain⟨p,v⟩:=d;have h:p∈r v:=S.R.sy _ _ ((IP S.R).1 hd);have at_:∀{c:Nat} {A B:II} {x y:Nat},Cyc (r c) ((A++[x])++(B++[y]))->p∈r c->(p∉B++[y]->nx (A++[x]) p=(swp (Nv r) (x,c) (y,c) (p,c)).2)/\(p∈B++[y]->nx (B++[y]) p=(swp (Nv r) (x,c) (y,c) (p,c)).2)/\(swp (Nv r) (x,c) (y,c) (p,c)).1=c:=fun{c A B x y} g i=>by
  have nd:=S.R.nd c;have f:=g.perm.nodup_iff.1 nd;have n3:((B++[y])++(A++[x])).Nodup:=ab2.nodup_iff.1 f;obtain⟨z,C⟩:=oW f;obtain⟨D,E⟩:=oW n3;have o:=g.perm.mem_iff.1 i;have s:x∈r c:=g.perm.mem_iff.2 Ma;have t:y∈r c:=g.perm.mem_iff.2 Ma;have u:=(yM.1 f).2.2;have nA:=(yM.1 f).1;have nB:=(yM.1 f).2.1;have fst:(swp (Nv r) (x,c) (y,c) (p,c)).1=c:=by
   unfold swp;split
   .rfl
   .split<;>rfl
  refine⟨fun m=>?_,fun hB=>?_,fst⟩
  .have hA := (WA.1 o).resolve_right m
   rcases WA.1 hA with hA|hA
   .have j : p ≠ x := fun e => (yM.1 nA).2.2 p hA x Ma e
    have k:p≠y:=fun e=>m (by rw[e];simp);rw[Q3 (fun e=>j (PN e).1) (fun e=>k (PN e).1),Nv]
    grind [Cyc.nx]
   .rw [Eh] at hA
    subst hA;rw[C5,Nv]
    grind [Cyc.shift,Cyc.nx]
  .rcases WA.1 hB with hB | hB
   .have k : p ≠ y := fun e => (yM.1 nB).2.2 p hB y Ma e
    have j:p≠x:=fun e=>u x Ma p (by simp[hB]) e.symm;rw[Q3 (fun e=>j (PN e).1) (fun e=>k (PN e).1),Nv]
    grind [Cyc.shift,Cyc.nx]
   .rw [Eh] at hB
    subst hB;rw[dX,Nv]
    grind [Cyc.nx]
 show(v,nx (CL n a b r (A++[x]) (B++[y]) (A'++[x']) (B'++[y']) (pF n a b (B++[y]) (B'++[y']) v p)) p)=_;by_cases c1:v=a
 .subst c1
  rw[Q3 (fun e=>h3 (PN e).2) (fun e=>h3 (PN e).2)];obtain⟨k1,k2,l⟩:=at_ S.ca h;refine aaV l.symm ?_;simp only;unfold pF CL;rw[if_pos rfl];by_cases c:p∈B++[y]
  .rw[if_pos c,if_neg NH,if_neg NH,if_pos rfl];exact k2 c
  grind
 by_cases c2:v=b
 .subst c2
  have QI:∀q:Nat,swp (Nv r) (x,a) (y,a) (q,v)=Nv r (q,v):=fun q=>Q3 (fun e=>c1 (PN e).2) (fun e=>c1 (PN e).2);rw[zU (QI _) (QI _) (QI _)];obtain⟨k1,k2,l⟩:=at_ S.cb h;refine aaV l.symm ?_;simp only;unfold pF CL;rw[if_neg c1,if_pos rfl];by_cases c:p∈B'++[y']
  .rw[if_pos c,if_neg NH,if_neg NH,if_neg NH,if_pos rfl];exact k2 c
  grind
 .rw [Q3 (fun e => c2 (PN e).2) (fun e => c2 (PN e).2), Q3 (fun e => c1 (PN e).2) (fun e => c1 (PN e).2), Nv]
  have F:=S.R.lt _ _ h
  grind [pF,CL]
theorem Tu.iso (S:Tu n r a b (A++[x]) (B++[y]) (A'++[x']) (B'++[y'])):
  ((List.range (n+2)).filter fun v=>decide (uO n a b r (A++[x]) (B++[y]) (A'++[x']) (B'++[y']) v=[])).length=((List.range n).filter fun v=>decide (r v=[])).length:=by
 have i:=S.an;have h2:=S.bn;have f:∀v,uO n a b r (A++[x]) (B++[y]) (A'++[x']) (B'++[y']) v=[]↔CL n a b r (A++[x]) (B++[y]) (A'++[x']) (B'++[y']) v=[]:=fun v=>by grind [uO,List.map_eq_nil_iff]
 have j:¬CL n a b r (A++[x]) (B++[y]) (A'++[x']) (B'++[y']) n=[]:=by
  unfold CL;rw[if_neg NH,if_neg NH,if_pos rfl];simp
 have k:¬CL n a b r (A++[x]) (B++[y]) (A'++[x']) (B'++[y']) (n+1)=[]:=by
  unfold CL;rw[if_neg NH,if_neg NH,if_neg NH,if_pos rfl];simp
 have c:r a≠[]:=fun e=>by have:=S.ca;rw[e]at this;have:=this.symm.nil;simp at this
 have d:r b≠[]:=fun e=>by have:=S.cb;rw[e]at this;have:=this.symm.nil;simp at this
 rw[rY,rY,Cg,Db];have e:([n]++[n+1]).filter (fun v=>decide (uO n a b r (A++[x]) (B++[y]) (A'++[x']) (B'++[y']) v=[]))=[]:=pw;rw[e,cJ];congr 1;refine qH fun v g=>?_;rw[j9]at g;rw[decide_eq_decide,f];unfold CL;by_cases c1:v=a
 .subst c1;rw[if_pos rfl];exact⟨fun h=>by simp at h,fun h=>absurd h c⟩
 rw[if_neg c1];by_cases c2:v=b
 .subst c2;rw[if_pos rfl];exact⟨fun h=>by simp at h,fun h=>absurd h d⟩
 grind
theorem Tu.parts (S:Tu n r a b (A++[x]) (B++[y]) (A'++[x']) (B'++[y'])) (hf:Flat n r) (j:¬WD (Nv r) (x,a) (y,a)) (o:WD (Nv r) (x',b) (y,a)) (h2:WD (Nv r) (x,a) (y',b)):
  iJ n r+1<=iJ (n+2) (uO n a b r (A++[x]) (B++[y]) (A'++[x']) (B'++[y'])):=by
 have p:=TG S.R;have mem:∀{q c:Nat},q∈r c->((q,c):H8)∈dl n r:=fun h=>(IP S.R).2 (S.R.sy _ _ h);have k:=mem (S.ca.perm.mem_iff.2 (by simp:x∈(A++[x])++(B++[y])));have l:=mem (S.ca.perm.mem_iff.2 (by simp:y∈(A++[x])++(B++[y])));have f:=mem (S.cb.perm.mem_iff.2 (by simp:x'∈(A'++[x'])++(B'++[y'])));have i:=mem (S.cb.perm.mem_iff.2 (by simp:y'∈(A'++[x'])++(B'++[y'])));have t:=(WC p k l fun e=>j (by grind [WD.refl])).2 j;have q:=p.swp k l;have s:WD (swp (Nv r) (x,a) (y,a)) (x',b) (y',b):=(cG p k l j _ f _ i).2 (.inr (.inr ⟨o,h2⟩));have m:((x',b):H8)≠(y',b):=fun e=>by
  have:=S.cb.perm.nodup_iff.1 (S.R.nd b);rw[yM]at this;exact this.2.2 x' Ma y' Ma (PN e).1
 have u:=(WC q f i m).1 s;have e3:Go.Fw.cls (WD (psi n a b r (A++[x]) (B++[y]) (A'++[x']) (B'++[y']))) (dl n r)=Go.Fw.cls (WD (swp (swp (Nv r) (x,a) (y,a)) (x',b) (y',b))) (dl n r):=by
  have v:=q.swp f i;refine IZ fun d hd e w=>?_
  grind [ER,Tu.swapped]
 have e4:=S.cls;obtain⟨g,hg⟩:=Z4 S.Rl
 grind [List.Perm.length_eq,Tu.dW,List.length_map,mj.eq_1,Tu.iso,Flat.eq_1]
end
end Go.Fw
namespace Go.Fw
attribute [local instance] Classical.propDecidable
section
variable {n : Nat} {r : Nat → List Nat} {F : List (List Nat)} {a b : Nat} {A B A' B' : List Nat}
theorem DJ {v q:Nat} (c:v≠a) (h2:v≠b):pF n a b B B' v q=v:=by grind [pF]
theorem Tu.UQ (S:Tu n r a b A B A' B') {p q:Nat} (h:q∈r p):pF n a b B B' q p∈uO n a b r A B A' B' (pF n a b B B' p q):=S.mem.2 ⟨p,q,h,rfl,rfl⟩
theorem HQ (S:Tu n r a b A B A' B') (O:FO r F) {f:II} (hf:f∈F) {c d:Nat} (i:c∈f) (hd:d∈f) (h:c≠d) (l:∀v,v≠c->v≠d->v≠a/\v≠b):
  Cr (uO n a b r A B A' B') (pF n a b B B' c (nx f c)) (pF n a b B B' d (pv f d)):=by
 obtain⟨k,q,o⟩:=On (JT (O.nd f hf) i hd);have s:k≠0:=fun e=>by subst e;exact h q
 have g:=fun j=>(O.it hf i j).1;have t:∀j,j+1<k->it (nx f) (j+1) c≠c:=fun j u e=>by
  have:it (nx f) (k-(j+1)) c=d:=by
   have p:it (nx f) (k-(j+1)+(j+1)) c=it (nx f) (k-(j+1)) (it (nx f) (j+1) c):=qu _ _ _ _
   grind
  grind
 have P:∀j,j<k->Cr (uO n a b r A B A' B') (pF n a b B B' c (nx f c)) (pF n a b B B' (it (nx f) j c) (it (nx f) (j+1) c)):=fun j=>by
  induction j with
  |zero=>intro _;exact .refl _
  |succ j w=>
   intro u;have p:=(w NH).step (S.UQ (O.bz f hf _ (g j)))
   grind [DJ]
 obtain⟨m,rfl⟩:∃m,k=m+1:=⟨k-1,NH⟩;have p:=(P m NH).step (S.UQ (O.bz f hf _ (g m)))
 grind [it,c7,FO.nd]
theorem xA (S:Tu n r a b A B A' B') (g:Cr (uO n a b r A B A' B') a b) (f:Cr (uO n a b r A B A' B') (n+1) n) (l:iJ n r+1<=iJ (n+2) (uO n a b r A B A' B')):¬Cr (uO n a b r A B A' B') a n:=fun h=>by
 have R':=S.Rl;have d:∀p q,Cr (uO n a b r A B A' B') p (pF n a b B B' p q):=fun p q=>by
  unfold pF;split
  .rename_i e; subst e
   split
   .exact h
   .exact .refl _
  .split
   .grind [Cr.symm,Cr.trans]
   .exact .refl _
 have lift:∀p q,Cr r p q->Cr (uO n a b r A B A' B') p q:=fun p q c=>by
  induction c with
  |refl=>exact .refl _
  |step _ hw i=>exact i.trans ((d _ _).trans ((Cr.one (S.UQ hw)).trans ((d _ _).symm R')))
 have hle:iJ (n+2) (uO n a b r A B A' B')<=iJ n r:=by
  have j:iJ (n+2) (uO n a b r A B A' B')=cls (Cr (uO n a b r A B A' B')) (n::(n+1)::List.range n):=by grind [iJ,Yy,Cr.eqv]
  have k:∃z∈(n+1)::List.range n,Cr (uO n a b r A B A' B') n z:=⟨n+1,N8,f.symm R'⟩;have h2:∃z∈List.range n,Cr (uO n a b r A B A' B') (n+1) z:=⟨a,j9.2 S.an,f.trans (h.symm R')⟩;rw[j,cls,if_pos k,cls,if_pos h2];exact yX fun p _ q _ c=>lift p q c
 omega
structure WM (r:Nat->II) (f g:II) (a b:Nat) (A B A' B':II) (X:Nat->Prop):Prop where
 ca:Cyc (r a) ((A++[pv g a])++(B++[pv f a]))
 ha:(A++[pv g a]).headD 0=nx f a
 mi:(B++[pv f a]).headD 0=nx g a
 cb:Cyc (r b) ((A'++[pv f b])++(B'++[pv g b]))
 hb:(A'++[pv f b]).headD 0=nx g b
 sZ:(B'++[pv g b]).headD 0=nx f b
 xa:∀v∈A++[pv g a],v≠b->X v
 ya:∀v∈B++[pv f a],v≠b->¬X v
 xb:∀v∈A'++[pv f b],v≠a->X v
 yb:∀v∈B'++[pv g b],v≠a->¬X v
 Jp:∀v w,w∈r v->v≠a->v≠b->w≠a->w≠b->(X v↔X w)
 UQ:b∈A++[pv g a]↔a∈A'++[pv f b]
theorem BX {l:II} {x:Nat}:(l++[x]).headD 0∈l++[x]:=Lt Ma
theorem sides (R:V7 n r) (O:FO r F) (D:Flat n r) {f g:II} (hf:f∈F) (hg:g∈F) (M:f≠g) (o:a≠b) (k:a∈f) (E:a∈g) (l:b∈f) (G:b∈g)
  (ca:Cyc (r a) ((A++[pv g a])++(B++[pv f a]))) (ha:(A++[pv g a]).headD 0=nx f a) (mi:(B++[pv f a]).headD 0=nx g a)
  (cb:Cyc (r b) ((A'++[pv f b])++(B'++[pv g b]))) (hb:(A'++[pv f b]).headD 0=nx g b) (sZ:(B'++[pv g b]).headD 0=nx f b):
  ∃X:Nat->Prop,WM r f g a b A B A' B' X:=by
 have S:Tu n r a b (A++[pv g a]) (B++[pv f a]) (A'++[pv f b]) (B'++[pv g b]):=⟨R,o,R.lt _ _ (O.df R hf k),R.lt _ _ (O.df R hf l),ca,cb⟩;obtain⟨N,P,Z⟩:=O.pv hf k;obtain⟨g1,g2,g3⟩:=O.pv hg E;obtain⟨f4,f5,f6⟩:=O.pv hf l;obtain⟨Q,T,g6⟩:=O.pv hg G;have U:∀d,WD (Nv r) (pv g a,a) d↔∃u∈g,d=(u,nx g u):=fun d=>by grind [FO.orb]
 have H:∀d,WD (Nv r) (pv f b,b) d↔∃u∈f,d=(u,nx f u):=fun d=>by grind [FO.orb]
 have V:¬WD (Nv r) (pv g a,a) (pv f a,a):=fun h=>by grind [FO.uniq]
 have j:WD (Nv r) (pv f b,b) (pv f a,a):=(H _).2 ⟨pv f a,N,by rw[P]⟩;have h2:WD (Nv r) (pv g a,a) (pv g b,b):=(U _).2 ⟨pv g b,Q,by rw[T]⟩;have W:=S.parts D V j h2;have nA:=ca.perm.nodup_iff.1 (R.nd a);have nB:=cb.perm.nodup_iff.1 (R.nd b);have dA:∀{q:Nat},q∈A++[pv g a]->q∉B++[pv f a]:=fun j h2=>S.disA j h2;have dB:∀{q:Nat},q∈A'++[pv f b]->q∉B'++[pv g b]:=fun j h2=>S.disB j h2;have m:Cr (uO n a b r (A++[pv g a]) (B++[pv f a]) (A'++[pv f b]) (B'++[pv g b])) a b:=by
  have:=HQ S O hf k l o fun v j h2=>⟨j,h2⟩;have I:pF n a b (B++[pv f a]) (B'++[pv g b]) a (nx f a)=a:=by grind [pF,BX]
  have L:pF n a b (B++[pv f a]) (B'++[pv g b]) b (pv f b)=b:=by unfold pF;grind
  grind
 have p:Cr (uO n a b r (A++[pv g a]) (B++[pv f a]) (A'++[pv f b]) (B'++[pv g b])) (n+1) n:=by
  have:=HQ S O hf l k (Hs o) fun v j h2=>⟨h2,j⟩;have I:pF n a b (B++[pv f a]) (B'++[pv g b]) b (nx f b)=n+1:=by grind [pF,BX]
  grind [pF]
 have s:=xA S m p W;have R':=S.Rl;have ea:∀v,v≠a->v≠b->∀q,pF n a b (B++[pv f a]) (B'++[pv g b]) v q=v:=fun v j h2 q=>DJ j h2;have inA:∀v∈A++[pv g a],v≠b->v∈uO n a b r (A++[pv g a]) (B++[pv f a]) (A'++[pv f b]) (B'++[pv g b]) a:=fun v i t=>by
  have c:=ca.perm.mem_iff.2 (mJ _ i);have:=S.UQ c;rw[ea v (fun e=>R.ir a (e▸c)) t]at this
  grind [pF]
 have inB:∀v∈B++[pv f a],v≠b->v∈uO n a b r (A++[pv g a]) (B++[pv f a]) (A'++[pv f b]) (B'++[pv g b]) n:=fun v i t=>by
  have c:=ca.perm.mem_iff.2 (Ki _ i);have:=S.UQ c;rw[ea v (fun e=>R.ir a (e▸c)) t]at this
  grind [pF]
 have z:∀v∈A'++[pv f b],v≠a->v∈uO n a b r (A++[pv g a]) (B++[pv f a]) (A'++[pv f b]) (B'++[pv g b]) b:=fun v i x=>by
  have c:=cb.perm.mem_iff.2 (mJ _ i);have:=S.UQ c;rw[ea v x (fun e=>R.ir b (e▸c))]at this
  grind [pF]
 have C:∀v∈B'++[pv g b],v≠a->v∈uO n a b r (A++[pv g a]) (B++[pv f a]) (A'++[pv f b]) (B'++[pv g b]) (n+1):=fun v i x=>by
  have c:=cb.perm.mem_iff.2 (Ki _ i);have:=S.UQ c;rw[ea v x (fun e=>R.ir b (e▸c))]at this
  grind [pF]
 refine⟨fun v=>Cr (uO n a b r (A++[pv g a]) (B++[pv f a]) (A'++[pv f b]) (B'++[pv g b])) a v,ca,ha,mi,cb,hb,sZ,fun v i h=>Cr.one (inA v i h),fun v i h q=>s (q.trans ((Cr.one (inB v i h)).symm R')),fun v i h=>m.step (z v i h),fun v i h q=>s ((q.trans ((Cr.one (C v i h)).symm R')).trans p),fun v w hw j h2 h3 Y=>?_,?_⟩
 .have := S.UQ hw
  rw[ea v j h2,ea w h3 Y]at this;exact⟨fun q=>q.step this,fun q=>q.step (R'.sy _ _ this)⟩
 .constructor
  .intro J
   have c:=ca.perm.mem_iff.2 (mJ _ J);have y:=cb.perm.mem_iff.1 (R.sy _ _ c);refine(WA.1 y).resolve_right fun hB=>?_;have:=S.UQ c;have I:pF n a b (B++[pv f a]) (B'++[pv g b]) a b=a:=by grind [pF]
   have L:pF n a b (B++[pv f a]) (B'++[pv g b]) b a=n+1:=by grind [pF]
   rw[I,L]at this;exact s ((Cr.one this).trans p)
  .intro K
   have c:=cb.perm.mem_iff.2 (mJ _ K);have y:=ca.perm.mem_iff.1 (R.sy _ _ c);refine(WA.1 y).resolve_right fun hB=>?_;have:=S.UQ c
   grind [pF,Cr.trans,Cr.one]
end
end Go.Fw
namespace Go.Fw
attribute [local instance] Classical.propDecidable
theorem JZ {l:II} (nd:l.Nodup) {p:Nat->Prop} [DecidablePred p] {u:Nat} (b:u∈l) (q:p u) (k:nx (l.filter fun v=>decide (p v)) u≠u):
  ∃c1 c2,Cyc l (u::(c1++nx (l.filter fun v=>decide (p v)) u::c2))/\∀v∈c1,¬p v:=by
 obtain⟨c,d⟩:=Cyc.front b;have a:=d.filter fun v=>decide (p v);have e:(u::c).filter (fun v=>decide (p v))=u::c.filter fun v=>decide (p v):=pw;rw[e]at a;have m:u∈l.filter fun v=>decide (p v):=iy.2 ⟨b,pw⟩;have i:=a.nx (nd.sublist jf) m;rw[ET]at i;have hex:∃c1 w c2,c=c1++w::c2/\(∀v∈c1,¬p v)/\p w:=by
  have j:c.filter (fun v=>decide (p v))≠[]:=fun h=>by grind
  clear d a e i
  induction c with
  |nil=>grind
  |cons z c s=>
   by_cases o:p z
   .exact⟨[],z,c,rfl,Ma,o⟩
   grind
 grind
structure yx (n:Nat) (r:Nat->II) (F:Cs) (f g:II):Prop where
 R:V7 n r
 O:FO r F
 fl:Flat n r
 hf:f∈F
 hg:g∈F
 ne:f≠g
 bp:∀v w,r v≠[]->r w≠[]->Cr r v w
def Ul (f g:II):II:=f.filter fun v=>decide (v∈g)
theorem zq {f g:II} {v:Nat}:v∈Ul f g↔v∈f/\v∈g:=by simp[Ul]
section
variable {n : Nat} {r : Nat → List Nat} {F : List (List Nat)} {f g : List Nat}
theorem yx.ndU (T:yx n r F f g):(Ul f g).Nodup:=(T.O.nd f T.hf).sublist jf
structure Wa (r:Nat->II) (f g:II) (A B:Nat->II):Prop where
 c:∀u∈Ul f g,Cyc (r u) ((A u++[pv g u])++(B u++[pv f u]))
 hA:∀u∈Ul f g,(A u++[pv g u]).headD 0=nx f u
 hB:∀u∈Ul f g,(B u++[pv f u]).headD 0=nx g u
def yx.cutU (T:yx n r F f g):∃A B,Wa r f g A B:=by
 have QI:∀u:Nat,∃p:II×II,u∈Ul f g->Cyc (r u) ((p.1++[pv g u])++(p.2++[pv f u]))/\(p.1++[pv g u]).headD 0=nx f u/\(p.2++[pv f u]).headD 0=nx g u:=fun u=>by
  by_cases h:u∈Ul f g
  .obtain ⟨A, B, c, h2, h3⟩ := cut_ex T.R T.O T.hf T.hg T.ne (zq.1 h).1 (zq.1 h).2
   exact⟨(A,B),fun _=>⟨c,h2,h3⟩⟩
  simp_all
 obtain⟨P,b⟩:=WS QI;exact⟨fun u=>(P u).1,fun u=>(P u).2,fun u a=>(b u a).1,fun u a=>(b u a).2.1,fun u a=>(b u a).2.2⟩
variable {A B : Nat → List Nat}
theorem yx.sideU (T:yx n r F f g) (C:Wa r f g A B) (h2:∀u∈Ul f g,nx (Ul f g) u≠u):∃X:Nat->Nat->Prop,∀u∈Ul f g,WM r f g u (nx (Ul f g) u) (A u) (B u) (B (nx (Ul f g) u)) (A (nx (Ul f g) u)) (X u):=by
 have QI:∀u:Nat,∃X:Nat->Prop,u∈Ul f g->WM r f g u (nx (Ul f g) u) (A u) (B u) (B (nx (Ul f g) u)) (A (nx (Ul f g) u)) X:=fun u=>by
  by_cases h:u∈Ul f g
  .have hw := ZP h
   obtain⟨X,a⟩:=sides T.R T.O T.fl T.hf T.hg T.ne (Hs (h2 u h)) (zq.1 h).1 (zq.1 h).2 (zq.1 hw).1 (zq.1 hw).2 (C.c u h) (C.hA u h) (C.hB u h) (C.c _ hw).shift (C.hB _ hw) (C.hA _ hw)
   grind
  simp_all
 obtain⟨X,a⟩:=WS QI;exact⟨X,a⟩
theorem yx.j6 (T:yx n r F f g) {X:Nat->Prop} {u:Nat} (D:u∈Ul f g) (o:nx (Ul f g) u≠u) (S:WM r f g u (nx (Ul f g) u) (A u) (B u) (B (nx (Ul f g) u)) (A (nx (Ul f g) u)) X) {v:Nat} (G:v∈Ul f g) (M:v≠u) (h2:v≠nx (Ul f g) u):¬X v:=by
 obtain⟨c1,c2,m,N⟩:=JZ (T.O.nd f T.hf) (p:=fun v=>v∈g) (zq.1 D).1 (zq.1 D).2 o;have m:Cyc f (u::(c1++nx (Ul f g) u::c2)):=m;have S:=S;generalize nx (Ul f g) u=w at*;have x:=m.perm.nodup_iff.1 (T.O.nd f T.hf);rw[xD,yM,xD,WA,Z6]at x;have H:v∈c2:=by
  have:=m.perm.mem_iff.1 (zq.1 G).1
  grind [zq]
 have b:∀z∈c2,z≠u/\z≠w:=fun z a=>⟨fun e=>x.1 (.inr (.inr (e▸a))),fun e=>x.2.2.1.1 (e▸a)⟩;have c:Cyc f ((w::c2)++(u::c1)):=by grind [Cyc.shift]
 have I:=c.perm.nodup_iff.1 (T.O.nd f T.hf);have h:∀z,z=w\/z∈c2->z∈f:=fun z a=>c.perm.mem_iff.2 (mJ _ (Z6.2 a));have all:∀(i z:Nat),c2[i]?=some z->¬X z:=fun i=>by
  induction i with
  |zero=>
   intro z a;have d:=Gc a;obtain⟨C,E⟩:=b z d;have l:nx f w=z:=by
    rw[c.nx (T.O.nd f T.hf) (h w (.inl rfl))];cases c2 with
    |nil=>cases d
    |cons y c2=>
     injection a with a;subst a;exact Nu (p:=[]) Ma
   refine S.yb z ?_ C
   grind [WM.sZ,BX]
  |succ i J=>
   intro z a;have d:=Gc a;obtain⟨C,E⟩:=b z d;have P:=(qL0.1 a).1;have j:c2[i]?=some (c2[i]'(by omega)):=XJ NH
   have K:=J _ j;have k:=Gc j;generalize c2[i]'(by omega)=y at*
   obtain⟨y1,L⟩:=b y k;have l:nx f y=z:=by
    rw[c.nx (T.O.nd f T.hf) (h y (.inr k))];obtain⟨s,t,e⟩:=ZN j a;have Q:(w::c2)++(u::c1)=(w::s)++y::z::(t++(u::c1)):=by rw[e];simp
    grind [Nu]
   have hd:=T.O.bz f T.hf y (h y (.inr k));rw[l]at hd;exact fun q=>K ((S.Jp y z hd y1 L C E).2 q)
 grind [List.mem_iff_getElem?]
theorem yx.KL (T:yx n r F f g) (C:Wa r f g A B) (h2:∀u∈Ul f g,nx (Ul f g) u≠u) {X:Nat->Nat->Prop} (S:∀u∈Ul f g,WM r f g u (nx (Ul f g) u) (A u) (B u) (B (nx (Ul f g) u)) (A (nx (Ul f g) u)) (X u))
  {l:Nat} (y:l∈Ul f g) {v:Nat} (o:Cr r l v):v∉Ul f g->∃u∈Ul f g,X u v/\∀w∈Ul f g,X w v->w=u:=by
 have ndU:=T.ndU;have Wn:=fun{u} (i:u∈Ul f g) {v}=>T.j6 (v:=v) i (h2 u i) (S u i)
 induction o with
 |refl=>grind
 |@step b v _ j p=>
  intro h;have a:∀w∈Ul f g,v≠w/\v≠nx (Ul f g) w:=fun w hw=>⟨fun e=>h (e▸hw),fun e=>h (e▸ZP hw)⟩;by_cases hb:b∈Ul f g
  .have q := (C.c b hb).perm.mem_iff.1 j
   rcases WA.1 q with hA|hB
   .refine ⟨b, hb, (S b hb).xa v hA (a b hb).2, fun w hw k => ?_⟩
    by_cases c1:b=w
    .exact c1.symm
    exfalso;by_cases c2:nx (Ul f g) w=b
    .grind [WM.yb]
    .exact Wn hw hb c1 (Hs c2) (((S w hw).Jp b v j c1 (Hs c2) (a w hw).1 (a w hw).2).2 k)
   .have s := BJ hb
    have t:=G5 ndU hb;refine⟨pv (Ul f g) b,s,?_,fun w hw k=>?_⟩
    .grind [WM.xb]
    by_cases c1:b=w
    .grind [WM.ya]
    by_cases c2:nx (Ul f g) w=b
    .grind [C9]
    .exact absurd (((S w hw).Jp b v j c1 (Hs c2) (a w hw).1 (a w hw).2).2 k) (Wn hw hb c1 (Hs c2))
  .obtain ⟨u, i, k, x⟩ := p hb
   have d:∀w∈Ul f g,b≠w/\b≠nx (Ul f g) w:=fun w hw=>⟨fun e=>hb (e▸hw),fun e=>hb (e▸ZP hw)⟩;have m:∀w∈Ul f g,X w b↔X w v:=fun w hw=>(S w hw).Jp b v j (d w hw).1 (d w hw).2 (a w hw).1 (a w hw).2
   grind
end
end Go.Fw
namespace Go.Fw
attribute [local instance] Classical.propDecidable
structure Lab (r:Nat->II) (f g:II) (A B:Nat->II) (le:Nat->Nat->Nat):Prop where
 sym:∀v w,w∈r v->le v w=le w v
 inU:∀v w,w∈r v->le v w∈Ul f g
 same:∀v,v∉Ul f g->∀w w',w∈r v->w'∈r v->le v w=le v w'
 out:∀u∈Ul f g,∀w∈A u++[pv g u],le u w=u
 inn:∀u∈Ul f g,∀w∈B u++[pv f u],le u w=pv (Ul f g) u
section
variable {n : Nat} {r : Nat → List Nat} {F : List (List Nat)} {f g : List Nat} {A B : Nat → List Nat}
theorem Wa.TE (T:yx n r F f g) (C:Wa r f g A B) {u w:Nat} (a:u∈Ul f g) (b:w∈A u++[pv g u]) (h2:w∈B u++[pv f u]):False:=by
 have:=(C.c u a).perm.nodup_iff.1 (T.R.nd u)
 grind
theorem yx.labE (T:yx n r F f g) (C:Wa r f g A B) (h2:∀u∈Ul f g,nx (Ul f g) u≠u) {s:Nat} (E:s∈Ul f g):∃le,Lab r f g A B le:=by
 obtain⟨X,S⟩:=T.sideU C h2;have ndU:=T.ndU;have Wn:=fun{u} (d:u∈Ul f g) {v}=>T.j6 (v:=v) d (h2 u d) (S u d);have y:r s≠[]:=fun e=>by
  have:=(C.c s E).perm.length_eq
  grind
 have QI:∀v:Nat,∃u,v∉Ul f g->r v≠[]->u∈Ul f g/\X u v/\∀w∈Ul f g,X w v->w=u:=fun v=>by
  by_cases h:v∉Ul f g/\r v≠[]
  .obtain ⟨u, h3, L, M⟩ := T.KL C h2 S E (T.bp s v y h.2) h.1
   grind
  grind
 obtain⟨KL,m⟩:=WS QI;have a:∀{v w},w∈r v->r v≠[]:=fun h e=>by grind
 have o:∀u∈Ul f g,∀w∈A u++[pv g u],w∉Ul f g->KL w=u:=fun u d w hw b=>by
  have l:w∈r u:=(C.c u d).perm.mem_iff.2 (mJ _ hw);obtain⟨_,_,k⟩:=m w b (a (T.R.sy _ _ l))
  grind [WM.xa,ZP]
 have t:∀u∈Ul f g,∀w∈B u++[pv f u],w∉Ul f g->KL w=pv (Ul f g) u:=fun u d w hw b=>by
  have l:w∈r u:=(C.c u d).perm.mem_iff.2 (Ki _ hw);obtain⟨_,_,k⟩:=m w b (a (T.R.sy _ _ l));have x:=BJ d
  grind [WM.xb,G5]
 have p:∀v w,w∈r v->v∉Ul f g->w∉Ul f g->KL v=KL w:=fun v w hw i b=>by
  obtain⟨k1,k2,_⟩:=m v i (a hw);obtain⟨_,_,J⟩:=m w b (a (T.R.sy _ _ hw));have j:∀z∉Ul f g,z≠KL v/\z≠nx (Ul f g) (KL v):=fun z G=>⟨fun e=>G (e▸k1),fun e=>G (e▸ZP k1)⟩;exact J _ k1 (((S _ k1).Jp v w hw (j v i).1 (j v i).2 (j w b).1 (j w b).2).1 k2)
 have D:∀v∈Ul f g,∀w∈Ul f g,w∈A v++[pv g v]->v∈B w++[pv f w]/\pv (Ul f g) w=v:=fun v i w hw hA=>by
  have l:w∈r v:=(C.c v i).perm.mem_iff.2 (mJ _ hA);have q:w≠v:=fun e=>T.R.ir v (e▸l);have e:w=nx (Ul f g) v:=IE fun h=>Wn i hw q h ((S v i).xa w hA h)
  grind [WM.UQ,c7]
 have H:∀v∈Ul f g,∀w∈Ul f g,w∈B v++[pv f v]->v∈A w++[pv g w]/\pv (Ul f g) v=w:=fun v i w hw hB=>by
  have l:w∈r v:=(C.c v i).perm.mem_iff.2 (Ki _ hB);have q:w≠v:=fun e=>T.R.ir v (e▸l);have x:=BJ i;have I:=(S _ x).xb;have K:=(S _ x).UQ;rw[G5 ndU i]at I K;have e:w=pv (Ul f g) v:=IE fun h=>Wn x hw h (by grind [G5]) (I w hB h)
  grind
 refine⟨fun v w=>if v∉Ul f g then KL v else if w∉Ul f g then KL w else if w∈A v++[pv g v]then v else pv (Ul f g) v,fun v w hw=>?_,fun v w hw=>?_,fun v i w w' _ _=>?_,fun u d w hw=>?_,fun u d w hw=>?_⟩
 .show (if v ∉ Ul f g then KL v else if w ∉ Ul f g then KL w else if w ∈ A v ++ [pv g v] then v else pv (Ul f g) v) = if w ∉ Ul f g then KL w else if v ∉ Ul f g then KL v else if v ∈ A w ++ [pv g w] then w else pv (Ul f g) w
  by_cases c1:v∈Ul f g
  .rw [if_neg (not_not_intro c1)]
   by_cases c2:w∈Ul f g
   .rw [if_neg (not_not_intro c2), if_neg (not_not_intro c2), if_neg (not_not_intro c1)]
    by_cases hA:w∈A v++[pv g v]
    .grind [Wa.TE]
    .have hB := (WA.1 ((C.c v c1).perm.mem_iff.1 hw)).resolve_left hA
     grind
   grind
  .rw [if_pos c1]
   by_cases c2:w∈Ul f g
   all_goals grind
 .show (if v ∉ Ul f g then KL v else if w ∉ Ul f g then KL w else if w ∈ A v ++ [pv g v] then v else pv (Ul f g) v) ∈ Ul f g
  by_cases c1:v∈Ul f g
  .rw [if_neg (not_not_intro c1)]
   by_cases c2:w∈Ul f g
   .rw [if_neg (not_not_intro c2)]
    split
    all_goals grind [BJ]
   .rw[if_pos c2];exact(m w c2 (a (T.R.sy _ _ hw))).1
  grind
 .grind
 .show (if u ∉ Ul f g then KL u else if w ∉ Ul f g then KL w else if w ∈ A u ++ [pv g u] then u else pv (Ul f g) u) = u
  rw[if_neg (not_not_intro d)];by_cases c2:w∈Ul f g
  all_goals grind
 .show (if u ∉ Ul f g then KL u else if w ∉ Ul f g then KL w else if w ∈ A u ++ [pv g u] then u else pv (Ul f g) u) = pv (Ul f g) u
  rw[if_neg (not_not_intro d)];by_cases c2:w∈Ul f g
  all_goals grind [Wa.TE]
theorem Lab.EI (T:yx n r F f g) (C:Wa r f g A B) {le:Nat->Nat->Nat} (L:Lab r f g A B le) {h:II} (hh:h∈F) (hf:h≠f) (hg:h≠g) {z:Nat} (a:z∈h):le z (nx h z)=le (nx h z) (nx h (nx h z)):=by
 have hd:=T.O.bz h hh z a;have hs:=T.O.step h hh z a;have hw:=ZP a;have i:=T.O.bz h hh _ hw;rw[L.sym _ _ hd];have b:=T.R.sy _ _ hd;generalize j:nx h z=w at*;by_cases c:w∈Ul f g
 .obtain ⟨c1, c2⟩ := zq.1 c
  obtain⟨k,x,_⟩:=T.O.pv T.hf c1;obtain⟨l,y,_⟩:=T.O.pv T.hg c2;have m:z≠pv f w:=fun e=>hf (T.O.uniq h hh f T.hf z a (e▸k) pw);have o:z≠pv g w:=fun e=>hg (T.O.uniq h hh g T.hg z a (e▸l) pw);have d:=C.c w c;have nd:=T.R.nd w;have p:=d.perm.nodup_iff.1 nd;have n3:((B w++[pv f w])++(A w++[pv g w])).Nodup:=ab2.nodup_iff.1 p;rcases WA.1 (d.perm.mem_iff.1 b)with hA|hB
  .have s : z ∈ A w := (WA.1 hA).resolve_right fun q => o (Eh.1 q)
   have t:nx (r w) z=nx (A w++[pv g w]) z:=by grind [Cyc.nx,oW]
   grind [ZP,Lab.out]
  .have u : z ∈ B w := (WA.1 hB).resolve_right fun q => m (Eh.1 q)
   have t:nx (r w) z=nx (B w++[pv f w]) z:=by grind [Cyc.shift,Cyc.nx,oW]
   have v:nx h w∈B w++[pv f w]:=by grind [ZP]
   rw[L.inn w c z hB,L.inn w c _ v]
 grind [Lab.same]
def Lab.Jv (T:yx n r F f g) (C:Wa r f g A B) {le:Nat->Nat->Nat} (L:Lab r f g A B le) {h:II} (hh:h∈F) (hf:h≠f) (hg:h≠g) {z y:Nat} (a:z∈h) (c:y∈h):le z (nx h z)=le y (nx h y):=by
 obtain⟨k,rfl⟩:=JT (T.O.nd h hh) a c
 induction k with
 |zero=>rfl
 |succ k d=>
  have b:=(T.O.it hh a k).1;rw[d b];exact L.EI T C hh hf hg b
end
end Go.Fw
namespace Go.Fw
attribute [local instance] Classical.propDecidable
structure XY (n:Nat) (R:Nat->II) (U:II) (SE:Nat->Nat->Prop) (tl:Nat->Nat->Nat) (XL Q YL P:Nat->II):Prop where
 Rl:V7 n R
 nd:U.Nodup
 two:∀u∈U,nx U u≠u
 ssym:∀v w,SE v w->SE w v
 tsym:∀v w,w∈R v->tl v w=tl w v
 all:∀v,v∉U->(∀w∈R v,SE v w)\/((∀w∈R v,¬SE v w)/\∀w∈R v,∀w'∈R v,tl v w=tl v w')
 eH:∀u∈U,Cyc (R u) (XL u++(Q u++(YL u++P u)))
 xl:∀u∈U,∀w∈XL u,¬SE u w/\tl u w=u
 yl:∀u∈U,∀w∈YL u,¬SE u w/\tl u w=pv U u
 q:∀u∈U,∀w∈Q u,SE u w
 p:∀u∈U,∀w∈P u,SE u w
 xne:∀u∈U,XL u≠[]
 yne:∀u∈U,YL u≠[]
noncomputable def tP (c:Prop) (l:II):II:=if c then l.reverse else l
theorem uB {c:Prop} {l:II} {x:Nat}:x∈tP c l↔x∈l:=by grind [tP]
theorem ri (c:Prop) (l:II):(tP c l).Perm l:=by grind [tP]
theorem Me {c:Prop} {l:II} (h:l≠[]):tP c l≠[]:=fun e=>by
 have:=(ri c l).length_eq
 grind
noncomputable def RJ (R:Nat->II) (U:II) (SE:Nat->Nat->Prop) (tl:Nat->Nat->Nat) (XL Q YL P:Nat->II) (J:Nat->Prop) (v:Nat):II:=
 if v∈U then tP (J v) (XL v)++(Q v++(tP (J (pv U v)) (YL v)++P v))
 else tP ((∃w∈R v,¬SE v w)/\J (tl v ((R v).headD 0))) (R v)
section
variable {n : Nat} {R : Nat → List Nat} {U : List Nat} {SE : Nat → Nat → Prop} {tl : Nat → Nat → Nat} {XL Q YL P : Nat → List Nat} {J : Nat → Prop}
theorem XY.perm (B:XY n R U SE tl XL Q YL P) (J:Nat->Prop) (v:Nat):(RJ R U SE tl XL Q YL P J v).Perm (R v):=by
 unfold RJ;split
 .rename_i h
  refine List.Perm.trans ?_ (B.eH v h).perm.symm
  grind [ri]
 grind [ri]
def XY.rotJ (B:XY n R U SE tl XL Q YL P) (J:Nat->Prop):V7 n (RJ R U SE tl XL Q YL P J):=by
 have a:∀{v w},w∈RJ R U SE tl XL Q YL P J v↔w∈R v:=fun{v w}=>(B.perm J v).mem_iff;exact⟨fun v=>(B.perm J v).nodup_iff.2 (B.Rl.nd v),fun v w h=>B.Rl.lt v w (a.1 h),fun v w h=>a.2 (B.Rl.sy v w (a.1 h)),fun v h=>B.Rl.ir v (a.1 h)⟩
def CN {l:II} (h:l≠[]):∃A x,l=A++[x]:=⟨l.dropLast,l.getLast h,(qQ h).symm⟩
theorem XY.step (B:XY n R U SE tl XL Q YL P) {u:Nat} (d:u∈U) (L:¬J u):Flat n (RJ R U SE tl XL Q YL P (fun v=>J v\/v=u))↔Flat n (RJ R U SE tl XL Q YL P J):=by
 have hw:=ZP d;have f:=B.two u d;have r:pv U (nx U u)=u:=c7 B.nd d;have s:pv U u≠u:=fun e=>f (by grind [G5,XY.nd]);have t:∀v∈U,v≠nx U u->pv U v≠u:=fun v o h e=>h (by grind [G5,XY.nd]);generalize nx U u=w at*;have M:∀{v z},z∈RJ R U SE tl XL Q YL P J v↔z∈R v:=fun{v z}=>(B.perm J v).mem_iff;have hR:∀v∈U,∀z,z∈R v↔z∈XL v\/z∈Q v\/z∈YL v\/z∈P v:=fun v o z=>by rw[(B.eH v o).perm.mem_iff];grind
 obtain⟨A,x,D⟩:=CN (B.xne u d);obtain⟨C,y,E⟩:=CN (l:=Q u++(tP (J (pv U u)) (YL u)++P u)) (fun e=>Me (B.yne u d) (IK.1 (IK.1 e).2).1);obtain⟨F,x',i⟩:=CN (B.yne w hw);obtain⟨C',G,j⟩:=CN (l:=P w++(tP (J w) (XL w)++Q w)) (fun e=>Me (B.xne w hw) (IK.1 (IK.1 e).2).1);have N:RJ R U SE tl XL Q YL P J u=XL u++(Q u++(tP (J (pv U u)) (YL u)++P u)):=by grind [RJ,tP]
 have H:Cyc (RJ R U SE tl XL Q YL P J w) (YL w++(P w++(tP (J w) (XL w)++Q w))):=by grind [RJ,tP,Cyc.refl,Cyc.shift]
 have T:Hh n (RJ R U SE tl XL Q YL P J) (fun a b=>b∈R a/\¬SE a b/\tl a b=u) u w A x C y F x' C' G:=by
  refine⟨B.rotJ J,fun a b h=>⟨B.Rl.sy _ _ h.1,fun q=>h.2.1 (B.ssym _ _ q),by rw[<-B.tsym a b h.1];exact h.2.2⟩,Hs f,fun v O h2=>?_,?_,fun a ha=>?_,fun b hb=>?_,?_,fun a ha=>?_,fun b hb=>?_⟩
  .by_cases c : v ∈ U
   all_goals grind [XY.xl,XY.q,XY.yl,XY.p,XY.all]
  all_goals grind [Cyc.refl,XY.xl,XY.q,XY.yl,uB,XY.p]
 rw[<-T.Zv];refine pP.flat (fun v=>?_) (B.rotJ _);rw[<-D,<-E,<-i,<-j];unfold Qu;by_cases c1:v=u
 .grind [RJ,tP,Cyc.refl]
 rw[if_neg c1];by_cases c2:v=w
 .grind [RJ,tP,Cyc.refl,Cyc.shift]
 rw[if_neg c2];by_cases k:v∈U
 .grind [RJ,XY.xl,XY.q,XY.yl,XY.p,Cyc.refl]
 .by_cases m : ∃ a ∈ RJ R U SE tl XL Q YL P J v, a ∈ R v /\ ¬ SE v a /\ tl v a = u
  .rw [if_pos m]
   obtain⟨z,_,I,hs,S⟩:=m;have K:R v≠[]:=fun e=>by grind
   have g:tl v ((R v).headD 0)=u:=by grind [XY.all,Lt]
   have V:RJ R U SE tl XL Q YL P J v=R v:=by grind [RJ,tP]
   have W:RJ R U SE tl XL Q YL P (fun z=>J z\/z=u) v=(R v).reverse:=by
    unfold RJ tP;rw[if_neg k,if_pos ⟨⟨z,I,hs⟩,.inr g⟩]
   grind [Cyc.refl]
  .rw [if_neg m]
   have e:RJ R U SE tl XL Q YL P (fun z=>J z\/z=u) v=RJ R U SE tl XL Q YL P J v:=by
    unfold RJ;rw[if_neg k,if_neg k];congr 1
    grind [Lt,XY.all]
   grind [Cyc.refl]
def FB {J K:Nat->Prop} (h:∀v,J v↔K v):RJ R U SE tl XL Q YL P J=RJ R U SE tl XL Q YL P K:=by
 have:J=K:=funext fun v=>propext (h v);rw[this]
theorem XY.flatJ (B:XY n R U SE tl XL Q YL P) (hf:Flat n R):∀L:II,L.Nodup->(∀u∈L,u∈U)->Flat n (RJ R U SE tl XL Q YL P fun v=>v∈L)
 |[],_,_=>by
  refine(pP.flat (fun v=>?_) (B.rotJ _)).2 hf
  grind [RJ,tP,XY.eH,Cyc.symm,Cyc.refl]
 |u::L,nd,a=>by
  rw[xD]at nd;have c:=B.flatJ hf L nd.2 fun v b=>a v (ZT _ b);rw[FB (K:=fun v=>v∈L\/v=u) fun v=>by grind]
  grind [XY.step,List.mem_cons_self]
noncomputable def Vp (R:Nat->II) (U:II) (SE:Nat->Nat->Prop) (XL Q YL P:Nat->II) (v:Nat):II:=
 if v∈U then XL v++((P v).reverse++(YL v++(Q v).reverse))else if∃w∈R v,¬SE v w then R v else(R v).reverse
theorem XY.Vp (B:XY n R U SE tl XL Q YL P) (hf:Flat n R) (b:∀v,v∉U->∀w∈R v,¬SE v w->tl v w∈U):pP (qI (RJ R U SE tl XL Q YL P fun v=>v∈U)) (Vp R U SE XL Q YL P)/\Flat n (Go.Fw.Vp R U SE XL Q YL P)/\V7 n (Go.Fw.Vp R U SE XL Q YL P):=by
 have a:=B.rotJ fun v=>v∈U;have S:pP (qI (RJ R U SE tl XL Q YL P fun v=>v∈U)) (Go.Fw.Vp R U SE XL Q YL P):=fun v=>by
  unfold qI Go.Fw.Vp RJ;by_cases c:v∈U
  .grind [tP,BJ,Cyc.refl,Cyc.shift]
  .rw [if_neg c, if_neg c]
   by_cases d:∃w∈R v,¬SE v w
   all_goals grind [XY.all,tP,List.reverse_reverse,Cyc.refl]
 refine⟨S,?_,S.Rl (Xn a)⟩;rw[<-S.flat (Xn a),We a]
 grind [XY.flatJ,XY.nd]
end
end Go.Fw
