/- A text. -/
import Derived.Test.YtkccdnmaaelbiaaGreatFwKB2
set_option linter.all false
set_option maxRecDepth 99999
set_option maxHeartbeats 9999999
namespace Go.Fw
section
attribute [local irreducible] Kp MQ lU rS KO KN KX KE VK Kl ZJ TC aab
attribute [local irreducible] Jz JL vq cQ uc sT aaT
open Go.Proofs
variable {es fs:List Pr} {m n:Nat} {π:Nat->Nat}
def H9.upto (I:H9 n es fs π) (h:n<=m):H9 m es fs fun u=>if u<n then π u else u:=by
 have more:∀{es},aV n es->aV m es:=fun d p f=>by obtain⟨g,h2,h3⟩:=d p f;exact⟨g,h2,NH⟩
 refine⟨more I.r1,more I.r2,fun a ha=>?_,fun a b ha hb e=>?_,fun x i=>?_,fun a b ha hb=>?_⟩
 .try simp only
  split
  .rename_i c;have:=I.lt a c;omega
  .exact ha
 .try simp only at e
  split at e<;>split at e<;>rename_i c1 c2
  .exact I.inj a b c1 c2 e
  .have:=I.lt a c1;omega
  .have:=I.lt b c2;omega
  .exact e
 .by_cases c : x < n
  .obtain ⟨a, ha, rfl⟩ := I.UB x c
   exact⟨a,NH,if_pos ha⟩
  .exact⟨x,i,if_neg c⟩
 .try simp only
  by_cases c1:a<n
  .by_cases c2 : b < n
   .rw[if_pos c1,if_pos c2];exact I.Jp a b c1 c2
   .rw [if_pos c1, if_neg c2]
    exact⟨fun q=>absurd (q.lt I.r2).2 c2,fun q=>absurd (q.lt I.r1).2 c2⟩
  .rw [if_neg c1]
   exact⟨fun q=>absurd (q.lt I.r2).1 c1,fun q=>absurd (q.lt I.r1).1 c1⟩
def ac1 (a:bX ⟨(n:Int),es⟩):bX ⟨((200:Nat):Int),es⟩:=
 bX.of (qL0 _) a.len (fun p b=>by
  obtain⟨c,h2,h3⟩:=a.GD p b;have:(n:Int)<=200:=a.n1;exact⟨c,h2,NH⟩) a.q9
def afl (I:H9 n es fs π) (b:bX ⟨(n:Int),es⟩) (a:bX ⟨(n:Int),fs⟩) (c:fs.length=es.length):aat fs=aat es:=by
 have d:n<=200:=by have:(n:Int)<=200:=b.n1;omega
 have e:aat es=aaT es:=if_pos (ac1 b);have f:aat fs=aaT fs:=if_pos (ac1 a);rw[e,f];exact kind_iso (I.upto d) b.q9 a.q9 c
end
end Go.Fw
namespace Go.Fw
open Go.Proofs
section
variable {n : Nat} {es : List Pr} (hR : aV n es) (hA : D3 es)
include hR hA
theorem abG {x y z:Nat} (h2:((Zh n es).getD y []).length=2) (d:Jp es y x) (g:Jp es y z) (ne:x≠z):goS (Zh n es) (x,y)=(y,z):=by
 obtain⟨a,b,e,nab,h3,h,f⟩:=aa9 hR hA h2;have k1:=f x d;unfold goS;rw[e];simp only[af1,af2];rcases k1 with rfl|rfl
 .grind
 .grind
theorem ace {x y:Nat} (h2:((Zh n es).getD y []).length=2) (d:Jp es y x):∃z,z≠x/\Jp es y z/\∀w,Jp es y w->w=x\/w=z:=by
 obtain⟨a,b,e,nab,h3,g,f⟩:=aa9 hR hA h2;rcases f x d with rfl|rfl
 .exact pw
 .exact pw
def aa8 (n:Nat) (es:List Pr) (d:Nat×Nat) (K:Nat) (e:Nat×Nat):Prop:=it (goS (Zh n es)) K d=e/\∀i,i<K->((Zh n es).getD (it (goS (Zh n es)) i d).2 []).length=2
omit hR hA in
theorem aa8.trans {d e f:Nat×Nat} {K M:Nat} (h:aa8 n es d K e) (k:aa8 n es e M f):aa8 n es d (K+M) f:=by
 obtain⟨rfl,h2⟩:=h;obtain⟨rfl,k2⟩:=k;refine⟨by rw[Nat.add_comm,qu],fun i hi=>?_⟩;by_cases c:i<K
 .exact h2 i c
 .have := k2 (i - K) NH
  rwa[<-qu,show i-K+K=i by omega]at this
omit hR hA in
theorem aa8.one {d e:Nat×Nat} (h:goS (Zh n es) d=e) (h2:((Zh n es).getD d.2 []).length=2):aa8 n es d 1 e:=
 ⟨h,fun i hi=>by rw[show i=0 by omega];exact h2⟩
theorem ae5 (a:n<=200) {c v:Nat} (b:Jp es c v) (hc:((Zh n es).getD c []).length≠2) {K:Nat} {e:Nat×Nat} (h:aa8 n es (c,v) K e) (g:((Zh n es).getD e.2 []).length≠2):aaj (Zh n es) (c,v)=(e.2,K):=by
 obtain⟨d,i,h2,h3,f⟩:=ab6 hR hA a b hc;obtain⟨rfl,k2⟩:=h;rcases Tj K d with q|rfl|q
 .exact pw
 .exact f
 .exact pw
end
def abx (rows:AM) (cs:II):List (Nat×Nat):=(aai rows cs).flatMap fun d=>(List.range ((aaj rows d).2+1)).map fun i=>it (goS rows) i d
def acu (rows:AM) (cs:II):(abx rows cs).length=aaO rows cs:=by
 unfold abx aaO;simp
def aef (es:List Pr):List (Nat×Nat):=es.flatMap fun p=>[(p.1.toNat,p.2.toNat),(p.2.toNat,p.1.toNat)]
def ac4 (es:List Pr):(aef es).length=2*es.length:=by
 unfold aef
 induction es with
 |nil=>rfl
 |cons p l a=>rw[acw,vZ,a];simp;omega
theorem acf {es:List Pr} {x y:Nat} (h:Jp es x y):(x,y)∈aef es:=by
 unfold aef;rw[QD];rcases h with h|h
 .exact pw
 .exact pw
section
variable {es : List Pr} (hR : aV 200 es) (hA : D3 es) {cs : List Nat} (hc : ∀ c ∈ cs, c < 200 ∧ ((Zh 200 es).getD c []).length ≠ 2)
include hR hA hc
omit hA in
theorem abh {d:Nat×Nat} (hd:d∈aai (Zh 200 es) cs):Jp es d.1 d.2/\((Zh 200 es).getD d.1 []).length≠2/\d.1∈cs:=by
 rw[aaJ,QD]at hd;obtain⟨c,a,hd⟩:=hd;obtain⟨w,hw,rfl⟩:=HV.1 hd;exact(by grind [aaf])
def aa7 {d:Nat×Nat} (hd:d∈aai (Zh 200 es) cs):aa8 200 es d (aaj (Zh 200 es) d).2 (it (goS (Zh 200 es)) (aaj (Zh 200 es) d).2 d)/\(it (goS (Zh 200 es)) (aaj (Zh 200 es) d).2 d).2=(aaj (Zh 200 es) d).1/\((Zh 200 es).getD (aaj (Zh 200 es) d).1 []).length≠2:=by
 obtain⟨a,h2,-⟩:=abh hR hc hd;obtain⟨K,k1,k2,b,f⟩:=ab6 hR hA (qL0 _) (c:=d.1) (v:=d.2) a h2;have e:aaj (Zh 200 es) d=((it (goS (Zh 200 es)) K (d.1,d.2)).2,K):=f;rw[e];exact⟨⟨rfl,k2⟩,rfl,b⟩
theorem ae6 {x:Nat×Nat} (h:x∈abx (Zh 200 es) cs):Jp es x.1 x.2:=by
 unfold abx at h;rw[QD]at h;obtain⟨d,hd,h⟩:=h;obtain⟨i,hi,rfl⟩:=HV.1 h;have hi:=uV.1 hi;exact aa5 hR hA (abh hR hc hd).1 i fun q a=>(aa7 hR hA hc hd).1.2 q NH
theorem aev (l:cs.Nodup):(abx (Zh 200 es) cs).Nodup:=by
 have nd:(aai (Zh 200 es) cs).Nodup:=by
  rw[aaJ,kc,qk];refine⟨fun c _=>?_,l.imp fun h x g y k e=>?_⟩
  .rw [Hs]
   exact(by grind [aaG])
  .obtain ⟨w, -, rfl⟩ := HV.1 g
   obtain⟨z,-,rfl⟩:=HV.1 k;exact pw
 have key:∀d∈aai (Zh 200 es) cs,∀f∈aai (Zh 200 es) cs,∀i j,i<=j->i<=(aaj (Zh 200 es) d).2->j<=(aaj (Zh 200 es) f).2->it (goS (Zh 200 es)) i d=it (goS (Zh 200 es)) j f->i=j/\d=f:=by
  intro d hd f a i
  induction i with
  |zero=>
   intro j _ _ b e;rcases j with _|j
   .exact⟨rfl,e⟩
   .exfalso
    have m:d.1=(it (goS (Zh 200 es)) j f).2:=by grind [goS,it]
    have:=(aa7 hR hA hc a).1.2 j NH;rw[<-m]at this;exact(abh hR hc hd).2.1 this
  |succ i o=>
   intro j p hi b e;rcases j with _|j
   .omega
   have a1:=aa5 hR hA (abh hR hc hd).1 i fun q r=>(aa7 hR hA hc hd).1.2 q NH;have a2:=aa5 hR hA (abh hR hc a).1 j fun q r=>(aa7 hR hA hc a).1.2 q NH;have:=aeP hR hA a1.symm a2.symm ((aa7 hR hA hc hd).1.2 i NH) e;obtain⟨s,h2⟩:=o j NH NH NH this;exact pw
 unfold abx;rw[kc,qk];refine⟨fun d hd=>?_,(kc.1 nd).imp_of_mem fun{d f} hd a ne x g y k e=>?_⟩
 .rw [Hs]
  refine ff (fun{i j} hi b h e=>?_) pz;have b:=uV.1 b;have:=(key d hd d hd i j NH NH NH e).1;omega
 .obtain ⟨i, hi, rfl⟩ := HV.1 g
  obtain⟨j,b,rfl⟩:=HV.1 k;have hi:=uV.1 hi;have b:=uV.1 b;rcases LN i j with q|q
  .exact pw
  .exact pw
theorem aew (a:cs.Nodup):aaO (Zh 200 es) cs<=2*es.length:=by
 rw[<-acu,<-ac4];exact tf (by grind [aev]) fun x b=>by grind [acf,ae6]
def adC (b:cs.Nodup) (h:aaO (Zh 200 es) cs=2*es.length) {x y:Nat} (a:Jp es x y):(x,y)∈abx (Zh 200 es) cs:=by
 refine Eh fun d=>?_;have:=tf (ZT.2 ⟨d,aev hR hA hc b⟩) (B:=aef es) fun z e=>by
  rcases WA.1 e with rfl|q
  .exact acf a
  .exact acf (ae6 hR hA hc q)
 rw[vg,acu,ac4,h]at this;omega
end
end Go.Fw
namespace Go.Fw
open Go.Proofs
structure UpK (L L':List Pr) (a b v:Nat):Prop where
 r1:aV 200 L
 r2:aV 200 L'
 a1:D3 L
 a2:D3 L'
 ab:Jp L a b
 iso:∀w,¬Jp L v w
 up:∀x y,Jp L' x y↔upA (Jp L) a b v x y
 len:L'.length=L.length+1
def isU (a b:Nat) (d:Nat×Nat):Bool:=(d.1==a&&d.2==b)||(d.1==b&&d.2==a)
def aaC (a b v:Nat) (d:Nat×Nat):Nat×Nat:=if isU a b d then(d.1,v)else d
theorem aaH {a b x y:Nat}:isU a b (x,y)=true↔(x=a/\y=b)\/(x=b/\y=a):=by simp[isU]
theorem abH (a b v:Nat) (d:Nat×Nat):(aaC a b v d).1=d.1:=by unfold aaC;split<;>rfl
section
variable {L L' : List Pr} {a b v : Nat} (U : UpK L L' a b v)
include U
def UpK.nab:a≠b:=fun e=>by have:=U.ab;rw[e]at this;exact Xa U.r1 this
def UpK.nva:v≠a:=fun e=>U.iso b (e▸U.ab)
def UpK.nvb:v≠b:=fun e=>U.iso a (e▸U.ab.symm)
theorem UpK.nv {x y:Nat} (h:Jp L x y):x≠v/\y≠v:=by grind [UpK.iso,Jp.symm]
theorem UpK.row {x:Nat} (g:x≠v):(aa0 (Zh 200 L') x).Perm ((aa0 (Zh 200 L) x).map fun w=>(aaC a b v (x,w)).2):=by
 refine aaZ (aaG U.r2 U.a2 _) (aeu (aaG U.r1 U.a1 _) fun p d q f e=>?_) fun w=>?_
 .have d := U.nv ((aaf U.r1).1 d)
  have f:=U.nv ((aaf U.r1).1 f);unfold aaC at e;by_cases c1:isU a b (x,p)=true<;>by_cases c2:isU a b (x,q)=true
  .rw[aaH]at c1 c2;omega
  .rw[if_pos c1,if_neg c2]at e;exact pw
  .rw[if_neg c1,if_pos c2]at e;exact absurd e d.2
  .rw[if_neg c1,if_neg c2]at e;exact e
 .rw [aaf U.r2, U.up, HV]
  have ab:=U.ab;constructor
  .rintro (⟨h, n1, i⟩ | ⟨h, -⟩ | ⟨rfl, h⟩)
   .refine ⟨w, (aaf U.r1).2 h, ?_⟩
    unfold aaC;rw[if_neg (by rw[aaH];omega)]
   .exact absurd h g
   .rcases h with rfl | rfl
    .exact⟨b,(aaf U.r1).2 ab,by unfold aaC;rw[if_pos (by grind [aaH])]⟩
    .exact⟨a,(aaf U.r1).2 ab.symm,by unfold aaC;rw[if_pos (by grind [aaH])]⟩
  .rintro ⟨p, d, rfl⟩
   have d:=(aaf U.r1).1 d;unfold aaC;split
   .rename_i c
    rw[aaH]at c;exact .inr (.inr ⟨rfl,c.imp (·.1) (·.1)⟩)
   .rename_i c
    rw[aaH]at c;exact .inl pw
theorem UpK.deg {x:Nat} (c:x≠v):((Zh 200 L').getD x []).length=((Zh 200 L).getD x []).length:=by rw[<-aaz,<-aaz,(U.row c).length_eq,eR]
theorem UpK.deg0:((Zh 200 L).getD v []).length=0:=by
 rw[<-aaz];rcases h:aa0 (Zh 200 L) v with _|⟨w,l⟩
 .rfl
 .exact absurd ((aaf U.r1).1 (by grind [Zh])) (U.iso w)
theorem UpK.acp:((Zh 200 L').getD v []).length=2:=by
 have:(aa0 (Zh 200 L') v).Perm [a,b]:=aaZ (aaG U.r2 U.a2 _) (by simp[U.nab]) fun w=>by
  rw[aaf U.r2,U.up];have c:=U.iso;have h2:=U.nva;have h3:=U.nvb;simp only[WA,vY,or_false];constructor
  .rintro (⟨h, -⟩ | ⟨-, h⟩ | ⟨-, h⟩)
   .exact absurd h (c w)
   .exact h
   .omega
  .intro h;exact .inr pw
 rw[<-aaz,this.length_eq];rfl
def UpK.sg {d:Nat×Nat} (hd:Jp L d.1 d.2):Jp L' (aaC a b v d).1 (aaC a b v d).2:=by
 obtain⟨x,y⟩:=d;have c:=(U.nv hd).1;have:=(U.row c).mem_iff.2 (HV.2 ⟨y,(aaf U.r1).2 hd,rfl⟩);rw[abH];exact(aaf U.r2).1 this
theorem UpK.step {d:Nat×Nat} (hd:Jp L d.1 d.2) (h2:((Zh 200 L).getD d.2 []).length=2):
  aa8 200 L' (aaC a b v d) (1+if isU a b d then 1 else 0) (aaC a b v (goS (Zh 200 L) d)):=by
 obtain⟨x,y⟩:=d;obtain⟨z,i,f,hw⟩:=ace U.r1 U.a1 h2 hd.symm;rw[abG U.r1 U.a1 h2 hd.symm f (fj i)];have ny:=(U.nv hd).2;have nx:=(U.nv hd).1;have j:=(U.nv f).2;have d2:((Zh 200 L').getD y []).length=2:=by rw[U.deg ny];exact h2
 have s1:=U.sg (d:=(y,z)) f;have k:aaC a b v (y,z)=(y,(aaC a b v (y,z)).2):=by grind [abH]
 rw[k]at s1 ⊢;by_cases c:isU a b (x,y)=true
 .have nb : ¬ isU a b (y, z) = true := by rw [aaH] at c ⊢; omega
  have s2:=U.sg (d:=(x,y)) hd;have g:aaC a b v (x,y)=(x,v):=by unfold aaC;rw[if_pos c]
  have e3:(aaC a b v (y,z)).2=z:=by unfold aaC;rw[if_neg nb]
  rw[g]at s2 ⊢;rw[e3]at s1 ⊢;rw[if_pos c];have h:Jp L' y v:=(U.up _ _).2 (.inr (by grind [aaH]));refine(aa8.one (e:=(v,y)) ?_ U.acp).trans (aa8.one ?_ d2)
  .exact abG U.r2 U.a2 U.acp s2.symm h.symm (fun e=>by subst e;exact Xa U.r1 hd)
  .exact(by grind [abG,UpK.r2,UpK.a2])
 .have g : aaC a b v (x, y) = (x, y) := by unfold aaC; rw [if_neg c]
  have s2:=U.sg (d:=(x,y)) hd;rw[g]at s2 ⊢;rw[if_neg c];refine aa8.one ?_ d2;refine abG U.r2 U.a2 d2 s2.symm s1 fun e=>?_;unfold aaC at e;split at e
  .exact nx e
  .exact i e.symm
def abQ (a b:Nat) (L:List Pr) (d:Nat×Nat) (K:Nat):Nat:=((List.range K).map fun i=>it (goS (Zh 200 L)) i d).countP (isU a b)
omit U in
theorem acI (d:Nat×Nat) (K:Nat):abQ a b L d (K+1)=abQ a b L d K+if isU a b (it (goS (Zh 200 L)) K d)then 1 else 0:=by
 unfold abQ;rw[Bx,j3,List.countP_append];simp[aeB]
theorem UpK.run {d:Nat×Nat} (hd:Jp L d.1 d.2) (K:Nat):(∀i,i<K->((Zh 200 L).getD (it (goS (Zh 200 L)) i d).2 []).length=2)->aa8 200 L' (aaC a b v d) (K+abQ a b L d K) (aaC a b v (it (goS (Zh 200 L)) K d)):=by
 induction K with
 |zero=>exact fun _=>⟨rfl,(by grind [abQ])⟩
 |succ K c=>
  intro h;have:=(c fun i hi=>h i NH).trans (U.step (aa5 U.r1 U.a1 hd K fun i hi=>h i NH) (h K NH));rw[acI]
  rwa[show K+abQ a b L d K+(1+if isU a b (it (goS (Zh 200 L)) K d)=true then 1 else 0)=K+1+(abQ a b L d K+if isU a b (it (goS (Zh 200 L)) K d)=true then 1 else 0) by omega]at this
theorem UpK.Wn {cs:II} (k:∀c∈cs,c<200/\((Zh 200 L).getD c []).length≠2) {d:Nat×Nat} (hd:d∈aai (Zh 200 L) cs):
  aaj (Zh 200 L') (aaC a b v d)=((aaj (Zh 200 L) d).1,(aaj (Zh 200 L) d).2+abQ a b L d ((aaj (Zh 200 L) d).2+1)):=by
 obtain⟨f,h2,-⟩:=abh U.r1 k hd;obtain⟨⟨-,k2⟩,l,m⟩:=aa7 U.r1 U.a1 k hd;generalize n:(aaj (Zh 200 L) d).2=K at*;have r:=U.run f K k2;have g:=aa5 U.r1 U.a1 f K k2;rw[acI];generalize it (goS (Zh 200 L)) K d=e at*;obtain⟨x,y⟩:=e;subst l;have nv:=U.nv g;have i:((Zh 200 L').getD (aaj (Zh 200 L) d).1 []).length≠2:=by rw[U.deg nv.2];exact m
 have r2:aa8 200 L' (aaC a b v d) (K+abQ a b L d K+if isU a b (x,(aaj (Zh 200 L) d).1)=true then 1 else 0) ((if isU a b (x,(aaj (Zh 200 L) d).1)=true then v else x),(aaj (Zh 200 L) d).1):=by
  by_cases c:isU a b (x,(aaj (Zh 200 L) d).1)=true
  .rw [if_pos c, if_pos c]
   have h:aaC a b v (x,(aaj (Zh 200 L) d).1)=(x,v):=by unfold aaC;rw[if_pos c]
   rw[h]at r;have s2:=U.sg (d:=(x,(aaj (Zh 200 L) d).1)) g;rw[h]at s2;have j:Jp L' (aaj (Zh 200 L) d).1 v:=(U.up _ _).2 (.inr (by grind [aaH]));exact r.trans (aa8.one (abG U.r2 U.a2 U.acp s2.symm j.symm (fun e=>by rw[e]at g;exact Xa U.r1 g)) U.acp)
  .rw [if_neg c, if_neg c]
   have h:aaC a b v (x,(aaj (Zh 200 L) d).1)=(x,(aaj (Zh 200 L) d).1):=by unfold aaC;rw[if_neg c]
   rw[h]at r;exact r
 have s0:=U.sg f;have d1:((Zh 200 L').getD (aaC a b v d).1 []).length≠2:=by rw[abH,U.deg (U.nv f).1];exact h2
 have:=ae5 U.r2 U.a2 (qL0 _) (c:=(aaC a b v d).1) (v:=(aaC a b v d).2) s0 d1 r2 i;refine Eq.trans this (IC rfl ?_);omega
def UpK.corn:aac (Zh 200 L')=aac (Zh 200 L):=by
 unfold aac;rw[Xq,Xq];refine qH fun x _=>?_;unfold aax;by_cases e:x=v
 .subst e;rw[U.deg0,U.acp];rfl
 .rw[U.deg e]
theorem UpK.bad:(Zh 200 L').any aaR=(Zh 200 L).any aaR:=by
 rw[acN,b7,b7];have one:∀{A B:List Pr},(∀x,x<200->aaR ((Zh 200 A).getD x [])=true->aaR ((Zh 200 B).getD x [])=true)->(∃r∈Zh 200 A,aaR r=true)->∃r∈Zh 200 B,aaR r=true:=fun{A B} h=>by
  rintro⟨r,d,hb⟩;obtain⟨i,hi,rfl⟩:=Bn.1 d;have c:i<200:=by rw[Xq]at hi;exact hi
  have f:i<(Zh 200 B).length:=by rw[Xq];exact c
  have:=h i c (by rw[D4 hi];exact hb);rw[D4 f]at this;exact(by grind [List.getElem_mem])
 constructor
 .refine one fun x _ h => ?_
  by_cases e:x=v
  .subst e;unfold aaR at h;rw[U.acp]at h;cases h
  .unfold aaR at h ⊢;rw[U.deg e]at h;exact h
 .refine one fun x _ h => ?_
  by_cases e:x=v
  .subst e;unfold aaR at h;rw[U.deg0]at h;cases h
  .unfold aaR at h ⊢;rw[U.deg e];exact h
theorem UpK.aai {cs:II} (g:∀c∈cs,c<200/\((Zh 200 L).getD c []).length≠2) (f:v∉cs):(aai (Zh 200 L') cs).Perm ((aai (Zh 200 L) cs).map (aaC a b v)):=by
 rw[aaJ,aaJ,List.map_flatMap];refine ac0 fun c d=>?_;have:=(U.row (x:=c) fun e=>f (e▸d)).map fun w=>(c,w);rw[KG]at this;rw[KG];refine this.trans ?_;refine List.Perm.of_eq (Uz fun w _=>?_);exact(by grind [abH])
def UpK.aaE {cs:II} (e:∀c∈cs,c<200/\((Zh 200 L).getD c []).length≠2) (f:v∉cs):aaE (Zh 200 L') cs=aaE (Zh 200 L) cs:=by
 funext p;unfold Go.Fw.aaE;rw[((U.aai e f).map (aaD (Zh 200 L'))).count_eq p,KG];refine congrArg (List.count p) (Uz fun d hd=>?_);simp only[Function.comp,acb,U.Wn e hd,abH]
theorem UpK.aaO {cs:II} (f:∀c∈cs,c<200/\((Zh 200 L).getD c []).length≠2) (g:v∉cs):aaO (Zh 200 L') cs=aaO (Zh 200 L) cs+(abx (Zh 200 L) cs).countP (isU a b):=by
 unfold Go.Fw.aaO abx;rw[((U.aai f g).map fun d=>(aaj (Zh 200 L') d).2+1).sum_nat,KG,List.countP_flatMap];have key:∀l:List (Nat×Nat),(∀d∈l,d∈Go.Fw.aai (Zh 200 L) cs)->(l.map ((fun d=>(aaj (Zh 200 L') d).2+1)∘aaC a b v)).sum=(l.map fun d=>(aaj (Zh 200 L) d).2+1).sum+(l.map (List.countP (isU a b)∘fun d=>(List.range ((aaj (Zh 200 L) d).2+1)).map fun i=>it (goS (Zh 200 L)) i d)).sum:=by
  intro l
  induction l with
  |nil=>intro _;rfl
  |cons d l j=>
   intro h;have e:=U.Wn f (h d Ma);rw[wI,wI,wI,MY,MY,MY,j fun q k=>h q (by simp[k])];simp only[Function.comp,e];unfold abQ;omega
 exact pw
theorem UpK.steps {cs:II} (d:∀c∈cs,c<200/\((Zh 200 L).getD c []).length≠2) (g:v∉cs) (e:cs.Nodup):Go.Fw.aaO (Zh 200 L') cs=2*L'.length↔Go.Fw.aaO (Zh 200 L) cs=2*L.length:=by
 rw[U.aaO d g,U.len];have le:=aew U.r1 U.a1 d e;have nd:((abx (Zh 200 L) cs).filter (isU a b)).Nodup:=(aev U.r1 U.a1 d e).filter _;have h2:(abx (Zh 200 L) cs).countP (isU a b)<=2:=by
  rw[aez];refine tf nd (B:=[(a,b),(b,a)]) fun x f=>?_;have:=(VU.1 f).2;rw[aaH]at this;rcases this with⟨rfl,rfl⟩|⟨rfl,rfl⟩<;>simp
 constructor
 .omega
 .intro h
  have m1:=adC U.r1 U.a1 d e h U.ab;have m2:=adC U.r1 U.a1 d e h U.ab.symm;have:2<=(abx (Zh 200 L) cs).countP (isU a b):=by
   rw[aez];have:=tf (A:=[(a,b),(b,a)]) (B:=(abx (Zh 200 L) cs).filter (isU a b)) (by have:=U.nab;grind) fun x f=>by
    simp only[WA,vY,or_false]at f;rw[VU];rcases f with rfl|rfl
    .exact(by grind [aaH])
    .exact(by grind [aaH])
   exact this
  omega
theorem UpK.kind:aaT L'=aaT L:=by
 have g:∀c∈aac (Zh 200 L),_:=fun c h=>abu h;have i:v∉aac (Zh 200 L):=by grind [aac.eq_1,aax.eq_1,UpK.deg0]
 have j:(aac (Zh 200 L)).Nodup:=Tn.filter _;have k:∀E,abc (Zh 200 L') (aac (Zh 200 L)) L'.length E=abc (Zh 200 L) (aac (Zh 200 L)) L.length E:=fun E=>by
  have d:(aac (Zh 200 L)).any (fun c=>((Zh 200 L').getD c []).length !=E)=(aac (Zh 200 L)).any fun c=>((Zh 200 L).getD c []).length !=E:=by
   rw[acN,b7,b7];have e:∀c∈aac (Zh 200 L),((Zh 200 L').getD c []).length=((Zh 200 L).getD c []).length:=by grind [UpK.deg]
   exact pw
  unfold abc;rw[d,U.aaE g i];have:=U.steps g i j;by_cases q:Go.Fw.aaO (Zh 200 L) (aac (Zh 200 L))=2*L.length
  .have f := this.2 q
   simp only[q,f,ne_eq,not_true_eq_false,if_false,bne_self_eq_false,xH]
  .have f : ¬ Go.Fw.aaO (Zh 200 L') (aac (Zh 200 L)) = 2 * L'.length := pw
   simp[q,f]
 rw[abm,abm,U.bad,U.corn];simp only[k]
end
end Go.Fw
namespace Go.Fw
section
attribute [local instance] Classical.propDecidable
open Go.Proofs
variable {a b n t v:Nat} {es:List Pr}
def Tw2 (A:Nat->Nat->Prop):Prop:=∀c u v,(∃w,A u w)->(∃w,A v w)->u≠c->v≠c->Rc A c u v
theorem Tw2.upon {A B:Nat->Nat->Prop} (T:Tw2 A) (sy:∀x y,A x y->A y x) (ab:A a b) (ne:a≠b) (iso:∀w,¬A v w) (g:∃w,A t w) (t1:t≠a) (i:t≠b) (hB:∀x y,B x y↔upA A a b v x y):Tw2 B:=by
 have nv:∀{x y},A x y->x≠v/\y≠v:=pw;have l:∀x y,B x y->B y x:=by grind [upA]
 have f:∀c,c≠v->a≠c->b≠c->Rc B c a b:=fun c d h2 h3=>
  (Rc.one (v:=v) ((hB _ _).2 (.inr pw)) h2 (fj d)).trans (Rc.one ((hB _ _).2 (.inr pw)) (fj d) h3)
 have other:Rc B v a b:=by
  have d:Rc B v a t:=by
   have:=T b a t ⟨_,ab⟩ g ne i;clear g t1 i
   induction this with
   |refl=>exact .refl
   |step _ q j k m=>exact m.trans ((Rc.one ((hB _ _).2 (.inl pw)) (nv q).1 (nv q).2))
  have h2:Rc B v b t:=by
   have:=T a b t pw g (fj ne) t1;clear g t1 i d
   induction this with
   |refl=>exact .refl
   |step _ q j k m=>exact m.trans ((Rc.one ((hB _ _).2 (.inl pw)) (nv q).1 (nv q).2))
  exact d.trans (h2.symm l)
 have n:∀c,a≠c->b≠c->Rc B c a b:=fun c d h2=>by
  by_cases h:c=v
  .subst h;exact other
  .exact f c h d h2
 have qi:∀c u w,(∃x,A u x)->(∃x,A w x)->u≠c->w≠c->Rc B c u w:=fun c u w d h2 h3 o=>by
  refine(T c u w d h2 h3 o).sub fun x y q j k=>?_;by_cases p:x=a/\y=b
  .obtain⟨rfl,rfl⟩:=p;exact n c j k
  by_cases r:x=b/\y=a
  .obtain⟨rfl,rfl⟩:=r;exact(by grind [Rc.symm])
  .exact Rc.one ((hB _ _).2 (.inl ⟨q,p,r⟩)) j k
 have new:∀c u,(∃w,B u w)->u≠c->∃t,(∃w,A t w)/\t≠c/\Rc B c u t:=fun c u ⟨w,hw⟩ h3=>by
  by_cases e:u=v
  .subst e
   by_cases e:a=c
   .exact⟨b,pw,pw,Rc.one ((hB _ _).2 (.inr pw)) h3 pw⟩
   .exact⟨a,⟨_,ab⟩,e,Rc.one ((hB _ _).2 (.inr pw)) h3 e⟩
  .refine ⟨u, ?_, h3, .refl⟩
   rcases(hB _ _).1 hw with⟨q,-⟩|⟨q,-⟩|⟨-,rfl|rfl⟩
   .exact⟨_,q⟩
   .exact absurd q e
   .exact⟨_,ab⟩
   .exact pw
 intro c u w d h2 h3 o;obtain⟨t,t1,i,z⟩:=new c u d h3;obtain⟨s,s1,s2,C⟩:=new c w h2 o;exact(by grind [Rc.trans,Rc.symm])
theorem Tw2.oneB (T:Tw2 (Jp es)) (l:bX ⟨(n:Int),es⟩) (i:es≠[]):adn n es:=by
 have hR:=l.GD;have b:∀{v a c},Jp es v a->Jp es v c->cQ n es (GW v a)=cQ n es (GW v c):=fun{v a c} ha g=>by
  refine(dR hR ha g).2 ?_;have m:a≠v:=by grind [Xa]
  have o:c≠v:=by grind [Xa]
  have:=T v a c ⟨_,ha.symm⟩ ⟨_,g.symm⟩ m o;clear g o
  induction this with
  |refl=>exact .refl (iO m)
  |step _ q w r j=>exact .step j q (iO r)
 have link:∀{c u v},Rc (Jp es) c u v->∀a d,Jp es u a->Jp es v d->cQ n es (GW u a)=cQ n es (GW v d):=fun{c u v} h=>by
  induction h with
  |refl=>intro a d k h2;exact b k h2
  |@step x y _ q _ _ j=>intro a d k h2;rw[j a y k q,aag];exact b q.symm h2
 refine⟨l,i,fun p s q t=>?_⟩;obtain⟨a,c,ha,g,e,rfl⟩:=abL hR s;obtain⟨x,y,z,A,f,rfl⟩:=abL hR t;exact link (T n a x ⟨_,e⟩ ⟨_,f⟩ NH NH) c y e f
theorem up_ex (f:bX ⟨((200:Nat):Int),es⟩) (h2:((Zh 200 es).getD v []).length=2) (ha:Jp es v a) (hb:Jp es v b) (ne:a≠b) (i:¬Jp es a b):
  ∃L,bX ⟨((200:Nat):Int),L⟩/\UpK L es a b v:=by
 have hR:=f.GD;have hA:=f.q9;have only:∀w,Jp es v w->w=a\/w=b:=by grind [ace]
 have nva:v≠a:=by grind [Xa]
 have nvb:v≠b:=by grind [Xa]
 have r:=(ha.lt hR);have s:=(hb.lt hR);have j:∀p∈es,lZ p=p:=fun p c=>by
  have:=hR p c;obtain⟨x,y⟩:=p;simp only[lZ,qy]at*;omega
 have l:∀p,p∈es.filter (fun p=>!aO p (v:Int))↔p∈es/\p.1≠(v:Int)/\p.2≠(v:Int):=by grind [aO]
 have nd:es.Nodup:=hA.nodup;have OT:es.length=(es.filter fun p=>!aO p (v:Int)).length+2:=by
  have e:(es.filter fun p=>aO p (v:Int)).Perm [GW v a,GW v b]:=(Zw (nd.filter _) (by simp[aaA];omega)).2 fun p=>by
   rw[VU,WA,jf];constructor
   .rintro ⟨c, n⟩
    obtain⟨x,y,t,u,d,rfl⟩:=abL hR c;have:v=x\/v=y:=by simp only[aO,bj,uu,decide_eq_true_eq]at n;omega
    rcases this with rfl|rfl
    .rcases only y d with rfl|rfl<;>simp
    .rcases only x d.symm with rfl | rfl
     .left;exact aag ..
     .right;exact aag ..
   .rintro (rfl | rfl)
    .exact(by grind [H4,bj])
    .exact(by grind [H4,bj])
  have:=(agb (fun p=>aO p (v:Int)) es).length_eq;rw[vZ,e.length_eq]at this;simp only[vg,vu]at this;omega
 have k:YG ((200:Nat):Int) (((a:Int),(b:Int))::es.filter fun p=>!aO p (v:Int)):=by
  have o:=f.len;refine⟨NH,NH,by rw[vg];have:es.length<=594:=o;omega,fun p c=>?_,?_⟩
  .rcases WA.1 c with rfl | c
   .simp only[lZ];omega
   .have c := ((l p).1 c).1
    rw[j p c];have:=hR p c;omega
  .rw [wI, Uz (g := id) pw, aeC, ZT]
   refine⟨fun h=>i ?_,nd.filter _⟩;have h:=((l _).1 h).1;simp only[lZ]at h;rcases LN a b with q|q
   .left;rwa[age NH,agd NH]at h
   .right;rwa[Int.min_eq_right NH,Int.max_eq_left NH]at h
 have ad:∀x y:Nat,Jp (sg (((a:Int),(b:Int))::es.filter fun p=>!aO p (v:Int))) x y↔(x=a/\y=b)\/(x=b/\y=a)\/(Jp es x y/\x≠v/\y≠v):=fun x y=>by
  rw[abj];unfold Jp;simp only[WA,l,qy];constructor
  .rintro ((h | h) | (h | h))
   .omega
   .right;right;exact pw
   .omega
   .right;right;exact pw
  .rintro (h | h | ⟨h | h, m, h2⟩)
   .omega
   .omega
   .left;right;exact pw
   .right;right;exact pw
 refine⟨_,k.right,k.right.GD,hR,k.right.q9,hA,pw,fun w h=>?_,fun x y=>?_,?_⟩
 .have:=(ad v w).1 h;omega
 .unfold upA
  rw[ad];constructor
  .intro h
   by_cases c1:x=v
   .subst c1;right;left;exact pw
   by_cases c2:y=v
   .subst c2;right;right;exact(by grind [Jp.symm])
   left;refine⟨pw,fun e=>?_,fun e=>?_⟩
   .obtain⟨rfl,rfl⟩:=e;exact i h
   .obtain⟨rfl,rfl⟩:=e;exact i h.symm
  .rintro (⟨h, m, h2⟩ | ⟨rfl, rfl | rfl⟩ | ⟨rfl, rfl | rfl⟩)
   .rcases h with h | h | h
    .exact absurd h m
    .exact absurd h h2
    .exact h.1
   .exact ha
   .exact hb
   .exact ha.symm
   .exact hb.symm
 .rw[ZS,eR,vg];omega
end
end Go.Fw
namespace Go.Fw
open Go.Proofs
attribute [local instance] Classical.propDecidable
def prsL:II->List Pr
 |[]=>[]
 |x::l=>l.map (fun y=>GW x y)++prsL l
theorem ab1:∀{l:II},l.Nodup->∀{p:Pr},p∈prsL l↔∃x y,x∈l/\y∈l/\x≠y/\p=GW x y
 |[],_,p=>by simp[prsL]
 |a::l,nd,p=>by
  obtain⟨f,h2⟩:=ZT.1 nd;rw[prsL,Sb,HV,ab1 h2];constructor
  .rintro (⟨y, b, rfl⟩ | ⟨x, y, d, b, ne, rfl⟩)
   .exact pw
   .exact pw
  .rintro ⟨x, y, d, b, ne, rfl⟩
   rcases WA.1 d with rfl|e
   .rcases WA.1 b with rfl | c
    .exact absurd rfl ne
    .exact pw
   .rcases WA.1 b with rfl | c
    .exact(by grind [aag])
    .exact pw
theorem prs_nd:∀{l:II},l.Nodup->(prsL l).Nodup
 |[],_=>by simp[prsL]
 |a::l,nd=>by
  obtain⟨b,h2⟩:=ZT.1 nd;rw[prsL,si];refine⟨?_,prs_nd h2,fun p c q d e=>?_⟩
  .rw [kc, Hs]
   exact(by grind [abS])
  .subst e
   obtain⟨y,g,rfl⟩:=HV.1 c;obtain⟨z,w,f,hw,ne,e⟩:=(ab1 h2).1 d;rcases aaA.1 e with⟨q,-⟩|⟨q,-⟩
   .exact b (q▸f)
   .exact b (q▸hw)
def aeg (A B:II):List Pr:=A.flatMap fun a=>B.map fun b=>GW a b
theorem adD {A B:II} {p:Pr}:p∈aeg A B↔∃a b,a∈A/\b∈B/\p=GW a b:=by
 unfold aeg;rw[QD];constructor
 .rintro ⟨a, ha, h⟩
  obtain⟨b,hb,rfl⟩:=HV.1 h;exact pw
 .rintro ⟨a, b, ha, hb, rfl⟩
  exact pw
theorem crs_nd {A B:II} (nd:(A++B).Nodup):(aeg A B).Nodup:=by
 rw[si]at nd;obtain⟨nA,nB,c⟩:=nd;unfold aeg;rw[kc,qk];refine⟨fun a ha=>?_,?_⟩
 .rw [Hs]
  exact(by grind [abS])
 .refine (kc.1 nA).imp_of_mem fun {a a'} ha mi ne x d y f e => ?_
  obtain⟨b,hb,rfl⟩:=HV.1 d;obtain⟨g,sZ,rfl⟩:=HV.1 f;rcases aaA.1 e with⟨q,-⟩|⟨q,-⟩
  .exact ne q
  .exact c a ha g sZ q
def adE (A B:II):(aeg A B).length=A.length*B.length:=by
 unfold aeg
 induction A with
 |nil=>simp
 |cons a A b=>rw[acw,vZ,b,eR,vg,aaL];omega
structure acO (es:List Pr) (E:Nat) (ks:List Pr):Prop where
 e3:3<=E
 e4:E<=4
 deg:∀c∈aac (Zh 200 es),((Zh 200 es).getD c []).length=E
 two:∀v w,Jp es v w->v∉aac (Zh 200 es)->((Zh 200 es).getD v []).length=2
 all:aaO (Zh 200 es) (aac (Zh 200 es))=2*es.length
 nd:ks.Nodup
 len:(aai (Zh 200 es) (aac (Zh 200 es))).length=2*ks.length
 n9:9<=ks.length
 w2:∀k∈ks,aaE (Zh 200 es) (aac (Zh 200 es)) k=2
 ends:∀k∈ks,∃a b,a∈aac (Zh 200 es)/\b∈aac (Zh 200 es)/\a≠b/\k=GW a b
def adG (cs:II) (ks:List Pr):Prop:=(cs.length=5/\ks=prsL cs)\/∃A B,(A++B).Perm cs/\A.length=3/\B.length=3/\ks=aeg A B
theorem aa2 {es:List Pr} (hr:bX ⟨((200:Nat):Int),es⟩) (f:aaT es≠0):∃E ks,acO es E ks/\adG (aac (Zh 200 es)) ks:=by
 rw[abm]at f;by_cases hb:(Zh 200 es).any aaR=true
 .rw[if_pos hb]at f;exact absurd rfl f
 rw[if_neg hb]at f;have two:∀v w,Jp es v w->v∉aac (Zh 200 es)->((Zh 200 es).getD v []).length=2:=fun v w h z=>by
  have C:=(h.lt hr.GD).1;have r:v<(Zh 200 es).length:=by rw[Xq];exact C
  have n0:((Zh 200 es).getD v []).length≠0:=by
   rw[<-aaz];have:=(aaf hr.GD).2 h;intro e;rw[DF e]at this;cases this
  have i:aaR ((Zh 200 es).getD v [])=false:=by
   refine agc.2 fun q=>hb (b7.2 ⟨_,Og r,?_⟩);rw[D4 r]at q;exact q
  have g:¬aax (Zh 200 es) v=true:=fun q=>z (VU.2 pw);unfold aaR at i;unfold aax at g;simp only[Bool.not_eq_false',uu,beq_iff_eq]at i g;omega
 have g:(aac (Zh 200 es)).Nodup:=Tn.filter _;have s:∀E,abc (Zh 200 es) (aac (Zh 200 es)) es.length E≠0->(∀c∈aac (Zh 200 es),((Zh 200 es).getD c []).length=E)/\aaO (Zh 200 es) (aac (Zh 200 es))=2*es.length/\(E=4->aba (aaE (Zh 200 es) (aac (Zh 200 es))) (aac (Zh 200 es)) (aac (Zh 200 es))=true)/\(E≠4->aaV (aaE (Zh 200 es) (aac (Zh 200 es))) (aac (Zh 200 es))=true):=fun E h=>by
  unfold abc at h;by_cases c1:(aac (Zh 200 es)).any (fun c=>((Zh 200 es).getD c []).length !=E)=true
  .rw[if_pos c1]at h;exact absurd rfl h
  rw[if_neg c1]at h;by_cases c2:aaO (Zh 200 es) (aac (Zh 200 es))=2*es.length
  rotate_left
  .rw[if_pos c2]at h;exact absurd rfl h
  rw[if_neg (fun q=>q c2)]at h;refine⟨by grind [List.any_eq_true],c2,fun e=>?_,fun e=>?_⟩
  .rw [if_pos e] at h
   exact pw
  .rw [if_neg e] at h
   exact pw
 by_cases j:(aac (Zh 200 es)).length=5
 .rw [if_pos j] at f
  obtain⟨l,h2,h3,-⟩:=s 4 f;have h3:=h3 rfl;have n:(prsL (aac (Zh 200 es))).length=10:=by
   match aac (Zh 200 es),j with
   |[a,b,c,d,e],_=>rfl
  refine⟨4,prsL (aac (Zh 200 es)),⟨NH,NH,l,two,h2,prs_nd g,by rw[aa6 l,j,n],NH,fun k f=>?_,fun k f=>?_⟩,.inl ⟨j,rfl⟩⟩
  .obtain ⟨x, y, D, F, ne, rfl⟩ := (ab1 g).1 f
   have:=LH.1 (LH.1 h3 x D) y F;rw[uu]at this;rcases this with q|q
   .exact pw
   .exact of_decide_eq_true q
  .exact(ab1 g).1 f
 .rw [if_neg j] at f
  by_cases m:(aac (Zh 200 es)).length=6
  rotate_left
  .rw[if_neg m]at f;exact absurd rfl f
  rw[if_pos m]at f;obtain⟨l,h2,-,h3⟩:=s 3 f;have h3:=h3 WY;have o:=aa6 l;rw[m]at o;obtain⟨A,B,T⟩:=(abV (L:=(aai (Zh 200 es) (aac (Zh 200 es))).map (aaD (Zh 200 es))) g m (acH _) (by rw[eR,o];decide)).1 h3;obtain⟨t1,t,u,G⟩:=T;have p:=(t1.nodup_iff).2 g;refine⟨3,aeg A B,⟨NH,NH,l,two,h2,crs_nd p,by rw[o,adE,t,u],by rw[adE,t,u];decide,fun k f=>?_,fun k f=>?_⟩,.inr pw⟩
  .obtain ⟨a, b, ha, hb, rfl⟩ := adD.1 f
   exact G a ha b hb
  .obtain ⟨a, b, ha, hb, rfl⟩ := adD.1 f
   exact(by grind [List.nodup_append])
section
variable {es : List Pr} (hr : bX ⟨((200 : Nat) : Int), es⟩) {E : Nat} {ks : List Pr} (K : acO es E ks)
include hr K
omit hr in
theorem acO.zero {p:Pr} (b:p∉ks):aaE (Zh 200 es) (aac (Zh 200 es)) p=0:=by
 have:=aca (ZT.2 ⟨b,K.nd⟩) ((aai (Zh 200 es) (aac (Zh 200 es))).map (aaD (Zh 200 es)));rw[wI,MY,eR,K.len]at this;have s:∀l:List Pr,(∀k∈l,k∈ks)->(l.map fun k=>((aai (Zh 200 es) (aac (Zh 200 es))).map (aaD (Zh 200 es))).count k).sum=2*l.length:=by
  intro l
  induction l with
  |nil=>intro _;rfl
  |cons a l c=>
   intro h;have e:((aai (Zh 200 es) (aac (Zh 200 es))).map (aaD (Zh 200 es))).count a=2:=K.w2 a (h a Ma);rw[wI,MY,e,c pw,vg];omega
 rw[s ks fun k h=>h]at this;unfold aaE;omega
omit hr K in
theorem abo:∀c∈aac (Zh 200 es),c<200/\((Zh 200 es).getD c []).length≠2:=fun c h=>abu h
omit K in
theorem ab2 {c w:Nat} (h:c∈aac (Zh 200 es)) (a:Jp es c w):(c,w)∈aai (Zh 200 es) (aac (Zh 200 es)):=by
 rw[aaJ,QD];exact(by grind [aaf,bX.GD])
omit hr K in
theorem cnt_in {l:List (Nat×Nat)} {p:Pr} (nd:l.Nodup) (h:∀d∈l,d∈aai (Zh 200 es) (aac (Zh 200 es))/\aaD (Zh 200 es) d=p):l.length<=aaE (Zh 200 es) (aac (Zh 200 es)) p:=by
 unfold aaE;rw[List.count,afH,aez];exact tf nd pw
omit hr in
theorem acO.in1 {d:Nat×Nat} (h:d∈aai (Zh 200 es) (aac (Zh 200 es))):aaD (Zh 200 es) d∈ks:=by
 refine Eh fun q=>?_;have:=cnt_in (l:=[d]) Ma (p:=aaD (Zh 200 es) d) (fun x a=>by rw[jf.1 a];exact⟨h,rfl⟩);rw[K.zero q]at this;simp at this
omit K in
theorem abW {c w:Nat} (h:c∈aac (Zh 200 es)) (a:Jp es c w) {M:Nat} {e:Nat×Nat} (r:aa8 200 es (c,w) M e) (b:e.2∈aac (Zh 200 es)):aaD (Zh 200 es) (c,w)=GW c e.2:=by rw[acb,ae5 hr.GD hr.q9 (qL0 _) a (abu h).2 r (abu b).2]
theorem acO.apart {v a b:Nat} (h2:((Zh 200 es).getD v []).length=2) (c:a∈aac (Zh 200 es)) (ha:Jp es v a) (hb:Jp es v b) (ne:a≠b):¬Jp es a b:=fun ab=>by
 have hR:=hr.GD;have hA:=hr.q9;have nva:v≠a:=by grind [Xa]
 have nvb:v≠b:=by grind [Xa]
 have r1:aa8 200 es (a,v) 1 (v,b):=by grind [aa8.one,abG]
 by_cases cb:b∈aac (Zh 200 es)
 .have r2 : aa8 200 es (b, v) 1 (v, a) := by grind [aa8.one, abG]
  have g:=abW hr c ha.symm r1 cb;have k:=abW hr cb hb.symm r2 c;have e3:=abW hr c ab (M:=0) ⟨rfl,pw⟩ cb;have:=cnt_in (l:=[(a,v),(b,v),(a,b)]) (p:=GW a b) (by simp;omega) fun d hd=>by
   simp only[WA,vY,or_false]at hd;rcases hd with rfl|rfl|rfl
   .exact⟨ab2 hr c ha.symm,g⟩
   .exact(by grind [ab2,Jp.symm,aag])
   .exact⟨ab2 hr c ab,e3⟩
  simp only[vg,vu]at this;by_cases q:GW a b∈ks
  .rw[K.w2 _ q]at this;omega
  .rw[K.zero q]at this;omega
 .have d2 := K.two b v hb.symm cb
  have r2:aa8 200 es (v,b) 1 (b,a):=by grind [aa8.one,abG,Jp.symm]
  have e:=abW hr c ha.symm (r1.trans r2) c;have:=K.in1 (ab2 hr c ha.symm);rw[e]at this;obtain⟨x,y,-,-,h,f⟩:=K.ends _ this;rcases aaA.1 f with⟨i,j⟩|⟨i,j⟩<;>omega
def acO.find {u:Nat} (h2:((Zh 200 es).getD u []).length=2):∃v a b,((Zh 200 es).getD v []).length=2/\a∈aac (Zh 200 es)/\Jp es v a/\Jp es v b/\a≠b:=by
 have hR:=hr.GD;have hA:=hr.q9;obtain⟨x,y,-,-,h3,j,-⟩:=aa9 hR hA h2;have m:=adC hR hA abo (Tn.filter _) K.all h3;obtain⟨d,hd,m⟩:=QD.1 m;obtain⟨i,hi,m⟩:=HV.1 m;have hi:=uV.1 hi;obtain⟨k1,k2,e⟩:=abh hR abo hd;obtain⟨⟨-,r2⟩,-,-⟩:=aa7 hR hA abo hd;have f:0<(aaj (Zh 200 es) d).2:=by
  rcases i with _|i
  .exact absurd h2 (by rw[show u=d.1 from(congrArg Prod.fst m).symm];exact k2)
  .omega
 have c:=r2 0 f;obtain⟨z,g,h,-⟩:=ace hR hA (y:=d.2) c k1.symm;exact⟨d.2,d.1,z,c,e,k1.symm,h,fj g⟩
theorem acO.base (no:∀v,((Zh 200 es).getD v []).length≠2) (x y:Nat):Jp es x y↔GW x y∈ks:=by
 have hR:=hr.GD;have a:∀{v w},Jp es v w->v∈aac (Zh 200 es):=fun{v w} h=>Eh fun q=>no v (K.two v w h q);constructor
 .intro h
  have:=K.in1 (ab2 hr (a h) h);rwa[abW hr (a h) h (M:=0) ⟨rfl,pw⟩ (a h.symm)]at this
 .intro h
  have w:=K.w2 _ h;unfold aaE at w;have:GW x y∈(aai (Zh 200 es) (aac (Zh 200 es))).map (aaD (Zh 200 es)):=by grind [List.count_pos_iff]
  obtain⟨d,hd,e⟩:=HV.1 this;obtain⟨k1,k2,f⟩:=abh hR abo hd;have g:aaD (Zh 200 es) d=GW d.1 d.2:=abW hr f k1 (M:=0) ⟨rfl,pw⟩ (a k1.symm);rw[g]at e;rcases aaA.1 e with⟨b,c⟩|⟨b,c⟩
  .rw[<-b,<-c];exact k1
  .rw[<-b,<-c];exact k1.symm
end
end Go.Fw
