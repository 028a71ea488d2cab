/- A text. -/
import Derived.Test.YtnakkbhjoiheoaaGreatFwKA6
set_option linter.all false
set_option maxRecDepth 99999
set_option maxHeartbeats 9999999
open Go.Proofs
open Option renaming some→Z,none→Y
open Bool renaming true→tT,false→fF
open List renaming range→rG
open Go.Value renaming slice→sL,pointer→pT
open Go renaming Value→vV
open Go.Proofs.Tryz renaming prog→pG
open Go.Proofs.Tryz
open List
namespace Go.Fw
section
attribute [local irreducible] Kp MQ lU KO1 KO KN KX KE VK Kl ZJ TC aab
section
variable{n:Nat}{es:List Pr}{s:Nat}{L:RZ}(hr:aV n es)(R:RA n es s L)(hc:∀p∈es,Closed L p)
include hr R hc
end
section
variable{n:Nat}{es:List Pr}(hR:aV n es)(hA:D3 es)
include hR hA
theorem ahc{x y z:Nat}(h2:((Zh n es).getD y []).length=2)(d:Jp es y x)(g:Jp es y z)(ne:x≠z):goS (Zh n es) (x,y)=(y,z):=by
 have⟨a,b,e,nab,h3,h,f⟩:=abg hR hA h2;have k1:=f x d;unfold goS;rw[e];simp only[ak8,alN];rcases k1 with rfl|rfl
 .grind
 .grind
theorem ahQ{x y:Nat}(h2:((Zh n es).getD y []).length=2)(d:Jp es y x):∃z,z≠x/\Jp es y z/\∀w,Jp es y w->w=x\/w=z:=by
 have⟨a,b,e,nab,h3,g,f⟩:=abg hR hA h2;rcases f x d with rfl|rfl
 .exact hGr
 .exact hGr
def agC(n:Nat)(es:xLP)(d:Nat×Nat)(K:Nat)(e:Nat×Nat):Prop:=it (goS (Zh n es)) K d=e/\∀i,i<K->((Zh n es).getD (it (goS (Zh n es)) i d).2 []).length=2
omit hR hA in
theorem agC.trans{d e f:Nat×Nat}{K M:Nat}(h:agC n es d K e)(k:agC n es e M f):agC n es d (K+M) f:=by
 obtain⟨rfl,h2⟩:=h;obtain⟨rfl,k2⟩:=k;refine⟨by rw[Nat.add_comm,qu],fun i hi=>?_⟩;by_cases c:i<K
 .exact h2 i c
 .have:=k2 (i-K) NH;rwa[<-qu,show i-K+K=i by omega]at this
omit hR hA in
theorem agC.one{d e:Nat×Nat}(h:goS (Zh n es) d=e)(h2:((Zh n es).getD d.2 []).length=2):agC n es d 1 e:=⟨h,fun i hi=>by rw[show i=0 by omega];exact h2⟩
theorem oth_run(a:n<=200){c v:Nat}(b:Jp es c v)(hc:((Zh n es).getD c []).length≠2){K:Nat}{e:Nat×Nat}(h:agC n es (c,v) K e)(g:((Zh n es).getD e.2 []).length≠2):aal (Zh n es) (c,v)=(e.2,K):=by
 have⟨d,i,h2,h3,f⟩:=ahL hR hA a b hc;obtain⟨rfl,k2⟩:=h;rcases adQ K d with q|rfl|q
 .exact hGr
 .exact f
 .exact hGr
end
def ahg(rows:AM)(cs:II):List (Nat×Nat):=(aaj rows cs).flatMap fun d=>(rG ((aal rows d).2+1)).map fun i=>it (goS rows) i d
def aiA(rows:AM)(cs:II):(ahg rows cs).length=aaU rows cs:=by unfold ahg aaU;simp
def alm(es:xLP):List (Nat×Nat):=es.flatMap fun p=>[(p.1.toNat,p.2.toNat),(p.2.toNat,p.1.toNat)]
def akd(es:xLP):(alm es).length=2*es.length:=by
 unfold alm
 induction es with
 |nil=>rfl
 |cons p l a=>rw[y5,aaf,a];simp;omega
theorem ahR{es:xLP}{x y:Nat}(h:Jp es x y):(x,y)∈alm es:=by
 unfold alm;rw[KG];rcases h with h|h
 .exact hGr
 .exact hGr
section
variable{es:List Pr}(hR:aV 200 es)(hA:D3 es){cs:II}(hc:∀c∈cs,c<200/\((Zh 200 es).getD c []).length≠2)
include hR hA hc
omit hA in
theorem agM{d:Nat×Nat}(hd:d∈aaj (Zh 200 es) cs):Jp es d.1 d.2/\((Zh 200 es).getD d.1 []).length≠2/\d.1∈cs:=by rw[afR,KG]at hd;have⟨c,a,hd⟩:=hd;obtain⟨w,hw,rfl⟩:=si.1 hd;exact(by grind[acu])
def agB{d:Nat×Nat}(hd:d∈aaj (Zh 200 es) cs):agC 200 es d (aal (Zh 200 es) d).2 (it (goS (Zh 200 es)) (aal (Zh 200 es) d).2 d)/\(it (goS (Zh 200 es)) (aal (Zh 200 es) d).2 d).2=(aal (Zh 200 es) d).1/\((Zh 200 es).getD (aal (Zh 200 es) d).1 []).length≠2:=by obtain⟨a,h2,-⟩:=agM hR hc hd;have⟨K,k1,k2,b,f⟩:=ahL hR hA (qL0 _) (c:=d.1) (v:=d.2) a h2;have e:aal (Zh 200 es) d=((it (goS (Zh 200 es)) K (d.1,d.2)).2,K):=f;rw[e];exact⟨⟨rfl,k2⟩,rfl,b⟩
theorem vis_sub{x:Nat×Nat}(h:x∈ahg (Zh 200 es) cs):Jp es x.1 x.2:=by unfold ahg at h;rw[KG]at h;have⟨d,hd,h⟩:=h;obtain⟨i,hi,rfl⟩:=si.1 h;have hi:=Db.1 hi;exact aa7 hR hA (agM hR hc hd).1 i fun q a=>(agB hR hA hc hd).1.2 q NH
theorem alG(l:cs.Nodup):(ahg (Zh 200 es) cs).Nodup:=by
 have nd:(aaj (Zh 200 es) cs).Nodup:=by
  rw[afR,AE,ahG];refine⟨fun c _=>?_,l.imp fun h x g y k e=>?_⟩
  .rw[V3];exact(by grind[agE])
  .obtain⟨w,-,rfl⟩:=si.1 g;obtain⟨z,-,rfl⟩:=si.1 k;exact hGr
 have key:∀d∈aaj (Zh 200 es) cs,∀f∈aaj (Zh 200 es) cs,∀i j,i<=j->i<=(aal (Zh 200 es) d).2->j<=(aal (Zh 200 es) f).2->it (goS (Zh 200 es)) i d=it (goS (Zh 200 es)) j f->i=j/\d=f:=by
  intro d hd f a i
  induction i with
  |zero=>
   intro j _ _ b e;rcases j with _|j
   .exact⟨rfl,e⟩
   .exfalso;have m:d.1=(it (goS (Zh 200 es)) j f).2:=by grind[goS,it]
    have:=(agB hR hA hc a).1.2 j NH;rw[<-m]at this;exact(agM hR hc hd).2.1 this
  |succ i o=>
   intro j p hi b e;rcases j with _|j
   .omega
   have a1:=aa7 hR hA (agM hR hc hd).1 i fun q r=>(agB hR hA hc hd).1.2 q NH;have a2:=aa7 hR hA (agM hR hc a).1 j fun q r=>(agB hR hA hc a).1.2 q NH;have:=amd hR hA a1.symm a2.symm ((agB hR hA hc hd).1.2 i NH) e;have⟨s,h2⟩:=o j NH NH NH this;exact hGr
 unfold ahg;rw[AE,ahG];refine⟨fun d hd=>?_,(AE.1 nd).imp_of_mem fun{d f} hd a ne x g y k e=>?_⟩
 .rw[V3];refine DF (fun{i j} hi b h e=>?_) b7;have b:=Db.1 b;have:=(key d hd d hd i j NH NH NH e).1;omega
 .obtain⟨i,hi,rfl⟩:=si.1 g;obtain⟨j,b,rfl⟩:=si.1 k;have hi:=Db.1 hi;have b:=Db.1 b;rcases agm i j with q|q
  .exact hGr
  .exact hGr
theorem alH(a:cs.Nodup):aaU (Zh 200 es) cs<=2*es.length:=by rw[<-aiA,<-akd];exact tf (by grind[alG]) fun x b=>by grind[ahR,vis_sub]
def akU(b:cs.Nodup)(h:aaU (Zh 200 es) cs=2*es.length){x y:Nat}(a:Jp es x y):(x,y)∈ahg (Zh 200 es) cs:=by
 refine j9 fun d=>?_;have:=tf (eR.2 ⟨d,alG hR hA hc b⟩) (B:=alm es) fun z e=>by
  rcases HV.1 e with rfl|q
  .exact ahR a
  .exact ahR (vis_sub hR hA hc q)
 rw[Vn,aiA,akd,h]at this;omega
end
structure UpK (L L':xLP) (a b v:Nat):Prop where
 r1:aV 200 L
 r2:aV 200 L'
 a1:D3 L
 a2:D3 L'
 ab:Jp L a b
 iso:∀w,¬Jp L v w
 up:∀x y,Jp L' x y↔upA (Jp L) a b v x y
 len:L'.length=L.length+1
def isU(a b:Nat)(d:Nat×Nat):Bool:=(d.1==a&&d.2==b)||(d.1==b&&d.2==a)
def afk(a b v:Nat)(d:Nat×Nat):Nat×Nat:=if isU a b d then(d.1,v)else d
theorem afN{a b x y:Nat}:isU a b (x,y)=tT↔(x=a/\y=b)\/(x=b/\y=a):=by simp[isU]
theorem ahh(a b v:Nat)(d:Nat×Nat):(afk a b v d).1=d.1:=by unfold afk;split<;>rfl
section
variable{L L':List Pr}{a b v:Nat}(U:UpK L L' a b v)
include U
def UpK.nab:a≠b:=fun e=>by have:=U.ab;rw[e]at this;exact Xa U.r1 this
def UpK.nva:v≠a:=fun e=>U.iso b (e▸U.ab)
def UpK.nvb:v≠b:=fun e=>U.iso a (e▸U.ab.symm)
theorem UpK.nv{x y:Nat}(h:Jp L x y):x≠v/\y≠v:=by grind[UpK.iso,Jp.symm]
theorem UpK.row{x:Nat}(g:x≠v):(agX (Zh 200 L') x).Perm ((agX (Zh 200 L) x).map fun w=>(afk a b v (x,w)).2):=by
 refine agD (agE U.r2 U.a2 _) (alF (agE U.r1 U.a1 _) fun p d q f e=>?_) fun w=>?_
 .have d:=U.nv ((acu U.r1).1 d);have f:=U.nv ((acu U.r1).1 f);unfold afk at e;by_cases c1:isU a b (x,p)=tT<;>by_cases c2:isU a b (x,q)=tT
  .rw[afN]at c1 c2;omega
  .rw[Sb c1,WA c2]at e;exact hGr
  .rw[WA c1,Sb c2]at e;exact absurd e d.2
  .rw[WA c1,WA c2]at e;exact e
 .rw[acu U.r2,U.up,si];have ab:=U.ab;constructor
  .rintro(⟨h,n1,i⟩|⟨h,-⟩|⟨rfl,h⟩)
   .refine⟨w,(acu U.r1).2 h,?_⟩;unfold afk;rw[WA (by rw[afN];omega)]
   .exact absurd h g
   .rcases h with rfl|rfl
    .exact⟨b,(acu U.r1).2 ab,by unfold afk;rw[Sb (by grind[afN])]⟩
    .exact⟨a,(acu U.r1).2 ab.symm,by unfold afk;rw[Sb (by grind[afN])]⟩
  .rintro⟨p,d,rfl⟩;have d:=(acu U.r1).1 d;unfold afk;split
   .rename_i c;rw[afN]at c;exact .inr (.inr ⟨rfl,c.imp (·.1) (·.1)⟩)
   .rename_i c;rw[afN]at c;exact .inl hGr
theorem UpK.deg{x:Nat}(c:x≠v):((Zh 200 L').getD x []).length=((Zh 200 L).getD x []).length:=by rw[<-agb,<-agb,(U.row c).length_eq,vg]
theorem UpK.deg0:((Zh 200 L).getD v []).length=0:=by
 rw[<-agb];rcases h:agX (Zh 200 L) v with _|⟨w,l⟩
 .rfl
 .exact absurd ((acu U.r1).1 (by grind[Zh])) (U.iso w)
theorem UpK.ald:((Zh 200 L').getD v []).length=2:=by
 have:(agX (Zh 200 L') v).Perm [a,b]:=agD (agE U.r2 U.a2 _) (by simp[U.nab]) fun w=>by
  rw[acu U.r2,U.up];have c:=U.iso;have h2:=U.nva;have h3:=U.nvb;simp only[HV,fj,or_false];constructor
  .rintro(⟨h,-⟩|⟨-,h⟩|⟨-,h⟩)
   .exact absurd h (c w)
   .exact h
   .omega
  .intro h;exact .inr hGr
 rw[<-agb,this.length_eq];rfl
def UpK.sg{d:Nat×Nat}(hd:Jp L d.1 d.2):Jp L' (afk a b v d).1 (afk a b v d).2:=by have⟨x,y⟩:=d;have c:=(U.nv hd).1;have:=(U.row c).mem_iff.2 (si.2 ⟨y,(acu U.r1).2 hd,rfl⟩);rw[ahh];exact(acu U.r2).1 this
theorem UpK.step{d:Nat×Nat}(hd:Jp L d.1 d.2)(h2:((Zh 200 L).getD d.2 []).length=2):
  agC 200 L' (afk a b v d) (1+if isU a b d then 1 else 0) (afk a b v (goS (Zh 200 L) d)):=by
 have⟨x,y⟩:=d;have⟨z,nz,f,hw⟩:=ahQ U.r1 U.a1 h2 hd.symm;rw[ahc U.r1 U.a1 h2 hd.symm f (wI nz)];have ny:=(U.nv hd).2;have nx:=(U.nv hd).1;have i:=(U.nv f).2;have d2:((Zh 200 L').getD y []).length=2:=by rw[U.deg ny];exact h2
 have s1:=U.sg (d:=(y,z)) f;have j:afk a b v (y,z)=(y,(afk a b v (y,z)).2):=by grind[ahh]
 rw[j]at s1 ⊢;by_cases c:isU a b (x,y)=tT
 .have nb:¬isU a b (y,z)=tT:=by rw[afN]at c ⊢;omega
  have s2:=U.sg (d:=(x,y)) hd;have g:afk a b v (x,y)=(x,v):=by unfold afk;rw[Sb c]
  have e3:(afk a b v (y,z)).2=z:=by unfold afk;rw[WA nb]
  rw[g]at s2 ⊢;rw[e3]at s1 ⊢;rw[Sb c];have h:Jp L' y v:=(U.up _ _).2 (.inr (by grind[afN]));refine(agC.one (e:=(v,y)) ?_ U.ald).trans (agC.one ?_ d2)
  .exact ahc U.r2 U.a2 U.ald s2.symm h.symm (fun e=>by subst e;exact Xa U.r1 hd)
  .exact(by grind[ahc,UpK.r2,UpK.a2])
 .have g:afk a b v (x,y)=(x,y):=by unfold afk;rw[WA c]
  have s2:=U.sg (d:=(x,y)) hd;rw[g]at s2 ⊢;rw[WA c];refine agC.one ?_ d2;refine ahc U.r2 U.a2 d2 s2.symm s1 fun e=>?_;unfold afk at e;split at e
  .exact nx e
  .exact nz e.symm
def ahn(a b:Nat)(L:xLP)(d:Nat×Nat)(K:Nat):Nat:=((rG K).map fun i=>it (goS (Zh 200 L)) i d).countP (isU a b)
omit U in
theorem ajF(d:Nat×Nat)(K:Nat):ahn a b L d (K+1)=ahn a b L d K+if isU a b (it (goS (Zh 200 L)) K d)then 1 else 0:=by unfold ahn;rw[rY,abZ,countP_append];simp[al0]
theorem UpK.run{d:Nat×Nat}(hd:Jp L d.1 d.2)(K:Nat):(∀i,i<K->((Zh 200 L).getD (it (goS (Zh 200 L)) i d).2 []).length=2)->agC 200 L' (afk a b v d) (K+ahn a b L d K) (afk a b v (it (goS (Zh 200 L)) K d)):=by
 induction K with
 |zero=>exact fun _=>⟨rfl,(by grind[ahn])⟩
 |succ K c=>
  intro h;have:=(c fun i hi=>h i NH).trans (U.step (aa7 U.r1 U.a1 hd K fun i hi=>h i NH) (h K NH));rw[ajF]
  rwa[show K+ahn a b L d K+(1+if isU a b (it (goS (Zh 200 L)) K d)=tT then 1 else 0)=K+1+(ahn a b L d K+if isU a b (it (goS (Zh 200 L)) K d)=tT then 1 else 0) by omega]at this
theorem UpK.Wn{cs:II}(k:∀c∈cs,c<200/\((Zh 200 L).getD c []).length≠2){d:Nat×Nat}(hd:d∈aaj (Zh 200 L) cs):
  aal (Zh 200 L') (afk a b v d)=((aal (Zh 200 L) d).1,(aal (Zh 200 L) d).2+ahn a b L d ((aal (Zh 200 L) d).2+1)):=by
 obtain⟨f,h2,-⟩:=agM U.r1 k hd;obtain⟨⟨-,k2⟩,l,m⟩:=agB U.r1 U.a1 k hd;generalize n:(aal (Zh 200 L) d).2=K at*;have r:=U.run f K k2;have g:=aa7 U.r1 U.a1 f K k2;rw[ajF];generalize it (goS (Zh 200 L)) K d=e at*;have⟨x,y⟩:=e;subst l;have nv:=U.nv g;have i:((Zh 200 L').getD (aal (Zh 200 L) d).1 []).length≠2:=by rw[U.deg nv.2];exact m
 have r2:agC 200 L' (afk a b v d) (K+ahn a b L d K+if isU a b (x,(aal (Zh 200 L) d).1)=tT then 1 else 0) ((if isU a b (x,(aal (Zh 200 L) d).1)=tT then v else x),(aal (Zh 200 L) d).1):=by
  by_cases c:isU a b (x,(aal (Zh 200 L) d).1)=tT
  .rw[Sb c,Sb c];have h:afk a b v (x,(aal (Zh 200 L) d).1)=(x,v):=by unfold afk;rw[Sb c]
   rw[h]at r;have s2:=U.sg (d:=(x,(aal (Zh 200 L) d).1)) g;rw[h]at s2;have j:Jp L' (aal (Zh 200 L) d).1 v:=(U.up _ _).2 (.inr (by grind[afN]));exact r.trans (agC.one (ahc U.r2 U.a2 U.ald s2.symm j.symm (fun e=>by rw[e]at g;exact Xa U.r1 g)) U.ald)
  .rw[WA c,WA c];have h:afk a b v (x,(aal (Zh 200 L) d).1)=(x,(aal (Zh 200 L) d).1):=by unfold afk;rw[WA c]
   rw[h]at r;exact r
 have s0:=U.sg f;have d1:((Zh 200 L').getD (afk a b v d).1 []).length≠2:=by rw[ahh,U.deg (U.nv f).1];exact h2
 have:=oth_run U.r2 U.a2 (qL0 _) (c:=(afk a b v d).1) (v:=(afk a b v d).2) s0 d1 r2 i;refine Eq.trans this (akv rfl ?_);omega
def UpK.corn:aad (Zh 200 L')=aad (Zh 200 L):=by
 unfold aad;rw[Xq,Xq];refine vY fun x _=>?_;unfold aaA;by_cases e:x=v
 .subst e;rw[U.deg0,U.ald];rfl
 .rw[U.deg e]
theorem UpK.bad:(Zh 200 L').any aaW=(Zh 200 L).any aaW:=by
 rw[af2,uu,uu];have one:∀{A B:xLP},(∀x,x<200->aaW ((Zh 200 A).getD x [])=tT->aaW ((Zh 200 B).getD x [])=tT)->(∃r∈Zh 200 A,aaW r=tT)->∃r∈Zh 200 B,aaW r=tT:=fun{A B} h=>by
  rintro⟨r,d,hb⟩;obtain⟨i,hi,rfl⟩:=Bx.1 d;have c:i<200:=by rw[Xq]at hi;exact hi
  have f:i<(Zh 200 B).length:=by rw[Xq];exact c
  have:=h i c (by rw[D4 hi];exact hb);rw[D4 f]at this;exact(by grind[getElem_mem])
 constructor
 .refine one fun x _ h=>?_;by_cases e:x=v
  .subst e;unfold aaW at h;rw[U.ald]at h;cases h
  .unfold aaW at h ⊢;rw[U.deg e]at h;exact h
 .refine one fun x _ h=>?_;by_cases e:x=v
  .subst e;unfold aaW at h;rw[U.deg0]at h;cases h
  .unfold aaW at h ⊢;rw[U.deg e];exact h
theorem UpK.aaj{cs:II}(g:∀c∈cs,c<200/\((Zh 200 L).getD c []).length≠2)(f:v∉cs):(aaj (Zh 200 L') cs).Perm ((aaj (Zh 200 L) cs).map (afk a b v)):=by rw[afR,afR,qL236];refine akc fun c d=>?_;have:=(U.row (x:=c) fun e=>f (e▸d)).map fun w=>(c,w);rw[Lm]at this;rw[Lm];refine this.trans ?_;refine qL246 (Uz fun w _=>?_);exact(by grind[ahh])
def UpK.aaI{cs:II}(e:∀c∈cs,c<200/\((Zh 200 L).getD c []).length≠2)(f:v∉cs):aaI (Zh 200 L') cs=aaI (Zh 200 L) cs:=by funext p;unfold Go.Fw.aaI;rw[((U.aaj e f).map (aaH (Zh 200 L'))).count_eq p,Lm];refine congrArg (List.count p) (Uz fun d hd=>?_);simp only[Function.comp,ahP,U.Wn e hd,ahh]
theorem UpK.aaU{cs:II}(f:∀c∈cs,c<200/\((Zh 200 L).getD c []).length≠2)(g:v∉cs):aaU (Zh 200 L') cs=aaU (Zh 200 L) cs+(ahg (Zh 200 L) cs).countP (isU a b):=by
 unfold Go.Fw.aaU ahg;rw[((U.aaj f g).map fun d=>(aal (Zh 200 L') d).2+1).sum_nat,Lm,List.countP_flatMap];have key:∀l:List (Nat×Nat),(∀d∈l,d∈Go.Fw.aaj (Zh 200 L) cs)->(l.map ((fun d=>(aal (Zh 200 L') d).2+1)∘afk a b v)).sum=(l.map fun d=>(aal (Zh 200 L) d).2+1).sum+(l.map (List.countP (isU a b)∘fun d=>(rG ((aal (Zh 200 L) d).2+1)).map fun i=>it (goS (Zh 200 L)) i d)).sum:=by
  intro l
  induction l with
  |nil=>intro _;rfl
  |cons d l j=>intro h;have e:=U.Wn f (h d Ma);rw[AQ,AQ,AQ,ahe,ahe,ahe,j fun q k=>h q (by simp[k])];simp only[Function.comp,e];unfold ahn;omega
 exact hGr
theorem UpK.steps{cs:II}(d:∀c∈cs,c<200/\((Zh 200 L).getD c []).length≠2)(g:v∉cs)(e:cs.Nodup):Go.Fw.aaU (Zh 200 L') cs=2*L'.length↔Go.Fw.aaU (Zh 200 L) cs=2*L.length:=by
 rw[U.aaU d g,U.len];have le:=alH U.r1 U.a1 d e;have nd:((ahg (Zh 200 L) cs).filter (isU a b)).Nodup:=(alG U.r1 U.a1 d e).filter _;have h2:(ahg (Zh 200 L) cs).countP (isU a b)<=2:=by rw[qL173];refine tf nd (B:=[(a,b),(b,a)]) fun x f=>?_;have:=(xD.1 f).2;rw[afN]at this;rcases this with⟨rfl,rfl⟩|⟨rfl,rfl⟩<;>simp
 constructor
 .omega
 .intro h;have m1:=akU U.r1 U.a1 d e h U.ab;have m2:=akU U.r1 U.a1 d e h U.ab.symm;have:2<=(ahg (Zh 200 L) cs).countP (isU a b):=by
   rw[qL173];have:=tf (A:=[(a,b),(b,a)]) (B:=(ahg (Zh 200 L) cs).filter (isU a b)) (by have:=U.nab;grind) fun x f=>by
    simp only[HV,fj,or_false]at f;rw[xD];rcases f with rfl|rfl
    .exact(by grind[afN])
    .exact(by grind[afN])
   exact this
  omega
theorem UpK.kind:aaN L'=aaN L:=by
 have g:∀c∈aad (Zh 200 L),_:=fun c h=>agY h;have i:v∉aad (Zh 200 L):=by grind[aad.eq_1,aaA.eq_1,UpK.deg0]
 have j:(aad (Zh 200 L)).Nodup:=Hs.filter _;have k:∀E,aa8 (Zh 200 L') (aad (Zh 200 L)) L'.length E=aa8 (Zh 200 L) (aad (Zh 200 L)) L.length E:=fun E=>by
  have d:(aad (Zh 200 L)).any (fun c=>((Zh 200 L').getD c []).length !=E)=(aad (Zh 200 L)).any fun c=>((Zh 200 L).getD c []).length !=E:=by
   rw[af2,uu,uu];have e:∀c∈aad (Zh 200 L),((Zh 200 L').getD c []).length=((Zh 200 L).getD c []).length:=by grind[UpK.deg]
   exact hGr
  unfold aa8;rw[d,U.aaI g i];have:=U.steps g i j;by_cases q:Go.Fw.aaU (Zh 200 L) (aad (Zh 200 L))=2*L.length
  .have f:=this.2 q;simp only[q,f,ne_eq,not_true_eq_false,if_false,bne_self_eq_false,ah9]
  .have f:¬Go.Fw.aaU (Zh 200 L') (aad (Zh 200 L))=2*L'.length:=hGr;simp[q,f]
 rw[agP,agP,U.bad,U.corn];simp only[k]
end
attribute [local irreducible] Jz JL vq cQ ae1 abW aaN
variable {es fs:List Pr} {m n:Nat} {p:Pr} {π:Nat->Nat}
theorem H9.blk(I:H9 n es fs π)(d:p∈es):H9 n (abb n es (cQ n es p)) (abb n fs (cQ n fs (ae6 π p))) π:=by
 refine⟨age I.r1 _,age I.r2 _,I.lt,I.inj,I.ak7,fun a b ha hb=>?_⟩;rw[abM I.r1,abM I.r2,I.Jp a b ha hb];constructor
 .rintro⟨c,h2⟩;refine⟨c,?_⟩;rw[<-aeL]at h2;exact(I.key (H4 I.r1 c) d).1 h2
 .rintro⟨c,h2⟩;refine⟨c,?_⟩;rw[<-aeL];exact(I.key (H4 I.r1 c) d).2 h2
def asc_nd(ha:D3 es):es.Nodup:=by rw[AE];exact(Nl.1 ha).imp fun{p q} h e=>by subst e;omega
def H9.aak{n:Nat}{es d:xLP}{π:Nat->Nat}(I:H9 n es d π)(g:bX ⟨(n:Int),es⟩)(a:bX ⟨(n:Int),d⟩)(h:Go.Fw.aak n es):Go.Fw.aak n d:=by
 refine(acp a).2 fun b hb=>?_;have O:=aaQ a hb;refine(abc O).2 (O.flat.2 ?_);obtain⟨q,i,rfl⟩:=aaP.1 hb;obtain⟨p,f,rfl⟩:=I.sur_E i;have hB:abb n es (cQ n es p)∈vq n es:=aaP.2 ⟨p,f,rfl⟩;have len:=I.block_len (asc_nd g.q9) (asc_nd a.q9) f;rcases((aaQ g hB).flat).1 (h.2 _ hB)with c|c
 .left;have e:(abb n d (cQ n d (ae6 π p))).length=(abb n es (cQ n es p)).length:=len;rw[e];exact c
 .exact .inr ((I.blk f).alx.2 c)
theorem H9.ako(I:H9 n es fs π)(b:bX ⟨(n:Int),es⟩)(a:bX ⟨(n:Int),fs⟩):Go.Fw.aak n fs↔Go.Fw.aak n es:=by have⟨σ,J⟩:=I.flip;exact⟨J.aak a b,I.aak b a⟩
theorem H9.upto(I:H9 n es fs π)(h:n<=m):H9 m es fs fun u=>if u<n then π u else u:=by
 have more:∀{es},aV n es->aV m es:=fun d p f=>by have⟨g,h2,h3⟩:=d p f;exact⟨g,h2,NH⟩
 refine⟨more I.r1,more I.r2,fun a ha=>?_,fun a b ha hb e=>?_,fun x i=>?_,fun a b ha hb=>?_⟩
 .try simp only
  split
  .rename_i c;have:=I.lt a c;omega
  .exact ha
 .try simp only at e
  split at e<;>split at e<;>rename_i c1 c2
  .exact I.inj a b c1 c2 e
  .have:=I.lt a c1;omega
  .have:=I.lt b c2;omega
  .exact e
 .by_cases c:x<n
  .obtain⟨a,ha,rfl⟩:=I.ak7 x c;exact⟨a,NH,Sb ha⟩
  .exact⟨x,i,WA c⟩
 .try simp only
  by_cases c1:a<n
  .by_cases c2:b<n
   .rw[Sb c1,Sb c2];exact I.Jp a b c1 c2
   .rw[Sb c1,WA c2];exact⟨fun q=>absurd (q.lt I.r2).2 c2,fun q=>absurd (q.lt I.r1).2 c2⟩
  .rw[WA c1];exact⟨fun q=>absurd (q.lt I.r2).1 c1,fun q=>absurd (q.lt I.r1).1 c1⟩
def aiJ(a:bX ⟨(n:Int),es⟩):bX ⟨((200:Nat):Int),es⟩:=bX.of (qL0 _) a.len (fun p b=>by have⟨c,h2,h3⟩:=a.GD p b;have:(n:Int)<=200:=a.n1;exact⟨c,h2,NH⟩) a.q9
def kindM_iso(I:H9 n es fs π)(b:bX ⟨(n:Int),es⟩)(a:bX ⟨(n:Int),fs⟩)(c:fs.length=es.length):aaz fs=aaz es:=by
 have d:n<=200:=by have:(n:Int)<=200:=b.n1;omega
 have e:aaz es=aaN es:=Sb (aiJ b);have f:aaz fs=aaN fs:=Sb (aiJ a);rw[e,f];exact akQ (I.upto d) b.q9 a.q9 c
end
section
attribute [local instance] Classical.propDecidable
section
variable{n:Nat}{E:Nat->II}(hE:V7 n E){H:Nat->Nat->Prop}{F:Cs}{a b:Nat}{inn:II}
include hE
end
variable {a b n t v:Nat} {es:List Pr}
def Tw2(A:Nat->Nat->Prop):Prop:=∀c u v,(∃w,A u w)->(∃w,A v w)->u≠c->v≠c->Rc A c u v
theorem Tw2.upon{A B:Nat->Nat->Prop}(T:Tw2 A)(sy:∀x y,A x y->A y x)(ab:A a b)(ne:a≠b)(iso:∀w,¬A v w)(g:∃w,A t w)(t1:t≠a)(i:t≠b)(hB:∀x y,B x y↔upA A a b v x y):Tw2 B:=by
 have nv:∀{x y},A x y->x≠v/\y≠v:=hGr;have l:∀x y,B x y->B y x:=by grind[upA]
 have f:∀c,c≠v->a≠c->b≠c->Rc B c a b:=fun c d h2 h3=>(Rc.one (v:=v) ((hB _ _).2 (.inr hGr)) h2 (wI d)).trans (Rc.one ((hB _ _).2 (.inr hGr)) (wI d) h3);have other:Rc B v a b:=by
  have d:Rc B v a t:=by
   have:=T b a t ⟨_,ab⟩ g ne i;clear g t1 i
   induction this with
   |refl=>exact .refl
   |step _ q j k m=>exact m.trans ((Rc.one ((hB _ _).2 (.inl hGr)) (nv q).1 (nv q).2))
  have h2:Rc B v b t:=by
   have:=T a b t hGr g (wI ne) t1;clear g t1 i d
   induction this with
   |refl=>exact .refl
   |step _ q j k m=>exact m.trans ((Rc.one ((hB _ _).2 (.inl hGr)) (nv q).1 (nv q).2))
  exact d.trans (h2.symm l)
 have n:∀c,a≠c->b≠c->Rc B c a b:=fun c d h2=>by
  by_cases h:c=v
  .subst h;exact other
  .exact f c h d h2
 have qi:∀c u w,(∃x,A u x)->(∃x,A w x)->u≠c->w≠c->Rc B c u w:=fun c u w d h2 h3 o=>by
  refine(T c u w d h2 h3 o).sub fun x y q j k=>?_;by_cases p:x=a/\y=b
  .obtain⟨rfl,rfl⟩:=p;exact n c j k
  by_cases r:x=b/\y=a
  .obtain⟨rfl,rfl⟩:=r;exact(by grind[Rc.symm])
  .exact Rc.one ((hB _ _).2 (.inl ⟨q,p,r⟩)) j k
 have new:∀c u,(∃w,B u w)->u≠c->∃t,(∃w,A t w)/\t≠c/\Rc B c u t:=fun c u ⟨w,hw⟩ h3=>by
  by_cases e:u=v
  .subst e;by_cases e:a=c
   .exact⟨b,hGr,hGr,Rc.one ((hB _ _).2 (.inr hGr)) h3 hGr⟩
   .exact⟨a,⟨_,ab⟩,e,Rc.one ((hB _ _).2 (.inr hGr)) h3 e⟩
  .refine⟨u,?_,h3,.refl⟩;rcases(hB _ _).1 hw with⟨q,-⟩|⟨q,-⟩|⟨-,rfl|rfl⟩
   .exact⟨_,q⟩
   .exact absurd q e
   .exact⟨_,ab⟩
   .exact hGr
 intro c u w d h2 h3 o;have⟨t,t1,i,z⟩:=new c u d h3;have⟨s,s1,s2,C⟩:=new c w h2 o;exact(by grind[Rc.trans,Rc.symm])
theorem Tw2.oneB(T:Tw2 (Jp es))(l:bX ⟨(n:Int),es⟩)(i:es≠[]):aeo n es:=by
 have hR:=l.GD;have b:∀{v a c},Jp es v a->Jp es v c->cQ n es (GW v a)=cQ n es (GW v c):=fun{v a c} ha g=>by
  refine(dR hR ha g).2 ?_;have m:a≠v:=by grind[Xa]
  have o:c≠v:=by grind[Xa]
  have:=T v a c ⟨_,ha.symm⟩ ⟨_,g.symm⟩ m o;clear g o
  induction this with
  |refl=>exact .refl (iO m)
  |step _ q w r j=>exact .step j q (iO r)
 have link:∀{c u v},Rc (Jp es) c u v->∀a d,Jp es u a->Jp es v d->cQ n es (GW u a)=cQ n es (GW v d):=fun{c u v} h=>by
  induction h with
  |refl=>intro a d k h2;exact b k h2
  |@step x y _ q _ _ j=>intro a d k h2;rw[j a y k q,so];exact b q.symm h2
 refine⟨l,i,fun p s q t=>?_⟩;obtain⟨a,c,ha,g,e,rfl⟩:=aiu hR s;obtain⟨x,y,z,A,f,rfl⟩:=aiu hR t;exact link (T n a x ⟨_,e⟩ ⟨_,f⟩ NH NH) c y e f
theorem up_ex(f:bX ⟨((200:Nat):Int),es⟩)(h2:((Zh 200 es).getD v []).length=2)(ha:Jp es v a)(hb:Jp es v b)(ne:a≠b)(i:¬Jp es a b):
  ∃L,bX ⟨((200:Nat):Int),L⟩/\UpK L es a b v:=by
 have hR:=f.GD;have hA:=f.q9;have only:∀w,Jp es v w->w=a\/w=b:=by grind[ahQ]
 have nva:v≠a:=by grind[Xa]
 have nvb:v≠b:=by grind[Xa]
 have r:=(ha.lt hR);have s:=(hb.lt hR);have j:∀p∈es,lZ p=p:=fun p c=>by have:=hR p c;have⟨x,y⟩:=p;simp only[lZ,Gw]at*;omega
 have l:∀p,p∈es.filter (fun p=>!aO p (v:Int))↔p∈es/\p.1≠(v:Int)/\p.2≠(v:Int):=by grind[aO]
 have nd:es.Nodup:=hA.nodup;have OT:es.length=(es.filter fun p=>!aO p (v:Int)).length+2:=by
  have e:(es.filter fun p=>aO p (v:Int)).Perm [GW v a,GW v b]:=(ajX (nd.filter _) (by simp[afc];omega)).2 fun p=>by
   rw[xD,HV,iy];constructor
   .rintro⟨c,n⟩;obtain⟨x,y,t,u,d,rfl⟩:=aiu hR c;have:v=x\/v=y:=by simp only[aO,bj,ai4,abV]at n;omega
    rcases this with rfl|rfl
    .rcases only y d with rfl|rfl<;>simp
    .rcases only x d.symm with rfl|rfl
     .left;exact so ..
     .right;exact so ..
   .rintro(rfl|rfl)
    .exact(by grind[H4,bj])
    .exact(by grind[H4,bj])
  have:=(qL198 (fun p=>aO p (v:Int)) es).length_eq;rw[aaf,e.length_eq]at this;simp only[Vn,NC]at this;omega
 have k:YG ((200:Nat):Int) (((a:Int),(b:Int))::es.filter fun p=>!aO p (v:Int)):=by
  have o:=f.len;refine⟨NH,NH,by rw[Vn];have:es.length<=594:=o;omega,fun p c=>?_,?_⟩
  .rcases HV.1 c with rfl|c
   .simp only[lZ];omega
   .have c:=((l p).1 c).1;rw[j p c];have:=hR p c;omega
  .rw[AQ,Uz (g:=id) hGr,alJ,eR];refine⟨fun h=>i ?_,nd.filter _⟩;have h:=((l _).1 h).1;simp only[lZ]at h;rcases agm a b with q|q
   .left;rwa[qL241 NH,qL230 NH]at h
   .right;rwa[Int.min_eq_right NH,Int.max_eq_left NH]at h
 have ad:∀x y:Nat,Jp (sg (((a:Int),(b:Int))::es.filter fun p=>!aO p (v:Int))) x y↔(x=a/\y=b)\/(x=b/\y=a)\/(Jp es x y/\x≠v/\y≠v):=fun x y=>by
  rw[adj_sg];unfold Jp;simp only[HV,l,Gw];constructor
  .rintro((h|h)|(h|h))
   .omega
   .right;right;exact hGr
   .omega
   .right;right;exact hGr
  .rintro(h|h|⟨h|h,m,h2⟩)
   .omega
   .omega
   .left;right;exact hGr
   .right;right;exact hGr
 refine⟨_,k.right,k.right.GD,hR,k.right.q9,hA,hGr,fun w h=>?_,fun x y=>?_,?_⟩
 .have:=(ad v w).1 h;omega
 .unfold upA;rw[ad];constructor
  .intro h;by_cases c1:x=v
   .subst c1;right;left;exact hGr
   by_cases c2:y=v
   .subst c2;right;right;exact(by grind[Jp.symm])
   left;refine⟨hGr,fun e=>?_,fun e=>?_⟩
   .obtain⟨rfl,rfl⟩:=e;exact i h
   .obtain⟨rfl,rfl⟩:=e;exact i h.symm
  .rintro(⟨h,m,h2⟩|⟨rfl,rfl|rfl⟩|⟨rfl,rfl|rfl⟩)
   .rcases h with h|h|h
    .exact absurd h m
    .exact absurd h h2
    .exact h.1
   .exact ha
   .exact hb
   .exact ha.symm
   .exact hb.symm
 .rw[ZS,vg,Vn];omega
end
end Go.Fw
namespace Go.Fw
attribute [local instance] Classical.propDecidable
def aj6:II->xLP
 |[]=>[]
 |x::l=>l.map (fun y=>GW x y)++aj6 l
theorem ahj:∀{l:II},l.Nodup->∀{p:Pr},p∈aj6 l↔∃x y,x∈l/\y∈l/\x≠y/\p=GW x y
 |[],_,p=>by simp[aj6]
 |a::l,nd,p=>by
  have⟨f,h2⟩:=eR.1 nd;rw[aj6,vZ,si,ahj h2];constructor
  .rintro(⟨y,b,rfl⟩|⟨x,y,d,b,ne,rfl⟩)
   .exact hGr
   .exact hGr
  .rintro⟨x,y,d,b,ne,rfl⟩;rcases HV.1 d with rfl|e
   .rcases HV.1 b with rfl|c
    .exact absurd rfl ne
    .exact hGr
   .rcases HV.1 b with rfl|c
    .exact(by grind[so])
    .exact hGr
theorem alI:∀{l:II},l.Nodup->(aj6 l).Nodup
 |[],_=>by simp[aj6]
 |a::l,nd=>by
  have⟨b,h2⟩:=eR.1 nd;rw[aj6,ZT];refine⟨?_,alI h2,fun p c q d e=>?_⟩
  .rw[AE,V3];exact(by grind[ahq])
  .subst e;obtain⟨y,g,rfl⟩:=si.1 c;have⟨z,w,f,hw,ne,e⟩:=(ahj h2).1 d;rcases afc.1 e with⟨q,-⟩|⟨q,-⟩
   .exact b (q▸f)
   .exact b (q▸hw)
def aln(A B:II):xLP:=A.flatMap fun a=>B.map fun b=>GW a b
theorem aiG{A B:II}{p:Pr}:p∈aln A B↔∃a b,a∈A/\b∈B/\p=GW a b:=by
 unfold aln;rw[KG];constructor
 .rintro⟨a,ha,h⟩;obtain⟨b,hb,rfl⟩:=si.1 h;exact hGr
 .rintro⟨a,b,ha,hb,rfl⟩;exact hGr
theorem crs_nd{A B:II}(nd:(A++B).Nodup):(aln A B).Nodup:=by
 rw[ZT]at nd;have⟨nA,nB,c⟩:=nd;unfold aln;rw[AE,ahG];refine⟨fun a ha=>?_,?_⟩
 .rw[V3];exact(by grind[ahq])
 .refine(AE.1 nA).imp_of_mem fun{a a'} ha mi ne x d y f e=>?_;obtain⟨b,hb,rfl⟩:=si.1 d;obtain⟨g,sZ,rfl⟩:=si.1 f;rcases afc.1 e with⟨q,-⟩|⟨q,-⟩
  .exact ne q
  .exact c a ha g sZ q
def crs_len(A B:II):(aln A B).length=A.length*B.length:=by
 unfold aln
 induction A with
 |nil=>simp
 |cons a A b=>rw[y5,aaf,b,vg,Vn,dU];omega
structure akY (es:xLP) (E:Nat) (ks:xLP):Prop where
 e3:3<=E
 e4:E<=4
 deg:∀c∈aad (Zh 200 es),((Zh 200 es).getD c []).length=E
 two:∀v w,Jp es v w->v∉aad (Zh 200 es)->((Zh 200 es).getD v []).length=2
 all:aaU (Zh 200 es) (aad (Zh 200 es))=2*es.length
 nd:ks.Nodup
 len:(aaj (Zh 200 es) (aad (Zh 200 es))).length=2*ks.length
 n9:9<=ks.length
 w2:∀k∈ks,aaI (Zh 200 es) (aad (Zh 200 es)) k=2
 ends:∀k∈ks,∃a b,a∈aad (Zh 200 es)/\b∈aad (Zh 200 es)/\a≠b/\k=GW a b
def ShapeK(cs:II)(ks:xLP):Prop:=(cs.length=5/\ks=aj6 cs)\/∃A B,(A++B).Perm cs/\A.length=3/\B.length=3/\ks=aln A B
theorem ahk{es:xLP}(hr:bX ⟨((200:Nat):Int),es⟩)(f:aaN es≠0):∃E ks,akY es E ks/\ShapeK (aad (Zh 200 es)) ks:=by
 rw[agP]at f;by_cases hb:(Zh 200 es).any aaW=tT
 .rw[Sb hb]at f;exact absurd rfl f
 rw[WA hb]at f;have two:∀v w,Jp es v w->v∉aad (Zh 200 es)->((Zh 200 es).getD v []).length=2:=fun v w h z=>by
  have C:=(h.lt hr.GD).1;have r:v<(Zh 200 es).length:=by rw[Xq];exact C
  have n0:((Zh 200 es).getD v []).length≠0:=by rw[<-agb];have:=(acu hr.GD).2 h;intro e;rw[im e]at this;cases this
  have i:aaW ((Zh 200 es).getD v [])=fF:=by refine qL224.2 fun q=>hb (uu.2 ⟨_,aev r,?_⟩);rw[D4 r]at q;exact q
  have g:¬aaA (Zh 200 es) v=tT:=fun q=>z (xD.2 hGr);unfold aaW at i;unfold aaA at g;simp only[Bool.not_eq_false',ai4,beq_iff_eq]at i g;omega
 have g:(aad (Zh 200 es)).Nodup:=Hs.filter _;have s:∀E,aa8 (Zh 200 es) (aad (Zh 200 es)) es.length E≠0->(∀c∈aad (Zh 200 es),((Zh 200 es).getD c []).length=E)/\aaU (Zh 200 es) (aad (Zh 200 es))=2*es.length/\(E=4->abh (aaI (Zh 200 es) (aad (Zh 200 es))) (aad (Zh 200 es)) (aad (Zh 200 es))=tT)/\(E≠4->aa1 (aaI (Zh 200 es) (aad (Zh 200 es))) (aad (Zh 200 es))=tT):=fun E h=>by
  unfold aa8 at h;by_cases c1:(aad (Zh 200 es)).any (fun c=>((Zh 200 es).getD c []).length !=E)=tT
  .rw[Sb c1]at h;exact absurd rfl h
  rw[WA c1]at h;by_cases c2:aaU (Zh 200 es) (aad (Zh 200 es))=2*es.length
  rotate_left
  .rw[Sb c2]at h;exact absurd rfl h
  rw[WA (fun q=>q c2)]at h;refine⟨by grind[any_eq_true],c2,fun e=>?_,fun e=>?_⟩
  .rw[Sb e]at h;exact hGr
  .rw[WA e]at h;exact hGr
 by_cases j:(aad (Zh 200 es)).length=5
 .rw[Sb j]at f;obtain⟨l,h2,h3,-⟩:=s 4 f;have h3:=h3 rfl;have n:(aj6 (aad (Zh 200 es))).length=10:=by
   match aad (Zh 200 es),j with
   |[a,b,c,d,e],_=>rfl
  refine⟨4,aj6 (aad (Zh 200 es)),⟨NH,NH,l,two,h2,alI g,by rw[abp l,j,n],NH,fun k f=>?_,fun k f=>?_⟩,.inl ⟨j,rfl⟩⟩
  .obtain⟨x,y,D,F,ne,rfl⟩:=(ahj g).1 f;have:=QD.1 (QD.1 h3 x D) y F;rw[ai4]at this;rcases this with q|q
   .exact hGr
   .exact acg q
  .exact(ahj g).1 f
 .rw[WA j]at f;by_cases m:(aad (Zh 200 es)).length=6
  rotate_left
  .rw[WA m]at f;exact absurd rfl f
  rw[Sb m]at f;obtain⟨l,h2,-,h3⟩:=s 3 f;have h3:=h3 WY;have o:=abp l;rw[m]at o;have⟨A,B,T⟩:=(aht (L:=(aaj (Zh 200 es) (aad (Zh 200 es))).map (aaH (Zh 200 es))) g m (ajr _) (by rw[vg,o];decide)).1 h3;have⟨t1,t,u,G⟩:=T;have p:=(t1.nodup_iff).2 g;refine⟨3,aln A B,⟨NH,NH,l,two,h2,crs_nd p,by rw[o,crs_len,t,u],by rw[crs_len,t,u];decide,fun k f=>?_,fun k f=>?_⟩,.inr hGr⟩
  .obtain⟨a,b,ha,hb,rfl⟩:=aiG.1 f;exact G a ha b hb
  .obtain⟨a,b,ha,hb,rfl⟩:=aiG.1 f;exact(by grind[nodup_append])
section
variable{es:List Pr}(hr:bX ⟨((200:Nat):Int),es⟩){E:Nat}{ks:List Pr}(K:akY es E ks)
include hr K
omit hr in
theorem akY.zero{p:Pr}(b:p∉ks):aaI (Zh 200 es) (aad (Zh 200 es)) p=0:=by
 have:=ahO (eR.2 ⟨b,K.nd⟩) ((aaj (Zh 200 es) (aad (Zh 200 es))).map (aaH (Zh 200 es)));rw[AQ,ahe,vg,K.len]at this;have s:∀l:xLP,(∀k∈l,k∈ks)->(l.map fun k=>((aaj (Zh 200 es) (aad (Zh 200 es))).map (aaH (Zh 200 es))).count k).sum=2*l.length:=by
  intro l
  induction l with
  |nil=>intro _;rfl
  |cons a l c=>intro h;have e:((aaj (Zh 200 es) (aad (Zh 200 es))).map (aaH (Zh 200 es))).count a=2:=K.w2 a (h a Ma);rw[AQ,ahe,e,c hGr,Vn];omega
 rw[s ks fun k h=>h]at this;unfold aaI;omega
omit hr K in
theorem agS:∀c∈aad (Zh 200 es),c<200/\((Zh 200 es).getD c []).length≠2:=fun c h=>agY h
omit K in
theorem ahx{c w:Nat}(h:c∈aad (Zh 200 es))(a:Jp es c w):(c,w)∈aaj (Zh 200 es) (aad (Zh 200 es)):=by rw[afR,KG];exact(by grind[acu,bX.GD])
omit hr K in
theorem cnt_in{l:List (Nat×Nat)}{p:Pr}(nd:l.Nodup)(h:∀d∈l,d∈aaj (Zh 200 es) (aad (Zh 200 es))/\aaH (Zh 200 es) d=p):l.length<=aaI (Zh 200 es) (aad (Zh 200 es)) p:=by unfold aaI;rw[List.count,qL245,qL173];exact tf nd hGr
omit hr in
theorem akY.in1{d:Nat×Nat}(h:d∈aaj (Zh 200 es) (aad (Zh 200 es))):aaH (Zh 200 es) d∈ks:=by refine j9 fun q=>?_;have:=cnt_in (l:=[d]) Ma (p:=aaH (Zh 200 es) d) (fun x a=>by rw[iy.1 a];exact⟨h,rfl⟩);rw[K.zero q]at this;simp at this
omit K in
theorem ah5{c w:Nat}(h:c∈aad (Zh 200 es))(a:Jp es c w){M:Nat}{e:Nat×Nat}(r:agC 200 es (c,w) M e)(b:e.2∈aad (Zh 200 es)):aaH (Zh 200 es) (c,w)=GW c e.2:=by rw[ahP,oth_run hr.GD hr.q9 (qL0 _) a (agY h).2 r (agY b).2]
theorem akY.apart{v a b:Nat}(h2:((Zh 200 es).getD v []).length=2)(c:a∈aad (Zh 200 es))(ha:Jp es v a)(hb:Jp es v b)(ne:a≠b):¬Jp es a b:=fun ab=>by
 have hR:=hr.GD;have hA:=hr.q9;have nva:v≠a:=by grind[Xa]
 have nvb:v≠b:=by grind[Xa]
 have r1:agC 200 es (a,v) 1 (v,b):=by grind[agC.one,ahc]
 by_cases cb:b∈aad (Zh 200 es)
 .have r2:agC 200 es (b,v) 1 (v,a):=by grind[agC.one,ahc]
  have g:=ah5 hr c ha.symm r1 cb;have k:=ah5 hr cb hb.symm r2 c;have e3:=ah5 hr c ab (M:=0) ⟨rfl,hGr⟩ cb;have:=cnt_in (l:=[(a,v),(b,v),(a,b)]) (p:=GW a b) (by simp;omega) fun d hd=>by
   simp only[HV,fj,or_false]at hd;rcases hd with rfl|rfl|rfl
   .exact⟨ahx hr c ha.symm,g⟩
   .exact(by grind[ahx,Jp.symm,so])
   .exact⟨ahx hr c ab,e3⟩
  simp only[Vn,NC]at this;by_cases q:GW a b∈ks
  .rw[K.w2 _ q]at this;omega
  .rw[K.zero q]at this;omega
 .have d2:=K.two b v hb.symm cb;have r2:agC 200 es (v,b) 1 (b,a):=by grind[agC.one,ahc,Jp.symm]
  have e:=ah5 hr c ha.symm (r1.trans r2) c;have:=K.in1 (ahx hr c ha.symm);rw[e]at this;obtain⟨x,y,-,-,h,f⟩:=K.ends _ this;rcases afc.1 f with⟨i,j⟩|⟨i,j⟩<;>omega
def akY.find{u:Nat}(h2:((Zh 200 es).getD u []).length=2):∃v a b,((Zh 200 es).getD v []).length=2/\a∈aad (Zh 200 es)/\Jp es v a/\Jp es v b/\a≠b:=by
 have hR:=hr.GD;have hA:=hr.q9;obtain⟨x,y,-,-,h3,j,-⟩:=abg hR hA h2;have m:=akU hR hA agS (Hs.filter _) K.all h3;have⟨d,hd,m⟩:=KG.1 m;have⟨i,hi,m⟩:=si.1 m;have hi:=Db.1 hi;have⟨k1,k2,e⟩:=agM hR agS hd;obtain⟨⟨-,r2⟩,-,-⟩:=agB hR hA agS hd;have f:0<(aal (Zh 200 es) d).2:=by
  rcases i with _|i
  .exact absurd h2 (by rw[show u=d.1 from(congrArg Prod.fst m).symm];exact k2)
  .omega
 have c:=r2 0 f;obtain⟨z,g,h,-⟩:=ahQ hR hA (y:=d.2) c k1.symm;exact⟨d.2,d.1,z,c,e,k1.symm,h,wI g⟩
theorem akY.base(no:∀v,((Zh 200 es).getD v []).length≠2)(x y:Nat):Jp es x y↔GW x y∈ks:=by
 have hR:=hr.GD;have a:∀{v w},Jp es v w->v∈aad (Zh 200 es):=fun{v w} h=>j9 fun q=>no v (K.two v w h q);constructor
 .intro h;have:=K.in1 (ahx hr (a h) h);rwa[ah5 hr (a h) h (M:=0) ⟨rfl,hGr⟩ (a h.symm)]at this
 .intro h;have w:=K.w2 _ h;unfold aaI at w;have:GW x y∈(aaj (Zh 200 es) (aad (Zh 200 es))).map (aaH (Zh 200 es)):=by grind[count_pos_iff]
  have⟨d,hd,e⟩:=si.1 this;have⟨k1,k2,f⟩:=agM hR agS hd;have g:aaH (Zh 200 es) d=GW d.1 d.2:=ah5 hr f k1 (M:=0) ⟨rfl,hGr⟩ (a k1.symm);rw[g]at e;rcases afc.1 e with⟨b,c⟩|⟨b,c⟩
  .rw[<-b,<-c];exact k1
  .rw[<-b,<-c];exact k1.symm
end
end Go.Fw
namespace Go.Fw
section
attribute [local instance] Classical.propDecidable
def ajN(n:Nat)(c:II):II:=c++(rG n).filter fun v=>!c.contains v
def ofC(n:Nat)(c:II)(i:Nat):Nat:=(ajN n c).getD i 0
def toC(n:Nat)(c:II)(v:Nat):Nat:=(ajN n c).idxOf v
section
variable{n:Nat}{c:II}(nd:c.Nodup)(lt:∀v∈c,v<n)
include nd lt
theorem ah8:(ajN n c).Perm (rG n):=by
 refine(ajX ?_ Hs).2 fun v=>?_
 .unfold ajN;rw[ZT];refine⟨nd,Hs.filter _,fun a ha b hb e=>?_⟩;subst e;have:=(xD.1 hb).2;simp[ha]at this
 .unfold ajN;rw[vZ,xD];constructor
  .rintro(h|h)
   .exact Db.2 (lt v h)
   .exact h.1
  .intro h;by_cases q:v∈c
   .exact .inl q
   .exact hGr
def ordC_nd:(ajN n c).Nodup:=(ah8 nd lt).nodup_iff.2 Hs
def alo:(ajN n c).length=n:=by rw[(ah8 nd lt).length_eq,ag4]
def aiH{i:Nat}(h:i<n):∃q:i<(ajN n c).length,ofC n c i=(ajN n c)[i]:=by
 have a:i<(ajN n c).length:=by rw[alo nd lt];exact h
 exact⟨a,D4 a⟩
theorem ren_C:Ren n (toC n c) (ofC n c):=by
 have mem:∀v,v∈ajN n c↔v<n:=by grind[ah8]
 refine⟨fun v h=>?_,fun v h=>?_,fun v h=>?_,fun v h=>?_⟩
 .have:=abz ((mem v).2 h);rwa[alo nd lt]at this
 .obtain⟨q,e⟩:=aiH nd lt h;rw[e];exact(by grind[getElem_mem])
 .obtain⟨q,e⟩:=aiH nd lt h;rw[e];exact qL234 (ordC_nd nd lt) v q
 .have b:=(mem v).2 h;have a:=abz b;unfold ofC toC;rw[D4 a];exact qL219 a
theorem ake{i:Nat}(h:i<n):ofC n c i∈c↔i<c.length:=by
 obtain⟨q,e⟩:∃q:i<(c++(rG n).filter fun v=>!c.contains v).length,ofC n c i=(c++(rG n).filter fun v=>!c.contains v)[i]'q:=aiH nd lt h
 rw[e];constructor
 .intro a;refine j9 fun hi=>?_;rw[qL191 NH]at a;have:=aev (l:=(rG n).filter fun v=>!c.contains v) (n:=i-c.length) (by rw[aaf]at q;omega);have:=(xD.1 this).2;rw[qL225]at this;have h2:=Dl.2 a;rw[this]at h2;cases h2
 .intro hi;rw[qL195 hi];exact aev hi
def ofC_inj{i j:Nat}(hi:i<n)(a:j<n)(e:ofC n c i=ofC n c j):i=j:=by have N:=ren_C nd lt;have:=N.pq i hi;rw[e,N.pq j a]at this;exact this.symm
def ofC_at{i:Nat}(hi:i<c.length)(a:i<n):ofC n c i=c[i]:=by
 obtain⟨q,e⟩:∃q:i<(c++(rG n).filter fun v=>!c.contains v).length,ofC n c i=(c++(rG n).filter fun v=>!c.contains v)[i]'q:=aiH nd lt a
 rw[e];rw[qL195 hi]
end
theorem shape_no{es:xLP}(hR:aV 200 es){cs:II}(g:cs.Nodup)(lt:∀v∈cs,v<200){ks:xLP}(S:ShapeK cs ks)(j:∀x y,Jp es x y↔GW x y∈ks):Tw2 (Jp es)/\¬XU 200 (eN 200 es):=by
 rcases S with⟨D,rfl⟩|⟨A,B,p,l,lB,rfl⟩
 .have ad:∀x y,Jp es x y↔x∈cs/\y∈cs/\x≠y:=fun x y=>by
   rw[j,ahj g];constructor
   .rintro⟨a,b,ha,hb,ne,e⟩;rcases afc.1 e with⟨rfl,rfl⟩|⟨rfl,rfl⟩
    .exact⟨ha,hb,ne⟩
    .exact hGr
   .rintro⟨d,h2,h3⟩;exact hGr
  refine⟨fun c u v ⟨w,o⟩ ⟨z,r⟩ d h2=>?_,fun P=>?_⟩
  .by_cases e:u=v
   .rw[e];exact .refl
   .exact(by grind[Rc.one])
  .refine k5_no (n:=200) NH (P.ren (ren_C g lt) fun v w=>?_);rw[pZ];constructor
   .rintro⟨d,h2,h3⟩;refine⟨NH,NH,(vD hR).2 ((ad _ _).2 ⟨by grind[ake],(by grind[ake]),fun e=>h3 (ofC_inj g lt NH NH e).symm⟩)⟩
   .rintro⟨d,h2,h3⟩;have⟨k1,k2,t⟩:=(ad _ _).1 ((vD hR).1 h3);have k1:=(ake g lt d).1 k1;have k2:=(ake g lt h2).1 k2;exact⟨NH,NH,fun e=>t (by rw[e])⟩
 .have nd:=p.nodup_iff.2 g;have f:∀v∈A++B,v<200:=by grind[List.Perm.mem_iff]
  have E:=(ZT.1 nd).2.2;have ad:∀x y,Jp es x y↔(x∈A/\y∈B)\/(x∈B/\y∈A):=fun x y=>by
   rw[j,aiG];constructor
   .rintro⟨a,b,ha,hb,e⟩;rcases afc.1 e with⟨rfl,rfl⟩|⟨rfl,rfl⟩
    .exact .inl ⟨ha,hb⟩
    .exact .inr ⟨hb,ha⟩
   .rintro(⟨d,h2⟩|⟨d,h2⟩)
    .exact hGr
    .exact(by grind[so])
  refine⟨fun c u v ⟨w,o⟩ ⟨z,r⟩ d h2=>?_,fun P=>?_⟩
  .have two:∀X:II,X.length=3->X.Nodup->∃b∈X,b≠c:=fun X l3 nX=>by
    match X,l3 with
    |[x,y,z],_=>
     by_cases q:x=c
     .exact⟨y,Ma,hGr⟩
     .exact⟨x,Ma,q⟩
   have nA:=(ZT.1 nd).1;have nB:=(ZT.1 nd).2.1;rcases(ad _ _).1 o with⟨a1,-⟩|⟨a1,-⟩<;>rcases(ad _ _).1 r with⟨C,-⟩|⟨C,-⟩
   .obtain⟨b,hb,nb⟩:=two B lB nB;exact(Rc.one hGr d nb).trans (by grind[Rc.one])
   .exact(by grind[Rc.one])
   .exact(by grind[Rc.one])
   .obtain⟨b,hb,nb⟩:=two A l nA;exact(Rc.one hGr d nb).trans (by grind[Rc.one])
  .have m:∀{i},i<200->(ofC 200 (A++B) i∈A↔i<3):=fun{i} hi=>by
    have k:=ake nd f hi;rw[aaf,l,lB]at k;constructor
    .intro h;have l6:=k.1 (vZ.2 (.inl h));refine j9 fun q=>?_;rw[ofC_at nd f (by rw[aaf];omega) hi,qL191 NH]at h;exact(by grind[getElem_mem])
    .intro h;rw[ofC_at nd f (by rw[aaf];omega) hi,qL195 NH];exact aev _
   have s:∀{i},i<200->(ofC 200 (A++B) i∈B↔3<=i/\i<6):=fun{i} hi=>by
    have k:=ake nd f hi;rw[aaf,l,lB,vZ,m hi]at k;constructor
    .intro h;have:=k.1 (.inr h);refine(by grind[Nat.le_of_not_lt])
    .intro h;exact hGr
   refine k33_no (n:=200) NH (P.ren (ren_C nd f) fun v w=>?_);rw[agU,vD hR,ad];constructor
   .rintro(⟨d,h2,h3⟩|⟨d,h2,h3⟩)
    .exact hGr
    .exact hGr
   .rintro⟨d,h2,h3|h3⟩
    .have:=(m d).1 h3.1;have:=(s h2).1 h3.2;omega
    .have:=(s d).1 h3.1;have:=(m h2).1 h3.2;omega
theorem kind_no:∀(m:Nat)(es:xLP),es.length=m->bX ⟨((200:Nat):Int),es⟩->aaN es≠0->Tw2 (Jp es)/\¬XU 200 (eN 200 es):=by
 intro m
 induction m with
 |zero=>
  intro es J e i;obtain⟨E,ks,K,-⟩:=ahk e i;have:=alH e.GD e.q9 agS (Hs.filter _);have M:=K.n9;have o:=K.len;rw[<-aiA]at this;have:(aaj (Zh 200 es) (aad (Zh 200 es))).length<=(ahg (Zh 200 es) (aad (Zh 200 es))).length:=by
   unfold ahg;generalize aaj (Zh 200 es) (aad (Zh 200 es))=D
   induction D with
   |nil=>exact aax _
   |cons d D r=>simp only[y5,aaf,vg,ag4,Vn];omega
  omega
 |succ m r=>
  intro es N e i;have⟨E,ks,K,S⟩:=ahk e i;have hR:=e.GD;by_cases j:∃u,((Zh 200 es).getD u []).length=2
  rotate_left
  .exact shape_no hR (Hs.filter _) (fun v h=>(agY h).1) S (by grind[akY.base])
  have⟨u,j⟩:=j;have⟨v,a,b,h2,O,ha,hb,ne⟩:=K.find e j;have⟨L,s,U⟩:=up_ex e h2 ha hb ne (by grind[akY.apart]);have g:aaN L≠0:=by rw[<-U.kind];exact i
  have⟨T,P⟩:=r L (by have:=U.len;omega) s g;have⟨E',C,z,F⟩:=ahk s g;have f:∃t∈aad (Zh 200 L),t≠a/\t≠b:=by
   have l3:3<=(aad (Zh 200 L)).length:=by
    rcases F with⟨h,-⟩|⟨A,B,p,R,lB,-⟩
    .omega
    .have:=p.length_eq;rw[aaf]at this;omega
   refine j9 fun q=>?_;have:=tf (A:=aad (Zh 200 L)) (B:=[a,b]) (Hs.filter _) fun x V=>by
    by_cases o:x=a
    .simp[o]
    by_cases G:x=b
    .simp[G]
    exact hGr
   simp only[Vn,NC]at this;omega
  have⟨t,H,t1,I⟩:=f;have k:∃w,Jp L t w:=by
   have hd:=z.deg t H;have:=z.e3;rw[<-agb]at hd;rcases h:agX (Zh 200 L) t with _|⟨w,l⟩
   .rw[h]at hd;simp at hd;omega
   .exact⟨w,(acu U.r1).1 (by rw[h];simp)⟩
  refine⟨T.upon (fun x y h=>h.symm) U.ab U.nab U.iso k t1 I U.up,fun Q=>P ?_⟩;have em:eN 200 L v=[]:=by
   rcases h:eN 200 L v with _|⟨w,l⟩
   .rfl
   .exact absurd ((vD U.r1).1 hGr) (U.iso w)
  exact(aj4.alx (n:=200) (a:=a) (b:=b) (m:=v) ⟨MG U.r1 U.a1,MG U.r2 U.a2,(vD U.r1).2 U.ab,em,(ha.lt hR).1,fun x y=>by rw[vD U.r1,vD U.r2,U.up];rfl⟩).1 Q
theorem bX.akh{n:Nat}{es:xLP}(h:bX ⟨(n:Int),es⟩):bX ⟨((200:Nat):Int),es⟩:=by have b:(n:Int)<=200:=h.n1;refine bX.of NH h.len (fun p a=>?_) h.q9;have:=h.GD p a;omega
theorem kindM_no{n:Nat}{es:xLP}(h:bX ⟨(n:Int),es⟩)(f:aaz es≠0):aeo n es/\¬aak n es/\9<=es.length:=by
 have a:=h.akh;rw[aaz,Sb hGr]at f;have⟨T,P⟩:=kind_no _ es rfl a f;obtain⟨E,ks,K,-⟩:=ahk a f;have b:9<=es.length:=by
  have:=alH a.GD a.q9 agS (Hs.filter _);have b:=K.n9;have g:=K.len;rw[<-aiA]at this;have:(aaj (Zh 200 es) (aad (Zh 200 es))).length<=(ahg (Zh 200 es) (aad (Zh 200 es))).length:=by
   unfold ahg;generalize aaj (Zh 200 es) (aad (Zh 200 es))=D;clear g
   induction D with
   |nil=>exact aax _
   |cons d D i=>simp only[y5,aaf,vg,ag4,Vn];omega
  omega
 have O:=T.oneB h (fun e=>by rw[e]at b;simp at b);refine⟨O,fun q=>?_,b⟩;rcases O.flat.1 ((abc O).1 q)with q|q
 .omega
 .have j:(n:Int)<=200:=h.n1;exact(by grind[ahM,bX.GD])
end
section
variable{es:List Pr}{s t:Nat}{c:II}
end
section
variable{n:Nat}{es left:List Pr}{th:II}(hr:bX ⟨(n:Int),es⟩)(T2:zW n es)
include hr T2
end
section
variable{n:Nat}{es left:List Pr}{th:II}(hr:bX ⟨(n:Int),es⟩)
include hr
end
section
variable{n:Nat}{es:List Pr}(hr:bX ⟨(n:Int),es⟩)(T2:zW n es)
include hr T2
end
theorem RL.remK{u:vV}{x:RZ}:∀{l:II}{h:aai},RL RP h u x->(∀b∈l,blk u≠Z b)->RL RP (rem l h) u x
 |[],_,r,_=>r
 |a::l,h,r,hb=>(RL.remK r hGr).killI (hb a Ma)
section
variable{r hq:aai}{X n:Nat}{xv tv lv:vV}{us:List vV}{rows:AM}{th:II}{left:List Pr}
end
section
attribute [local irreducible] Jz JL vq cQ
variable {G:GM} {n:Nat}
def ajO{α:Type}:∀(l:List α)(i j:Nat),j<i->((l.eraseIdx i).eraseIdx j).Sublist (l.eraseIdx j)
 |[],i,j,_=>by simp
 |a::l,i+1,0,_=>by rw[ur,qL238,qL238];exact ahl l i
 |a::l,i+1,j+1,h=>by rw[ur,ur,ur];exact(ajO l i j NH).cons₂ a
def akZ{n:Nat}:∀(f i:Nat)(l:xLP),¬aak n l->(∀j,j<i->j<l.length->aak n (l.eraseIdx j))->l.length<=i+f->(aeH n f i l).Sublist l/\¬aak n (aeH n f i l)/\∀j,j<(aeH n f i l).length->aak n ((aeH n f i l).eraseIdx j)
 |0,i,l,h,a,d=>⟨alZ _,h,fun j q=>a j (by have:j<l.length:=q;omega) q⟩
 |f+1,i,l,h,a,d=>by
  rw[aeH];by_cases c:i<l.length
  rotate_left
  .rw[WA c];exact⟨alZ _,h,fun j q=>a j NH q⟩
  rw[Sb c];by_cases p:aak n (l.eraseIdx i)
  .rw[Sb p];exact akZ f (i+1) l h (fun j q b=>by
    by_cases e:j=i
    .rw[e];exact p
    .exact a j NH b) NH
  .rw[WA p];have g:(l.eraseIdx i).length=l.length-1:=by rw[alC,Sb c]
   have⟨k,h2,h3⟩:=akZ f i (l.eraseIdx i) p (fun j q b=>ahs (ajO l i j q) (a j q NH)) NH;exact⟨k.trans (ahl l i),h2,h3⟩
def ajQ(h:¬aak G.n.toNat G.es):(abv G).Sublist G.es/\¬aak G.n.toNat (abv G)/\∀j,j<(abv G).length->aak G.n.toNat ((abv G).eraseIdx j):=by rw[abv,WA h];exact akZ _ 0 _ h (fun j q=>absurd q (aeA _)) NH
def fnd_none(h:aak G.n.toNat G.es):abv G=[]:=by rw[abv,Sb h]
def planK_nil(a:bX ⟨(n:Int),[]⟩):aak n []:=⟨a,fun b hb=>by obtain⟨p,c,-⟩:=aaP.1 hb;cases c⟩
def fnd_nil(a:bX G):abv G=[]↔aak G.n.toNat G.es:=by
 refine⟨fun h=>j9 fun q=>?_,fnd_none⟩;obtain⟨c,h2,-⟩:=ajQ q;rw[h]at h2;have b:=a.n0;have e:G=⟨((G.n.toNat:Nat):Int),G.es⟩:=by have⟨n,es⟩:=G;simp only at b ⊢;rw[Int.toNat_of_nonneg b]
 rw[e]at a;exact h2 (planK_nil (a.sub (nil_sublist _)))
attribute [local instance] Classical.propDecidable
variable {a b i x y:Nat} {es:List Pr}
def lesA(A:Nat->Nat->Prop)(x y v w:Nat):Prop:=A v w/\¬(v=x/\w=y)/\¬(v=y/\w=x)
def akl(d:bX ⟨(n:Int),es⟩)(h:es[i]?=Z ((a:Int),(b:Int)))(x y:Nat):Jp (es.eraseIdx i) x y↔lesA (Jp es) a b x y:=by
 have⟨hi,e⟩:=Ny.1 h;have c:es=es.take i++((a:Int),(b:Int))::es.drop (i+1):=by rw[<-e,<-qL68 hi,qL79]
 have:=less_adj (n:=n) (L1:=es.take i) (L2:=es.drop (i+1)) (a:=a) (b:=b) (by rw[<-c];exact d) x y;rw[<-c,<-qL156]at this;exact this
def adj_at(h:Jp es x y):∃i:Nat,es[i]?=Z ((x:Int),(y:Int))\/es[i]?=Z ((y:Int),(x:Int)):=by
 rcases h with h|h
 .obtain⟨i,hi⟩:=Og.1 h;exact⟨i,.inl hi⟩
 .obtain⟨i,hi⟩:=Og.1 h;exact⟨i,.inr hi⟩
def les_comm(A:Nat->Nat->Prop)(x y:Nat):lesA A x y=lesA A y x:=by funext v w;unfold lesA;exact propext ⟨fun h=>⟨h.1,h.2.2,h.2.1⟩,fun h=>⟨h.1,h.2.2,h.2.1⟩⟩
end
section
attribute [local instance] Classical.propDecidable
attribute [local irreducible] Jz JL vq cQ ae1 abW aaN
def planK_of{n:Nat}{es:xLP}(a:bX ⟨(n:Int),es⟩)(h:XU n (eN n es)):aak n es:=by
 refine(acp a).2 fun b hb=>?_;have O:=aaQ a hb;refine(abc O).2 (O.flat.2 (.inr ?_));obtain⟨p,c,rfl⟩:=aaP.1 hb;refine h.less (fun v w k=>?_) (fun v w k=>?_)
 .rw[vD a.GD];exact((abM a.GD).1 ((vD O.1.GD).1 k)).1
 .exact(vD O.1.GD).2 ((vD O.1.GD).1 k).symm
structure TwF (K:Int) (N:Nat) (l:xLP):Prop where
 r:bX ⟨(N:Int),l⟩
 kind:aaz l=K
 less:∀i,i<l.length->aak N (l.eraseIdx i)
section
variable{K:Int}{N:Nat}{l:List Pr}(T:TwF K N l)(hK:K≠0)
include T hK
end
end
section
attribute [local irreducible] Jz JL vq cQ
variable {A:Nat->Nat->Prop} {G:GM} {L es fs:List Pr} {a b c d e n v w:Nat} {l:II} {p q:Nat->Nat}
def dec_k5:∀v:Nat,v<5->∀w:Nat,w<5->(((((v:Int),(w:Int)):Pr)∈k5L\/(((w:Int),(v:Int)):Pr)∈k5L)↔v≠w):=by decide+kernel
def dec_k33b:(rG 6).all (fun v=>(rG 6).all fun w=>(akF.contains ((v:Int),(w:Int))||akF.contains ((w:Int),(v:Int)))==((decide (v<3)&&decide (3<=w))||(decide (3<=v)&&decide (w<3))))=tT:=by decide+kernel
theorem dec_k33(v:Nat)(a:v<6)(w:Nat)(hw:w<6):(((((v:Int),(w:Int)):Pr)∈akF\/(((w:Int),(v:Int)):Pr)∈akF)↔(v<3/\3<=w/\w<6)\/(3<=v/\v<6/\w<3)):=by have:=QD.1 (QD.1 dec_k33b v (Db.2 a)) w (Db.2 hw);grind
attribute [local instance] Classical.propDecidable
theorem tw_sym(T:Tw A):(∀v w,A v w->A w v)/\∀v,¬A v v:=by
 induction T with
 |five h=>have⟨a,b,c,d,e,nd,h⟩:=h;grind
 |six h=>have⟨a,b,c,d,e,f,nd,h⟩:=h;grind
 |@up A B a b v T ab iso h g=>grind[upR]
theorem pair_adj(hR:aV n es){p:Pr}(c:p∈es):∃a b:Nat,p=GW a b/\Jp es a b:=by
 have⟨d,h2,h3⟩:=hR p c;refine⟨p.1.toNat,p.2.toNat,?_,?_⟩
 .grind[GW]
 .left;grind
theorem es_perm(hR:aV n es)(hA:D3 es)(nd:L.Nodup)(h:∀p,p∈L↔∃a b,Jp es a b/\p=GW a b):es.Perm L:=by grind[D3.nodup,pair_adj,H4]
theorem deg_two(c:bX ⟨((200:Nat):Int),es⟩)(ne:a≠b)(h:∀w,Jp es v w↔w=a\/w=b):((Zh 200 es).getD v []).length=2:=by
 have:(agX (Zh 200 es) v).Perm [a,b]:=agD (agE c.GD c.q9 _) (by simp[ne]) fun w=>by grind[acu,bX.GD]
 rw[<-agb,this.length_eq];rfl
def ren_iso(N:Ren 200 p q)(hR:aV 200 es)(d:aV 200 fs)(h:∀a b,a<200->b<200->(Jp fs (p a) (p b)↔Jp es a b)):H9 200 es fs p:=⟨hR,d,N.pl,fun _ _ ha hb e=>N.inj ha hb e,fun x c=>⟨q x,N.ql x c,N.pq x c⟩,h⟩
theorem ak0(nd:l.Nodup)(N:Ren 200 p q)(a:∀i,(h:i<l.length)->p i=l[i])(c:l.length<=200)(b:v<200):p v∈l↔v<l.length:=by
 constructor
 .intro h;have⟨i,hi,e⟩:=alQ h;rw[<-a i hi]at e;have:=N.inj NH b e;omega
 grind
def adj_k5:Jp k5L v w↔v<5/\w<5/\v≠w:=by
 have hR:aV 5 k5L:=k5R.GD;constructor
 .intro h;have l:=h.lt hR;exact⟨l.1,l.2,(dec_k5 v l.1 w l.2).1 h⟩
 .rintro⟨a,h2,h3⟩;exact(dec_k5 v a w h2).2 h3
def adj_k33:Jp akF v w↔(v<3/\3<=w/\w<6)\/(3<=v/\v<6/\w<3):=by
 have hR:aV 6 akF:=k33R.GD;constructor
 .intro h;have l:=h.lt hR;exact(dec_k33 v l.1 w l.2).1 h
 .intro h;exact(dec_k33 v NH w NH).2 h
theorem aij{K:Int}(a:bX ⟨((200:Nat):Int),L⟩)(d:aaz L=K)(b:bX ⟨((200:Nat):Int),es⟩)(I:H9 200 L es p)(c:es.length=L.length):aaN es=K:=by rw[akQ I a.q9 b.q9 c];grind[aaz.eq_1]
theorem five_kind(nd:[a,b,c,d,e].Nodup)(f:bX ⟨((200:Nat):Int),es⟩)(mem:∀v w,Jp es v w↔v∈[a,b,c,d,e]/\w∈[a,b,c,d,e]/\v≠w):aaN es=5:=by
 have lt:∀v∈[a,b,c,d,e],v<200:=fun v g=>by
  by_cases k:v=a
  .have:Jp es a b:=(mem a b).2 ⟨Ma,Ma,hGr⟩;rw[k];exact(this.lt f.GD).1
  .exact(((mem a v).2 ⟨Ma,g,wI k⟩).lt f.GD).2
 have⟨p,q,N,h⟩:=akE nd lt;have i:bX ⟨((200:Nat):Int),k5L⟩:=k5R.akh;refine aij i kind_k5 f (ren_iso N i.GD f.GD fun v w g hw=>?_) ?_
 .rw[mem,adj_k5,ak0 nd N h Ma g,ak0 nd N h Ma hw];simp only[Vn,NC];have:p v≠p w↔v≠w:=⟨fun k e=>k (by rw[e]),fun k e=>k (N.inj g hw e)⟩;rw[this]
 .have:=(es_perm f.GD f.q9 (alI nd) fun p=>by grind[ahj]).length_eq;rw[this];rfl
theorem six_kind{a b c d e f:Nat}(nd:[a,b,c,d,e,f].Nodup)(h:bX ⟨((200:Nat):Int),es⟩)(mem:∀v w,Jp es v w↔(v∈[a,b,c]/\w∈[d,e,f])\/(v∈[d,e,f]/\w∈[a,b,c])):aaN es=33:=by
 have lt:∀v∈[a,b,c,d,e,f],v<200:=fun v i=>by
  by_cases k:v∈[a,b,c]
  .exact(((mem v d).2 (.inl ⟨k,Ma⟩)).lt h.GD).1
  .exact(((mem v a).2 (.inr ⟨hGr,Ma⟩)).lt h.GD).1
 have⟨p,q,N,g⟩:=akE nd lt;have m:bX ⟨((200:Nat):Int),akF⟩:=k33R.akh;have o:=g 0 Ma;have j:=g 1 Ma;have h2:=g 2 Ma;have h3:=g 3 Ma;have n:=g 4 Ma;have r:=g 5 Ma;simp at o j h2 h3 n r;have six:∀v,v<200->(p v∈[a,b,c]↔v<3)/\(p v∈[d,e,f]↔3<=v/\v<6):=fun v i=>by
  by_cases k:v<6
  .have:v=0\/v=1\/v=2\/v=3\/v=4\/v=5:=NH;simp at nd;rcases this with rfl|rfl|rfl|rfl|rfl|rfl
   .grind
   .grind
   .grind
   .grind
   all_goals grind
  .have:=mt (ak0 nd N g Ma i).1 k;grind
 refine aij m kind_k33 h (ren_iso N m.GD h.GD fun v w i hw=>?_) ?_
 .rw[mem,adj_k33,(six v i).1,(six v i).2,(six w hw).1,(six w hw).2];omega
 .have l:([a,b,c]++[d,e,f]).Nodup:=nd;have:=(es_perm h.GD h.q9 (crs_nd l) fun p=>by
   rw[aiG];constructor
   .grind
   .rintro⟨x,y,j,n⟩;rcases(mem x y).1 j with k|k
    all_goals grind[so]).length_eq
  rw[this];rfl
theorem tw_kind(T:Tw A):∀{es:xLP},bX ⟨((200:Nat):Int),es⟩->(∀x y,Jp es x y↔A x y)->aaN es≠0:=by
 induction T with
 |five h=>have⟨a,b,c,d,e,nd,h⟩:=h;grind[five_kind]
 |six h=>have⟨a,b,c,d,e,f,nd,h⟩:=h;grind[six_kind]
 |@up A B a b v T ab iso h l=>
  intro es i hB;have⟨sy,ir⟩:=tw_sym T;have nva:v≠a:=fun e=>iso b (e▸ab);have nvb:v≠b:=fun e=>iso a (e▸sy _ _ ab);have nab:a≠b:=fun e=>ir b (e▸ab);have j:∀w,¬A w v:=fun w k=>iso w (sy _ _ k);have mem:∀x y,Jp es x y↔upR A a b v x y:=fun x y=>(hB x y).trans (h x y);have g:∀w,Jp es v w↔w=a\/w=b:=fun w=>by grind[upR]
  have⟨L,m,U⟩:=up_ex i (deg_two i nab g) ((g a).2 (.inl rfl)) ((g b).2 (.inr rfl)) nab (fun k=>by grind[upR]);rw[U.kind];refine l m fun x y=>?_;have n:=U.iso;have o:∀w,¬Jp L w v:=fun w k=>n w k.symm;by_cases k1:x=v
  .grind
  by_cases k2:y=v
  .grind
  by_cases p:(x=a/\y=b)\/(x=b/\y=a)
  .grind[UpK.ab,Jp.symm]
  .have q:=U.up x y;grind[upA,upR]
theorem akn(d:bX ⟨((200:Nat):Int),es⟩)(no:¬XU 200 (eN 200 es))(less:∀i,i<es.length->XU 200 (eN 200 (es.eraseIdx i))):aaN es≠0:=by
 have hR:=d.GD;have c:=MG hR d.q9;have lt:∀{es:xLP},aV 200 es->∀v w,w∈eN 200 es v->v<200:=fun hR v w h=>(((vD hR).1 h).lt hR).1;have Rl:V7 201 (eN 200 es):=⟨c.nd,fun v w h=>afJ (c.lt v w h),c.sy,c.ir⟩;have more:∀{es:xLP},aV 200 es->(XU 201 (eN 200 es)↔XU 200 (eN 200 es)):=fun hR=>XU.more (lt hR);have T:=alB (n:=201) NH _ (eN 200 es) rfl Rl ⟨200,NH,c.nil_at (qL0 _)⟩ (fun P=>no ((more hR).1 P)) fun a b hb=>by
  have ad:=(vD hR).1 hb;have⟨i,hi⟩:=adj_at ad;have f:i<es.length:=hGr;have e:aV 200 (es.eraseIdx i):=(d.sub (ahl es i)).GD;have P:aae 201 fun v w=>w∈eN 200 (es.eraseIdx i) v:=(more e).2 (less i f);refine P.congr fun v w=>?_;rw[vD e,vD hR];rcases hi with hi|hi
  .rw[akl d hi];rfl
  .rw[akl d hi,les_comm];rfl
 grind[tw_kind,vD]
theorem kura_sub:∀(m:Nat)(es:xLP),es.length=m->bX ⟨((200:Nat):Int),es⟩->¬XU 200 (eN 200 es)->∃L,L.Sublist es/\aaN L≠0:=by
 intro m
 induction m using Nat.strongRecOn<;>grind[akn,bX.sub,List.Sublist.trans]
theorem ako(a:bX ⟨(n:Int),es⟩):aak n es↔XU n (eN n es):=by
 have c:(n:Int)<=200:=a.n1;refine⟨fun h=>j9 fun no=>?_,planK_of a⟩;have⟨L,hs,d⟩:=kura_sub _ es rfl a.akh fun P=>no ((ahM a.GD NH).1 P);have b:=a.sub hs;have:aaz L≠0:=by grind[aaz.eq_1,bX.akh]
 exact(kindM_no b this).2.1 (ahs hs h)
theorem fnd_kind(a:bX G)(h:¬aak G.n.toNat G.es):aaz (abv G)≠0:=by
 have⟨b,h2,h3⟩:=ajQ h;have c:=a.n0;have d:G.n<=200:=a.n1;have e:G=⟨((G.n.toNat:Nat):Int),G.es⟩:=by have⟨n,es⟩:=G;grind
 grind[bX.sub,ahM,bX.GD,aaz.eq_1,bX.akh,akn,ako]
attribute [local instance] Classical.propDecidable
section
variable{l:List Pr}(k:YG ((200:Nat):Int) l)
include k
variable(no2:∀u:Nat,u<200->(endsK l (u:Int)).length≠2)
include no2
end
theorem sing_of{l:II}{y:Nat}(nd:l.Nodup)(h:∀w,w∈l↔w=y):l=[y]:=by have a:l.Perm [y]:=hGr;grind[perm_singleton]
def ai5(x y v:Nat):II:=if v=x then[y]else if v=y then[x]else[]
theorem mem_oneR{x y v w:Nat}(ne:x≠y):w∈ai5 x y v↔(v=x/\w=y)\/(v=y/\w=x):=by grind[ai5]
theorem ajn{n x y:Nat}(a:x<n)(c:y<n)(ne:x≠y):V7 n (ai5 x y):=by
 refine⟨fun v=>?_,fun v w h=>?_,fun v w h=>?_,fun v h=>?_⟩
 all_goals grind[ai5]
theorem oneR_flat{n x y:Nat}(d:x<n)(g:y<n)(ne:x≠y):Flat n (ai5 x y):=by
 have P:=(agx (n:=n+3) (A:=fun _ _=>False) NH fun _ _ q=>q).aac (v:=x) (a:=y) (fun _ q=>q) NH NH ne;have⟨R,r,f,m⟩:=P;have e:R=ai5 x y:=by
  funext v;unfold ai5;by_cases c:v=x
  .subst c;rw[Sb rfl];exact sing_of (r.nd v) fun w=>by grind
  rw[WA c];by_cases h2:v=y
  .subst h2;rw[Sb rfl];exact sing_of (r.nd v) fun w=>by grind
  rw[WA h2];exact jz.2 hGr
 grind[ajn,adV]
theorem V7.upto{n m:Nat}{r:Nat->II}(R:V7 m r)(h:m<=n):V7 n r:=⟨R.nd,fun v w q=>ahD (R.lt v w q) h,R.sy,R.ir⟩
theorem aiX{m:Nat}{r:Nat->II}(R:V7 m r):∀k:Nat,Flat m r->Flat (m+k) r
 |0,f=>f
 |k+1,f=>(adV (by grind[V7.upto])).2 (aiX R k f)
noncomputable def ag2(n:Nat)(b:xLP)(v:Nat):RZ:=
 if b.length=1 then(if(v:Int)=(b.headD (0,0)).1 then[(b.headD (0,0)).2]else if(v:Int)=(b.headD (0,0)).2 then[(b.headD (0,0)).1]else[])
 else if v∈aag n b then(((ajk (aag n b).length (aat n b)).getD []).getD (abD n b (v:Int)) []).map fun j=>(((aag n b).getD j.toNat 0:Nat):Int)else[]
noncomputable def acr(n:Nat)(b:xLP)(v:Nat):II:=(ag2 n b v).map Int.toNat
structure ah0 (n:Nat) (b:xLP):Prop where
 Rl:V7 n (acr n b)
 flat:Flat n (acr n b)
 mem:∀v w,w∈acr n b v↔Jp b v w
 nat:∀v,ag2 n b v=(acr n b v).map fun(w:Nat)=>(w:Int)
section
variable{n:Nat}{b:List Pr}(O:aeo n b)
include O
theorem aeo.rowOne(a:b.length=1):ah0 n b:=by
 have hR:=O.1.GD;obtain⟨p,rfl⟩:=ahI.1 a;have⟨a1,a2,d⟩:=hR p Ma;have⟨f,c⟩:=p;obtain⟨x,rfl⟩:=qL7 a1;obtain⟨y,rfl⟩:=qL7 (show 0<=c by omega);have ne:x≠y:=NH;have e:acr n [((x:Int),(y:Int))]=ai5 x y:=by grind[acr,ag2,ai5]
 refine⟨by grind[ajn],by grind[oneR_flat],fun v w=>?_,fun v=>?_⟩
 .rw[e,mem_oneR ne];grind[Jp]
 .unfold acr ag2;by_cases c1:(v:Int)=(x:Int)
  .simp[c1]
  .all_goals grind
theorem aeo.rowMany(h2:2<=b.length){rs:AM}(o:ajk (aag n b).length (aat n b)=Z rs)(G:Av (aag n b).length (aat n b) rs)(hf:Flat (aag n b).length (Xl rs)):ah0 n b:=by
 have hR:=O.1.GD;have i:=ad6 O.1;have a:=i.GD;have c:=G.jD a i.q9;have g:(aag n b).length<=n:=by have:=OM (fun v=>b.any fun p=>aO p ((v:Nat):Int)) (rG n);rw[ag4]at this;exact this
 have N:=(ren_V n b).flip;have d:=c.upto g;have l:Flat n (Xl rs):=by grind[aiX,Nat.add_sub_cancel']
 have m:∀j,j<(aag n b).length->ofV n b j=(aag n b).getD j 0:=by grind[ofV,acw]
 have row:∀v,v∈aag n b->ag2 n b v=(rs.getD (abD n b (v:Int)) []).map fun j=>(((aag n b).getD j.toNat 0:Nat):Int):=by grind[ag2]
 have k:∀v,v∉aag n b->ag2 n b v=[]:=by grind[ag2]
 have e:acr n b=uH n (ofV n b) (toV n b) (Xl rs):=by
  funext v;unfold acr;by_cases f:v∈aag n b
  .have h:=(aeT.1 f).1;rw[row v f];unfold uH;rw[Sb h,(toV_idx (b:=b) f).1,Xl,Lm,Lm];grind[map_congr_left,Av.nat,Int.toNat_natCast]
  grind[uH,abk,Xl,Av.len]
 refine⟨by grind[aef],by grind[pd],fun v w=>?_,fun v=>?_⟩
 .rw[e,uX N d,G.mem a,abR hR];grind[abk,Jp.lt,toV_lt]
 .unfold acr;by_cases f:v∈aag n b
  .rw[row v f];simp
  grind
end
theorem blk_apart{n:Nat}{es:xLP}(j:bX ⟨(n:Int),es⟩){k:Int}(hb:abb n es k∈vq n es){r:Nat->II}(hA:∀v w,w∈r v->Jp es v w/\cQ n es (GW v w)≠k){x y:Nat}(p:∃w,Jp (abb n es k) x w)(q:∃w,Jp (abb n es k) y w)(ne:x≠y)(c:Cr r x y):False:=by
 have hR:=j.GD;have O:=aaQ j hb;have⟨G,f⟩:=p;have⟨H,g⟩:=q;obtain⟨z,z',rfl,A,I,B⟩:=agI (S:=fun u=>u=x) (O.bp f g) rfl (wI ne);obtain⟨l,nd,⟨t,m⟩,⟨s,J⟩,o,-⟩:=uF c;cases t with
 |nil=>grind
 |cons a t=>
  have K:=hA _ _ (o 0 z a (by rw[m];rfl) (by rw[m];rfl));have L:z∉a::t:=hGr;have walk:∀(i u:Nat),(a::t)[i]?=Z u->Cn (wo z) es a u:=fun i=>by
   induction i with
   |zero=>intro u d;injection d with d;subst d;exact .refl hGr
   |succ i C=>intro u d;have D:=(Ny.1 d).1;have hi:i<(a::t).length:=NH;have E:=C _ (Gc hi);refine .step E (hA _ _ (o (i+1) _ u hGr hGr)).1 hGr
  have h:y∈a::t:=hGr;have⟨i,hi⟩:=Og.1 h;have c1:=walk i y hi;have c2:Cn (wo z) es z' y:=Cn.mono (fun e F=>(aaw.1 F).1) (agf (fun u d=>iO fun e=>by grind) B);grind[abM,dR,Cn.trans,Cn.symm]
noncomputable def ag3(n:Nat)(bs:List xLP):AM:=(rG n).map fun v=>bs.flatMap fun b=>ag2 n b v
theorem aic(n:Nat)(bs:List xLP):(ag3 n bs).length=n:=by simp[ag3]
theorem aiB{n:Nat}{bs:List xLP}{v:Nat}(a:v<n):(ag3 n bs).getD v []=bs.flatMap fun b=>ag2 n b v:=by grind[ag3]
theorem catN_ok{n:Nat}{es:xLP}(a:bX ⟨(n:Int),es⟩):∀(pre:RZ),pre.Nodup->(∀k∈pre,abb n es k∈vq n es/\ah0 n (abb n es k))->
  V7 n (fun v=>pre.flatMap fun k=>acr n (abb n es k) v)/\Flat n (fun v=>pre.flatMap fun k=>acr n (abb n es k) v)/\∀v w,w∈(pre.flatMap fun k=>acr n (abb n es k) v)↔∃k∈pre,Jp (abb n es k) v w:=by
 have hR:=a.GD;have key:∀(m:Nat)(pre:RZ),pre.length=m->pre.Nodup->(∀k∈pre,abb n es k∈vq n es/\ah0 n (abb n es k))->
  V7 n (fun v=>pre.flatMap fun k=>acr n (abb n es k) v)/\Flat n (fun v=>pre.flatMap fun k=>acr n (abb n es k) v)/\∀v w,w∈(pre.flatMap fun k=>acr n (abb n es k) v)↔∃k∈pre,Jp (abb n es k) v w:=by
  intro m
  induction m with
  |zero=>
   intro pre g _ _;obtain rfl:=im g;have P:=agx (n:=n+3) (A:=fun _ _=>False) NH fun _ _ q=>q;have⟨R,r,f,m⟩:=P;have e:R=fun v=>([]:RZ).flatMap fun k=>acr n (abb n es k) v:=by funext v;exact jz.2 hGr
   rw[e]at f;have i:∀N,V7 N (fun v=>([]:RZ).flatMap fun k=>acr n (abb n es k) v):=fun N=>⟨fun v=>by simp,hGr,hGr,hGr⟩;exact⟨i n,(by grind[adV]),hGr⟩
  |succ m j=>
   intro pre C nd h;obtain⟨pre,k,rfl⟩:∃l k,pre=l++[k]:=⟨pre.dropLast,pre.getLast hGr,(Ex _).symm⟩;obtain⟨n1,-,n3⟩:=ZT.1 nd;have⟨o,p,d⟩:=j pre hGr n1 hGr;have⟨hb,B⟩:=h k Ma;have H:abC n (fun v=>pre.flatMap fun k=>acr n (abb n es k) v) (acr n (abb n es k)) fun z=>∃w,Jp (abb n es k) z w:=by refine⟨o,B.Rl,(by grind[ah0.mem]),fun x y s t ne c=>?_⟩;refine blk_apart a hb (fun v w q=>?_) s t ne c;have⟨D,u,q⟩:=(d v w).1 q;grind[abM]
   have e:(fun v=>(pre++[k]).flatMap fun k=>acr n (abb n es k) v)=aar (fun v=>pre.flatMap fun k=>acr n (abb n es k) v) (acr n (abb n es k)):=by grind[aar]
   rw[e];refine⟨H.Rl,H.flat p B.flat,fun v w=>?_⟩;have:((pre++[k]).flatMap fun k=>acr n (abb n es k) v)=aar (fun v=>pre.flatMap fun k=>acr n (abb n es k) v) (acr n (abb n es k)) v:=by simp[aar]
   rw[this,aaT,d,B.mem];grind
 grind
theorem cert_ok{n:Nat}{es:xLP}(c:bX ⟨(n:Int),es⟩)(h:∀b∈vq n es,ah0 n b):Av n es (ag3 n (vq n es))/\Flat n (Xl (ag3 n (vq n es))):=by
 have hR:=c.GD;have⟨a,f⟩:=ahE (cQ n es) _ es rfl;have eb:vq n es=(CY (cQ n es) es).map fun k=>abb n es k:=aaB n es;have g:∀k∈CY (cQ n es) es,abb n es k∈vq n es/\ah0 n (abb n es k):=hGr;have⟨e,m,i⟩:=catN_ok c _ a g;have row:∀v,(vq n es).flatMap (fun b=>ag2 n b v)=((CY (cQ n es) es).flatMap fun k=>acr n (abb n es k) v).map fun(w:Nat)=>(w:Int):=fun v=>by
  rw[eb,qL235,qL236];have o:∀L:RZ,(∀k∈L,ag2 n (abb n es k) v=(acr n (abb n es k) v).map fun(w:Nat)=>(w:Int))->(L.flatMap fun k=>ag2 n (abb n es k) v)=L.flatMap fun k=>(acr n (abb n es k) v).map fun(w:Nat)=>(w:Int):=fun L=>by
   induction L<;>grind
  grind[ah0.nat]
 have p:Xl (ag3 n (vq n es))=fun v=>(CY (cQ n es) es).flatMap fun k=>acr n (abb n es k) v:=by
  funext v;unfold Xl;by_cases d:v<n
  .rw[aiB d,row v,Lm];exact(Uz hGr).trans (alJ _)
  .rw[Eh,Qn (by grind[aic])];symm;refine jz.2 fun w hw=>?_;have:=e.lt v w hw;omega
 have mem:∀v w,w∈((CY (cQ n es) es).flatMap fun k=>acr n (abb n es k) v)↔Jp es v w:=fun v w=>by
  rw[i];constructor
  .grind[abM]
  .intro q;exact⟨cQ n es (GW v w),(by grind[H4]),(by grind[abM])⟩
 refine⟨⟨aic _ _,fun v d=>?_⟩,hGr⟩;rw[aiB d,row v];have j:((CY (cQ n es) es).flatMap fun k=>acr n (abb n es k) v).Perm (agX (Zh n es) v):=agD (e.nd v) (agE hR c.q9 v) (by grind[acu]);have l:=j.map fun(w:Nat)=>(w:Int);refine l.trans (qL246 ?_);unfold agX;rw[Lm];refine(Uz fun x r=>?_).trans (alJ _);grind[Ru]
end
variable {n:Nat}
def aem{b:xLP}(O:aeo n b):aak n b↔XU n (eN n b):=ako O.1
section
attribute [local irreducible] Kp MQ lU KO1 KO KN KX KE VK Kl ZJ TC aab
attribute [local irreducible] Jz JL vq cQ
structure ag5 (b0 h:aai) (L:Nat) (us0 us:xLV) (rows:AM):Prop where
 oL:h.own L=Z (.cells us0)
 len0:us0.length=rows.length
 len:us.length=rows.length
 gs:∀(v:Nat) u r,us[v]?=Z u->rows[v]?=Z r->GS 1 h u r.length (Bp r)
 nL:∀(v:Nat) u,us[v]?=Z u->blk u≠Z L
 TE:∀(v w:Nat) u u' b,v≠w->us[v]?=Z u->us[w]?=Z u'->blk u=Z b->blk u'≠Z b
 ap:∀(v:Nat) u,us[v]?=Z u->Z2 b0 u
 le:Le b0 h
 bL:b0.own L=Y
section
variable{b0 h h':aai}{L:Nat}{us0 us:List vV}{rows:AM}
def Rows.w(R:Rows b0 h L us rows):ag5 b0 h L us us rows:=⟨R.oL,R.len,R.len,R.gs,R.nL,R.TE,R.ap,R.le,R.bL⟩
def ag5.r(R:ag5 b0 h L us us rows):Rows b0 h L us rows:=⟨R.oL,R.len,R.gs,R.nL,R.TE,R.ap,R.le,R.bL⟩
theorem ag5.up(R:ag5 b0 h L us0 us rows)(e:Le h h'):ag5 b0 h' L us0 us rows:=⟨e.own _ _ R.oL,R.len0,R.len,fun v u r a b=>(R.gs v u r a b).le e,R.nL,R.TE,R.ap,R.le.trans e,R.bL⟩
def ag5.fresh(R:ag5 b0 h L us0 us rows){id:Nat}(a:h.own id=Y):id≠L/\∀(v:Nat) u,us[v]?=Z u->blk u≠Z id:=by refine⟨(fun e=>by rw[e,R.oL]at a;cases a),fun v u b hb=>?_⟩;obtain⟨q,c⟩:∃q,rows[v]?=Z q:=⟨_,CA (by have:=R.len;have:=(Ny.1 b).1;omega)⟩;exact(R.gs v u q b c).Sy hb a
def ag5.app(R:ag5 b0 h L us0 us rows)(f:WF h){w:Nat}{r:RZ}(C:rows[w]?=Z r){id:Nat}{x:Int}(G:h.own id=Z (.cells [x]))(I:r.length<=100000):
  ∃u u' l,us[w]?=Z u/\aaR pG h 28 28 u (sL (Z id) 1 1)=Z (u',l)/\ag5 b0 l L us0 (us.set w u') (rows.set w (r++[x]))/\WF l/\Le b0 l/\xO u' (r.length+1)/\
   (∀b o,h.own b=Z o->(∀(v:Nat) a,us[v]?=Z a->blk a≠Z b)->l.own b=Z o/\∀(v:Nat) a,(us.set w u')[v]?=Z a->blk a≠Z b):=by
 have i:w<us.length:=by have:=R.len;have:=(Ny.1 C).1;omega
 have k:=CA i;generalize us[w]=u at k;have g:=R.gs w u r k C;have⟨u',l,D,E,hf⟩:=g.push (P:=pG) (t:=28) Ji G (yG _) rfl NH;have y:WF l:=xr f D;have⟨A,B⟩:=aG hf f R.oL (R.nL w u k);have⟨l5,H⟩:=hf b0 f R.le (R.ap w u k);refine⟨u,u',l,k,D,⟨A,by simpa using R.len0,by simpa using R.len,fun v a q ha d=>?_,fun v a ha=>?_,fun v v' a a' b n ha mi hb=>?_,fun v a ha=>?_,l5,R.bL⟩,y,l5,E.cs.sl,fun b o hb p=>?_⟩
 .rw[K4]at ha d;by_cases e:w=v
  .subst e;rw[Sb rfl,Sb i]at ha;rw[Sb rfl,Sb (by have:=R.len;omega)]at d;injection ha with ha;injection d with d;subst ha;subst d;rw[aaf];have:Bp (r++[x])=Bp r++[.int .i64 x]:=by simp[Bp]
   rw[this];exact E
  .rw[WA e]at ha d;refine(R.gs v a q ha d).kept fun b o hb j=>(aG hf f j fun s=>R.TE w v u a b e k ha s hb).1
 .rw[K4]at ha;by_cases e:w=v
  .subst e;rw[Sb rfl,Sb i]at ha;injection ha with ha;subst ha;exact B
  .rw[WA e]at ha;exact R.nL v a ha
 .rw[K4]at ha mi;have m:∀(z:Nat) c,us[z]?=Z c->∀b,blk c=Z b->∃o,h.own b=Z o:=fun z c F b hb=>by
   obtain⟨q,d⟩:∃q,rows[z]?=Z q:=⟨_,CA (by have:=R.len;have:=(Ny.1 F).1;omega)⟩;exact uV.1 ((R.gs z c q F d).Sy hb)
  by_cases e:w=v
  .subst e;rw[Sb rfl,Sb i]at ha;injection ha with ha;subst ha;rw[WA n]at mi;intro sZ;have⟨o,j⟩:=m v' a' mi b sZ;exact(aG hf f j fun s=>R.TE w v' u a' b n k mi s sZ).2 hb
  .rw[WA e]at ha;by_cases e':w=v'
   .subst e';rw[Sb rfl,Sb i]at mi;injection mi with mi;subst mi;have⟨o,j⟩:=m v a ha b hb;exact(aG hf f j fun s=>R.TE w v u a b e k ha s hb).2
   .rw[WA e']at mi;exact R.TE v v' a a' b n ha mi hb
 .rw[K4]at ha;by_cases e:w=v
  .subst e;rw[Sb rfl,Sb i]at ha;injection ha with ha;subst ha;exact H
  .rw[WA e]at ha;exact R.ap v a ha
 .obtain⟨k1,k2⟩:=aG hf f hb (p w u k);refine⟨k1,fun v a ha=>?_⟩;rw[K4]at ha;by_cases e:w=v
  .subst e;rw[Sb rfl,Sb i]at ha;injection ha with ha;subst ha;exact k2
  .rw[WA e]at ha;exact p v a ha
def ag5.st(R:ag5 b0 h L us0 us rows)(a:WF h){w k:Nat}{u':vV}(hw:w<rows.length)(hs:xO u' k):aaK pG h 28 (pT (Z ⟨L,w,Y⟩)) u'=Z (h.put L (.cells (us0.set w u')))/\ag5 b0 (h.put L (.cells (us0.set w u'))) L (us0.set w u') us rows/\WF (h.put L (.cells (us0.set w u'))):=by have st:=QB (P:=pG) (t:=28) (x:=u') Mb Ji R.oL (off:=w) (by rw[R.len0];exact hw) (by obtain⟨_,_,rfl,_⟩:=hs;rfl) hs.one;refine⟨st,⟨aai.Y3 _ _ _,by simpa using R.len0,R.len,fun v u r b c=>GS.put (R.gs v u r b c) _ (R.nL v u b),R.nL,R.TE,R.ap,R.le.put _ R.bL,R.bL⟩,a.put _ (a.lt R.oL)⟩
end
def Rows.ix{n:Nat}(L:Nat)(k:IntKind)(j:Nat)(a:j<n):aao pG 26 (sL (Z L) n n) (.int k j)=Z (pT (Z ⟨L,j,Y⟩)):=by rw[Wc qS19 Mb Ji j a];simp[Ip]
theorem Rows.base{b0 a h:aai}{L:Nat}{us:xLV}{rows:AM}(R:Rows a h L us rows)(e:Le b0 a):Rows b0 h L us rows:=
 have key:∀b,a.own b=Y->b0.own b=Y:=fun b hb=>by
  cases c:b0.own b with
  |none=>rfl
  |some o=>rw[e.own _ _ c]at hb;cases hb
 ⟨R.oL,R.len,R.gs,R.nL,R.TE,fun v u d b hb=>key b (R.ap v u d b hb),e.trans R.le,key L R.bL⟩
noncomputable def aiC(n:Nat)(rows:AM)(b:xLP):AM:=(rG n).map fun v=>rows.getD v []++ag2 n b v
def addR_len(n:Nat)(rows:AM)(b:xLP):(aiC n rows b).length=n:=by simp[aiC]
def ag5.rest{b0 g:aai}{L x y idx:Nat}{us:xLV}{rows:AM}{rx ry:RZ}{c:vV}{a:Int}{z:Int}(p:ag5 b0 g L us (us.set x c) (rows.set x (rx++[z])))(q:WF g)(ne:x≠y)(E:x<rows.length)(l:rows[y]?=Z ry)(s:ry.length<=100000)(ox:g.own idx=Z (.cells [a]))(f:xO c (rx.length+1)):
  ∃e b d m i,us[y]?=Z e/\aaR pG g 28 28 e (sL (Z idx) 1 1)=Z (b,d)/\aaK pG d 28 (pT (Z ⟨L,x,Y⟩)) c=Z m/\aaK pG m 28 (pT (Z ⟨L,y,Y⟩)) b=Z i/\
   d.own L=Z (.cells us)/\Rows b0 i L ((us.set x c).set y b) ((rows.set x (rx++[z])).set y (ry++[a]))/\WF i:=by
 have j:(rows.set x (rx++[z]))[y]?=Z ry:=by rw[K4,WA ne];exact l
 obtain⟨e,b,d,n,t,o,w1,-,k,-⟩:=p.app q j ox s;have u:((rows.set x (rx++[z])).set y (ry++[a])).length=rows.length:=by simp
 have v:=(Ny.1 l).1;have⟨s2,A,w2⟩:=o.st w1 (w:=x) NH f;have⟨B,C,D⟩:=A.st w2 (w:=y) NH k;rw[K4,WA ne]at n;exact⟨e,b,d,_,_,n,t,s2,B,o.oL,C.r,D⟩
def ajI(W0:LA)(b0 h:aai)(L n:Nat)(us:xLV)(rows:AM)(R:Rows b0 h L us rows)(av:rows.length=n)(bv:vV)(x y:Nat)(hp:PR b0 bv [((x:Int),(y:Int))])(hx:x<n)(hy:y<n)(ne:x≠y)(o:∀r∈rows,r.length<=1000):
  AC pG W0 35 [sL (Z L) n n,bv] h fun v h'=>v=.bool tT/\∃f,f.length=n/\Rows b0 h' L f ((rows.set x (rows.getD x []++[(y:Int)])).set y (rows.getD y []++[(x:Int)])):=by
 have D:=hp.le R.le;have lb:=fun g=>hp.len g;refine AC.vF func35 ntmps35 results35 fun q=>?_;have d1:decide ((([((x:Int),(y:Int))]:xLP).length:Int)=1)=tT:=rfl;have ad:=hp.addr (k:=.i64) 0 Ma;have L0:=D.l0 (i:=0) (p:=((x:Int),(y:Int))) rfl;have L1:=D.l1 (i:=0) (p:=((x:Int),(y:Int))) rfl;simp only[Int.ofNat_zero,ak6]at ad;refine Sk (XC lb d1) ?_;refine gh (fRn 0 10 .done) ?_;simp only[HO,seval,Qg,ad,Dh,Z0,L0,L1];have gx:rows[x]?=Z (rows.getD x []):=by rw[Eh,Gc NH];rfl
 have gy:rows[y]?=Z (rows.getD y []):=by rw[Eh,Gc NH];rfl
 have qx:(rows.getD x []).length<=100000:=by have:=o _ (BS gx);omega
 have qy:(rows.getD y []).length<=100000:=by have:=o _ (BS gy);omega
 generalize rows.getD x []=rx at*;generalize rows.getD y []=ry at*;have E:=R.w;have ay:=Rows.ix (n:=n) L .i64 x hx;have az:=Rows.ix (n:=n) L .i64 y hy;have c:∀(g:aai),g.own L=Z (.cells us)->∀(v:Nat)(u:vV),us[v]?=Z u->aaC pG g 28 ⟨L,v,Y⟩=Z u:=fun g ho v u hu=>by rw[Fq Mb rfl ho];exact hu
 have aC:∃d e,us[x]?=Z d/\us[y]?=Z e:=⟨_,_,CA (by have:=R.len;omega),CA (by have:=R.len;omega)⟩;have⟨d,e,a,b⟩:=aC;have⟨a1,aD,j,s,G⟩:=Tt q [.int .i64 (y:Int)];have H:=DQ h (y:Int);rw[aD]at H;obtain⟨l,ua,a2,q1,aF,t,aH,-,aJ,-⟩:=(E.up j).app s gx G qx;obtain rfl:d=l:=by rw[a]at q1;injection q1
 have⟨a3,aK,I,aL,aN⟩:=Tt aH [.int .i64 (x:Int)];have J:=DQ a2 (x:Int);rw[aK]at J;obtain⟨m,cd,a4,a5,a6,q2,K,aP,aT,aW,RA,-⟩:=(t.up I).rest aL ne NH gy qy aN aJ;obtain rfl:e=m:=by rw[b]at q2;injection q2
 have M:=c a1 (j.own _ _ R.oL);have N:=c a2 t.oL;have O:=c a3 (I.own _ _ t.oL);have P:=c a4 aW;have⟨b2,aX,z,a7,a8⟩:=Tt s [.int .i64 (x:Int)];have Q:=DQ a1 (x:Int);rw[aX]at Q
 have bb:a1.own a1.next=Y:=(Le.refl a1).next s (qL0 _)
 obtain⟨l,ub,b3,q3,bg,S,bh,-,bk,kb⟩:=((E.up j).up z).app a7 gx (z.own _ _ G) qx;obtain rfl:d=l:=by rw[a]at q3;injection q3
 obtain⟨bm,-⟩:=kb _ _ a8 ((E.up j).fresh bb).2;obtain⟨m,cf,b4,b5,b6,q4,T,bo,br,bx,RB,-⟩:=S.rest bh ne NH gy qy bm bk;obtain rfl:e=m:=by rw[b]at q4;injection q4
 have LB2:=c b2 (z.own _ _ (j.own _ _ R.oL));have U:=c b3 S.oL;have V:=c b4 bx;have⟨c1,bB,A,bF,bH⟩:=Tt q [.int .i64 (x:Int)];have W:=DQ h (x:Int);rw[bB]at W;have⟨c2,bI,B,bN,bQ⟩:=Tt bF [.int .i64 (y:Int)];have X:=DQ c1 (y:Int);rw[bI]at X
 have bW:h.own h.next=Y:=(Le.refl h).next q (qL0 _)
 obtain⟨l,uc,c3,q5,ecc,aa,bY,-,bZ,kc⟩:=((E.up A).up B).app bN gx bQ qx;obtain rfl:d=l:=by rw[a]at q5;injection q5
 obtain⟨b1,-⟩:=kc _ _ (B.own _ _ bH) (E.fresh bW).2;obtain⟨m,cg,c4,c5,c6,q6,ae,b8,b9,cc,RC,-⟩:=aa.rest bY ne NH gy qy b1 bZ;obtain rfl:e=m:=by rw[b]at q6;injection q6
 have ai:=c c1 (A.own _ _ R.oL);have aj:=c c2 (B.own _ _ (A.own _ _ R.oL));have aq:=c c3 aa.oL;have ar:=c c4 cc;have LH:=c h R.oL;have C:us.length=n:=by rw[R.len];exact av
 apply Ya (F:=fun(fr:aam)(h5:aai)=>∃f,f.length=n/\Rows b0 h5 L f ((rows.set x (rx++[(y:Int)])).set y (ry++[(x:Int)])))
 .intro cont;refine gh (fRn 0 9 (tA [11,12,13,14,15] (.ch 9 [8] (.ch 10 [7,9] (JQ 16 [15] (JQ 17 [10,14,16] (tA [18] (JQ 19 [0,1,4,5,6,7,8,9,10,14,17,18] (tA [20] (JQ 21 [0,1,2,3,4,5,6,7,8,9,10,11,12,13,14,15,16,17,18,19,20] .done)))))) (JQ 16 [15] (JQ 10 [7,9] (JQ 17 [10,14,16] (tA [18] (JQ 19 [0,1,4,5,6,7,8,9,10,14,17,18] (tA [20] (JQ 21 [0,1,2,3,4,5,6,7,8,9,10,11,12,13,14,15,16,17,18,19,20] .done)))))))) (JQ 16 [15] (JQ 9 [8] (JQ 10 [7,9] (JQ 17 [10,14,16] (tA [18] (JQ 19 [0,1,4,5,6,7,8,9,10,14,17,18] (tA [20] (JQ 21 [0,1,2,3,4,5,6,7,8,9,10,11,12,13,14,15,16,17,18,19,20] .done))))))))))) ?_;simp only[kJJ,seval,Qg,ay,az,LH x d a,LH y e b,M x d a,M y e b,N x d a,N y e b,O x d a,O y e b,P x d a,P y e b,LB2 x d a,LB2 y e b,U x d a,U y e b,V x d a,V y e b,ai x d a,ai y e b,aj x d a,aj y e b,aq x d a,aq y e b,ar x d a,ar y e b,H,aF,J,K,aP,aT,Q,bg,T,bo,br,W,X,ecc,ae,b8,b9];refine⟨⟨?_,?_⟩,?_⟩
  .refine KN.UJ fun fr' h' x y=>cont fr' h' ?_;subst x y;exact⟨_,by simp[C],RA⟩
  .refine KN.UJ fun fr' h' x y=>cont fr' h' ?_;subst x y;exact⟨_,by simp[C],RB⟩
  .refine KN.UJ fun fr' h' x y=>cont fr' h' ?_;subst x y;exact⟨_,by simp[C],RC⟩
 rintro fr h5 ⟨f,hl,R'⟩;refine Uy ?_;exact⟨trivial,f,hl,R'⟩
noncomputable def aiD(n:Nat)(b:xLP)(j:Int):Int:=(((aag n b).getD j.toNat 0:Nat):Int)
noncomputable def stR(n:Nat)(rows:AM)(b:xLP)(rs:AM)(i k:Nat):AM:=(rG n).map fun v=>rows.getD v []++(if v∈aag n b then(if abD n b (v:Int)<i then rs.getD (abD n b (v:Int)) []else if abD n b (v:Int)=i then(rs.getD i []).take k else[])else[]).map (aiD n b)
section
variable{n:Nat}{rows:AM}{b:List Pr}{rs:AM}{i k:Nat}
def ahF:(stR n rows b rs i k).length=n:=by simp[stR]
def ahZ{v:Nat}(a:v<n):(stR n rows b rs i k)[v]?=Z (rows.getD v []++(if v∈aag n b then(if abD n b (v:Int)<i then rs.getD (abD n b (v:Int)) []else if abD n b (v:Int)=i then(rs.getD i []).take k else[])else[]).map (aiD n b)):=by simp[stR,a]
def stR_start(c:rows.length=n):stR n rows b rs 0 0=rows:=by
 refine EH fun v=>?_;by_cases a:v<n
 .rw[ahZ a]
  have e:(if v∈aag n b then(if abD n b (v:Int)<0 then rs.getD (abD n b (v:Int)) []else if abD n b (v:Int)=0 then(rs.getD 0 []).take 0 else[])else[])=[]:=by simp
  rw[e,map_nil,ag1,Eh,Gc NH];rfl
 .rw[Qn (by rw[ahF];omega),Qn NH]
def ajJ{w:Nat}(h:(aag n b)[i]?=Z w):abD n b (w:Int)=i:=by refine(idx_eq ?_).symm;show(kz (aag n b))[i]?=_;unfold kz;rw[Q4,h];rfl
def stR_step{w:Nat}{j:Int}(hw:(aag n b)[i]?=Z w)(g:(rs.getD i [])[k]?=Z j):(stR n rows b rs i k).set w ((stR n rows b rs i k).getD w []++[aiD n b j])=stR n rows b rs i (k+1):=by
 have f:=BS hw;have h:=(aeT.1 f).1;have hi:=ajJ hw;refine EH fun v=>?_;by_cases d:v<n
 .rw[ahZ d,K4];by_cases e:w=v
  .subst e;rw[Sb rfl,Sb (by rw[ahF];exact d),Eh,ahZ d,aj9,Sb f,hi,WA (ail i),Sb rfl,Sb f,WA (ail i),Sb rfl];rw[ah6,To,g];simp
  .rw[WA e,ahZ d];by_cases a:v∈aag n b
   .rw[Sb a,Sb a];have:abD n b (v:Int)≠i:=fun q=>e (by
     have⟨l,c⟩:=Og.1 a;have:=ajJ c;rw[q]at this;subst this;rw[hw]at c;injection c)
    rw[WA this,WA this]
   .rw[WA a,WA a]
 .rw[Qn (by rw[WZ,ahF];omega),Qn (by rw[ahF];omega)]
def stR_next:stR n rows b rs i (rs.getD i []).length=stR n rows b rs (i+1) 0:=by
 refine EH fun v=>?_;by_cases c:v<n
 .rw[ahZ c,ahZ c];by_cases a:v∈aag n b
  .rw[Sb a,Sb a];by_cases d:abD n b (v:Int)<i
   .rw[Sb d,Sb NH]
   .rw[WA d];by_cases h2:abD n b (v:Int)=i
    .rw[Sb h2,Sb NH,ags,h2]
    .rw[WA h2,WA NH];split<;>rfl
  .rw[WA a,WA a]
 .rw[Qn (by rw[ahF];omega),Qn (by rw[ahF];omega)]
def stR_end(d:b.length≠1)(e:ajk (aag n b).length (aat n b)=Z rs):stR n rows b rs (aag n b).length 0=aiC n rows b:=by
 unfold stR aiC;refine Uz fun v g=>?_;congr 1;unfold ag2;rw[WA d];by_cases a:v∈aag n b
 .obtain⟨h,c⟩:=Og.1 a;have f:=ajJ c;have h2:=(Ny.1 c).1;rw[Sb a,Sb a,Sb (by rw[f];exact h2),e];rfl
 .rw[WA a,WA a];rfl
end
def Rows.blks{b0 h:aai}{L:Nat}{us:xLV}{rows:AM}(R:Rows b0 h L us rows):(L::us.filterMap blk).Nodup/\(∀b∈L::us.filterMap blk,h.own b≠Y)/\∀b∈L::us.filterMap blk,b0.own b=Y:=by
 have mem:∀b,b∈us.filterMap blk↔∃v u,us[v]?=Z u/\blk u=Z b:=fun b=>by
  rw[mem_filterMap];constructor
  .rintro⟨u,c,e⟩;have⟨v,a⟩:=Og.1 c;exact⟨v,u,a,e⟩
  .rintro⟨v,u,a,e⟩;exact⟨u,BS a,e⟩
 refine⟨eR.2 ⟨fun h=>?_,?_⟩,fun b hb=>?_,fun b hb=>?_⟩
 .obtain⟨v,u,a,e⟩:=(mem L).1 h;exact R.nL v u a e
 .unfold List.Nodup;rw[pairwise_filterMap,Yi];intro i j hi d f b hb l sZ e;subst e;exact R.TE i j _ _ b NH (Gc hi) (Gc d) hb sZ
 .rcases HV.1 hb with rfl|hb
  .rw[R.oL];simp
  .obtain⟨v,u,a,e⟩:=(mem b).1 hb;obtain⟨q,g⟩:∃q,rows[v]?=Z q:=⟨_,CA (by have:=R.len;have:=(Ny.1 a).1;omega)⟩;exact(R.gs v u q a g).Sy e
 .rcases HV.1 hb with rfl|hb
  .exact R.bL
  .obtain⟨v,u,a,e⟩:=(mem b).1 hb;exact R.ap v u a b e
def Rows.over{b0 h g h':aai}{L:Nat}{us:xLV}{rows:AM}(R:Rows b0 h L us rows)(f:Le g h')(c:∀b∈L::us.filterMap blk,g.own b=Y/\h'.own b=h.own b):Rows g h' L us rows:=by have mem:∀{v:Nat}{u b},us[v]?=Z u->blk u=Z b->b∈L::us.filterMap blk:=fun{v u b} a e=>HV.2 (.inr (mem_filterMap.2 ⟨u,BS a,e⟩));have d:=c L Ma;exact⟨by rw[d.2];exact R.oL,R.len,fun v u r a j=>(R.gs v u r a j).kept fun b o hb l=>by rw[(c b (mem a hb)).2];exact l,R.nL,R.TE,fun v u a b hb=>(c b (mem a hb)).1,f,d.1⟩
end
end Go.Fw
