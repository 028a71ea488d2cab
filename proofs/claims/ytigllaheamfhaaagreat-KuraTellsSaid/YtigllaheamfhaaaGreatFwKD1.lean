/- A text. -/
import Derived.Test.YtigllaheamfhaaaGreatFwKA6
set_option linter.all false
set_option maxRecDepth 99999
set_option maxHeartbeats 9999999
open Go.Proofs
open Option renaming some→Z,none→Y
open Bool renaming true→tT,false→fF
open List renaming replicate→rP,range→rG
open Go.Value renaming slice→sL,pointer→pT
open Go renaming Value→vV
open Go.Proofs.Tryz renaming prog→pG
open Go.Proofs.Tryz
open List
namespace Go.Fw
section
variable{n:Nat}{es:List Pr}(hR:InR n es)(hA:D3 es)
include hR hA
theorem ahc{x y z:Nat}(h2:((Zh n es).getD y []).length=2)(a:Jp es y x)(b:Jp es y z)(ne:x≠z):goS (Zh n es) (x,y)=(y,z):=by grind[abg,goS]
theorem ahQ{x y:Nat}(h2:((Zh n es).getD y []).length=2)(a:Jp es y x):∃z,z≠x/\Jp es y z/\∀w,Jp es y w->w=x\/w=z:=by grind[abg]
def agC(n:Nat)(es:xLP)(d:Nat×Nat)(K:Nat)(e:Nat×Nat):Prop:=it (goS (Zh n es)) K d=e/\∀i,i<K->((Zh n es).getD (it (goS (Zh n es)) i d).2 []).length=2
omit hR hA in
theorem agC.trans{d e f:Nat×Nat}{K M:Nat}(h:agC n es d K e)(k:agC n es e M f):agC n es d (K+M) f:=by
 obtain⟨rfl,h2⟩:=h;obtain⟨rfl,k2⟩:=k;refine⟨by rw[qL242,qu],fun i hi=>?_⟩;by_cases c:i<K
 .exact h2 i c
 .have:=k2 (i-K) NH;rwa[<-qu,show i-K+K=i by omega]at this
omit hR hA in
theorem agC.one{d e:Nat×Nat}(h:goS (Zh n es) d=e)(h2:((Zh n es).getD d.2 []).length=2):agC n es d 1 e:=⟨h,fun i hi=>by rw[show i=0 by omega];exact h2⟩
theorem aph(a:n<=200){c v:Nat}(b:Jp es c v)(hc:((Zh n es).getD c []).length≠2){K:Nat}{e:Nat×Nat}(h:agC n es (c,v) K e)(d:((Zh n es).getD e.2 []).length≠2):aal (Zh n es) (c,v)=(e.2,K):=by have⟨f,g,h2,h3,i⟩:=ahL hR hA a b hc;obtain⟨rfl,k2⟩:=h;grind
end
def ahg(rows:AM)(cs:II):List (Nat×Nat):=(aaj rows cs).flatMap fun d=>(rG ((aal rows d).2+1)).map fun i=>it (goS rows) i d
theorem aiA(rows:AM)(cs:II):(ahg rows cs).length=aaU rows cs:=by unfold ahg aaU;simp
def alm(es:xLP):List (Nat×Nat):=es.flatMap fun p=>[(p.1.toNat,p.2.toNat),(p.2.toNat,p.1.toNat)]
theorem akd(es:xLP):(alm es).length=2*es.length:=by
 unfold alm
 induction es<;>grind
theorem ahR{es:xLP}{x y:Nat}(h:Jp es x y):(x,y)∈alm es:=by
 unfold alm;rw[uu];rcases h with h|h
 all_goals grind
section
variable{es:List Pr}(hR:InR 200 es)(hA:D3 es){cs:II}(hc:∀c∈cs,c<200/\((Zh 200 es).getD c []).length≠2)
include hR hA hc
omit hA in
theorem agM{d:Nat×Nat}(hd:d∈aaj (Zh 200 es) cs):Jp es d.1 d.2/\((Zh 200 es).getD d.1 []).length≠2/\d.1∈cs:=by grind[afR,acu]
def agB{d:Nat×Nat}(hd:d∈aaj (Zh 200 es) cs):agC 200 es d (aal (Zh 200 es) d).2 (it (goS (Zh 200 es)) (aal (Zh 200 es) d).2 d)/\(it (goS (Zh 200 es)) (aal (Zh 200 es) d).2 d).2=(aal (Zh 200 es) d).1/\((Zh 200 es).getD (aal (Zh 200 es) d).1 []).length≠2:=by obtain⟨a,h2,-⟩:=agM hR hc hd;have⟨K,k1,k2,b,f⟩:=ahL hR hA (qL0 _) (c:=d.1) (v:=d.2) a h2;have e:aal (Zh 200 es) d=((it (goS (Zh 200 es)) K (d.1,d.2)).2,K):=f;rw[e];exact⟨⟨rfl,k2⟩,rfl,b⟩
theorem api{x:Nat×Nat}(h:x∈ahg (Zh 200 es) cs):Jp es x.1 x.2:=by unfold ahg at h;rw[uu]at h;have⟨d,hd,h⟩:=h;obtain⟨i,hi,rfl⟩:=aev.1 h;have hi:=j3.1 hi;exact aa7 hR hA (agM hR hc hd).1 i fun q a=>(agB hR hA hc hd).1.2 q NH
theorem alG(o:cs.Nodup):(ahg (Zh 200 es) cs).Nodup:=by
 have nd:(aaj (Zh 200 es) cs).Nodup:=by rw[afR,iy,als];grind[List.Pairwise.imp,agE]
 have key:∀d∈aaj (Zh 200 es) cs,∀b∈aaj (Zh 200 es) cs,∀i j,i<=j->i<=(aal (Zh 200 es) d).2->j<=(aal (Zh 200 es) b).2->it (goS (Zh 200 es)) i d=it (goS (Zh 200 es)) j b->i=j/\d=b:=by
  intro d hd b a i
  induction i with
  |zero=>
   intro j _ _ f e;rcases j with _|j
   .exact⟨rfl,e⟩
   .exfalso;have g:d.1=(it (goS (Zh 200 es)) j b).2:=by grind[goS,it]
    have:=(agB hR hA hc a).1.2 j NH;rw[<-g]at this;exact(agM hR hc hd).2.1 this
  |succ i p=>
   intro j h hi f e;rcases j with _|j
   .omega
   have a1:=aa7 hR hA (agM hR hc hd).1 i fun q k=>(agB hR hA hc hd).1.2 q NH;have a2:=aa7 hR hA (agM hR hc a).1 j fun q k=>(agB hR hA hc a).1.2 q NH;have:=amd hR hA a1.symm a2.symm ((agB hR hA hc hd).1.2 i NH) e;grind
 unfold ahg;rw[iy,als];refine⟨fun d hd=>?_,(iy.1 nd).imp_of_mem fun{d b} hd a ne x l y m e=>?_⟩
 .grind[List.Pairwise.imp_of_mem,List.pairwise_lt_range]
 .obtain⟨i,hi,rfl⟩:=aev.1 l;obtain⟨j,f,rfl⟩:=aev.1 m;grind
theorem vis_le(a:cs.Nodup):aaU (Zh 200 es) cs<=2*es.length:=by rw[<-aiA,<-akd];exact acK (by grind[alG]) fun x b=>by grind[ahR,api]
theorem akU(a:cs.Nodup)(h:aaU (Zh 200 es) cs=2*es.length){x y:Nat}(b:Jp es x y):(x,y)∈ahg (Zh 200 es) cs:=by
 refine ZT fun d=>?_;have:=acK (VU.2 ⟨d,alG hR hA hc a⟩) (B:=alm es) fun z e=>by grind[ahR,api]
 grind[aiA,akd]
end
structure UpK (L L':xLP) (a b v:Nat):Prop where
 r1:InR 200 L
 r2:InR 200 L'
 a1:D3 L
 a2:D3 L'
 ab:Jp L a b
 iso:∀w,¬Jp L v w
 up:∀x y,Jp L' x y↔upA (Jp L) a b v x y
 len:L'.length=L.length+1
def isU(a b:Nat)(d:Nat×Nat):Bool:=(d.1==a&&d.2==b)||(d.1==b&&d.2==a)
def afk(a b v:Nat)(d:Nat×Nat):Nat×Nat:=if isU a b d then(d.1,v)else d
theorem afN{a b x y:Nat}:isU a b (x,y)=tT↔(x=a/\y=b)\/(x=b/\y=a):=by simp[isU]
theorem ahh(a b v:Nat)(d:Nat×Nat):(afk a b v d).1=d.1:=by grind[afk]
section
variable{L L':List Pr}{a b v:Nat}(U:UpK L L' a b v)
include U
theorem UpK.nab:a≠b:=fun e=>by have:=U.ab;rw[e]at this;exact Xa U.r1 this
def UpK.nva:v≠a:=fun e=>U.iso b (e▸U.ab)
def UpK.nvb:v≠b:=fun e=>U.iso a (e▸U.ab.symm)
theorem UpK.nv{x y:Nat}(h:Jp L x y):x≠v/\y≠v:=by grind[UpK.iso,Jp.symm]
theorem UpK.row{x:Nat}(f:x≠v):(agX (Zh 200 L') x).Perm ((agX (Zh 200 L) x).map fun w=>(afk a b v (x,w)).2):=by
 refine agD (agE U.r2 U.a2 _) (alF (agE U.r1 U.a1 _) fun p d q g e=>?_) fun w=>?_
 .grind[UpK.nv,acu,UpK.r1,afk,afN]
 .rw[acu U.r2,U.up,aev];have ab:=U.ab;constructor
  .rintro(⟨h,n1,i⟩|⟨h,-⟩|⟨rfl,h⟩)
   .refine⟨w,(acu U.r1).2 h,?_⟩;grind[afk,afN]
   .grind
   .rcases h with rfl|rfl
    .exact⟨b,(acu U.r1).2 ab,by grind[afk,afN]⟩
    .exact⟨a,(acu U.r1).2 ab.symm,by grind[afk,afN]⟩
  .rintro⟨p,d,rfl⟩;have d:=(acu U.r1).1 d;unfold afk;split
   .rename_i c;rw[afN]at c;exact .inr (.inr ⟨rfl,c.imp (·.1) (·.1)⟩)
   .rename_i c;rw[afN]at c;exact .inl hGr
theorem UpK.deg{x:Nat}(c:x≠v):((Zh 200 L').getD x []).length=((Zh 200 L).getD x []).length:=by rw[<-agb,<-agb,(U.row c).length_eq,wI]
theorem UpK.deg0:((Zh 200 L).getD v []).length=0:=by
 rw[<-agb];rcases h:agX (Zh 200 L) v with _|⟨w,l⟩
 .rfl
 .exact absurd ((acu U.r1).1 (by grind[Zh])) (U.iso w)
theorem UpK.deg2:((Zh 200 L').getD v []).length=2:=by
 have:(agX (Zh 200 L') v).Perm [a,b]:=agD (agE U.r2 U.a2 _) (by simp[U.nab]) fun w=>by
  rw[acu U.r2,U.up];have c:=U.iso;have h2:=U.nva;have h3:=U.nvb;simp only[Og,ai4,or_false];constructor
  .rintro(⟨h,-⟩|⟨-,h⟩|⟨-,h⟩)
   all_goals grind
  .intro h;exact .inr hGr
 rw[<-agb,this.length_eq];rfl
theorem UpK.sg{d:Nat×Nat}(hd:Jp L d.1 d.2):Jp L' (afk a b v d).1 (afk a b v d).2:=by have⟨x,y⟩:=d;have c:=(U.nv hd).1;have:=(U.row c).mem_iff.2 (aev.2 ⟨y,(acu U.r1).2 hd,rfl⟩);grind[ahh,acu,UpK.r2]
theorem UpK.step{d:Nat×Nat}(hd:Jp L d.1 d.2)(h2:((Zh 200 L).getD d.2 []).length=2):
  agC 200 L' (afk a b v d) (1+if isU a b d then 1 else 0) (afk a b v (goS (Zh 200 L) d)):=by
 have⟨x,y⟩:=d;have⟨z,i,f,hw⟩:=ahQ U.r1 U.a1 h2 hd.symm;rw[ahc U.r1 U.a1 h2 hd.symm f (EH i)];have ny:=(U.nv hd).2;have nx:=(U.nv hd).1;have j:=(U.nv f).2;have d2:((Zh 200 L').getD y []).length=2:=by grind[UpK.deg]
 have s1:=U.sg (d:=(y,z)) f;have k:afk a b v (y,z)=(y,(afk a b v (y,z)).2):=by grind[ahh]
 rw[k]at s1 ⊢;by_cases c:isU a b (x,y)=tT
 .have nb:¬isU a b (y,z)=tT:=by grind[afN]
  have s2:=U.sg (d:=(x,y)) hd;have g:afk a b v (x,y)=(x,v):=by grind[afk]
  have e3:(afk a b v (y,z)).2=z:=by grind[afk]
  rw[g]at s2 ⊢;rw[e3]at s1 ⊢;rw[abe c];have h:Jp L' y v:=(U.up _ _).2 (.inr (by grind[afN]));refine(agC.one (e:=(v,y)) ?_ U.deg2).trans (agC.one ?_ d2)
  .exact ahc U.r2 U.a2 U.deg2 s2.symm h.symm (fun e=>by subst e;exact Xa U.r1 hd)
  grind[ahc,UpK.r2,UpK.a2]
 .have g:afk a b v (x,y)=(x,y):=by grind[afk]
  have s2:=U.sg (d:=(x,y)) hd;rw[g]at s2 ⊢;rw[abE c];grind[agC.one,ahc,UpK.r2,UpK.a2,Jp.symm,afk]
def ahn(a b:Nat)(L:xLP)(d:Nat×Nat)(K:Nat):Nat:=((rG K).map fun i=>it (goS (Zh 200 L)) i d).countP (isU a b)
omit U in
theorem ajF(d:Nat×Nat)(K:Nat):ahn a b L d (K+1)=ahn a b L d K+if isU a b (it (goS (Zh 200 L)) K d)then 1 else 0:=by grind[ahn,range_succ]
theorem UpK.run{d:Nat×Nat}(hd:Jp L d.1 d.2)(K:Nat):(∀i,i<K->((Zh 200 L).getD (it (goS (Zh 200 L)) i d).2 []).length=2)->agC 200 L' (afk a b v d) (K+ahn a b L d K) (afk a b v (it (goS (Zh 200 L)) K d)):=by
 induction K with
 |zero=>exact fun _=>⟨rfl,(by grind[ahn])⟩
 |succ K c=>intro h;have:=(c fun i hi=>h i NH).trans (U.step (aa7 U.r1 U.a1 hd K fun i hi=>h i NH) (h K NH));grind[ajF,it]
theorem UpK.Wn{cs:II}(j:∀c∈cs,c<200/\((Zh 200 L).getD c []).length≠2){d:Nat×Nat}(hd:d∈aaj (Zh 200 L) cs):
  aal (Zh 200 L') (afk a b v d)=((aal (Zh 200 L) d).1,(aal (Zh 200 L) d).2+ahn a b L d ((aal (Zh 200 L) d).2+1)):=by
 obtain⟨g,h2,-⟩:=agM U.r1 j hd;obtain⟨⟨-,k2⟩,l,m⟩:=agB U.r1 U.a1 j hd;generalize n:(aal (Zh 200 L) d).2=K at*;have r:=U.run g K k2;have f:=aa7 U.r1 U.a1 g K k2;rw[ajF];generalize it (goS (Zh 200 L)) K d=e at*;have⟨x,y⟩:=e;subst l;have nv:=U.nv f;have h:((Zh 200 L').getD (aal (Zh 200 L) d).1 []).length≠2:=by grind[UpK.deg]
 have r2:agC 200 L' (afk a b v d) (K+ahn a b L d K+if isU a b (x,(aal (Zh 200 L) d).1)=tT then 1 else 0) ((if isU a b (x,(aal (Zh 200 L) d).1)=tT then v else x),(aal (Zh 200 L) d).1):=by
  by_cases c:isU a b (x,(aal (Zh 200 L) d).1)=tT
  .rw[abe c,abe c];have k:afk a b v (x,(aal (Zh 200 L) d).1)=(x,v):=by grind[afk]
   rw[k]at r;have s2:=U.sg (d:=(x,(aal (Zh 200 L) d).1)) f;rw[k]at s2;have i:Jp L' (aal (Zh 200 L) d).1 v:=(U.up _ _).2 (.inr (by grind[afN]));exact r.trans (agC.one (ahc U.r2 U.a2 U.deg2 s2.symm i.symm (fun e=>by rw[e]at f;exact Xa U.r1 f)) U.deg2)
  grind[afk]
 have s0:=U.sg g;have d1:((Zh 200 L').getD (afk a b v d).1 []).length≠2:=by grind[ahh,UpK.deg,UpK.nv]
 have:=aph U.r2 U.a2 (qL0 _) (c:=(afk a b v d).1) (v:=(afk a b v d).2) s0 d1 r2 h;grind
theorem UpK.corn:aad (Zh 200 L')=aad (Zh 200 L):=by grind[aad,Xq,aaA,UpK.deg0,UpK.deg2,UpK.deg]
theorem UpK.bad:(Zh 200 L').any aaW=(Zh 200 L).any aaW:=by
 rw[TV,agN,agN];have one:∀{A B:xLP},(∀x,x<200->aaW ((Zh 200 A).getD x [])=tT->aaW ((Zh 200 B).getD x [])=tT)->(∃r∈Zh 200 A,aaW r=tT)->∃r∈Zh 200 B,aaW r=tT:=fun{A B} h=>by
  rintro⟨r,c,hb⟩;obtain⟨i,hi,rfl⟩:=Yi.1 c;have d:i<200:=by grind[Xq]
  grind[Xq]
 constructor
 .refine one fun x _ h=>?_;grind[aaW,UpK.deg2,UpK.deg]
 .refine one fun x _ h=>?_;grind[aaW,UpK.deg0,UpK.deg]
theorem UpK.aaj{cs:II}(g:∀c∈cs,c<200/\((Zh 200 L).getD c []).length≠2)(f:v∉cs):(aaj (Zh 200 L') cs).Perm ((aaj (Zh 200 L) cs).map (afk a b v)):=by rw[afR,afR,map_flatMap];refine akc fun c d=>?_;have:=(U.row (x:=c) fun e=>f (e▸d)).map fun w=>(c,w);rw[KG]at this;rw[KG];grind[map_congr_left,ahh]
theorem UpK.aaI{cs:II}(d:∀c∈cs,c<200/\((Zh 200 L).getD c []).length≠2)(e:v∉cs):aaI (Zh 200 L') cs=aaI (Zh 200 L) cs:=by funext p;unfold Go.Fw.aaI;rw[((U.aaj d e).map (aaH (Zh 200 L'))).count_eq p,KG];grind[map_congr_left,ahP,ahh,UpK.Wn]
theorem UpK.aaU{cs:II}(e:∀c∈cs,c<200/\((Zh 200 L).getD c []).length≠2)(f:v∉cs):aaU (Zh 200 L') cs=aaU (Zh 200 L) cs+(ahg (Zh 200 L) cs).countP (isU a b):=by
 unfold Go.Fw.aaU ahg;rw[((U.aaj e f).map fun d=>(aal (Zh 200 L') d).2+1).sum_nat,KG,List.countP_flatMap];have key:∀l:List (Nat×Nat),(∀d∈l,d∈Go.Fw.aaj (Zh 200 L) cs)->(l.map ((fun d=>(aal (Zh 200 L') d).2+1)∘afk a b v)).sum=(l.map fun d=>(aal (Zh 200 L) d).2+1).sum+(l.map (List.countP (isU a b)∘fun d=>(rG ((aal (Zh 200 L) d).2+1)).map fun i=>it (goS (Zh 200 L)) i d)).sum:=by
  intro l
  induction l<;>grind[UpK.Wn,ahn]
 grind
theorem UpK.steps{cs:II}(d:∀c∈cs,c<200/\((Zh 200 L).getD c []).length≠2)(f:v∉cs)(e:cs.Nodup):Go.Fw.aaU (Zh 200 L') cs=2*L'.length↔Go.Fw.aaU (Zh 200 L) cs=2*L.length:=by
 rw[U.aaU d f,U.len];have le:=vis_le U.r1 U.a1 d e;have nd:((ahg (Zh 200 L) cs).filter (isU a b)).Nodup:=(alG U.r1 U.a1 d e).filter _;have h2:(ahg (Zh 200 L) cs).countP (isU a b)<=2:=by rw[qL159];refine acK nd (B:=[(a,b),(b,a)]) fun x g=>?_;grind[afN]
 constructor
 .omega
 .intro h;have m1:=akU U.r1 U.a1 d e h U.ab;have m2:=akU U.r1 U.a1 d e h U.ab.symm;have:2<=(ahg (Zh 200 L) cs).countP (isU a b):=by
   rw[qL159];have:=acK (A:=[(a,b),(b,a)]) (B:=(ahg (Zh 200 L) cs).filter (isU a b)) (by grind[UpK.nab]) fun x g=>by grind[afN]
   exact this
  omega
theorem UpK.kind:aaN L'=aaN L:=by
 have e:∀c∈aad (Zh 200 L),_:=fun c h=>agY h;have f:v∉aad (Zh 200 L):=by grind[aad.eq_1,aaA.eq_1,UpK.deg0]
 have g:(aad (Zh 200 L)).Nodup:=uV.filter _;have i:∀E,aa8 (Zh 200 L') (aad (Zh 200 L)) L'.length E=aa8 (Zh 200 L) (aad (Zh 200 L)) L.length E:=fun E=>by
  have d:(aad (Zh 200 L)).any (fun c=>((Zh 200 L').getD c []).length !=E)=(aad (Zh 200 L)).any fun c=>((Zh 200 L).getD c []).length !=E:=by grind[UpK.deg]
  grind[aa8,UpK.aaI,UpK.steps]
 grind[agP,UpK.bad,UpK.corn]
end
section
attribute [local irreducible] Kp MQ lU KO1 KO KN KX KE VK Kl ZJ TC aab
variable {X a i k n u v:Nat} {b ps:List Pr} {ev:Value} {h:aai}
def atL(n:Nat)(b:xLP)(v:Nat):RZ:=(rG n).map fun u=>if u<v then(if u∈aag n b then(abD n b (u:Int):Int)else-1)else 0
theorem amM(n:Nat)(b:xLP)(v:Nat):(atL n b v).length=n:=by simp[atL]
theorem amN(h:u<n):(atL n b v)[u]?=Z (if u<v then(if u∈aag n b then(abD n b (u:Int):Int)else-1)else 0):=by simp[atL,h]
theorem atL_set:(atL n b v).set v (if v∈aag n b then(abD n b (v:Int):Int)else-1)=atL n b (v+1):=by refine mJ fun u=>?_;grind[amN,amM]
theorem idx_next(n:Nat)(b:xLP)(a:v<n):abD n b ((v+1:Nat):Int)=abD n b (v:Int)+if v∈aag n b then 1 else 0:=by
 unfold abD;have nd:(aag n b).Nodup:=uV.filter _;generalize aag n b=l at nd
 induction l<;>grind
theorem idx_zero(n:Nat)(b:xLP):abD n b ((0:Nat):Int)=0:=by grind[abD]
theorem idx_all(n:Nat)(b:xLP):abD n b (n:Int)=(aag n b).length:=by grind[abD,countP_eq_length,aeT]
def GX.setN{n:Int}(g:GX h X n ev ps)(hw:WF h)(m:Int):∃h',aaK pG h 3 (pT (Z X)) m=Z h'/\GX h' X m ev ps/\WF h'/\h'=h.put X (.cells [m,ev]):=by have st:=QB (P:=pG) (t:=3) (x:=m) Ac Ji g.ox (off:=0) Ma rfl rfl;exact⟨_,st,⟨aai.Y3 _ _ _,GS.put g.gp _ g.ne,g.ne⟩,hw.put _ (hw.lt g.ox),rfl⟩
theorem GX.push3{n:Int}(g:GX h X n ev ps)(hw:WF h)(p:Pr)(r:ps.length+1<=100000):
  ∃v' d a e,aas pG h 22 1 [(0,UI p)]=Z (sL (Z h.next) 1 1,d)/\aaR pG d 22 22 ev (sL (Z h.next) 1 1)=Z (v',a)/\aaK pG a 22 (pT (Z ⟨X,1,Y⟩)) v'=Z e/\
   GX e X n v' (ps++[p])/\WF e/\Le h d/\(∀f,Le f h->f.own X=Y->Z2 f ev->Le f e/\Z2 f v')/\(∀b o,h.own b=Z o->b≠X->blk ev≠Z b->e.own b=Z o/\blk v'≠Z b)/\
   (∀f,Le f h->Z2 f ev->Le f a)/\a.own X=Z (.cells [n,ev])/\∀b o,h.own b=Z o->blk ev≠Z b->a.own b=Z o:=by
 have⟨v',d,a,e4,s,j,k,l4,hf,l⟩:=g.gp.push hw p r;have⟨c,i⟩:=l X _ g.ox g.ne;have one:=j.pr.sl.one;have u:v'.cells=#[v']:=by obtain⟨_,_,rfl,_⟩:=j.pr.sl;rfl
 have st:=QB (P:=pG) (t:=22) (x:=v') AV Ji c (off:=1) Ma u one;refine⟨v',d,a,_,e4,s,st,⟨aai.Y3 _ _ _,GS.put j _ i,i⟩,k.put _ (k.lt c),l4,fun f m v af=>?_,fun b o hb w q=>?_,fun f m af=>(hf f m af).1,c,fun b o hb q=>(l b o hb q).1⟩
 all_goals grind[Le.put,aai.By]
def stpH{a b:Nat}(h:a<b):b-(a+1)<b-a:=NH
def le_pl(h:a<=i)(hi:i<k)(b:k<=1000):a+1<=100000:=NH
theorem am5(W0:abw)(v:vV)(n:Nat)(b:xLP)(h:aai)(U:PR h v b)(hR:InR n b)(hn:n<=200)(hb:b.length<=1000):
  AC pG W0 24 [n,v] h fun x h'=>∃ev,x=.agg #[((aag n b).length:Int),ev]/\GP h' ev (aat n b)/\Le h h'/\Z2 h ev:=by
 refine AC.vF func24 ntmps24 results24 fun aC=>?_;have⟨s,e1,l1,w1,o1⟩:=Tt aC [.int .i64 0,.slice Y 0 0];have al:=Lo h;rw[e1]at al;have mk:=Ye (P:=pG) (t:=47) (z:=.int .i64 0) s Mb rfl rfl rfl rfl Ji Ac Ji n NH;have⟨h2,e2,l2,w2,o2⟩:=Tt w1 (rP n (.int .i64 0));rw[e2]at mk;have⟨h3,h4,e3,e4,l4,w4,nX,ba⟩:=GX.new w2 0;have bz:acB pG 24 []=Z (.agg #[.int .i64 0,.slice Y 0 0]):=Ji
 have nR:h.own h.next=Y:=(Le.refl h).next aC (qL0 _)
 have nA:s.own s.next=Y:=(Le.refl s).next w1 (qL0 _)
 have lv:=fun g=>U.len g
 have RA:h.next≠s.next:=fun e=>by grind
 have aD:=l2.own _ _ o1
 have XR:h2.next≠h.next:=fun e=>by grind
 have XA:h2.next≠s.next:=fun e=>by grind
 simp only[HO,seval,al,mk,bz,e3,e4]
 have bY:h.own s.next=Y:=l1.none nA
 have bb:h.own h2.next=Y:=l1.none (l2.none nX)
 have aE:=l4.own _ _ aD
 have aF:GI h4 (sL (Z s.next) n n) (atL n b 0):=by
  have e0:atL n b 0=rP n 0:=by refine mJ fun u=>?_;grind[amN,amM]
  have g2:GI h2 (sL (Z s.next) n n) (rP n 0):=by have:=GS.full (k:=1) (n:=n) (c:=rP n (.int .i64 0)) o2 Ma NH;unfold GI;simpa[Bp]using this
  grind[GI.le]
 have aH:Le h h4:=(l1.trans l2).trans l4
 generalize hA:vV.slice (Z s.next) n n=f at*
 have bA:blk f=Z s.next:=by rw[<-hA];rfl
 generalize h2.next=X at*
 generalize s.next=A at*
 generalize h.next=R at*
 clear hA mk e1 e2 e3 e4 al bz l1 l2 l4 o1 o2 aD w1 w2 nA nX;clear s h2 h3;refine lIn (fun k fr hq=>∃u:Nat,k=n-u/\u<=n/\fr=mkF [(0,n),(1,v),(4,pT (Z R)),(5,f),(6,pT (Z X)),(7,.int .i64 u)]/\
   GI hq f (atL n b u)/\GX hq X (abD n b (u:Int):Int) (.slice Y 0 0) []/\Le h hq/\hq.own R=Z (.cells [.int .i64 0,.slice Y 0 0])) ⟨0,rfl,Z6 _,rfl,aF,by grind[idx_zero],aH,aE⟩ ?_
 clear aF ba aH aE w4;clear h4;rintro k fr hq aJ ⟨u,rfl,hu,rfl,ga,w,lq,oR⟩;refine Uy ?_;refine Kl.intro (fun O=>?_) (fun hf=>?_)
 .have bg:u<n:=acb O;clear O;have aK:u<(atL n b u).length:=by grind[amM]
  have⟨h5,e5,Q,w5,f5,k5⟩:=ga.store aJ aK (-1);have ad:=ga.rl.DH u aK;have aA:Z2 h f:=fun c V=>by grind
  have l5:=f5 h lq aA;have D:blk f≠Z X:=hGr;have aL:blk f≠Z R:=hGr;have aN:=k5 X _ w.ox D;have aP:=k5 R _ oR aL;have bh:GX h5 X (abD n b (u:Int):Int) (.slice Y 0 0) []:=⟨aN,GP.nil _,by simp[blk]⟩;simp only[HO,seval,ad,e5];refine lIn (fun k fr d=>∃i:Nat,k=b.length-i/\i<=b.length/\fr=mkF [(0,n),(1,v),(4,pT (Z R)),(5,f),(6,pT (Z X)),(7,.int .i64 u),(8,i)]/\
    (let c:=(b.take i).any fun p=>aO p (u:Int);GI d f ((atL n b u).set u (if c then(abD n b (u:Int):Int)else-1))/\GX d X ((abD n b (u:Int):Int)+if c then 1 else 0) (.slice Y 0 0) [])/\Le h d/\d.own R=Z (.cells [.int .i64 0,.slice Y 0 0])) ⟨0,rfl,Z6 _,rfl,hGr,l5,aP⟩ ?_
  clear Q bh l5 aP aN f5 k5 e5 w5;clear h5;rintro k fr d W ⟨i,rfl,hi,rfl,bj,C,q⟩;have⟨m,r⟩:=bj;refine Sk lv ?_;refine Kl.intro (fun O=>?_) (fun hf=>?_)
  rotate_left
  .have I:b.length<=i:=vp hf;rw[HV I]at m r;have hm:u∈aag n b↔(b.any fun p=>aO p (u:Int))=tT:=by grind[aeT]
   have aw:=aaa u NH;simp only[HO,seval,aw];refine lgA NH ⟨u+1,rfl,bg,rfl,?_,?_,C,q⟩
   all_goals grind[atL_set,idx_next]
  have a:i<b.length:=acb O;clear O;have B:=CA a;have aa:b.take (i+1)=b.take i++[b[i]]:=XJ a;generalize b[i]=p at B aa;have E:(b.take (i+1)).any (fun p=>aO p (u:Int))=((b.take i).any (fun p=>aO p (u:Int))||aO p (u:Int)):=hGr;have F:=U.addr (k:=.i64) i a;have J:=(U.le C).l0 B;have K:=(U.le C).l1 B;simp only[Ip]at J K;have aw:=aaa i NH;have ae:∀x:Int,u<((atL n b u).set u x).length:=fun x=>by grind
  have L:=m.rl.DH u (ae _);have j:=m.rl.Uc u (ae _);rw[List.getElem_set_self]at j;cases V:(b.take i).any fun p=>aO p (u:Int)with
  |true=>rw[V]at m r E j;simp only[if_true]at m r j;have d1:decide ((abD n b (u:Int):Int)<0)=fF:=Sb NH;simp only[HO,seval,L,j,d1,aw];refine lgA NH ⟨i+1,rfl,a,rfl,?_,C,q⟩;grind
  |false=>
   rw[V]at m r E j;simp only[acg,if_false]at m r j;simp only[Bool.false_or]at E;have d1:decide ((-1:Int)<0)=tT:=by decide
   have bT:aO p (u:Int)=(decide (p.1=(u:Int))||decide (p.2=(u:Int))):=rfl;have fresh:aO p (u:Int)=tT->∃S H,aaK pG d 3 (pT (Z (aaq f u))) (abD n b (u:Int):Int)=Z S/\aaC pG S 3 ⟨X,0,Y⟩=Z (.int .i64 (abD n b (u:Int):Int))/\
     aaK pG S 3 (pT (Z X)) (.int .i64 ((abD n b (u:Int):Int)+1))=Z H/\GI H f ((atL n b u).set u (abD n b (u:Int):Int))/\GX H X ((abD n b (u:Int):Int)+1) (.slice Y 0 0) []/\WF H/\Le h H/\H.own R=Z (.cells [.int .i64 0,.slice Y 0 0]):=fun _=>by
    have⟨S,e6,g6,w6,f6,k6⟩:=m.store W (ae _) (abD n b (u:Int):Int);rw[List.set_set]at g6;have bk:=k6 X _ r.ox D;have bZ:=k6 R _ q aL;have ag:GX S X ((abD n b (u:Int):Int)+0) (.slice Y 0 0) []:=⟨bk,GP.nil _,by simp[blk]⟩;rw[qL244]at ag;have⟨H,e7,ai,w7,bm⟩:=ag.setN w6 ((abD n b (u:Int):Int)+1);refine⟨S,H,e6,ag.ld.2.1,e7,?_,ai,w7,?_,?_⟩
    .rw[bm];exact GS.put g6 _ D
    all_goals grind[Le.put,aai.By]
   have bW:(abD n b (u:Int):Int)<=200:=by grind[abD,aag,List.length_filter_le]
   have aT:aaY .i64 ((abD n b (u:Int):Int)+1)=(abD n b (u:Int):Int)+1:=cT _ NH NH;have aj:=r.ld.2.1;rw[qL244]at aj;cases c1:decide (p.1=(u:Int))with
   |true=>have he:aO p (u:Int)=tT:=hGr;have⟨S,H,e6,aq,e7,g7,ai,w7,l7,ar⟩:=fresh he;simp only[HO,seval,L,j,d1,F,Dh,Z0,J,K,c1,Ii,Ip,Gc,aj,e6,aq,aT,e7,aw];refine lgA NH ⟨i+1,rfl,a,rfl,?_,l7,ar⟩;grind
   |false=>
    cases c2:decide (p.2=(u:Int))with
    |true=>have he:aO p (u:Int)=tT:=hGr;have⟨S,H,e6,aq,e7,g7,ai,w7,l7,ar⟩:=fresh he;simp only[HO,seval,L,j,d1,F,Dh,Z0,J,K,c1,c2,Ii,Ip,Gc,aj,e6,aq,aT,e7,aw];refine lgA NH ⟨i+1,rfl,a,rfl,?_,l7,ar⟩;grind
    |false=>have he:aO p (u:Int)=fF:=hGr;simp only[HO,seval,L,j,d1,F,Dh,Z0,Ip,J,K,c1,c2,aw];refine lgA NH ⟨i+1,rfl,a,rfl,?_,C,q⟩;grind
 have I:n<=u:=vp hf;obtain rfl:u=n:=NH;clear I hf hu;rw[idx_all]at w;refine Uy ?_;refine lIn (fun k fr d=>∃(i:Nat)(G:vV),k=b.length-i/\i<=b.length/\fr=mkF [(1,v),(4,pT (Z R)),(5,f),(6,pT (Z X)),(9,i)]/\
   GI d f (atL u b u)/\GX d X ((aag u b).length:Int) G ((aat u b).take i)/\Le h d/\Z2 h G/\d.own R=Z (.cells [.int .i64 0,.slice Y 0 0])/\blk G≠Z R/\blk G≠Z A) ⟨0,_,rfl,Z6 _,rfl,ga,by simpa using w,lq,fun c V=>by grind[blk],oR,by simp[blk],by simp[blk]⟩ ?_
 clear ga w lq oR aJ;clear hq;rintro k fr d W ⟨i,G,rfl,hi,rfl,m,w,C,ax,q,aV,b0⟩;refine Sk lv ?_;refine Kl.intro (fun O=>?_) (fun hf=>?_)
 .have a:i<b.length:=acb O;clear O;have B:=CA a;have b1:(aat u b).length=b.length:=by simp[aat]
  have aa:(aat u b).take (i+1)=(aat u b).take i++[((abD u b b[i].1:Int),(abD u b b[i].2:Int))]:=by grind[List.take_succ_eq_append_getElem,aat]
  have⟨r1,r2,r3⟩:=hR b[i] (aaf a);have T:b[i]∈b:=aaf a;generalize b[i]=p at*;have⟨p1,p2⟩:=p;simp only at r1 r2 r3 aa;obtain⟨x,rfl⟩:=WA r1;obtain⟨y,rfl⟩:=WA (show 0<=p2 by omega);have hx:x<u:=NH;have hy:y<u:=NH;have vx:x∈aag u b:=aeT.2 ⟨hx,_,T,by simp[aO]⟩;have vy:y∈aag u b:=aeT.2 ⟨hy,_,T,by simp[aO]⟩;have M:(atL u b u).length=u:=amM _ _ _;have bo:=m.rl.DH x (by rw[M];exact hx);have br:=m.rl.DH y (by rw[M];exact hy);have b2:(atL u b u)[x]'(by grind)=(abD u b (x:Int):Int):=by have:=amN (b:=b) (v:=u) hx;grind
  have b3:(atL u b u)[y]'(by grind)=(abD u b (y:Int):Int):=by have:=amN (b:=b) (v:=u) hy;grind
  have ay:∀g,GI g f (atL u b u)->aaC pG g 3 (aaq f x)=Z (.int .i64 (abD u b (x:Int):Int)):=fun g gg=>by have:=gg.rl.Uc x (by rw[M];exact hx);grind
  have az:∀g,GI g f (atL u b u)->aaC pG g 3 (aaq f y)=Z (.int .i64 (abD u b (y:Int):Int)):=fun g gg=>by have:=gg.rl.Uc y (by rw[M];exact hy);grind
  have F:=U.addr (k:=.i64) i a;have J:=fun g (l:Le h g)=>(U.le l).l0 B;have K:=fun g (l:Le h g)=>(U.le l).l1 B;simp only[Ip,DF]at J K;have aw:=aaa i NH;have bx:((aat u b).take i).length<=i:=List.length_take_le ..;have⟨v',g4,Q,g6,q4,q5,q6,b4,w9,N,f9,k9,f5,bB,k5⟩:=w.push3 W ((abD u b (x:Int):Int),(abD u b (y:Int):Int)) (le_pl bx a hb);have⟨l9,a9⟩:=f9 h C bb ax;have⟨bF,bH⟩:=k9 R _ q (EH XR) aV;have bI:=xe (abD u b (x:Int):Int) (abD u b (y:Int):Int);have gl:=w.ld;have aW:aaC pG Q 22 ⟨X,1,Y⟩=Z G:=Fq AV rfl bB;have aX:=(w.le N).ld;have D:blk f≠Z X:=hGr;have g9:GI g6 f (atL u b u):=GI.keep m fun c o ho V=>(k9 c o ho (fun e=>D (e▸V)) fun e=>by grind).1;have bN:blk v'≠Z A:=by
   obtain⟨o,ho⟩:∃o,d.own A=Z o:=by have:=GS.Sy m bA;cases hh:d.own A<;>grind
   grind
  have a6:GI Q f (atL u b u):=GI.keep m fun c o ho V=>k5 c o ho fun e=>by grind
  have a7:=f5 h C ax;have a8:=C.trans N;refine Uy ?_;refine gh (fRn 0 19 (JQ 19 [18] (JQ 20 [1,19] (tA [21] (JQ 22 [0,1,2,3,4,5,6,7,8,9,10,11,12,13,14,15,16,17,18,19,20,21] .done))))) ?_;simp only[HO,seval,Qg,Di,Ip,Gc,DF,gl.2.2,aX.2.2,aW,F,Dh,Z0,J d C,J g4 a8,J Q a7,K d C,K g4 a8,K Q a7,bo,br,ay d m,ay g4 (m.le N),ay Q a6,az d m,az g4 (m.le N),az Q a6,bI,q4,q5,q6,aw];exact lgA (stpH a) ⟨i+1,v',rfl,a,rfl,g9,hGr,l9,a9,bF,bH,bN⟩
 .have I:b.length<=i:=vp hf;rw[HV (by grind[aat])]at w;have gl:=w.ld;have st:=aib (n:=((aag u b).length:Int)) (ev:=G) q w.gp.pr.sl.one w.gp.pr.sl.cell;have aB:UA pG 24=2:=Ji;have oo:=aai.Y3 d R (.cells [((aag u b).length:Int),G]);have bQ:aaC pG (d.put R (.cells [((aag u b).length:Int),G])) 24 ⟨R,0,Y⟩=Z (.agg #[((aag u b).length:Int),G]):=by rw[Wx qS5 rfl aB oo Ma];rfl
  simp only[HO,seval,gl.1,st,bQ];exact⟨G,rfl,GS.put w.gp _ aV,C.put _ nR,ax⟩
def am6(l:xLP)(v:Int):Option xLP:=
 match acv l v with
 |[a,b]=>if l.any (fun p=>afX p a b)then Y else Z (akA l v a b)
 |_=>Z l
def ajq(es:xLP):Nat->Option xLP
 |0=>Z es
 |v+1=>(ajq es v).bind fun l=>am6 l (v:Int)
def akq(l:xLP)(m:Nat):RZ:=((rG m).filter fun(v:Nat)=>decide (0<(acv l (v:Int)).length)).map fun(v:Nat)=>(v:Int)
def endR(l:xLP):Int:=
 if(akq l 200).length=5/\l.length=10 then 5
 else if(akq l 200).length≠6\/l.length≠9 then 0
 else if l.any (fun p=>decide (p.1∈acv l ((akq l 200).headD 0))==decide (p.2∈acv l ((akq l 200).headD 0)))then 0 else 33
attribute [local instance] Classical.propDecidable in
noncomputable def ant(es:xLP):Int:=if bX ⟨200,es⟩then(match ajq es 200 with|none=>0|some l=>endR l)else 0
theorem takK_len(l:xLP)(v a b:Int):(akA l v a b).length<=l.length+1:=by grind[akA]
theorem takS_len{l l':xLP}{v:Int}(h:am6 l v=Z l'):l'.length<=l.length+1:=by grind[am6,takK_len]
theorem apj{es:xLP}:∀{v:Nat}{l:xLP},ajq es v=Z l->l.length<=es.length+v
 |0,l,h=>by injection h with h;grind
 |v+1,l,h=>by
  unfold ajq at h;cases a:ajq es v with
  |none=>grind
  |some l0=>rw[a]at h;have:=apj a;have:=takS_len (l:=l0) h;omega
def aob{es:xLP}{v:Nat}(h:ajq es v=Y):∀k,ajq es (v+k)=Y
 |0=>h
 |k+1=>by show(ajq es (v+k)).bind _=Y;rw[aob h k];rfl
theorem aos(l:xLP)(m:Nat):akq l (m+1)=akq l m++if 0<(acv l (m:Int)).length then[(m:Int)]else[]:=by grind[akq,range_succ]
theorem anu(l:xLP)(m:Nat):(akq l m).length<=m:=by grind[akq]
def amt(a b:Bool):aEq pG 4 (.bool a) (.bool b)=Z (a==b):=by simp[aEq,eY]
theorem RKind_any(A:abw)(v:vV)(es:xLP)(h:aai)(hv:PR h v es):
  AC pG A 12 [v] h fun x h'=>x=.int .i64 (ant es)/\Le h h':=by
 refine AC.vF func12 ntmps12 results12 fun aq=>?_;have aa:=Wj (n:=200) hv.sl;refine Sk aa ?_;refine kCi apZ (agd A _ ⟨200,es⟩ h ⟨v,rfl,hv⟩) ?_;rintro x h2 w2 ⟨⟨bb,rfl,B⟩,l2⟩;cases bb with
 |false=>
  have:ant es=0:=abE fun q=>by cases B.2 q
  simp only[HO,seval,this];grind
 |true=>
 have hr:=B.1 rfl;clear B;have ar:es.length<=594:=hr.len
 have T:ant es=match ajq es 200 with|none=>0|some l=>endR l:=abe hr
 refine Uy ?_;refine lIn (fun k fr C=>∃(u:Nat)(l:xLP)(t:vV),k=200-u/\u<=200/\fr=mkF [(3,t),(4,u)]/\Le h C/\PR C t l/\ajq es u=Z l) ⟨0,es,v,rfl,Z6 _,rfl,l2,hv.le l2,rfl⟩ ?_;rintro k fr C av ⟨u,l,t,rfl,hu,rfl,U,pl,D⟩;have ay:=apj D;have K:=fun g=>pl.len g;refine Uy ?_;by_cases j:u<200
 .have E:((u:Int)<200)=True:=eq_true NH;have dc:decide ((u:Int)<200)=tT:=EL NH;have aw:=aaa u NH;refine Sk (XC dc E) ?_;refine kCi func30 (akK A t l (u:Int) C pl NH) ?_;rintro x h3 w3 ⟨ge,l3,ae⟩;have L:=fun g=>ge.rl.TA g;have az:=akV (u:Int) l;by_cases c:(acv l (u:Int)).length=2
  rotate_left
  .have d:decide (((acv l (u:Int)).length:Int)=2)=fF:=Sb NH;have ts:am6 l (u:Int)=Z l:=by grind[am6]
   simp only[HO,seval,L,d,aw];exact lgA NH ⟨u+1,l,t,rfl,j,rfl,U.trans l3,pl.le l3,by show(ajq es u).bind _=_;rw[D];exact ts⟩
  have d:decide (((acv l (u:Int)).length:Int)=2)=tT:=EL NH;have e:=ge.rl.DH 0 NH;have w:=ge.rl.DH 1 NH;have m:=ge.rl.Uc 0 NH;have ld1:=ge.rl.Uc 1 NH;obtain⟨a,b,M⟩:∃a b,acv l (u:Int)=[a,b]:=by
   match hh:acv l (u:Int),c with
   |[a,b],_=>grind
  have V:(acv l (u:Int))[0]'(by omega)=a:=by simp[M]
  have g1:(acv l (u:Int))[1]'(by omega)=b:=by simp[M]
  rw[V]at m;rw[g1]at ld1;simp only[Int.ofNat_zero,Int.ofNat_one,oZ]at e w;refine Sk (XC L d) ?_;refine gh (fRn 0 8 (JQ 8 [0,1,4,7] (tA [9,10,11] (JQ 12 [0,1,2,3,4,5,6,7,8,9,10] (tA [13] .done))))) ?_;simp only[HO,seval,Qg,e,w,m,ld1];refine kGi func31 (taken_any A t l (u:Int) a b h3 (pl.le l3) NH) ?_;rintro x h4 w4 ⟨l4,F⟩;have N:=ge.le l4;have o:=N.rl.Uc 0 NH;have r:=N.rl.Uc 1 NH;rw[V]at o;rw[g1]at r;rcases F with⟨O,rfl⟩|⟨O,xv,rfl,px,ax⟩
  .have G:ant es=0:=by
    have:ajq es (u+1)=Y:=by grind[ajq,am6]
    have:=aob this (200-(u+1));grind
   refine CO (xU e w o r) ?_;refine Sk G ?_;exact⟨trivial,(U.trans l3).trans l4⟩
  .refine CO (xU e w o r) ?_;simp only[HO,seval,aw];exact lgA NH ⟨u+1,_,xv,rfl,j,rfl,(U.trans l3).trans l4,px,by grind[ajq,am6]⟩
 obtain rfl:u=200:=NH;have E:(((200:Nat):Int)<200)=False:=eq_false NH;have dc:decide (((200:Nat):Int)<200)=fF:=Sb NH;rw[D]at T;simp only at T;rw[T];clear T;refine Sk (XC dc E) ?_;refine lIn (fun k fr G=>∃(u:Nat)(cv:vV),k=200-u/\u<=200/\fr=mkF [(3,t),(7,cv),(8,u)]/\Le C G/\Z2 C cv/\GI G cv (akq l u)) ⟨0,_,rfl,Z6 _,rfl,Le.refl _,fun b hb=>by simp[blk]at hb,GI.nil _⟩ ?_;rintro k fr G aA ⟨u,cv,rfl,aB,rfl,y,ac,gc⟩;have P:=pl.le y;refine Uy ?_;by_cases j:u<200
 .have E:((u:Int)<200)=True:=eq_true NH;have dc:decide ((u:Int)<200)=tT:=EL NH;have aw:=aaa u NH;refine Sk (XC dc E) ?_;refine kCi func30 (akK A t l (u:Int) G P NH) ?_;rintro x h3 w3 ⟨ge,l3,ae⟩;have L:=fun g=>ge.rl.TA g;have z:=aos l u;by_cases c:0<(acv l (u:Int)).length
  .have d:decide (((acv l (u:Int)).length:Int)>0)=tT:=EL NH;have ag:=anu l u;obtain⟨v1,q4,q5,e4,e5,g5,w5,l4,f5,-⟩:=(gc.le l3).push w3 (u:Int) NH;have⟨l5,a5⟩:=f5 C (y.trans l3) ac;rw[abe c]at z;simp only[HO,seval,L,d,e4,e5,aw];exact lgA NH ⟨u+1,v1,rfl,j,rfl,l5,a5,by rw[z];exact g5⟩
  .have d:decide (((acv l (u:Int)).length:Int)>0)=fF:=Sb NH;rw[abE c,adN]at z;simp only[HO,seval,L,d,aw];exact lgA NH ⟨u+1,cv,rfl,j,rfl,y.trans l3,ac,by rw[z];exact gc.le l3⟩
 obtain rfl:u=200:=NH;have E:(((200:Nat):Int)<200)=False:=eq_false NH;have dc:decide (((200:Nat):Int)<200)=fF:=Sb NH;have lC:=fun g=>gc.rl.TA g;have lz:=U.trans y;unfold endR;simp only[HO,seval,dc,E,lC];have ag:=anu l 200;generalize akq l 200=cs at*;by_cases c5:cs.length=5/\l.length=10
 .have d5:decide ((cs.length:Int)=5)=tT:=EL NH;have H:decide ((l.length:Int)=10)=tT:=EL NH;rw[abe c5];refine Sk (Yb d5 H K) ?_;grind
 rw[abE c5];have I:∀{Φ:Prop},(cs.length=5->decide ((cs.length:Int)=5)=tT->decide ((l.length:Int)=10)=fF->Φ)->(cs.length≠5->decide ((cs.length:Int)=5)=fF->Φ)->Φ:=fun{Φ} h1 h2=>by grind
 apply I
 .intro k5 d5 H;have J:decide ((cs.length:Int)=6)=fF:=Sb NH;rw[abe (.inl NH)];simp only[HO,seval,d5,H,J,K,lC,bne];grind
 intro k5 d5;by_cases c6:cs.length=6
 rotate_left
 .have J:decide ((cs.length:Int)=6)=fF:=Sb NH;rw[abe (.inl c6)];simp only[HO,seval,d5,J,lC,bne];grind
 have J:decide ((cs.length:Int)=6)=tT:=EL NH;by_cases c9:l.length=9
 rotate_left
 .have d9:decide ((l.length:Int)=9)=fF:=Sb NH;rw[abe (.inr c9)];simp only[HO,seval,d5,J,d9,lC,K,bne];grind
 have d9:decide ((l.length:Int)=9)=tT:=EL NH;rw[abE NH];have e:=gc.rl.DH 0 NH;have m:=gc.rl.Uc 0 NH;have V:cs[0]'(by omega)=cs.headD 0:=by
  cases cs<;>grind
 rw[V]at m;simp only[Int.ofNat_zero,oZ]at e;generalize cs.headD 0=c0 at*;simp only[HO,seval,d5,J,d9,lC,K,bne,e,m];refine kCi func30 (akK A t l c0 G P NH) ?_;rintro fv h3 w3 ⟨gf,l3,af⟩;have aC:=akV c0 l;generalize acv l c0=f at*;have ai:=lz.trans l3;refine Uy ?_;refine lIn (fun k fr hy=>∃i:Nat,k=l.length-i/\i<=l.length/\fr=mkF [(3,t),(9,fv),(10,i)]/\hy=h3/\(l.take i).any (fun p=>decide (p.1∈f)==decide (p.2∈f))=fF) ⟨0,rfl,Z6 _,rfl,rfl,Ma⟩ ?_;rintro k fr hy aD ⟨i,rfl,hi,rfl,rfl,Q⟩;refine Sk K ?_;refine Kl.intro (fun ht=>?_) (fun hf=>?_)
 rotate_left
 .have aj:l.length<=i:=vp hf;rw[HV aj]at Q;rw[abE hGr];refine Uy ?_;grind
 have s:i<l.length:=acb ht;clear ht;have R:=CA s;have al:l.take (i+1)=l.take i++[l[i]]:=XJ s;have S:l[i]∈l:=aaf s;generalize l[i]=p at*;have ad:=P.addr (k:=.i64) i s;have W:=(P.le l3).l0 R;have X:=(P.le l3).l1 R;have aw:=aaa i NH;refine Uy ?_;refine gh (fRn 0 6 (fRn 7 6 (JQ 6 [0,5] (JQ 13 [6,7,12] (tA [14] .done))))) ?_;simp only[HO,seval,Qg,ad,Dh,Z0,W,X];refine kGi func32 (an3 A fv f p.1 hy gf.rl NH) ?_;rintro x h4 w4 ⟨rfl,rfl⟩;simp only[HO,seval,Qg,ad,Dh,Z0,W,X];refine kGi func32 (an3 A fv f p.2 h4 gf.rl NH) ?_;rintro x h5 w5 ⟨rfl,rfl⟩;cases hb:(decide (p.1∈f)==decide (p.2∈f))with
 |true=>rw[abe (agN.2 ⟨p,S,hb⟩)];simp only[HO,seval,Qg,ad,Dh,Z0,W,X,amt,hb];exact ai
 |false=>simp only[HO,seval,Qg,ad,Dh,Z0,W,X,amt,hb,aw];exact lgA NH ⟨i+1,rfl,s,rfl,rfl,by rw[al,any_append,Q];simp[hb]⟩
attribute [local instance] Classical.propDecidable
variable {F:Cs} {j:Nat}
theorem ak9{f:II}{x:vV}(a:v∈f)(h:((v:Int)∉kz f/\x=.int .i64 (-1))\/∃i:Nat,x=i/\(kz f)[i]?=Z (v:Int)/\∀j,j<i->(kz f)[j]?≠Z (v:Int)):
  x=((Dn f v:Nat):Int)/\Dn f v<f.length:=by
 rcases h with⟨h,-⟩|⟨i,rfl,b,h2⟩
 .exact absurd (mem_map_of_mem a) h
 grind[y6,Dn,findIdx_eq,sY]
theorem amo(f:II)(i j:Nat)(h:0<f.length):(Qk f i j).length<=f.length:=by unfold Qk;rw[wI,amP];exact Q4 _ h
theorem l5a{C:II}{w:II}{fl n j:Nat}(h:C.length<=fl)(a:fl<=1000->True)(b:fl<=1000)(h2:j+1<n-1)(h3:n<=1000):(kz (C++w.take j)).length<=100000:=by grind[y6]
def l5b(h:j+1<n-1):j+1<n:=NH
def l5c(h:j+1<n-1)(h2:n<=1000):j+1<4611686018427387904:=NH
def l5d{j n l:Nat}(h:j+1<n-1)(h2:l=n-2):j<l:=NH
def l5e(h:j+1<n-1):j<n-2:=NH
def l5f(h:j+1<n-1):n-(j+1)<n-j:=NH
def l5g(h:j<=n-2)(h2:n-1<=j+1)(h3:2<=n):j=n-2:=NH
theorem l5h(h:F.length<=1000):(F.map kz).length<=100000:=hGr
theorem laid_any(D:abw)(R E:vV)(F:Cs)(f:Nat)(way:II)(h:aai)(V:RL (RL RP) h R (F.map kz))(hw:RL RP h E (kz way))(G:f<F.length)(h2:2<=way.length)(ha:way.headD 0∈F.getD f [])(hb:Ni way∈F.getD f [])(hF:F.length<=1000)(H:way.length<=1000)(az:∀x∈F,x.length<=1000):
  AC pG D 67 [R,f,E] h fun x h'=>RL (RL RP) h' x ((kY F f way).map kz)/\Le h h':=by
 refine AC.vF func67 ntmps67 results67 fun aA=>?_;have W:=V.NS f (by simpa using G);have⟨S,X,c⟩:=V.Wm f (by simpa using G);have er:(F.map kz)[f]'(by grind)=kz (F.getD f []):=hGr
 rw[er]at c;have n:(F.getD f []).length<=1000:=hGr;generalize aB:F.getD f []=a at*;have lw:=fun g=>hw.TA g;rw[y6]at lw;have w0:0<way.length:=NH;have r:=fun i (hi:i<way.length)=>hw.DH i (by rw[y6];exact hi);have s:∀g,Le h g->∀i (hi:i<way.length),aaC pG g 3 (aaq E i)=Z (.int .i64 ((way.getD i 0:Nat):Int)):=fun g l i hi=>by rw[(hw.le Nn.RP l).Uc i (by rw[y6];exact hi),sY hi,D4 hi]
 have t:=r 0 w0;simp only[Gg]at t;have u:=s h (Le.refl _) 0 w0;have e0:way.getD 0 0=way.headD 0:=by cases way<;>rfl
 rw[e0]at u;have y:=r (way.length-1) NH;have ld1:=s h (Le.refl _) (way.length-1) NH;have w1:aaY .i64 ((way.length:Int)-1)=((way.length-1:Nat):Int):=by grind[ie]
 have w2:aaY .i64 ((way.length:Int)-2)=((way.length-2:Nat):Int):=by grind[ie]
 refine Sk (XC W (X h (Le.refl _))) ?_;refine gh (tA [0,1,2,3] (fRn 5 7 (JQ 4 [0,3] (JQ 12 [4,5,11] (tA [13,14] .done))))) ?_;simp only[HO,seval,Qg,t,u,lw,w1,y,ld1];refine kGi ap6 (ahz D S _ _ h c (by rw[y6];omega)) ?_;rintro x h' aC ⟨hp,rfl⟩;obtain⟨rfl,i1⟩:=ak9 ha hp;simp only[HO,seval,Qg,t,u,lw,w1,y,ld1];refine kGi ap6 (ahz D S _ _ h' c (by rw[y6];omega)) ?_;rintro x h' ay ⟨aa,rfl⟩;obtain⟨rfl,i2⟩:=ak9 hb aa;simp only[HO,seval,Qg,t,u,lw,w1,y,ld1];have ae:Ni way=way.getD (way.length-1) 0:=rfl;refine kCi func101 (ape D S a _ _ h' c i1 i2 n) ?_;rintro ov h1 aD ⟨g1,l1,a1⟩;refine Uy ?_;refine kCi func101 (ape D S a _ _ h1 (c.le Nn.RP l1) i2 i1 n) ?_;rintro m aE aF ⟨g2,l2,a2⟩;simp only[HO,seval,lw,w2];have hd:∀b,blk ov=Z b->blk m≠Z b:=fun b hb e=>by have:=a2 b e;exact GS.Sy g1 hb this
 have aH:=amo a (Dn a (way.headD 0)) (Dn a (Ni way)) NH;have ag:=amo a (Dn a (Ni way)) (Dn a (way.headD 0)) NH;have eO:Ee a way=Qk a (Dn a (way.headD 0)) (Dn a (Ni way))++(jc way).reverse:=rfl;have eT:kP a way=Qk a (Dn a (Ni way)) (Dn a (way.headD 0))++jc way:=rfl;generalize Qk a (Dn a (way.headD 0)) (Dn a (Ni way))=A at*;generalize Qk a (Dn a (Ni way)) (Dn a (way.headD 0))=C at*;have I:=l1.trans l2;have J:(jc way).length=way.length-2:=by grind[jc]
 have K:∀j,j<way.length-2->(jc way)[j]?=Z (way.getD (j+1) 0):=fun j L=>by unfold jc;rw[anh,abe L,b7,qL242 1 j,D4 (show j+1<way.length by omega)];grind
 have n0:h'.own=h'.own:=rfl;refine lIn (fun k fr M=>∃(j:Nat)(v:vV),k=j/\j<=way.length-2/\fr=mkF [(0,R),(1,f),(2,E),(10,v),(11,m),(12,(j:Nat))]/\GI M v (kz (A++((jc way).drop j).reverse))/\GI M m (kz C)/\Le h' M/\Z2 h' v/\Z2 h' m/\∀b,blk v=Z b->blk m≠Z b) ⟨way.length-2,ov,rfl,qL0 _,rfl,by grind[GI.le],g2,I,a1,fun b hb=>l1.none (a2 b hb),hd⟩ ?_;clear g1 g2 hd a1 l1 l2 a2 I;rintro j fr M wq ⟨_,v,rfl,L,rfl,w,gt,T,ax,p,hd⟩;refine Uy ?_;by_cases j0:j=0
 rotate_left
 .obtain⟨i,ai⟩:∃i,j=i+1:=⟨j-1,NH⟩;subst ai;have dj:decide (((i+1:Nat):Int)>0)=tT:=EL NH;have q:=r (i+1) NH;have z:=s M T (i+1) NH;have ws:aaY .i64 (((i+1:Nat):Int)-1)=(i:Int):=by grind[ie]
  have⟨aj,h4,h5,e4,N,O,w5,l4,f5,k5⟩:=w.push wq ((way.getD (i+1) 0:Nat):Int) (by grind[y6,List.length_append,List.length_reverse,List.length_drop]);have⟨l5,a5⟩:=f5 h' T ax;have ed:(jc way).drop i=way.getD (i+1) 0::(jc way).drop (i+1):=by have hi:i<(jc way).length:=NH;have:=K i NH;grind[List.drop_eq_getElem_cons]
  have en:kz (A++((jc way).drop (i+1)).reverse)++[((way.getD (i+1) 0:Nat):Int)]=kz (A++((jc way).drop i).reverse):=by rw[ed,qL208];simp[kz]
  rw[en]at O;refine Sk (bG dj q z e4 N ws) ?_;refine lgA (afC i) ⟨i,aj,rfl,NH,rfl,O,?_,l5,a5,p,fun b hb e=>?_⟩
  .exact GS.kept gt fun b o hb P=>(k5 b o P fun e=>hd b e hb).1
  .obtain⟨o,P⟩:=N8.1 (GS.Sy gt e);grind
 subst j0;have d0:decide (((0:Nat):Int)>0)=fF:=by decide
 rw[agm]at w;refine Sk d0 ?_;refine lIn (fun k fr B=>∃(j:Nat)(m:vV),k=way.length-j/\j<=way.length-2/\fr=mkF [(0,R),(1,f),(2,E),(10,v),(11,m),(13,(j+1:Nat))]/\GI B v (kz (A++(jc way).reverse))/\GI B m (kz (C++(jc way).take j))/\Le h' B/\Z2 h' m/\∀b,blk m=Z b->blk v≠Z b) ⟨0,m,rfl,Z6 _,rfl,w,hGr,T,p,fun b hb e=>hd b e hb⟩ ?_;clear w gt T ax p hd;clear m;rintro k fr B wz ⟨j,m,rfl,L,rfl,w,gt,U,p,hd⟩;have wj:aaY .i64 ((way.length:Int)-1)=((way.length-1:Nat):Int):=w1;simp only[HO,seval,lw,wj];refine Kl.intro (fun ht=>?_) (fun hf=>?_)
 .have d:j+1<way.length-1:=acb ht;clear ht;have q:=r (j+1) (l5b d);have z:=s B U (j+1) (l5b d);have wa:=aaa (j+1) (l5c d H);have⟨al,h4,h5,e4,N,O,w5,l4,f5,k5⟩:=gt.push wz ((way.getD (j+1) 0:Nat):Int) (l5a ag (fun _=>trivial) n d H);have⟨l5,a5⟩:=f5 h' U p;have et:(jc way).take (j+1)=(jc way).take j++[way.getD (j+1) 0]:=by
   have hi:j<(jc way).length:=l5d d J;have:=K j (l5e d);grind[List.take_succ_eq_append_getElem]
  have en:kz (C++(jc way).take j)++[((way.getD (j+1) 0:Nat):Int)]=kz (C++(jc way).take (j+1)):=by rw[et];simp[kz]
  rw[en]at O;refine Sk (IX q z e4 N wa) ?_;refine lgA (l5f d) ⟨j+1,al,rfl,l5e d,rfl,?_,O,l5,a5,fun b hb e=>?_⟩
  .exact GS.kept w fun b o hb P=>(k5 b o P fun e=>hd b e hb).1
  .obtain⟨o,P⟩:=N8.1 (GS.Sy w e);grind
 have Q:way.length-1<=j+1:=vp hf;have ej:j=way.length-2:=l5g L Q h2;rw[ej,HV (Nat.le_of_eq J)]at gt;clear ej Q hf L;have aq:=V.le (Nn.RL Nn.RP) U;have⟨z1,v2,z2,us,e1,e2,O2,ar⟩:=afg.copy wz aq (l5h hF);have r1:RL RP B v (kz (A++(jc way).reverse)):=w.rl;have r2:RL RP B m (kz (C++jc way)):=gt.rl;have⟨z3,ad3,st3,O3,av⟩:=O2.store ar r1 (i:=f) hGr;have⟨z4,v5,z5,e4,N,O5,aJ⟩:=O3.push av r2 hGr;simp only[HO,seval,e1,e2,ad3,st3,e4,N];refine⟨?_,U.trans O5.lr⟩;have ef:(kY F f way).map kz=(F.map kz).set f (kz (A++(jc way).reverse))++[kz (C++jc way)]:=by unfold kY;grind[List.map_set]
 grind[afg.rl]
end
end Go.Fw
