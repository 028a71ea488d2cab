/- A text. -/
import Derived.Test.YtkccdnmaaelbiaaGreatFwKA7
set_option linter.all false
set_option maxRecDepth 99999
set_option maxHeartbeats 9999999
namespace Go.Fw
open Go.Proofs
def adG {α:Type} [BEq α] [LawfulBEq α] {ks:List α} (nd:ks.Nodup):∀L:List α,(ks.map fun k=>L.count k).sum<=L.length
 |[]=>by
  have:∀l:List α,(l.map fun k=>([]:List α).count k).sum=0:=fun l=>by
   induction l with
   |nil=>rfl
   |cons a l b=>rw[vY,PN,b];rfl
  rw[this];exact Og _
 |x::L=>by
  have b:=adG nd L;have one:∀l:List α,l.Nodup->(l.map fun k=>(x::L).count k).sum<=(l.map fun k=>L.count k).sum+1/\(x∉l->(l.map fun k=>(x::L).count k).sum=(l.map fun k=>L.count k).sum):=fun l=>by
   induction l with
   |nil=>intro _;exact⟨mT _,fun _=>rfl⟩
   |cons a l b=>
    intro nd;obtain⟨c,nl⟩:=xD.1 nd;obtain⟨d,h2⟩:=b nl;simp only[vY,PN,aaU];by_cases e:x=a
    .subst e
     have:=h2 c;simp only[aaU]at this;simp only[beq_self_eq_true,if_true];exact⟨NH,fun q=>absurd (VU ..) q⟩
    .have e' : (x == a) = false := by simpa using e
     simp only[aaU]at d h2;rw[e'];simp only[Zw,if_false,rY];exact⟨NH,fun q=>by rw[h2 fun m=>q (kc _ m)]⟩
  have:=(one ks nd).1;rw[U9];omega
def afm (rows:AM) (d:Nat×Nat):ab0 rows d=GW d.1 (abZ rows d).1:=rfl
def acH {a b c d:Nat}:GW a b=GW c d↔(a=c/\b=d)\/(a=d/\b=c):=by rw[bj,bj,AE];omega
def Thr (W:Pr->Nat) (cs A B:II):Prop:=(A++B).Perm cs/\A.length=3/\B.length=3/\∀a∈A,∀b∈B,W (GW a b)=2
theorem Thr.swap {W:Pr->Nat} {cs A B:II} (T:Thr W cs A B):Thr W cs B A:=
 ⟨Gg.trans T.1,T.2.2.1,T.2.1,fun b hb a ha=>by rw[so];exact T.2.2.2 a ha b hb⟩
theorem Thr.zero {L:List Pr} {cs A B:II} (nd:cs.Nodup) (T:Thr (fun p=>L.count p) cs A B) (D:L.length<=18) {p:Pr} (n:∀a∈A,∀b∈B,p≠GW a b):L.count p=0:=by
 obtain⟨o,h2,h3,r⟩:=T;have d:=(o.nodup_iff).2 nd;rw[qy]at d;obtain⟨nA,nB,s⟩:=d;have g:(A.flatMap fun a=>B.map fun b=>GW a b).Nodup:=by
  rw[IE,aa4];refine⟨fun a ha=>?_,?_⟩
  .rw [j3]
   exact(IE.1 nB).imp fun h e=>h (aeu e)
  .refine (IE.1 nA).imp_of_mem fun {a a'} ha mi ne x t y u e => ?_
   obtain⟨b,hb,rfl⟩:=yM.1 t;obtain⟨v,sZ,rfl⟩:=yM.1 u;rcases acH.1 e with⟨q,-⟩|⟨q,-⟩
   .exact ne q
   .exact s a ha v sZ q
 have w:(p::A.flatMap fun a=>B.map fun b=>GW a b).Nodup:=xD.2 ⟨fun i=>by
  obtain⟨a,ha,i⟩:=Cg.1 i;obtain⟨b,hb,e⟩:=yM.1 i;exact n a ha b hb e.symm,g⟩
 have:=adG w L;rw[vY,PN]at this;have E:((A.flatMap fun a=>B.map fun b=>GW a b).map fun k=>L.count k).sum=18:=by
  have z:∀a∈A,((B.map fun b=>GW a b).map fun k=>L.count k).sum=6:=fun a ha=>by
   rw[FD];have:∀l:II,(∀b∈l,b∈B)->(l.map ((fun k=>L.count k)∘fun b=>GW a b)).sum=2*l.length:=by
    intro l
    induction l with
    |nil=>intro _;rfl
    |cons b l j=>
     intro f;have h2:L.count (GW a b)=2:=r a ha b (f b Ma);rw[vY,PN,j fun c m=>f c (by simp[m])];simp only[Function.comp,h2,U9];omega
   rw[this B fun b hb=>hb,h3]
  have C:∀l:II,(∀a∈l,a∈A)->((l.flatMap fun a=>B.map fun b=>GW a b).map fun k=>L.count k).sum=6*l.length:=by
   intro l
   induction l with
   |nil=>intro _;rfl
   |cons a l j=>
    intro f;rw[IK,AQ,afy,z a (f a Ma),j fun c m=>f c (by simp[m]),U9];omega
  rw[C A fun a ha=>ha,h2]
 omega
def ac8 {L:List Pr} {cs:II} (nd:cs.Nodup) (v:cs.length=6) (ha:cs.Pairwise (·<·)) (w:L.length<=18):abV (fun p=>L.count p) cs=true↔∃A B,Thr (fun p=>L.count p) cs A B:=by
 have hf:cs.headD 0∈cs:=by
  cases cs with
  |nil=>cases v
  |cons a l=>simp
 have hle:∀c∈cs,cs.headD 0<=c:=fun c g=>by
  cases cs with
  |nil=>cases g
  |cons a l=>
   rcases aaW.1 g with rfl|q
   .exact qL0 _
   .exact Nat.le_of_lt ((y5.1 ha).1 c q)
 have x:abV (fun p=>L.count p) cs=((cs.filter fun(c:Nat)=>L.count (((cs.headD 0:Nat):Int),(c:Int))==0).length==3&&!(cs.filter fun(c:Nat)=>L.count (((cs.headD 0:Nat):Int),(c:Int))!=0).contains (cs.headD 0)&&ab8 (fun p=>L.count p) (cs.filter fun(c:Nat)=>L.count (((cs.headD 0:Nat):Int),(c:Int))==0) (cs.filter fun(c:Nat)=>L.count (((cs.headD 0:Nat):Int),(c:Int))!=0)):=rfl;rw[x];generalize cs.headD 0=f at*;have pf:∀c∈cs,(((f:Nat):Int),((c:Nat):Int))=GW f c:=fun c g=>by
  have:=hle c g;rw[bj,acA this,adZ this]
 have y:cs.filter (fun(c:Nat)=>L.count ((f:Int),(c:Int))==0)=cs.filter fun c=>decide (L.count (GW f c)=0):=fj fun c g=>by rw[pf c g];rfl
 have z:cs.filter (fun(c:Nat)=>L.count ((f:Int),(c:Int))!=0)=cs.filter fun c=>!decide (L.count (GW f c)=0):=fj fun c g=>by rw[pf c g];rfl
 rw[y,z];have d:(cs.filter (fun c=>decide (L.count (GW f c)=0))++cs.filter fun c=>!decide (L.count (GW f c)=0)).Perm cs:=qL202 _ _;constructor
 .intro h
  rw[Yi,Yi]at h;obtain⟨⟨C,h2⟩,h3⟩:=h;have l3:(cs.filter fun c=>decide (L.count (GW f c)=0)).length=3:=by simpa using C
  have ls:=d.length_eq;rw[Eh]at ls;refine⟨_,_,d,l3,NH,fun a k b m=>?_⟩;have:=uV.1 (uV.1 h3 a k) b m;rw[V9]at this;rcases this with q|q
  .have e : a = b := by simpa using q
   subst e;have n:=(eR.1 k).2;have j:=(eR.1 m).2;rw[n]at j;cases j
  .exact of_decide_eq_true q
 .rintro ⟨A, B, T⟩
  have go:∀A B,Thr (fun p=>L.count p) cs A B->f∈A->((cs.filter fun c=>decide (L.count (GW f c)=0)).length==3&&!(cs.filter fun c=>!decide (L.count (GW f c)=0)).contains f&&ab8 (fun p=>L.count p) (cs.filter fun c=>decide (L.count (GW f c)=0)) (cs.filter fun c=>!decide (L.count (GW f c)=0)))=true:=fun A B T i=>by
   have o:=(T.1.nodup_iff).2 nd;rw[qy]at o;obtain⟨nA,nB,s⟩:=o;have mem:∀c,c∈cs↔c∈A\/c∈B:=fun c=>by rw[<-T.1.mem_iff,WA]
   have t:∀c∈A,L.count (GW f c)=0:=fun c g=>T.zero nd w fun a ha b hb e=>by
    rcases acH.1 e with⟨-,q⟩|⟨q,-⟩
    .exact s c g b hb q
    .exact s f i b hb q
   have r:∀c∈B,L.count (GW f c)≠0:=fun c g e=>by
    have:L.count (GW f c)=2:=T.2.2.2 f i c g;omega
   have u:(cs.filter fun c=>decide (L.count (GW f c)=0)).Perm A:=acX (nd.filter _) nA fun c=>by
    rw[eR,mem,decide_eq_true_eq];exact⟨fun⟨n,j⟩=>n.resolve_right fun q=>r c q j,fun q=>⟨.inl q,t c q⟩⟩
   have pB:(cs.filter fun c=>!decide (L.count (GW f c)=0)).Perm B:=acX (nd.filter _) nB fun c=>by
    rw[eR,mem,Bool.not_eq_true',decide_eq_false_iff_not];exact⟨fun⟨n,j⟩=>n.resolve_left fun q=>j (t c q),fun q=>⟨.inr q,r c q⟩⟩
   rw[Yi,Yi];refine⟨⟨by rw[u.length_eq,T.2.1];rfl,?_⟩,?_⟩
   .rw [Bool.not_eq_true', Bool.eq_false_iff]
    intro h;have:=pB.mem_iff.1 (GK.1 h);exact s f i f this rfl
   .refine uV.2 fun a ha => uV.2 fun b hb => ?_
    rw[V9];right;have:L.count (GW a b)=2:=T.2.2.2 a (u.mem_iff.1 ha) b (pB.mem_iff.1 hb);exact decide_eq_true this
  rcases(T.1.mem_iff.2 hf |> WA.1)with q|q
  .exact go A B T q
  .exact go B A T.swap q
section
variable {es fs : List Pr} {π : Nat → Nat} (I : abC 200 es fs π) (hA : D3 es) (hB : D3 fs)
include I hA hB
omit hA hB in
theorem aeo {cs:II} (b:∀c∈cs,c<200/\((Zh 200 es).getD c []).length≠2) {d:Nat×Nat} (hd:d∈abI (Zh 200 es) cs):Jp es d.1 d.2/\((Zh 200 es).getD d.1 []).length≠2/\d.1∈cs:=by
 rw[acN,Cg]at hd;obtain⟨c,a,hd⟩:=hd;obtain⟨w,hw,rfl⟩:=yM.1 hd;exact⟨(ack I.r1).1 hw,(b c a).2,a⟩
omit hB in
theorem oth_lt {d:Nat×Nat} (h:Jp es d.1 d.2) (a:((Zh 200 es).getD d.1 []).length≠2):(abZ (Zh 200 es) d).1<200:=by
 obtain⟨K,e,h2,h3,b⟩:=adM I.r1 hA (qL0 _) (c:=d.1) (v:=d.2) h a;have:=acJ I.r1 hA (d:=(d.1,d.2)) h K h2;rw[show d=(d.1,d.2)from rfl,b];exact(this.lt I.r1).2
def af4 {cs a:II} (b:∀c∈cs,c<200/\((Zh 200 es).getD c []).length≠2) (e:a.Perm (cs.map π)):acK (Zh 200 fs) a=acK (Zh 200 es) cs:=by
 have h:=((aen I hA hB (fun c h=>(b c h).1) e).map fun d=>(abZ (Zh 200 fs) d).2+1).sum_nat;unfold acK;rw[h,FD];refine congrArg List.sum (KG fun d hd=>?_);obtain⟨f,h2,-⟩:=aeo I b hd;have:=ae5 I hA hB (qL0 _) (c:=d.1) (v:=d.2) f h2;simp only[Function.comp,this]
def aep {cs f:II} (g:∀c∈cs,c<200/\((Zh 200 es).getD c []).length≠2) (j:f.Perm (cs.map π)) {a b:Nat} (ha:a<200) (hb:b<200):ab7 (Zh 200 fs) f (GW (π a) (π b))=ab7 (Zh 200 es) cs (GW a b):=by
 have h:=((aen I hA hB (fun c h=>(g c h).1) j).map (ab0 (Zh 200 fs))).count_eq (GW (π a) (π b));unfold ab7;rw[h,FD,List.count,List.countP_map,List.count,List.countP_map];refine List.countP_congr fun d hd=>?_;obtain⟨i,h2,h3⟩:=aeo I g hd;have e:=ae5 I hA hB (qL0 _) (c:=d.1) (v:=d.2) i h2;have l1:=(g d.1 h3).1;have l2:=oth_lt I hA i h2;have inj:∀{x y},x<200->y<200->(π x=π y↔x=y):=fun k l=>⟨I.inj _ _ k l,fun q=>by rw[q]⟩;simp only[Function.comp,afm,e,beq_iff_eq];rw[acH,acH,inj l1 ha,inj l2 hb,inj l1 hb,inj l2 ha]
def af5 {cs d:II} (e:∀c∈cs,c<200/\((Zh 200 es).getD c []).length≠2) (f:d.Perm (cs.map π)):ab8 (ab7 (Zh 200 fs) d) d d=ab8 (ab7 (Zh 200 es) cs) cs cs:=by
 rw[IC];unfold ab8;simp only[uV,V9,beq_iff_eq];have W:=fun{a b}=>aep I hA hB e f (a:=a) (b:=b);constructor
 .intro h a ha b hb
  have:=h (π a) (f.mem_iff.2 (yM.2 ⟨a,ha,rfl⟩)) (π b) (f.mem_iff.2 (yM.2 ⟨b,hb,rfl⟩));have w:=W (e a ha).1 (e b hb).1;rcases this with q|q
  .exact .inl (I.inj _ _ (e a ha).1 (e b hb).1 q)
  .right
   have g:ab7 (Zh 200 fs) d (GW (π a) (π b))=2:=q;rw[w]at g;exact g
 .intro h a' mi i sZ
  obtain⟨a,ha,rfl⟩:=yM.1 (f.mem_iff.1 mi);obtain⟨b,hb,rfl⟩:=yM.1 (f.mem_iff.1 sZ);have w:=W (e a ha).1 (e b hb).1;rcases h a ha b hb with q|q
  .exact .inl (by rw[q])
  .right
   have g:ab7 (Zh 200 es) cs (GW a b)=2:=q;rw[<-w]at g;exact g
end
def aeq (rows:AM):(abB rows).Pairwise (·<·):=zx.filter _
def ae6 {es:List Pr} {c:Nat} (h:c∈abB (Zh 200 es)):c<200/\((Zh 200 es).getD c []).length≠2:=by
 rw[abB,eR,ZT,Xq]at h;refine⟨h.1,fun e=>?_⟩;have:=h.2;rw[abO,e]at this;cases this
def abC.flip {n:Nat} {es fs:List Pr} {π:Nat->Nat} (I:abC n es fs π):∃σ,abC n fs es σ:=by
 obtain⟨σ,h,-⟩:=I.inv;exact⟨σ,h⟩
def ae7 {es fs:List Pr} {π:Nat->Nat} (I:abC 200 es fs π) (hA:D3 es) (hB:D3 fs) {cs d:II} (e:∀c∈cs,c<200/\((Zh 200 es).getD c []).length≠2) (g:d.Perm (cs.map π)) {A B:II} (T:Thr (ab7 (Zh 200 es) cs) cs A B):Thr (ab7 (Zh 200 fs) d) d (A.map π) (B.map π):=by
 obtain⟨f,h2,h3,h⟩:=T;refine⟨?_,by rw[jz];exact h2,by rw[jz];exact h3,fun a' mi i sZ=>?_⟩
 .rw[<-AQ];exact(f.map π).trans g.symm
 .obtain ⟨a, ha, rfl⟩ := yM.1 mi
  obtain⟨b,hb,rfl⟩:=yM.1 sZ;rw[aep I hA hB e g (e a (f.mem_iff.1 (WA.2 (.inl ha)))).1 (e b (f.mem_iff.1 (WA.2 (.inr hb)))).1];exact h a ha b hb
def af6 {es fs:List Pr} {π:Nat->Nat} (I:abC 200 es fs π) (hA:D3 es) (hB:D3 fs) (v:fs.length=es.length):acC fs=acC es:=by
 have d:=aem I hA hB;have j:(Zh 200 fs).any acs=(Zh 200 es).any acs:=by
  have half:∀{es fs:List Pr} {π:Nat->Nat},abC 200 es fs π->D3 es->D3 fs->(Zh 200 es).any acs=true->(Zh 200 fs).any acs=true:=fun{es fs π} I hA hB h=>by
   obtain⟨r,w,hb⟩:=xP.1 h;obtain⟨i,hi,rfl⟩:=acY.1 w;have k:i<200:=by rw[Xq]at hi;exact hi
   have t:π i<(Zh 200 fs).length:=by rw[Xq];exact I.lt i k
   have e:=ab3 I hA hB k;rw[D4 t,D4 hi]at e;refine xP.2 ⟨_,Gw t,?_⟩;unfold acs at hb ⊢;rw[e];exact hb
  obtain⟨σ,J⟩:=I.flip;rw[IC];exact⟨half J hB hA,half I hA hB⟩
 have hlen:(abB (Zh 200 fs)).length=(abB (Zh 200 es)).length:=by rw[d.length_eq,jz]
 have g:∀c∈abB (Zh 200 es),_:=fun c h=>ae6 h;have u:∀E,(E=4\/E=3/\(abB (Zh 200 es)).length=6)->acF (Zh 200 fs) (abB (Zh 200 fs)) fs.length E=acF (Zh 200 es) (abB (Zh 200 es)) es.length E:=fun E x=>by
  have l:(abB (Zh 200 fs)).any (fun c=>((Zh 200 fs).getD c []).length !=E)=(abB (Zh 200 es)).any fun c=>((Zh 200 es).getD c []).length !=E:=by
   rw[IC,xP,xP];constructor
   .rintro ⟨c', p, q⟩
    obtain⟨c,a,rfl⟩:=yM.1 (d.mem_iff.1 p);exact⟨c,a,by rw[<-ab3 I hA hB (g c a).1];exact q⟩
   .rintro ⟨c, a, q⟩
    exact⟨π c,d.mem_iff.2 (yM.2 ⟨c,a,rfl⟩),by rw[ab3 I hA hB (g c a).1];exact q⟩
  unfold acF;rw[l,af4 I hA hB g d,v,af5 I hA hB g d];by_cases ca:(abB (Zh 200 es)).any (fun c=>((Zh 200 es).getD c []).length !=E)=true
  .rw[if_pos ca,if_pos ca]
  rw[if_neg ca,if_neg ca];rcases x with rfl|⟨rfl,n⟩
  .rfl
  have b:∀c∈abB (Zh 200 es),((Zh 200 es).getD c []).length=3:=fun c h=>by
   refine j9 fun q=>ca (xP.2 ⟨c,h,by simpa using q⟩)
  have f:∀c∈abB (Zh 200 fs),((Zh 200 fs).getD c []).length=3:=fun c' h=>by
   obtain⟨c,a,rfl⟩:=yM.1 (d.mem_iff.1 h);rw[ab3 I hA hB (g c a).1];exact b c a
  have y:=ac8 (L:=(abI (Zh 200 es) (abB (Zh 200 es))).map (ab0 (Zh 200 es))) (cs:=abB (Zh 200 es)) (Hs.filter _) n (aeq _) (by rw[jz,acG b,n];decide);have z:=ac8 (L:=(abI (Zh 200 fs) (abB (Zh 200 fs))).map (ab0 (Zh 200 fs))) (cs:=abB (Zh 200 fs)) (Hs.filter _) (hlen.trans n) (aeq _) (by rw[jz,acG f,hlen,n];decide);have s:abV (ab7 (Zh 200 fs) (abB (Zh 200 fs))) (abB (Zh 200 fs))=abV (ab7 (Zh 200 es) (abB (Zh 200 es))) (abB (Zh 200 es)):=by
   rw[IC];refine z.trans (Iff.trans ?_ y.symm);constructor
   .rintro ⟨A, B, T⟩
    obtain⟨σ,J⟩:=I.flip;exact⟨_,_,ae7 J hB hA (fun c h=>ae6 h) (aem J hB hA) T⟩
   .rintro ⟨A, B, T⟩
    exact⟨_,_,ae7 I hA hB g d T⟩
  rw[s]
 rw[ac3,ac3,j,hlen];by_cases o:(abB (Zh 200 es)).length=5
 .rw[if_pos o,if_pos o,u 4 (.inl rfl)]
 rw[if_neg o,if_neg o];by_cases m:(abB (Zh 200 es)).length=6
 .rw[if_pos m,if_pos m,u 3 (.inr ⟨rfl,m⟩)]
 .rw[if_neg m,if_neg m]
end Go.Fw
namespace Go.Fw
section
attribute [local irreducible] Kp MQ lU rS KO KN KX KE VK Kl ZJ TC aat
attribute [local irreducible] Jz JL vq cQ acr abD acC
open Go.Proofs
variable {es fs:List Pr} {m n:Nat} {p:Pr} {π:Nat->Nat}
def someM:List Pr->List Bool->List Pr
 |p::es,b::bs=>if b then p::someM es bs else someM es bs
 |_,_=>[]
def acO:∀(es:List Pr) (bs:List Bool),(someM es bs).Sublist es
 |[],_=>by simp[someM]
 |p::es,[]=>by simp[someM]
 |p::es,b::bs=>by
  have:=acO es bs;unfold someM;cases b
  .exact this.cons p
  .exact this.cons_cons p
def ac9:∀(es:List Pr) (bs:List Bool) (i:Nat) (hi:i<es.length),someM (es.take (i+1)) bs=someM (es.take i) bs++if bs.getD i false=true then[es[i]]else[]
 |[],_,_,hi=>by simp at hi
 |p::es,[],i,hi=>by
  have a:∀l:List Pr,someM l []=[]:=fun l=>by cases l<;>rfl
  rw[a,a,if_neg Ma];rfl
 |p::es,b::bs,0,hi=>by
  cases b<;>simp[someM]
 |p::es,b::bs,i+1,hi=>by
  have c:=ac9 es bs i (by simpa using hi);simp only[fE,someM];rw[Yl,qL213];cases b
  .simpa using c
  .simp only [if_true, Jf]
   rw[c]
def aeL (L:LA) (v bv:Value) (G:GM) (bs:List Bool) (h:AHeap) (hg:GR h v G) (hb:RL sJ h bv bs) (M:G.es.length<=1000):
  AC Tryz.prog L 45 [v,bv] h fun x h'=>GP h' x (someM G.es bs)/\Le h h'/\Z2 h x:=by
 have N:=hg;obtain⟨O,es⟩:=G
 obtain⟨ev,rfl,m⟩:=hg.open
 simp only at M;refine AC.vE ⟨Tryz.func45,rfl,WY⟩ Tryz.ntmps45 Tryz.results45 fun q=>?_;simp only[Br,Nat.reduceAdd];obtain⟨H,Q,r,R,-,S⟩:=r8 (n:=O) q m
 generalize h.next=B at*
 have s:=S H (Le.refl _);have T:=fun g=>m.len g;have lB:=fun g=>hb.len (P:=Tryz.prog) eY g;refine Sk (bG Q @Di @Ip.eq_1 @BS s.2.2 T) ?_;refine aat.intro (fun k fr t=>∃(i:Nat) (j:Value),k=es.length-i/\i<=es.length/\fr=mkF [(1,bv),(5,j),(9,ev),(10,.int .i64 es.length),(11,.int .i64 i)]/\GP t j (someM (es.take i) bs)/\Le h t/\Z2 h j)
  es.length [(1,bv),(5,.slice none 0 0),(9,ev),(10,.int .i64 es.length),(11,.int .i64 (0:Nat))] fD
  ⟨0,_,rfl,Og _,rfl,by simpa[someM]using GP.nil H,r,fun b hb=>by simp[blk]at hb⟩ ?_
 rintro k fr t u ⟨i,j,rfl,hi,rfl,g,w,ap⟩;refine Uy ?_;refine Kl.intro (fun I=>?_) (fun hf=>?_)
 rotate_left
 .have y : es.length <= i := vp hf
  rw[HV y]at g;refine Uy ?_;exact⟨g,w,ap⟩
 have a:i<es.length:=CC I;clear I;have z:=CA a;have d:=ac9 es bs i a;have A:(someM (es.take i) bs).length+1<=100000:=by
  have:=(acO (es.take i) bs).length_le;rw[BR]at this;omega
 generalize es[i]=p at*;have ad:=m.addr (k:=.i64) i a;have ld:=(m.le w).load z;obtain⟨U,V,C,D,l6,W,o6⟩:=Ut u p;have aw:=Tw i NH;have f:=w.trans l6;have l:=g.le l6;have E:=uM o6;by_cases c:i<bs.length
 rotate_left
 .have o : ((i : Int) < (bs.length : Int)) = False := eq_false NH
  have dc:decide ((i:Int)<(bs.length:Int))=false:=decide_eq_false NH;have e:bs.getD i false=false:=by rw[vg,xH NH];rfl
  rw[e,if_neg Ma,P2]at d;rw[<-d]at l;simp only[HO,Nat.reduceLT,↓reduceIte,Nat.reduceEqDiff,reduceCtorEq,ad,ld,C,D,lB,o,dc,aw];exact tn (es.length-(i+1)) [(1,bv),(5,j),(9,ev),(10,.int .i64 es.length),(11,.int .i64 (i+1:Nat))] (JS a) fD ⟨i+1,j,rfl,a,rfl,l,f,ap⟩
 have o:((i:Int)<(bs.length:Int))=True:=eq_true NH;have dc:decide ((i:Int)<(bs.length:Int))=true:=decide_eq_true NH;have J:aIndexAddr Tryz.prog 59 bv (.int .i64 (i:Int))=some (.pointer (some (elemAddr bv i))):=hb.LB i c;have ol:aload Tryz.prog V 4 (elemAddr bv i)=some (.bool (bs.getD i false)):=by rw[(hb.le Nn.sJ f).W7 i c,D4 c]
 cases e:bs.getD i false with
 |false=>
  rw[e]at ol;rw[e,if_neg Ma,P2]at d;rw[<-d]at l;simp only[HO,Nat.reduceLT,↓reduceIte,Nat.reduceEqDiff,reduceCtorEq,ad,ld,C,D,lB,o,dc,J,ol,aw];exact tn (es.length-(i+1)) [(1,bv),(5,j),(9,ev),(10,.int .i64 es.length),(11,.int .i64 (i+1:Nat))] (JS a) fD ⟨i+1,j,rfl,a,rfl,l,f,ap⟩
 |true=>
  rw[e]at ol;rw[e,if_pos rfl]at d;obtain⟨v',h7,h8,X,Y,K,w8,l7,F,-⟩:=l.push W p A;obtain⟨Z,a8⟩:=F h f ap;rw[<-d]at K;simp only[HO,Nat.reduceLT,↓reduceIte,Nat.reduceEqDiff,reduceCtorEq,ad,ld,C,D,lB,o,dc,J,ol,E,X,Y,aw];exact tn (es.length-(i+1)) [(1,bv),(5,v'),(9,ev),(10,.int .i64 es.length),(11,.int .i64 (i+1:Nat))] (JS a) fD ⟨i+1,v',rfl,a,rfl,K,Z,a8⟩
theorem abC.blk (I:abC n es fs π) (d:p∈es):abC n (abW n es (cQ n es p)) (abW n fs (cQ n fs (ab6 π p))) π:=by
 refine⟨acW I.r1 _,acW I.r2 _,I.lt,I.inj,I.aeB,fun a b ha hb=>?_⟩;rw[aca I.r1,aca I.r2,I.Jp a b ha hb];constructor
 .rintro ⟨c, h2⟩
  refine⟨c,?_⟩;rw[<-abR]at h2;exact(I.key (H4 I.r1 c) d).1 h2
 .rintro ⟨c, h2⟩
  refine⟨c,?_⟩;rw[<-abR];exact(I.key (H4 I.r1 c) d).2 h2
def af7 (ha:D3 es):es.Nodup:=by
 rw[IE];exact(Nl.1 ha).imp fun{p q} h e=>by subst e;omega
def abC.abE {n:Nat} {es d:List Pr} {π:Nat->Nat} (I:abC n es d π) (g:bX ⟨(n:Int),es⟩) (a:bX ⟨(n:Int),d⟩) (h:Go.Fw.abE n es):Go.Fw.abE n d:=by
 refine(adQ a).2 fun b hb=>?_;have O:=ab1 a hb;refine(acz O).2 (O.flat.2 ?_);obtain⟨q,i,rfl⟩:=abT.1 hb;obtain⟨p,f,rfl⟩:=I.sur_E i;have hB:abW n es (cQ n es p)∈vq n es:=abT.2 ⟨p,f,rfl⟩;have len:=I.afc (af7 g.q9) (af7 a.q9) f;rcases((ab1 g hB).flat).1 (h.2 _ hB)with c|c
 .left
  have e:(abW n d (cQ n d (ab6 π p))).length=(abW n es (cQ n es p)).length:=len;rw[e];exact c
 .exact .inr ((I.blk f).planar.2 c)
def abC.afn (I:abC n es fs π) (b:bX ⟨(n:Int),es⟩) (a:bX ⟨(n:Int),fs⟩):Go.Fw.abE n fs↔Go.Fw.abE n es:=by
 obtain⟨σ,J⟩:=I.flip;exact⟨J.abE a b,I.abE b a⟩
def abC.upto (I:abC n es fs π) (h:n<=m):abC m es fs fun u=>if u<n then π u else u:=by
 have more:∀{es},aV n es->aV m es:=fun d p f=>by obtain⟨g,h2,h3⟩:=d p f;exact⟨g,h2,NH⟩
 refine⟨more I.r1,more I.r2,fun a ha=>?_,fun a b ha hb e=>?_,fun x i=>?_,fun a b ha hb=>?_⟩
 .try simp only
  split
  .rename_i c;have:=I.lt a c;omega
  .exact ha
 .try simp only at e
  split at e<;>split at e<;>rename_i c1 c2
  .exact I.inj a b c1 c2 e
  .have:=I.lt a c1;omega
  .have:=I.lt b c2;omega
  .exact e
 .by_cases c : x < n
  .obtain ⟨a, ha, rfl⟩ := I.aeB x c
   exact⟨a,NH,if_pos ha⟩
  .exact⟨x,i,if_neg c⟩
 .try simp only
  by_cases c1:a<n
  .by_cases c2 : b < n
   .rw[if_pos c1,if_pos c2];exact I.Jp a b c1 c2
   .rw [if_pos c1, if_neg c2]
    exact⟨fun q=>absurd (q.lt I.r2).2 c2,fun q=>absurd (q.lt I.r1).2 c2⟩
  .rw [if_neg c1]
   exact⟨fun q=>absurd (q.lt I.r2).1 c1,fun q=>absurd (q.lt I.r1).1 c1⟩
def adH (a:bX ⟨(n:Int),es⟩):bX ⟨((200:Nat):Int),es⟩:=
 bX.of (qL0 _) a.len (fun p b=>by
  obtain⟨c,h2,h3⟩:=a.GD p b;have:(n:Int)<=200:=a.n1;exact⟨c,h2,NH⟩) a.q9
def afo (I:abC n es fs π) (b:bX ⟨(n:Int),es⟩) (a:bX ⟨(n:Int),fs⟩) (c:fs.length=es.length):abU fs=abU es:=by
 have d:n<=200:=by have:(n:Int)<=200:=b.n1;omega
 have e:abU es=acC es:=if_pos (adH b);have f:abU fs=acC fs:=if_pos (adH a);rw[e,f];exact af6 (I.upto d) b.q9 a.q9 c
theorem aeM (W0:LA) (v pv bv:Value) (G:GM) (ps:List Int) (bs:List Bool) (h:AHeap) (hg:GR h v G) (hp:RL RP h pv ps) (hb:RL sJ h bv bs):
  AC Tryz.prog W0 16 [v,pv,bv] h fun x h'=>x=.bool true∧True:=by
 have hg0:=hg;obtain⟨gn,es⟩:=G
 obtain⟨ev,rfl,hpe⟩:=hg.open
 refine AC.vE ⟨Tryz.func16,rfl,WY⟩ Tryz.ntmps16 Tryz.results16 fun hwf=>?_;simp only[Br,Nat.reduceAdd];obtain⟨h1,b1,le1,wf1,-,lA⟩:=r8 (n:=gn) hwf hpe
 generalize h.next=B at*
 have lA1:=lA h1 (Le.refl _);simp only[HO,Nat.reduceLT,↓reduceIte,Nat.reduceEqDiff,reduceCtorEq,b1,lA1.1];refine TC.intro PJ ⟨Tryz.func49,rfl,WY⟩ (adn W0 _ pv _ ps h1 (hg0.le le1) (hp.le Nn.RP le1)) ?_;rintro x h2 w2 ⟨l2,⟨hno,k,hk0,rfl⟩|⟨A,fv,rfl,gf,af⟩⟩
 ·obtain ⟨h3', h3, e3, e3s, l3, w3⟩ := newE w2
  have d:decide (k=0)=false:=decide_eq_false hk0;simp only[HO,Nat.reduceLT,↓reduceIte,Nat.reduceEqDiff,reduceCtorEq,e3,e3s,bne,d];refine TC.intro PJ ⟨Tryz.func34,rfl,WY⟩ (acj W0 h3) ?_;rintro x h4 w4 ⟨rfl,l4⟩;simp only[HO,Nat.reduceLT,↓reduceIte,Nat.reduceEqDiff,reduceCtorEq];exact⟨trivial,trivial⟩
 obtain⟨h3',h3,e3,e3s,l3,w3,lG⟩:=afN w2 (n:=gn) gf.pr;have le3:=l2.trans l3;have fT:=lA h3 le3
 generalize h2.next=Y at*
 have d00:decide ((0:Int)=0)=true:=by decide
 have hr:=A.1;have h0:0≤gn:=hr.n0;obtain⟨n,rfl⟩:=yY h0;simp only at gf;have hr2:=A.right;have I:=A.iso;have l03:=le1.trans le3;simp only[HO,Nat.reduceLT,↓reduceIte,Nat.reduceEqDiff,reduceCtorEq,e3,e3s,bne,d00,fT.1];refine TC.intro PJ ⟨Tryz.func42,rfl,WY⟩ (aej W0 _ ⟨(n:Int),es⟩ h3 (hg0.le l03)) ?_;rintro x h4 w4 ⟨⟨bb,rfl,hbb⟩,l4⟩;have l04:=l03.trans l4;cases bb with
 |false=>
  simp only[HO,Nat.reduceLT,↓reduceIte,Nat.reduceEqDiff,reduceCtorEq];refine TC.intro PJ ⟨Tryz.func34,rfl,WY⟩ (acj W0 h4) ?_;rintro x h5 w5 ⟨rfl,l5⟩;simp only[HO,Nat.reduceLT,↓reduceIte,Nat.reduceEqDiff,reduceCtorEq];exact⟨trivial,trivial⟩
 |true=>
 obtain⟨-,hn16,he40⟩:=hbb.1 rfl;clear hbb;simp only at hn16 he40;have la4:=le3.trans l4;have lA4:=lA h4 la4;simp only[HO,Nat.reduceLT,↓reduceIte,Nat.reduceEqDiff,reduceCtorEq,lA4.1];refine TC.intro PJ ⟨Tryz.func45,rfl,WY⟩ (aeL W0 _ bv ⟨(n:Int),es⟩ bs h4 (hg0.le l04) (hb.le Nn.sJ l04) (by simp only;omega)) ?_;rintro sv h5 w5 ⟨gs,l5,-⟩;simp only at gs;have hsub:=acO es bs;generalize someM es bs=ls at*;have hrl:=hr.sub hsub;have Al:acu ⟨(n:Int),ls⟩ ps:=⟨hrl,A.2.1,A.2.2⟩;have la5:=la4.trans l5;have l05:=le1.trans la5;have bld:=Wj (n:=(n:Int)) gs.pr.sl;simp only[HO,Nat.reduceLT,↓reduceIte,Nat.reduceEqDiff,reduceCtorEq,Ii,Ip,BS,(lA h5 la5).2.1,bld];refine TC.intro PJ ⟨Tryz.func49,rfl,WY⟩ (adn W0 _ pv ⟨(n:Int),ls⟩ ps h5 ⟨sv,rfl,gs.pr⟩ (hp.le Nn.RP l05)) ?_;rintro x h6 w6 ⟨l6,⟨hno,-⟩|⟨-,mv,rfl,gm,-⟩⟩
 ·exact absurd Al hno
 simp only at gm;have Il:=Al.iso;have hrm:=Al.right;have hml:(acr ps ls).length=ls.length:=by unfold acr;simp[sortP]
 have hm2:(acr ps es).length=es.length:=by unfold acr;simp[sortP]
 obtain⟨h7',h7,e7,e7s,l7,w7,lM⟩:=afN w6 (n:=(n:Int)) gm.pr
 generalize h6.next=Z at*
 have la7:=(la5.trans l6).trans l7;have l37:=((l4.trans l5).trans l6).trans l7;have lA7:=lA h7 la7;have gf7:=(gf.le l3).le l37;have hPi:=I.afn hr hr2;have hKi:=afo Il hrl hrm hml;have db:∀b:Bool,decide (b=b)=true:=fun b=>decide_eq_true rfl;have di:decide (abU ls=abU ls)=true:=decide_eq_true rfl;have pS7:=((gs.le l6).le l7).pr;have pM7:=(gm.le l7).pr;simp only[HO,Nat.reduceLT,↓reduceIte,Nat.reduceEqDiff,reduceCtorEq,e7,e7s];refine gh (tA [0,1,2,3,5] (JQ 4 [2,3] (JQ 6 [2,4,5] (tA [7,8,9,10,12,13] (JQ 11 [9,10] (JQ 14 [9,11,13] (tA [15,16,17] (JQ 18 [17] (tA [19,20] .done))))))))) ?_;simp only[HO,Nat.reduceLT,↓reduceIte,Nat.reduceEqDiff,reduceCtorEq,Nat.reduceBEq,Qg,d00,lA7.1,(lG h7 l37).1];refine VA.intro PJ ⟨zL,rfl,WY⟩ (abJ W0 _ ⟨(n:Int),es⟩ h7 (hg0.le (le1.trans la7))) ?_;rintro x h8 w8 ⟨⟨bb,rfl,hbb⟩,l8⟩;simp only[Sb]at hbb;simp only[HO,Nat.reduceLT,↓reduceIte,Nat.reduceEqDiff,reduceCtorEq,Nat.reduceBEq,Qg,d00,lA7.1,(lG h7 l37).1,(lG h8 (l37.trans l8)).1];refine VA.intro PJ ⟨zL,rfl,WY⟩ (abJ W0 _ ⟨(n:Int),acr ps es⟩ h8 ⟨fv,rfl,(gf7.le l8).pr⟩) ?_;rintro x h9 w9 ⟨⟨b2,rfl,hb2⟩,l9⟩;simp only[Sb]at hb2;have e2:b2=bb:=by
  rw[IC,hbb,hb2,hPi];exact⟨fun q=>⟨hr,q.2⟩,fun q=>⟨hr2,q.2⟩⟩
 subst e2;have l79:=l8.trans l9;simp only[HO,Nat.reduceLT,↓reduceIte,Nat.reduceEqDiff,reduceCtorEq,Nat.reduceBEq,Qg,d00,eqBo,beq_self_eq_true,db,Di,Ip,BS,(lM h9 l79).2.2];refine VA.intro PJ ⟨YW,rfl,WY⟩ (abY W0 sv ls h9 (pS7.le l79)) ?_;rintro x h10 w10 ⟨rfl,l10⟩;simp only[HO,Nat.reduceLT,↓reduceIte,Nat.reduceEqDiff,reduceCtorEq,Nat.reduceBEq,Qg,d00,eqBo,beq_self_eq_true,db,Di,Ip,BS,(lM h9 l79).2.2,(lM h10 (l79.trans l10)).2.2];refine VA.intro PJ ⟨YW,rfl,WY⟩ (abY W0 mv (acr ps ls) h10 (pM7.le (l79.trans l10))) ?_;rintro x h11 w11 ⟨rfl,l11⟩;rw[hKi];simp only[HO,Nat.reduceLT,↓reduceIte,Nat.reduceEqDiff,reduceCtorEq,Nat.reduceBEq,Qg,di,d00,eqBo,beq_self_eq_true,db,Di,Ip,BS,(lM h11 ((l79.trans l10).trans l11)).2.2];refine VA.intro PJ ⟨Tryz.func34,rfl,WY⟩ (acj W0 h11) ?_;rintro x h12 w12 ⟨rfl,l12⟩;simp only[HO,Nat.reduceLT,↓reduceIte,Nat.reduceEqDiff,reduceCtorEq,Nat.reduceBEq,Qg,di,d00,eqBo,beq_self_eq_true,db,Di,Ip,BS]
end
section
open Go.Proofs Go.ChangeShapes Go.WideShapes Go.RowKit Go.ChangeAt
open Go.Proofs.YtkccdnmaaelbiaaGreat
def acP (os:Os) (started:os.Started) (H:Type) (enc:TypeId×Value->H):
  ReturnsInHanded {} Tryz.checked os 16 .any (Rows.kuraNamesSpec.pre6 enc Tryz.prog Tryz.f16 Rows.kuraNamesRow.domain false) (Rows.kuraNamesSpec.post enc Tryz.prog Tryz.f16 false true false false):=by
 have own:ownKnob Tryz.prog.godebug=Option.none:=Ji;have laidOut:laidOutB Tryz.prog=true:=Ji;refine returnsInHanded_of_change (C:=Tryz.checked) own started Ji Tryz.func16
  (ChangeSpec.witness6 (enc:=enc) (C:=Tryz.checked) false ⟨#[],#[.agg #[.int .i64 0,.slice Option.none 0 0],.slice Option.none 0 0,.slice Option.none 0 0],[]⟩ 8 Ji Ji Ji Ji) ?_
 intro W base args ds gs before d B D _;have b:∀(j:Nat) t v,Tryz.f16.params[j]?=some t->args[j]?=some v->Value.okWide Tryz.prog W .any base t v:=d;have c:=B;obtain⟨p,q,l,G,rfl,I,J⟩:=B;have hA:DataW.TrodAll enc Tryz.prog W 0 (fun _=>true) true Tryz.f16.params.toList args.toList ds p:=l;rw[Tryz.params16]at hA b;obtain⟨m,T,U,V,K,X,a,rfl,rfl,E,hA⟩:=trodAll_cons hA;obtain⟨n,w1,d1,Y,L,Z,rfl,rfl,rfl,F,hA⟩:=trodAll_cons hA;obtain⟨o,w2,d2,e2,M,q2,rfl,rfl,rfl,h2,hA⟩:=trodAll_cons hA;obtain⟨rfl,rfl,rfl⟩:=trodAll_nil hA;obtain rfl:args=#[m,n,o]:=by cases args;simp_all
 obtain⟨rfl,rfl⟩:=trodVars_none G;obtain⟨N,x0,r,s⟩:=aey (b 0 24 m rfl rfl) E (fun _=>⟨0,0,0⟩);obtain⟨u1,x1,u,w⟩:=aew (b 1 49 n rfl rfl) F (fun _=>⟨0,0,0⟩);obtain⟨O,P,z,A⟩:=aex (b 2 59 o rfl rfl) h2 (fun _=>⟨0,0,0⟩);refine(aeM (LA.of W) N u1 O x0 x1 P (MR W) s w A [] (fun _=>⟨0,0,0⟩) W [m,n,o] (Rel.start W _) ?_).mono ?_
 .exact .cons r (.cons u (.cons z ((.nil _ _))))
 .rintro e Q ⟨x, x', m', h', rfl, R, -, -, S, rfl, -⟩
  obtain rfl:=S.YE;have hb:=R.below;have g:∀y∈K,y.block<W.heap.size:=fun y h=>c.lt y (by simp[h]);have i:∀y∈L,y.block<W.heap.size:=fun y h=>c.lt y (by simp[h]);have k:∀y∈M,y.block<W.heap.size:=fun y h=>c.lt y (by simp[h]);have f:DataW.Trod enc Tryz.prog Q W.heap.size (fun _=>false) false 4 (.bool true) (.lit (.bool true)) []:=⟨1,by simp[DataW.trod,Value.cells,AV]⟩;have a:=
   abt (Below.trod laidOut Ji (of_decide_eq_true Ji) E hb g) (abt (Below.trod laidOut Ji (of_decide_eq_true Ji) F hb i) (abt (Below.trod laidOut Ji (of_decide_eq_true Ji) h2 hb k) (trodAll_mk0)))
  try simp only[P2,gX]at a
  exact⟨_,rfl,_,_,_,[],_,[],c,trodAll_mk1 f,a,rfl,hb.frame _,fun e=>by cases e⟩
def kuraNames_said:Rows.KuraNamesSaid:=
 OpenClaim.holds_of_wide 16 Tryz.f16 rfl rfl rfl rfl rfl rfl rfl ⟨rfl,rfl,rfl,rfl,rfl⟩ rfl rfl rfl rfl rfl Ji Tryz.func16 Ji
  (of_decide_eq_true Ji) (by unfold Func.isWrapper;first|(rw[if_pos iw];kernel_rfl)|(rw[if_neg iw];exact⟨rfl,rfl⟩))
  (fun os started H enc _=>acP os started H enc)
end
end Go.Fw
