/- A text. -/
import Derived.Test.YtkccdnmaaelbiaaGreatFwLM1
set_option linter.all false
set_option maxRecDepth 99999
set_option maxHeartbeats 9999999
namespace Go.Fw
attribute [local instance] Classical.propDecidable
structure H9 (n:Nat) (es fs:List Pr) (π:Nat->Nat):Prop where
 r1:aV n es
 r2:aV n fs
 lt:∀a,a<n->π a<n
 inj:∀a b,a<n->b<n->π a=π b->a=b
 UB:∀x,x<n->∃a,a<n/\π a=x
 Jp:∀a b,a<n->b<n->(Jp fs (π a) (π b)↔Jp es a b)
namespace H9
variable {n : Nat} {es fs : List Pr} {π : Nat → Nat}
theorem inv (I:H9 n es fs π):∃σ,H9 n fs es σ/\(∀a,a<n->σ (π a)=a)/\∀x,x<n->π (σ x)=x:=by
 let σ:Nat->Nat:=fun x=>if h:∃a,a<n/\π a=x then Classical.choose h else 0
 have hs:∀x,x<n->σ x<n/\π (σ x)=x:=by grind [H9.UB]
 have b:∀a,a<n->σ (π a)=a:=by grind [H9.inj,H9.lt]
 exact⟨σ,⟨I.r2,I.r1,pw,pw,fun x c=>⟨π x,I.lt x c,b x c⟩,
  (by grind [H9.Jp])⟩,b,pw⟩
end H9
theorem abL {n:Nat} {es:List Pr} (d:aV n es) {p:Pr} (e:p∈es):∃a b:Nat,a<n/\b<n/\Jp es a b/\p=GW a b:=by
 obtain⟨a,c,rfl,f,g,h⟩:=ends d e;exact(by grind [bj])
namespace H9
variable {n : Nat} {es fs : List Pr} {π : Nat → Nat}
end H9
namespace H9
variable {n : Nat} {es fs : List Pr} {π : Nat → Nat}
end H9
theorem ZE.iso {n:Nat} {es:List Pr} {ps:RZ} (A:ZE ⟨(n:Int),es⟩ ps):H9 n es (uc ps es) (sT ps):=by
 have w:=A.new;obtain⟨s,k,H⟩:=A;have z:ps.length=n:=pw;have f:∀{a b:Nat},a<n->b<n->(((a:Int),(b:Int))∈es->GW (sT ps a) (sT ps b)∈uc ps es):=fun{a b} ha hb h=>by
  rw[uc,Wb];refine HV.2 ⟨_,HV.2 ⟨_,h,rfl⟩,?_⟩;rw[zt k NH NH];rfl
 have j:∀{q},q∈uc ps es->∃a b:Nat,a<n/\b<n/\((a:Int),(b:Int))∈es/\q=GW (sT ps a) (sT ps b):=fun{q} t=>by
  rw[uc,Wb]at t;obtain⟨r,l,rfl⟩:=HV.1 t;obtain⟨p,u,rfl⟩:=HV.1 l;obtain⟨a,b,rfl,B,m,_⟩:=ends s.GD u;exact⟨a,b,NH,m,u,by rw[zt k NH NH];rfl⟩
 have g:aV n (uc ps es):=w.right.GD;refine⟨s.GD,g,fun a ha=>by have:=(k.get (show a<ps.length by omega)).2;omega,fun a b ha hb e=>k.inj NH NH e,fun x C=>?_,fun a b ha hb=>⟨fun h=>?_,fun h=>?_⟩⟩
 .grind [Q5.UB]
 .obtain ⟨c, d, v, hd, i, e⟩ := j (H4 g h)
  rw[bj,bj,qy]at e;have inj:=fun{x y:Nat} (C:x<n) (I:y<n)=>k.inj (show x<ps.length by omega) (show y<ps.length by omega);have D:=fun h=>inj (x:=a) (y:=c) ha v h;have E:=fun h=>inj (x:=b) (y:=d) hb hd h;have F:=fun h=>inj (x:=a) (y:=d) ha hd h;have G:=fun h=>inj (x:=b) (y:=c) hb v h;rcases(show(sT ps a=sT ps c/\sT ps b=sT ps d)\/(sT ps a=sT ps d/\sT ps b=sT ps c) by omega)with⟨o,h2⟩|⟨o,h2⟩
  .rw[D o,E h2];exact .inl i
  .rw[F o,G h2];exact .inr i
 .rcases h with h | h
  .have := f ha hb h
   rw[bj]at this;rcases LN (sT ps a) (sT ps b)with q|q
   .rw[WL q,Nat.max_eq_right q]at this;exact .inl this
   .rw[afq q,Nat.max_eq_left q]at this;exact .inr this
  .have := f hb ha h
   rw[bj]at this;rcases LN (sT ps a) (sT ps b)with q|q
   .rw[afq q,Nat.max_eq_left q]at this;exact .inl this
   .rw[WL q,Nat.max_eq_right q]at this;exact .inr this
def ZE.right {n:Nat} {es:List Pr} {ps:RZ} (A:ZE ⟨(n:Int),es⟩ ps):bX ⟨(n:Int),uc ps es⟩:=A.new.right
end Go.Fw
namespace Go.Fw
section
open Go.Proofs
structure TM where
 bs:List (List Pr)
 cs:RZ
 ls:List Pr
end
section
attribute [local irreducible] Jz JL vq cQ
open Go.Proofs
variable {es:List Pr} {n:Nat}
def lkU (i:Nat) (b:List Pr) (cs:II) (k:Nat):List Pr:=((List.range k).filter fun j=>rG ((cs.getD j 0:Nat):Int) b).map fun(j:Nat)=>((i:Int),(j:Int))
def Rb (bs:List (List Pr)) (cs:II) (i:Nat):List Pr:=(List.range i).flatMap fun k=>lkU k (bs.getD k []) cs cs.length
theorem agm (i:Nat) (b:List Pr) (cs:II) (k:Nat):lkU i b cs (k+1)=lkU i b cs k++if rG ((cs.getD k 0:Nat):Int) b then[((i:Int),(k:Int))]else[]:=by grind [lkU.eq_1,List.range_succ]
theorem DK (bs:List (List Pr)) (cs:II) (i:Nat):Rb bs cs (i+1)=Rb bs cs i++lkU i (bs.getD i []) cs cs.length:=by grind [Rb.eq_1,List.range_succ]
def mR (n:Nat) (es:List Pr):TM:=⟨vq n es,aaa (JL n es),Rb (vq n es) (JL n es) (vq n es).length⟩
def JoinG (n:Nat) (es:List Pr):Prop:=es≠[]/\(Es n es).length=1
theorem u5 (b:bX ⟨(n:Int),es⟩) (a:es≠[]):0<(vq n es).length:=by
 obtain⟨p,l,rfl⟩:=iy a
 grind [Zg,List.mem_cons_self]
end
section
open Go.Proofs
structure LinkOK (b n:Nat) (p:Pr):Prop where
 x0:0<=p.1
 x1:p.1<(b:Int)
 y0:0<=p.2
 y1:(b:Int)+p.2<(n:Int)
end
section
attribute [local instance] Classical.propDecidable
def bU (b:Nat) (ls:List Pr):List Pr:=ls.map fun p=>(p.1,(b:Int)+p.2)
structure Lk (b n:Nat) (ls:List Pr):Prop where
 n0:n≠0
 len:ls.length+1=n
 ok:∀p∈ls,LinkOK b n p
 bp:∀v,v<n->Pu (bU b ls) 0 v
end
section
open Go.Proofs
def mk57 (h:AHeap) (n:Nat) (a:n<=1000):aMakeSlice Tryz.prog h 27 (.int .i64 (n:Int)) (.int .i64 (n:Int))=some (.slice (some ⟨h.next,0,none⟩) n n,h.alloc (.cells (List.replicate n (.slice none 0 0)))):=
 Ye (P:=Tryz.prog) (t:=27) (z:=.slice none 0 0) h pE Ji rfl rfl rfl Ji Ac Ji n NH
def agn (h:AHeap) (n:Nat) (a:n<=1000):aMakeSlice Tryz.prog h 59 (.int .i64 (n:Int)) (.int .i64 (n:Int))=some (.slice (some ⟨h.next,0,none⟩) n n,h.alloc (.cells (List.replicate n (.bool false)))):=
 Ye (P:=Tryz.prog) (t:=59) (z:=.bool false) h Uh rfl rfl rfl rfl Ji AV Ji n NH
def mk35 (h:AHeap) (n:Nat) (a:n<=1000):aMakeSlice Tryz.prog h 49 (.int .i64 (n:Int)) (.int .i64 (n:Int))=some (.slice (some ⟨h.next,0,none⟩) n n,h.alloc (.cells (List.replicate n (.int .i64 0)))):=
 Ye (P:=Tryz.prog) (t:=49) (z:=.int .i64 0) h Ac rfl rfl rfl rfl Ji Mb Ji n NH
end
section
attribute [local irreducible] Jz JL vq cQ
open Go.Proofs
variable {es:List Pr} {n:Nat}
def join_of (d:aV n es) (e:0<n) (c:es≠[]) (h:∀v,v<n->Pu es 0 v):JoinG n es:=by
 refine⟨c,?_⟩;obtain⟨a,ha,f⟩:=B6 d 0 e;have:∀b∈Es n es,b=a:=fun b hb=>rf hb ha ((h b (QO.1 hb).1).symm.trans f.symm);exact Cq (qD n es) ha this
def tM {u v w:Nat} (h:Pu es u v) (a:Jp es v w):Pu es u w:=h.step a rfl
end
section
attribute [local instance] Classical.propDecidable
attribute [local irreducible] Jz JL vq cQ
open Go.Proofs
variable {b es:List Pr} {c i j k n u v:Nat} {p:Pr} {α:Type}
theorem ah {bs:List (List Pr)} {cs:II}:∀k,p∈Rb bs cs k↔∃i j:Nat,i<k/\j<cs.length/\rG ((cs.getD j 0:Nat):Int) (bs.getD i [])=true/\p=((i:Int),(j:Int)):=by grind [Rb,lkU]
theorem FU (i:Nat) (b:List Pr) (cs:II):∀k,k<=cs.length->(lkU i b cs k).length=((cs.take k).filter fun c=>rG ((c:Nat):Int) b).length
 |0,_=>by simp[lkU]
 |k+1,h=>by
  rw[agm,vZ,FU i b cs k NH,iB,EP,vZ]
  grind
theorem Er (bs:List (List Pr)) (cs:II):∀k,k<=bs.length->(Rb bs cs k).length=(cs.map fun c=>((bs.take k).filter (rG ((c:Nat):Int))).length).sum
 |0,_=>by
  rw[Rb]
  induction cs<;>grind
 |k+1,h=>by
  rw[DK,vZ,Er bs cs k NH,FU k _ cs cs.length (qL0 _),vK];have hb:bs[k]?=some bs[k]:=XJ h;rw[iB,hb,Option.toList_some,D4 h]
  induction cs<;>grind
theorem uh (h:(Es n es).length=1) (a:u<n) (b:v<n):Pu es u v:=by
 have g:0<n:=NH;have m0:0∈Es n es:=by grind [QO]
 obtain⟨x,i⟩:=qL175.1 h;have key:∀k v,v<=k->v<n->Pu es 0 v:=by
  intro k
  induction k with
  |zero=>grind [Pu.refl]
  |succ k c=>
   intro v j b;by_cases e:v=0
   .grind
   have d:v∉Es n es:=pw;rw[QO]at d;have:∃u,u<v/\Pu es u v:=pw;obtain⟨u,a,f⟩:=this;exact(c u NH NH).trans f
 exact(key _ u (qL0 _) a).symm.trans (key _ v (qL0 _) b)
theorem ZI {l:List α} (nd:l.Nodup) {x:α} (h:l[i]?=some x) (g:l[j]?=some x):i=j:=by grind [List.pairwise_iff_getElem]
theorem bK (h:(vq n es)[k]?=some b):∃x,(CY (cQ n es) es)[k]?=some x/\b=es.filter fun p=>decide (cQ n es p=x):=by grind [aay]
theorem ago (h:(vq n es)[k]?=some b) (a:p∈b):p∈es:=by grind [bK]
theorem at_mem {v:Int} (a:p∈b) (h:AN v p=true):rG v b=true:=by grind [rG]
theorem agp (hR:bX ⟨(n:Int),es⟩) (f:v<n) {b c:List Pr} (h:(vq n es)[j]?=some b) (g:(vq n es)[k]?=some c) (hb:rG (v:Int) b=true) (d:rG (v:Int) c=true) (ne:j≠k):
  ∃m:Nat,(JL n es)[m]?=some v:=by
 have a:=hR.GD;have h2:1<Sq n es v:=by
  rw[JW,Yt (PS n es v)];obtain⟨x,i,rfl⟩:=bK h;obtain⟨y,l,rfl⟩:=bK g;rw[KQ a]at hb d;refine⟨x,y,(dG a).2 hb,(dG a).2 d,fun e=>ne ?_⟩;have nd:=(lQ (cQ n es) _ es rfl).1
  grind [ZI]
 rw[YH a]at h2;exact yM.1 (by grind [OI])
theorem link_in (h:(vq n es)[i]?=some b) (g:(JL n es)[j]?=some c):((i:Int),(j:Int))∈(mR n es).ls↔rG (c:Int) b=true:=by
 show _∈Rb _ _ _↔_
 grind [ah]
theorem vC (h:(vq n es)[i]?=some b) (g:(JL n es)[j]?=some c) (ha:rG (c:Int) b=true):Jp (bU (vq n es).length (mR n es).ls) i ((vq n es).length+j):=by
 left;refine HV.2 ⟨_,(link_in h g).2 ha,?_⟩
 grind
theorem tj (hR:bX ⟨(n:Int),es⟩) (e:v<n) {b c:List Pr} (h:(vq n es)[j]?=some b) (g:(vq n es)[k]?=some c) (hb:rG (v:Int) b=true) (a:rG (v:Int) c=true):Pu (bU (vq n es).length (mR n es).ls) j k:=by
 by_cases ne:j=k
 .grind [Pu.refl]
 obtain⟨m,d⟩:=agp hR e h g hb a ne;exact(abp (vC h d hb)).trans (abp (vC g d a)).symm
theorem agq (hR:bX ⟨(n:Int),es⟩) (q:u<n) (l:Pu es u v):∀{j k:Nat} {b c:List Pr},(vq n es)[j]?=some b->(vq n es)[k]?=some c->rG (u:Int) b=true->rG (v:Int) c=true->Pu (bU (vq n es).length (mR n es).ls) j k:=by
 have f:=hR.GD
 induction l with
 |refl _=>grind [tj]
 |@step w x _ a _ o=>
  intro j k b c h g hb e;obtain⟨m,d,i,hd,_⟩:=Zg hR (H4 f a);have p:rG (w:Int) d=true:=at_mem hd zo;have h2:rG (x:Int) d=true:=at_mem hd (by rw[aag];exact zo);exact(o h i hb p).trans (tj hR (a.lt f).2 i g h2 e)
theorem agr (hR:bX ⟨(n:Int),es⟩) (k:JoinG n es):Lk (vq n es).length ((vq n es).length+(JL n es).length) (mR n es).ls:=by
 have o:=hR.GD;have f:=u5 hR k.1;have y:=XF hR;have e:∀i b,(vq n es)[i]?=some b->∃a c:Nat,((a:Int),(c:Int))∈b/\a<n/\rG (a:Int) b=true:=fun i b hb=>by
  obtain⟨p,l,rfl⟩:=iy (y.ne b (Gc hb));obtain⟨a,c,rfl,z,q,_⟩:=ends o (ago hb Db)
  grind [at_mem,AN]
 have blk:∀i,i<(vq n es).length->Pu (bU (vq n es).length (mR n es).ls) 0 i:=fun i hi=>by
  have r:(vq n es)[i]?=some (vq n es)[i]:=XJ hi;have w:(vq n es)[0]?=some (vq n es)[0]:=XJ f;obtain⟨a,_,_,ha,ea⟩:=e _ _ w;obtain⟨c,_,_,s,A⟩:=e _ _ r;exact agq hR ha (uh k.2 ha s) w r ea A
 refine⟨NH,?_,fun p B=>?_,fun v F=>?_⟩
 .have G := tZ o
  have H:(mR n es).ls.length=((JL n es).map (Sq n es)).sum:=by
   show(Rb _ _ _).length=_;rw[Er _ _ _ (qL0 _),vK];rfl
  have r:((Es n es).filter fun h=>decide (0<Sq n es h)).length=1:=by
   obtain⟨x,C⟩:=qL175.1 k.2;have t:x∈Es n es:=by rw[C];simp
   have D:=(QO.1 t).1;obtain⟨p,l,rfl⟩:=iy k.1
   grind [ends,List.mem_cons_self,HJ,FV,uh]
  omega
 .obtain ⟨i, j, hi, E, _, rfl⟩ := (ah _).1 B
  exact⟨Ma,pw,Ma,pw⟩
 .by_cases hb : v < (vq n es).length
  .grind
  obtain⟨j,rfl⟩:∃j,v=(vq n es).length+j:=⟨v-(vq n es).length,NH⟩;have u:j<(JL n es).length:=NH;have s:(JL n es)[j]?=some (JL n es)[j]:=XJ u;obtain⟨q,g⟩:=(OI o _).1 (Gc s);obtain⟨a,_,ha,_⟩:=g;obtain⟨m,d,I,hd,_⟩:=Zg hR (H4 o ha)
  grind [at_mem,zo,Cn.trans,abp,vC]
end
end Go.Fw
namespace Go.Fw
open Go.Proofs
attribute [local instance] Classical.propDecidable
def JS {a j:Nat} (h:j<a):a-(j+1)<a-j:=NH
section
variable {n : Nat} {es : List Pr} {rs : List (List Int)}
end
end Go.Fw
namespace Go.Fw
open Go.Proofs
attribute [local instance] Classical.propDecidable
section
variable {α β : Type} [DecidableEq α]
end
section
variable {n : Nat} {es : List Pr} {rs : List (List Int)}
noncomputable def IN (n:Nat) (rs:AM):AM:=(vf n (Xl rs)).map aaa
end
end Go.Fw
namespace Go.Fw
section
attribute [local irreducible] Kp MQ lU rS KO KN KX KE VK Kl ZJ TC aab
attribute [local irreducible] IN
open Go.Proofs
variable {M:Nat} {h:AHeap}
def SA {l:List (Pr×Int)} (a:h.own M=some (.map (aan l))) (k:Pr):aLookupA Tryz.prog h 88 (.map (some M)) (UI k) false=some (.int .i64 ((lookK l k).getD 0)):=Il a k false
end
section
attribute [local instance] Classical.propDecidable
open Go.Proofs
variable {L:RZ} {T i n:Nat} {es:List Pr} {h hh:AHeap} {rs:AM}
noncomputable def VF {α:Type} (P:Nat->α->Prop) (l:List α) (a:Nat):Nat:=(l.filter fun e=>decide (P a e)).length
noncomputable def Gn (es l:List Pr) (a:Nat):Nat:=VF (fun a (e:Pr)=>Pu es a e.1.toNat) l a
noncomputable def sA (es:List Pr) (l:AM) (a:Nat):Nat:=VF (fun a (f:RZ)=>Pu es a (f.headD 0).toNat) l a
def z8 (n:Nat) (es:List Pr) (rs:AM):Prop:=∀a∈Es n es,0<Gn es es a->(Ic n es a).length+sA es (IN n rs) a=Gn es es a+2
theorem JE {r:Nat->II} (R:V7 n r) {d:H8} (hd:d∈dl n r):(aaa (zu r d)).headD 0=(d.1:Int)/\0<(aaa (zu r d)).length:=by
 have:=(aaI (TG R) hd).1;have e:List.range (bt (Nv r) d)=0::(List.range' 1 (bt (Nv r) d-1)):=by rw[List.range_eq_range',show bt (Nv r) d=(bt (Nv r) d-1)+1 from by omega,afy];simp
 refine⟨?_,by grind [aaa,zu,AA]⟩;simp only[aaa,zu,AA,e,wI,qL213];rfl
theorem Uj (a:aV n es) (ha:D3 es) (G:Av n es rs) {f:RZ} (hf:f∈IN n rs):0<f.length/\∃v:Nat,v<n/\f.headD 0=(v:Int):=by
 have R:=G.jD a ha;rw[IN,HV]at hf
 grind [vf.eq_1,gQ,dl,IP,JE]
def stI (o:hh.own T=some (.cells (Bp L))) (hi:i<L.length) (x:Int):
  aStore Tryz.prog hh 3 (.pointer (some ⟨T,i,none⟩)) (.int .i64 x)=some (hh.put T (.cells (Bp (L.set i x)))):=by rw[QB (P:=Tryz.prog) (t:=3) (x:=.int .i64 x) Mb Ji o (off:=i) (by rw[uE];exact hi) rfl rfl,yy]
def XP {l:Int} (o:hh.own T=some (.cells (Bp L))) (a:L[i]?=some l):aload Tryz.prog hh 3 ⟨T,i,none⟩=some (.int .i64 l):=by rw[Fq Mb rfl o];simp[Bp,a]
def Kx (T m:Nat) (k:IntKind) (j:Nat) (a:j<m):aIndexAddr Tryz.prog 49 (.slice (some ⟨T,0,none⟩) m m) (.int k j)=some (.pointer (some ⟨T,j,none⟩)):=by rw[Wc Ac Mb Ji j a];simp[Ip]
structure NewT3 (h h':AHeap) (A B C:Nat) (x:List Value):Prop where
 le:Le h h'
 wf:WF h'
 oA:h'.own A=some (.cells x)
 oB:h'.own B=some (.cells x)
 oC:h'.own C=some (.cells x)
 nA:h.own A=none
 nB:h.own B=none
 nC:h.own C=none
 ab:A≠B
 ac:A≠C
 bc:B≠C
theorem new3 (hw:WF h) (x:List Value):NewT3 h (((h.alloc (.cells x)).alloc (.cells x)).alloc (.cells x)) h.next (h.next+1) (h.next+1+1) x:=by
 have a:∀x,h.next<=x->h.own x=none:=fun x b=>(Le.refl h).next hw b
 exact⟨by grind [Le.refl,Le.alloc,WF.alloc],(by grind [WF.alloc]),by grind [Mh],by simp[Mh,om],by simp[Mh,om],pw,a _ NH,a _ NH,NH,NH,NH⟩
end
section
attribute [local instance] Classical.propDecidable
attribute [local irreducible] Kp MQ lU rS KO KN KX KE VK Kl ZJ TC aab
open Go.Proofs
variable {b0 h:AHeap} {i w:Nat} {rows:AM} {us:List Value}
theorem Rows.put {L:Nat} (R:Rows b0 h L us rows) (k:WF h) {u:Value} {r:RZ} (j:us[w]?=some u) (l:rows[w]?=some r) (hi:i<r.length) (x:Int):
  ∃h',aStore Tryz.prog h 3 (.pointer (some (elemAddr u i))) (.int .i64 x)=some h'/\Rows b0 h' L us (rows.set w (r.set i x))/\WF h'/\(∀f,Le f h->Z2 f u->Le f h')/\(∀b o,h.own b=some o->blk u≠some b->h'.own b=some o):=by
 obtain⟨h',e,g,wf,m,keep⟩:=GI.store (show GI h u r from R.gs w u r j l) k hi x;refine⟨h',e,⟨keep _ _ R.oL (R.nL w u j),by grind [Rows.len],fun v a q ha d=>?_,R.nL,R.TE,R.ap,m _ R.le (R.ap w u j),R.bL⟩,wf,m,keep⟩;rw[K4]at d;by_cases c:w=v
 .subst c
  rw[if_pos rfl,if_pos (Ny.1 l).1]at d;injection d with d;subst d;rw[j]at ha;injection ha with ha;subst ha;exact g
 .rw [if_neg c] at d
  refine(R.gs v a q ha d).kept fun b o hb n=>keep b o n fun sZ=>R.TE w v u a b c j ha sZ hb
def adX (e:LA) (x:Int) (n:Nat) (i:0<n) (f:n<=100000) (h:AHeap):AC Tryz.prog e 28 [.int .i64 x,.int .i64 n] h fun y h'=>(∃k:Nat,k<n/\y=.int .i64 k)/\h'=h:=by
 refine AC.vE ⟨Tryz.func28,rfl,WY⟩ Tryz.ntmps28 Tryz.results28 fun g=>?_;simp only[Br,Nat.reduceAdd];have d:decide ((n:Int)<=0)=false:=decide_eq_false NH;have b:¬((n:Int)=0):=NH;have hb:-(n:Int)<x.tmod (n:Int)/\x.tmod (n:Int)<(n:Int):=⟨Int.lt_tmod_of_pos x NH,Int.tmod_lt_of_pos x NH⟩;have w1:awrap .i64 (x.tmod (n:Int))=x.tmod (n:Int):=ie _ NH NH;have w2:awrap .i64 (x.tmod (n:Int)+(n:Int))=x.tmod (n:Int)+(n:Int):=ie _ NH NH;obtain⟨m,a⟩:∃m,x.tmod (n:Int)=m:=⟨_,rfl⟩;rw[a]at w1 w2 hb;by_cases c:m<0
 .simp only [HO, Nat.reduceLT, ↓reduceIte, Nat.reduceEqDiff, reduceCtorEq, d, b, a, w1, decide_eq_true c, w2]
  refine⟨⟨(m+n).toNat,NH,?_⟩,trivial⟩;rw[sD NH]
 .simp only [HO, Nat.reduceLT, ↓reduceIte, Nat.reduceEqDiff, reduceCtorEq, d, b, a, w1, decide_eq_false c]
  refine⟨⟨m.toNat,NH,?_⟩,trivial⟩;rw[sD NH]
theorem OS (l:LA) (v:Value) (xs:RZ) (y:Int) (h:AHeap) (d:RL RP h v xs) (s:xs.length<=100000):AC Tryz.prog l 141 [v,.int .i64 y] h fun x h'=>((x=.int .i64 (-1)/\y∉xs)\/∃i,∃hi:i<xs.length,x=.int .i64 (i:Nat)/\xs[i]=y/\∀j (b:j<i),xs[j]≠y)/\h'=h:=by
 refine AC.vE ⟨qS38,rfl,WY⟩ Tryz.ntmps141 Tryz.results141 fun m=>?_;simp only[Br,Nat.reduceAdd];have n:=fun g=>d.Uc g;refine Sk n ?_;refine lIn (fun k fr e=>∃i,k=xs.length-i/\i<=xs.length/\fr=mkF [(0,v),(1,.int .i64 y),(7,.int .i64 xs.length),(8,.int .i64 i)]/\e=h/\∀j (b:j<xs.length),j<i->xs[j]≠y) ⟨0,rfl,aal _,rfl,rfl,fun j _ b=>absurd b (Nat.not_lt_zero _)⟩ ?_;rintro k fr e o ⟨i,rfl,hi,rfl,rfl,p⟩;refine Uy ?_;refine Kl.intro (fun f=>?_) (fun hf=>?_)
 .have a : i < xs.length := CC f
  clear f;have ad:=d.TA i a;have ld:=d.DH i a;have hw:=Tw i NH;by_cases c:y=xs[i]
  .simp only [HO, Nat.reduceLT, ↓reduceIte, Nat.reduceEqDiff, reduceCtorEq, ad, ld, decide_eq_true c]
   grind
  .simp only [HO, Nat.reduceLT, ↓reduceIte, Nat.reduceEqDiff, reduceCtorEq, ad, ld, decide_eq_false c, hw]
   refine lgA (JS a) ⟨i+1,rfl,a,rfl,rfl,fun j b q=>?_⟩
   grind
 .have r : xs.length <= i := vp hf
  refine Uy ?_
  grind [List.mem_iff_getElem]
theorem W3 (b:LA) (v:Value) (xs:RZ) (y:Int) (h:AHeap) (c:RL RP h v xs) (e:xs.length<=100000):AC Tryz.prog b 101 [v,.int .i64 y] h fun x h'=>x=.bool (decide (y∈xs))/\h'=h:=by
 refine AC.vE ⟨qS39,rfl,WY⟩ Tryz.ntmps101 Tryz.results101 fun f=>?_;simp only[Br,Nat.reduceAdd];refine Uy ?_;refine TC.intro PJ ⟨qS38,rfl,WY⟩ (OS b v xs y h c e) ?_;rintro x h2 w2 ⟨⟨rfl,a⟩|⟨i,hi,rfl,a,-⟩,rfl⟩
 .have d : decide ((-1 : Int) >= 0) = false := by decide
  simp only[HO,Nat.reduceLT,↓reduceIte,Nat.reduceEqDiff,reduceCtorEq,d,decide_eq_false a]
  grind
 .have d : decide ((i : Int) >= 0) = true := by simp
  have g:y∈xs:=a▸Og hi;simp only[HO,Nat.reduceLT,↓reduceIte,Nat.reduceEqDiff,reduceCtorEq,d,decide_eq_true g]
  grind
end
section
open Go.Proofs
variable {es:List Pr} {n:Nat} {rs:AM}
attribute [local instance] Classical.propDecidable in
theorem vS {n:Nat} {es:List Pr} {rs:AM} (c:aV n es) (ha:D3 es) (G:Av n es rs) (d:0<n) (k:∀v,v<n->Pu es 0 v):
  z8 n es rs↔(0<es.length->n+(IN n rs).length=es.length+2):=by
 have all:∀a,a<n->Gn es es a=es.length/\(Ic n es a).length=n/\sA es (IN n rs) a=(IN n rs).length:=fun a g=>by
  have i:∀v,v<n->Pu es a v:=by grind [Cn.symm,Cn.trans]
  refine⟨?_,?_,?_⟩
  .unfold Gn VF
   rw[aa3.2];intro e j;have h:=c e j
   grind
  .grind [Ic,List.filter_eq_self]
  .unfold sA VF
   rw[aa3.2];intro f hf;obtain⟨_,v,l,e⟩:=Uj c ha G hf
   grind
 constructor
 .intro H m
  obtain⟨a,b,_⟩:=B6 c 0 d;obtain⟨o,p,e3⟩:=all a (QO.1 b).1;have:=H a b pw
  grind
 .intro H a b
  grind [QO]
theorem N9 (h:rs.length=n) (d:(List.range n).all (fun v=>(rs.getD v []).isPerm ((Zh n es).getD v []))=true):Av n es rs:=
 ⟨h,(by grind [List.isPerm_iff])⟩
theorem X9 (a:bX ⟨(n:Int),es⟩) (G:Av n es rs) {hs:List (H8×Nat)} (C:Cert n (Xl rs) hs):IN n rs=hs.map fun p=>(List.range p.2).map fun j=>(((it (Nv (Xl rs)) j p.1).1:Nat):Int):=by
 rw[IN,Fs (G.jD a.GD a.q9) C,KG]
 grind [List.map_congr_left,aaa]
instance (n:Nat) (r:Nat->II) (hs:List (H8×Nat)):Decidable (Cert n r hs):=by unfold Cert;infer_instance
end
end Go.Fw
namespace Go.Fw
open Go.Proofs Go.ChangeShapes Go.WideShapes Go.RowKit
section
variable {H : Type} {enc : TypeId × Value → H} {W : World}
def ags {v:Value} {d:DataW H} {ps:List MemPlace} {b0:Nat} (b:Value.okWide Tryz.prog W .any b0 42 v) (h:DataW.Trod enc Tryz.prog W 0 (fun _=>true) true 42 v d ps) (m:rC):
  ∃u xs,VR 0 m u v/\RL isB (MR W) u xs:=by
 obtain⟨fuel,h⟩:=h;obtain⟨a,len,cap,rfl⟩:=okWide_slice qS26 b;obtain⟨g,r,R,c,e,f⟩:=Vd qS26 Ji (rd_u8 qS20) _ _ _ h;simp[Value.cells]at c;subst c;exact⟨r,R,VR.jC e,f⟩
end
end Go.Fw
namespace Go.Fw
attribute [local instance] Classical.propDecidable
theorem Td {α:Type} {p q:α->Bool}:∀(l:List α),(∀v∈l,p v=true\/q v=true)->(l.filter p).length+(l.filter q).length=l.length+(l.filter fun v=>p v&&q v).length
 |[],_=>rfl
 |x::l,h=>by
  have c:=Td l fun v b=>h v (j9 _ b)
  grind
theorem FP {P:Nat->Nat->Prop} {r:Nat->II} {v:Nat} (h:∀w∈r v,P v w):Om P r v=r v:=by grind [Om.eq_1,List.filter_eq_self]
theorem Ud {n:Nat} {s:Nat->II} (S:V7 n s) {l:List Pr} (nd:l.Nodup) (c:aV n l) (h:∀v w,w∈s v↔Jp l v w):(dl n s).length=2*l.length:=by
 have key:∀l:List Pr,(l.flatMap fun p=>[(p.1.toNat,p.2.toNat),(p.2.toNat,p.1.toNat)]).length=2*l.length:=by
  intro l
  induction l<;>grind
 rw[<-key l];refine(yR (J8 S) ?_ fun d=>?_).length_eq
 .rw [kc, qk]
  refine⟨fun p b=>?_,?_⟩
  .have := c p b
   grind
  .refine ff (fun {p q} b e f => ?_) nd
   have g:=c p b;have h2:=c q e
   grind
 .rw [IP S, h, QD]
  simp only[Jp,WA,vY,or_false,qy];constructor
  .grind
  .rintro ⟨p, b, ⟨rfl, rfl⟩ | ⟨rfl, rfl⟩⟩
   .have := c p b
    grind
   .have := c p b
    grind
section
variable {n : Nat} {es : List Pr} {rs : List (List Int)} {a : Nat}
theorem T8 (t:aV n es) (ha:D3 es) (G:Av n es rs) (E:a∈Es n es) (F:0<Gn es es a):∃g,(Ic n es a).length+sA es (IN n rs) a+2*g=Gn es es a+2:=by
 obtain⟨H,I⟩:=QO.1 E;have R:=G.jD t ha;generalize m:Xl rs=r at R;have i:∀v w,w∈r v↔Jp es v w:=fun v w=>by rw[<-m];exact G.mem t
 have S:V7 n (Om (fun v w=>Pu es a v/\Pu es a w) r):=by grind [OG]
 generalize hs:Om (fun v w=>Pu es a v/\Pu es a w) r=s at S;have j:∀v w,w∈s v↔Jp es v w/\Pu es a v:=fun v w=>by
  rw[<-hs,EM,i];exact⟨pw,fun h=>⟨h.1,h.2,h.2.step h.1 rfl⟩⟩
 have row:∀v,Pu es a v->s v=r v:=fun v u=>by
  rw[<-hs];exact FP fun w hw=>⟨u,u.step ((i v w).1 hw) rfl⟩
 have J:∀v y,Cr s v y->v=y\/(Pu es a v/\Pu es a y):=fun v y h=>by
  induction h with
  |refl=>grind
  |@step b c _ K z=>
   obtain⟨f,h2⟩:=(j _ _).1 K;right;rcases z with rfl|⟨h3,_⟩
   .exact⟨h2,h2.step f rfl⟩
   .exact⟨h3,h2.step f rfl⟩
 have L:∀y,Pu es a y->Cr s a y:=fun y h=>by
  induction h with
  |refl=>exact .refl _
  |step f h2 _ z=>exact z.step pw
 have M:iJ n s+(Ic n es a).length=n+1:=by
  have C:iJ n s=((List.range n).filter fun v=>decide (v=a\/¬Pu es a v)).length:=by
   rw[iJ,Yy (abY _).symm (Cr.eqv S _),zE (lt:=fun a b=>a<b) (by grind [Nat.lt_asymm]) _ _ rfl (uA n)]
   grind [Cr.symm,Cn.symm]
  have N:=Td (p:=fun v=>decide (v=a\/¬Pu es a v)) (q:=fun v=>decide (Pu es a v)) (List.range n) pw;have e3:((List.range n).filter fun v=>decide (v=a\/¬Pu es a v)&&decide (Pu es a v)).length=1:=by
   refine Cq ?_ (x:=a) ?_ ?_
   all_goals grind [List.nodup_range,Pu.refl]
  grind [Ic]
 have nb:∀v,Pu es a v->∃w,Jp es v w:=fun v u=>by
  obtain⟨e,l⟩:=sL F;rw[VU,decide_eq_true_eq]at l;have O:=t e l.1;by_cases c:v=e.1.toNat
  .refine ⟨e.2.toNat, .inl ?_⟩
   grind
  .exact(FV (u.symm.trans l.2) c).1
 have D:((List.range n).filter fun v=>decide (s v=[])).length+(Ic n es a).length=n:=by
  have N:=Td (p:=fun v=>decide (s v=[])) (q:=fun v=>decide (Pu es a v)) (List.range n) fun v _=>by
   simp only[decide_eq_true_eq];by_cases c:Pu es a v
   .exact .inr c
   .rw [Lm]
    grind
  have e3:((List.range n).filter fun v=>decide (s v=[])&&decide (Pu es a v))=[]:=by
   rw[qL78]
   grind
  grind [Ic]
 have A:(dl n s).length=2*Gn es es a:=by
  refine Ud S (ha.nodup.sublist xD) (fun p P=>t p (VU.1 P).1) fun v w=>?_;rw[j];simp only[Jp,VU,decide_eq_true_eq,Z6];constructor
  .rintro ⟨f | f, h2⟩
   .grind
   .exact .inr ⟨f,h2.step (.inr f) rfl⟩
  .rintro (⟨f, h2⟩ | ⟨f, h2⟩)
   .grind
   .exact⟨.inr f,h2.step (.inl f) rfl⟩
 have q:=TG S;have Q:∀d:H8,Pu es a d.2->Nv s d=Nv r d:=fun d hd=>by
  show(d.2,nx (s d.2) d.1)=(d.2,nx (r d.2) d.1);rw[row _ hd]
 have T:∀d:H8,d.2∈s d.1->Pu es a d.2:=fun d hd=>by
  obtain⟨f,h2⟩:=(j _ _).1 hd;exact h2.step f rfl
 have o:∀(k:Nat) (d:H8),d.2∈s d.1->it (Nv s) k d=it (Nv r) k d:=fun k d hd=>by
  induction k with
  |zero=>rfl
  |succ k z=>
   show Nv s (it (Nv s) k d)=Nv r (it (Nv r) k d);have U:=q.uN ((IP S).2 hd) k
   grind [IP]
 have B:sA es (IN n rs) a=(L3 n s).length:=by
  have C:L3 n s=(L3 n r).filter fun d=>decide (Pu es a d.1):=by
   refine sx JN (by grind [Nd]) _ _ ((pI n s).filter _) (((pI n r).filter _).filter _) fun d=>?_;rw[VU,decide_eq_true_eq];rw[gQ S,gQ R,j,i];constructor
   .rintro ⟨⟨f, h2⟩, h3⟩
    refine⟨⟨f,?_⟩,h2⟩;rintro e ⟨k,rfl⟩;rw[<-o k d pw];exact h3 _ ⟨k,rfl⟩
   .rintro ⟨⟨f, h3⟩, h2⟩
    refine⟨⟨f,h2⟩,?_⟩;rintro e ⟨k,rfl⟩;rw[o k d pw];exact h3 _ ⟨k,rfl⟩
  rw[C,sA,VF,IN,m,vf,KG,agf,eR]
  grind [List.filter_congr,gQ,JE,IP,Int.toNat_natCast]
 obtain⟨g,hg⟩:=Z4 S;rw[mj,<-yp S,<-B,A]at hg;exact⟨g,NH⟩
end
end Go.Fw
