/- A text. -/
import Derived.Test.YtkccdnmaaelbiaaGreatFwLM1
set_option linter.all false
set_option maxRecDepth 99999
set_option maxHeartbeats 9999999
namespace Go.Fw
attribute [local instance] Classical.propDecidable
structure abC (n:Nat) (es fs:List Pr) (π:Nat->Nat):Prop where
 r1:aV n es
 r2:aV n fs
 lt:∀a,a<n->π a<n
 inj:∀a b,a<n->b<n->π a=π b->a=b
 aeB:∀x,x<n->∃a,a<n/\π a=x
 Jp:∀a b,a<n->b<n->(Jp fs (π a) (π b)↔Jp es a b)
namespace abC
variable {n : Nat} {es fs : List Pr} {π : Nat → Nat}
theorem inv (I:abC n es fs π):∃σ,abC n fs es σ/\(∀a,a<n->σ (π a)=a)/\∀x,x<n->π (σ x)=x:=by
 let σ:Nat->Nat:=fun x=>if h:∃a,a<n/\π a=x then Classical.choose h else 0
 have hs:∀x,x<n->σ x<n/\π (σ x)=x:=fun x c=>by grind [abC.aeB]
 have d:∀a,a<n->σ (π a)=a:=fun a ha=>I.inj _ _ (hs _ (I.lt a ha)).1 ha (hs _ (I.lt a ha)).2;exact⟨σ,⟨I.r2,I.r1,fun a ha=>(hs a ha).1,fun a b ha hb e=>by grind,fun x c=>⟨π x,I.lt x c,d x c⟩,
  fun a b ha hb=>by grind [abC.Jp]⟩,d,fun x c=>(hs x c).2⟩
theorem cn {on on':Nat->Bool} (I:abC n es fs π) (f:∀x,x<n->on' (π x)=on x) {a b:Nat} (ha:a<n) (h:Cn on es a b):Cn on' fs (π a) (π b):=by
 induction h with
 |refl h=>exact .refl pw
 |@step x y k e o c=>
  obtain⟨d,h2⟩:=e.lt I.r1;exact .step c ((I.Jp _ _ d h2).2 e) pw
theorem cn_iff {on on':Nat->Bool} (I:abC n es fs π) (c:∀x,x<n->on' (π x)=on x) {a b:Nat} (ha:a<n) (hb:b<n):Cn on' fs (π a) (π b)↔Cn on es a b:=by
 refine⟨fun h=>?_,I.cn c ha⟩;obtain⟨σ,J,d,h2⟩:=I.inv;have:=J.cn (on:=on') (on':=on) (fun x e=>by grind [abC.lt]) (I.lt a ha) h
 grind
theorem wo (I:abC n es fs π) {v a b:Nat} (c:v<n) (ha:a<n) (hb:b<n):Cn (Go.Fw.wo (π v)) fs (π a) (π b)↔Cn (Go.Fw.wo v) es a b:=
 I.cn_iff (fun x d=>by grind [abC.inj]) ha hb
end abC
def ab6 (π:Nat->Nat) (p:Pr):Pr:=GW (π p.1.toNat) (π p.2.toNat)
def abR {π:Nat->Nat} {a b:Nat}:ab6 π (GW a b)=GW (π a) (π b):=by
 rw[bj,ab6];simp only[Sb];rcases ad4 a b with h|h
 .rw[acA h,adZ h]
 .rw[aaz h,abp h,so]
def adN {n:Nat} {es:List Pr} (e:aV n es) {p:Pr} (f:p∈es):∃a b:Nat,a<n/\b<n/\Jp es a b/\p=GW a b:=by
 obtain⟨a,c,rfl,g,d,h⟩:=ends e f;exact⟨a,c,NH,d,h,by rw[bj,acA NH,adZ NH]⟩
namespace abC
variable {n : Nat} {es fs : List Pr} {π : Nat → Nat}
theorem mem (I:abC n es fs π) {p:Pr} (c:p∈es):ab6 π p∈fs:=by
 obtain⟨a,b,ha,hb,h,rfl⟩:=adN I.r1 c;rw[abR];exact H4 I.r2 ((I.Jp _ _ ha hb).2 h)
def key1 (I:abC n es fs π) {p q:Pr} (e:p∈es) (f:q∈es) (h:cQ n es p=cQ n es q):cQ n fs (ab6 π p)=cQ n fs (ab6 π q):=by
 refine ac0 I.r1 (fun p=>cQ n fs (ab6 π p)) (fun v a b ha hb k=>?_) e f h;have c:=(ha.lt I.r1).1;have d:=(ha.lt I.r1).2;have h2:=(hb.lt I.r1).2;show cQ n fs (ab6 π (GW v a))=cQ n fs (ab6 π (GW v b));rw[abR,abR];exact(dR I.r2 ((I.Jp _ _ c d).2 ha) ((I.Jp _ _ c h2).2 hb)).2 ((I.wo c d h2).2 k)
theorem back {σ:Nat->Nat} (I:abC n es fs π) (c:∀a,a<n->σ (π a)=a) {p:Pr} (d:p∈es):ab6 σ (ab6 π p)=p:=by
 obtain⟨a,b,ha,hb,h,rfl⟩:=adN I.r1 d;rw[abR,abR,c a ha,c b hb]
def key (I:abC n es fs π) {p q:Pr} (a:p∈es) (b:q∈es):cQ n fs (ab6 π p)=cQ n fs (ab6 π q)↔cQ n es p=cQ n es q:=by
 refine⟨fun h=>?_,I.key1 a b⟩;obtain⟨σ,J,c,h2⟩:=I.inv;have:=J.key1 (I.mem a) (I.mem b) h;rwa[I.back c a,I.back c b]at this
def inj_E (I:abC n es fs π) {p q:Pr} (b:p∈es) (c:q∈es) (e:ab6 π p=ab6 π q):p=q:=by
 obtain⟨σ,J,a,h2⟩:=I.inv;rw[<-I.back a b,<-I.back a c,e]
def sur_E (I:abC n es fs π) {q:Pr} (a:q∈fs):∃p∈es,ab6 π p=q:=by
 obtain⟨σ,J,b,h2⟩:=I.inv;exact⟨ab6 σ q,J.mem a,J.back h2 a⟩
theorem perm (I:abC n es fs π) (f:es.Nodup) (g:fs.Nodup):fs.Perm (es.map (ab6 π)):=by
 have nd:(es.map (ab6 π)).Nodup:=by
  rw[IE,j3];exact(IE.1 f).imp_of_mem fun{a b} ha hb c e=>c (I.inj_E ha hb e)
 refine(js g nd).2 fun q=>?_;rw[yM];constructor
 .intro h;obtain⟨p,d,e⟩:=I.sur_E h;exact⟨p,d,e⟩
 .rintro⟨p,d,rfl⟩;exact I.mem d
def afc (I:abC n es fs π) (a:es.Nodup) (b:fs.Nodup) {p:Pr} (c:p∈es):(fs.filter fun q=>decide (cQ n fs q=cQ n fs (ab6 π p))).length=(es.filter fun q=>decide (cQ n es q=cQ n es p)).length:=by
 rw[((I.perm a b).filter _).length_eq,abl,jz];congr 1;refine fj fun q d=>?_;simp only[Function.comp];rw[decide_eq_decide];exact I.key d c
end abC
namespace abC
variable {n : Nat} {es fs : List Pr} {π : Nat → Nat}
end abC
theorem acu.iso {n:Nat} {es:List Pr} {ps:RZ} (A:acu ⟨(n:Int),es⟩ ps):abC n es (acr ps es) (abD ps):=by
 have w:=A.new;obtain⟨s,k,H⟩:=A;have z:ps.length=n:=pw;have f:∀{a b:Nat},a<n->b<n->(((a:Int),(b:Int))∈es->GW (abD ps a) (abD ps b)∈acr ps es):=fun{a b} ha hb h=>by
  rw[acr,Wb];refine yM.2 ⟨_,yM.2 ⟨_,h,rfl⟩,?_⟩;rw[acg k NH NH];rfl
 have j:∀{q},q∈acr ps es->∃a b:Nat,a<n/\b<n/\((a:Int),(b:Int))∈es/\q=GW (abD ps a) (abD ps b):=fun{q} t=>by
  rw[acr,Wb]at t;obtain⟨r,l,rfl⟩:=yM.1 t;obtain⟨p,u,rfl⟩:=yM.1 l;obtain⟨a,b,rfl,B,m,_⟩:=ends s.GD u;exact⟨a,b,NH,m,u,by rw[acg k NH NH];rfl⟩
 have g:aV n (acr ps es):=w.right.GD;refine⟨s.GD,g,fun a ha=>by have:=(k.get (show a<ps.length by omega)).2;omega,fun a b ha hb e=>k.inj NH NH e,fun x C=>?_,fun a b ha hb=>⟨fun h=>?_,fun h=>?_⟩⟩
 .grind [abQ.aeB]
 .obtain ⟨c, d, v, hd, i, e⟩ := j (H4 g h)
  rw[bj,bj,AE]at e;have inj:=fun{x y:Nat} (C:x<n) (I:y<n)=>k.inj (show x<ps.length by omega) (show y<ps.length by omega);have D:=fun h=>inj (x:=a) (y:=c) ha v h;have E:=fun h=>inj (x:=b) (y:=d) hb hd h;have F:=fun h=>inj (x:=a) (y:=d) ha hd h;have G:=fun h=>inj (x:=b) (y:=c) hb v h;rcases(show(abD ps a=abD ps c/\abD ps b=abD ps d)\/(abD ps a=abD ps d/\abD ps b=abD ps c) by omega)with⟨o,h2⟩|⟨o,h2⟩
  .rw[D o,E h2];exact .inl i
  .rw[F o,G h2];exact .inr i
 .rcases h with h | h
  .have := f ha hb h
   rw[bj]at this;rcases ad4 (abD ps a) (abD ps b)with q|q
   .rw[acA q,adZ q]at this;exact .inl this
   .rw[aaz q,abp q]at this;exact .inr this
  .have := f hb ha h
   rw[bj]at this;rcases ad4 (abD ps a) (abD ps b)with q|q
   .rw[aaz q,abp q]at this;exact .inl this
   .rw[acA q,adZ q]at this;exact .inr this
def acu.right {n:Nat} {es:List Pr} {ps:RZ} (A:acu ⟨(n:Int),es⟩ ps):bX ⟨(n:Int),acr ps es⟩:=A.new.right
end Go.Fw
namespace Go.Fw
section
attribute [local irreducible] Jz JL vq cQ acr abD
open Go.Proofs
variable {h:AHeap}
def newE (hw:WF h):∃a h2,aAlloc Tryz.prog h 24=some (.pointer (some ⟨h.next,0,none⟩),a)/\aStore Tryz.prog a 24 (.pointer (some ⟨h.next,0,none⟩)) CZ=some h2/\Le h h2/\WF h2:=by
 obtain⟨a,c,l1,w1,b⟩:=Tt hw [.int .i64 0,.slice none 0 0]
 have d:h.own h.next=none:=(Le.refl h).next hw (qL0 _)
 have st:=DG (n:=0) (ev:=.slice none 0 0) b rfl rfl;exact⟨a,_,by rw[Lo,c],st,l1.put _ d,w1.put _ (w1.lt b)⟩
end
section
open Go.Proofs
structure TM where
 bs:List (List Pr)
 cs:RZ
 ls:List Pr
end
section
attribute [local irreducible] Jz JL vq cQ
open Go.Proofs
variable {es:List Pr} {n:Nat}
def lkU (i:Nat) (b:List Pr) (cs:II) (k:Nat):List Pr:=((List.range k).filter fun j=>rG ((cs.getD j 0:Nat):Int) b).map fun(j:Nat)=>((i:Int),(j:Int))
def Rb (bs:List (List Pr)) (cs:II) (i:Nat):List Pr:=(List.range i).flatMap fun k=>lkU k (bs.getD k []) cs cs.length
theorem wQ (i:Nat) (b:List Pr) (cs:II) (k:Nat):lkU i b cs (k+1)=lkU i b cs k++if rG ((cs.getD k 0:Nat):Int) b then[((i:Int),(k:Int))]else[]:=by grind [lkU.eq_1,List.range_succ]
theorem DK (bs:List (List Pr)) (cs:II) (i:Nat):Rb bs cs (i+1)=Rb bs cs i++lkU i (bs.getD i []) cs cs.length:=by grind [Rb.eq_1,List.range_succ]
def mR (n:Nat) (es:List Pr):TM:=⟨vq n es,aab (JL n es),Rb (vq n es) (JL n es) (vq n es).length⟩
def JoinG (n:Nat) (es:List Pr):Prop:=es≠[]/\(Es n es).length=1
theorem u5 (b:bX ⟨(n:Int),es⟩) (a:es≠[]):0<(vq n es).length:=by
 obtain⟨p,l,rfl⟩:=iy a
 grind [Zg,List.mem_cons_self]
end
section
open Go.Proofs
structure LinkOK (b n:Nat) (p:Pr):Prop where
 x0:0<=p.1
 x1:p.1<(b:Int)
 y0:0<=p.2
 y1:(b:Int)+p.2<(n:Int)
end
section
attribute [local instance] Classical.propDecidable
def bU (b:Nat) (ls:List Pr):List Pr:=ls.map fun p=>(p.1,(b:Int)+p.2)
structure Lk (b n:Nat) (ls:List Pr):Prop where
 n0:n≠0
 len:ls.length+1=n
 ok:∀p∈ls,LinkOK b n p
 bp:∀v,v<n->Pu (bU b ls) 0 v
end
section
open Go.Proofs
def mk57 (h:AHeap) (n:Nat) (a:n<=1000):aMakeSlice Tryz.prog h 27 (.int .i64 (n:Int)) (.int .i64 (n:Int))=some (.slice (some ⟨h.next,0,none⟩) n n,h.alloc (.cells (List.replicate n (.slice none 0 0)))):=
 Ye (P:=Tryz.prog) (t:=27) (z:=.slice none 0 0) h qS5 Ji rfl rfl rfl Ji Ac Ji n NH
def PO (h:AHeap) (n:Nat) (a:n<=1000):aMakeSlice Tryz.prog h 59 (.int .i64 (n:Int)) (.int .i64 (n:Int))=some (.slice (some ⟨h.next,0,none⟩) n n,h.alloc (.cells (List.replicate n (.bool false)))):=
 Ye (P:=Tryz.prog) (t:=59) (z:=.bool false) h eY rfl rfl rfl rfl Ji AV Ji n NH
def mk35 (h:AHeap) (n:Nat) (a:n<=1000):aMakeSlice Tryz.prog h 49 (.int .i64 (n:Int)) (.int .i64 (n:Int))=some (.slice (some ⟨h.next,0,none⟩) n n,h.alloc (.cells (List.replicate n (.int .i64 0)))):=
 Ye (P:=Tryz.prog) (t:=49) (z:=.int .i64 0) h Ac rfl rfl rfl rfl Ji Mb Ji n NH
end
section
attribute [local irreducible] Jz JL vq cQ
open Go.Proofs
variable {es:List Pr} {n:Nat}
def join_of (d:aV n es) (e:0<n) (c:es≠[]) (h:∀v,v<n->Pu es 0 v):JoinG n es:=by
 refine⟨c,?_⟩;obtain⟨a,ha,f⟩:=B6 d 0 e;have:∀b∈Es n es,b=a:=fun b hb=>rf hb ha ((h b (QO.1 hb).1).symm.trans f.symm);exact Cq (qD n es) ha this
def tM {u v w:Nat} (h:Pu es u v) (a:Jp es v w):Pu es u w:=h.step a rfl
end
section
attribute [local instance] Classical.propDecidable
attribute [local irreducible] Jz JL vq cQ
open Go.Proofs
variable {b es:List Pr} {c i j k n u v:Nat} {p:Pr} {α:Type}
theorem ah {bs:List (List Pr)} {cs:II}:∀k,p∈Rb bs cs k↔∃i j:Nat,i<k/\j<cs.length/\rG ((cs.getD j 0:Nat):Int) (bs.getD i [])=true/\p=((i:Int),(j:Int)):=by grind [Rb,lkU]
theorem FU (i:Nat) (b:List Pr) (cs:II):∀k,k<=cs.length->(lkU i b cs k).length=((cs.take k).filter fun c=>rG ((c:Nat):Int) b).length
 |0,_=>by simp[lkU]
 |k+1,h=>by
  rw[wQ,Eh,FU i b cs k NH,qQ,N8,Eh]
  grind
theorem Er (bs:List (List Pr)) (cs:II):∀k,k<=bs.length->(Rb bs cs k).length=(cs.map fun c=>((bs.take k).filter (rG ((c:Nat):Int))).length).sum
 |0,_=>by
  rw[Rb];simp only[List.range_zero,List.flatMap_nil,adg,sD,aa6]
  induction cs<;>grind
 |k+1,h=>by
  rw[DK,Eh,Er bs cs k NH,FU k _ cs cs.length (qL0 _),yI];have hb:bs[k]?=some bs[k]:=XJ h;rw[qQ,hb,Option.toList_some,D4 h];clear hb;generalize bs[k]=b;generalize bs.take k=l
  induction cs<;>grind
theorem uh (h:(Es n es).length=1) (a:u<n) (c:v<n):Pu es u v:=by
 have g:0<n:=NH;have m0:0∈Es n es:=QO.2 ⟨g,fun u a=>by omega⟩;obtain⟨x,i⟩:=qL170.1 h;rw[i,jf]at m0;subst m0;have key:∀k v,v<=k->v<n->Pu es 0 v:=by
  intro k
  induction k with
  |zero=>grind [Pu.refl]
  |succ k j=>
   intro v l c;by_cases e:v=0
   .grind
   have f:v∉Es n es:=pw;rw[QO]at f;have:∃u,u<v/\Pu es u v:=j9 fun d=>f ⟨c,fun u a b=>d ⟨u,a,b⟩⟩;obtain⟨u,a,d⟩:=this;exact(j u NH NH).trans d
 exact(key _ u (qL0 _) a).symm.trans (key _ v (qL0 _) c)
theorem ZI {l:List α} (nd:l.Nodup) {x:α} (h:l[i]?=some x) (g:l[j]?=some x):i=j:=by grind [List.pairwise_iff_getElem]
theorem bK (h:(vq n es)[k]?=some b):∃x,(CY (cQ n es) es)[k]?=some x/\b=es.filter fun p=>decide (cQ n es p=x):=by grind [aai]
theorem X5 (h:(vq n es)[k]?=some b) (a:p∈b):p∈es:=by grind [bK]
theorem at_mem {v:Int} (a:p∈b) (h:AN v p=true):rG v b=true:=by grind [rG]
theorem NF (hR:bX ⟨(n:Int),es⟩) (f:v<n) {b c:List Pr} (h:(vq n es)[j]?=some b) (g:(vq n es)[k]?=some c) (hb:rG (v:Int) b=true) (d:rG (v:Int) c=true) (ne:j≠k):
  ∃m:Nat,(JL n es)[m]?=some v:=by
 have a:=hR.GD;have h2:1<Sq n es v:=by
  rw[JW,Yt (PS n es v)];obtain⟨x,i,rfl⟩:=bK h;obtain⟨y,l,rfl⟩:=bK g;rw[KQ a]at hb d;refine⟨x,y,(dG a).2 hb,(dG a).2 d,fun e=>ne ?_⟩;subst e;have nd:=(lQ (cQ n es) _ es rfl).1
  grind [ZI]
 rw[YH a]at h2;exact vZ.1 ((OI a v).2 ⟨f,h2⟩)
theorem link_in (h:(vq n es)[i]?=some b) (g:(JL n es)[j]?=some c):((i:Int),(j:Int))∈(mR n es).ls↔rG (c:Int) b=true:=by
 have a:=(Ny.1 h).1;have d:=(Ny.1 g).1;have eb:(vq n es).getD i []=b:=pw;have e:(JL n es).getD j 0=c:=pw;show _∈Rb _ _ _↔_
 grind [ah]
theorem vC (h:(vq n es)[i]?=some b) (g:(JL n es)[j]?=some c) (ha:rG (c:Int) b=true):Jp (bU (vq n es).length (mR n es).ls) i ((vq n es).length+j):=by
 left;refine yM.2 ⟨_,(link_in h g).2 ha,?_⟩
 grind
theorem tj (hR:bX ⟨(n:Int),es⟩) (e:v<n) {b c:List Pr} (h:(vq n es)[j]?=some b) (g:(vq n es)[k]?=some c) (hb:rG (v:Int) b=true) (a:rG (v:Int) c=true):Pu (bU (vq n es).length (mR n es).ls) j k:=by
 by_cases ne:j=k
 .grind [Pu.refl]
 obtain⟨m,d⟩:=NF hR e h g hb a ne;exact(acd (vC h d hb)).trans (acd (vC g d a)).symm
theorem fW (hR:bX ⟨(n:Int),es⟩) (q:u<n) (l:Pu es u v):∀{j k:Nat} {b c:List Pr},(vq n es)[j]?=some b->(vq n es)[k]?=some c->rG (u:Int) b=true->rG (v:Int) c=true->Pu (bU (vq n es).length (mR n es).ls) j k:=by
 have f:=hR.GD
 induction l with
 |refl _=>grind [tj]
 |@step w x _ a _ o=>
  intro j k b c h g hb e;obtain⟨m,d,i,hd,_⟩:=Zg hR (H4 f a);have p:rG (w:Int) d=true:=at_mem hd zo;have h2:rG (x:Int) d=true:=at_mem hd (by rw[so];exact zo);exact(o h i hb p).trans (tj hR (a.lt f).2 i g h2 e)
theorem afQ (hR:bX ⟨(n:Int),es⟩) (k:JoinG n es):Lk (vq n es).length ((vq n es).length+(JL n es).length) (mR n es).ls:=by
 have o:=hR.GD;have f:=u5 hR k.1;have y:=XF hR;have e:∀i b,(vq n es)[i]?=some b->∃a c:Nat,((a:Int),(c:Int))∈b/\a<n/\rG (a:Int) b=true:=fun i b hb=>by
  obtain⟨p,l,rfl⟩:=iy (y.ne b (Gc hb));obtain⟨a,c,rfl,z,q,_⟩:=ends o (X5 hb VU)
  grind [at_mem,AN]
 have blk:∀i,i<(vq n es).length->Pu (bU (vq n es).length (mR n es).ls) 0 i:=fun i hi=>by
  have r:(vq n es)[i]?=some (vq n es)[i]:=XJ hi;have w:(vq n es)[0]?=some (vq n es)[0]:=XJ f;obtain⟨a,_,_,ha,ea⟩:=e _ _ w;obtain⟨c,_,_,s,A⟩:=e _ _ r;exact fW hR ha (uh k.2 ha s) w r ea A
 refine⟨NH,?_,fun p B=>?_,fun v F=>?_⟩
 .have G := tZ o
  have H:(mR n es).ls.length=((JL n es).map (Sq n es)).sum:=by
   show(Rb _ _ _).length=_;rw[Er _ _ _ (qL0 _),yI];rfl
  have r:((Es n es).filter fun h=>decide (0<Sq n es h)).length=1:=by
   obtain⟨x,C⟩:=qL170.1 k.2;have t:x∈Es n es:=by rw[C];simp
   have D:=(QO.1 t).1;obtain⟨p,l,rfl⟩:=iy k.1
   grind [ends,List.mem_cons_self,HJ,FV,uh]
  omega
 .obtain ⟨i, j, hi, E, _, rfl⟩ := (ah _).1 B
  exact⟨Ma,pw,Ma,pw⟩
 .by_cases hb : v < (vq n es).length
  .grind
  obtain⟨j,rfl⟩:∃j,v=(vq n es).length+j:=⟨v-(vq n es).length,NH⟩;have u:j<(JL n es).length:=NH;have s:(JL n es)[j]?=some (JL n es)[j]:=XJ u;obtain⟨q,g⟩:=(OI o _).1 (Gc s);obtain⟨a,_,ha,_⟩:=g;obtain⟨m,d,I,hd,_⟩:=Zg hR (H4 o ha)
  grind [at_mem,zo,Cn.trans,acd,vC]
end
end Go.Fw
namespace Go.Fw
open Go.Proofs
attribute [local instance] Classical.propDecidable
def JS {a j:Nat} (h:j<a):a-(j+1)<a-j:=NH
section
variable {n : Nat} {es : List Pr} {rs : List (List Int)}
end
end Go.Fw
namespace Go.Fw
open Go.Proofs
attribute [local instance] Classical.propDecidable
section
variable {α β : Type} [DecidableEq α]
end
section
variable {n : Nat} {es : List Pr} {rs : List (List Int)}
noncomputable def IN (n:Nat) (rs:AM):AM:=(vf n (Xl rs)).map aab
end
end Go.Fw
namespace Go.Fw
section
attribute [local irreducible] Kp MQ lU rS KO KN KX KE VK Kl ZJ TC aat
attribute [local irreducible] IN
open Go.Proofs
variable {M:Nat} {h:AHeap}
def SA {l:List (Pr×Int)} (a:h.own M=some (.map (aah l))) (k:Pr):aLookupA Tryz.prog h 88 (.map (some M)) (UI k) false=some (.int .i64 ((lookK l k).getD 0)):=adh a k false
end
section
attribute [local instance] Classical.propDecidable
open Go.Proofs
variable {L:RZ} {T i n:Nat} {es:List Pr} {h hh:AHeap}
noncomputable def VF {α:Type} (P:Nat->α->Prop) (l:List α) (a:Nat):Nat:=(l.filter fun e=>decide (P a e)).length
noncomputable def Gn (es l:List Pr) (a:Nat):Nat:=VF (fun a (e:Pr)=>Pu es a e.1.toNat) l a
noncomputable def sA (es:List Pr) (l:AM) (a:Nat):Nat:=VF (fun a (f:RZ)=>Pu es a (f.headD 0).toNat) l a
def z8 (n:Nat) (es:List Pr) (rs:AM):Prop:=∀a∈Es n es,0<Gn es es a->(Ic n es a).length+sA es (IN n rs) a=Gn es es a+2
theorem JE {r:Nat->II} (R:V7 n r) {d:H8} (hd:d∈dl n r):(aab (zu r d)).headD 0=(d.1:Int)/\0<(aab (zu r d)).length:=by
 have:=(abM (TG R) hd).1;have e:List.range (bt (Nv r) d)=0::(List.range' 1 (bt (Nv r) d-1)):=by rw[List.range_eq_range',show bt (Nv r) d=(bt (Nv r) d-1)+1 from by omega,afv];simp
 refine⟨?_,by grind [aab,zu,AA]⟩;simp only[aab,zu,AA,e,vY,zd];rfl
theorem Uj {rs:AM} (a:aV n es) (ha:D3 es) (G:Av n es rs) {f:RZ} (hf:f∈IN n rs):0<f.length/\∃v:Nat,v<n/\f.headD 0=(v:Int):=by
 have R:=G.jD a ha;rw[IN,yM]at hf
 grind [vf.eq_1,gQ,dl,IP,JE]
def stI (o:hh.own T=some (.cells (Bp L))) (hi:i<L.length) (x:Int):
  aStore Tryz.prog hh 3 (.pointer (some ⟨T,i,none⟩)) (.int .i64 x)=some (hh.put T (.cells (Bp (L.set i x)))):=by rw[QB (P:=Tryz.prog) (t:=3) (x:=.int .i64 x) Mb Ji o (off:=i) (by rw[uE];exact hi) rfl rfl,yy]
def XP {l:Int} (o:hh.own T=some (.cells (Bp L))) (a:L[i]?=some l):aload Tryz.prog hh 3 ⟨T,i,none⟩=some (.int .i64 l):=by rw[Fq Mb rfl o];simp[Bp,a]
def Kx (T m:Nat) (k:IntKind) (j:Nat) (a:j<m):aIndexAddr Tryz.prog 49 (.slice (some ⟨T,0,none⟩) m m) (.int k j)=some (.pointer (some ⟨T,j,none⟩)):=by rw[Wc Ac Mb Ji j a];simp[Ip]
structure NewT3 (h h':AHeap) (A B C:Nat) (x:List Value):Prop where
 le:Le h h'
 wf:WF h'
 oA:h'.own A=some (.cells x)
 oB:h'.own B=some (.cells x)
 oC:h'.own C=some (.cells x)
 nA:h.own A=none
 nB:h.own B=none
 nC:h.own C=none
 ab:A≠B
 ac:A≠C
 bc:B≠C
theorem new3 (hw:WF h) (x:List Value):NewT3 h (((h.alloc (.cells x)).alloc (.cells x)).alloc (.cells x)) h.next (h.next+1) (h.next+1+1) x:=by
 have a:∀x,h.next<=x->h.own x=none:=fun x b=>(Le.refl h).next hw b
 have c:h.next+1+1≠h.next:=NH
 have d:h.next+1+1≠h.next+1:=NH
 have e:h.next+1≠h.next:=NH
 exact⟨(((Le.refl h).alloc hw _).alloc (hw.alloc _) _).alloc ((hw.alloc _).alloc _) _,((hw.alloc _).alloc _).alloc _,by grind [Mh],by simp[Mh,om],by simp[Mh,om],a _ (qL0 _),a _ NH,a _ NH,NH,NH,NH⟩
end
section
attribute [local instance] Classical.propDecidable
attribute [local irreducible] Kp MQ lU rS KO KN KX KE VK Kl ZJ TC aat
open Go.Proofs
variable {b0 h:AHeap} {i w:Nat} {rows:AM} {us:List Value}
theorem Rows.put {L:Nat} (R:Rows b0 h L us rows) (k:WF h) {u:Value} {r:RZ} (j:us[w]?=some u) (l:rows[w]?=some r) (hi:i<r.length) (x:Int):
  ∃h',aStore Tryz.prog h 3 (.pointer (some (elemAddr u i))) (.int .i64 x)=some h'/\Rows b0 h' L us (rows.set w (r.set i x))/\WF h'/\(∀f,Le f h->Z2 f u->Le f h')/\(∀b o,h.own b=some o->blk u≠some b->h'.own b=some o):=by
 obtain⟨h',e,g,wf,m,keep⟩:=GI.store (show GI h u r from R.gs w u r j l) k hi x;refine⟨h',e,⟨keep _ _ R.oL (R.nL w u j),by grind [Rows.len],fun v a q ha d=>?_,R.nL,R.TE,R.ap,m _ R.le (R.ap w u j),R.bL⟩,wf,m,keep⟩;rw[LH]at d;by_cases c:w=v
 .subst c
  rw[if_pos rfl,if_pos (Ny.1 l).1]at d;injection d with d;subst d;rw[j]at ha;injection ha with ha;subst ha;exact g
 .rw [if_neg c] at d
  refine(R.gs v a q ha d).kept fun b o hb n=>keep b o n fun sZ=>R.TE w v u a b c j ha sZ hb
theorem OS (l:LA) (v:Value) (xs:RZ) (y:Int) (h:AHeap) (d:RL RP h v xs) (s:xs.length<=100000):AC Tryz.prog l 141 [v,.int .i64 y] h fun x h'=>((x=.int .i64 (-1)/\y∉xs)\/∃i,∃hi:i<xs.length,x=.int .i64 (i:Nat)/\xs[i]=y/\∀j (b:j<i),xs[j]≠y)/\h'=h:=by
 refine AC.vE ⟨qS33,rfl,WY⟩ Tryz.ntmps141 Tryz.results141 fun m=>?_;simp only[Br,Nat.reduceAdd];have n:=fun g=>d.DH g;refine Sk n ?_;refine aat.intro (fun k fr e=>∃i,k=xs.length-i/\i<=xs.length/\fr=mkF [(0,v),(1,.int .i64 y),(7,.int .i64 xs.length),(8,.int .i64 i)]/\e=h/\∀j (b:j<xs.length),j<i->xs[j]≠y)
  xs.length [(0,v),(1,.int .i64 y),(7,.int .i64 xs.length),(8,.int .i64 (0:Nat))] fD ⟨0,rfl,Og _,rfl,rfl,fun j _ b=>absurd b (Po _)⟩ ?_
 rintro k fr e o ⟨i,rfl,hi,rfl,rfl,p⟩;refine Uy ?_;refine Kl.intro (fun f=>?_) (fun hf=>?_)
 .have a : i < xs.length := CC f
  clear f;have ad:=d.TA i a;have ld:=d.Uc i a;have hw:=Tw i NH;by_cases c:y=xs[i]
  .simp only [HO, Nat.reduceLT, ↓reduceIte, Nat.reduceEqDiff, reduceCtorEq, ad, ld, decide_eq_true c]
   grind
  .simp only [HO, Nat.reduceLT, ↓reduceIte, Nat.reduceEqDiff, reduceCtorEq, ad, ld, decide_eq_false c, hw]
   refine tn (xs.length-(i+1)) [(0,v),(1,.int .i64 y),(7,.int .i64 xs.length),(8,.int .i64 (i+1:Nat))] (JS a) fD ⟨i+1,rfl,a,rfl,rfl,fun j b q=>?_⟩
   grind
 .have r : xs.length <= i := vp hf
  refine Uy ?_
  grind [List.mem_iff_getElem]
theorem W3 (b:LA) (v:Value) (xs:RZ) (y:Int) (h:AHeap) (c:RL RP h v xs) (e:xs.length<=100000):AC Tryz.prog b 101 [v,.int .i64 y] h fun x h'=>x=.bool (decide (y∈xs))/\h'=h:=by
 refine AC.vE ⟨qS34,rfl,WY⟩ Tryz.ntmps101 Tryz.results101 fun f=>?_;simp only[Br,Nat.reduceAdd];refine Uy ?_;refine TC.intro PJ ⟨qS33,rfl,WY⟩ (OS b v xs y h c e) ?_;rintro x h2 w2 ⟨⟨rfl,a⟩|⟨i,hi,rfl,a,-⟩,rfl⟩
 .have d : decide ((-1 : Int) >= 0) = false := by decide
  simp only[HO,Nat.reduceLT,↓reduceIte,Nat.reduceEqDiff,reduceCtorEq,d,decide_eq_false a]
  grind
 .have d : decide ((i : Int) >= 0) = true := by simp
  have g:y∈xs:=a▸Gw hi;simp only[HO,Nat.reduceLT,↓reduceIte,Nat.reduceEqDiff,reduceCtorEq,d,decide_eq_true g]
  grind
end
section
open Go.Proofs
variable {es:List Pr} {n:Nat} {rs:AM}
attribute [local instance] Classical.propDecidable in
theorem vS {n:Nat} {es:List Pr} {rs:AM} (c:aV n es) (ha:D3 es) (G:Av n es rs) (j:0<n) (g:∀v,v<n->Pu es 0 v):
  z8 n es rs↔(0<es.length->n+(IN n rs).length=es.length+2):=by
 have all:∀a,a<n->Gn es es a=es.length/\(Ic n es a).length=n/\sA es (IN n rs) a=(IN n rs).length:=fun a d=>by
  have k:∀v,v<n->Pu es a v:=fun v i=>(g a d).symm.trans (g v i);refine⟨?_,?_,?_⟩
  .unfold Gn VF
   rw[OM.2];intro e l;have h:=c e l
   grind
  .grind [Ic,List.filter_eq_self]
  .unfold sA VF
   rw[OM.2];intro f hf;obtain⟨_,v,i,e⟩:=Uj c ha G hf
   grind
 constructor
 .intro H m
  obtain⟨a,b,_⟩:=B6 c 0 j;obtain⟨o,p,e3⟩:=all a (QO.1 b).1;have:=H a b pw
  grind
 .intro H a b
  grind [QO]
def rotG_of (h:rs.length=n) (d:(List.range n).all (fun v=>(rs.getD v []).isPerm ((Zh n es).getD v []))=true):Av n es rs:=
 ⟨h,fun v a=>List.isPerm_iff.1 (uV.1 d v (ZT.2 a))⟩
theorem X9 (a:bX ⟨(n:Int),es⟩) (G:Av n es rs) {hs:List (H8×Nat)} (C:Cert n (Xl rs) hs):IN n rs=hs.map fun p=>(List.range p.2).map fun j=>(((it (Nv (Xl rs)) j p.1).1:Nat):Int):=by
 rw[IN,Fs (G.jD a.GD a.q9) C,FD]
 grind [List.map_congr_left,aab]
instance (n:Nat) (r:Nat->II) (hs:List (H8×Nat)):Decidable (Cert n r hs):=by unfold Cert;infer_instance
end
end Go.Fw
namespace Go.Fw
attribute [local instance] Classical.propDecidable
theorem Td {α:Type} {p q:α->Bool}:∀(l:List α),(∀v∈l,p v=true\/q v=true)->(l.filter p).length+(l.filter q).length=l.length+(l.filter fun v=>p v&&q v).length
 |[],_=>rfl
 |x::l,h=>by
  have c:=Td l fun v b=>h v (kc _ b)
  grind
theorem FP {P:Nat->Nat->Prop} {r:Nat->II} {v:Nat} (h:∀w∈r v,P v w):Om P r v=r v:=by grind [Om.eq_1,List.filter_eq_self]
theorem Ud {n:Nat} {s:Nat->II} (S:V7 n s) {l:List Pr} (nd:l.Nodup) (c:aV n l) (h:∀v w,w∈s v↔Jp l v w):(dl n s).length=2*l.length:=by
 have key:∀l:List Pr,(l.flatMap fun p=>[(p.1.toNat,p.2.toNat),(p.2.toNat,p.1.toNat)]).length=2*l.length:=by
  intro l
  induction l<;>grind
 rw[<-key l];refine(yR (J8 S) ?_ fun d=>?_).length_eq
 .rw [IE, aa4]
  refine⟨fun p b=>?_,?_⟩
  .have := c p b
   grind
  .rw [IE] at nd
   refine Uz (fun{p q} b e f=>?_) nd;have g:=c p b;have h2:=c q e
   grind
 .rw [IP S, h, Cg]
  obtain⟨v,w⟩:=d;simp only[Jp,aaW,K4,or_false,AE];constructor
  .grind
  .rintro ⟨p, b, ⟨rfl, rfl⟩ | ⟨rfl, rfl⟩⟩
   .have := c p b
    grind
   .have := c p b
    grind
section
variable {n : Nat} {es : List Pr} {rs : List (List Int)} {a : Nat}
theorem T8 (t:aV n es) (ha:D3 es) (G:Av n es rs) (F:a∈Es n es) (C:0<Gn es es a):∃g,(Ic n es a).length+sA es (IN n rs) a+2*g=Gn es es a+2:=by
 obtain⟨H,I⟩:=QO.1 F;have R:=G.jD t ha;generalize m:Xl rs=r at R;have j:∀v w,w∈r v↔Jp es v w:=fun v w=>by rw[<-m];exact G.mem t
 have S:V7 n (Om (fun v w=>Pu es a v/\Pu es a w) r):=OG R fun v w h=>⟨h.2,h.1⟩;generalize hs:Om (fun v w=>Pu es a v/\Pu es a w) r=s at S;have i:∀v w,w∈s v↔Jp es v w/\Pu es a v:=fun v w=>by
  rw[<-hs,EM,j];exact⟨fun h=>⟨h.1,h.2.1⟩,fun h=>⟨h.1,h.2,h.2.step h.1 rfl⟩⟩
 have row:∀v,Pu es a v->s v=r v:=fun v u=>by
  rw[<-hs];exact FP fun w hw=>⟨u,u.step ((j v w).1 hw) rfl⟩
 have J:∀v y,Cr s v y->v=y\/(Pu es a v/\Pu es a y):=fun v y h=>by
  induction h with
  |refl=>grind
  |@step b c _ K z=>
   obtain⟨f,h2⟩:=(i _ _).1 K;right;rcases z with rfl|⟨h3,_⟩
   .exact⟨h2,h2.step f rfl⟩
   .exact⟨h3,h2.step f rfl⟩
 have L:∀y,Pu es a y->Cr s a y:=fun y h=>by
  induction h with
  |refl=>exact .refl _
  |step f h2 _ z=>exact z.step ((i _ _).2 ⟨h2,f⟩)
 have M:iJ n s+(Ic n es a).length=n+1:=by
  have D:iJ n s=((List.range n).filter fun v=>decide (v=a\/¬Pu es a v)).length:=by
   rw[iJ,Yy (M1 _).symm (Cr.eqv S _),zE (lt:=fun a b=>a<b) (fun a b h g=>absurd h (Nat.lt_asymm g)) _ _ rfl (uA n)]
   grind [Cr.symm,Cn.symm]
  have N:=Td (p:=fun v=>decide (v=a\/¬Pu es a v)) (q:=fun v=>decide (Pu es a v)) (List.range n) fun v _=>by grind
  have e3:((List.range n).filter fun v=>decide (v=a\/¬Pu es a v)&&decide (Pu es a v)).length=1:=by
   refine Cq ?_ (x:=a) ?_ ?_
   all_goals grind [List.nodup_range,Pu.refl]
  grind [Ic]
 have nb:∀v,Pu es a v->∃w,Jp es v w:=fun v u=>by
  unfold Gn VF at C;obtain⟨e,l⟩:=sL C;rw[eR,decide_eq_true_eq]at l;have O:=t e l.1;by_cases c:v=e.1.toNat
  .refine ⟨e.2.toNat, .inl ?_⟩
   grind
  .exact(FV (u.symm.trans l.2) c).1
 have E:((List.range n).filter fun v=>decide (s v=[])).length+(Ic n es a).length=n:=by
  have N:=Td (p:=fun v=>decide (s v=[])) (q:=fun v=>decide (Pu es a v)) (List.range n) fun v _=>by
   simp only[decide_eq_true_eq];by_cases c:Pu es a v
   .exact .inr c
   .left
    rw[Lm]
    grind
  have e3:((List.range n).filter fun v=>decide (s v=[])&&decide (Pu es a v))=[]:=by
   rw[dZ]
   grind
  grind [Ic]
 have A:(dl n s).length=2*Gn es es a:=by
  unfold Gn VF;refine Ud S (ha.nodup.sublist fR) (fun p P=>t p (eR.1 P).1) fun v w=>?_;rw[i];simp only[Jp,eR,decide_eq_true_eq,Sb];constructor
  .rintro ⟨f | f, h2⟩
   .grind
   .exact .inr ⟨f,h2.step (.inr f) rfl⟩
  .rintro (⟨f, h2⟩ | ⟨f, h2⟩)
   .grind
   .exact⟨.inr f,h2.step (.inl f) rfl⟩
 have p:=TG R;have q:=TG S;have Q:∀d:H8,Pu es a d.2->Nv s d=Nv r d:=fun d hd=>by
  show(d.2,nx (s d.2) d.1)=(d.2,nx (r d.2) d.1);rw[row _ hd]
 have T:∀d:H8,d.2∈s d.1->Pu es a d.2:=fun d hd=>by
  obtain⟨f,h2⟩:=(i _ _).1 hd;exact h2.step f rfl
 have o:∀(k:Nat) (d:H8),d.2∈s d.1->it (Nv s) k d=it (Nv r) k d:=fun k d hd=>by
  induction k with
  |zero=>rfl
  |succ k z=>
   show Nv s (it (Nv s) k d)=Nv r (it (Nv r) k d);have U:=q.uN ((IP S).2 hd) k
   grind [IP]
 have B:sA es (IN n rs) a=(L3 n s).length:=by
  have D:L3 n s=(L3 n r).filter fun d=>decide (Pu es a d.1):=by
   refine sx JN (fun _ _ _=>Nd) _ _ ((pI n s).filter _) (((pI n r).filter _).filter _) fun d=>?_;rw[eR,decide_eq_true_eq];show d∈L3 n s↔d∈L3 n r/\_;rw[gQ S,gQ R,i,j];constructor
   .rintro ⟨⟨f, h2⟩, h3⟩
    refine⟨⟨f,?_⟩,h2⟩;rintro e ⟨k,rfl⟩;rw[<-o k d ((i _ _).2 ⟨f,h2⟩)];exact h3 _ ⟨k,rfl⟩
   .rintro ⟨⟨f, h3⟩, h2⟩
    refine⟨⟨f,h2⟩,?_⟩;rintro e ⟨k,rfl⟩;rw[o k d ((i _ _).2 ⟨f,h2⟩)];exact h3 _ ⟨k,rfl⟩
  rw[D,sA,VF,IN,m,vf,FD,abl,jz];congr 1
  grind [List.filter_congr,gQ,JE,IP,Int.toNat_natCast]
 obtain⟨g,hg⟩:=Z4 S;rw[mj,<-yp S,<-B,A]at hg;exact⟨g,NH⟩
end
end Go.Fw
namespace Go.Fw
attribute [local instance] Classical.propDecidable
theorem yB {P:Nat->Prop}:∀(hs:II),hs.Nodup->(∃a∈hs,P a)->(∀a∈hs,∀b∈hs,P a->P b->a=b)->(hs.map fun a=>if P a then 1 else 0).sum=1
 |[],_,h,_=>by obtain⟨a,ha,_⟩:=h;cases ha
 |x::hs,nd,h,u=>by
  rw[xD]at nd;rw[vY,PN];by_cases c:P x
  .have z : ∀ a ∈ hs, ¬ P a := fun a ha d => nd.1 pw
   have:∀l:II,(∀a∈l,¬P a)->(l.map fun a=>if P a then 1 else 0).sum=0:=by
    intro l
    induction l<;>grind
   grind
  .rw [if_neg c, yB hs nd.2 ?_ fun a ha b hb => u a (kc _ ha) b (kc _ hb)]
   grind
def aS (f g:Nat->Nat):∀l:II,(l.map fun a=>f a+g a).sum=(l.map f).sum+(l.map g).sum
 |[]=>rfl
 |x::l=>by simp only[vY,PN,aS f g l];omega
theorem fH {α:Type} {P:Nat->α->Prop} {hs:II} (nd:hs.Nodup):∀(l:List α),(∀e∈l,∃a∈hs,P a e)->(∀e∈l,∀a∈hs,∀b∈hs,P a e->P b e->a=b)->(hs.map fun a=>VF P l a).sum=l.length
 |[],_,_=>by
  have:∀l:II,(l.map fun a=>VF P ([]:List α) a).sum=0:=by
   intro l
   induction l with
   |nil=>rfl
   |cons x l c=>rw[vY,PN,c];rfl
  exact this hs
 |e::l,h,u=>by
  have c:=fH nd l (fun x d=>h x (kc _ d)) fun x d=>u x (kc _ d)
  have f:∀a,VF P (e::l) a=(if P a e then 1 else 0)+VF P l a:=fun a=>by grind [VF]
  simp only[f];rw[aS,c,yB (P:=fun a=>P a e) hs nd (h e VU) (u e VU),U9];omega
theorem Qs (l:II) (p:Nat->Prop) [DecidablePred p]:(l.map fun a=>if p a then 1 else 0).sum=(l.filter fun a=>decide (p a)).length:=by
 induction l<;>grind
section
variable {n : Nat} {es : List Pr} {rs : List (List Int)}
theorem acD (c:aV n es) {v:Nat} (d:v<n):(∃a∈Es n es,Pu es a v)/\∀a∈Es n es,∀b∈Es n es,Pu es a v->Pu es b v->a=b:=
 ⟨B6 c v d,fun _ ha _ hb e h2=>rf ha hb (e.trans h2.symm)⟩
theorem yr (c:aV n es):((Es n es).map fun a=>(Ic n es a).length).sum=n:=by
 have:=fH (P:=fun a v=>Pu es a v) (qD n es) (List.range n) (fun v b=>(acD c (ZT.1 b)).1) fun v b=>(acD c (ZT.1 b)).2
 grind [VF,Ic]
theorem Rr (b:aV n es):((Es n es).map fun a=>Gn es es a).sum=es.length:=by
 have d:∀e∈es,e.1.toNat<n:=fun e c=>by have:=b e c;omega
 unfold Gn
 grind [fH,qD,acD]
theorem lJ (b:aV n es) (ha:D3 es) (G:Av n es rs):((Es n es).map fun a=>sA es (IN n rs) a).sum=(IN n rs).length:=by
 have c:∀f∈IN n rs,(f.headD 0).toNat<n:=fun f hf=>by obtain⟨_,v,c,e⟩:=Uj b ha G hf;grind
 unfold sA
 grind [fH,qD,acD]
theorem MP (j:aV n es) {a:Nat} (d:a<n):0<Gn es es a↔1<(Ic n es a).length:=by
 have nd:(Ic n es a).Nodup:=by grind [Ic,List.filter_sublist]
 constructor
 .intro h
  unfold Gn VF at h;obtain⟨e,b⟩:=sL h;rw[eR,decide_eq_true_eq]at b;have k:=j e b.1;have h2:Pu es a e.2.toNat:=b.2.step (.inl pw) rfl;have:=tf (A:=[e.1.toNat,e.2.toNat]) (B:=Ic n es a) (by simp;omega) fun x l=>by grind [mY]
  grind
 .intro h
  have:∃v∈Ic n es a,v≠a:=j9 fun i=>by
   have c:∀v∈Ic n es a,v=a:=fun v f=>j9 fun q=>i ⟨v,f,q⟩;have:=Cq nd (mY.2 ⟨d,Pu.refl es a⟩) c;omega
  obtain⟨v,f,g⟩:=this;obtain⟨w,hw⟩:=(FV (mY.1 f).2 (ff g)).1;unfold Gn VF;have:∃e∈es,Pu es a e.1.toNat:=by
   rcases hw with hw|hw
   .exact⟨_,hw,by simpa using Pu.refl es a⟩
   .exact⟨_,hw,by simpa using acd (.inr hw)⟩
  obtain⟨e,b,i⟩:=this;exact JR (eR.2 ⟨b,pw⟩)
end
end Go.Fw
namespace Go.Fw
section
attribute [local instance] Classical.propDecidable
attribute [local irreducible] Kp MQ lU rS KO KN KX KE VK Kl ZJ TC aat
open Go.Proofs
theorem QY (g:LA) (v:Value) (xs:RZ) (h:AHeap) (e:RL RP h v xs) (p:xs.length<=100000):AC Tryz.prog g 93 [v] h fun x h'=>GI h' x xs/\Le h h'/\Z2 h x:=by
 obtain⟨a,c,rfl,hs⟩:=e.sl;refine AC.vE ⟨afI,rfl,WY⟩ Tryz.ntmps93 Tryz.results93 fun d=>?_;simp only[Br,Nat.reduceAdd];cases a with
 |none=>
  have i:xs=[]:=by
   cases xs<;>grind
  subst i;simp only[HO,Nat.reduceLT,↓reduceIte,Nat.reduceEqDiff,reduceCtorEq,aEq,Ac,Option.isNone_none];exact⟨GI.nil _,Le.refl _,fun b hb=>by grind [blk]⟩
 |some a=>
  obtain⟨f,j,l1,w1,k⟩:=Tt d []
  have mk:aBuildSlice Tryz.prog h 49 0 []=some (.slice (some ⟨h.next,0,none⟩) 0 0,f):=by rw[<-j];rfl
  have q:h.own h.next=none:=(Le.refl h).next d (qL0 _)
  have l:GI f (.slice (some ⟨h.next,0,none⟩) 0 0) []:=GS.full k rfl WY
  have m:Z2 h (.slice (some ⟨h.next,0,none⟩) 0 0):=fun b hb=>by injection hb with hb;grind
  obtain⟨r,s,n,t,u,o,-⟩:=GI.join l w1 (e.le Nn.RP l1) (by simp;omega);obtain⟨l6,w⟩:=o h l1 m;simp only[HO,Nat.reduceLT,↓reduceIte,Nat.reduceEqDiff,reduceCtorEq,aEq,Ac,dr,mk,n]
  grind
end
section
attribute [local instance] Classical.propDecidable
open Go.Proofs
variable {i:Nat} {xs ys:RZ}
def eD (xs ys:RZ) (i:Nat):Prop:=ys.length=xs.length/\∀p,p<xs.length->ys[p]?=if p<i\/xs.length-i<=p then xs[xs.length-1-p]? else xs[p]?
theorem eD.zero (xs:RZ):eD xs xs 0:=⟨rfl,fun p a=>by grind⟩
theorem eD.fin (R:eD xs ys i) (h:xs.length<=2*i+1):ys=xs.reverse:=by
 apply mJ;intro p;by_cases a:p<xs.length
 .rw [R.2 p a, aa1 a]
  grind
 .rw[xH (by rw[R.1];omega),xH pw]
theorem eD.step {xs ys:RZ} {i:Nat} (R:eD xs ys i) (h:2*i+1<xs.length) (a:i<ys.length) (h2:xs.length-1-i<ys.length):
  eD xs ((ys.set i ys[xs.length-1-i]).set (xs.length-1-i) ys[i]) (i+1):=by
 refine⟨by simp[R.1],fun p b=>?_⟩;have c:ys[xs.length-1-i]?=xs[xs.length-1-i]?:=by rw[R.2 _ NH,if_neg NH]
 have d:ys[i]?=xs[i]?:=by rw[R.2 _ NH,if_neg NH]
 rw[XJ h2]at c;rw[XJ a]at d;by_cases c1:p=xs.length-1-i
 .grind
 .rw [qL220 (ff c1)]
  by_cases c2:p=i
  .grind
  .rw [qL220 (ff c2), R.2 p b]
   grind
end
section
attribute [local instance] Classical.propDecidable
attribute [local irreducible] Kp MQ lU rS KO KN KX KE VK Kl ZJ TC aat
open Go.Proofs
theorem Wk (w:LA) (u:Value) (xs:RZ) (h:AHeap) (g:GI h u xs) (L:xs.length<=100000):
  AC Tryz.prog w 94 [u] h fun _ h'=>GI h' u xs.reverse/\(∀f,Le f h->Z2 f u->Le f h')/\∀b o,h.own b=some o->blk u≠some b->h'.own b=some o:=by
 refine AC.vE ⟨afJ,rfl,WY⟩ Tryz.ntmps94 Tryz.results94 fun x=>?_;simp only[Br,Nat.reduceAdd];have lu:=fun y=>(GI.rl g).DH y;have z:awrap .i64 ((xs.length:Int)-1)=(xs.length:Int)-1-((0:Nat):Int):=by grind [ie]
 simp only[HO,Nat.reduceLT,↓reduceIte,Nat.reduceEqDiff,reduceCtorEq,lu,z];refine aat.intro (fun k fr j=>∃(i:Nat) (ys:RZ),k=xs.length-i/\2*i<=xs.length/\fr=mkF [(0,u),(2,.int .i64 i),(3,.int .i64 ((xs.length:Int)-1-(i:Int)))]/\eD xs ys i/\GI j u ys/\(∀f,Le f h->Z2 f u->Le f j)/\∀b o,h.own b=some o->blk u≠some b->j.own b=some o)
  xs.length [(0,u),(2,.int .i64 (0:Nat)),(3,.int .i64 ((xs.length:Int)-1-((0:Nat):Int)))] fD
  ⟨0,xs,rfl,Og _,rfl,eD.zero xs,g,fun f n _=>n,fun b o hb _=>hb⟩ ?_
 rintro k fr j p ⟨i,ys,rfl,hi,rfl,R,v,A,B⟩;by_cases c:2*i+1<xs.length
 .have d : decide ((i : Int) < (xs.length : Int) - 1 - (i : Int)) = true := decide_eq_true NH
  have C:(xs.length:Int)-1-(i:Int)=((xs.length-1-i:Nat):Int):=NH;have l:i<ys.length:=by rw[R.1];omega
  have h2:xs.length-1-i<ys.length:=by rw[R.1];omega
  have m:=GI.rl v;have q:=m.TA i l;have e:=m.TA _ h2;have ld1:=m.Uc i l;have r:=m.Uc _ h2;obtain⟨M,D,E,F,l5,G⟩:=GI.store v p l ys[xs.length-1-i];obtain⟨N,H,I,O,l6,J⟩:=GI.store E F (i:=xs.length-1-i) pw ys[i];have K:=R.step c l h2;have s:=Tw i NH;have t:awrap .i64 ((xs.length:Int)-1-(i:Int)-1)=(xs.length:Int)-1-((i+1:Nat):Int):=by grind [ie]
  rw[<-C]at e;refine Sk d ?_;refine gh (tA [0,1,2,3,4,5,6,7,8,9,10,11,12] (JQ 13 [0,1,4,5,6,7,11,12] (tA [14] (JQ 15 [0,1,2,3,4,5,6,7,8,9,10,11,12,13,14] .done)))) ?_;simp only[HO,Nat.reduceLT,↓reduceIte,Nat.reduceEqDiff,reduceCtorEq,Nat.reduceBEq,Qg,q,e,ld1,r,D,H,s,t];exact tn (xs.length-(i+1)) [(0,u),(2,.int .i64 (i+1:Nat)),(3,.int .i64 ((xs.length:Int)-1-((i+1:Nat):Int)))] (JS NH) fD
   ⟨i+1,_,rfl,NH,rfl,K,I,fun f n af=>l6 f (l5 f (A f n af) af) af,fun b o hb a=>J b o (G b o (B b o hb a) a) a⟩
 .have d : decide ((i : Int) < (xs.length : Int) - 1 - (i : Int)) = false := decide_eq_false NH
  refine Sk d ?_
  grind [eD.fin]
end
end Go.Fw
