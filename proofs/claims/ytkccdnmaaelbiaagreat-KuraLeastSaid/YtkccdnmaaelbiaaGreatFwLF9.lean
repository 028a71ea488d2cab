/- A text. -/
import Derived.Test.YtkccdnmaaelbiaaGreatFwLM1
set_option linter.all false
set_option maxRecDepth 99999
set_option maxHeartbeats 9999999
namespace Go.Fw
section
attribute [local instance] Classical.propDecidable
attribute [local irreducible] Kp MQ lU rS KO KN KX KE VK Kl ZJ TC aaa
open Go.Proofs
variable {b0 h:AHeap} {i w:Nat} {rows:AM} {us:List Value}
theorem Rows.put {L:Nat} (R:Rows b0 h L us rows) (k:WF h) {u:Value} {r:RZ} (j:us[w]?=some u) (l:rows[w]?=some r) (hi:i<r.length) (x:Int):
  ∃h',aStore Tryz.prog h 3 (.pointer (some (elemAddr u i))) (.int .i64 x)=some h'/\Rows b0 h' L us (rows.set w (r.set i x))/\WF h'/\(∀f,Le f h->Z2 f u->Le f h')/\(∀b o,h.own b=some o->blk u≠some b->h'.own b=some o):=by
 obtain⟨h',e,g,wf,m,keep⟩:=GI.store (show GI h u r from R.gs w u r j l) k hi x;refine⟨h',e,⟨keep _ _ R.oL (R.nL w u j),by grind [Rows.len],fun v a q ha d=>?_,R.nL,R.TE,R.ap,m _ R.le (R.ap w u j),R.bL⟩,wf,m,keep⟩;rw[K4]at d;by_cases c:w=v
 .subst c
  rw[if_pos rfl,if_pos (qL0.1 l).1]at d;injection d with d;subst d;rw[j]at ha;injection ha with ha;subst ha;exact g
 .rw [if_neg c] at d
  refine(R.gs v a q ha d).kept fun b o hb n=>keep b o n fun sZ=>R.TE w v u a b c j ha sZ hb
theorem OS (l:LA) (v:Value) (xs:RZ) (y:Int) (h:AHeap) (d:RL RP h v xs) (s:xs.length<=100000):AC Tryz.prog l 141 [v,.int .i64 y] h fun x h'=>((x=.int .i64 (-1)/\y∉xs)\/∃i,∃hi:i<xs.length,x=.int .i64 (i:Nat)/\xs[i]=y/\∀j (b:j<i),xs[j]≠y)/\h'=h:=by
 refine AC.vE ⟨qS35,rfl,WY⟩ Tryz.ntmps141 Tryz.results141 fun m=>?_;simp only[Br,Nat.reduceAdd];have n:=fun g=>d.Uc g;refine Sk n ?_;refine aaa.intro (fun k fr e=>∃i,k=xs.length-i/\i<=xs.length/\fr=mkF [(0,v),(1,.int .i64 y),(7,.int .i64 xs.length),(8,.int .i64 i)]/\e=h/\∀j (b:j<xs.length),j<i->xs[j]≠y)
  xs.length [(0,v),(1,.int .i64 y),(7,.int .i64 xs.length),(8,.int .i64 (0:Nat))] fD ⟨0,rfl,AE _,rfl,rfl,fun j _ b=>absurd b (To _)⟩ ?_
 rintro k fr e o ⟨i,rfl,hi,rfl,rfl,p⟩;refine Uy ?_;refine Kl.intro (fun f=>?_) (fun hf=>?_)
 .have a : i < xs.length := CC f
  clear f;have ad:=d.TA i a;have ld:=d.DH i a;have hw:=Tw i NH;by_cases c:y=xs[i]
  .simp only [HO, Nat.reduceLT, ↓reduceIte, Nat.reduceEqDiff, reduceCtorEq, ad, ld, decide_eq_true c]
   grind
  .simp only [HO, Nat.reduceLT, ↓reduceIte, Nat.reduceEqDiff, reduceCtorEq, ad, ld, decide_eq_false c, hw]
   refine tn (xs.length-(i+1)) [(0,v),(1,.int .i64 y),(7,.int .i64 xs.length),(8,.int .i64 (i+1:Nat))] (JS a) fD ⟨i+1,rfl,a,rfl,rfl,fun j b q=>?_⟩
   grind
 .have r : xs.length <= i := vp hf
  refine Uy ?_
  grind [List.mem_iff_getElem]
theorem W3 (b:LA) (v:Value) (xs:RZ) (y:Int) (h:AHeap) (c:RL RP h v xs) (e:xs.length<=100000):AC Tryz.prog b 101 [v,.int .i64 y] h fun x h'=>x=.bool (decide (y∈xs))/\h'=h:=by
 refine AC.vE ⟨qS36,rfl,WY⟩ Tryz.ntmps101 Tryz.results101 fun f=>?_;simp only[Br,Nat.reduceAdd];refine Uy ?_;refine TC.intro PJ ⟨qS35,rfl,WY⟩ (OS b v xs y h c e) ?_;rintro x h2 w2 ⟨⟨rfl,a⟩|⟨i,hi,rfl,a,-⟩,rfl⟩
 .have d : decide ((-1 : Int) >= 0) = false := by decide
  simp only[HO,Nat.reduceLT,↓reduceIte,Nat.reduceEqDiff,reduceCtorEq,d,decide_eq_false a]
  grind
 .have d : decide ((i : Int) >= 0) = true := by simp
  have g:y∈xs:=a▸Gw hi;simp only[HO,Nat.reduceLT,↓reduceIte,Nat.reduceEqDiff,reduceCtorEq,d,decide_eq_true g]
  grind
end
section
open Go.Proofs
variable {es:List Pr} {n:Nat} {rs:AM}
attribute [local instance] Classical.propDecidable in
theorem vS {n:Nat} {es:List Pr} {rs:AM} (c:aV n es) (ha:D3 es) (G:Av n es rs) (j:0<n) (g:∀v,v<n->Pu es 0 v):
  z8 n es rs↔(0<es.length->n+(IN n rs).length=es.length+2):=by
 have all:∀a,a<n->Gn es es a=es.length/\(Ic n es a).length=n/\sA es (IN n rs) a=(IN n rs).length:=fun a d=>by
  have k:∀v,v<n->Pu es a v:=fun v i=>(g a d).symm.trans (g v i);refine⟨?_,?_,?_⟩
  .unfold Gn VF
   rw[b7.2];intro e l;have h:=c e l
   grind
  .grind [Ic,List.filter_eq_self]
  .unfold sA VF
   rw[b7.2];intro f hf;obtain⟨_,v,i,e⟩:=Uj c ha G hf
   grind
 constructor
 .intro H m
  obtain⟨a,b,_⟩:=B6 c 0 j;obtain⟨o,p,e3⟩:=all a (QO.1 b).1;have:=H a b pw
  grind
 .intro H a b
  grind [QO]
def rotG_of (h:rs.length=n) (d:(List.range n).all (fun v=>(rs.getD v []).isPerm ((Zh n es).getD v []))=true):Av n es rs:=
 ⟨h,fun v a=>List.isPerm_iff.1 (uV.1 d v (j9.2 a))⟩
theorem X9 (a:bX ⟨(n:Int),es⟩) (G:Av n es rs) {hs:List (H8×Nat)} (C:Cert n (Xl rs) hs):IN n rs=hs.map fun p=>(List.range p.2).map fun j=>(((it (Nv (Xl rs)) j p.1).1:Nat):Int):=by
 rw[IN,Fs (G.jD a.GD a.q9) C,Q4]
 grind [List.map_congr_left,kz]
instance (n:Nat) (r:Nat->II) (hs:List (H8×Nat)):Decidable (Cert n r hs):=by unfold Cert;infer_instance
end
section
attribute [local instance] Classical.propDecidable
attribute [local irreducible] IN z8 Zh
open Go.Proofs
variable {m:Nat} {x:Int}
def turn_k (b:0<=x) (c:0<m) (d:m<=1188):∃k:Nat,k<m/\x.tmod (m:Int)=(k:Int)/\awrap .i64 (k:Int)=(k:Int):=by
 obtain⟨a,rfl⟩:=HV b;have:=CG a c;exact⟨a%m,this,tm_nat a m,ie _ NH NH⟩
def wrap_b (a:0<=x) (b:x<256):awrap .i64 x=x:=ie _ NH NH
end
end Go.Fw
namespace Go.Fw
open Go.Proofs Go.ChangeShapes Go.WideShapes Go.RowKit
section
variable {H : Type} {enc : TypeId × Value → H} {W : World}
def ae6 {v:Value} {d:DataW H} {ps:List MemPlace} {b0:Nat} (b:Value.okWide Tryz.prog W .any b0 42 v) (h:DataW.Trod enc Tryz.prog W 0 (fun _=>true) true 42 v d ps) (m:rC):
  ∃u xs,VR 0 m u v/\RL isB (MR W) u xs:=by
 obtain⟨fuel,h⟩:=h;obtain⟨a,len,cap,rfl⟩:=okWide_slice qS26 b;obtain⟨g,r,R,c,e,f⟩:=Vd qS26 Ji (rd_u8 qS17) _ _ _ h;simp[Value.cells]at c;subst c;exact⟨r,R,VR.jC e,f⟩
end
end Go.Fw
namespace Go.Fw
attribute [local instance] Classical.propDecidable
theorem Td {α:Type} {p q:α->Bool}:∀(l:List α),(∀v∈l,p v=true\/q v=true)->(l.filter p).length+(l.filter q).length=l.length+(l.filter fun v=>p v&&q v).length
 |[],_=>rfl
 |x::l,h=>by
  have c:=Td l fun v b=>h v (ZT _ b)
  grind
theorem FP {P:Nat->Nat->Prop} {r:Nat->II} {v:Nat} (h:∀w∈r v,P v w):Om P r v=r v:=by grind [Om.eq_1,List.filter_eq_self]
theorem Ud {n:Nat} {s:Nat->II} (S:V7 n s) {l:List Pr} (nd:l.Nodup) (c:aV n l) (h:∀v w,w∈s v↔Jp l v w):(dl n s).length=2*l.length:=by
 have key:∀l:List Pr,(l.flatMap fun p=>[(p.1.toNat,p.2.toNat),(p.2.toNat,p.1.toNat)]).length=2*l.length:=by
  intro l
  induction l<;>grind
 rw[<-key l];refine(yR (J8 S) ?_ fun d=>?_).length_eq
 .rw [Sb, Jf]
  refine⟨fun p b=>?_,?_⟩
  .have := c p b
   grind
  .rw [Sb] at nd
   refine wI (fun{p q} b e f=>?_) nd;have g:=c p b;have h2:=c q e
   grind
 .rw [IP S, h, Lm]
  obtain⟨v,w⟩:=d;simp only[Jp,Z6,ff,or_false,si];constructor
  .grind
  .rintro ⟨p, b, ⟨rfl, rfl⟩ | ⟨rfl, rfl⟩⟩
   .have := c p b
    grind
   .have := c p b
    grind
section
variable {n : Nat} {es : List Pr} {rs : List (List Int)} {a : Nat}
theorem T8 (t:aV n es) (ha:D3 es) (G:Av n es rs) (F:a∈Es n es) (C:0<Gn es es a):∃g,(Ic n es a).length+sA es (IN n rs) a+2*g=Gn es es a+2:=by
 obtain⟨H,I⟩:=QO.1 F;have R:=G.jD t ha;generalize m:Xl rs=r at R;have j:∀v w,w∈r v↔Jp es v w:=fun v w=>by rw[<-m];exact G.mem t
 have S:V7 n (Om (fun v w=>Pu es a v/\Pu es a w) r):=OG R fun v w h=>⟨h.2,h.1⟩;generalize hs:Om (fun v w=>Pu es a v/\Pu es a w) r=s at S;have i:∀v w,w∈s v↔Jp es v w/\Pu es a v:=fun v w=>by
  rw[<-hs,EM,j];exact⟨fun h=>⟨h.1,h.2.1⟩,fun h=>⟨h.1,h.2,h.2.step h.1 rfl⟩⟩
 have row:∀v,Pu es a v->s v=r v:=fun v u=>by
  rw[<-hs];exact FP fun w hw=>⟨u,u.step ((j v w).1 hw) rfl⟩
 have J:∀v y,Cr s v y->v=y\/(Pu es a v/\Pu es a y):=fun v y h=>by
  induction h with
  |refl=>grind
  |@step b c _ K z=>
   obtain⟨f,h2⟩:=(i _ _).1 K;right;rcases z with rfl|⟨h3,_⟩
   .exact⟨h2,h2.step f rfl⟩
   .exact⟨h3,h2.step f rfl⟩
 have L:∀y,Pu es a y->Cr s a y:=fun y h=>by
  induction h with
  |refl=>exact .refl _
  |step f h2 _ z=>exact z.step ((i _ _).2 ⟨h2,f⟩)
 have M:iJ n s+(Ic n es a).length=n+1:=by
  have D:iJ n s=((List.range n).filter fun v=>decide (v=a\/¬Pu es a v)).length:=by
   rw[iJ,Yy (Yl _).symm (Cr.eqv S _),zE (lt:=fun a b=>a<b) (fun a b h g=>absurd h (Nat.lt_asymm g)) _ _ rfl (uA n)]
   grind [Cr.symm,Cn.symm]
  have N:=Td (p:=fun v=>decide (v=a\/¬Pu es a v)) (q:=fun v=>decide (Pu es a v)) (List.range n) fun v _=>by grind
  have e3:((List.range n).filter fun v=>decide (v=a\/¬Pu es a v)&&decide (Pu es a v)).length=1:=by
   refine Cq ?_ (x:=a) ?_ ?_
   all_goals grind [List.nodup_range,Pu.refl]
  grind [Ic]
 have nb:∀v,Pu es a v->∃w,Jp es v w:=fun v u=>by
  unfold Gn VF at C;obtain⟨e,l⟩:=oK C;rw[iy,decide_eq_true_eq]at l;have O:=t e l.1;by_cases c:v=e.1.toNat
  .refine ⟨e.2.toNat, .inl ?_⟩
   grind
  .exact(FV (u.symm.trans l.2) c).1
 have E:((List.range n).filter fun v=>decide (s v=[])).length+(Ic n es a).length=n:=by
  have N:=Td (p:=fun v=>decide (s v=[])) (q:=fun v=>decide (Pu es a v)) (List.range n) fun v _=>by
   simp only[decide_eq_true_eq];by_cases c:Pu es a v
   .exact .inr c
   .left
    rw[Vn]
    grind
  have e3:((List.range n).filter fun v=>decide (s v=[])&&decide (Pu es a v))=[]:=by
   rw[zm]
   grind
  grind [Ic]
 have A:(dl n s).length=2*Gn es es a:=by
  unfold Gn VF;refine Ud S (ha.nodup.sublist jf) (fun p P=>t p (iy.1 P).1) fun v w=>?_;rw[i];simp only[Jp,iy,decide_eq_true_eq,yY];constructor
  .rintro ⟨f | f, h2⟩
   .grind
   .exact .inr ⟨f,h2.step (.inr f) rfl⟩
  .rintro (⟨f, h2⟩ | ⟨f, h2⟩)
   .grind
   .exact⟨.inr f,h2.step (.inl f) rfl⟩
 have p:=TG R;have q:=TG S;have Q:∀d:H8,Pu es a d.2->Nv s d=Nv r d:=fun d hd=>by
  show(d.2,nx (s d.2) d.1)=(d.2,nx (r d.2) d.1);rw[row _ hd]
 have T:∀d:H8,d.2∈s d.1->Pu es a d.2:=fun d hd=>by
  obtain⟨f,h2⟩:=(i _ _).1 hd;exact h2.step f rfl
 have o:∀(k:Nat) (d:H8),d.2∈s d.1->it (Nv s) k d=it (Nv r) k d:=fun k d hd=>by
  induction k with
  |zero=>rfl
  |succ k z=>
   show Nv s (it (Nv s) k d)=Nv r (it (Nv r) k d);have U:=q.uN ((IP S).2 hd) k
   grind [IP]
 have B:sA es (IN n rs) a=(L3 n s).length:=by
  have D:L3 n s=(L3 n r).filter fun d=>decide (Pu es a d.1):=by
   refine sx JN (fun _ _ _=>Nd) _ _ ((pI n s).filter _) (((pI n r).filter _).filter _) fun d=>?_;rw[iy,decide_eq_true_eq];show d∈L3 n s↔d∈L3 n r/\_;rw[gQ S,gQ R,i,j];constructor
   .rintro ⟨⟨f, h2⟩, h3⟩
    refine⟨⟨f,?_⟩,h2⟩;rintro e ⟨k,rfl⟩;rw[<-o k d ((i _ _).2 ⟨f,h2⟩)];exact h3 _ ⟨k,rfl⟩
   .rintro ⟨⟨f, h3⟩, h2⟩
    refine⟨⟨f,h2⟩,?_⟩;rintro e ⟨k,rfl⟩;rw[o k d ((i _ _).2 ⟨f,h2⟩)];exact h3 _ ⟨k,rfl⟩
  rw[D,sA,VF,IN,m,vf,Q4,aeN,LH];congr 1
  grind [List.filter_congr,gQ,JE,IP,Int.toNat_natCast]
 obtain⟨g,hg⟩:=Z4 S;rw[mj,<-yp S,<-B,A]at hg;exact⟨g,NH⟩
end
end Go.Fw
namespace Go.Fw
attribute [local instance] Classical.propDecidable
theorem yB {P:Nat->Prop}:∀(hs:II),hs.Nodup->(∃a∈hs,P a)->(∀a∈hs,∀b∈hs,P a->P b->a=b)->(hs.map fun a=>if P a then 1 else 0).sum=1
 |[],_,h,_=>by obtain⟨a,ha,_⟩:=h;cases ha
 |x::hs,nd,h,u=>by
  rw[xD]at nd;rw[j3,aaS];by_cases c:P x
  .have z : ∀ a ∈ hs, ¬ P a := fun a ha d => nd.1 pw
   have:∀l:II,(∀a∈l,¬P a)->(l.map fun a=>if P a then 1 else 0).sum=0:=by
    intro l
    induction l<;>grind
   grind
  .rw [if_neg c, yB hs nd.2 ?_ fun a ha b hb => u a (ZT _ ha) b (ZT _ hb)]
   grind
def aS (f g:Nat->Nat):∀l:II,(l.map fun a=>f a+g a).sum=(l.map f).sum+(l.map g).sum
 |[]=>rfl
 |x::l=>by simp only[j3,aaS,aS f g l];omega
theorem fH {α:Type} {P:Nat->α->Prop} {hs:II} (nd:hs.Nodup):∀(l:List α),(∀e∈l,∃a∈hs,P a e)->(∀e∈l,∀a∈hs,∀b∈hs,P a e->P b e->a=b)->(hs.map fun a=>VF P l a).sum=l.length
 |[],_,_=>by
  have:∀l:II,(l.map fun a=>VF P ([]:List α) a).sum=0:=by
   intro l
   induction l with
   |nil=>rfl
   |cons x l c=>rw[j3,aaS,c];rfl
  exact this hs
 |e::l,h,u=>by
  have c:=fH nd l (fun x d=>h x (ZT _ d)) fun x d=>u x (ZT _ d)
  have f:∀a,VF P (e::l) a=(if P a e then 1 else 0)+VF P l a:=fun a=>by grind [VF]
  simp only[f];rw[aS,c,yB (P:=fun a=>P a e) hs nd (h e N8) (u e N8),Uz];omega
theorem Qs (l:II) (p:Nat->Prop) [DecidablePred p]:(l.map fun a=>if p a then 1 else 0).sum=(l.filter fun a=>decide (p a)).length:=by
 induction l<;>grind
section
variable {n : Nat} {es : List Pr} {rs : List (List Int)}
theorem abx (c:aV n es) {v:Nat} (d:v<n):(∃a∈Es n es,Pu es a v)/\∀a∈Es n es,∀b∈Es n es,Pu es a v->Pu es b v->a=b:=
 ⟨B6 c v d,fun _ ha _ hb e h2=>rf ha hb (e.trans h2.symm)⟩
theorem yr (c:aV n es):((Es n es).map fun a=>(Ic n es a).length).sum=n:=by
 have:=fH (P:=fun a v=>Pu es a v) (qD n es) (List.range n) (fun v b=>(abx c (j9.1 b)).1) fun v b=>(abx c (j9.1 b)).2
 grind [VF,Ic]
theorem Rr (b:aV n es):((Es n es).map fun a=>Gn es es a).sum=es.length:=by
 have d:∀e∈es,e.1.toNat<n:=fun e c=>by have:=b e c;omega
 unfold Gn
 grind [fH,qD,abx]
theorem lJ (b:aV n es) (ha:D3 es) (G:Av n es rs):((Es n es).map fun a=>sA es (IN n rs) a).sum=(IN n rs).length:=by
 have c:∀f∈IN n rs,(f.headD 0).toNat<n:=fun f hf=>by obtain⟨_,v,c,e⟩:=Uj b ha G hf;grind
 unfold sA
 grind [fH,qD,abx]
theorem MP (j:aV n es) {a:Nat} (d:a<n):0<Gn es es a↔1<(Ic n es a).length:=by
 have nd:(Ic n es a).Nodup:=by grind [Ic,List.filter_sublist]
 constructor
 .intro h
  unfold Gn VF at h;obtain⟨e,b⟩:=oK h;rw[iy,decide_eq_true_eq]at b;have k:=j e b.1;have h2:Pu es a e.2.toNat:=b.2.step (.inl pw) rfl;have:=tf (A:=[e.1.toNat,e.2.toNat]) (B:=Ic n es a) (by simp;omega) fun x l=>by grind [mY]
  grind
 .intro h
  have:∃v∈Ic n es a,v≠a:=IE fun i=>by
   have c:∀v∈Ic n es a,v=a:=fun v f=>IE fun q=>i ⟨v,f,q⟩;have:=Cq nd (mY.2 ⟨d,Pu.refl es a⟩) c;omega
  obtain⟨v,f,g⟩:=this;obtain⟨w,hw⟩:=(FV (mY.1 f).2 (Hs g)).1;unfold Gn VF;have:∃e∈es,Pu es a e.1.toNat:=by
   rcases hw with hw|hw
   .exact⟨_,hw,by simpa using Pu.refl es a⟩
   .exact⟨_,hw,by simpa using aa3 (.inr hw)⟩
  obtain⟨e,b,i⟩:=this;exact adM (iy.2 ⟨b,pw⟩)
end
end Go.Fw
namespace Go.Fw
section
attribute [local instance] Classical.propDecidable
attribute [local irreducible] Kp MQ lU rS KO KN KX KE VK Kl ZJ TC aaa
open Go.Proofs
theorem QY (g:LA) (v:Value) (xs:RZ) (h:AHeap) (e:RL RP h v xs) (p:xs.length<=100000):AC Tryz.prog g 93 [v] h fun x h'=>GI h' x xs/\Le h h'/\Z2 h x:=by
 obtain⟨a,c,rfl,hs⟩:=e.sl;refine AC.vE ⟨ae0,rfl,WY⟩ Tryz.ntmps93 Tryz.results93 fun d=>?_;simp only[Br,Nat.reduceAdd];cases a with
 |none=>
  have i:xs=[]:=by
   cases xs<;>grind
  subst i;simp only[HO,Nat.reduceLT,↓reduceIte,Nat.reduceEqDiff,reduceCtorEq,aEq,Ac,Option.isNone_none];exact⟨GI.nil _,Le.refl _,fun b hb=>by grind [blk]⟩
 |some a=>
  obtain⟨f,j,l1,w1,k⟩:=Tt d []
  have mk:aBuildSlice Tryz.prog h 49 0 []=some (.slice (some ⟨h.next,0,none⟩) 0 0,f):=by rw[<-j];rfl
  have q:h.own h.next=none:=(Le.refl h).next d (Ny _)
  have l:GI f (.slice (some ⟨h.next,0,none⟩) 0 0) []:=GS.full k rfl WY
  have m:Z2 h (.slice (some ⟨h.next,0,none⟩) 0 0):=fun b hb=>by injection hb with hb;grind
  obtain⟨r,s,n,t,u,o,-⟩:=GI.join l w1 (e.le Nn.RP l1) (by simp;omega);obtain⟨l6,w⟩:=o h l1 m;simp only[HO,Nat.reduceLT,↓reduceIte,Nat.reduceEqDiff,reduceCtorEq,aEq,Ac,acO,mk,n]
  grind
end
section
attribute [local instance] Classical.propDecidable
open Go.Proofs
variable {i:Nat} {xs ys:RZ}
def eD (xs ys:RZ) (i:Nat):Prop:=ys.length=xs.length/\∀p,p<xs.length->ys[p]?=if p<i\/xs.length-i<=p then xs[xs.length-1-p]? else xs[p]?
theorem eD.zero (xs:RZ):eD xs xs 0:=⟨rfl,fun p a=>by grind⟩
theorem eD.fin (R:eD xs ys i) (h:xs.length<=2*i+1):ys=xs.reverse:=by
 apply EH;intro p;by_cases a:p<xs.length
 .rw [R.2 p a, Ry a]
  grind
 .rw[qk (by rw[R.1];omega),qk pw]
theorem eD.step {xs ys:RZ} {i:Nat} (R:eD xs ys i) (h:2*i+1<xs.length) (a:i<ys.length) (h2:xs.length-1-i<ys.length):
  eD xs ((ys.set i ys[xs.length-1-i]).set (xs.length-1-i) ys[i]) (i+1):=by
 refine⟨by simp[R.1],fun p b=>?_⟩;have c:ys[xs.length-1-i]?=xs[xs.length-1-i]?:=by rw[R.2 _ NH,if_neg NH]
 have d:ys[i]?=xs[i]?:=by rw[R.2 _ NH,if_neg NH]
 rw[XJ h2]at c;rw[XJ a]at d;by_cases c1:p=xs.length-1-i
 .grind
 .rw [qL229 (Hs c1)]
  by_cases c2:p=i
  .grind
  .rw [qL229 (Hs c2), R.2 p b]
   grind
end
section
attribute [local instance] Classical.propDecidable
attribute [local irreducible] Kp MQ lU rS KO KN KX KE VK Kl ZJ TC aaa
open Go.Proofs
theorem Wk (w:LA) (u:Value) (xs:RZ) (h:AHeap) (g:GI h u xs) (L:xs.length<=100000):
  AC Tryz.prog w 94 [u] h fun _ h'=>GI h' u xs.reverse/\(∀f,Le f h->Z2 f u->Le f h')/\∀b o,h.own b=some o->blk u≠some b->h'.own b=some o:=by
 refine AC.vE ⟨ae1,rfl,WY⟩ Tryz.ntmps94 Tryz.results94 fun x=>?_;simp only[Br,Nat.reduceAdd];have lu:=fun y=>(GI.rl g).Uc y;have z:awrap .i64 ((xs.length:Int)-1)=(xs.length:Int)-1-((0:Nat):Int):=by grind [ie]
 simp only[HO,Nat.reduceLT,↓reduceIte,Nat.reduceEqDiff,reduceCtorEq,lu,z];refine aaa.intro (fun k fr j=>∃(i:Nat) (ys:RZ),k=xs.length-i/\2*i<=xs.length/\fr=mkF [(0,u),(2,.int .i64 i),(3,.int .i64 ((xs.length:Int)-1-(i:Int)))]/\eD xs ys i/\GI j u ys/\(∀f,Le f h->Z2 f u->Le f j)/\∀b o,h.own b=some o->blk u≠some b->j.own b=some o)
  xs.length [(0,u),(2,.int .i64 (0:Nat)),(3,.int .i64 ((xs.length:Int)-1-((0:Nat):Int)))] fD
  ⟨0,xs,rfl,AE _,rfl,eD.zero xs,g,fun f n _=>n,fun b o hb _=>hb⟩ ?_
 rintro k fr j p ⟨i,ys,rfl,hi,rfl,R,v,A,B⟩;by_cases c:2*i+1<xs.length
 .have d : decide ((i : Int) < (xs.length : Int) - 1 - (i : Int)) = true := decide_eq_true NH
  have C:(xs.length:Int)-1-(i:Int)=((xs.length-1-i:Nat):Int):=NH;have l:i<ys.length:=by rw[R.1];omega
  have h2:xs.length-1-i<ys.length:=by rw[R.1];omega
  have m:=GI.rl v;have q:=m.TA i l;have e:=m.TA _ h2;have ld1:=m.DH i l;have r:=m.DH _ h2;obtain⟨M,D,E,F,l5,G⟩:=GI.store v p l ys[xs.length-1-i];obtain⟨N,H,I,O,l6,J⟩:=GI.store E F (i:=xs.length-1-i) pw ys[i];have K:=R.step c l h2;have s:=Tw i NH;have t:awrap .i64 ((xs.length:Int)-1-(i:Int)-1)=(xs.length:Int)-1-((i+1:Nat):Int):=by grind [ie]
  rw[<-C]at e;refine Sk d ?_;refine gh (tA [0,1,2,3,4,5,6,7,8,9,10,11,12] (JQ 13 [0,1,4,5,6,7,11,12] (tA [14] (JQ 15 [0,1,2,3,4,5,6,7,8,9,10,11,12,13,14] .done)))) ?_;simp only[HO,Nat.reduceLT,↓reduceIte,Nat.reduceEqDiff,reduceCtorEq,Nat.reduceBEq,Qg,q,e,ld1,r,D,H,s,t];exact tn (xs.length-(i+1)) [(0,u),(2,.int .i64 (i+1:Nat)),(3,.int .i64 ((xs.length:Int)-1-((i+1:Nat):Int)))] (JS NH) fD
   ⟨i+1,_,rfl,NH,rfl,K,I,fun f n af=>l6 f (l5 f (A f n af) af) af,fun b o hb a=>J b o (G b o (B b o hb a) a) a⟩
 .have d : decide ((i : Int) < (xs.length : Int) - 1 - (i : Int)) = false := decide_eq_false NH
  refine Sk d ?_
  grind [eD.fin]
end
end Go.Fw
namespace Go.Fw
open Go.Proofs
attribute [local instance] Classical.propDecidable
section
variable {n : Nat} {es : List Pr} {rs : List (List Int)}
theorem Tk (d:aV n es) (G:Av n es rs) {a b:Nat}:Cr (Xl rs) a b↔Pu es a b:=by
 constructor
 .intro h
  induction h with
  |refl=>grind [Pu.refl]
  |step _ e c=>exact c.step ((G.mem d).1 e) rfl
 .intro h
  induction h with
  |refl _=>exact .refl _
  |step _ h2 _ c=>exact c.step ((G.mem d).2 h2)
theorem IL (c:aV n es) (ha:D3 es) (G:Av n es rs):iJ n (Xl rs)=(Es n es).length:=by
 have R:=G.jD c ha;rw[iJ,Yy (Yl _).symm (Cr.eqv R _),zE (lt:=fun a b=>a<b) (fun a b h g=>absurd h (Nat.lt_asymm g)) _ _ rfl (uA n),Es];congr 1;refine qH fun v d=>?_;rw[decide_eq_decide];rw[j9]at d;constructor
 .intro h u e f
  exact h u (j9.2 NH) ((Tk c G).2 f.symm) e
 grind [Tk,Cn.symm]
theorem pL (d:aV n es) (ha:D3 es) (G:Av n es rs):((List.range n).filter fun v=>decide (Xl rs v=[])).length=((Es n es).filter fun a=>decide (Gn es es a=0)).length:=by
 refine(yR (jz.sublist jf) ((qD n es).sublist jf) fun v=>?_).length_eq;rw[iy,iy,j9,QO,decide_eq_true_eq,decide_eq_true_eq];constructor
 .rintro ⟨b, j⟩
  have k:∀w,¬Jp es v w:=fun w hw=>by
   have:=(G.mem d).2 hw;grind
  have g:∀u,Pu es v u->u=v:=fun u i=>IE fun f=>by
   obtain⟨w,hw⟩:=(FV i (Hs f)).1
   grind
  refine⟨⟨b,fun u i l=>?_⟩,?_⟩
  .grind [Cn.symm]
  .refine qL219 fun m => ?_
   have q:=(MP d b).1 m;have h2:(Ic n es v).length=1:=Cq (by grind [Ic,List.filter_sublist]) (x:=v) (mY.2 ⟨b,Pu.refl es v⟩) fun y o=>g y (mY.1 o).2;omega
 .rintro ⟨⟨b, _⟩, j⟩
  refine⟨b,Vn.2 fun w hw=>?_⟩;have c:=(G.mem d).1 hw;have:∃e∈es,Pu es v e.1.toNat:=by
   rcases c with h|h
   .exact⟨_,h,by simpa using Pu.refl es v⟩
   .exact⟨_,h,by simpa using aa3 (.inr h)⟩
  obtain⟨e,p,g⟩:=this;have:0<Gn es es v:=by
   unfold Gn VF;exact adM (iy.2 ⟨p,pw⟩)
  omega
theorem U3 {l:II} (h:l.length=1) {x y:Nat} (a:x∈l) (b:y∈l):x=y:=by
 match l,h with
 |[z],_=>grind
theorem sumz:∀(l:II) (f:Nat->Nat),(l.map f).sum=0↔∀a∈l,f a=0
 |[],f=>by simp
 |a::l,f=>by
  rw[j3,aaS];have b:=sumz l f
  grind
def Va (f g:Nat->Nat):∀l:II,(∀a∈l,f a=g a)->(l.map f).sum=(l.map g).sum
 |[],_=>rfl
 |a::l,h=>by rw[j3,j3,aaS,aaS,h a N8,Va f g l fun b hb=>h b (ZT _ hb)]
theorem En (i:aV n es) (ha:D3 es) (G:Av n es rs):z8 n es rs↔Flat n (Xl rs):=by
 have R:=G.jD i ha
 have key:∀a,a∈Es n es->∃g,(Ic n es a).length+(sA es (IN n rs) a+if Gn es es a=0 then 1 else 0)+2*g=Gn es es a+2/\(g=0↔(0<Gn es es a->(Ic n es a).length+sA es (IN n rs) a=Gn es es a+2)):=fun a j=>by
  by_cases c:0<Gn es es a
  .grind [T8]
  .refine ⟨0, ?_, pw⟩
   have s:Gn es es a=0:=NH;rw[if_pos s,s];have z:¬1<(Ic n es a).length:=fun q=>c ((MP i (QO.1 j).1).2 q);have h2:0<(Ic n es a).length:=adM (mY.2 ⟨(QO.1 j).1,Pu.refl es a⟩);have h3:sA es (IN n rs) a=0:=by
    refine qL219 fun t=>?_;unfold sA VF at t;obtain⟨f,hf⟩:=oK t;rw[iy,decide_eq_true_eq]at hf;obtain⟨m,b⟩:=hf;unfold IN at m;obtain⟨A,o,rfl⟩:=aae.1 m;rw[vf,aae]at o;obtain⟨d,hd,rfl⟩:=o;have p:=((gQ R).1 hd).1;rw[(JE R ((IP R).2 p)).1,yY]at b;have k:=(G.mem i).1 p;have:d.2=d.1:=by
     have e:(Ic n es a).length=1:=NH;exact U3 e (mY.2 ⟨Pu.lt i (show Pu es a d.2 from b.step k rfl) (QO.1 j).1,b.step k rfl⟩) (mY.2 ⟨b.lt i (QO.1 j).1,b⟩)
    grind [V7.ir]
   omega
 obtain⟨g,hg⟩:=WS (r:=fun a g=>a∈Es n es->(Ic n es a).length+(sA es (IN n rs) a+if Gn es es a=0 then 1 else 0)+2*g=Gn es es a+2/\(g=0↔(0<Gn es es a->(Ic n es a).length+sA es (IN n rs) a=Gn es es a+2))) fun a=>by
  by_cases j:a∈Es n es
  .grind
  .exact⟨0,fun h=>absurd h j⟩
 have S:=Va _ _ (Es n es) fun a j=>(hg a j).1
 rw[aS (fun a=>(Ic n es a).length+(sA es (IN n rs) a+if Gn es es a=0 then 1 else 0)),aS (fun a=>(Ic n es a).length),aS (fun a=>sA es (IN n rs) a),aS (fun a=>Gn es es a) (fun _=>2),yr i,Rr i,lJ i ha G,Qs]at S
 have u:((Es n es).map fun _=>2).sum=2*(Es n es).length:=by
  have:∀l:II,(l.map fun _=>2).sum=2*l.length:=fun l=>by
   induction l<;>grind
  exact this _
 have e3:((Es n es).map fun a=>2*g a).sum=2*((Es n es).map g).sum:=by
  have:∀l:II,(l.map fun a=>2*g a).sum=2*(l.map g).sum:=fun l=>by
   induction l<;>grind
  exact this _
 rw[u,e3]at S;have x:mj n (Xl rs)=(IN n rs).length+((Es n es).filter fun a=>decide (Gn es es a=0)).length:=by grind [mj.eq_1,yp,pL,IN.eq_1,vf.eq_1]
 have y:(dl n (Xl rs)).length=2*es.length:=Ud R (ha.nodup) i fun v w=>G.mem i
 grind [z8,sumz,Flat.eq_1,IL]
end
end Go.Fw
namespace Go.Fw
open Go.Proofs
attribute [local instance] Classical.propDecidable
structure zW (n:Nat) (es:List Pr):Prop where
 n3:3<=n
 one:(Es n es).length=1
 Bi:∀v,¬Fo.iE es v
section
variable {n : Nat} {es : List Pr}
theorem zW.bp (T:zW n es) {u v:Nat} (a:u<n) (b:v<n):Pu es u v:=uh T.one a b
theorem nb_of (hR:aV n es) {u v:Nat} (h:Pu es u v) (a:u≠v):∃w,Jp es v w:=by
 cases h<;>grind [Jp.symm]
theorem zW.ne (T:zW n es) (hR:aV n es) {v:Nat} (a:v<n):∃w,Jp es v w:=by
 have h3:=T.n3;by_cases c:v=0
 .exact nb_of hR (T.bp (u:=1) NH a) NH
 .exact nb_of hR (T.bp (u:=0) NH a) NH
theorem cnW (hR:aV n es) {c a b:Nat} (h:Cn (wo c) es a b):Cr (Om (fun x y=>x≠c/\y≠c) (eN n es)) a b:=by
 induction h with
 |refl=>exact .refl _
 |@step x y i h2 h3 d=>
  have f:x≠c:=fun e=>by grind [Cn.AB]
  have g:y≠c:=fun e=>by grind
  exact d.step (EM.2 ⟨(vD hR).2 h2,f,g⟩)
theorem aU (hR:aV n es) {v:Nat}:eN n es v≠[]↔∃w,Jp es v w:=by
 constructor
 .intro h
  obtain⟨w,l,e⟩:=EP h;exact⟨w,(vD hR).1 (by rw[e];simp)⟩
 .rintro ⟨w, h⟩ e
  have:=(vD hR).2 h
  grind
theorem zW.Z7 (T:zW n es) (hR:aV n es):QG (eN n es):=by
 have lt:∀{v},eN n es v≠[]->v<n:=fun h=>by obtain⟨w,hw⟩:=(aU hR).1 h;exact(hw.lt hR).1
 refine⟨fun v w d hw=>(Tk hR (qG n es)).2 (T.bp (lt d) (lt hw)),fun c v w g h2 d hw=>cnW hR ?_⟩;by_cases f:c<n
 .obtain ⟨a, h3, l⟩ := KH (T.bp f (lt d)) g
  obtain⟨b,i,m⟩:=KH (T.bp f (lt hw)) h2;have n1:a≠c:=fun e=>by grind [Xa]
  have o:b≠c:=fun e=>by grind [Xa]
  have j:Cn (wo c) es a b:=IE fun q=>T.Bi c ⟨a,b,h3,i,q⟩
  grind [woV_con,Cn.symm,Cn.trans]
 .have:∀{a b},Pu es a b->a≠c->Cn (wo c) es a b:=fun h ha=>by
   induction h with
   |refl=>exact .refl (iO ha)
   |step _ a _ k=>exact .step k a (iO fun e=>f (by have:=(a.lt hR).2;omega))
  grind [zW.bp]
def zW.es_ne (T:zW n es) (hR:aV n es):es≠[]:=fun e=>by
 obtain⟨w,hw⟩:=T.ne hR (v:=0) (by have:=T.n3;omega);rw[e]at hw;rcases hw with h|h<;>cases h
theorem Uv (b:bX ⟨(n:Int),es⟩) (h3:3<=n) (c:(Es n es).length=1):(vq n es).length=1↔zW n es:=by
 have hR:=b.GD;constructor
 .intro d
  refine⟨h3,c,fun v a=>?_⟩;have:=(YH hR v).2 a
  grind [Sq]
 .intro T
  have K:=ae5 b ⟨T.es_ne hR,c⟩;have e:JL n es=[]:=Vn.2 fun v a=>T.Bi v ((OI hR v).1 a).2
  grind [mR,Er,Lk.len]
theorem zW.less (T:zW n es) (hR:aV n es) {a b:Nat} {rest:List Pr} (ha:a<n) (hb:b<n) (d:a≠b) (e:∀x y,Jp es x y->¬((x=a/\y=b)\/(x=b/\y=a))->Jp rest x y):Pu rest b a:=by
 have D:=T.Z7 hR;have h3:=T.n3;obtain⟨t,i,f,g⟩:∃t,t<n/\t≠a/\t≠b:=by
  by_cases l:a≠0/\b≠0
  .exact⟨0,NH,NH,NH⟩
  by_cases c1:a≠1/\b≠1
  .exact⟨1,NH,NH,NH⟩
  .exact⟨2,NH,NH,NH⟩
 have key:∀{c x y:Nat},(c=a\/c=b)->Cr (Om (fun x y=>x≠c/\y≠c) (eN n es)) x y->Pu rest x y:=fun{c x y} m h=>by
  induction h with
  |refl=>grind [Pu.refl]
  |@step u w o h2 j=>
   obtain⟨k1,k2,p⟩:=EM.1 h2;refine .step j (e _ _ ((vD hR).1 k1) ?_) rfl
   grind
 have ne:∀{v},v<n->eN n es v≠[]:=fun k=>(aU hR).2 (T.ne hR k);have q:=key (.inl rfl) (D.Z7 a b t (Hs d) f (ne hb) (ne i));have r:=key (.inr rfl) (D.Z7 b t a g d (ne i) (ne ha))
 grind [Cn.trans]
theorem Na (hR:aV n es) {b:Nat} {L:RZ} (F:ai n es b L):∀(k v:Nat),L[v]?=some (k:Int)->∃l:II,pthM (Zh n es) L k v=kz l/\l.length=k+1/\l[0]?=some v/\l[k]?=some b/\
  (∀(i x:Nat),l[i]?=some x->L[x]?=some ((k-i:Nat):Int))/\∀(i x y:Nat),l[i]?=some x->l[i+1]?=some y->Jp es x y
 |0,v,h=>by
  have hb:=F.zero v h;subst hb;refine⟨[v],rfl,rfl,rfl,rfl,fun i x o=>?_,fun i x y _ a=>by simp at a⟩
  grind
 |k+1,v,h=>by
  obtain⟨w,ha,hw⟩:=F.pre v _ h NH;have c:L.getD v 0=((k+1:Nat):Int):=pw;cases hf:((Zh n es).getD v []).find? (fun w=>decide (L.getD w.toNat 0=L.getD v 0-1))with
  |none=>
   grind [EW,Int.toNat_natCast]
  |some x=>
   have f:=qL200 hf;have h2:=List.find?_some hf;obtain⟨u,rfl,p⟩:=Ru hR f;have d:=CA (show u<L.length by grind [ai.len]);rw[decide_eq_true_eq,yY,fj,d,c]at h2;have e:L[u]?=some (k:Int):=pw;obtain⟨l,g,j,e3,e4,q,r⟩:=Na hR F k u e;refine⟨v::l,?_,by simp[j],rfl,pw,fun i y a=>?_,fun i y z a m=>?_⟩
   .rw [pthM, hf]
    simp only[yY];rw[g];rfl
   .cases i with
    |zero=>grind
    |succ i=>
     grind
   .cases i with
    |zero=>
     grind [EW]
    |succ i=>
     rw[FD]at a m
     grind
theorem iS (w:bX ⟨(n:Int),es⟩) {a b:Nat} {rest:List Pr} (r:es=((a:Int),(b:Int))::rest) (F:ai n rest b (NY (Zh n rest) n b)) (C:Pu rest b a):
  ∃l,DO n rest a b=kz l/\Ho n es l:=by
 have hR:=w.GD;have d:aV n rest:=fun p M=>hR p pw;have s:(((a:Int),(b:Int)):Pr)∈es:=by rw[r];simp
 have t:=(hR _ s).2.1;simp only at t;have u:=(hR _ s).2.2;simp only at u;have nd:es.Nodup:=w.q9.nodup;have f:=CA (show a<(NY (Zh n rest) n b).length by grind [ai.len]);have g:=(F.pos a _ f).2 C;obtain⟨k,D⟩:=HV g;have m:(NY (Zh n rest) n b)[a]?=some (k:Int):=by rw[f,D]
 obtain⟨l,E,N,e3,e4,z,A⟩:=Na d F k a m;have G:k≠0:=fun e=>by grind
 have H:k≠1:=fun e=>by
  subst e;have:=A 0 a b e3 e4;rw[r,xD]at nd;rcases this with h|h
  .exact nd.1 h
  .have:=(d _ h).2.1;grind
 have o:l.Nodup:=by
  rw[Sb,vY];intro i j hi q I e;have B:=z i _ (XJ hi);have h2:=z j _ (XJ q)
  grind
 refine⟨l,?_,o,NH,fun v J=>?_⟩
 .unfold DO
  rw[fj,m];exact E
 .obtain ⟨j, q, rfl⟩ := ack.1 J
  rw[Qy o q];have sub:∀{x y},Jp rest x y->Jp es x y:=fun h=>by rw[r];exact h.imp (ZT _) (ZT _)
  by_cases c:j+1<l.length
  .have e : l[(j + 1) % l.length]'(CG _ NH) = l[j + 1] := getElem_congr_idx (bC c)
   rw[e];exact sub (A j _ _ (XJ q) (XJ c))
  .have K : j = k := NH
   subst K;have e:l[(j+1)%l.length]'(CG _ NH)=l[0]:=getElem_congr_idx (by grind [Nat.mod_self])
   rw[e];have B:l[j]=b:=pw;have L:l[0]=a:=pw;rw[B,L];exact .inr s
end
end Go.Fw
