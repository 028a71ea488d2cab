/- A text. -/
import Derived.Test.YtkccdnmaaelbiaaGreatProg
import Derived.Test.YtkccdnmaaelbiaaGreatFwRep
set_option linter.all false
set_option maxRecDepth 99999
set_option maxHeartbeats 9999999
namespace Go.Fw
section
open Go.Proofs
variable {P:Program} {W0:LA} {cs:List Value} {ev v:Value} {h h':AHeap} {i k n w:Nat} {p:Prop} {α:Type}
def mixed:Tryz.prog.follows .mixedOrders=true:=Ji
def CA {l:List α} (h:i<l.length):l[i]?=some l[i]:=XJ h
theorem D4 {l:List α} {d:α} (h:i<l.length):l.getD i d=l[i]:=pw
def RR (p:Prop) (v:Value):Prop:=∃b:Bool,v=.bool b/\(b=true↔p)
def RR.t (h:p):RR p (.bool true):=⟨true,rfl,by simp[h]⟩
theorem RR.f (h:¬p):RR p (.bool false):=⟨false,rfl,by simp[h]⟩
theorem CC (h:decide ((i:Int)<(n:Int))=true):i<n:=pw
theorem vp (h:decide ((i:Int)<(n:Int))=false):n<=i:=pw
def Tt (hw:WF h) (c:List Value):∃h',h.alloc (.cells c)=h'/\Le h h'/\WF h'/\h'.own h.next=some (.cells c):=⟨_,rfl,(Le.refl h).alloc hw _,hw.alloc _,AHeap.zT _ _⟩
def Ya {ι κ:Type} {F:ι->κ->Prop} {A:Prop} (Φ:ι->κ->Prop) (a:(∀x y,F x y->Φ x y)->A) (h2:∀x y,F x y->Φ x y):A:=a h2
def KN.UJ {N:Nat} {ks:List Kt} {R:Exit->lC->AHeap->Prop} {fr:lC} (q:∀fr' h',fr'=fr->h'=h->KN P W0 N ks R fr' h'):KN P W0 N ks R fr h:=q fr h rfl rfl
theorem GS.kept (g:GS k h v n cs) (d:∀b o,blk v=some b->h.own b=some o->h'.own b=some o):GS k h' v n cs:=by
 obtain⟨a,q|⟨i,c,cap,rfl,e,rr⟩⟩:=g
 .exact⟨a,.inl q⟩
 .exact⟨a,.inr ⟨i,c,cap,rfl,d i _ rfl e,rr⟩⟩
theorem GS.put {k n:Nat} {h:AHeap} {v:Value} {cs:List Value} (g:GS k h v n cs) {id:Nat} (o:fK) (hb:blk v≠some id):GS k (h.put id o) v n cs:=
 g.kept fun b a c d=>by grind [AHeap.By]
abbrev Pr:=Int×Int
def xM (p:Pr):List Value:=[.int .i64 p.1,.int .i64 p.2]
def UI (p:Pr):Value:=.agg #[.int .i64 p.1,.int .i64 p.2]
def Iu (ps:List Pr):List Value:=ps.flatMap xM
theorem Ta (ps:List Pr):(Iu ps).length=ps.length*2:=by
 induction ps<;>grind [Iu,xM]
def WI (ps:List Pr):(Iu ps).all (·.oneCell')=true:=by
 rw[LH];intro x a;rw[Iu,QD]at a;obtain⟨p,_,a⟩:=a;simp[xM]at a;rcases a with rfl|rfl<;>rfl
theorem mZ (a b:List Pr):Iu (a++b)=Iu a++Iu b:=by simp[Iu]
theorem H5:∀(ps:List Pr) (i:Nat) (p:Pr),ps[i]?=some p->(Iu ps)[i*2]?=some (.int .i64 p.1)/\(Iu ps)[i*2+1]?=some (.int .i64 p.2)
 |[],i,p,h=>by simp at h
 |q::ps,0,p,h=>by grind [Iu,xM]
 |q::ps,i+1,p,h=>by
  have:=H5 ps i p (by simpa using h);have e:Iu (q::ps)=.int .i64 q.1::.int .i64 q.2::Iu ps:=rfl
  grind
def PR (h:AHeap) (v:Value) (ps:List Pr):Prop:=CS 2 h v ps.length (Iu ps)
def FK (v:Value) (i:Nat):Addr:=elemAddr v (i*2)
theorem PR.le {h h':AHeap} {v:Value} {ps:List Pr} (r:PR h v ps) (e:Le h h'):PR h' v ps:=CS.le r e
theorem WE:UA Tryz.prog 38=2:=Ji
def ts3:UA Tryz.prog 3=1:=Ji
theorem PR.len {ps:List Pr} (r:PR h v ps) (g:AHeap):aLen Tryz.prog g 22 v=some (.int .i64 ps.length):=by
 obtain⟨a,c,rfl,_⟩:=r.sl;simp[aLen,Tryz.underlying22]
theorem PR.addr {ps:List Pr} (r:PR h v ps) {k:IntKind} (i:Nat) (hi:i<ps.length):aIndexAddr Tryz.prog 22 v (.int k i)=some (.pointer (some (FK v i))):=by
 obtain⟨a,c,rfl,hs⟩:=r.sl;obtain⟨a,rfl⟩:=Gw.1 (hs NH);have b:(i:Int)<(ps.length:Int):=NH;simp[aIndexAddr,Tryz.underlying22,Tryz.underlying38,b,FK,elemAddr,WE]
def Dh (a:Addr):aIndexAddr Tryz.prog 38 (.pointer (some a)) (.int .i64 0)=some (.pointer (some (Ip a 0))):=by simp[aIndexAddr,Tryz.underlying38,Tryz.underlying3]
def Z0 (a:Addr):aIndexAddr Tryz.prog 38 (.pointer (some a)) (.int .i64 1)=some (.pointer (some (Ip a 1))):=by simp[aIndexAddr,Tryz.underlying38,Tryz.underlying3,ts3]
theorem PR.get {h:AHeap} {v:Value} {ps:List Pr} (r:PR h v ps) {i:Nat} {p:Pr} (b:ps[i]?=some p):
  h.read (Ip (FK v i) 0)=some (.int .i64 p.1)/\h.read (Ip (FK v i) 1)=some (.int .i64 p.2):=by
 obtain⟨d,e⟩:=H5 ps i p b;have f:=CS.get r _ _ d;have g:=CS.get r _ _ e;obtain⟨a,c,rfl,hs⟩:=r.sl
 grind [Option.isSome_iff_exists,FK,fA,Ip]
def PR.l0 {ps:List Pr} (r:PR h v ps) {p:Pr} (a:ps[i]?=some p):aload Tryz.prog h 3 (Ip (FK v i) 0)=some (.int .i64 p.1):=by rw[Bj Tryz.underlying3 rfl];exact(r.get a).1
def PR.l1 {ps:List Pr} (r:PR h v ps) {p:Pr} (a:ps[i]?=some p):aload Tryz.prog h 3 (Ip (FK v i) 1)=some (.int .i64 p.2):=by rw[Bj Tryz.underlying3 rfl];exact(r.get a).2
theorem PR.load {ps:List Pr} (r:PR h v ps) {p:Pr} (b:ps[i]?=some p):aload Tryz.prog h 38 (FK v i)=some (UI p):=by
 obtain⟨c,d⟩:=r.get b;have a:readN h (FK v i) 2=some [.int .i64 p.1,.int .i64 p.2]:=by
  refine ua [.int .i64 p.1,.int .i64 p.2] _ fun j x e=>?_
  grind
 have hd:isAggD (.array 2 3)=true:=rfl;simp only[aload,Tryz.underlying38,hd,cond_true,WE,a,UI]
theorem alloc42 (h:AHeap):aAlloc Tryz.prog h 38=some (.pointer (some ⟨h.next,0,none⟩),h.alloc (.cells [.int .i64 0,.int .i64 0])):=rfl
def gD {x y:Value} {p:Pr} (a:h.own w=some (.cells [x,y])):aStore Tryz.prog h 38 (.pointer (some ⟨w,0,none⟩)) (UI p)=some (h.put w (.cells (xM p))):=by
 simp[aStore,a,UI,Value.cells,WE,putCells,xM,Tryz.underlying38];exact⟨rfl,rfl⟩
def Ci (h:AHeap) (p:Pr):zF h (UI p)=some (.pointer (some ⟨h.next,0,none⟩),h.alloc (.cells (xM p))):=rfl
def lK {p:Pr} (a:h.own w=some (.cells (xM p))):aload Tryz.prog h 3 ⟨w,0,none⟩=some (.int .i64 p.1):=by rw[Fq Tryz.underlying3 rfl a];rfl
def HY {p:Pr} (a:h.own w=some (.cells (xM p))):aload Tryz.prog h 3 ⟨w,1,none⟩=some (.int .i64 p.2):=by rw[Fq Tryz.underlying3 rfl a];rfl
def uM {p:Pr} (a:h.own w=some (.cells (xM p))):aload Tryz.prog h 38 ⟨w,0,none⟩=some (UI p):=by rw[Wx Tryz.underlying38 rfl WE a (by simp[xM])];rfl
theorem Ut (hw:WF h) (p:Pr):∃a h2,aAlloc Tryz.prog h 38=some (.pointer (some ⟨h.next,0,none⟩),a)/\aStore Tryz.prog a 38 (.pointer (some ⟨h.next,0,none⟩)) (UI p)=some h2/\Le h h2/\WF h2/\h2.own h.next=some (.cells (xM p)):=by
 obtain⟨a,d,l1,w1,b⟩:=Tt hw [.int .i64 0,.int .i64 0]
 have c:h.own h.next=none:=(Le.refl h).next hw (qL0 _)
 exact⟨a,_,by grind [alloc42],gD b,l1.put _ c,w1.put _ (w1.lt b),AHeap.Y3 _ _ _⟩
structure GM where
 n:Int
 es:List Pr
structure GR (h:AHeap) (v:Value) (G:GM):Prop where
 ex:∃ev,v=.agg #[.int .i64 G.n,ev]/\PR h ev G.es
theorem GR.le {h h':AHeap} {v:Value} {G:GM} (r:GR h v G) (e:Le h h'):GR h' v G:=by
 obtain⟨ev,a,b⟩:=r.ex;exact⟨ev,a,b.le e⟩
def Ii (a:Addr):aField Tryz.prog 24 (.pointer (some a)) 0=some (.pointer (some (Ip a 0))):=rfl
def Di (a:Addr):aField Tryz.prog 24 (.pointer (some a)) 1=some (.pointer (some (Ip a 1))):=rfl
def r8 (c:WF h) {n:Int} {es:List Pr} (r:PR h ev es):
  ∃a,zF h (.agg #[.int .i64 n,ev])=some (.pointer (some ⟨h.next,0,none⟩),a)/\Le h a/\WF a/\a.own h.next=some (.cells [.int .i64 n,ev])/\
   ∀g,Le a g->aload Tryz.prog g 24 ⟨h.next,0,none⟩=some (.agg #[.int .i64 n,ev])/\aload Tryz.prog g 3 ⟨h.next,0,none⟩=some (.int .i64 n)/\aload Tryz.prog g 22 ⟨h.next,1,none⟩=some ev:=by
 obtain⟨a,d,l1,w1,b⟩:=Tt c [.int .i64 n,ev];have h2:=r.sl.one;refine⟨a,?_,l1,w1,b,fun g e=>⟨?_,Fq Tryz.underlying3 rfl (e.own _ _ b),Fq Tryz.underlying22 rfl (e.own _ _ b)⟩⟩
 .rw [<- d]
  obtain⟨_,_,rfl,_⟩:=r.sl;rfl
 .rw[Wx Tryz.underlying24 rfl (by kernel_rfl:UA Tryz.prog 24=2) (e.own _ _ b) Ma];rfl
def xO.cells {v:Value} {n:Nat} (h:xO v n):v.cells=#[v]:=by obtain⟨a,c,rfl,_⟩:=h;rfl
theorem gh {W0:LA} {N:Nat} {fr:lC} {h:AHeap} {i:Nat} {ol:List Oper} {ks:List Kt} {R:Exit→lC→AHeap→Prop} (t:DT) (hd:KD Tryz.prog W0 N ol.toArray ks R t [] fr h) (hok:gN ol.toArray t=true:=by kernel_rfl):ZJ Tryz.prog W0 N i ol.toArray ks R fr h:=ZJ.intro mixed t hok hd
def RL.Uc {α:Type} {R:AHeap→Value→α→Prop} {h:AHeap} {v:Value} {xs:List α} (z:RL R h v xs):=z.len (P:=Tryz.prog) Tryz.underlying49
def RS.Uc {h:AHeap} {v:Value} {xs:List Value} (z:RS h v xs):=z.len (P:=Tryz.prog) Tryz.underlying49
def RL.DH {h:AHeap} {v:Value} {xs:List Int} (z:RL RP h v xs):=z.loadI (P:=Tryz.prog) Tryz.underlying3 rfl
def RL.TA {α:Type} {R:AHeap→Value→α→Prop} {h:AHeap} {v:Value} {xs:List α} (z:RL R h v xs):=z.addr (P:=Tryz.prog) Tryz.underlying49 Tryz.underlying3 (by kernel_rfl) (k:=.i64)
def RS.TA {h:AHeap} {v:Value} {xs:List Value} (z:RS h v xs):=z.addr (P:=Tryz.prog) Tryz.underlying49 Tryz.underlying3 (by kernel_rfl) (k:=.i64)
def RL.NS {α:Type} {R:AHeap→Value→α→Prop} {h:AHeap} {v:Value} {xs:List α} (z:RL R h v xs):=z.addr (P:=Tryz.prog) Tryz.underlying27 Tryz.underlying49 (by kernel_rfl) (k:=.i64)
def RS.NS {h:AHeap} {v:Value} {xs:List Value} (z:RS h v xs):=z.addr (P:=Tryz.prog) Tryz.underlying27 Tryz.underlying49 (by kernel_rfl) (k:=.i64)
def RL.Wm {α:Type} {R:AHeap→Value→α→Prop} {h:AHeap} {v:Value} {xs:List α} (z:RL R h v xs):=z.load' (P:=Tryz.prog) Tryz.underlying49 rfl
def Mb:=@Go.Proofs.Tryz.underlying3
def Ac:=@Go.Proofs.Tryz.underlying49
def AV:=@Go.Proofs.Tryz.underlying4
def eY:=@Go.Proofs.Tryz.underlying22
def Uh:=@Go.Proofs.Tryz.underlying59
def yU:=@Go.Proofs.Tryz.underlying38
def pE:=@Go.Proofs.Tryz.underlying27
def qS7:=@Go.Proofs.Tryz.underlying110
def qv:=@Go.Proofs.Tryz.func24
def qS9:=@Go.Proofs.Tryz.underlying104
def UP:=@Go.Proofs.Tryz.underlying24
def KT:=@Go.Proofs.Tryz.func40
def adW:=@Go.Proofs.Tryz.func143
def yo:=@Go.Proofs.Tryz.underlying122
def NQ:=@Go.Proofs.Tryz.underlying75
def Xv:=@Go.Proofs.Tryz.func104
def qS16:=@Go.Proofs.Tryz.underlying146
def zL:=@Go.Proofs.Tryz.underlying88
def zj:=@Go.Proofs.Tryz.underlying125
def Gs:=@Go.Proofs.Tryz.underlying62
def qS20:=@Go.Proofs.Tryz.underlying5
def iZ:=@Go.Proofs.Tryz.func32
def SV:=@Go.Proofs.Tryz.func37
def qL:=@Go.Proofs.Tryz.func35
def qS24:=@Go.Proofs.Tryz.underlying118
def qS25:=@Go.Proofs.Tryz.func131
def qS26:=@Go.Proofs.Tryz.underlying42
def qS27:=@Go.Proofs.Tryz.underlying74
def XX:=@Go.Proofs.Tryz.func88
def afT:=@Go.Proofs.Tryz.func39
def afU:=@Go.Proofs.Tryz.func93
def yq:=@Go.Proofs.Tryz.func94
def XV:=@Go.Proofs.Tryz.func97
def aF:=@Go.Proofs.Tryz.func72
def afV:=@Go.Proofs.Tryz.func44
def afW:=@Go.Proofs.Tryz.func34
def qS36:=@Go.Proofs.Tryz.func115
def qS37:=@Go.Proofs.Tryz.func113
def qS38:=@Go.Proofs.Tryz.func141
def qS39:=@Go.Proofs.Tryz.func101
def qS40:=@Go.Proofs.Tryz.func140
def qS41:=@Go.Proofs.Tryz.underlying108
def qS42:=@Go.Proofs.Tryz.underlying28
end
section
attribute [local irreducible] Kp MQ lU rS KO KN KX KE VK Kl ZJ TC aab
open Go.Proofs
theorem Pd (b:LA) (a:Int) (h:AHeap):AC Tryz.prog b 131 [.int .i64 a] h fun v h'=>v=.bool false/\h'=h:=by
 refine AC.vE ⟨qS25,rfl,WY⟩ Tryz.ntmps131 Tryz.results131 fun c=>?_;simp only[Br,Nat.reduceAdd];simp only[HO,Nat.reduceLT,↓reduceIte,Nat.reduceEqDiff,reduceCtorEq,bne,eq_self]
 grind
def iC (a b:Int):Int:=if a<b then-1 else if a>b then 1 else 0
def wS (d:LA) (a b:Int) (h:AHeap):AC Tryz.prog d 88 [.int .i64 a,.int .i64 b] h fun v h'=>v=.int .i64 (iC a b)/\h'=h:=by
 refine AC.vE ⟨XX,rfl,WY⟩ Tryz.ntmps88 Tryz.results88 fun e=>?_;simp only[Br,Nat.reduceAdd];refine Uy ?_;refine TC.intro PJ ⟨qS25,rfl,WY⟩ (Pd d a h) ?_;rintro x f w1 ⟨rfl,rfl⟩;refine Uy ?_;refine TC.intro PJ ⟨qS25,rfl,WY⟩ (Pd d b f) ?_;rintro x h2 w2 ⟨rfl,rfl⟩;unfold iC;by_cases c:a<b
 .simp only[HO,Nat.reduceLT,↓reduceIte,Nat.reduceEqDiff,reduceCtorEq,c];exact⟨trivial,trivial⟩
 .by_cases c2 : a > b
  .simp only[HO,Nat.reduceLT,↓reduceIte,Nat.reduceEqDiff,reduceCtorEq,c,c2];exact⟨trivial,trivial⟩
  .simp only[HO,Nat.reduceLT,↓reduceIte,Nat.reduceEqDiff,reduceCtorEq,c,c2];exact⟨trivial,trivial⟩
def orM:RZ->Int
 |[]=>0
 |x::r=>if x=0 then orM r else x
theorem wU (f:LA) (v:Value) (xs:RZ) (h:AHeap) (d:RL RP h v xs) (m:xs.length<=1000):AC Tryz.prog f 87 [v] h fun x h'=>x=.int .i64 (orM xs)/\h'=h:=by
 refine AC.vE ⟨Tryz.func87,rfl,WY⟩ Tryz.ntmps87 Tryz.results87 fun g=>?_;simp only[Br,Nat.reduceAdd];have j:=d.Uc h;refine Sk j ?_;refine lIn (fun k fr hh=>∃i:Nat,k=xs.length-i/\i<=xs.length/\hh=h/\fr=mkF [(3,.int .i64 0),(6,v),(7,.int .i64 xs.length),(8,.int .i64 i)]/\orM xs=orM (xs.drop i)) ⟨0,rfl,aal _,rfl,rfl,rfl⟩ ?_;rintro k fr hh-⟨i,rfl,hi,rfl,rfl,b⟩;refine Uy ?_;refine Kl.intro (fun l=>?_) (fun hf=>?_)
 .have a : i < xs.length := CC l
  have ad:=d.TA i a;have ld:=d.DH i a;rw[Qn a,orM]at b;by_cases c:xs[i]=0
  .rw [if_pos c] at b
   simp only[HO,Nat.reduceLT,↓reduceIte,Nat.reduceEqDiff,reduceCtorEq,ad,ld,bne,eq_true c,Tw i NH];exact lgA NH ⟨i+1,rfl,a,rfl,rfl,b⟩
  .rw [if_neg c] at b
   simp only[HO,Nat.reduceLT,↓reduceIte,Nat.reduceEqDiff,reduceCtorEq,ad,ld,bne,eq_false c]
   grind
 .have e : xs.length <= i := vp hf
  rw[js e,orM]at b;refine Uy ?_
  grind
def Nz (p q:Pr):Int:=orM [iC p.1 q.1,iC p.2 q.2]
theorem Hv (p q:Pr):Nz p q<0↔p.1<q.1\/p.1=q.1/\p.2<q.2:=by grind [Nz,orM,iC]
theorem eK (p q:Pr):Nz p q=0↔p=q:=by grind [Nz,orM,iC]
def mk2 (h:AHeap) (a b:Int):aBuildSlice Tryz.prog h 49 2 [(0,.int .i64 a),(1,.int .i64 b)]=some (.slice (some ⟨h.next,0,none⟩) 2 2,h.alloc (.cells [.int .i64 a,.int .i64 b])):=rfl
def DU (g:LA) (p q:Pr) (h:AHeap):AC Tryz.prog g 63 [UI p,UI q] h fun v h'=>v=.int .i64 (Nz p q)/\Le h h':=by
 refine AC.vE ⟨Tryz.func63,rfl,WY⟩ Tryz.ntmps63 Tryz.results63 fun i=>?_;simp only[Br,Nat.reduceAdd];obtain⟨j,k,l1,w1,l⟩:=Tt i (xM p);obtain⟨h2,m,l2,w2,f⟩:=Tt w1 (xM q);refine Sk (Yb @Ci k m) ?_;have c:=l2.own _ _ l
 generalize h.next=a at*
 generalize j.next=b at*
 refine gh (tA [0,1,2,3,5,6,7,8] (JQ 4 [1,3] (JQ 9 [4,6,8] (JQ 10 [4,9] (JQ 11 [9,10] (tA [12] .done)))))) ?_;refine CO (acL @Dh @Z0 @Ip.eq_1 @BS (lK c) (HY c) (lK f) (HY f)) ?_;refine VA.intro PJ ⟨XX,rfl,WY⟩ (wS g p.1 q.1 h2) ?_;rintro x h3 t ⟨rfl,rfl⟩;refine CO (acL @Dh @Z0 @Ip.eq_1 @BS (lK c) (HY c) (lK f) (HY f)) ?_;refine VA.intro PJ ⟨XX,rfl,WY⟩ (wS g p.2 q.2 h3) ?_;rintro x u n ⟨rfl,rfl⟩;obtain⟨o,r,l5,w,s⟩:=Tt n [.int .i64 (iC p.1 q.1),.int .i64 (iC p.2 q.2)];have d:=l5.own _ _ c;have e:=l5.own _ _ f;refine CO (Da @Dh @Z0 @Ip.eq_1 @BS (lK c) (HY c) (lK f) (HY f) @mk2 r (lK d) (HY d) (lK e) (HY e)) ?_;refine VA.intro PJ ⟨Tryz.func87,rfl,WY⟩ (wU g _ [iC p.1 q.1,iC p.2 q.2] o (RL.Wh (RS.whole s rfl)) Ma) ?_;rintro x y z ⟨rfl,rfl⟩;refine CO (acL @Dh @Z0 @Ip.eq_1 @BS (lK d) (HY d) (lK e) (HY e)) ?_;exact⟨rfl,(l1.trans l2).trans l5⟩
def yu (g:LA) (p q:Pr) (h:AHeap):AC Tryz.prog g 167 [UI p,UI q] h fun v h'=>v=.int .i64 (Nz p q)/\Le h h':=by
 refine AC.vE ⟨Tryz.func167,rfl,WY⟩ Tryz.ntmps167 Tryz.results167 fun i=>?_;simp only[Br,Nat.reduceAdd];obtain⟨j,k,l1,w1,l⟩:=Tt i (xM p);obtain⟨h2,m,l2,w2,f⟩:=Tt w1 (xM q);refine Sk (Yb @Ci k m) ?_;have c:=l2.own _ _ l
 generalize h.next=a at*
 generalize j.next=b at*
 refine gh (tA [0,1,2,3,5,6,7,8] (JQ 4 [1,3] (JQ 9 [4,6,8] (JQ 10 [4,9] (JQ 11 [9,10] (tA [12] .done)))))) ?_;refine CO (acL @Dh @Z0 @Ip.eq_1 @BS (lK c) (HY c) (lK f) (HY f)) ?_;refine VA.intro PJ ⟨XX,rfl,WY⟩ (wS g p.1 q.1 h2) ?_;rintro x h3 t ⟨rfl,rfl⟩;refine CO (acL @Dh @Z0 @Ip.eq_1 @BS (lK c) (HY c) (lK f) (HY f)) ?_;refine VA.intro PJ ⟨XX,rfl,WY⟩ (wS g p.2 q.2 h3) ?_;rintro x u n ⟨rfl,rfl⟩;obtain⟨o,r,l5,w,s⟩:=Tt n [.int .i64 (iC p.1 q.1),.int .i64 (iC p.2 q.2)];have d:=l5.own _ _ c;have e:=l5.own _ _ f;refine CO (Da @Dh @Z0 @Ip.eq_1 @BS (lK c) (HY c) (lK f) (HY f) @mk2 r (lK d) (HY d) (lK e) (HY e)) ?_;refine VA.intro PJ ⟨Tryz.func87,rfl,WY⟩ (wU g _ [iC p.1 q.1,iC p.2 q.2] o (RL.Wh (RS.whole s rfl)) Ma) ?_;rintro x y z ⟨rfl,rfl⟩;refine CO (acL @Dh @Z0 @Ip.eq_1 @BS (lK d) (HY d) (lK e) (HY e)) ?_;exact⟨rfl,(l1.trans l2).trans l5⟩
def YN (G:GM) (i:Nat):Prop:=∀p,G.es[i]?=some p->(0<=p.1/\p.1<p.2/\p.2<G.n)/\∀q,0<i->G.es[i-1]?=some q->Nz q p<0
structure bX (G:GM):Prop where
 n0:0<=G.n
 n1:G.n<=200
 len:G.es.length<=594
 ok:∀i,i<G.es.length->YN G i
theorem ak (T:LA) (v:Value) (G:GM) (h:AHeap) (hg:GR h v G):AC Tryz.prog T 24 [v] h fun x h'=>RR (bX G) x/\Le h h':=by
 obtain⟨ev,rfl,C⟩:=hg.ex;refine AC.vE ⟨qv,rfl,WY⟩ Tryz.ntmps24 Tryz.results24 fun P=>?_;simp only[Br,Nat.reduceAdd];obtain⟨U,J,l,Y,-,Q⟩:=r8 (n:=G.n) P C
 generalize h.next=B at*
 have V:=fun g=>C.len g;have c:=Q U (Le.refl _);by_cases K:G.n<0
 .refine Sk (bG J @Ii @Ip.eq_1 @BS c.2.1 K) ?_
  exact⟨.f fun q=>by have:=q.n0;omega,l⟩
 by_cases c1:G.n>200
 .refine Sk (rE J @Ii @Ip.eq_1 @BS c.2.1 K c1) ?_
  exact⟨.f fun q=>by have:=q.n1;omega,l⟩
 by_cases c2:(G.es.length:Int)>594
 .refine Sk (rk J @Ii @Di @Ip.eq_1 @BS c.2.1 c.2.2 V K c1 c2) ?_
  grind [RR.f,bX.len]
 refine Sk (rk J @Ii @Di @Ip.eq_1 @BS c.2.1 c.2.2 V K c1 c2) ?_;refine lIn (fun k fr hh=>∃i:Nat,k=G.es.length-i/\i<=G.es.length/\fr=mkF [(1,.pointer (some ⟨B,0,none⟩)),(20,ev),(21,.int .i64 G.es.length),(22,.int .i64 i)]/\Le U hh/\∀j,j<i->YN G j) ⟨0,rfl,aal _,rfl,Le.refl _,NH⟩ ?_;rintro k fr hh R ⟨i,rfl,hi,rfl,a,D⟩;refine Uy ?_;refine Kl.intro (fun W=>?_) (fun hf=>?_)
 rotate_left
 .have Z : G.es.length <= i := vp hf
  refine Uy ?_;exact⟨.t ⟨NH,NH,NH,fun j X=>D j NH⟩,l.trans a⟩
 have m:i<G.es.length:=CC W;clear W;have d:=CA m;generalize G.es[i]=p at d;have y:=C.le (l.trans a);have ad:=C.addr (k:=.i64) i m;have ld:=y.load d;obtain⟨h2,h3,L,e3,b,ae,M⟩:=Ut R p;have N:=lK M;have L1:=HY M;have LP:=uM M;have fT:=Q h3 (a.trans b);have bad:¬YN G i->¬bX G:=fun hn q=>hn (q.ok i m);have u:=(l.trans a).trans b
 generalize hh.next=E at*
 by_cases O:p.1<0
 .simp only [HO, Nat.reduceLT, ↓reduceIte, Nat.reduceEqDiff, reduceCtorEq, ad, ld, L, e3, Dh, Z0, Ip, BS, N, L1, O]
  exact⟨.f (bad fun q=>by have:=(q p d).1.1;omega),u⟩
 by_cases d1:p.1>=p.2
 .simp only [HO, Nat.reduceLT, ↓reduceIte, Nat.reduceEqDiff, reduceCtorEq, ad, ld, L, e3, Dh, Z0, Ip, BS, N, L1, O, d1]
  exact⟨.f (bad fun q=>by have:=(q p d).1.2.1;omega),u⟩
 by_cases d2:p.2>=G.n
 .simp only [HO, Nat.reduceLT, ↓reduceIte, Nat.reduceEqDiff, reduceCtorEq, ad, ld, L, e3, Dh, Z0, Ii, Ip, BS, N, L1, fT.2.1, O, d1, d2]
  exact⟨.f (bad fun q=>by have:=(q p d).1.2.2;omega),u⟩
 simp only[HO,Nat.reduceLT,↓reduceIte,Nat.reduceEqDiff,reduceCtorEq,ad,ld,L,e3,Dh,Z0,Ii,Ip,BS,N,L1,fT.2.1,O,d1,d2];by_cases i0:i=0
 .subst i0
  have z:((0:Int)<((0:Nat):Int))=False:=eq_false NH;refine gh (tA [0,1,2,3,4,5,6,7,8,9] (JQ 10 [2,8,9] (tA [11,12] .done))) ?_;refine CO (Yb @gt_iff_lt.{0} z (Tw 0 NH)) ?_
  refine lgA NH ⟨0+1,rfl,m,rfl,a.trans b,fun j X=>?_⟩;have:j=0:=NH;subst this;intro p' S
  grind
 .have z : ((0 : Int) < (i : Int)) = True := eq_true NH
  have w:=CA (show i-1<G.es.length by omega);generalize G.es[i-1]'(by omega)=q at w
  have o:awrap .i64 ((i:Int)-1)=((i-1:Nat):Int):=by grind [cT]
  have A:=C.addr (k:=.i64) (i-1) NH;have F:=(y.le b).load w;refine gh (tA [0,1,2,3,4,5,6,7,8,9] (JQ 10 [2,8,9] (tA [11,12] .done))) ?_;simp only[HO,Nat.reduceLT,↓reduceIte,Nat.reduceEqDiff,reduceCtorEq,Nat.reduceBEq,Qg,gt_iff_lt,z,o,Di,Ip,BS,fT.2.2,A,F,LP];refine VA.intro PJ ⟨Tryz.func63,rfl,WY⟩ (DU T q p h3) ?_;rintro x h4 ag ⟨rfl,r⟩;have H:=Q h4 ((a.trans b).trans r);have s:=F;have I:=uM (r.own _ _ M);have s:=((y.le b).le r).load w;by_cases d3:Nz q p>=0
  .refine CO (Pj z o @Di @Ip.eq_1 @BS H.2.2 A s I d3) ?_
   exact⟨.f (bad fun k=>by have:=(k p d).2 q NH w;omega),u.trans r⟩
  .refine CO (rk z o @Di @Ip.eq_1 @BS H.2.2 A s I d3 (Tw i NH)) ?_
   refine lgA NH ⟨i+1,rfl,m,rfl,(a.trans b).trans r,fun j X=>?_⟩;by_cases e:j=i
   .subst e
    intro p' S
    grind
   grind
variable {es:List Pr} {i j:Nat} {p:Pr}
def D3 (es:List Pr):Prop:=∀(i j:Nat) p q,i<j->es[i]?=some p->es[j]?=some q->Nz p q<0
theorem bX.q9 {G:GM} (r:bX G):D3 G.es:=by
 have step:∀(d i:Nat) p q,G.es[i]?=some p->G.es[i+(d+1)]?=some q->Nz p q<0:=by
  intro d
  induction d with
  |zero=>
   intro i p q b a;have c:=(Ny.1 a).1;exact(r.ok (i+1) c q a).2 p NH pw
  |succ d f=>
   intro i p q b a;have c:=(Ny.1 a).1;have e:=CA (show i+(d+1)<G.es.length by omega);have h:=f i p _ b e;have h2:=(r.ok (i+(d+1+1)) c q a).2 _ NH (by rw[show i+(d+1+1)-1=i+(d+1) by omega];exact e);rw[Hv]at*;omega
 intro i j p q g b a;have:=step (j-i-1) i p q b pw;exact this
theorem D3.uniq (a:D3 es) (hi:es[i]?=some p) (b:es[j]?=some p):i=j:=by
 rcases Tj i j with h|h|h
 .have := a i j p p h hi b
  grind [eK]
 .exact h
 .have := a j i p p h b hi
  grind [eK]
theorem afX (n:Nat) (h:n<18446744073709551616):awrap .u64 (n:Int)=(n:Int):=by grind [awrap]
theorem Tq (n:Nat) (h:n<18446744073709551616):aShift .shr .u64 (n:Int) 1=some (.int .u64 ((n / 2:Nat):Int)):=by
 have e:((n:Int)).fdiv (2^min 1 IntKind.u64.bits)=((n / 2:Nat):Int):=by rw[show min 1 IntKind.u64.bits=1 from rfl,Int.fdiv_eq_ediv_of_nonneg _ WY];simp
 grind [aShift]
def cv3u (h:AHeap) (x:Int):aConvert Tryz.prog h 3 146 (.int .i64 x)=some (.int .u64 (awrap .u64 x),h):=by simp[aConvert,qS16,Mb]
def cvu3 (h:AHeap) (x:Int):aConvert Tryz.prog h 146 3 (.int .u64 x)=some (.int .i64 (awrap .i64 x),h):=by simp[aConvert,qS16,Mb]
theorem xm (G:LA) (F:FuncId) (fn:Func) (c:Code) (H:Good Tryz.prog F fn c) (n:∀(p q:Pr) (h:AHeap),AC Tryz.prog G F [UI p,UI q] h fun v h'=>v=.int .i64 (Nz p q)/\Le h h')
  (v:Value) (es:List Pr) (p:Pr) (h:AHeap) (r:PR h v es) (W:es.length<=1000) (ha:D3 es):
  AC Tryz.prog G 70 [v,UI p,.func (.func F) #[] #[]] h fun x h'=>(∃(i:Nat) (b:Bool),x=.tuple #[.int .i64 i,.bool b]/\(b=true->es[i]?=some p)/\(b=false->p∉es))/\Le h h':=by
 refine AC.vE ⟨Tryz.func70,rfl,WY⟩ Tryz.ntmps70 Tryz.results70 fun t=>?_;simp only[Br,Nat.reduceAdd];obtain⟨L,M,l1,w1,u⟩:=Tt t (xM p);have N:=fun g=>r.len g;refine Sk (Yb @Ci M N) ?_
 generalize h.next=B at*
 refine lIn (fun k fr hh=>∃lo hi:Nat,k=hi-lo/\lo<=hi/\hi<=es.length/\fr=mkF [(0,v),(2,.func (.func F) #[] #[]),(4,.pointer (some ⟨B,0,none⟩)),(8,.int .i64 es.length),(9,.int .i64 lo),(10,.int .i64 hi)]/\Le L hh/\
   (∀(k:Nat) q,k<lo->es[k]?=some q->Nz q p<0)/\∀(k:Nat) q,hi<=k->es[k]?=some q->¬Nz q p<0) ⟨0,es.length,rfl,aal _,qL0 _,rfl,Le.refl _,NH,fun k q s d=>by grind⟩ ?_
 rintro k fr hh O ⟨lo,hi,rfl,P,w,rfl,a,y,A⟩;have I:=uM (a.own _ _ u);have f:=r.le (l1.trans a);refine Uy ?_;refine Kl.intro (fun J=>?_) (fun hf=>?_)
 .have Q : lo < hi := CC J
  clear J;have a1:awrap .i64 ((lo:Int)+(hi:Int))=((lo+hi:Nat):Int):=by grind [cT]
  have a2:=afX (lo+hi) NH;have R:=Tq (lo+hi) NH;have S:awrap .i64 (((lo+hi) / 2:Nat):Int)=(((lo+hi) / 2:Nat):Int):=cT _ NH NH;have C:(lo+hi) / 2<hi:=NH;have D:lo<=(lo+hi) / 2:=NH;refine Sk (bG a1 @cv3u a2 R @cvu3 S) ?_;generalize (lo+hi) / 2=m at*;have d:=CA (show m<es.length by omega);generalize es[m]'(by omega)=q at d
  have ad:=r.addr (k:=.i64) m NH;have ld:=f.load d;refine gh (tA [0,1,2,3,4,5] (JQ 6 [0,4,5] (tA [7] .done))) ?_;simp only[HO,Nat.reduceLT,↓reduceIte,Nat.reduceEqDiff,reduceCtorEq,Nat.reduceBEq,Qg,ad,ld,I];refine VA.intro PJ H (n q p hh) ?_;rintro x h3 T ⟨rfl,l3⟩;have j:=uM ((a.trans l3).own _ _ u);have l:=(f.le l3).load d;by_cases K:Nz q p<0
  .simp only [HO, Nat.reduceLT, ↓reduceIte, Nat.reduceEqDiff, reduceCtorEq, Nat.reduceBEq, Qg, ad, l, j, K, Tw m NH]
   refine lgA NH ⟨m+1,hi,rfl,C,w,rfl,a.trans l3,fun k E s o=>?_,A⟩;by_cases e:k=m
   .grind
   .have := ha k m E q NH o d
    grind [Hv]
  .simp only [HO, Nat.reduceLT, ↓reduceIte, Nat.reduceEqDiff, reduceCtorEq, Nat.reduceBEq, Qg, ad, l, j, K]
   refine lgA NH ⟨lo,m,rfl,D,NH,rfl,a.trans l3,y,fun k E s o=>?_⟩;by_cases e:k=m
   .grind
   .have := ha m k q E NH d o
    grind [Hv]
 have U:hi<=lo:=vp hf;obtain rfl:lo=hi:=NH;clear hf;by_cases c1:lo<es.length
 .have z : ((lo : Int) < (es.length : Int)) = True := eq_true NH
  have d:=CA c1;generalize es[lo]=q at d;have ad:=r.addr (k:=.i64) lo c1;have ld:=f.load d;refine Uy ?_;refine gh (tA [0,1,2,3,4,5,6,7,8,9,10] (JQ 11 [4,5,9,10] (tA [12,13,14,15] .done))) ?_;simp only[HO,Nat.reduceLT,↓reduceIte,Nat.reduceEqDiff,reduceCtorEq,Nat.reduceBEq,Qg,z,ad,ld,I];refine VA.intro PJ H (n q p hh) ?_;rintro x h3 T ⟨rfl,l3⟩;have j:=uM ((a.trans l3).own _ _ u);have l:=(f.le l3).load d;simp only[HO,Nat.reduceLT,↓reduceIte,Nat.reduceEqDiff,reduceCtorEq,Nat.reduceBEq,Qg,z,ad,l,j];refine⟨⟨lo,decide (Nz q p=0),rfl,fun e=>?_,fun e=>?_⟩,(l1.trans a).trans l3⟩
  .grind [eK]
  .have V := of_decide_eq_false e
   intro C;obtain⟨k,s⟩:=yM.1 C;have X:=(eK p p).2 rfl;rcases Tj k lo with h|h|h
   .grind
   .grind
   .have := ha lo k q p h d s
    grind
 .have z : ((lo : Int) < (es.length : Int)) = False := eq_false NH
  refine Uy ?_;refine gh (tA [0,1,2,3,4,5,6,7,8,9,10] (JQ 11 [4,5,9,10] (tA [12,13,14,15] .done))) ?_;refine CO z ?_
  grind [Le.trans,List.mem_iff_getElem?,eK]
theorem D3.nodup {l:List Pr} (a:D3 l):l.Nodup:=by
 rw[kc,V3];intro i j hi c b e;have:=a i j _ _ b (CA hi) (CA c)
 grind [eK]
variable {a b n:Nat} {h:AHeap} {v:Value} {web:List Pr} {xs:List Bool}
def sJ (_:AHeap) (v:Value) (b:Bool):Prop:=v=.bool b
theorem Nn.sJ:Nn sJ:=fun _ _ _ _ h _=>h
def RL.Sm (r:RS h v (xs.map Value.bool)):RL sJ h v xs:=
 ⟨_,r,Ma,fun i x u b a=>by simp[b]at a;exact a.symm⟩
theorem RL.W7 (r:RL sJ h v xs) (i:Nat) (hi:i<xs.length):aload Tryz.prog h 4 (elemAddr v i)=some (.bool xs[i]):=by
 obtain⟨u,a,h2⟩:=r.load (P:=Tryz.prog) AV rfl i hi;rw[a];exact congrArg some h2
def RL.LB (r:RL sJ h v xs) {k:IntKind} (i:Nat) (hi:i<xs.length):aIndexAddr Tryz.prog 59 v (.int k i)=some (.pointer (some (elemAddr v i))):=
 r.addr (P:=Tryz.prog) Uh AV Ji i hi
def ofM (es web:List Pr):List Bool:=es.map fun e=>decide (e∈web)
def onW (web:List Pr) (v:Nat):Prop:=∃e∈web,e.1=(v:Int)\/e.2=(v:Int)
instance (web:List Pr) (v:Nat):Decidable (onW web v):=inferInstanceAs (Decidable (∃e∈web,e.1=(v:Int)\/e.2=(v:Int)))
def Cb (n:Nat) (web:List Pr):List Bool:=(List.range n).map fun v=>decide (onW web v)
theorem yV (a:D3 es) (hi:es[i]?=some p):ofM es (web++[p])=(ofM es web).set i true:=by
 apply EH;intro j;rw[K4]
 grind [ofM,D3.uniq]
theorem NM (web:List Pr) (p:Pr) (v:Nat):onW (web++[p]) v↔onW web v\/(p.1=(v:Int)\/p.2=(v:Int)):=by
 simp only[onW,Sb,jf]
 grind
theorem mc:Cb n (web++[((a:Int),(b:Int))])=((Cb n web).set a true).set b true:=by
 apply EH
 grind [Cb,NM]
def c8 (es web:List Pr):(ofM es web).length=es.length:=by simp[ofM]
def Qe (n:Nat) (web:List Pr):(Cb n web).length=n:=by simp[Cb]
theorem ofM_nil (es:List Pr):ofM es []=List.replicate es.length false:=by
 apply af6
 all_goals grind [ofM]
theorem onM_nil (n:Nat):Cb n []=List.replicate n false:=by
 apply af6
 all_goals grind [Cb,onW]
structure CU (es web:List Pr):Prop where
 q9:∀(i:Nat) p q,web[i]?=some p->web[i+1]?=some q->Nz p q<0
 mem:∀p∈web,p∈es
structure New2 (h h':AHeap) (A B:Nat) (x y:List Value):Prop where
 le:Le h h'
 wf:WF h'
 oA:h'.own A=some (.cells x)
 oB:h'.own B=some (.cells y)
 nA:h.own A=none
 nB:h.own B=none
 ne:A≠B
def Yd (hw:WF h) (x y:List Value):New2 h ((h.alloc (.cells x)).alloc (.cells y)) h.next (h.next+1) x y:=by
 have a:∀x,h.next<=x->h.own x=none:=fun x b=>(Le.refl h).next hw b
 exact⟨((Le.refl h).alloc hw _).alloc (hw.alloc _) _,(hw.alloc _).alloc _,by simp[Mh,om],by simp[Mh,om],a _ (qL0 _),a _ NH,NH⟩
def sX (hw:WF h) (x y:List Value):New2 h ((h.alloc (.cells y)).alloc (.cells x)) (h.next+1) h.next x y:=by
 have a:∀x,h.next<=x->h.own x=none:=fun x b=>(Le.refl h).next hw b
 exact⟨((Le.refl h).alloc hw _).alloc (hw.alloc _) _,(hw.alloc _).alloc _,by simp[Mh,om],by simp[Mh,om],a _ NH,a _ (qL0 _),NH⟩
def GR.open {n:Int} (r:GR h v ⟨n,es⟩):∃ev,v=.agg #[.int .i64 n,ev]/\PR h ev es:=r.ex
theorem j5 (W0:LA) (v r:Value) (G:GM) (web:List Pr) (h:AHeap) (hg:GR h v G) (hw:PR h r web) (hr:bX G) (hn:web.length<=1000):
  AC Tryz.prog W0 134 [v,r] h fun x h'=>(∃ov nv b,x=.tuple #[ov,nv,.bool b]/\(nv.cells=#[nv]/\nv.oneCell'=true)/\(b=true↔CU G.es web)/\(b=true->RL sJ h' ov (ofM G.es web)/\RL sJ h' nv (Cb G.n.toNat web)))/\Le h h':=by
 obtain⟨gn,es⟩:=G;have h0:0<=gn:=hr.n0;obtain⟨n,rfl⟩:=yY h0
 obtain⟨ev,rfl,hp⟩:=hg.open
 have b9:(n:Int)<=200:=hr.n1;have cc:es.length<=594:=hr.len;have S:D3 es:=hr.q9;have aq:∀p∈es,0<=p.1/\p.1<p.2/\p.2<(n:Int):=fun p K=>by
  obtain⟨i,hi⟩:=yM.1 K;exact(hr.ok i (Ny.1 hi).1 p hi).1
 show AC Tryz.prog W0 134 [.agg #[.int .i64 (n:Int),ev],r] h fun x h'=>(∃ov nv b,x=.tuple #[ov,nv,.bool b]/\(nv.cells=#[nv]/\nv.oneCell'=true)/\(b=true↔CU es web)/\(b=true->RL sJ h' ov (ofM es web)/\RL sJ h' nv (Cb n web)))/\Le h h';refine AC.vE ⟨Tryz.func134,rfl,WY⟩ Tryz.ntmps134 Tryz.results134 fun bo=>?_;simp only[Br,Nat.reduceAdd];obtain⟨T,b1,s,o,-,lA⟩:=r8 (n:=(n:Int)) bo hp
 generalize h.next=B at*
 have ll:=fun g=>hp.len g;have ar:=lA T (Le.refl _);have br:=fun g:AHeap=>Ye (P:=Tryz.prog) (t:=59) (z:=.bool false) g Uh rfl rfl rfl rfl Ji AV Ji es.length NH;have bx:=fun g:AHeap=>Ye (P:=Tryz.prog) (t:=59) (z:=.bool false) g Uh rfl rfl rfl rfl Ji AV Ji n NH;refine Sk b1 ?_;have Y:List.replicate es.length (Value.bool false)=(ofM es []).map Value.bool:=by rw[ofM_nil];simp
 have Z:List.replicate n (Value.bool false)=(Cb n []).map Value.bool:=by rw[onM_nil];simp
 apply Ya (F:=fun(fr:lC) (h':AHeap)=>∃A C,Fj fr [(1,r),(2,.pointer (some ⟨B,0,none⟩)),(7,.slice (some ⟨A,0,none⟩) es.length es.length),(8,.slice (some ⟨C,0,none⟩) n n)]/\New2 T h' A C (List.replicate es.length (Value.bool false)) (List.replicate n (Value.bool false)))
 .intro cont
  have X1:=lA ((T.alloc (.cells (List.replicate es.length (.bool false))))) ((Le.refl T).alloc o _);have X2:=lA ((T.alloc (.cells (List.replicate n (.bool false))))) ((Le.refl T).alloc o _);have X3:=lA _ (Yd o (List.replicate es.length (.bool false)) (List.replicate n (.bool false))).le;have X4:=lA _ (sX o (List.replicate es.length (.bool false)) (List.replicate n (.bool false))).le;refine gh (tA [0,1,2,4,5] (.ch 3 [2] (tA [7] (JQ 6 [5] (tA [8] .done))) (JQ 6 [5] (JQ 3 [2] (tA [7,8] .done))))) ?_;simp only[qj,Nat.reduceLT,↓reduceIte,Nat.reduceEqDiff,reduceCtorEq,Nat.reduceBEq,Qg,Ii,Di,Ip,BS,ar.2.1,ar.2.2,ll,br,bx,om,X1.2.1,X1.2.2,X2.2.1,X2.2.2,X3.2.1,X3.2.2,X4.2.1,X4.2.2];refine⟨?_,?_⟩
  .refine KN.UJ fun fr' h' e1 e2 => cont fr' h' ?_
   subst e1 e2;exact⟨_,_,fD,Yd o _ _⟩
  .refine KN.UJ fun fr' h' e1 e2 => cont fr' h' ?_
   subst e1 e2;exact⟨_,_,fD,sX o _ _⟩
 rintro fr h2 ⟨A,C,u,N⟩;simp only[Fj]at u;obtain⟨f1,f2,f7,f8,-⟩:=u;have lw:=fun g=>hw.len g;simp only[HO,Nat.reduceLT,↓reduceIte,Nat.reduceEqDiff,reduceCtorEq,f1,lw];have av:=N.oA;have ay:=N.oB;rw[Y]at av;rw[Z]at ay;have nA:=N.nA;have nC:=N.nB;have cd:=N.ne;refine aab.intro (fun k fr hh=>∃i:Nat,k=web.length-i/\i<=web.length/\fr=mkF [(1,r),(2,.pointer (some ⟨B,0,none⟩)),(7,.slice (some ⟨A,0,none⟩) es.length es.length),(8,.slice (some ⟨C,0,none⟩) n n),(20,r),(21,.int .i64 web.length),(22,.int .i64 i)]/\
   hh.own A=some (.cells ((ofM es (web.take i)).map Value.bool))/\hh.own C=some (.cells ((Cb n (web.take i)).map Value.bool))/\Le T hh/\(∀(j:Nat) p,j<i->web[j]?=some p->p∈es)/\∀(j:Nat) p q,j+1<i->web[j]?=some p->web[j+1]?=some q->Nz p q<0)
  web.length [(1,r),(2,.pointer (some ⟨B,0,none⟩)),(7,.slice (some ⟨A,0,none⟩) es.length es.length),(8,.slice (some ⟨C,0,none⟩) n n),(20,r),(21,.int .i64 web.length),(22,.int .i64 (0:Nat))] (by simp only[Fj,HO,Nat.reduceLT,↓reduceIte,Nat.reduceEqDiff,reduceCtorEq,f1,f2,f7,f8];simp)
  ⟨0,rfl,aal _,rfl,av,ay,N.le,NH,NH⟩ ?_
 rintro k fr hh az ⟨i,rfl,hi,rfl,oA,oC,L,cf,ae⟩;refine Uy ?_;refine Kl.intro (fun ht=>?_) (fun hf=>?_)
 rotate_left
 .have bB : web.length <= i := vp hf
  rw[IE bB]at oA oC;refine Uy ?_;refine⟨⟨_,_,true,rfl,⟨rfl,rfl⟩,⟨fun _=>⟨fun j p q cg m=>?_,fun p K=>?_⟩,fun _=>rfl⟩,fun _=>⟨RL.Sm (RS.whole oA (by simp[c8])),RL.Sm (RS.whole oC (by simp[Qe]))⟩⟩,s.trans L⟩
  .grind
  grind [List.mem_iff_getElem?]
 have M:i<web.length:=CC ht;clear ht;have O:=CA M;have ag:web.take (i+1)=web.take i++[web[i]]:=EL M;generalize web[i]=p at O ag;have w:=hw.le (s.trans L);have ad:=hw.addr (k:=.i64) i M;have ld:=w.load O;obtain⟨ck,h3,e2,e3,D,bF,d⟩:=Ut az p;have aC:=D.own _ _ oA;have aD:=D.own _ _ oC;have U:=L.trans D
 have nE:T.own hh.next=none:=L.none ((Le.refl hh).next az (qL0 _))
 generalize hh.next=E at*
 simp only[HO,Nat.reduceLT,↓reduceIte,Nat.reduceEqDiff,reduceCtorEq,ad,ld,e2,e3];have aH:(∃(j:Nat) (a b:Pr),web[j]?=some a/\web[j+1]?=some b/\¬Nz a b<0)->¬CU es web:=fun⟨j,a,b,x,y,z⟩ q=>z (q.q9 j a b x y);apply Ya (F:=fun(fr:lC) (h4:AHeap)=>Fj fr [(1,r),(2,.pointer (some ⟨B,0,none⟩)),(7,.slice (some ⟨A,0,none⟩) es.length es.length),(8,.slice (some ⟨C,0,none⟩) n n),(10,.pointer (some ⟨E,0,none⟩)),(20,r),(21,.int .i64 web.length),(22,.int .i64 i),(38,.bool false)]/\Le h3 h4/\WF h4/\∀q,0<i->web[i-1]?=some q->Nz q p<0)
 .intro cont
  by_cases i0:i=0
  .have z : ((0 : Int) < (i : Int)) = False := eq_false NH
   refine gh (tA [0,1,2,3,4,5,6,7,8] (JQ 9 [2,7,8] (tA [10,11] .done))) ?_;simp only[qj,Nat.reduceLT,↓reduceIte,Nat.reduceEqDiff,reduceCtorEq,Nat.reduceBEq,Qg,gt_iff_lt,z];exact KN.UJ fun fr' h' x y=>cont fr' h' (by subst x y;exact⟨fD,Le.refl _,bF,fun q h=>by omega⟩)
  .have z : ((0 : Int) < (i : Int)) = True := eq_true NH
   have H:=CA (show i-1<web.length by omega);generalize web[i-1]'(by omega)=q at H
   have I:awrap .i64 ((i:Int)-1)=((i-1:Nat):Int):=by rw[cT _ NH NH];omega
   have aj:=hw.addr (k:=.i64) (i-1) NH;have bH:=(w.le D).load H;have LP:=uM d;refine gh (tA [0,1,2,3,4,5,6,7,8] (JQ 9 [2,7,8] (tA [10,11] .done))) ?_;refine CO (bG @gt_iff_lt.{0} z I aj bH LP) ?_
   refine VA.intro PJ ⟨Tryz.func167,rfl,WY⟩ (yu W0 q p h3) ?_;rintro x h4 aJ ⟨rfl,f⟩;have Q:=uM (f.own _ _ d);have V:=((w.le D).le f).load H;by_cases d3:Nz q p>=0
   .refine CO (bG z I aj V Q d3) ?_
    refine⟨⟨_,_,false,rfl,⟨rfl,rfl⟩,⟨fun e=>(by cases e),fun e=>absurd e (aH ⟨i-1,q,p,H,by rw[show i-1+1=i by omega];exact O,NH⟩)⟩,fun e=>by cases e⟩,((s.trans U).trans f)⟩
   .simp only [qj, Nat.reduceLT, ↓reduceIte, Nat.reduceEqDiff, reduceCtorEq, Nat.reduceBEq, Qg, z, I, aj, V, Q, d3]
    exact KN.UJ fun fr' h' x y=>cont fr' h' (by subst x y;exact⟨fD,f,aJ,fun q' _ m=>by rw[H]at m;injection m with m;subst m;omega⟩)
 rintro fr h4 ⟨u,f,aJ,bI⟩;simp only[Fj]at u;obtain⟨g1,g2,g7,g8,aK,aP,aT,bN,bQ,-⟩:=u;have J:=U.trans f;have bW:=lA h4 J;have Q:=uM (f.own _ _ d);refine Sk (acL bQ g2 aK @Di @Ip.eq_1 @BS bW.2.2 Q) ?_;refine TC.intro PJ ⟨Tryz.func70,rfl,WY⟩ (xm W0 167 Tryz.f167 _ ⟨Tryz.func167,rfl,WY⟩ (fun p q h=>yu W0 p q h) ev es p h4 (hp.le (s.trans J)) NH S) ?_;rintro x h5 cm ⟨⟨l,b,rfl,bZ,b0⟩,R⟩;have W:=J.trans R;cases b with
 |false=>
  refine Uy ?_;exact⟨⟨_,_,false,rfl,⟨rfl,rfl⟩,⟨fun e=>(by cases e),fun q=>absurd (q.mem p (Gc O)) (b0 rfl)⟩,fun e=>by cases e⟩,s.trans W⟩
 |true=>
 have al:=bZ rfl;have K:=Gc al;obtain⟨p1,p2,p3⟩:=aq p K;obtain⟨a,c⟩:=p;simp only at p1 p2 p3;obtain⟨a,rfl⟩:=yY p1;obtain⟨c,rfl⟩:=yY (show 0<=c by omega);have X:=(Ny.1 al).1;have b2:=R.own _ _ (f.own _ _ aC);have cp:=R.own _ _ (f.own _ _ aD);have aW:=R.own _ _ (f.own _ _ d);have cq:A≠E:=fun e=>by subst e;rw[aC]at d;injection d with d;injection d with d;cases hx:(ofM es (web.take i))with|nil=>rw[hx]at d;cases d|cons y ys=>rw[hx]at d;injection d with d _;cases d
 have cx:C≠E:=fun e=>by subst e;rw[aD]at d;injection d with d;injection d with d;cases hx:(Cb n (web.take i))with|nil=>rw[hx]at d;cases d|cons y ys=>rw[hx]at d;injection d with d _;cases d
 have b3:∀k:IntKind,aIndexAddr Tryz.prog 59 (.slice (some ⟨A,0,none⟩) es.length es.length) (.int k l)=some (.pointer (some ⟨A,l,none⟩)):=fun k=>by rw[Wc Uh AV Ji l X];simp[Ip]
 have aX:∀(k:IntKind) (j:Nat),j<n->aIndexAddr Tryz.prog 59 (.slice (some ⟨C,0,none⟩) n n) (.int k j)=some (.pointer (some ⟨C,j,none⟩)):=fun k j hj=>by rw[Wc Uh AV Ji j hj];simp[Ip]
 have st1:=QB (P:=Tryz.prog) (t:=4) (x:=.bool true) AV Ji b2 (off:=l) (by simp[c8,X]) rfl rfl;have b4:(h5.put A (.cells (((ofM es (web.take i)).map Value.bool).set l (.bool true)))).own C=some (.cells ((Cb n (web.take i)).map Value.bool)):=by grind [AHeap.By]
 have a6:(h5.put A (.cells (((ofM es (web.take i)).map Value.bool).set l (.bool true)))).own E=some (.cells (xM ((a:Int),(c:Int)))):=by grind [AHeap.By]
 have cz:(h5.put A (.cells (((ofM es (web.take i)).map Value.bool).set l (.bool true)))).own A=some (.cells ((ofM es (web.take (i+1))).map Value.bool)):=by rw[AHeap.Y3,ag,yV S al,Dk]
 have b5:=W.put (.cells (((ofM es (web.take i)).map Value.bool).set l (.bool true))) nA;generalize h5.put A (.cells (((ofM es (web.take i)).map Value.bool).set l (.bool true)))=h6 at*;have st2:=QB (P:=Tryz.prog) (t:=4) (x:=.bool true) AV Ji b4 (off:=a) (by simp[Qe];omega) rfl rfl;have b6:(h6.put C (.cells (((Cb n (web.take i)).map Value.bool).set a (.bool true)))).own C=some (.cells (((Cb n (web.take i)).map Value.bool).set a (.bool true))):=AHeap.Y3 _ _ _;have a7:(h6.put C (.cells (((Cb n (web.take i)).map Value.bool).set a (.bool true)))).own E=some (.cells (xM ((a:Int),(c:Int)))):=by grind [AHeap.By]
 have cC:(h6.put C (.cells (((Cb n (web.take i)).map Value.bool).set a (.bool true)))).own A=some (.cells ((ofM es (web.take (i+1))).map Value.bool)):=by grind [AHeap.By]
 have b8:=b5.put (.cells (((Cb n (web.take i)).map Value.bool).set a (.bool true))) nC;generalize h6.put C (.cells (((Cb n (web.take i)).map Value.bool).set a (.bool true)))=h7 at*;have st3:=QB (P:=Tryz.prog) (t:=4) (x:=.bool true) AV Ji b6 (off:=c) (by simp[Qe];omega) rfl rfl;have a8:=lK aW;have bb:=HY aW;have bg:=lK a6;have bh:=HY a6;have bk:=lK a7;have bm:=HY a7;simp only at a8 bb bg bh bk bm;refine Uy ?_;refine gh (tA [0,1,2,3,4,5,6,7,8] (JQ 9 [0,1,8] (tA [10] (JQ 11 [0,1,2,3,4,8,9,10] (tA [12] (JQ 13 [0,1,2,3,4,5,6,7,8,9,10,11,12] .done)))))) ?_;simp only[HO,Nat.reduceLT,↓reduceIte,Nat.reduceEqDiff,reduceCtorEq,Nat.reduceBEq,Qg,g1,g2,g7,g8,aK,aP,aT,bN,Dh,Z0,Ip,BS,a8,bb,bg,bh,bk,bm,b3,aX _ a NH,aX _ c NH,st1,st2,st3,Tw i NH];refine tn (web.length-(i+1)) [(1,r),(2,.pointer (some ⟨B,0,none⟩)),(7,.slice (some ⟨A,0,none⟩) es.length es.length),(8,.slice (some ⟨C,0,none⟩) n n),(20,r),(21,.int .i64 web.length),(22,.int .i64 (i+1:Nat))] NH (by simp only[Fj,HO,Nat.reduceLT,↓reduceIte,Nat.reduceEqDiff,reduceCtorEq,g1,g2,g7,g8,aP,aT];simp)
  ⟨i+1,rfl,M,rfl,by grind [AHeap.By],by rw[AHeap.Y3,ag,mc];simp[Dk],b8.put _ nC,fun j q hj hq=>?_,fun j q q' hj hq m=>?_⟩
 .grind
 .by_cases e : j + 1 = i
  .have : web[i - 1]? = some q := by rw [<- e]; grind
   grind
  .exact ae j q q' NH hq m
end
end Go.Fw
