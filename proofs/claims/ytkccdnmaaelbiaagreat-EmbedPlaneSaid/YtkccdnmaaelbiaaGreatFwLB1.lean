/- A text. -/
import Derived.Test.YtkccdnmaaelbiaaGreatProg
import Derived.Test.YtkccdnmaaelbiaaGreatFwDraw
set_option linter.all false
set_option maxRecDepth 99999
set_option maxHeartbeats 9999999
namespace Go.Fw
section
open Go.Proofs
variable {N i k n w:Nat} {P:Program} {W0:Ac} {cs:List Value} {ev v:Value} {h h':AHeap} {p:Prop} {α:Type}
def mixed:Tryz.prog.follows .mixedOrders=true:=zd
def XR {l:List α} (h:i<l.length):l[i]?=some l[i]:=dR h
def YR {l:List α} {d:α} (h:i<l.length):l.getD i d=l[i]:=by simp[List.getD,h]
def BV (p:Prop) (v:Value):Prop:=∃b:Bool,v=.bool b/\(b=true↔p)
def BV.t (h:p):BV p (.bool true):=⟨true,rfl,by simp[h]⟩
def BV.f (h:¬p):BV p (.bool false):=⟨false,rfl,by simp[h]⟩
def Ub (h:decide ((i:Int)<(n:Int))=true):i<n:=by have:=of_decide_eq_true h;omega
def Yv (h:decide ((i:Int)<(n:Int))=false):n<=i:=by have:=of_decide_eq_false h;omega
def mV (hw:WF h) (c:List Value):∃h',h.alloc (.cells c)=h'/\Le h h'/\WF h'/\h'.own h.next=some (.cells c):=⟨_,rfl,(Le.refl h).alloc hw _,hw.alloc _,AHeap.vA _ _⟩
def P3 {ι κ:Type} {F:ι->κ->Prop} {A:Prop} (Φ:ι->κ->Prop) (a:(∀x y,F x y->Φ x y)->A) (h2:∀x y,F x y->Φ x y):A:=a h2
def KN.zC {ks:List Kt} {R:Exit->EP->AHeap->Prop} {fr:EP} (q:∀fr' h',fr'=fr->h'=h->KN P W0 N ks R fr' h'):KN P W0 N ks R fr h:=q fr h rfl rfl
def GS.kept (g:GS k h v n cs) (d:∀b o,blk v=some b->h.own b=some o->h'.own b=some o):GS k h' v n cs:=by
 obtain⟨a,q|⟨i,c,cap,rfl,e,f⟩⟩:=g
 .exact⟨a,.inl q⟩
 .exact⟨a,.inr ⟨i,c,cap,rfl,d i _ rfl e,f⟩⟩
def GS.put {k n:Nat} {h:AHeap} {v:Value} {cs:List Value} (g:GS k h v n cs) {id:Nat} (o:Uw) (hb:blk v≠some id):GS k (h.put id o) v n cs:=
 g.kept fun b d a c=>by rw[AHeap.Dz _ _ _ _ (fun e=>hb (by rw[<-e];exact a))];exact c
abbrev Pr:=Int×Int
def Zh (p:Pr):List Value:=[.int .i64 p.1,.int .i64 p.2]
def Ov (p:Pr):Value:=.agg #[.int .i64 p.1,.int .i64 p.2]
def Mf (ps:List Pr):List Value:=ps.flatMap Zh
def Dg (ps:List Pr):(Mf ps).length=ps.length*2:=by
 induction ps with
 |nil=>rfl
 |cons p ps a=>simp[Mf,Zh]at a ⊢;omega
def j9 (ps:List Pr):(Mf ps).all (·.oneCell')=true:=by
 rw[jE];intro x a;rw[Mf,H0]at a;obtain⟨p,_,a⟩:=a;simp[Zh]at a;rcases a with rfl|rfl<;>rfl
def AJ (a b:List Pr):Mf (a++b)=Mf a++Mf b:=by simp[Mf]
def cA:∀(ps:List Pr) (i:Nat) (p:Pr),ps[i]?=some p->(Mf ps)[i*2]?=some (.int .i64 p.1)/\(Mf ps)[i*2+1]?=some (.int .i64 p.2)
 |[],i,p,h=>by simp at h
 |q::ps,0,p,h=>by simp at h;subst h;simp[Mf,Zh]
 |q::ps,i+1,p,h=>by
  have:=cA ps i p (by simpa using h);have e:Mf (q::ps)=.int .i64 q.1::.int .i64 q.2::Mf ps:=rfl;rw[e,show(i+1)*2=(i*2+1)+1 by omega];simpa using this
def PR (h:AHeap) (v:Value) (ps:List Pr):Prop:=CS 2 h v ps.length (Mf ps)
def Nq (v:Value) (i:Nat):Addr:=elemAddr v (i*2)
def PR.le {h h':AHeap} {v:Value} {ps:List Pr} (r:PR h v ps) (e:Le h h'):PR h' v ps:=CS.le r e
def mr:JO Tryz.prog 38=2:=zd
def ts3:JO Tryz.prog 3=1:=zd
def PR.len {ps:List Pr} (r:PR h v ps) (g:AHeap):aLen Tryz.prog g 22 v=some (.int .i64 ps.length):=by
 obtain⟨a,c,rfl,_⟩:=r.sl;simp[aLen,Tryz.underlying22]
def PR.addr {ps:List Pr} (r:PR h v ps) {k:IntKind} (i:Nat) (hi:i<ps.length):aIndexAddr Tryz.prog 22 v (.int k i)=some (.pointer (some (Nq v i))):=by
 obtain⟨a,c,rfl,hs⟩:=r.sl;obtain⟨a,rfl⟩:=yL.1 (hs QT);have b:(i:Int)<(ps.length:Int):=QT;simp[aIndexAddr,Tryz.underlying22,Tryz.underlying38,b,Nq,elemAddr,mr]
def Il (a:Addr):aIndexAddr Tryz.prog 38 (.pointer (some a)) (.int .i64 0)=some (.pointer (some (Co a 0))):=by
 simp[aIndexAddr,Tryz.underlying38,Tryz.underlying3]
def Mt (a:Addr):aIndexAddr Tryz.prog 38 (.pointer (some a)) (.int .i64 1)=some (.pointer (some (Co a 1))):=by
 simp[aIndexAddr,Tryz.underlying38,Tryz.underlying3,ts3]
def PR.get {h:AHeap} {v:Value} {ps:List Pr} (r:PR h v ps) {i:Nat} {p:Pr} (b:ps[i]?=some p):
  h.read (Co (Nq v i) 0)=some (.int .i64 p.1)/\h.read (Co (Nq v i) 1)=some (.int .i64 p.2):=by
 obtain⟨d,e⟩:=cA ps i p b;have f:=CS.get r _ _ d;have g:=CS.get r _ _ e;obtain⟨a,c,rfl,hs⟩:=r.sl;have hi:=(bH.1 b).1;obtain⟨a,rfl⟩:=yL.1 (hs QT);simp only[Nq,Tl,Co]at*;exact⟨by simpa using f,by simpa[Lj]using g⟩
def PR.load {ps:List Pr} (r:PR h v ps) {p:Pr} (c:ps[i]?=some p):aload Tryz.prog h 38 (Nq v i)=some (Ov p):=by
 obtain⟨d,e⟩:=r.get c;have b:readN h (Nq v i) 2=some [.int .i64 p.1,.int .i64 p.2]:=by
  refine AM [.int .i64 p.1,.int .i64 p.2] _ fun j x a=>?_
  match j with
  |0=>simp at a;subst a;exact d
  |1=>simp at a;subst a;exact e
  |j+2=>simp at a
 have f:isAggD (.array 2 3)=true:=rfl;simp only[aload,Tryz.underlying38,f,cond_true,mr,b,Ov]
def alloc42 (h:AHeap):aAlloc Tryz.prog h 38=some (.pointer (some ⟨h.next,0,none⟩),h.alloc (.cells [.int .i64 0,.int .i64 0])):=rfl
def Qf {x y:Value} {p:Pr} (a:h.own w=some (.cells [x,y])):aStore Tryz.prog h 38 (.pointer (some ⟨w,0,none⟩)) (Ov p)=some (h.put w (.cells (Zh p))):=by
 simp[aStore,a,Ov,Value.cells,mr,putCells,Zh,Tryz.underlying38];exact⟨rfl,rfl⟩
def xH (h:AHeap) (p:Pr):Qq h (Ov p)=some (.pointer (some ⟨h.next,0,none⟩),h.alloc (.cells (Zh p))):=rfl
def Ol {p:Pr} (a:h.own w=some (.cells (Zh p))):aload Tryz.prog h 3 ⟨w,0,none⟩=some (.int .i64 p.1):=by rw[wT Tryz.underlying3 rfl a];rfl
def Lt {p:Pr} (a:h.own w=some (.cells (Zh p))):aload Tryz.prog h 3 ⟨w,1,none⟩=some (.int .i64 p.2):=by rw[wT Tryz.underlying3 rfl a];rfl
def E3 {p:Pr} (a:h.own w=some (.cells (Zh p))):aload Tryz.prog h 38 ⟨w,0,none⟩=some (Ov p):=by
 rw[HU Tryz.underlying38 rfl mr a (by simp[Zh])];rfl
def bS (hw:WF h) (p:Pr):∃a h2,aAlloc Tryz.prog h 38=some (.pointer (some ⟨h.next,0,none⟩),a)/\aStore Tryz.prog a 38 (.pointer (some ⟨h.next,0,none⟩)) (Ov p)=some h2/\Le h h2/\WF h2/\h2.own h.next=some (.cells (Zh p)):=by
 obtain⟨a,c,l1,w1,b⟩:=mV hw [.int .i64 0,.int .i64 0]
 have d:h.own h.next=none:=(Le.refl h).next hw (J4 _)
 exact⟨a,_,by rw[alloc42,c],Qf b,l1.put _ d,w1.put _ (w1.lt b),AHeap.zm _ _ _⟩
structure GM where
 n:Int
 es:List Pr
structure GR (h:AHeap) (v:Value) (G:GM):Prop where
 ex:∃ev,v=.agg #[.int .i64 G.n,ev]/\PR h ev G.es
def GR.le {h h':AHeap} {v:Value} {G:GM} (r:GR h v G) (e:Le h h'):GR h' v G:=by
 obtain⟨ev,a,b⟩:=r.ex;exact⟨ev,a,b.le e⟩
def Cq (a:Addr):aField Tryz.prog 24 (.pointer (some a)) 0=some (.pointer (some (Co a 0))):=rfl
def vz (a:Addr):aField Tryz.prog 24 (.pointer (some a)) 1=some (.pointer (some (Co a 1))):=rfl
def WY (c:WF h) {n:Int} {es:List Pr} (r:PR h ev es):
  ∃a,Qq h (.agg #[.int .i64 n,ev])=some (.pointer (some ⟨h.next,0,none⟩),a)/\Le h a/\WF a/\a.own h.next=some (.cells [.int .i64 n,ev])/\
   ∀g,Le a g->aload Tryz.prog g 24 ⟨h.next,0,none⟩=some (.agg #[.int .i64 n,ev])/\aload Tryz.prog g 3 ⟨h.next,0,none⟩=some (.int .i64 n)/\aload Tryz.prog g 22 ⟨h.next,1,none⟩=some ev:=by
 obtain⟨a,d,l1,w1,b⟩:=mV c [.int .i64 n,ev];have h2:=r.sl.one;refine⟨a,?_,l1,w1,b,fun g e=>⟨?_,wT Tryz.underlying3 rfl (e.own _ _ b),wT Tryz.underlying22 rfl (e.own _ _ b)⟩⟩
 .rw [<- d]
  obtain⟨_,_,rfl,_⟩:=r.sl;rfl
 .rw[HU Tryz.underlying24 rfl (by kernel_rfl:JO Tryz.prog 24=2) (e.own _ _ b) YX];rfl
def vW.cells {v:Value} {n:Nat} (h:vW v n):v.cells=#[v]:=by obtain⟨a,c,rfl,_⟩:=h;rfl
theorem rD {W0:Ac} {N:Nat} {fr:EP} {h:AHeap} {i:Nat} {ol:List Oper} {ks:List Kt} {R:Exit→EP→AHeap→Prop} (t:DT) (hd:KD Tryz.prog W0 N ol.toArray ks R t [] fr h) (hok:Ap ol.toArray t=true:=by kernel_rfl):Q7 Tryz.prog W0 N i ol.toArray ks R fr h:=Q7.intro mixed t hok hd
def RL.zw {α:Type} {R:AHeap→Value→α→Prop} {h:AHeap} {v:Value} {xs:List α} (z:RL R h v xs):=z.len (P:=Tryz.prog) Tryz.underlying49
def RS.zw {h:AHeap} {v:Value} {xs:List Value} (z:RS h v xs):=z.len (P:=Tryz.prog) Tryz.underlying49
def RL.HN {h:AHeap} {v:Value} {xs:List Int} (z:RL IJ h v xs):=z.loadI (P:=Tryz.prog) Tryz.underlying3 rfl
def RL.qW {α:Type} {R:AHeap→Value→α→Prop} {h:AHeap} {v:Value} {xs:List α} (z:RL R h v xs):=z.addr (P:=Tryz.prog) Tryz.underlying49 Tryz.underlying3 (by kernel_rfl) (k:=.i64)
def RS.qW {h:AHeap} {v:Value} {xs:List Value} (z:RS h v xs):=z.addr (P:=Tryz.prog) Tryz.underlying49 Tryz.underlying3 (by kernel_rfl) (k:=.i64)
def RL.To {α:Type} {R:AHeap→Value→α→Prop} {h:AHeap} {v:Value} {xs:List α} (z:RL R h v xs):=z.load' (P:=Tryz.prog) Tryz.underlying49 rfl
def RL.Jl {α:Type} {R:AHeap→Value→α→Prop} {h:AHeap} {v:Value} {xs:List α} (z:RL R h v xs):=z.addr (P:=Tryz.prog) Tryz.underlying27 Tryz.underlying49 (by kernel_rfl) (k:=.i64)
def RS.Jl {h:AHeap} {v:Value} {xs:List Value} (z:RS h v xs):=z.addr (P:=Tryz.prog) Tryz.underlying27 Tryz.underlying49 (by kernel_rfl) (k:=.i64)
def RL.ae {α:Type} {R:AHeap→Value→α→Prop} {h:AHeap} {v:Value} {xs:List α} (z:RL R h v xs):=z.len (P:=Tryz.prog) Tryz.underlying27
def RS.ae {h:AHeap} {v:Value} {xs:List Value} (z:RS h v xs):=z.len (P:=Tryz.prog) Tryz.underlying27
def RL.qP6 {α:Type} {R:AHeap→Value→α→Prop} {h:AHeap} {v:Value} {xs:List α} (z:RL R h v xs):=z.addr (P:=Tryz.prog) Tryz.underlying28 Tryz.underlying49 (by kernel_rfl) (k:=.i64)
def RS.qP6 {h:AHeap} {v:Value} {xs:List Value} (z:RS h v xs):=z.addr (P:=Tryz.prog) Tryz.underlying28 Tryz.underlying49 (by kernel_rfl) (k:=.i64)
def Rm:=@Go.Proofs.Tryz.underlying49
def Ik:=@Go.Proofs.Tryz.underlying3
def v7:=@Go.Proofs.Tryz.underlying4
def aO:=@Go.Proofs.Tryz.underlying59
def pS:=@Go.Proofs.Tryz.underlying22
def Xx:=@Go.Proofs.Tryz.underlying28
def eJ:=@Go.Proofs.Tryz.underlying24
def qS7:=@Go.Proofs.Tryz.underlying110
def qS8:=@Go.Proofs.Tryz.underlying38
def qS9:=@Go.Proofs.Tryz.underlying27
def iC:=@Go.Proofs.Tryz.underlying104
def WC:=@Go.Proofs.Tryz.func143
def AB:=@Go.Proofs.Tryz.underlying122
def rU:=@Go.Proofs.Tryz.underlying75
def lH:=@Go.Proofs.Tryz.func104
def Zj:=@Go.Proofs.Tryz.func24
def qS16:=@Go.Proofs.Tryz.underlying146
def QK:=@Go.Proofs.Tryz.func19
def pw:=@Go.Proofs.Tryz.func32
def XA:=@Go.Proofs.Tryz.underlying125
def dU:=@Go.Proofs.Tryz.func17
def qS21:=@Go.Proofs.Tryz.underlying118
def qS22:=@Go.Proofs.Tryz.underlying143
def qS23:=@Go.Proofs.Tryz.underlying88
def qS24:=@Go.Proofs.Tryz.underlying62
def qS25:=@Go.Proofs.Tryz.underlying74
def HI:=@Go.Proofs.Tryz.func88
def dC:=@Go.Proofs.Tryz.func93
def bU:=@Go.Proofs.Tryz.func94
def KL:=@Go.Proofs.Tryz.func97
def qS30:=@Go.Proofs.Tryz.func131
def qS31:=@Go.Proofs.Tryz.func115
def qS32:=@Go.Proofs.Tryz.func113
def qS33:=@Go.Proofs.Tryz.func141
def qS34:=@Go.Proofs.Tryz.func140
def qS35:=@Go.Proofs.Tryz.underlying108
end
section
attribute [local irreducible] Ax YH XZ Uk KO KN KX KE VK DK Q7 dK W9
open Go.Proofs
def y4 (b:Ac) (a:Int) (h:AHeap):AC Tryz.prog b 131 [.int .i64 a] h fun v h'=>v=.bool false/\h'=h:=by
 refine AC.vE ⟨qS30,rfl,xr⟩ Tryz.ntmps131 Tryz.results131 fun c=>?_;simp only[xq,Nat.reduceAdd];simp only[Ud,Nat.reduceLT,↓reduceIte,Nat.reduceEqDiff,reduceCtorEq,bne,eq_self];exact⟨trivial,trivial⟩
def Tm (a b:Int):Int:=if a<b then-1 else if a>b then 1 else 0
def NR (d:Ac) (a b:Int) (h:AHeap):AC Tryz.prog d 88 [.int .i64 a,.int .i64 b] h fun v h'=>v=.int .i64 (Tm a b)/\h'=h:=by
 refine AC.vE ⟨HI,rfl,xr⟩ Tryz.ntmps88 Tryz.results88 fun e=>?_;simp only[xq,Nat.reduceAdd];refine yq ?_;refine dK.intro pK ⟨qS30,rfl,xr⟩ (y4 d a h) ?_;rintro x f w1 ⟨rfl,rfl⟩;refine yq ?_;refine dK.intro pK ⟨qS30,rfl,xr⟩ (y4 d b f) ?_;rintro x h2 g ⟨rfl,rfl⟩;unfold Tm;by_cases c:a<b
 .simp only[Ud,Nat.reduceLT,↓reduceIte,Nat.reduceEqDiff,reduceCtorEq,c];exact⟨trivial,trivial⟩
 .by_cases c2 : a > b
  .simp only[Ud,Nat.reduceLT,↓reduceIte,Nat.reduceEqDiff,reduceCtorEq,c,c2];exact⟨trivial,trivial⟩
  .simp only[Ud,Nat.reduceLT,↓reduceIte,Nat.reduceEqDiff,reduceCtorEq,c,c2];exact⟨trivial,trivial⟩
def orM:LF->Int
 |[]=>0
 |x::r=>if x=0 then orM r else x
def jU (g:Ac) (v:Value) (xs:LF) (h:AHeap) (d:RL IJ h v xs) (n:xs.length<=1000):AC Tryz.prog g 87 [v] h fun x h'=>x=.int .i64 (orM xs)/\h'=h:=by
 refine AC.vE ⟨Tryz.func87,rfl,xr⟩ Tryz.ntmps87 Tryz.results87 fun j=>?_;simp only[xq,Nat.reduceAdd];have l:=d.zw h;simp only[Ud,Nat.reduceLT,↓reduceIte,reduceCtorEq,l];refine W9.intro (fun k fr hh=>∃i:Nat,k=xs.length-i/\i<=xs.length/\hh=h/\fr=mkF [(3,.int .i64 0),(6,v),(7,.int .i64 xs.length),(8,.int .i64 i)]/\orM xs=orM (xs.drop i))
  xs.length [(3,.int .i64 0),(6,v),(7,.int .i64 xs.length),(8,.int .i64 (0:Nat))] vy ⟨0,rfl,KW _,rfl,rfl,rfl⟩ ?_
 rintro k fr hh-⟨i,rfl,hi,rfl,rfl,b⟩;refine yq ?_;refine DK.intro (fun m=>?_) (fun hf=>?_)
 .have a : i < xs.length := Ub m
  have f:=d.qW i a;have ld:=d.HN i a;rw[BG a,orM]at b;by_cases c:xs[i]=0
  .rw [if_pos c] at b
   simp only[Ud,Nat.reduceLT,↓reduceIte,Nat.reduceEqDiff,f,ld,bne,eq_true c,Gm i QT];exact cX (xs.length-(i+1)) [(3,.int .i64 0),(6,v),(7,.int .i64 xs.length),(8,.int .i64 (i+1:Nat))] QT vy ⟨i+1,rfl,a,rfl,rfl,b⟩
  .rw [if_neg c] at b
   simp only[Ud,Nat.reduceLT,↓reduceIte,Nat.reduceEqDiff,f,ld,bne,eq_false c];exact⟨by rw[b],trivial⟩
 .have e : xs.length <= i := Yv hf
  rw[BH e,orM]at b;refine yq ?_;exact⟨by rw[b],trivial⟩
def CI (p q:Pr):Int:=orM [Tm p.1 q.1,Tm p.2 q.2]
def gJ (p q:Pr):CI p q<0↔p.1<q.1\/p.1=q.1/\p.2<q.2:=by
 unfold CI orM orM orM Tm
 repeat' split
 all_goals omega
def CE (p q:Pr):CI p q=0↔p=q:=by
 have:p=q↔p.1=q.1/\p.2=q.2:=jA;rw[this];unfold CI orM orM orM Tm
 repeat' split
 all_goals omega
def bt (h:AHeap) (a b:Int):aBuildSlice Tryz.prog h 49 2 [(0,.int .i64 a),(1,.int .i64 b)]=some (.slice (some ⟨h.next,0,none⟩) 2 2,h.alloc (.cells [.int .i64 a,.int .i64 b])):=rfl
def sj (g:Ac) (p q:Pr) (h:AHeap):AC Tryz.prog g 63 [Ov p,Ov q] h fun v h'=>v=.int .i64 (CI p q)/\Le h h':=by
 refine AC.vE ⟨Tryz.func63,rfl,xr⟩ Tryz.ntmps63 Tryz.results63 fun i=>?_;simp only[xq,Nat.reduceAdd];obtain⟨j,k,l1,w1,l⟩:=mV i (Zh p);obtain⟨h2,m,l2,t,f⟩:=mV w1 (Zh q);simp only[Ud,Nat.reduceLT,↓reduceIte,Nat.reduceEqDiff,xH,k,m];have c:=l2.own _ _ l
 generalize h.next=a at*
 generalize j.next=b at*
 refine rD (vu [0,1,2,3,5,6,7,8] (PO 4 [1,3] (PO 9 [4,6,8] (PO 10 [4,9] (PO 11 [9,10] (vu [12] .done)))))) ?_;simp only[Ud,Nat.reduceLT,↓reduceIte,Nat.reduceEqDiff,Nat.reduceBEq,rm,Il,Mt,Co,Qs,Ol c,Lt c,Ol f,Lt f];refine N1.intro pK ⟨HI,rfl,xr⟩ (NR g p.1 q.1 h2) ?_;rintro x h3 u ⟨rfl,rfl⟩;simp only[Ud,Nat.reduceLT,↓reduceIte,Nat.reduceEqDiff,Nat.reduceBEq,rm,Il,Mt,Co,Qs,Lt c,Lt f];refine N1.intro pK ⟨HI,rfl,xr⟩ (NR g p.2 q.2 h3) ?_;rintro x w n ⟨rfl,rfl⟩;obtain⟨o,r,l5,y,s⟩:=mV n [.int .i64 (Tm p.1 q.1),.int .i64 (Tm p.2 q.2)];have d:=l5.own _ _ c;have e:=l5.own _ _ f;simp only[Ud,Nat.reduceLT,↓reduceIte,Nat.reduceEqDiff,Nat.reduceBEq,rm,Il,Mt,Co,Qs,bt,r];refine N1.intro pK ⟨Tryz.func87,rfl,xr⟩ (jU g _ [Tm p.1 q.1,Tm p.2 q.2] o (RL.Kr (RS.whole s rfl)) YX) ?_;rintro x z A ⟨rfl,rfl⟩;simp only[Ud,Nat.reduceLT,↓reduceIte,Nat.reduceEqDiff,rm,Il,Mt,Co,Qs];exact⟨rfl,(l1.trans l2).trans l5⟩
def VP (g:Ac) (p q:Pr) (h:AHeap):AC Tryz.prog g 167 [Ov p,Ov q] h fun v h'=>v=.int .i64 (CI p q)/\Le h h':=by
 refine AC.vE ⟨Tryz.func167,rfl,xr⟩ Tryz.ntmps167 Tryz.results167 fun i=>?_;simp only[xq,Nat.reduceAdd];obtain⟨j,k,l1,w1,l⟩:=mV i (Zh p);obtain⟨h2,m,l2,t,f⟩:=mV w1 (Zh q);simp only[Ud,Nat.reduceLT,↓reduceIte,Nat.reduceEqDiff,xH,k,m];have c:=l2.own _ _ l
 generalize h.next=a at*
 generalize j.next=b at*
 refine rD (vu [0,1,2,3,5,6,7,8] (PO 4 [1,3] (PO 9 [4,6,8] (PO 10 [4,9] (PO 11 [9,10] (vu [12] .done)))))) ?_;simp only[Ud,Nat.reduceLT,↓reduceIte,Nat.reduceEqDiff,Nat.reduceBEq,rm,Il,Mt,Co,Qs,Ol c,Lt c,Ol f,Lt f];refine N1.intro pK ⟨HI,rfl,xr⟩ (NR g p.1 q.1 h2) ?_;rintro x h3 u ⟨rfl,rfl⟩;simp only[Ud,Nat.reduceLT,↓reduceIte,Nat.reduceEqDiff,Nat.reduceBEq,rm,Il,Mt,Co,Qs,Lt c,Lt f];refine N1.intro pK ⟨HI,rfl,xr⟩ (NR g p.2 q.2 h3) ?_;rintro x w n ⟨rfl,rfl⟩;obtain⟨o,r,l5,y,s⟩:=mV n [.int .i64 (Tm p.1 q.1),.int .i64 (Tm p.2 q.2)];have d:=l5.own _ _ c;have e:=l5.own _ _ f;simp only[Ud,Nat.reduceLT,↓reduceIte,Nat.reduceEqDiff,Nat.reduceBEq,rm,Il,Mt,Co,Qs,bt,r];refine N1.intro pK ⟨Tryz.func87,rfl,xr⟩ (jU g _ [Tm p.1 q.1,Tm p.2 q.2] o (RL.Kr (RS.whole s rfl)) YX) ?_;rintro x z A ⟨rfl,rfl⟩;simp only[Ud,Nat.reduceLT,↓reduceIte,Nat.reduceEqDiff,rm,Il,Mt,Co,Qs];exact⟨rfl,(l1.trans l2).trans l5⟩
def Yh (G:GM) (i:Nat):Prop:=∀p,G.es[i]?=some p->(0<=p.1/\p.1<p.2/\p.2<G.n)/\∀q,0<i->G.es[i-1]?=some q->CI q p<0
structure xO (G:GM):Prop where
 n0:0<=G.n
 n1:G.n<=200
 len:G.es.length<=594
 ok:∀i,i<G.es.length->Yh G i
def qG (X:Ac) (v:Value) (G:GM) (h:AHeap) (hg:GR h v G):AC Tryz.prog X 24 [v] h fun x h'=>BV (xO G) x/\Le h h':=by
 obtain⟨ev,rfl,H⟩:=hg.ex;refine AC.vE ⟨Zj,rfl,xr⟩ Tryz.ntmps24 Tryz.results24 fun U=>?_;simp only[xq,Nat.reduceAdd];obtain⟨Y,L,l,ag,-,V⟩:=WY (n:=G.n) U H
 generalize h.next=B at*
 have Z:=fun g=>H.len g;have m:=V Y (Le.refl _);by_cases M:G.n<0
 .simp only [Ud, Nat.reduceLT, ↓reduceIte, Nat.reduceEqDiff, L, Cq, Co, Qs, m.2.1, M]
  exact⟨.f fun q=>by have:=q.n0;omega,l⟩
 by_cases c1:G.n>200
 .simp only [Ud, Nat.reduceLT, ↓reduceIte, Nat.reduceEqDiff, L, Cq, Co, Qs, m.2.1, M, c1]
  exact⟨.f fun q=>by have:=q.n1;omega,l⟩
 by_cases c2:(G.es.length:Int)>594
 .simp only [Ud, Nat.reduceLT, ↓reduceIte, Nat.reduceEqDiff, L, Cq, vz, Co, Qs, m.2.1, m.2.2, Z, M, c1, c2]
  exact⟨.f fun q=>by have:=q.len;omega,l⟩
 simp only[Ud,Nat.reduceLT,↓reduceIte,Nat.reduceEqDiff,L,Cq,vz,Co,Qs,m.2.1,m.2.2,Z,M,c1,c2];refine W9.intro (fun k fr hh=>∃i:Nat,k=G.es.length-i/\i<=G.es.length/\fr=mkF [(1,.pointer (some ⟨B,0,none⟩)),(20,ev),(21,.int .i64 G.es.length),(22,.int .i64 i)]/\Le Y hh/\∀j,j<i->Yh G j)
  G.es.length [(1,.pointer (some ⟨B,0,none⟩)),(20,ev),(21,.int .i64 G.es.length),(22,.int .i64 (0:Nat))] vy ⟨0,rfl,KW _,rfl,Le.refl _,QT⟩ ?_
 rintro k fr hh W ⟨i,rfl,hi,rfl,c,C⟩;refine yq ?_;refine DK.intro (fun ht=>?_) (fun hf=>?_)
 rotate_left
 .have ah : G.es.length <= i := Yv hf
  refine yq ?_;exact⟨.t ⟨QT,QT,QT,fun j hj=>C j QT⟩,l.trans c⟩
 have o:i<G.es.length:=Ub ht;clear ht;have b:=XR o;generalize G.es[i]=p at b;have D:=H.le (l.trans c);have N:=H.addr (k:=.i64) i o;have ld:=D.load b;obtain⟨h2,h3,O,P,d,aj,Q⟩:=bS W p;have R:=Ol Q;have S:=Lt Q;have LP:=E3 Q;have zH:=V h3 (c.trans d);have bad:¬Yh G i->¬xO G:=fun hn q=>hn (q.ok i o);have y:=(l.trans c).trans d
 generalize hh.next=E at*
 by_cases T:p.1<0
 .simp only [Ud, Nat.reduceLT, ↓reduceIte, Nat.reduceEqDiff, N, ld, O, P, Il, Co, Qs, R, T]
  exact⟨.f (bad fun q=>by have:=(q p b).1.1;omega),y⟩
 by_cases d1:p.1>=p.2
 .simp only [Ud, Nat.reduceLT, ↓reduceIte, Nat.reduceEqDiff, N, ld, O, P, Il, Mt, Co, Qs, R, S, T, d1]
  exact⟨.f (bad fun q=>by have:=(q p b).1.2.1;omega),y⟩
 by_cases d2:p.2>=G.n
 .simp only [Ud, Nat.reduceLT, ↓reduceIte, Nat.reduceEqDiff, N, ld, O, P, Il, Mt, Cq, Co, Qs, R, S, zH.2.1, T, d1, d2]
  exact⟨.f (bad fun q=>by have:=(q p b).1.2.2;omega),y⟩
 simp only[Ud,Nat.reduceLT,↓reduceIte,Nat.reduceEqDiff,N,ld,O,P,Il,Mt,Cq,Co,Qs,R,S,zH.2.1,T,d1,d2];by_cases i0:i=0
 .subst i0
  have z:((0:Int)<((0:Nat):Int))=False:=eq_false QT;refine rD (vu [0,1,2,3,4,5,6,7,8,9] (PO 10 [2,8,9] (vu [11,12] .done))) ?_;simp only[Ud,Nat.reduceLT,↓reduceIte,Nat.reduceEqDiff,Nat.reduceBEq,rm,z,Gm 0 QT];refine cX (G.es.length-(0+1)) [(1,.pointer (some ⟨B,0,none⟩)),(20,ev),(21,.int .i64 G.es.length),(22,.int .i64 (0+1:Nat))] QT vy ⟨0+1,rfl,o,rfl,c.trans d,fun j hj=>?_⟩;have:j=0:=QT;subst this;intro p' a;rw[b]at a;injection a with a;subst a;exact⟨⟨QT,QT,QT⟩,fun q hq=>absurd hq QT⟩
 .have z : ((0 : Int) < (i : Int)) = True := eq_true QT
  have r:=XR (show i-1<G.es.length by omega);generalize G.es[i-1]'(by omega)=q at r
  have s:awrap .i64 ((i:Int)-1)=((i-1:Nat):Int):=by rw[HY _ QT QT];omega
  have F:=H.addr (k:=.i64) (i-1) QT;have I:=(D.le d).load r;refine rD (vu [0,1,2,3,4,5,6,7,8,9] (PO 10 [2,8,9] (vu [11,12] .done))) ?_;simp only[Ud,Nat.reduceLT,↓reduceIte,Nat.reduceEqDiff,Nat.reduceBEq,rm,z,s,vz,Co,Qs,zH.2.2,F,I,LP];refine N1.intro pK ⟨Tryz.func63,rfl,xr⟩ (sj X q p h3) ?_;rintro x h4 ak ⟨rfl,u⟩;have J:=V h4 ((c.trans d).trans u);have w:=I;have K:=E3 (u.own _ _ Q);have w:=((D.le d).le u).load r;by_cases d3:CI q p>=0
  .simp only [Ud, Nat.reduceLT, ↓reduceIte, Nat.reduceEqDiff, rm, z, s, vz, Co, Qs, J.2.2, F, d3]
   exact⟨.f (bad fun k=>by have:=(k p b).2 q QT r;omega),y.trans u⟩
  .simp only [Ud, Nat.reduceLT, ↓reduceIte, Nat.reduceEqDiff, rm, z, s, vz, Co, Qs, J.2.2, F, d3, Gm i QT]
   refine cX (G.es.length-(i+1)) [(1,.pointer (some ⟨B,0,none⟩)),(20,ev),(21,.int .i64 G.es.length),(22,.int .i64 (i+1:Nat))] QT vy ⟨i+1,rfl,o,rfl,(c.trans d).trans u,fun j hj=>?_⟩;by_cases e:j=i
   .subst e
    intro p' a;rw[b]at a;injection a with a;subst a;refine⟨⟨QT,QT,QT⟩,fun q' _ A=>?_⟩;rw[r]at A;injection A with A;subst A;omega
   .exact C j QT
variable {es:List Pr} {i j:Nat} {p:Pr}
def BD (es:List Pr):Prop:=∀(i j:Nat) p q,i<j->es[i]?=some p->es[j]?=some q->CI p q<0
def xO.Fx {G:GM} (r:xO G):BD G.es:=by
 have step:∀(d i:Nat) p q,G.es[i]?=some p->G.es[i+(d+1)]?=some q->CI p q<0:=by
  intro d
  induction d with
  |zero=>
   intro i p q b a;have c:=(bH.1 a).1;exact(r.ok (i+1) c q a).2 p QT (by simpa using b)
  |succ d f=>
   intro i p q b a;have c:=(bH.1 a).1;have e:=XR (show i+(d+1)<G.es.length by omega);have h:=f i p _ b e;have h2:=(r.ok (i+(d+1+1)) c q a).2 _ QT (by rw[show i+(d+1+1)-1=i+(d+1) by omega];exact e);rw[gJ]at*;omega
 intro i j p q g b a;have:=step (j-i-1) i p q b (by rw[show i+(j-i-1+1)=j by omega];exact a);exact this
def BD.uniq (a:BD es) (hi:es[i]?=some p) (b:es[j]?=some p):i=j:=by
 rcases zX i j with h|h|h
 .have := a i j p p h hi b
  have c:=(CE p p).2 rfl;omega
 .exact h
 .have := a j i p p h b hi
  have c:=(CE p p).2 rfl;omega
def aw_u64 (n:Nat) (h:n<18446744073709551616):awrap .u64 (n:Int)=(n:Int):=by
 unfold awrap;simp;omega
def shr_u64 (n:Nat) (h:n<18446744073709551616):aShift .shr .u64 (n:Int) 1=some (.int .u64 ((n / 2:Nat):Int)):=by
 have e:((n:Int)).fdiv (2^min 1 IntKind.u64.bits)=((n / 2:Nat):Int):=by
  rw[show min 1 IntKind.u64.bits=1 from rfl,qL220 _ xr];simp
 simp[aShift,e]
def cv3u (h:AHeap) (x:Int):aConvert Tryz.prog h 3 146 (.int .i64 x)=some (.int .u64 (awrap .u64 x),h):=by
 simp[aConvert]
def cvu3 (h:AHeap) (x:Int):aConvert Tryz.prog h 146 3 (.int .u64 x)=some (.int .i64 (awrap .i64 x),h):=by
 simp[aConvert]
def tA (H:Ac) (F:FuncId) (fn:Func) (c:Code) (I:Good Tryz.prog F fn c) (r:∀(p q:Pr) (h:AHeap),AC Tryz.prog H F [Ov p,Ov q] h fun v h'=>v=.int .i64 (CI p q)/\Le h h')
  (v:Value) (es:List Pr) (p:Pr) (h:AHeap) (y:PR h v es) (hn:es.length<=1000) (ha:BD es):
  AC Tryz.prog H 70 [v,Ov p,.func (.func F) #[] #[]] h fun x h'=>(∃(i:Nat) (b:Bool),x=.tuple #[.int .i64 i,.bool b]/\(b=true->es[i]?=some p)/\(b=false->p∉es))/\Le h h':=by
 refine AC.vE ⟨Tryz.func70,rfl,xr⟩ Tryz.ntmps70 Tryz.results70 fun C=>?_;simp only[xq,Nat.reduceAdd];obtain⟨L,M,l1,w1,D⟩:=mV C (Zh p);have N:=fun g=>y.len g;simp only[Ud,Nat.reduceLT,↓reduceIte,Nat.reduceEqDiff,reduceCtorEq,xH,M,N]
 generalize h.next=B at*
 refine W9.intro (fun k fr hh=>∃lo hi:Nat,k=hi-lo/\lo<=hi/\hi<=es.length/\fr=mkF [(0,v),(2,.func (.func F) #[] #[]),(4,.pointer (some ⟨B,0,none⟩)),(8,.int .i64 es.length),(9,.int .i64 lo),(10,.int .i64 hi)]/\Le L hh/\
   (∀(k:Nat) q,k<lo->es[k]?=some q->CI q p<0)/\∀(k:Nat) q,hi<=k->es[k]?=some q->¬CI q p<0)
  es.length [(0,v),(2,.func (.func F) #[] #[]),(4,.pointer (some ⟨B,0,none⟩)),(8,.int .i64 es.length),(9,.int .i64 (0:Nat)),(10,.int .i64 es.length)] vy
  ⟨0,es.length,rfl,KW _,J4 _,rfl,Le.refl _,QT,fun k q j d=>by have:=(bH.1 d).1;omega⟩ ?_
 rintro k fr hh O ⟨lo,hi,rfl,P,E,rfl,f,s,u⟩;have J:=E3 (f.own _ _ D);have l:=y.le (l1.trans f);refine yq ?_;refine DK.intro (fun K=>?_) (fun hf=>?_)
 .have Q : lo < hi := Ub K
  clear K;have R:awrap .i64 ((lo:Int)+(hi:Int))=((lo+hi:Nat):Int):=by rw[HY _ QT QT];omega
  have S:=aw_u64 (lo+hi) QT;have T:=shr_u64 (lo+hi) QT;have U:awrap .i64 (((lo+hi) / 2:Nat):Int)=(((lo+hi) / 2:Nat):Int):=HY _ QT QT;have w:(lo+hi) / 2<hi:=QT;have G:lo<=(lo+hi) / 2:=QT;simp only[Ud,Nat.reduceLT,↓reduceIte,Nat.reduceEqDiff,reduceCtorEq,R,cv3u,S,T,cvu3,U];generalize (lo+hi) / 2=m at*;have d:=XR (show m<es.length by omega);generalize es[m]'(by omega)=q at d
  have t:=y.addr (k:=.i64) m QT;have ld:=l.load d;refine rD (vu [0,1,2,3,4,5] (PO 6 [0,4,5] (vu [7] .done))) ?_;simp only[Ud,Nat.reduceLT,↓reduceIte,Nat.reduceEqDiff,reduceCtorEq,Nat.reduceBEq,rm,t,ld,J];refine N1.intro pK I (r q p hh) ?_;rintro x h3 V ⟨rfl,l3⟩;have n:=E3 ((f.trans l3).own _ _ D);have o:=(l.le l3).load d;by_cases A:CI q p<0
  .simp only [Ud, Nat.reduceLT, ↓reduceIte, Nat.reduceEqDiff, reduceCtorEq, rm, t, A, Gm m QT]
   refine cX (hi-(m+1)) [(0,v),(2,.func (.func F) #[] #[]),(4,.pointer (some ⟨B,0,none⟩)),(8,.int .i64 es.length),(9,.int .i64 (m+1:Nat)),(10,.int .i64 hi)] QT vy ⟨m+1,hi,rfl,w,E,rfl,f.trans l3,fun k q' j a=>?_,u⟩;by_cases e:k=m
   .subst e;rw[d]at a;injection a with a;subst a;exact A
   .have := ha k m q' q QT a d
    rw[gJ]at*;omega
  .simp only [Ud, Nat.reduceLT, ↓reduceIte, Nat.reduceEqDiff, reduceCtorEq, rm, t, A]
   refine cX (m-lo) [(0,v),(2,.func (.func F) #[] #[]),(4,.pointer (some ⟨B,0,none⟩)),(8,.int .i64 es.length),(9,.int .i64 lo),(10,.int .i64 m)] QT vy ⟨lo,m,rfl,G,QT,rfl,f.trans l3,s,fun k q' j a=>?_⟩;by_cases e:k=m
   .subst e;rw[d]at a;injection a with a;subst a;exact A
   .have := ha m k q q' QT d a
    rw[gJ]at*;omega
 have W:hi<=lo:=Yv hf;obtain rfl:lo=hi:=QT;clear hf;by_cases c1:lo<es.length
 .have z : ((lo : Int) < (es.length : Int)) = True := eq_true QT
  have d:=XR c1;generalize es[lo]=q at d;have t:=y.addr (k:=.i64) lo c1;have ld:=l.load d;refine yq ?_;refine rD (vu [0,1,2,3,4,5,6,7,8,9,10] (PO 11 [4,5,9,10] (vu [12,13,14,15] .done))) ?_;simp only[Ud,Nat.reduceLT,↓reduceIte,Nat.reduceEqDiff,reduceCtorEq,Nat.reduceBEq,rm,z,t,ld,J];refine N1.intro pK I (r q p hh) ?_;rintro x h3 V ⟨rfl,l3⟩;have n:=E3 ((f.trans l3).own _ _ D);have o:=(l.le l3).load d;simp only[Ud,Nat.reduceLT,↓reduceIte,Nat.reduceEqDiff,reduceCtorEq,rm,z,t];refine⟨⟨lo,decide (CI q p=0),rfl,fun e=>?_,fun e=>?_⟩,(l1.trans f).trans l3⟩
  .have:=(CE q p).1 (of_decide_eq_true e);subst this;exact d
  .have X := of_decide_eq_false e
   intro w;obtain⟨k,j⟩:=OH.1 w;have Y:=(CE p p).2 rfl;rcases zX k lo with h|h|h
   .have:=s k p h j;omega
   .subst h;rw[d]at j;injection j with j;subst j;omega
   .have := ha lo k q p h d j
    exact u lo q (J4 _) d this
 .have z : ((lo : Int) < (es.length : Int)) = False := eq_false QT
  refine yq ?_;refine rD (vu [0,1,2,3,4,5,6,7,8,9,10] (PO 11 [4,5,9,10] (vu [12,13,14,15] .done))) ?_;simp only[Ud,Nat.reduceLT,↓reduceIte,Nat.reduceEqDiff,reduceCtorEq,Nat.reduceBEq,rm,z];refine⟨⟨lo,false,rfl,YX,fun _ w=>?_⟩,l1.trans f⟩;obtain⟨k,j⟩:=OH.1 w;have Y:=(CE p p).2 rfl;have Z:=(bH.1 j).1;have:=s k p QT j;omega
def BD.nodup {l:List Pr} (a:BD l):l.Nodup:=by
 rw[gY,cR];intro i j hi c b e;have:=a i j _ _ b (XR hi) (XR c);have:=(CE l[i] l[j]).2 e;omega
variable {a b n:Nat} {h:AHeap} {v:Value} {web:List Pr} {xs:List Bool}
def Po (_:AHeap) (v:Value) (b:Bool):Prop:=v=.bool b
def Rr.Po:Rr Po:=fun _ _ _ _ h _=>h
def RL.cp (r:RS h v (xs.map Value.bool)):RL Po h v xs:=
 ⟨_,r,YX,fun i x u b a=>by simp[b]at a;exact a.symm⟩
def RL.Qh (r:RL Po h v xs) (i:Nat) (hi:i<xs.length):aload Tryz.prog h 4 (elemAddr v i)=some (.bool xs[i]):=by
 obtain⟨u,a,h2⟩:=r.load (P:=Tryz.prog) v7 rfl i hi;rw[a];exact congrArg some h2
def RL.U6 (r:RL Po h v xs) {k:IntKind} (i:Nat) (hi:i<xs.length):aIndexAddr Tryz.prog 59 v (.int k i)=some (.pointer (some (elemAddr v i))):=
 r.addr (P:=Tryz.prog) aO v7 zd i hi
def ofM (es web:List Pr):List Bool:=es.map fun e=>decide (e∈web)
def HF (web:List Pr) (v:Nat):Prop:=∃e∈web,e.1=(v:Int)\/e.2=(v:Int)
instance (web:List Pr) (v:Nat):Decidable (HF web v):=inferInstanceAs (Decidable (∃e∈web,e.1=(v:Int)\/e.2=(v:Int)))
def QG (n:Nat) (web:List Pr):List Bool:=(List.range n).map fun v=>decide (HF web v)
def iB (a:BD es) (hi:es[i]?=some p):ofM es (web++[p])=(ofM es web).set i true:=by
 apply Lc;intro j;rw[v8];simp only[ofM,Rv,yA];by_cases e:i=j
 .subst e
  obtain⟨c,d⟩:=bH.1 hi;rw[if_pos rfl,if_pos c,XR c,pD,d];simp
 .rw [if_neg e]
  cases f:es[j]? with
  |none=>rfl
  |some q=>
   have b:q≠p:=fun h=>e (a.uniq hi (by rw[f,h]));simp[b]
def tB (web:List Pr) (p:Pr) (v:Nat):HF (web++[p]) v↔HF web v\/(p.1=(v:Int)\/p.2=(v:Int)):=by
 simp only[HF,uK,Rb];constructor
 .rintro ⟨e, a | rfl, h⟩
  .exact .inl ⟨e,a,h⟩
  .exact .inr h
 .rintro (⟨e, a, h⟩ | h)
  .exact⟨e,.inl a,h⟩
  .exact⟨p,.inr rfl,h⟩
def yU:QG n (web++[((a:Int),(b:Int))])=((QG n web).set a true).set b true:=by
 apply Lc;intro j;rw[v8,v8];simp only[QG,Rv,qm,yA,xw];by_cases c:j<n
 .rw [bp c]
  have:=tB web ((a:Int),(b:Int)) j;by_cases e:b=j
  .subst e;simp[c,this]
  .by_cases d : a = j
   .subst d;simp[c,e,this]
   .have f : ¬ ((a : Int) = (j : Int)) := QT
    have h2:¬((b:Int)=(j:Int)):=QT;simp[e,d,this,f,h2]
 .rw [Tz (by simp; omega)]
  split
  .rw[if_neg QT];rfl
  .split
   .rw[if_neg QT];rfl
   .rfl
def EF (es web:List Pr):(ofM es web).length=es.length:=by simp[ofM]
def fZ (n:Nat) (web:List Pr):(QG n web).length=n:=by simp[QG]
def ofM_nil (es:List Pr):ofM es []=List.replicate es.length false:=by
 apply Ll
 .simp[ofM]
 .intro i a h2;simp[ofM]
def onM_nil (n:Nat):QG n []=List.replicate n false:=by
 apply Ll
 .simp[QG]
 .intro i a h2;simp[QG,HF]
structure Ra (es web:List Pr):Prop where
 Fx:∀(i:Nat) p q,web[i]?=some p->web[i+1]?=some q->CI p q<0
 mem:∀p∈web,p∈es
structure New2 (h h':AHeap) (A B:Nat) (x y:List Value):Prop where
 le:Le h h'
 wf:WF h'
 oA:h'.own A=some (.cells x)
 oB:h'.own B=some (.cells y)
 nA:h.own A=none
 nB:h.own B=none
 ne:A≠B
def VN (hw:WF h) (x y:List Value):New2 h ((h.alloc (.cells x)).alloc (.cells y)) h.next (h.next+1) x y:=by
 have a:∀x,h.next<=x->h.own x=none:=fun x b=>(Le.refl h).next hw b
 exact⟨((Le.refl h).alloc hw _).alloc (hw.alloc _) _,(hw.alloc _).alloc _,by simp[QD,sh],by simp[QD,sh],a _ (J4 _),a _ QT,QT⟩
def qF (hw:WF h) (x y:List Value):New2 h ((h.alloc (.cells y)).alloc (.cells x)) (h.next+1) h.next x y:=by
 have a:∀x,h.next<=x->h.own x=none:=fun x b=>(Le.refl h).next hw b
 exact⟨((Le.refl h).alloc hw _).alloc (hw.alloc _) _,(hw.alloc _).alloc _,by simp[QD,sh],by simp[QD,sh],a _ QT,a _ (J4 _),QT⟩
def GR.open {n:Int} (r:GR h v ⟨n,es⟩):∃ev,v=.agg #[.int .i64 n,ev]/\PR h ev es:=r.ex
def rC (W0:Ac) (v u:Value) (G:GM) (web:List Pr) (h:AHeap) (hg:GR h v G) (hw:PR h u web) (hr:xO G) (hn:web.length<=1000):
  AC Tryz.prog W0 134 [v,u] h fun x h'=>(∃ov w b,x=.tuple #[ov,w,.bool b]/\(w.cells=#[w]/\w.oneCell'=true)/\(b=true↔Ra G.es web)/\(b=true->RL Po h' ov (ofM G.es web)/\RL Po h' w (QG G.n.toNat web)))/\Le h h':=by
 obtain⟨gn,es⟩:=G;have h0:0<=gn:=hr.n0;obtain⟨n,rfl⟩:=RT h0
 obtain⟨ev,rfl,hp⟩:=hg.open
 have c0:(n:Int)<=200:=hr.n1;have c3:es.length<=594:=hr.len;have V:BD es:=hr.Fx;have aE:∀p∈es,0<=p.1/\p.1<p.2/\p.2<(n:Int):=fun p o=>by
  obtain⟨i,hi⟩:=OH.1 o;exact(hr.ok i (bH.1 hi).1 p hi).1
 show AC Tryz.prog W0 134 [.agg #[.int .i64 (n:Int),ev],u] h fun x h'=>(∃ov w b,x=.tuple #[ov,w,.bool b]/\(w.cells=#[w]/\w.oneCell'=true)/\(b=true↔Ra es web)/\(b=true->RL Po h' ov (ofM es web)/\RL Po h' w (QG n web)))/\Le h h';refine AC.vE ⟨Tryz.func134,rfl,xr⟩ Tryz.ntmps134 Tryz.results134 fun bV=>?_;simp only[xq,Nat.reduceAdd];obtain⟨W,b1,D,r,-,lA⟩:=WY (n:=(n:Int)) bV hp
 generalize h.next=B at*
 have ll:=fun g=>hp.len g;have aK:=lA W (Le.refl _);have bW:=fun g:AHeap=>IG (P:=Tryz.prog) (t:=59) (z:=.bool false) g aO rfl rfl rfl rfl zd v7 zd es.length QT;have bX:=fun g:AHeap=>IG (P:=Tryz.prog) (t:=59) (z:=.bool false) g aO rfl rfl rfl rfl zd v7 zd n QT;simp only[Ud,Nat.reduceLT,↓reduceIte,Nat.reduceEqDiff,reduceCtorEq,b1];have aj:List.replicate es.length (Value.bool false)=(ofM es []).map Value.bool:=by rw[ofM_nil];simp
 have ak:List.replicate n (Value.bool false)=(QG n []).map Value.bool:=by rw[onM_nil];simp
 apply P3 (F:=fun(fr:EP) (h':AHeap)=>∃A C,BM fr [(1,u),(2,.pointer (some ⟨B,0,none⟩)),(7,.slice (some ⟨A,0,none⟩) es.length es.length),(8,.slice (some ⟨C,0,none⟩) n n)]/\New2 W h' A C (List.replicate es.length (Value.bool false)) (List.replicate n (Value.bool false)))
 .intro cont
  have X1:=lA ((W.alloc (.cells (List.replicate es.length (.bool false))))) ((Le.refl W).alloc r _);have X2:=lA ((W.alloc (.cells (List.replicate n (.bool false))))) ((Le.refl W).alloc r _);have X3:=lA _ (VN r (List.replicate es.length (.bool false)) (List.replicate n (.bool false))).le;have X4:=lA _ (qF r (List.replicate es.length (.bool false)) (List.replicate n (.bool false))).le;refine rD (vu [0,1,2,4,5] (.ch 3 [2] (vu [7] (PO 6 [5] (vu [8] .done))) (PO 6 [5] (PO 3 [2] (vu [7,8] .done))))) ?_;simp only[kJJ,Nat.reduceLT,↓reduceIte,Nat.reduceEqDiff,reduceCtorEq,Nat.reduceBEq,rm,Cq,vz,Co,Qs,aK.2.1,aK.2.2,ll,bW,bX,sh,X1.2.1,X1.2.2,X2.2.1,X2.2.2,X3.2.1,X3.2.2,X4.2.1,X4.2.2];refine⟨?_,?_⟩
  .refine KN.zC fun fr' h' e1 e2 => cont fr' h' ?_
   subst e1 e2;exact⟨_,_,vy,VN r _ _⟩
  .refine KN.zC fun fr' h' e1 e2 => cont fr' h' ?_
   subst e1 e2;exact⟨_,_,vy,qF r _ _⟩
 rintro fr h2 ⟨A,C,H,N⟩;simp only[BM]at H;obtain⟨f1,f2,f7,f8,-⟩:=H;have lw:=fun g=>hw.len g;simp only[Ud,Nat.reduceLT,↓reduceIte,Nat.reduceEqDiff,reduceCtorEq,f1,lw];have aM:=N.oA;have aQ:=N.oB;rw[aj]at aM;rw[ak]at aQ;have nA:=N.nA;have nC:=N.nB;have I:=N.ne;refine W9.intro (fun k fr hh=>∃i:Nat,k=web.length-i/\i<=web.length/\fr=mkF [(1,u),(2,.pointer (some ⟨B,0,none⟩)),(7,.slice (some ⟨A,0,none⟩) es.length es.length),(8,.slice (some ⟨C,0,none⟩) n n),(20,u),(21,.int .i64 web.length),(22,.int .i64 i)]/\
   hh.own A=some (.cells ((ofM es (web.take i)).map Value.bool))/\hh.own C=some (.cells ((QG n (web.take i)).map Value.bool))/\Le W hh/\(∀(j:Nat) p,j<i->web[j]?=some p->p∈es)/\∀(j:Nat) p q,j+1<i->web[j]?=some p->web[j+1]?=some q->CI p q<0)
  web.length [(1,u),(2,.pointer (some ⟨B,0,none⟩)),(7,.slice (some ⟨A,0,none⟩) es.length es.length),(8,.slice (some ⟨C,0,none⟩) n n),(20,u),(21,.int .i64 web.length),(22,.int .i64 (0:Nat))] (by simp only[BM,Ud,Nat.reduceLT,↓reduceIte,Nat.reduceEqDiff,reduceCtorEq,f1,f2,f7,f8];simp)
  ⟨0,rfl,KW _,rfl,aM,aQ,N.le,QT,QT⟩ ?_
 rintro k fr hh aT ⟨i,rfl,hi,rfl,oA,oC,R,X,J⟩;refine yq ?_;refine DK.intro (fun ht=>?_) (fun hf=>?_)
 rotate_left
 .have bY : web.length <= i := Yv hf
  rw[xV bY]at oA oC;refine yq ?_;refine⟨⟨_,_,true,rfl,⟨rfl,rfl⟩,⟨fun _=>⟨fun j p q b0 d=>?_,fun p o=>?_⟩,fun _=>rfl⟩,fun _=>⟨RL.cp (RS.whole oA (by simp[EF])),RL.cp (RS.whole oC (by simp[fZ]))⟩⟩,D.trans R⟩
  .have := (bH.1 d).1
   exact J j p q QT b0 d
  .obtain ⟨j, hj⟩ := OH.1 o
   have:=(bH.1 hj).1;exact X j p QT hj
 have S:i<web.length:=Ub ht;clear ht;have s:=XR S;have al:web.take (i+1)=web.take i++[web[i]]:=QM S;generalize web[i]=p at s al;have K:=hw.le (D.trans R);have ad:=hw.addr (k:=.i64) i S;have ld:=K.load s;obtain⟨c4,h3,e2,e3,L,b2,f⟩:=bS aT p;have aX:=L.own _ _ oA;have aY:=L.own _ _ oC;have Y:=R.trans L
 have nE:W.own hh.next=none:=R.none ((Le.refl hh).next aT (J4 _))
 generalize hh.next=E at*
 simp only[Ud,Nat.reduceLT,↓reduceIte,Nat.reduceEqDiff,reduceCtorEq,ad,ld,e2,e3];have a1:(∃(j:Nat) (a b:Pr),web[j]?=some a/\web[j+1]?=some b/\¬CI a b<0)->¬Ra es web:=fun⟨j,a,b,x,y,z⟩ q=>z (q.Fx j a b x y);apply P3 (F:=fun(fr:EP) (h4:AHeap)=>BM fr [(1,u),(2,.pointer (some ⟨B,0,none⟩)),(7,.slice (some ⟨A,0,none⟩) es.length es.length),(8,.slice (some ⟨C,0,none⟩) n n),(10,.pointer (some ⟨E,0,none⟩)),(20,u),(21,.int .i64 web.length),(22,.int .i64 i),(38,.bool false)]/\Le h3 h4/\WF h4/\∀q,0<i->web[i-1]?=some q->CI q p<0)
 .intro cont
  by_cases i0:i=0
  .have z : ((0 : Int) < (i : Int)) = False := eq_false QT
   refine rD (vu [0,1,2,3,4,5,6,7,8] (PO 9 [2,7,8] (vu [10,11] .done))) ?_;simp only[kJJ,Nat.reduceLT,↓reduceIte,Nat.reduceEqDiff,reduceCtorEq,Nat.reduceBEq,rm,gt_iff_lt,z];exact KN.zC fun fr' h' x y=>cont fr' h' (by subst x y;exact⟨vy,Le.refl _,b2,fun q h=>by omega⟩)
  .have z : ((0 : Int) < (i : Int)) = True := eq_true QT
   have M:=XR (show i-1<web.length by omega);generalize web[i-1]'(by omega)=q at M
   have O:awrap .i64 ((i:Int)-1)=((i-1:Nat):Int):=by rw[HY _ QT QT];omega
   have aq:=hw.addr (k:=.i64) (i-1) QT;have b3:=(K.le L).load M;have LP:=E3 f;refine rD (vu [0,1,2,3,4,5,6,7,8] (PO 9 [2,7,8] (vu [10,11] .done))) ?_;simp only[Ud,Nat.reduceLT,↓reduceIte,Nat.reduceEqDiff,reduceCtorEq,Nat.reduceBEq,rm,gt_iff_lt,z,O,aq,b3,LP];refine N1.intro pK ⟨Tryz.func167,rfl,xr⟩ (VP W0 q p h3) ?_;rintro x h4 a6 ⟨rfl,l⟩;have T:=E3 (l.own _ _ f);have Z:=((K.le L).le l).load M;by_cases d3:CI q p>=0
   .simp only [Ud, Nat.reduceLT, ↓reduceIte, Nat.reduceEqDiff, reduceCtorEq, Nat.reduceBEq, rm, z, O, aq, Z, T, d3]
    refine⟨⟨_,_,false,rfl,⟨rfl,rfl⟩,⟨fun e=>(by cases e),fun e=>absurd e (a1 ⟨i-1,q,p,M,by rw[show i-1+1=i by omega];exact s,QT⟩)⟩,fun e=>by cases e⟩,((D.trans Y).trans l)⟩
   .simp only [kJJ, Nat.reduceLT, ↓reduceIte, Nat.reduceEqDiff, reduceCtorEq, Nat.reduceBEq, rm, z, O, aq, Z, T, d3]
    exact KN.zC fun fr' h' x y=>cont fr' h' (by subst x y;exact⟨vy,l,a6,fun q' _ d=>by rw[M]at d;injection d with d;subst d;omega⟩)
 rintro fr h4 ⟨H,l,a6,ar⟩;simp only[BM]at H;obtain⟨g1,g2,g7,g8,a7,a8,bb,b4,b5,-⟩:=H;have Q:=Y.trans l;have b6:=lA h4 Q;have T:=E3 (l.own _ _ f);simp only[Ud,Nat.reduceLT,↓reduceIte,Nat.reduceEqDiff,reduceCtorEq,b5,g2,a7,vz,Co,Qs,b6.2.2,T];refine dK.intro pK ⟨Tryz.func70,rfl,xr⟩ (tA W0 167 Tryz.f167 _ ⟨Tryz.func167,rfl,xr⟩ (fun p q h=>VP W0 p q h) ev es p h4 (hp.le (D.trans Q)) QT V) ?_;rintro x h5 c5 ⟨⟨m,b,rfl,b8,b9⟩,U⟩;have ag:=Q.trans U;cases b with
 |false=>
  refine yq ?_;exact⟨⟨_,_,false,rfl,⟨rfl,rfl⟩,⟨fun e=>(by cases e),fun q=>absurd (q.mem p (Jb s)) (b9 rfl)⟩,fun e=>by cases e⟩,D.trans ag⟩
 |true=>
 have av:=b8 rfl;have o:=Jb av;obtain⟨p1,p2,p3⟩:=aE p o;obtain⟨a,c⟩:=p;simp only at p1 p2 p3;obtain⟨a,rfl⟩:=RT p1;obtain⟨c,rfl⟩:=RT (show 0<=c by omega);have ah:=(bH.1 av).1;have cc:=U.own _ _ (l.own _ _ aX);have cd:=U.own _ _ (l.own _ _ aY);have ay:=U.own _ _ (l.own _ _ f);have cg:A≠E:=fun e=>by subst e;rw[aX]at f;injection f with f;injection f with f;cases hx:(ofM es (web.take i))with|nil=>rw[hx]at f;cases f|cons y ys=>rw[hx]at f;injection f with f _;cases f
 have ck:C≠E:=fun e=>by subst e;rw[aY]at f;injection f with f;injection f with f;cases hx:(QG n (web.take i))with|nil=>rw[hx]at f;cases f|cons y ys=>rw[hx]at f;injection f with f _;cases f
 have cm:∀k:IntKind,aIndexAddr Tryz.prog 59 (.slice (some ⟨A,0,none⟩) es.length es.length) (.int k m)=some (.pointer (some ⟨A,m,none⟩)):=fun k=>by rw[vj aO v7 zd m ah];simp[Co]
 have bj:∀(k:IntKind) (j:Nat),j<n->aIndexAddr Tryz.prog 59 (.slice (some ⟨C,0,none⟩) n n) (.int k j)=some (.pointer (some ⟨C,j,none⟩)):=fun k j hj=>by rw[vj aO v7 zd j hj];simp[Co]
 have st1:=Qr (P:=Tryz.prog) (t:=4) (x:=.bool true) v7 zd cc (off:=m) (by simp[EF,ah]) rfl rfl;have cr:(h5.put A (.cells (((ofM es (web.take i)).map Value.bool).set m (.bool true)))).own C=some (.cells ((QG n (web.take i)).map Value.bool)):=by rw[AHeap.Dz _ _ _ _ (Hn I)];exact cd
 have aB:(h5.put A (.cells (((ofM es (web.take i)).map Value.bool).set m (.bool true)))).own E=some (.cells (Zh ((a:Int),(c:Int)))):=by rw[AHeap.Dz _ _ _ _ (Hn cg)];exact ay
 have cx:(h5.put A (.cells (((ofM es (web.take i)).map Value.bool).set m (.bool true)))).own A=some (.cells ((ofM es (web.take (i+1))).map Value.bool)):=by rw[AHeap.zm,al,iB V av,YY]
 have cE:=ag.put (.cells (((ofM es (web.take i)).map Value.bool).set m (.bool true))) nA;generalize h5.put A (.cells (((ofM es (web.take i)).map Value.bool).set m (.bool true)))=h6 at*;have st2:=Qr (P:=Tryz.prog) (t:=4) (x:=.bool true) v7 zd cr (off:=a) (by simp[fZ];omega) rfl rfl;have cM:(h6.put C (.cells (((QG n (web.take i)).map Value.bool).set a (.bool true)))).own C=some (.cells (((QG n (web.take i)).map Value.bool).set a (.bool true))):=AHeap.zm _ _ _;have bm:(h6.put C (.cells (((QG n (web.take i)).map Value.bool).set a (.bool true)))).own E=some (.cells (Zh ((a:Int),(c:Int)))):=by rw[AHeap.Dz _ _ _ _ (Hn ck)];exact aB
 have cQ:(h6.put C (.cells (((QG n (web.take i)).map Value.bool).set a (.bool true)))).own A=some (.cells ((ofM es (web.take (i+1))).map Value.bool)):=by rw[AHeap.Dz _ _ _ _ I];exact cx
 have cY:=cE.put (.cells (((QG n (web.take i)).map Value.bool).set a (.bool true))) nC;generalize h6.put C (.cells (((QG n (web.take i)).map Value.bool).set a (.bool true)))=h7 at*;have st3:=Qr (P:=Tryz.prog) (t:=4) (x:=.bool true) v7 zd cM (off:=c) (by simp[fZ];omega) rfl rfl;have bo:=Ol ay;have br:=Lt ay;have bx:=Ol aB;have bF:=Lt aB;have bI:=Ol bm;have bQ:=Lt bm;simp only at bo br bx bF bI bQ;refine yq ?_;refine rD (vu [0,1,2,3,4,5,6,7,8] (PO 9 [0,1,8] (vu [10] (PO 11 [0,1,2,3,4,8,9,10] (vu [12] (PO 13 [0,1,2,3,4,5,6,7,8,9,10,11,12] .done)))))) ?_;simp only[Ud,Nat.reduceLT,↓reduceIte,Nat.reduceEqDiff,reduceCtorEq,Nat.reduceBEq,rm,g1,g2,g7,g8,a7,a8,bb,b4,Il,Mt,Co,Qs,bo,br,bx,bF,bI,bQ,cm,bj _ a QT,bj _ c QT,st1,st2,st3,Gm i QT];refine cX (web.length-(i+1)) [(1,u),(2,.pointer (some ⟨B,0,none⟩)),(7,.slice (some ⟨A,0,none⟩) es.length es.length),(8,.slice (some ⟨C,0,none⟩) n n),(20,u),(21,.int .i64 web.length),(22,.int .i64 (i+1:Nat))] QT (by simp only[BM,Ud,Nat.reduceLT,↓reduceIte,Nat.reduceEqDiff,reduceCtorEq,g1,g2,g7,g8,a8,bb];simp)
  ⟨i+1,rfl,S,rfl,by rw[AHeap.Dz _ _ _ _ I];exact cQ,by rw[AHeap.zm,al,yU];simp[YY],cY.put _ nC,fun j q hj hq=>?_,fun j q q' hj hq d=>?_⟩
 .by_cases e : j = i
  .subst e;rw[s]at hq;injection hq with hq;subst hq;exact o
  .exact X j q QT hq
 .by_cases e : j + 1 = i
  .have : web[i - 1]? = some q := by rw [<- e]; simpa using hq
   rw[e,s]at d;injection d with d;subst d;exact ar q QT this
  .exact J j q q' QT hq d
variable {α:Type}
def Og:∀n:Nat,n<=300->IntKind.u64.wrap ((BitVec.ofInt IntKind.u64.bits (n:Int) &&& BitVec.ofInt IntKind.u64.bits 4294967295).toNat:Nat)=(n:Int):=by
 intro n a;have:∀k:Fin 301,IntKind.u64.wrap ((BitVec.ofInt IntKind.u64.bits ((k:Nat):Int) &&& BitVec.ofInt IntKind.u64.bits 4294967295).toNat:Nat)=((k:Nat):Int):=by decide+kernel
 exact this ⟨n,QT⟩
def xi (n:Nat) (a:n<=300):aShift .shr .u64 (n:Int) 32=some (.int .u64 0):=by
 simp[aShift,IntKind.bits];rw[qL220 _ xr];omega
def ZQ (n:Nat) (b:n<=300):awrap .u64 (n:Int)=n:=by
 have a:(0:Int)<=n:=QT;have h2:(n:Int)<=18446744073709551615:=QT;simp[awrap,a,h2]
def Wp (b:Ac) (n:Nat) (a:n<=300) (h:AHeap):AC Tryz.prog b 170 [.int .u64 1,.int .u64 n] h fun x h'=>x=.tuple #[.int .u64 0,.int .u64 n]/\h'=h:=by
 refine AC.vE ⟨Tryz.func170,rfl,xr⟩ Tryz.ntmps170 Tryz.results170 fun c=>?_;simp only[xq,Nat.reduceAdd];have d:IntKind.u64.wrap ((BitVec.ofInt IntKind.u64.bits 1 &&& BitVec.ofInt IntKind.u64.bits 4294967295).toNat:Nat)=1:=Og 1 xr;have e:aShift .shr .u64 1 32=some (.int .u64 0):=xi 1 xr;have f:IntKind.u64.wrap ((BitVec.ofInt IntKind.u64.bits 0 &&& BitVec.ofInt IntKind.u64.bits 4294967295).toNat:Nat)=0:=Og 0 xr;have g:aShift .shr .u64 0 32=some (.int .u64 0):=xi 0 xr;have i:=Og n a;have j:=xi n a;have k:awrap .u64 0=0:=by decide
 have l:=ZQ n a;simp only[Ud,Nat.reduceLT,↓reduceIte,Nat.reduceEqDiff,reduceCtorEq,d,e,f,g,i,j,k,l,Int.one_mul,Int.mul_zero,Int.zero_mul,Int.add_zero];exact⟨trivial,trivial⟩
def Mul_any (a:Ac) (n:Nat) (b:n<=300) (h:AHeap):AC Tryz.prog a 144 [.int .u64 1,.int .u64 n] h fun x h'=>x=.tuple #[.int .u64 0,.int .u64 n]/\h'=h:=by
 refine AC.vE ⟨Tryz.func144,rfl,xr⟩ Tryz.ntmps144 Tryz.results144 fun c=>?_;simp only[xq,Nat.reduceAdd];refine yq ?_;refine dK.intro pK ⟨Tryz.func170,rfl,xr⟩ (Wp a n b h) ?_;rintro v h'-⟨rfl,rfl⟩;refine yq ?_;exact⟨trivial,trivial⟩
def Yu (a b:α) (i n m:Nat) (f:min i (n-i)=m):List.take i (List.replicate i a++List.replicate (n-i) b)++List.take (m*1) (List.replicate i a)++List.drop (i+m*1) (List.replicate i a++List.replicate (n-i) b)=List.replicate (i+m) a++List.replicate (n-(i+m)) b:=by
 have c:List.take i (List.replicate i a++List.replicate (n-i) b)=List.replicate i a:=by simp[]
 have d:List.take (m*1) (List.replicate i a)=List.replicate m a:=by rw[uZ,List.take_replicate];congr 1;omega
 have e:List.drop (i+m*1) (List.replicate i a++List.replicate (n-i) b)=List.replicate (n-(i+m)) b:=by
  rw[uZ,List.drop_append,List.drop_replicate,List.drop_replicate];simp;omega
 rw[c,d,e,List.replicate_append_replicate]
def SV (y:Ac) (l:Value) (n:Nat) (p:n<=300) (h:AHeap) (q:RL IJ h l [-1]):AC Tryz.prog y 104 [l,.int .i64 n] h fun v h'=>∃id,v=.slice (some ⟨id,0,none⟩) n n/\h.next<=id/\h'.own id=some (.cells (List.replicate n (.int .i64 (-1))))/\Le h h':=by
 refine AC.vE ⟨lH,rfl,xr⟩ Tryz.ntmps104 Tryz.results104 fun f=>?_;simp only[xq,Nat.reduceAdd];have A:¬((n:Int)<0):=QT;have B:aLen Tryz.prog h 49 l=some (.int .i64 (1:Int)):=q.zw h;have w1:awrap .u64 1=1:=by decide
 simp only[Ud,Nat.reduceLT,↓reduceIte,Nat.reduceEqDiff,reduceCtorEq,A,B,aConvert,Ik,qS16,ZQ n p,w1];refine dK.intro pK ⟨Tryz.func144,rfl,xr⟩ (Mul_any y n p h) ?_;rintro v h'-⟨rfl,rfl⟩;have C:¬((0:Int)<(0:Int)):=by decide
 have D:¬((9223372036854775807:Int)<(n:Int)):=QT;have mk:=IG (P:=Tryz.prog) (t:=49) h' Rm rfl rfl rfl rfl zd Ik zd n QT;simp only[Ud,Nat.reduceLT,↓reduceIte,Nat.reduceEqDiff,reduceCtorEq,C,D,aConvert,Ik,qS16,GQ n QT QT,mk]
 have d:(h'.alloc (.cells (List.replicate n (.int .i64 0)))).own h'.next=some (.cells (List.replicate n (.int .i64 0))):=AHeap.vA _ _
 have hle:Le h' (h'.alloc (.cells (List.replicate n (.int .i64 0)))):=(Le.refl _).alloc f _
 have g:h'.own h'.next=none:=(Le.refl h').next f (J4 _)
 generalize h'.alloc (.cells (List.replicate n (.int .i64 0)))=z at*
 have c:∃m h2,aCopy Tryz.prog z 49 (.slice (some ⟨h'.next,0,none⟩) n n) l=some (.int .i64 (m:Nat),h2)/\(n=0/\m=0\/1<=m/\m<=n)/\h2.own h'.next=some (.cells (List.replicate m (.int .i64 (-1))++List.replicate (n-m) (.int .i64 0)))/\Le h' h2:=by
  by_cases E:n=0
  .subst E
   exact⟨0,z,bZ Rm Ik xr q.sl YX,.inl ⟨rfl,rfl⟩,by simpa using d,hle⟩
  .obtain ⟨vs, F, hlen, hg⟩ := q
   have r:vs=[.int .i64 (-1)]:=by
    match vs,hlen with
    |[x],_=>rw[hg 0 (-1) x rfl rfl]
   subst r;refine⟨1,_,wS (k:=1) Rm Ik rfl d (F.le hle).cs (by rfl) 1 (by simp;omega) xr (by simp;omega),.inr ⟨QT,QT⟩,?_,hle.put _ g⟩;rw[AHeap.zm];simp
 obtain⟨m,h2,G,H,s,j⟩:=c;simp only[Ud,Nat.reduceLT,↓reduceIte,Nat.reduceEqDiff,reduceCtorEq,G]
 refine W9.intro (fun k fr hh=>∃i:Nat,k=n-i/\(n=0/\i=0\/1<=i/\i<=n)/\fr=mkF [(7,.slice (some ⟨h'.next,0,none⟩) n n),(8,.int .i64 i)]/\hh.own h'.next=some (.cells (List.replicate i (.int .i64 (-1))++List.replicate (n-i) (.int .i64 0)))/\Le h' hh) (n-m) [(7,.slice (some ⟨h'.next,0,none⟩) n n),(8,.int .i64 m)] vy ⟨m,rfl,H,rfl,s,j⟩ ?_
 rintro k fr hh-⟨i,rfl,hi,rfl,d,hle⟩
 simp only[Ud,Nat.reduceLT,↓reduceIte,Nat.reduceEqDiff,reduceCtorEq,show aLen Tryz.prog hh 49 (.slice (some ⟨h'.next,0,none⟩) n n)=some (.int .i64 n)from rfl]
 refine DK.intro (fun I=>?_) (fun hf=>?_)
 .have u : i < n := Ub I
  refine yq ?_;refine rD (vu [0,1,2,3,4,5,6] (PO 7 [3,6] (vu [8] (PO 9 [0,1,2,3,4,5,6,7,8] .done)))) ?_;have b:n<km:=NV p xr
  have s1:=sO (P:=Tryz.prog) (t:=49) (a:=some ⟨h'.next,0,none⟩) (n:=n) (cap:=n) (k:=.i64) Rm Ik rfl i QT (.inr u) (J4 _) b
  have s2:=c8 (P:=Tryz.prog) (t:=49) (a:=⟨h'.next,0,none⟩) (n:=n) (cap:=n) (k:=.i64) Rm Ik i QT (J4 _) b
  simp only[pD,Co,Qs]at s1
  have o:CS 1 hh (.slice (some ⟨h'.next,0,none⟩) i n) i (List.replicate i (.int .i64 (-1))):=by
   have:=CS.own (k:=1) (off:=0) (n:=i) (cap:=n) d YX;simpa using this
  have w:=wS (P:=Tryz.prog) (t:=49) (k:=1) (n:=i) (off:=i) (dl:=n-i) (dc:=n-i) (e:=3) Rm Ik rfl d o (all_rep rfl i) (min i (n-i)) rfl QT (by simp;omega);simp only[Ud,Nat.reduceLT,↓reduceIte,Nat.reduceEqDiff,reduceCtorEq,Nat.reduceBEq,rm,s1,s2,w,GQ ((i:Int)+((min i (n-i):Nat):Int)) QT QT]
  refine cX (n-(i+min i (n-i))) [(7,.slice (some ⟨h'.next,0,none⟩) n n),(8,.int .i64 (i+min i (n-i):Nat))] QT vy ⟨i+min i (n-i),rfl,QT,rfl,?_,hle.put _ g⟩
  rw[AHeap.zm];rw[Yu _ _ i n _ rfl]
 .have J : n <= i := Yv hf
  have:i=n:=QT;subst this;refine yq ?_;exact⟨_,rfl,J4 _,by simpa using d,hle⟩
end
section
open Go.Proofs
variable {L R c n q t w:Nat} {P:Program} {b0 h h':AHeap} {r:LF} {rows:CA} {us:List Value} {v:Value} {α:Type}
def oY (l:LF):List Value:=l.map (Value.int .i64)
def CW (l:LF):(oY l).length=l.length:=by simp[oY]
def ko (l:LF):(oY l).all (·.oneCell')=true:=by simp[oY];intros;rfl
def Vb (h:AHeap) (x:Int):aBuildSlice Tryz.prog h 49 1 [(0,.int .i64 x)]=some (.slice (some ⟨h.next,0,none⟩) 1 1,h.alloc (.cells [.int .i64 x])):=rfl
def YK {t xt:TypeId} {v x v':Value} (hw:WF h) (e:aAppend P h t xt v x=some (v',h')):WF h':=by
 unfold aAppend at e;split at e
 .split at e
  .split at e
   .split at e
    .split at e
     .injection e with e;injection e with b a;subst a;exact hw
     .cases e
    .split at e
     .split at e
      .split at e
       .split at e
        .split at e
         .injection e with e;injection e with b a;subst a;exact(hw.kill _).alloc _
         .cases e
        .cases e
       .cases e
      .cases e
     .split at e
      .split at e
       .split at e
        .rename_i c
         split at e
         .injection e with e;injection e with b a;subst a;exact hw.put _ (hw.lt c)
         .cases e
        .cases e
       .cases e
      .split at e
       .split at e
        .injection e with e;injection e with b a;subst a;exact hw.alloc _
        .cases e
       .cases e
   .cases e
  .cases e
 .cases e
def grow (m:WF h) {G:AHeap} {us cells:List Value} {cu x:Value} {d:TypeDesc} (y:apT Tryz.prog t t 1=true) (z:Tryz.prog.underlying t=some d) (n:JO Tryz.prog t=1)
  (oR:h.own R=some (.cells us)) (hw:w<us.length) (g:GS 1 h cu q cells) (A:cells.all (·.oneCell')=true) (B:x.oneCell'=true) (I:q<=100000) (C:blk cu≠some R) (le:Le G h) (D:G.own R=none) (ap:tQ G cu):
  ∃a k f j,h.alloc (.cells [x])=k/\aAppend Tryz.prog k t t cu (.slice (some ⟨h.next,0,none⟩) 1 1)=some (a,f)/\aStore Tryz.prog f t (.pointer (some ⟨R,w,none⟩)) a=some j/\GS 1 j a (q+1) (cells++[x])/\
   j.own R=some (.cells (us.set w a))/\blk a≠some R/\tQ G a/\Le h k/\Le G f/\Le G j/\(∀b o,h.own b=some o->b≠R->blk cu≠some b->j.own b=some o/\blk a≠some b)/\(∀b o,h.own b=some o->blk cu≠some b->f.own b=some o)/\WF j:=by
 obtain⟨k,E,c,e,F⟩:=mV m [x];obtain⟨a,f,r,s,hf⟩:=(g.le c).push (P:=Tryz.prog) (t:=t) y F A B QT;obtain⟨u,v⟩:=Na hf e (c.own _ _ oR) C;obtain⟨l5,H⟩:=hf G e (le.trans c) ap;have l:WF f:=YK e r;have sl:=s.cs.sl;have st:=Qr (P:=Tryz.prog) (t:=t) (x:=a) z n u (off:=w) hw (by obtain⟨_,_,rfl,_⟩:=sl;rfl) sl.one;refine⟨a,k,f,_,E,r,st,s.put _ v,AHeap.zm _ _ _,v,H,c,l5,l5.put _ D,fun b o hb p i=>?_,fun b o hb i=>(Na hf e (c.own _ _ hb) i).1,l.put _ (l.lt u)⟩;obtain⟨r1,r2⟩:=Na hf e (c.own _ _ hb) i;exact⟨by rw[AHeap.Dz _ _ _ _ p];exact r1,r2⟩
structure Rows (b0 h:AHeap) (L:Nat) (us:List Value) (rows:CA):Prop where
 oL:h.own L=some (.cells us)
 len:us.length=rows.length
 gs:∀(v:Nat) u r,us[v]?=some u->rows[v]?=some r->GS 1 h u r.length (oY r)
 nL:∀(v:Nat) u,us[v]?=some u->blk u≠some L
 eX:∀(v w:Nat) u u' b,v≠w->us[v]?=some u->us[w]?=some u'->blk u=some b->blk u'≠some b
 ap:∀(v:Nat) u,us[v]?=some u->tQ b0 u
 le:Le b0 h
 bL:b0.own L=none
def Rows.up (R:Rows b0 h L us rows) (e:Le h h'):Rows b0 h' L us rows:=
 ⟨e.own _ _ R.oL,R.len,fun v u r a b=>(R.gs v u r a b).le e,R.nL,R.eX,R.ap,R.le.trans e,R.bL⟩
def Rows.start (d:h.own L=some (.cells (List.replicate n (.slice none 0 0)))) (le:Le b0 h) (bL:b0.own L=none):Rows b0 h L (List.replicate n (.slice none 0 0)) (List.replicate n []):=by
 have a:∀(v:Nat) u,(List.replicate n (Value.slice none 0 0))[v]?=some u->u=.slice none 0 0:=fun v u c=>Ho (Jb c);refine⟨d,YX,fun v u r c e=>?_,fun v u c=>?_,fun v w u u' b _ c _ hb=>?_,fun v u c b hb=>?_,le,bL⟩
 .rw[a v u c,show r=[]from Ho (Jb e)];exact .nil 1 _
 .rw[a v u c];simp[blk]
 .rw[a v u c]at hb;simp[blk]at hb
 .rw[a v u c]at hb;simp[blk]at hb
def Rows.push (R:Rows b0 h L us rows) (A:WF h) (B:rows[w]?=some r) (x:Int) (E:r.length<=100000):
  ∃u u' s l p,us[w]?=some u/\h.alloc (.cells [.int .i64 x])=s/\aAppend Tryz.prog s 49 49 u (.slice (some ⟨h.next,0,none⟩) 1 1)=some (u',l)/\aStore Tryz.prog l 49 (.pointer (some ⟨L,w,none⟩)) u'=some p/\Le h s/\Le b0 l/\
   l.own L=some (.cells us)/\Rows b0 p L (us.set w u') (rows.set w (r++[x]))/\WF p/\(∀b o,h.own b=some o->b≠L->(∀(v:Nat) a,us[v]?=some a->blk a≠some b)->l.own b=some o/\p.own b=some o/\∀(v:Nat) a,(us.set w u')[v]?=some a->blk a≠some b):=by
 have d:w<us.length:=by rw[R.len];exact(bH.1 B).1
 have f:=XR d;generalize us[w]=u at f;have g:=R.gs w u r f B;obtain⟨u',s,l,p,F,H,I,J,o6,n6,K,l4,l5,l6,keep,i,C⟩:=grow A (G:=b0) (t:=49) (x:=.int .i64 x) zd Rm zd R.oL d g (ko _) rfl E (R.nL w u f) R.le R.bL (R.ap w u f);refine⟨u,u',s,l,p,f,F,H,I,l4,l5,i _ _ R.oL (R.nL w u f),⟨o6,by simp[R.len],fun v a q ha c=>?_,fun v a ha=>?_,fun v v' a a' b m ha WA hb=>?_,fun v a ha=>?_,l6,R.bL⟩,C,fun b o hb y k=>⟨i b o hb (k w u f),(keep b o hb y (k w u f)).1,fun v a ha=>?_⟩⟩
 .rw [v8] at ha c
  by_cases e:w=v
  .subst e
   have D:=(bH.1 B).1;rw[if_pos rfl,if_pos d]at ha;rw[if_pos rfl,if_pos D]at c;injection ha with ha;injection c with c;subst ha c;have:oY r++[.int .i64 x]=oY (r++[x]):=by simp[oY]
   rw[<-this,Vw];exact J
  .rw [if_neg e] at ha c
   refine(R.gs v a q ha c).kept fun b o hb z=>(keep b o z (fun j=>R.nL v a ha (by rw[<-j];exact hb)) (fun j=>R.eX w v u a b e f ha j hb)).1
 .rw [v8] at ha
  by_cases e:w=v
  .subst e;rw[if_pos rfl,if_pos d]at ha;injection ha with ha;subst ha;exact n6
  .rw[if_neg e]at ha;exact R.nL v a ha
 .rw [v8] at ha WA
  by_cases e:w=v
  .subst e
   rw[if_pos rfl,if_pos d]at ha;injection ha with ha;subst ha;rw[if_neg m]at WA;intro AD;have n:∃q,rows[v']?=some q:=⟨_,XR (by rw[<-R.len];exact(bH.1 WA).1)⟩;obtain⟨q,c⟩:=n;obtain⟨o,z⟩:=yu.1 ((R.gs v' a' q WA c).Rf AD);exact(keep b o z (fun j=>R.nL v' a' WA (by rw[<-j];exact AD)) (fun j=>R.eX w v' u a' b m f WA j AD)).2 hb
  .rw [if_neg e] at ha
   by_cases e':w=v'
   .subst e'
    rw[if_pos rfl,if_pos d]at WA;injection WA with WA;subst WA;have n:∃q,rows[v]?=some q:=⟨_,XR (by rw[<-R.len];exact(bH.1 ha).1)⟩;obtain⟨q,c⟩:=n;obtain⟨o,z⟩:=yu.1 ((R.gs v a q ha c).Rf hb);exact(keep b o z (fun j=>R.nL v a ha (by rw[<-j];exact hb)) (fun j=>R.eX w v u a b e f ha j hb)).2
   .rw [if_neg e'] at WA
    exact R.eX v v' a a' b m ha WA hb
 .rw [v8] at ha
  by_cases e:w=v
  .subst e;rw[if_pos rfl,if_pos d]at ha;injection ha with ha;subst ha;exact K
  .rw[if_neg e]at ha;exact R.ap v a ha
 .rw [v8] at ha
  by_cases e:w=v
  .subst e;rw[if_pos rfl,if_pos d]at ha;injection ha with ha;subst ha;exact(keep b o hb y (k w u f)).2
  .rw[if_neg e]at ha;exact k v a ha
def isG (h:AHeap) (u:Value) (r:LF):Prop:=GS 1 h u r.length (oY r)
def RL.map {R R':AHeap->Value->α->Prop} {xs:List α} (r:RL R h v xs) (hR:∀u x,R h u x->R' h u x):RL R' h v xs:=by
 obtain⟨vs,q,a,b⟩:=r;exact⟨vs,q,a,fun i x u c d=>hR u x (b i x u c d)⟩
def isG.rl {u:Value} (g:isG h u r):RL IJ h u r:=RL.Kr (GS.cs g).rs
def Rows.rlG (R:Rows b0 h L us rows) (a:us.length=n):RL isG h (.slice (some ⟨L,0,none⟩) n c) rows:=
 ⟨us,RS.whole R.oL a,R.len,fun i x u b d=>R.gs i u x d b⟩
def Rows.rl (R:Rows b0 h L us rows) (a:us.length=n):RL (RL IJ) h (.slice (some ⟨L,0,none⟩) n c) rows:=
 ⟨us,RS.whole R.oL a,R.len,fun i x u b d=>RL.Kr (R.gs i u x d b).cs.rs⟩
def Ke (rows:CA) (p:Pr):CA:=
 let r1:=rows.set p.1.toNat ((rows.getD p.1.toNat [])++[p.2])
 r1.set p.2.toNat ((r1.getD p.2.toNat [])++[p.1])
def Oc (n:Nat) (es:List Pr):CA:=es.foldl Ke (List.replicate n [])
def lV (rows:CA) (p:Pr):(Ke rows p).length=rows.length:=by simp[Ke]
def XM (n:Nat) (es:List Pr):(Oc n es).length=n:=by
 have:∀(es:List Pr) (rows:CA),(es.foldl Ke rows).length=rows.length:=by
  intro es
  induction es with
  |nil=>intro rows;rfl
  |cons p es a=>intro rows;rw[kT,a,lV]
 rw[Oc,this];simp
def y7 (n:Nat) (es:List Pr) (p:Pr):Oc n (es++[p])=Ke (Oc n es) p:=by simp[Oc]
def OI (n:Nat) (es:List Pr):∀r∈Oc n es,r.length<=2*es.length:=by
 have:∀(es:List Pr) (rows:CA) (k:Nat),(∀r∈rows,r.length<=k)->∀r∈es.foldl Ke rows,r.length<=k+2*es.length:=by
  intro es
  induction es with
  |nil=>intro rows k h;simpa using h
  |cons p es d=>
   intro rows k h r a;rw[kT]at a;have b:∀(l:CA) (m:Nat),(∀r∈l,r.length<=m)->∀i,(l.getD i []).length<=m:=fun l m e i=>by
    by_cases hi:i<l.length
    .rw[YR hi];exact e _ (om hi)
    .simp[Tz (aai hi)]
   have c:∀r∈rows.set p.1.toNat ((rows.getD p.1.toNat [])++[p.2]),r.length<=k+1:=fun r a=>by
    rcases zo a with h'|rfl
    .have:=h r h';omega
    .have:=b rows k h p.1.toNat;simp;simpa using this
   have h2:∀r∈Ke rows p,r.length<=k+2:=fun r a=>by
    rcases zo a with h'|rfl
    .have:=c r h';omega
    .have:=b _ (k+1) c p.2.toNat;simp at this ⊢;omega
   have:=d (Ke rows p) (k+2) h2 r a;simp;omega
 intro r a;have:=this es (List.replicate n []) 0 (fun r a=>by rw[Ho a];simp) r a;omega
end
section
attribute [local irreducible] Ax YH XZ Uk KO KN KX KE VK DK Q7 dK W9
open Go.Proofs
def Et (W0:Ac) (v:Value) (n:Nat) (es:List Pr) (h:AHeap) (hg:GR h v ⟨(n:Int),es⟩) (hr:xO ⟨(n:Int),es⟩):AC Tryz.prog W0 32 [v] h fun x h'=>RL isG h' x (Oc n es)/\Le h h':=by
 have aM:=hg
 obtain⟨ev,rfl,hp⟩:=hg.open
 have bY:(n:Int)<=200:=hr.n1;have b0:es.length<=594:=hr.len;have F:∀p∈es,0<=p.1/\p.1<p.2/\p.2<(n:Int):=fun p aQ=>by
  obtain⟨i,hi⟩:=OH.1 aQ;exact(hr.ok i (bH.1 hi).1 p hi).1
 refine AC.vE ⟨pw,rfl,xr⟩ Tryz.ntmps32 Tryz.results32 fun aT=>?_;simp only[xq,Nat.reduceAdd];obtain⟨h1,b1,r,b3,-,lA⟩:=WY (n:=(n:Int)) aT hp
 generalize h.next=B at*
 have aX:=lA h1 (Le.refl _);have ll:=fun g=>hp.len g;simp only[Ud,Nat.reduceLT,↓reduceIte,Nat.reduceEqDiff,reduceCtorEq,b1,aX.1];refine dK.intro pK ⟨Zj,rfl,xr⟩ (qG W0 _ _ h1 (aM.le r)) ?_;rintro x h2 G ⟨⟨bb,rfl,aY⟩,m⟩;obtain rfl:bb=true:=aY.2 hr;have a1:=lA h2 m;have mk:=IG (P:=Tryz.prog) (t:=27) (z:=.slice none 0 0) h2 qS9 rfl rfl rfl rfl zd Rm zd n QT;obtain⟨h3,e3,H,b4,o3⟩:=mV G (List.replicate n (.slice none 0 0));rw[e3]at mk
 have nL:h2.own h2.next=none:=(Le.refl h2).next G (J4 _)
 generalize h2.next=L at*
 have zH:=lA h3 (m.trans H);simp only[Ud,Nat.reduceLT,↓reduceIte,Nat.reduceEqDiff,reduceCtorEq,Cq,vz,Co,Qs,a1.2.1,mk,zH.2.2,ll];have R0:Rows h2 h3 L (List.replicate n (.slice none 0 0)) (Oc n (es.take 0)):=by
  have:Oc n (es.take 0)=List.replicate n []:=by simp[Oc]
  rw[this];exact Rows.start o3 H nL
 refine W9.intro (fun k fr hh=>∃(i:Nat) (us:List Value),k=es.length-i/\i<=es.length/\fr=mkF [(3,.slice (some ⟨L,0,none⟩) n n),(13,ev),(14,.int .i64 es.length),(15,.int .i64 i)]/\Rows h2 hh L us (Oc n (es.take i)))
  es.length [(3,.slice (some ⟨L,0,none⟩) n n),(13,ev),(14,.int .i64 es.length),(15,.int .i64 (0:Nat))] vy ⟨0,_,rfl,KW _,rfl,R0⟩ ?_
 rintro k fr hh I ⟨i,us,rfl,hi,rfl,R⟩;refine yq ?_;refine DK.intro (fun ht=>?_) (fun hf=>?_)
 rotate_left
 .have a6 : es.length <= i := Yv hf
  rw[xV a6]at R;refine yq ?_;exact⟨R.rlG (by rw[R.len,XM]),(r.trans m).trans R.le⟩
 have o:i<es.length:=Ub ht;clear ht;have s:=XR o;have J:es.take (i+1)=es.take i++[es[i]]:=QM o;generalize es[i]=p at s J;obtain⟨p1,p2,p3⟩:=F p (Jb s);have a7:=hp.le ((r.trans m).trans R.le);have ad:=hp.addr (k:=.i64) i o;have ld:=a7.load s;obtain⟨b5,h4,e4,a8,bj,bm,K⟩:=bS I p
 have M:hh.own hh.next=none:=(Le.refl hh).next I (J4 _)
 obtain⟨a,c⟩:=p;simp only at p1 p2 p3;obtain⟨a,rfl⟩:=RT p1;obtain⟨c,rfl⟩:=RT (show 0<=c by omega);have R4:=R.up bj
 have bo:∀(v:Nat) u,us[v]?=some u->blk u≠some hh.next:=fun v u N hb=>by
  have br:∃q,(Oc n (es.take i))[v]?=some q:=⟨_,XR (by rw[<-R.len];exact(bH.1 N).1)⟩;obtain⟨q,hq⟩:=br;exact(R.gs v u q N hq).Rf hb M
 have O:hh.next≠L:=fun e=>by have:=R.oL;rw[<-e,M]at this;cases this
 generalize hh.next=E at*
 simp only[Ud,Nat.reduceLT,↓reduceIte,Nat.reduceEqDiff,reduceCtorEq,ad,ld,e4,a8];have d:=OI n (es.take i);have b6:(es.take i).length<=594:=by rw[Ja];omega
 have Q:∀(k:IntKind) (j:Nat),j<n->aIndexAddr Tryz.prog 27 (.slice (some ⟨L,0,none⟩) n n) (.int k j)=some (.pointer (some ⟨L,j,none⟩)):=fun k j hj=>by rw[vj qS9 Rm zd j hj];simp[Co]
 have y:a<(Oc n (es.take i)).length:=by rw[XM];omega
 have A:=XR y;have S:(Oc n (es.take i)).getD a []=(Oc n (es.take i))[a]:=YR y;have T:((Oc n (es.take i))[a]).length<=100000:=by have:=d _ (om y);omega
 generalize (Oc n (es.take i))[a]=ra at A S T;obtain⟨u,u',h5,h6,h7,N,e5,e6,e7,l5,l6,b8,R7,bx,keep⟩:=R4.push bm A (c:Int) T;obtain⟨f,b,U⟩:=keep _ _ K O bo;have V:=Ol K;have W:=Lt K;have X:=Ol (l5.own _ _ K);have Y:=Lt (l5.own _ _ K);have Z:=Ol f;have ag:=Lt f;have ah:=Ol b;have aj:=Lt b;simp only at V W X Y Z ag ah aj;have bF:aload Tryz.prog h4 49 ⟨L,a,none⟩=some u:=by rw[wT Rm rfl R4.oL];exact N
 have bI:aload Tryz.prog h5 49 ⟨L,a,none⟩=some u:=by rw[wT Rm rfl (l5.own _ _ R4.oL)];exact N
 have bs:aBuildSlice Tryz.prog h4 49 1 [(0,.int .i64 (c:Int))]=some (.slice (some ⟨h4.next,0,none⟩) 1 1,h5):=by rw[Vb,e5]
 refine rD (vu [0,1,2,3,4,5,6,7,8,9] (PO 10 [9] (PO 11 [7,10] (vu [12] (PO 13 [0,1,2,3,4,5,6,7,8,9,10,11,12] .done))))) ?_;simp only[Ud,Nat.reduceLT,↓reduceIte,Nat.reduceEqDiff,reduceCtorEq,Nat.reduceBEq,rm,Il,Mt,Co,Qs,V,W,X,Y,Z,ag,Q _ a QT,bF,bI,bs,e6,e7];have b9:((Oc n (es.take i)).set a (ra++[(c:Int)])).length=n:=by simp[XM]
 have C:c<((Oc n (es.take i)).set a (ra++[(c:Int)])).length:=QT;have ak:=XR C;have al:((Oc n (es.take i)).set a (ra++[(c:Int)])).getD c []=((Oc n (es.take i)).set a (ra++[(c:Int)]))[c]:=YR C;have aq:(((Oc n (es.take i)).set a (ra++[(c:Int)]))[c]).length<=100000:=by
  rcases zo (om C)with e|e
  .have:=d _ e;omega
  .rw[e];simp;have:=d ra (Jb A);omega
 generalize ((Oc n (es.take i)).set a (ra++[(c:Int)]))[c]=rc at ak al aq;obtain⟨w,w',h8,h9,cc,hw,e8,e9,bQ,l8,l9,cd,ar,b2,D⟩:=R7.push bx ak (a:Int) aq;obtain⟨l,av,-⟩:=D _ _ b O U;have ay:=Ol (l8.own _ _ b);have aB:=Lt (l8.own _ _ b);have aE:=Ol l;have aK:=Lt l;simp only at ay aB aE aK;have bV:aload Tryz.prog h7 49 ⟨L,c,none⟩=some w:=by rw[wT Rm rfl R7.oL];exact hw
 have bW:aload Tryz.prog h8 49 ⟨L,c,none⟩=some w:=by rw[wT Rm rfl (l8.own _ _ R7.oL)];exact hw
 have bX:aBuildSlice Tryz.prog h7 49 1 [(0,.int .i64 (a:Int))]=some (.slice (some ⟨h7.next,0,none⟩) 1 1,h8):=by rw[Vb,e8]
 refine rD (vu [0,1,2,3,4,5,6,7,8,9] (PO 10 [9] (PO 11 [7,10] (vu [12] (PO 13 [0,1,2,3,4,5,6,7,8,9,10,11,12] .done))))) ?_;simp only[Ud,Nat.reduceLT,↓reduceIte,Nat.reduceEqDiff,reduceCtorEq,Nat.reduceBEq,rm,Il,Mt,Co,Qs,ah,aj,ay,aB,aE,aK,Q _ c QT,bV,bW,bX,e9,bQ,Gm i QT];have:Ke (Oc n (es.take i)) ((a:Int),(c:Int))=((Oc n (es.take i)).set a (ra++[(c:Int)])).set c (rc++[(a:Int)]):=by
  simp only[Ke,TK,S,al]
 rw[<-this,<-y7,<-J]at ar;exact cX (es.length-(i+1)) [(3,.slice (some ⟨L,0,none⟩) n n),(13,ev),(14,.int .i64 es.length),(15,.int .i64 (i+1:Nat))] QT vy ⟨i+1,_,rfl,o,rfl,ar⟩
def sJ (a:Ac) (v:Value) (n:Nat) (es:List Pr) (h:AHeap) (hg:GR h v ⟨(n:Int),es⟩) (b:xO ⟨(n:Int),es⟩):AC Tryz.prog a 32 [v] h fun x h'=>RL (RL IJ) h' x (Oc n es)/\Le h h':=
 (Et a v n es h hg b).mono fun _ _ h=>⟨h.1.map fun _ _ g=>g.rl,h.2⟩
end
section
open Go.Proofs
def Mw (p:Pr) (v:Int):Bool:=decide (p.1=v)||decide (p.2=v)
def mR (ps:List Pr) (v:Int):Bool:=ps.any fun p=>Mw p v
def eqP (p q:Pr):aEq Tryz.prog 38 (Ov p) (Ov q)=some (decide (p=q)):=by
 have e:p=q↔p.1=q.1/\p.2=q.2:=jA;simp only[aEq,qS8,Ik,Ov,allInts,ts3];by_cases a:p.1=q.1
 .by_cases h2 : p.2 = q.2
  .simp[e,a,h2]
  .simp[e,a,h2]
 .simp[e,a]
variable {L:LF} {cl cl':Nat->Nat->Prop} {es:List Pr} {met:wi} {n u v w x:Nat} {on:Nat->Bool} {α:Type}
def Ao (l:List α) (i j:Nat) (a d:α):(l.set i a).getD j d=if i=j/\i<l.length then a else l.getD j d:=by
 simp only[OO,v8];by_cases b:i=j
 .subst b
  by_cases h2:i<l.length
  .simp[h2]
  .simp[h2]
 .simp[b]
def I7 (n:Nat) (es:List Pr):Prop:=∀p∈es,0<=p.1/\p.1<p.2/\p.2<(n:Int)
def xO.si (b:xO ⟨(n:Int),es⟩):I7 n es:=fun p a=>by
 obtain⟨i,hi⟩:=OH.1 a;exact(b.ok i (bH.1 hi).1 p hi).1
def xA (es:List Pr) (u w:Nat):Prop:=((u:Int),(w:Int))∈es\/((w:Int),(u:Int))∈es
def xA.symm {es:List Pr} {u w:Nat} (h:xA es u w):xA es w u:=Or.symm h
def xA.lt (a:I7 n es) (h:xA es u w):u<n/\w<n:=by
 rcases h with h|h<;>have:=a _ h<;>simp only at this<;>omega
def cZ (rows:CA) (p:Pr) (u:Nat) (x:Int) (c:p.1.toNat<rows.length) (h2:p.2.toNat<rows.length):
  x∈(Ke rows p).getD u []↔x∈rows.getD u []\/(p.1.toNat=u/\x=p.2)\/(p.2.toNat=u/\x=p.1):=by
 simp only[Ke,Ao,qm];by_cases b:p.2.toNat=u
 .subst b
  by_cases a:p.1.toNat=p.2.toNat
  .simp[a,h2]
  .simp[a,h2]
 .by_cases a : p.1.toNat = u
  .subst a;simp[b,c]
  .simp[a,b]
def qb (n:Nat):∀(es:List Pr) (rows:CA),rows.length=n->I7 n es->∀(u:Nat) (x:Int),x∈(es.foldl Ke rows).getD u []↔x∈rows.getD u []\/∃p∈es,(p.1.toNat=u/\x=p.2)\/(p.2.toNat=u/\x=p.1)
 |[],rows,_,_,u,x=>by simp
 |p::es,rows,b,a,u,x=>by
  have d:=a p YX;rw[kT,qb n es _ (by rw[lV,b]) (fun q c=>a q (by simp[c])) u x,cZ rows p u x QT QT];simp only[aH,exists_eq_or_imp];constructor
  .rintro ((h | h) | h)
   .exact .inl h
   .exact .inr (.inl h)
   .exact .inr (.inr h)
  .rintro (h | h | h)
   .exact .inl (.inl h)
   .exact .inl (.inr h)
   .exact .inr h
def M8 (e:I7 n es) (u w:Nat):(w:Int)∈(Oc n es).getD u []↔xA es u w:=by
 have c:(List.replicate n ([]:LF)).getD u []=[]:=by
  simp only[OO,gG];split<;>rfl
 rw[Oc,qb n es _ YX e,c];simp only[RF,false_or,xA];constructor
 .rintro ⟨⟨a, b⟩, d, ⟨f, h2⟩ | ⟨f, h2⟩⟩
  .have := e _ d; simp only at this f h2
   left;have:a=(u:Int):=QT;rw[<-this,h2];exact d
  .have := e _ d; simp only at this f h2
   right;have:b=(u:Int):=QT;rw[<-this,h2];exact d
 .rintro (h | h)
  .exact⟨_,h,.inl ⟨YX,rfl⟩⟩
  .exact⟨_,h,.inr ⟨YX,rfl⟩⟩
def iz (b:I7 n es) {x:Int} (c:x∈(Oc n es).getD u []):∃w:Nat,x=(w:Int)/\w<n:=by
 have a:(List.replicate n ([]:LF)).getD u []=[]:=by
  simp only[OO,gG];split<;>rfl
 rw[Oc,qb n es _ YX b,a]at c;simp only[RF,false_or]at c;obtain⟨p,d,⟨_,rfl⟩|⟨_,rfl⟩⟩:=c
 .have:=b _ d;exact⟨p.2.toNat,QT,QT⟩
 .have:=b _ d;exact⟨p.1.toNat,QT,QT⟩
inductive Cn (on:Nat->Bool) (es:List Pr):Nat->Nat->Prop
 |refl {u:Nat}:on u=false->Cn on es u u
 |step {u w x:Nat}:Cn on es u w->xA es w x->on x=false->Cn on es u x
def Cn.gK (h:Cn on es u w):on w=false:=by
 cases h with
 |refl h=>exact h
 |step _ _ h=>exact h
def Cn.trans (h:Cn on es u w) (k:Cn on es w x):Cn on es u x:=by
 induction k with
 |refl _=>exact h
 |step _ a o b=>exact b.step a o
def Cn.symm {on:Nat->Bool} {es:List Pr} {u w:Nat} (h:Cn on es u w):Cn on es w u:=by
 induction h with
 |refl h=>exact .refl h
 |step h a o b=>exact((Cn.refl o).step a.symm h.gK).trans b
structure TO (n:Nat) (on:Nat->Bool) (es:List Pr) (v:Nat) (L:LF):Prop where
 len:L.length=n
 val:∀(u:Nat) l,L[u]?=some l->l=-1\/on u=false/\∃k:Nat,k<v/\l=(k:Int)/\Cn on es k u
 cW:∀(u w:Nat) l,L[u]?=some l->0<=l->xA es u w->on w=false->L[w]?=some l
 low:∀u,u<v->u<n->on u=false->L[u]?≠some (-1)
structure TI (n:Nat) (on:Nat->Bool) (es:List Pr) (v:Nat) (L:LF) (met:wi) (cl:Nat->Nat->Prop):Prop where
 len:L.length=n
 val:∀(u:Nat) l,L[u]?=some l->l=-1\/on u=false/\∃k:Nat,k<=v/\l=(k:Int)/\Cn on es k u
 cW:∀(u w:Nat) l,L[u]?=some l->0<=l->l<(v:Int)->xA es u w->on w=false->L[w]?=some l
 low:∀u,u<=v->u<n->on u=false->L[u]?≠some (-1)
 mm:∀u,u∈met↔L[u]?=some (v:Int)
 nd:met.Nodup
 cl:∀u w,cl u w->L[w]?=some (v:Int)
def TO.start (n:Nat) (on:Nat->Bool) (es:List Pr):TO n on es 0 (List.replicate n (-1)):=
 ⟨YX,fun u l h=>.inl (Ho (Jb h)),fun u w l h a=>by have:=Ho (Jb h);omega,fun u h=>by omega⟩
def TO.skip (t:TO n on es v L) (h:on v=true\/L[v]?≠some (-1)):TO n on es (v+1) L:=
 ⟨t.len,fun u l b=>(t.val u l b).imp id fun⟨c,k,h2,h3⟩=>⟨c,k,QT,h3⟩,t.cW,fun u f d a=>by
  by_cases e:u=v
  .subst e; rcases h with h | h
   .rw[h]at a;cases a
   .exact h
  .exact t.low u QT d a⟩
def TO.begin (t:TO n on es v L) (p:v<n) (i:on v=false) (q:L[v]?=some (-1)) (cl:Nat->Nat->Prop) (d:∀u w,¬cl u w):TI n on es v (L.set v (v:Int)) [v] cl:=by
 have f:v<L.length:=by rw[t.len];exact p
 have b:∀u,u≠v->(L.set v (v:Int))[u]?=L[u]?:=fun u j=>by rw[v8];rw[if_neg (Hn j)]
 have heq:(L.set v (v:Int))[v]?=some (v:Int):=by rw[v8];simp[f]
 refine⟨by simp[t.len],fun u l a=>?_,fun u w l a r m ha hw=>?_,fun u j s g=>?_,fun u=>?_,YX,fun u w h=>absurd h (d u w)⟩
 .by_cases e : u = v
  .subst e;rw[heq]at a;injection a with a;exact .inr ⟨i,u,J4 _,a.symm,.refl i⟩
  .rw[b u e]at a;exact(t.val u l a).imp id fun⟨m,k,h2,h3⟩=>⟨m,k,QT,h3⟩
 .by_cases e : u = v
  .subst e;rw[heq]at a;injection a with a;omega
  .rw [b u e] at a
   have c:=t.cW u w l a r ha hw;by_cases o:w=v
   .subst o;rw[q]at c;injection c with c;omega
   .rw[b w o];exact c
 .by_cases e : u = v
  .subst e;rw[heq];intro h;injection h with h;omega
  .rw[b u e];exact t.low u QT s g
 .simp only [Rb]
  constructor
  .rintro rfl;exact heq
  .intro h
   by_cases e:u=v
   .exact e
   .rw [b u e] at h
    rcases t.val u _ h with h'|⟨_,k,h2,h3,_⟩<;>omega
def TI.mono (t:TI n on es v L met cl) (h:∀u w,cl' u w->cl u w):TI n on es v L met cl':=
 ⟨t.len,t.val,t.cW,t.low,t.mm,t.nd,fun u w k=>t.cl u w (h u w k)⟩
def TI.off (t:TI n on es v L met cl) (a:u∈met):on u=false/\Cn on es v u:=by
 rcases t.val u _ ((t.mm u).1 a)with h|⟨h,k,_,h2,h3⟩
 .omega
 .obtain rfl : v = k := QT
  exact⟨h,h3⟩
def TI.stay (t:TI n on es v L met cl) (g:u∈met) (ha:xA es u w) (c:∃l,L[w]?=some l/\l≠-1) (h:∀a b,cl' a b->cl a b\/b=w):TI n on es v L met cl':=by
 refine⟨t.len,t.val,t.cW,t.low,t.mm,t.nd,fun a b k=>?_⟩;rcases h a b k with h|rfl
 .exact t.cl a b h
 .obtain ⟨l, d, f⟩ := c
  rcases t.val _ _ d with h'|⟨i,k,j,rfl,_⟩
  .exact absurd h' f
  .by_cases e : k = v
   .subst e;exact d
   .have := t.cW b u (k : Int) d QT QT ha.symm (t.off g).1
    rw[(t.mm u).1 g]at this;injection this with this;omega
def TI.push (t:TI n on es v L met cl) (z:u∈met) (ha:xA es u w) (g:on w=false) (f:L[w]?=some (-1)) (h:∀a b,cl' a b->cl a b\/b=w):
  TI n on es v (L.set w (v:Int)) (met++[w]) cl':=by
 have j:w<L.length:=(bH.1 f).1;have c:∀x,x≠w->(L.set w (v:Int))[x]?=L[x]?:=fun x m=>by rw[v8];rw[if_neg (Hn m)]
 have heq:(L.set w (v:Int))[w]?=some (v:Int):=by rw[v8];simp[j]
 have o:w∉met:=fun h=>by have:=(t.mm w).1 h;rw[f]at this;injection this with this;omega
 refine⟨by simp[t.len],fun x l d=>?_,fun x y l d A B p C=>?_,fun x m D q=>?_,fun x=>?_,?_,fun a b k=>?_⟩
 .by_cases e : x = w
  .subst e;rw[heq]at d;injection d with d;exact .inr ⟨g,v,J4 _,d.symm,(t.off z).2.step ha g⟩
  .rw[c x e]at d;exact t.val x l d
 .by_cases e : x = w
  .subst e;rw[heq]at d;injection d with d;omega
  .rw [c x e] at d
   have i:=t.cW x y l d A B p C;by_cases s:y=w
   .subst s;rw[f]at i;injection i with i;omega
   .rw[c y s];exact i
 .by_cases e : x = w
  .subst e;rw[heq];intro h;injection h with h;omega
  .rw[c x e];exact t.low x m D q
 .simp only [uK, Rb]
  by_cases e:x=w
  .subst e;simp[heq]
  .rw[c x e,<-t.mm x];simp[e]
 .rw[KM];exact⟨t.nd,YX,fun a r b hb=>fun e=>o (by rw[Rb]at hb;rw[<-hb,<-e];exact r)⟩
 .rcases h a b k with h | rfl
  .have := t.cl a b h
   by_cases e:b=w
   .subst e;exact heq
   .rw[c b e];exact this
  .exact heq
def TI.finish (t:TI n on es v L met cl) (h:∀u w,u∈met->xA es u w->on w=false->cl u w):TO n on es (v+1) L:=by
 refine⟨t.len,fun u l a=>(t.val u l a).imp id fun⟨c,k,h2,h3⟩=>⟨c,k,QT,h3⟩,fun u w l a d ha hw=>?_,fun u g f b=>?_⟩
 .rcases t.val u l a with h' | ⟨c, k, h2, rfl, _⟩
  .omega
  .by_cases e : k = v
   .subst e;exact t.cl u w (h u w ((t.mm u).2 a) ha hw)
   .exact t.cW u w _ a d QT ha hw
 .exact t.low u QT f b
def TI.Eg (t:TI n on es v L met cl):met.length<=n:=by
 have hs:met⊆List.range n:=fun u a=>by
  have:=(bH.1 ((t.mm u).1 a)).1;rw[vq,<-t.len];exact this
 have:=t.nd.length_le_of_subset hs;simpa using this
structure Sr (n:Nat) (on:Nat->Bool) (es:List Pr) (L:LF):Prop where
 len:L.length=n
 off:∀u,u<n->on u=false->∃k:Nat,k<n/\L[u]?=some (k:Int)/\Cn on es k u
 same:∀u w,u<n->w<n->on u=false->on w=false->(L[u]?=L[w]?↔Cn on es u w)
def TO.done (i:I7 n es) (t:TO n on es n L):Sr n on es L:=by
 have off:∀u,u<n->on u=false->∃k:Nat,k<n/\L[u]?=some (k:Int)/\Cn on es k u:=fun u d j=>by
  have f:=XR (show u<L.length by rw[t.len];exact d);rcases t.val u _ f with h|⟨_,k,b,h2,h3⟩
  .exact absurd (by rw[f,h]) (t.low u d d j)
  .exact⟨k,b,by rw[f,h2],h3⟩
 refine⟨t.len,off,fun u w d hw l g=>⟨fun e=>?_,fun c=>?_⟩⟩
 .obtain ⟨k, _, b, h2⟩ := off u d l
  obtain⟨m,_,h3,p⟩:=off w hw g;rw[b,h3]at e;injection e with e;obtain rfl:k=m:=QT;exact h2.symm.trans p
 .clear hw g
  induction c with
  |refl _=>rfl
  |step c a o q=>
   have r:=(a.lt i).1;obtain⟨k,_,b,_⟩:=off _ r c.gK;rw[q,b];exact(t.cW _ _ _ b QT a o).symm
end
section
attribute [local irreducible] Ax YH XZ Uk KO KN KX KE VK DK Q7 dK W9
open Go.Proofs
variable {h:AHeap} {i:Nat} {l:wi} {ps:List Pr} {v:Value} {xs:LF}
def GI (h:AHeap) (v:Value) (xs:LF):Prop:=GS 1 h v xs.length (oY xs)
def GI.le {h h':AHeap} {v:Value} {xs:LF} (g:GI h v xs) (e:Le h h'):GI h' v xs:=GS.le g e
def GI.rl (g:GI h v xs):RL IJ h v xs:=RL.Kr (GS.cs g).rs
def GI.nil (h:AHeap):GI h (.slice none 0 0) []:=GS.nil 1 h
def GI.push {h:AHeap} {v:Value} {xs:LF} (g:GI h v xs) (d:WF h) (x:Int) (p:xs.length<=100000):
  ∃v' c a,aBuildSlice Tryz.prog h 49 1 [(0,.int .i64 x)]=some (.slice (some ⟨h.next,0,none⟩) 1 1,c)/\aAppend Tryz.prog c 49 49 v (.slice (some ⟨h.next,0,none⟩) 1 1)=some (v',a)/\GI a v' (xs++[x])/\WF a/\Le h c/\
   (∀f,Le f h->tQ f v->Le f a/\tQ f v')/\(∀b o,h.own b=some o->blk v≠some b->a.own b=some o/\blk v'≠some b):=by
 obtain⟨c,j,l4,e,k⟩:=mV d [.int .i64 x];obtain⟨v',a,i,l,hf⟩:=(GS.le g l4).push (P:=Tryz.prog) (t:=49) zd k (ko _) rfl QT;refine⟨v',c,a,by rw[Vb,j],i,?_,YK e i,l4,fun f m af=>hf f e (m.trans l4) af,fun b o n hb=>Na hf e (l4.own _ _ n) hb⟩;have:oY xs++[.int .i64 x]=oY (xs++[x]):=by simp[oY]
 rw[GI,<-this,Vw];exact l
def GP (h:AHeap) (v:Value) (ps:List Pr):Prop:=GS 2 h v ps.length (Mf ps)
def GP.le {h h':AHeap} {v:Value} {ps:List Pr} (g:GP h v ps) (e:Le h h'):GP h' v ps:=GS.le g e
def GP.pr (g:GP h v ps):PR h v ps:=GS.cs g
def GP.nil (h:AHeap):GP h (.slice none 0 0) []:=GS.nil 2 h
def GP.join {v x:Value} {ps d:List Pr} (g:GP h v ps) (a:WF h) (j:PR h x d) (q:ps.length+d.length<=1000000000):
  ∃v' c,aAppend Tryz.prog h 22 22 v x=some (v',c)/\GP c v' (ps++d)/\WF c/\
   (∀f,Le f h->tQ f v->Le f c/\tQ f v')/\(∀b o,h.own b=some o->blk v≠some b->c.own b=some o/\blk v'≠some b):=by
 obtain⟨v',c,i,l,hf⟩:=GS.append (P:=Tryz.prog) (t:=22) (xt:=22) (k:=2) zd g (fun e m=>CS.src m j) (j9 _) (j9 _) (Dg _) QT;refine⟨v',c,i,?_,YK a i,fun f n af=>hf f a n af,fun b o p hb=>Na hf a p hb⟩;rw[GP,Vw,AJ];exact l
def mkP1 (h:AHeap) (p:Pr):aBuildSlice Tryz.prog h 22 1 [(0,Ov p)]=some (.slice (some ⟨h.next,0,none⟩) 1 1,h.alloc (.cells (Zh p))):=rfl
def GP.push (g:GP h v ps) (d:WF h) (p:Pr) (w:ps.length+1<=100000):
  ∃v' c a,aBuildSlice Tryz.prog h 22 1 [(0,Ov p)]=some (.slice (some ⟨h.next,0,none⟩) 1 1,c)/\aAppend Tryz.prog c 22 22 v (.slice (some ⟨h.next,0,none⟩) 1 1)=some (v',a)/\GP a v' (ps++[p])/\WF a/\Le h c/\
   (∀f,Le f h->tQ f v->Le f a/\tQ f v')/\(∀b o,h.own b=some o->blk v≠some b->a.own b=some o/\blk v'≠some b):=by
 obtain⟨c,e,l4,i,j⟩:=mV d (Zh p)
 have l:PR c (.slice (some ⟨h.next,0,none⟩) 1 1) [p]:=by
  have:=CS.own (k:=2) (off:=0) (n:=1) (cap:=1) j (by simp[Zh]);exact this
 obtain⟨v',a,m,q,r,hf,s⟩:=(g.le l4).join i l (by simp;omega);exact⟨v',c,a,by rw[mkP1,e],m,q,r,l4,fun f t af=>hf f (t.trans l4) af,fun b o u hb=>s b o (l4.own _ _ u) hb⟩
def Ko (L:LF) (i:Nat) (x:Int):(oY L).set i (.int .i64 x)=oY (L.set i x):=by simp[oY]
def aW (l:wi):LF:=l.map fun(x:Nat)=>(x:Int)
def tG (l:wi):(aW l).length=l.length:=by simp[aW]
def uD (hi:i<l.length):(aW l)[i]'(by rw[tG];exact hi)=((l[i]:Nat):Int):=by simp[aW]
def xI (W0:Ac) (v p:Value) (n:Nat) (es:List Pr) (bs:List Bool) (h:AHeap) (hg:GR h v ⟨(n:Int),es⟩) (hr:xO ⟨(n:Int),es⟩) (hb:RL Po h p bs) (cg:bs.length=n):
  AC Tryz.prog W0 135 [v,p] h fun x h'=>∃L,RL IJ h' x L/\Sr n (fun u=>bs.getD u false) es L/\Le h h':=by
 have bI:=hg
 obtain⟨ev,rfl,hp⟩:=hg.open
 have cd:(n:Int)<=200:=hr.n1;have hR:=hr.si;refine AC.vE ⟨Tryz.func135,rfl,xr⟩ Tryz.ntmps135 Tryz.results135 fun bQ=>?_;simp only[xq,Nat.reduceAdd];obtain⟨h1,b1,al,ck,-,lA⟩:=WY (n:=(n:Int)) bQ hp
 generalize h.next=B at*
 have bV:=lA h1 (Le.refl _);simp only[Ud,Nat.reduceLT,↓reduceIte,Nat.reduceEqDiff,b1,bV.1];refine dK.intro pK ⟨pw,rfl,xr⟩ (sJ W0 _ n es h1 (bI.le al) hr) ?_;rintro D hB bW ⟨J,K⟩;have cm:=lA hB K;obtain⟨h2,e2,W,bX,o2⟩:=mV bW [.int .i64 (-1)];have bY:=lA h2 (K.trans W);simp only[Ud,Nat.reduceLT,↓reduceIte,Nat.reduceEqDiff,Vb,e2,Cq,Co,Qs,bY.2.1];refine dK.intro pK ⟨lH,rfl,xr⟩ (SV W0 _ n QT h2 (RL.Kr (RS.whole o2 rfl))) ?_;rintro x h3 cr ⟨T,rfl,hT,o3,aM⟩;have zH:=lA h3 ((K.trans W).trans aM);have aQ:=W.trans aM
 have nT:hB.own T=none:=W.next bX hT
 have b0:h3.own T=some (.cells (oY (List.replicate n (-1)))):=by rw[o3];simp[oY]
 simp only[Ud,Nat.reduceLT,↓reduceIte,Nat.reduceEqDiff,Cq,Co,Qs,zH.2.1];let on:Nat->Bool:=fun u=>bs.getD u false;have b2:=hb.le Rr.Po (al.trans K);have aT:∀g,Le hB g->∀u,u<n->aload Tryz.prog g 4 (elemAddr p u)=some (.bool (on u)):=fun g lg u hu=>by
  rw[(b2.le Rr.Po lg).Qh u QT];simp only[on];rw[YR QT]
 have E:∀(k:IntKind) (u:Nat),u<n->aIndexAddr Tryz.prog 59 p (.int k u)=some (.pointer (some (elemAddr p u))):=fun k u hu=>hb.U6 u QT;have X:∀(k:IntKind) (j:Nat),j<n->aIndexAddr Tryz.prog 49 (.slice (some ⟨T,0,none⟩) n n) (.int k j)=some (.pointer (some ⟨T,j,none⟩)):=fun k j Y=>by rw[vj Rm Ik zd j Y];simp[Co]
 have aX:∀(g:AHeap) (L:LF) (j:Nat) (l:Int),g.own T=some (.cells (oY L))->L[j]?=some l->aload Tryz.prog g 3 ⟨T,j,none⟩=some (.int .i64 l):=fun g L j l ho hl=>by
  rw[wT Ik rfl ho];simp[oY,hl]
 refine W9.intro (fun k fr hh=>∃(v:Nat) (L:LF),k=n-v/\v<=n/\fr=mkF [(1,p),(5,D),(6,.slice (some ⟨T,0,none⟩) n n),(19,.int .i64 n),(20,.int .i64 v)]/\hh.own T=some (.cells (oY L))/\Le hB hh/\TO n on es v L)
  n [(1,p),(5,D),(6,.slice (some ⟨T,0,none⟩) n n),(19,.int .i64 n),(20,.int .i64 (0:Nat))] vy ⟨0,_,rfl,KW _,rfl,b0,aQ,TO.start n on es⟩ ?_
 rintro k fr hh aq ⟨v,L,rfl,hv,rfl,oT,F,V⟩;refine yq ?_;refine DK.intro (fun ht=>?_) (fun hf=>?_)
 rotate_left
 .have ar : n <= v := Yv hf
  obtain rfl:v=n:=QT;refine yq ?_;exact⟨L,RL.Kr (RS.whole oT (by simpa using V.len)),V.done hR,(al.trans K).trans F⟩
 have c:v<n:=Ub ht;clear ht;have G:=XR (show v<L.length by rw[V.len];exact c);generalize L[v]'(by rw[V.len];exact c)=lv at G
 have H:=aT hh F v c;have av:=aX hh L v lv oT G;by_cases c1:on v=true
 .rw [c1] at H
  simp only[Ud,Nat.reduceLT,↓reduceIte,Nat.reduceEqDiff,E _ v c,H,Gm v QT];exact cX (n-(v+1)) [(1,p),(5,D),(6,.slice (some ⟨T,0,none⟩) n n),(19,.int .i64 n),(20,.int .i64 (v+1:Nat))] QT vy ⟨v+1,L,rfl,c,rfl,oT,F,V.skip (.inl c1)⟩
 rw[pO]at c1;rw[c1]at H;by_cases c2:lv>=0
 .simp only [Ud, Nat.reduceLT, ↓reduceIte, Nat.reduceEqDiff, E _ v c, H, X _ v c, av, c2, Gm v QT]
  exact cX (n-(v+1)) [(1,p),(5,D),(6,.slice (some ⟨T,0,none⟩) n n),(19,.int .i64 n),(20,.int .i64 (v+1:Nat))] QT vy ⟨v+1,L,rfl,c,rfl,oT,F,V.skip (.inr (by rw[G];intro e;injection e with e;omega))⟩
 have ak:L[v]?=some (-1):=by
  rcases V.val v lv G with rfl|⟨_,k,_,rfl,_⟩
  .exact G
  .omega
 have st1:aStore Tryz.prog hh 3 (.pointer (some ⟨T,v,none⟩)) (.int .i64 (v:Int))=some (hh.put T (.cells (oY (L.set v (v:Int))))):=by
  rw[Qr (P:=Tryz.prog) (t:=3) (x:=.int .i64 (v:Int)) Ik zd oT (off:=v) (by rw[CW,V.len];exact c) rfl rfl,Ko]
 have I:WF (hh.put T (.cells (oY (L.set v (v:Int))))):=aq.put _ (aq.lt oT);have M:Le hB (hh.put T (.cells (oY (L.set v (v:Int))))):=F.put _ nT;have N:(hh.put T (.cells (oY (L.set v (v:Int))))).own T=some (.cells (oY (L.set v (v:Int)))):=AHeap.zm _ _ _;simp only[Ud,Nat.reduceLT,↓reduceIte,Nat.reduceEqDiff,E _ v c,H,X _ v c,av,c2,st1];generalize hh.put T (.cells (oY (L.set v (v:Int))))=h4 at*;obtain⟨h5,e5,ay,b3,o5⟩:=mV I [.int .i64 (v:Int)]
 have nM:hB.own h4.next=none:=M.next I (J4 _)
 have aY:T≠h4.next:=fun e=>by have:=I.lt N;omega
 simp only[Ud,Nat.reduceLT,↓reduceIte,Vb,e5];have a1:=V.begin c c1 ak (fun a w=>(∃j,j<0/\[v][j]?=some a)/\xA es a w/\on w=false) (fun a w h=>by obtain⟨⟨j,h,_⟩,_⟩:=h;omega)
 have gM:GI h5 (.slice (some ⟨h4.next,0,none⟩) 1 1) (aW [v]):=GS.full o5 rfl (show 1<1000000000000 by decide)
 refine W9.intro (fun k fr m=>∃(i:Nat) (L:LF) (f:Value) (met:wi),k=n-i/\i<=met.length/\fr=mkF [(1,p),(5,D),(6,.slice (some ⟨T,0,none⟩) n n),(7,.int .i64 v),(8,f),(9,.int .i64 i),(19,.int .i64 n),(20,.int .i64 v)]/\
   m.own T=some (.cells (oY L))/\Le hB m/\GI m f (aW met)/\blk f≠some T/\tQ hB f/\TI n on es v L met (fun a w=>(∃j,j<i/\met[j]?=some a)/\xA es a w/\on w=false))
  n [(1,p),(5,D),(6,.slice (some ⟨T,0,none⟩) n n),(7,.int .i64 v),(8,.slice (some ⟨h4.next,0,none⟩) 1 1),(9,.int .i64 (0:Nat)),(19,.int .i64 n),(20,.int .i64 v)] vy
  ⟨0,_,_,[v],rfl,KW _,rfl,ay.own _ _ N,M.trans ay,gM,by simp[blk,Hn aY],fun b hb=>by simp[blk]at hb;subst hb;exact nM,a1⟩ ?_
 clear a1 gM aY nM o5 b3 ay e5 h5 N M I st1 H av G ak c2 oT F V aq;clear h4 hh L;rintro k fr m Z ⟨i,L,f,met,rfl,hi,rfl,oT,leq,gm,nm,am,s⟩;have lm:=fun g=>gm.rl.zw g;have a7:=s.Eg;rw[tG]at lm;simp only[Ud,Nat.reduceLT,↓reduceIte,Nat.reduceEqDiff,lm];refine DK.intro (fun ht=>?_) (fun hf=>?_)
 rotate_left
 .have ar : met.length <= i := Yv hf
  simp only[Ud,Nat.reduceLT,↓reduceIte,Nat.reduceEqDiff,Gm v QT];refine cX (n-(v+1)) [(1,p),(5,D),(6,.slice (some ⟨T,0,none⟩) n n),(19,.int .i64 n),(20,.int .i64 (v+1:Nat))] QT vy ⟨v+1,L,rfl,c,rfl,oT,leq,s.finish fun a w ha y ad=>⟨?_,y,ad⟩⟩;obtain⟨j,Y⟩:=OH.1 ha;exact⟨j,by have:=(bH.1 Y).1;omega,Y⟩
 have r:i<met.length:=Ub ht;clear ht;have d:=XR r;have a8:=uD r;have bb:=gm.rl.qW i (by rw[tG];exact r);have ag:=gm.rl.HN i (by rw[tG];exact r);rw[a8]at ag;generalize met[i]=u at d ag;clear a8;have O:u∈met:=Jb d;have b4:u<n:=by have:=(bH.1 ((s.mm u).1 O)).1;rw[s.len]at this;exact this
 have Q:u<(Oc n es).length:=by rw[XM];exact b4
 have b5:=J.Jl u Q;obtain⟨uv,b6,C⟩:=J.To u Q;have ah:(Oc n es).getD u []=(Oc n es)[u]:=YR Q;generalize (Oc n es)[u]=row at C ah;have lr:=fun g=>C.zw g;have cx:row.length<=2000:=by
  have:=OI n es row (by rw[<-ah,YR Q];exact om Q);have:es.length<=594:=hr.len;omega
 simp only[Ud,Nat.reduceLT,↓reduceIte,Nat.reduceEqDiff,bb,ag,b5,b6 m leq,lr];have bj:TI n on es v L met (fun a w=>((∃j,j<i/\met[j]?=some a)/\xA es a w/\on w=false)\/(a=u/\(w:Int)∈row.take 0/\on w=false)):=s.mono fun a w h=>by
  rcases h with h|⟨_,h,_⟩
  .exact h
  .simp at h
 refine W9.intro (fun k fr m=>∃(q:Nat) (L:LF) (f:Value) (met:wi),k=row.length-q/\q<=row.length/\fr=mkF [(1,p),(5,D),(6,.slice (some ⟨T,0,none⟩) n n),(7,.int .i64 v),(8,f),(9,.int .i64 i),(19,.int .i64 n),(20,.int .i64 v),(52,uv),(53,.int .i64 row.length),(54,.int .i64 q)]/\
   m.own T=some (.cells (oY L))/\Le hB m/\GI m f (aW met)/\blk f≠some T/\tQ hB f/\met[i]?=some u/\TI n on es v L met (fun a w=>((∃j,j<i/\met[j]?=some a)/\xA es a w/\on w=false)\/(a=u/\(w:Int)∈row.take q/\on w=false)))
  row.length [(1,p),(5,D),(6,.slice (some ⟨T,0,none⟩) n n),(7,.int .i64 v),(8,f),(9,.int .i64 i),(19,.int .i64 n),(20,.int .i64 v),(52,uv),(53,.int .i64 row.length),(54,.int .i64 (0:Nat))] vy
  ⟨0,L,f,met,rfl,KW _,rfl,oT,leq,gm,nm,am,d,bj⟩ ?_
 clear bj bb ag lm;clear O d r a7 s am nm gm leq oT Z hi;clear m L f met;rintro k fr m Z ⟨q,L,f,met,rfl,cE,rfl,oT,leq,gm,nm,am,d,s⟩;have O:u∈met:=Jb d;have a7:=s.Eg;have r:=(bH.1 d).1;refine yq ?_;refine DK.intro (fun ht=>?_) (fun hf=>?_)
 rotate_left
 .have ar : row.length <= q := Yv hf
  simp only[Ud,Nat.reduceLT,↓reduceIte,Nat.reduceEqDiff,Gm i QT];refine cX (n-(i+1)) [(1,p),(5,D),(6,.slice (some ⟨T,0,none⟩) n n),(7,.int .i64 v),(8,f),(9,.int .i64 (i+1:Nat)),(19,.int .i64 n),(20,.int .i64 v)] QT vy ⟨i+1,L,f,met,rfl,r,rfl,oT,leq,gm,nm,am,s.mono fun a w h=>?_⟩;obtain⟨⟨j,Y,z⟩,y,ad⟩:=h;by_cases e:j=i
  .subst e
   rw[d]at z;injection z with z;subst z;exact .inr ⟨rfl,by rw[xV ar,<-ah];exact(M8 hR u w).2 y,ad⟩
  .exact .inl ⟨⟨j,QT,z⟩,y,ad⟩
 have A:q<row.length:=Ub ht;clear ht;have aB:=C.qW q A;have aj:=(C.le Rr.IJ leq).HN q A;have aE:row.take (q+1)=row.take q++[row[q]]:=QM A;have aK:row[q]∈(Oc n es).getD u []:=by rw[ah];exact om A
 generalize row[q]=x at aj aE aK;obtain⟨w,rfl,o⟩:=iz hR aK;have y:=(M8 hR u w).1 aK;have R:=XR (show w<L.length by rw[s.len];exact o);generalize L[w]'(by rw[s.len];exact o)=lw at R
 have S:=aT m leq w o;have bm:=aX m L w lw oT R;by_cases c3:on w=true
 .rw [c3] at S
  simp only[Ud,Nat.reduceLT,↓reduceIte,Nat.reduceEqDiff,aB,aj,E _ w o,S,Gm q QT];refine cX (row.length-(q+1)) [(1,p),(5,D),(6,.slice (some ⟨T,0,none⟩) n n),(7,.int .i64 v),(8,f),(9,.int .i64 i),(19,.int .i64 n),(20,.int .i64 v),(52,uv),(53,.int .i64 row.length),(54,.int .i64 (q+1:Nat))] QT vy
   ⟨q+1,L,f,met,rfl,A,rfl,oT,leq,gm,nm,am,d,s.mono fun a b h=>?_⟩
  rcases h with h|⟨h1,h2,h3⟩
  .exact .inl h
  .rw [aE, uK, Rb] at h2
   rcases h2 with h2|h2
   .exact .inr ⟨h1,h2,h3⟩
   .obtain rfl : b = w := QT
    rw[c3]at h3;cases h3
 rw[pO]at c3;rw[c3]at S;have bo:∀(U:wi),(∀j,j<met.length->U[j]?=met[j]?)->∀a b,((∃j,j<i/\U[j]?=some a)/\xA es a b/\on b=false)\/(a=u/\(b:Int)∈row.take (q+1)/\on b=false)->
   (((∃j,j<i/\met[j]?=some a)/\xA es a b/\on b=false)\/(a=u/\(b:Int)∈row.take q/\on b=false))\/b=w:=fun U hm a b h=>by
  rcases h with⟨⟨j,Y,z⟩,h2⟩|⟨h1,h2,h3⟩
  .exact .inl (.inl ⟨⟨j,Y,by rw[<-hm j QT];exact z⟩,h2⟩)
  .rw [aE, uK, Rb] at h2
   rcases h2 with h2|h2
   .exact .inl (.inr ⟨h1,h2,h3⟩)
   .exact .inr QT
 by_cases c4:lw<0
 rotate_left
 .simp only [Ud, Nat.reduceLT, ↓reduceIte, Nat.reduceEqDiff, aB, aj, E _ w o, S, X _ w o, bm, c4, Gm q QT]
  exact cX (row.length-(q+1)) [(1,p),(5,D),(6,.slice (some ⟨T,0,none⟩) n n),(7,.int .i64 v),(8,f),(9,.int .i64 i),(19,.int .i64 n),(20,.int .i64 v),(52,uv),(53,.int .i64 row.length),(54,.int .i64 (q+1:Nat))] QT vy
   ⟨q+1,L,f,met,rfl,A,rfl,oT,leq,gm,nm,am,d,s.stay O y ⟨lw,R,QT⟩ (bo met fun _ _=>rfl)⟩
 have br:L[w]?=some (-1):=by
  rcases s.val w lw R with rfl|⟨_,k,_,rfl,_⟩
  .exact R
  .omega
 have st1:aStore Tryz.prog m 3 (.pointer (some ⟨T,w,none⟩)) (.int .i64 (v:Int))=some (m.put T (.cells (oY (L.set w (v:Int))))):=by
  rw[Qr (P:=Tryz.prog) (t:=3) (x:=.int .i64 (v:Int)) Ik zd oT (off:=w) (by rw[CW,s.len];exact o) rfl rfl,Ko]
 have I:WF (m.put T (.cells (oY (L.set w (v:Int))))):=Z.put _ (Z.lt oT);have M:Le hB (m.put T (.cells (oY (L.set w (v:Int))))):=leq.put _ nT;have N:(m.put T (.cells (oY (L.set w (v:Int))))).own T=some (.cells (oY (L.set w (v:Int)))):=AHeap.zm _ _ _;have b8:GI (m.put T (.cells (oY (L.set w (v:Int))))) f (aW met):=GS.put gm _ nm;simp only[Ud,Nat.reduceLT,↓reduceIte,Nat.reduceEqDiff,aB,aj,E _ w o,S,X _ w o,bm,c4,st1];generalize m.put T (.cells (oY (L.set w (v:Int))))=h4 at*;obtain⟨bx,h5,h6,e5,e6,g6,w6,l5,hf,hk⟩:=b8.push I (w:Int) (by rw[tG];omega);obtain⟨l6,a6⟩:=hf hB M am;obtain⟨b9,cc⟩:=hk T _ N nm;have bF:aW met++[(w:Int)]=aW (met++[w]):=by simp[aW]
 rw[bF]at g6;simp only[Ud,Nat.reduceLT,↓reduceIte,Nat.reduceEqDiff,e5,e6,Gm q QT];exact cX (row.length-(q+1)) [(1,p),(5,D),(6,.slice (some ⟨T,0,none⟩) n n),(7,.int .i64 v),(8,bx),(9,.int .i64 i),(19,.int .i64 n),(20,.int .i64 v),(52,uv),(53,.int .i64 row.length),(54,.int .i64 (q+1:Nat))] QT vy
  ⟨q+1,_,bx,met++[w],rfl,A,rfl,b9,l6,g6,cc,a6,by rw[US r];exact d,s.push O y c3 br (bo _ fun j Y=>US Y)⟩
end
variable {es:List Pr} {i j n s t v w:Nat} {met:List Bool} {o opn Jd:wi} {up:LF}
def BD.lt (a:BD es) {p q:Pr} (b:i<j) (hi:es[i]?=some p) (c:es[j]?=some q):p.1<q.1\/p.1=q.1/\p.2<q.2:=(gJ p q).1 (a i j p q b hi c)
def F9:∀(k:Nat) (es:List Pr),es.length=k->I7 n es->BD es->∀u,((Oc n es).getD u []).Pairwise (·<·):=by
 intro k
 induction k with
 |zero=>
  intro es c _ _ u;obtain rfl:=b7 c;have g:(Oc n []).getD u []=[]:=by
   simp only[Oc,List.foldl_nil,OO,gG];split<;>rfl
  rw[g];exact .nil
 |succ k l=>
  intro m c B ha u;obtain⟨es,p,rfl⟩:∃es p,m=es++[p]:=by
   rcases iS m with rfl|⟨es,p,h⟩
   .simp at c
   .exact⟨es,p,by simpa using h⟩
  have d:I7 n es:=fun q v=>B q (by simp[v]);have WA:BD es:=fun i j a b z hi C=>ha i j a b z (by rw[US (bH.1 hi).1];exact hi) (by rw[US (bH.1 C).1];exact C);have l:=l es (by simpa using c) d WA;have G:=B p YX;have low:∀u:Nat,∀x∈(Oc n es).getD u [],((u:Int)=p.1->x<p.2)/\((u:Int)=p.2->x<p.1):=by
   intro u x f;obtain⟨w,rfl,_⟩:=iz d f;have o:=(M8 d u w).1 f;have key:∀q∈es,q.1<p.1\/q.1=p.1/\q.2<p.2:=by
    intro q v;obtain⟨i,hi⟩:=OH.1 v;have r:=(bH.1 hi).1;exact ha.lt (i:=i) (j:=es.length) r (by rw[US r];exact hi) YX
   rcases o with h|h<;>have A:=d _ h<;>have h2:=key _ h<;>simp only at A h2<;>constructor<;>intro e<;>omega
  have gd:∀(rows:CA) (x:Int) (i:Nat),(rows.set i (rows.getD i []++[x])).getD u []=if i=u/\i<rows.length then rows.getD u []++[x]else rows.getD u []:=by
   intro rows x i;rw[Ao];split
   .rename_i h;rw[h.1]
   .rfl
  rw[y7];have D:=XM n es;have A:p.1.toNat<n:=QT;have h2:p.2.toNat<n:=QT;simp only[Ke];rw[gd];simp only[qm,D];have E:=gd (Oc n es) p.2 p.1.toNat;rw[D]at E;rw[E];by_cases F:p.1.toNat=u
  .have t : ¬ p.2.toNat = u := QT
   rw[if_neg (by simp[t]),if_pos ⟨F,A⟩];rw[zu];refine⟨l u,YX,fun x f y s=>?_⟩;rw[Rb]at s;subst s;exact(low u x f).1 QT
  .rw [if_neg (show ¬ (p.1.toNat = u /\ p.1.toNat < n) by simp [F])]
   by_cases t:p.2.toNat=u
   .rw [if_pos ⟨t, h2⟩, zu]
    refine⟨l u,YX,fun x f y s=>?_⟩;rw[Rb]at s;subst s;exact(low u x f).2 QT
   .rw[if_neg (by simp[t])];exact l u
def vM (es:List Pr) (a:I7 n es) (ha:BD es) (u:Nat):((Oc n es).getD u []).Pairwise (·<·):=F9 es.length es rfl a ha u
def Full (es:List Pr) (o:wi) (x:Nat):Prop:=∀y,xA es x y->y∈o
inductive Zu (n:Nat) (es:List Pr) (from_:Nat):wi->LF->Prop
 |start:Zu n es from_ [from_] (List.replicate n (-1))
 |step {o:wi} {up:LF} {k v w:Nat}:Zu n es from_ o up->o[k]?=some v->xA es v w->w∉o->(∀y,xA es v y->y∉o->w<=y)->(∀(j x:Nat),k<j->o[j]?=some x->Full es o x)->Zu n es from_ (o++[w]) (up.set w (v:Int))
structure zn (n:Nat) (es:List Pr) (from_:Nat) (o:wi) (up:LF):Prop where
 E5:Zu n es from_ o up
 full:∀x∈o,Full es o x
def Zu.len (d:Zu n es s o up):1<=o.length/\up.length=n:=by
 induction d with
 |start=>simp
 |step _ _ _ _ _ _ a=>simp[a.2]
def Zu.same (d:Zu n es s o up):∀{e:wi} {b:LF},Zu n es s e b->o.length=e.length->o=e/\up=b:=by
 induction d with
 |start=>
  intro e b i c;cases i with
  |start=>exact⟨rfl,rfl⟩
  |step d1 _ _ _ _ _=>have:=d1.len.1;simp at c;rw[c]at this;simp at this
 |@step o up k v w d p ha hw q hf r=>
  intro e b i c;cases i with
  |start=>have:=d.len.1;simp at c;rw[c]at this;simp at this
  |@step x t k1 u w1 d1 a f g j l=>
   obtain⟨rfl,rfl⟩:=r d1 (by simpa using c);have m:k=k1:=by
    rcases zX k k1 with h|h|h
    .exact absurd (hf k1 u h a w1 f) g
    .exact h
    .exact absurd (l k v h p w ha) hw
   subst m;rw[p]at a;injection a with a;subst a;have:=q w1 f g;have:=j w ha hw;obtain rfl:w=w1:=QT;exact⟨rfl,rfl⟩
def Zu.peel (d:Zu n es s o up):∀m,1<=m->m<o.length->∃a b,Zu n es s a b/\a.length=m/\∃x∈a,¬Full es a x:=by
 induction d with
 |start=>intro m c h2;simp at h2;omega
 |@step o up k v w d e ha hw i hf g=>
  intro m c h2;by_cases h:m<o.length
  .exact g m c h
  .simp at h2
   exact⟨o,up,d,QT,v,Jb e,fun f=>hw (f w ha)⟩
def zn.uniq {o d:wi} {up c:LF} (a:zn n es s o up) (b:zn n es s d c):o=d/\up=c:=by
 have key:∀{o d:wi} {up c:LF},zn n es s o up->zn n es s d c->¬o.length<d.length:=by
  intro o d up c a b h;obtain⟨i,e,d2,f,x,g,hf⟩:=b.E5.peel o.length a.E5.len.1 h;obtain⟨rfl,rfl⟩:=a.E5.same d2 f.symm;exact hf (a.full x g)
 have j:=key a b;have h2:=key b a;exact a.E5.same b.E5 QT
structure DS (n:Nat) (es:List Pr) (s:Nat) (met:List Bool) (Jd:wi) (o opn:wi) (up:LF):Prop where
 E5:Zu n es s o up
 Sw:met.length=n
 mm:∀v,v<n->(met[v]?=some true↔v∈o)
 trl:Jd.length=n
 tr:∀v t,Jd[v]?=some t->t<=((Oc n es).getD v []).length/\∀x∈((Oc n es).getD v []).take t,x.toNat∈o
 sub:opn.Sublist o
 closed:∀v∈o,v∉opn->Full es o v
 lt:∀v∈o,v<n
 nodup:o.Nodup
def DS.start {n:Nat} {es:List Pr} {s:Nat} (hs:s<n):DS n es s ((List.replicate n false).set s true) (List.replicate n 0) [s] [s] (List.replicate n (-1)) where
 E5:=.start
 Sw:=by simp
 mm v b:=by
  rw[v8,Rb];by_cases e:s=v
  .subst e;simp[hs]
  .simp[e,b,Hn e]
 trl:=by simp
 tr v t a:=by
  rw[gG]at a;split at a
  .injection a with a;subst a;simp
  .cases a
 sub:=aag _
 closed v b c:=absurd b c
 lt v b:=by rw[Rb]at b;omega
 nodup:=by simp
def DS.CH (d:DS n es s met Jd o opn up):o.length<=n:=by
 have:o.length<=(List.range n).length:=d.nodup.length_le_of_subset fun v a=>vq.2 (d.lt v a);simpa using this
def DS.len_opn (d:DS n es s met Jd o opn up):opn.length<=n:=Jh d.sub.length_le d.CH
def DS.pop (a:I7 n es) (d:DS n es s met Jd o (opn++[v]) up) (b:Jd[v]?=some ((Oc n es).getD v []).length):DS n es s met Jd o opn up:=
 {d with
  sub:=(Lx opn [v]).trans d.sub
  closed:=fun x c f=>by
   by_cases e:x=v
   .subst e
    intro y g;have:=(d.tr _ _ b).2 y (by rw[Cp];exact(M8 a x y).2 g);simpa using this
   .exact d.closed x c (by simp[f,e])}
def DS.skip {x:Int} (d:DS n es s met Jd o opn up) (f:Jd[v]?=some t) (c:((Oc n es).getD v [])[t]?=some x) (g:x.toNat∈o):DS n es s met (Jd.set v (t+1)) o opn up:=
 {d with
  trl:=by simp[d.trl]
  tr:=fun u q a=>by
   rw[v8]at a;split at a
   .rename_i e; subst e
    split at a
    .injection a with a; subst a
     have h:=(bH.1 c).1;refine⟨h,fun y b=>?_⟩;rw[Ox,c]at b;simp at b;rcases b with b|b
     .exact(d.tr _ _ f).2 y b
     .subst b;exact g
    .cases a
   .exact d.tr u q a}
def DS.last (d:DS n es s met Jd o (opn++[v]) up):
  ∃k,o[k]?=some v/\∀(j x:Nat),k<j->o[j]?=some x->Full es o x:=by
 obtain⟨a,b,rfl,g,h2⟩:=List.append_sublist_iff.1 d.sub;have h:v∈b:=by simpa using h2
 obtain⟨i,hi⟩:=OH.1 h;refine⟨a.length+i,by rw[kc QT];simpa using hi,fun j x l e=>?_⟩;have f:x∈a++b:=Jb e;refine d.closed x f fun c=>?_;rw[kc QT]at e;have nd:=d.nodup;rw[KM]at nd;rw[uK,Rb]at c;rcases c with c|rfl
 .exact nd.2.2 x (g.subset c) x (Jb e) rfl
 .have:j-a.length=i:=by
   have nb:=nd.2.1;exact(D9 (bH.1 e).1 nb).1 (e.trans hi.symm)
  omega
def DS.push (r:I7 n es) (ha:BD es) (d:DS n es s met Jd o (opn++[v]) up) (B:Jd[v]?=some t) (m:((Oc n es).getD v [])[t]?=some (w:Int)) (C:w∉o):
  DS n es s (met.set w true) (Jd.set v (t+1)) (o++[w]) (opn++[v]++[w]) (up.set w (v:Int)):=by
 obtain⟨k,E,hf⟩:=d.last;have z:(w:Int)∈(Oc n es).getD v []:=Jb m;have g:=(M8 r v w).1 z;have p:=(g.lt r).2;have j:=vM es r ha v;refine⟨.step d.E5 E g C (fun y c A=>?_) hf,by simp[d.Sw],fun u f=>?_,by simp[d.trl],fun u q l=>?_,d.sub.append (aag _),fun u f D=>?_,fun u f=>?_,?_⟩
 .obtain ⟨i, hi⟩ := OH.1 ((M8 r v y).2 c)
  rcases zX i t with h|h|h
  .have := (d.tr v t B).2 (y : Int) (Jb (i := i) (by rw [IK, if_pos h]; exact hi))
   exact absurd (by simpa using this) A
  .subst h;rw[m]at hi;injection hi with hi;omega
  .rw [cR] at j
   have x:=(bH.1 m);have h2:=(bH.1 hi);have:=j t i x.1 h2.1 h;rw[x.2,h2.2]at this;omega
 .rw [v8, uK, Rb]
  by_cases e:w=u
  .subst e;simp[d.Sw,p]
  .rw[if_neg e,d.mm u f];simp[Hn e]
 .rw [v8] at l
  split at l
  .rename_i e; subst e
   split at l
   .injection l with l; subst l
    refine⟨(bH.1 m).1,fun y c=>?_⟩;rw[Ox,m]at c;simp at c;rw[uK];rcases c with c|c
    .exact .inl ((d.tr _ _ B).2 y c)
    .subst c;right;simp
   .cases l
  .obtain ⟨x, h2⟩ := d.tr u q l
   exact⟨x,fun y c=>KF _ (h2 y c)⟩
 .rw [uK, Rb] at f
  rcases f with f|rfl
  .exact fun y c=>KF _ (d.closed u f (fun h=>D (KF _ h)) y c)
  .exact absurd YX D
 .rw [uK, Rb] at f
  rcases f with f|rfl
  .exact d.lt u f
  .exact p
 .rw [KM]
  exact⟨d.nodup,YX,fun a ha b hb e=>by rw[Rb]at hb;subst hb;subst e;exact C ha⟩
def DS.fin (d:DS n es s met Jd o [] up):zn n es s o up:=⟨d.E5,fun x a=>d.closed x a YX⟩
section
open Go.Proofs
variable {X id k:Nat} {es ps:List Pr} {ev v:Value} {h:AHeap} {n:Int}
def ui (a:vW v k):aBuild Tryz.prog 24 [(0,.int .i64 n),(1,v)]=some (.agg #[.int .i64 n,v]):=by
 obtain⟨_,_,rfl,_⟩:=a;kernel_rfl
def rT (h:AHeap):aAlloc Tryz.prog h 24=some (.pointer (some ⟨h.next,0,none⟩),h.alloc (.cells [.int .i64 0,.slice none 0 0])):=rfl
def newG (hw:WF h) (r:PR h ev es):∃b h2,aAlloc Tryz.prog h 24=some (.pointer (some ⟨h.next,0,none⟩),b)/\aStore Tryz.prog b 24 (.pointer (some ⟨h.next,0,none⟩)) (.agg #[.int .i64 n,ev])=some h2/\Le h h2/\WF h2/\
  ∀g,Le h2 g->aload Tryz.prog g 24 ⟨h.next,0,none⟩=some (.agg #[.int .i64 n,ev])/\aload Tryz.prog g 3 ⟨h.next,0,none⟩=some (.int .i64 n)/\aload Tryz.prog g 22 ⟨h.next,1,none⟩=some ev:=by
 obtain⟨b,f,l1,w1,d⟩:=mV hw [.int .i64 0,.slice none 0 0]
 have i:h.own h.next=none:=(Le.refl h).next hw (J4 _)
 have one:=r.sl.one;have a:JO Tryz.prog 24=2:=zd;have j:(Value.agg #[.int .i64 n,ev]).cells=#[.int .i64 n,ev]:=rfl;have k:(Value.int IntKind.i64 n).oneCell'=true:=rfl
 have c:(b.put h.next (.cells [.int .i64 n,ev])).own h.next=some (.cells [.int .i64 n,ev]):=AHeap.zm _ _ _
 refine⟨b,b.put h.next (.cells [.int .i64 n,ev]),by rw[rT,f],?_,l1.put _ i,w1.put _ (w1.lt d),fun g e=>⟨?_,wT Ik rfl (e.own _ _ c),wT pS rfl (e.own _ _ c)⟩⟩
 .simp[aStore,d,j,a,putCells,one,k]
 .rw[HU eJ rfl a (e.own _ _ c) YX];rfl
def mkP4 (h:AHeap) (a b c d:Pr):aBuildSlice Tryz.prog h 22 4 [(0,Ov a),(1,Ov b),(2,Ov c),(3,Ov d)]=some (.slice (some ⟨h.next,0,none⟩) 4 4,h.alloc (.cells (Mf [a,b,c,d]))):=zd
def mkP2 (h:AHeap) (a b:Pr):aBuildSlice Tryz.prog h 22 2 [(0,Ov a),(1,Ov b)]=some (.slice (some ⟨h.next,0,none⟩) 2 2,h.alloc (.cells (Mf [a,b]))):=zd
def PR.made (b:h.own id=some (.cells (Mf ps))) (a:ps.length=k):PR h (.slice (some ⟨id,0,none⟩) k k) ps:=by
 have:=CS.own (k:=2) (off:=0) (n:=k) (cap:=k) b (by rw[Dg,a];omega);rw[sQ,xV (by rw[Dg,a];exact J4 _)]at this;rw[PR,a];exact this
structure GX (h:AHeap) (X:Nat) (n:Int) (ev:Value) (ps:List Pr):Prop where
 ox:h.own X=some (.cells [.int .i64 n,ev])
 gp:GP h ev ps
 ne:blk ev≠some X
def mo (n:Int):aBuild Tryz.prog 24 [(0,.int .i64 n)]=some (.agg #[.int .i64 n,.slice none 0 0]):=zd
def GX.new (hw:WF h) (n:Int):∃a h2,aAlloc Tryz.prog h 24=some (.pointer (some ⟨h.next,0,none⟩),a)/\aStore Tryz.prog a 24 (.pointer (some ⟨h.next,0,none⟩)) (.agg #[.int .i64 n,.slice none 0 0])=some h2/\Le h h2/\WF h2/\h.own h.next=none/\GX h2 h.next n (.slice none 0 0) []:=by
 obtain⟨a,f,l1,w1,d⟩:=mV hw [.int .i64 0,.slice none 0 0]
 have e:h.own h.next=none:=(Le.refl h).next hw (J4 _)
 have b:JO Tryz.prog 24=2:=zd;have g:(Value.agg #[.int .i64 n,.slice none 0 0]).cells=#[.int .i64 n,.slice none 0 0]:=rfl;have i:(Value.int IntKind.i64 n).oneCell'=true:=rfl;have c:(Value.slice none 0 0).oneCell'=true:=rfl
 have j:(a.put h.next (.cells [.int .i64 n,.slice none 0 0])).own h.next=some (.cells [.int .i64 n,.slice none 0 0]):=AHeap.zm _ _ _
 refine⟨a,a.put h.next (.cells [.int .i64 n,.slice none 0 0]),by rw[rT,f],?_,l1.put _ e,w1.put _ (w1.lt d),e,⟨j,GP.nil _,by simp[blk]⟩⟩
 simp[aStore,d,g,b,putCells,i,c]
def GX.ld (g:GX h X n ev ps):aload Tryz.prog h 24 ⟨X,0,none⟩=some (.agg #[.int .i64 n,ev])/\aload Tryz.prog h 3 ⟨X,0,none⟩=some (.int .i64 n)/\aload Tryz.prog h 22 ⟨X,1,none⟩=some ev:=by
 refine⟨?_,wT Ik rfl g.ox,wT pS rfl g.ox⟩;rw[HU eJ rfl (by kernel_rfl:JO Tryz.prog 24=2) g.ox YX];rfl
def GX.push' (g:GX h X n ev ps) (hw:WF h) (p:Pr) (m:ps.length+1<=100000):
  ∃v' a i c,aBuildSlice Tryz.prog h 22 1 [(0,Ov p)]=some (.slice (some ⟨h.next,0,none⟩) 1 1,a)/\aAppend Tryz.prog a 22 22 ev (.slice (some ⟨h.next,0,none⟩) 1 1)=some (v',i)/\aStore Tryz.prog i 22 (.pointer (some ⟨X,1,none⟩)) v'=some c/\
   GX c X n v' (ps++[p])/\WF c/\Le h a/\(∀f,Le f h->f.own X=none->tQ f ev->Le f c/\tQ f v')/\(∀b o,h.own b=some o->b≠X->blk ev≠some b->c.own b=some o/\blk v'≠some b):=by
 obtain⟨v',a,i,q,r,j,k,l4,hf,l⟩:=g.gp.push hw p m;obtain⟨d,e⟩:=l X _ g.ox g.ne;have one:=j.pr.sl.one;have s:v'.cells=#[v']:=by obtain⟨_,_,rfl,_⟩:=j.pr.sl;rfl
 have st:=Qr (P:=Tryz.prog) (t:=22) (x:=v') pS zd d (off:=1) YX s one;refine⟨v',a,i,_,q,r,st,⟨AHeap.zm _ _ _,GS.put j _ e,e⟩,k.put _ (k.lt d),l4,fun f u v af=>?_,fun b o hb w y=>?_⟩
 .obtain ⟨l5, z⟩ := hf f u af
  exact⟨l5.put _ v,z⟩
 .obtain ⟨A, B⟩ := l b o hb y
  exact⟨by rw[AHeap.Dz _ _ _ _ w];exact A,B⟩
end
section
attribute [local irreducible] Ax YH XZ Uk KO KN KX KE VK DK Q7 dK W9
open Go.Proofs
def AO (b:Ac) (v:Value) (xs:LF) (h:AHeap) (c:RL IJ h v xs):AC Tryz.prog b 130 [v] h fun x h'=>∃B,x=.func (.func 166) #[] #[.pointer (some ⟨B,0,none⟩)]/\h.next<=B/\h'.own B=some (.cells [v])/\Le h h':=by
 refine AC.vE ⟨Tryz.func130,rfl,xr⟩ Tryz.ntmps130 Tryz.results130 fun a=>?_;simp only[xq,Nat.reduceAdd];obtain⟨d,e,l1,w1,f⟩:=mV a [v]
 have g:Qq h v=some (.pointer (some ⟨h.next,0,none⟩),d):=by
  rw[<-e];obtain⟨_,_,rfl,_⟩:=c.sl;rfl
 simp only[Ud,Nat.reduceLT,↓reduceIte,Nat.reduceEqDiff,g]
 exact⟨h.next,rfl,J4 _,f,l1⟩
def VA (o:Ac) (b B:Nat) (v:Value) (xs:LF) (I:Nat->AHeap->Prop) (h:AHeap) (z:xs.length<1000000)
  (e:∀i g,I i g->g.own B=some (.cells [v])/\RL IJ g v xs) (f:I xs.length h)
  (p:∀i g (hi:i<xs.length),WF g->h.next<=g.next->I (i+1) g->AY Tryz.prog o b [.int .i64 i,.int .i64 xs[i]] g fun x l=>x=.bool true/\h.next<=l.next/\I i l):
  AC Tryz.prog o 166 [Kc b,.pointer (some ⟨B,0,none⟩)] h fun _ h'=>I 0 h':=by
 have ld:∀i g,I i g->aload Tryz.prog g 49 ⟨B,0,none⟩=some v:=fun i g hi=>by rw[wT Rm rfl (e i g hi).1];rfl
 refine AC.vE ⟨Tryz.func166,rfl,xr⟩ Tryz.ntmps166 Tryz.results166 fun q=>?_;simp only[xq,Nat.reduceAdd];have w1:awrap .i64 ((xs.length:Int)-1)=(xs.length:Int)-1:=GQ _ QT QT;simp only[Ud,Nat.reduceLT,↓reduceIte,ld _ _ f,(e _ _ f).2.len Rm,w1]
 refine W9.intro (fun k fr g=>∃i:Nat,k=i/\i<=xs.length/\fr=mkF [(0,Kc b),(1,.pointer (some ⟨B,0,none⟩)),(3,.int .i64 ((i:Int)-1))]/\h.next<=g.next/\I i g) xs.length [(0,Kc b),(1,.pointer (some ⟨B,0,none⟩)),(3,.int .i64 ((xs.length:Int)-1))] vy ⟨xs.length,rfl,J4 _,rfl,J4 _,f⟩ ?_
 rintro k fr g r ⟨i,rfl,hi,rfl,hle,a⟩;refine yq ?_;refine DK.intro (fun s=>?_) (fun hf=>?_)
 .have c : 1 <= k := by simp at s; omega
  obtain⟨j,rfl⟩:∃j,k=j+1:=⟨k-1,QT⟩;have m:j<xs.length:=QT;have t:((j+1:Nat):Int)-1=(j:Int):=QT;have u:=(e _ _ a).2.addr (k:=.i64) Rm Ik rfl j m;have le:=(e _ _ a).2.HN j m;simp only[Ud,Nat.reduceLT,↓reduceIte,Nat.reduceEqDiff,reduceCtorEq,t,ld _ _ a,u,le];refine dK.yield (by simp only[Ud,↓reduceIte,Nat.reduceEqDiff,yieldOf]<;>rfl) (p j g m r hle a) ?_;rintro x l w ⟨rfl,d,n⟩;have y:awrap .i64 ((j:Int)-1)=(j:Int)-1:=GQ _ QT QT;simp only[Ud,Nat.reduceLT,↓reduceIte,Nat.reduceEqDiff,reduceCtorEq,y];exact cX j [(0,Kc b),(1,.pointer (some ⟨B,0,none⟩)),(3,.int .i64 ((j:Int)-1))] QT vy ⟨j,rfl,QT,rfl,d,n⟩
 .have c : k = 0 := by simp at hf; omega
  subst c;refine yq ?_;exact a
end
variable {es:List Pr} {n s v w:Nat} {o:wi} {up:LF}
instance adjDec (es:List Pr) (u w:Nat):Decidable (xA es u w):=by unfold xA;infer_instance
def MY (n:Nat) (es:List Pr) (o:wi) (v:Nat):Option Nat:=(List.range n).find? fun w=>decide (xA es v w)&&!o.contains w
def lastF (n:Nat) (es:List Pr) (o:wi):wi->Option (Nat×Nat)
  |[]=>none
  |v::r=>match MY n es o v with
    |some w=>some (v,w)
    |none=>lastF n es o r
def walkS (n:Nat) (es:List Pr) (st:wi×LF):wi×LF:=
 match lastF n es st.1 st.1.reverse with
 |some (v,w)=>(st.1++[w],st.2.set w (v:Int))
 |none=>st
def walkN (n:Nat) (es:List Pr):Nat->wi×LF->wi×LF
 |0,st=>st
 |k+1,st=>walkN n es k (walkS n es st)
def sk (n:Nat) (es:List Pr) (s:Nat):wi×LF:=walkN n es n ([s],List.replicate n (-1))
def wM (f:I7 n es) (h:MY n es o v=some w):xA es v w/\w∉o/\∀y,xA es v y->y∉o->w<=y:=by
 unfold MY at h;have a:=aaS h;simp only[SH,decide_eq_true_eq,uV,UI,decide_eq_false_iff_not]at a;refine⟨a.1,a.2,fun y d e=>?_⟩;rw[U0]at h;rcases uj y w with b|c
 .have := h.2.2 y b
  simp[d,e]at this
 .exact c
def DU (b:I7 n es) (h:MY n es o v=none):Full es o v:=by
 intro y a;unfold MY at h;rw[vH]at h;have:=h y (vq.2 (a.lt b).2);simpa[a]using this
def uF {n:Nat} {es:List Pr} {o:wi} (b:I7 n es):∀{l:wi},lastF n es o l=none->∀x∈l,Full es o x
 |[],_,x,a=>by simp at a
 |v::r,h,x,a=>by
  simp only[lastF]at h;split at h
  .cases h
  .rename_i c
   rcases aH.1 a with rfl|a
   .exact DU b c
   .exact uF b h x a
def UF {n:Nat} {es:List Pr} {o:wi} (d:I7 n es):∀{l:wi} {v w:Nat},lastF n es o l=some (v,w)->∃i,l[i]?=some v/\MY n es o v=some w/\∀(j x:Nat),j<i->l[j]?=some x->Full es o x
 |[],v,w,h=>by cases h
 |u::r,v,w,h=>by
  simp only[lastF]at h;split at h
  .rename_i w' a
   injection h with h;injection h with b h2;subst b h2;exact⟨0,rfl,a,QT⟩
  .rename_i a
   obtain⟨i,b,h2,h3⟩:=UF d h;refine⟨i+1,by simpa using b,h2,fun j x e c=>?_⟩;cases j with
   |zero=>simp at c;subst c;exact DU d a
   |succ j=>exact h3 j x QT (by simpa using c)
def Zu.ndlt (h:I7 n es) (hs:s<n) (d:Zu n es s o up):o.Nodup/\∀x∈o,x<n:=by
 induction d with
 |start=>simp[hs]
 |@step o up k v w d i ha hw j hf g=>
  refine⟨?_,fun x c=>?_⟩
  .rw [KM]
   exact⟨g.1,YX,fun a f b hb e=>by rw[Rb]at hb;subst hb;subst e;exact hw f⟩
  .rw [uK, Rb] at c
   rcases c with c|rfl
   .exact g.2 x c
   .exact(ha.lt h).2
def Zu.boundF (a:I7 n es) (hs:s<n) (d:Zu n es s o up):o.length<=n:=by
 have:=(d.ndlt a hs).1.length_le_of_subset (l₂:=List.range n) fun v b=>vq.2 ((d.ndlt a hs).2 v b);simpa using this
def FC {n:Nat} {es:List Pr} {s:Nat} (a:I7 n es) (hs:s<n):∀(k:Nat) {o:wi} {up:LF},Zu n es s o up->n<o.length+k->zn n es s (walkN n es k (o,up)).1 (walkN n es k (o,up)).2
 |0,o,up,d,h=>by have:=d.boundF a hs;omega
 |k+1,o,up,d,h=>by
  simp only[walkN,walkS];split
  .rename_i v w b
   obtain⟨i,e,h2,h3⟩:=UF a b;obtain⟨f,g,l⟩:=wM a h2;have hi:i<o.length:=by have:=(bH.1 e).1;simpa using this
   refine FC a hs k (.step (k:=o.length-1-i) d ?_ f g l fun j x q c=>?_) (by simp;omega)
   .rw[kH hi]at e;exact e
   .have m := (bH.1 c).1
    refine h3 (o.length-1-j) x QT ?_;rw[kH QT];have:o.length-1-(o.length-1-j)=j:=QT;rw[this];exact c
  .rename_i b
   have hf:∀x∈o,Full es o x:=fun x c=>uF a b x (PT.2 c);have:∀k,walkN n es k (o,up)=(o,up):=by
    intro k
    induction k with
    |zero=>rfl
    |succ k p=>simp only[walkN,walkS];rw[b];exact p
   rw[this];exact⟨d,hf⟩
def SX (a:I7 n es) (hs:s<n):zn n es s (sk n es s).1 (sk n es s).2:=FC a hs n .start YX
def zn.eq (a:I7 n es) (hs:s<n) (d:zn n es s o up):o=(sk n es s).1/\up=(sk n es s).2:=d.uniq (SX a hs)
section
open Go.Proofs
variable {a b n:Nat} {es:List Pr}
def pe (a b:Nat):Pr:=(min (a:Int) (b:Int),max (a:Int) (b:Int))
def Ug (a b:Nat):pe a b=pe b a:=by unfold pe;rw[Int.min_comm,Int.max_comm]
def iD:pe a b=(((min a b:Nat):Int),((max a b:Nat):Int)):=by
 unfold pe;rw[Ig];omega
def V0 (c:I7 n es) (h:xA es a b):pe a b∈es:=by
 unfold pe;rcases h with h|h
 .have := c _ h; simp only at this
  rw[Int.min_eq_left QT,Int.max_eq_right QT];exact h
 .have := c _ h; simp only at this
  rw[Int.min_eq_right QT,Int.max_eq_left QT];exact h
def Pq (c:I7 n es) (h:xA es a b):pe a b∈es:=V0 c h
def CZ (b:I7 n es) (h:xA es a a):False:=by
 rcases h with h|h<;>have:=(b _ h).2.1<;>simp at this
end
end Go.Fw
