/- A text. -/
import Derived.Test.YtkccdnmaaelbiaaGreatProg
import Derived.Test.YtkccdnmaaelbiaaGreatFwDraw
import Derived.Test.YtkccdnmaaelbiaaGreatFwCyc
set_option linter.all false
set_option maxRecDepth 99999
set_option maxHeartbeats 9999999
namespace Go.Fw
section
open Go.Proofs
variable {P:Program} {W0:LA} {cs:List Value} {ev v:Value} {h h':AHeap} {i k n w:Nat} {p:Prop} {α:Type}
def mixed:Tryz.prog.follows .mixedOrders=true:=Ji
def CA {l:List α} (h:i<l.length):l[i]?=some l[i]:=BS h
theorem D4 {l:List α} {d:α} (h:i<l.length):l.getD i d=l[i]:=pw
def RR (p:Prop) (v:Value):Prop:=∃b:Bool,v=.bool b/\(b=true↔p)
def RR.t (h:p):RR p (.bool true):=⟨true,rfl,by simp[h]⟩
theorem RR.f (h:¬p):RR p (.bool false):=⟨false,rfl,by simp[h]⟩
theorem CC (h:decide ((i:Int)<(n:Int))=true):i<n:=pw
theorem vp (h:decide ((i:Int)<(n:Int))=false):n<=i:=pw
def Tt (hw:WF h) (c:List Value):∃h',h.alloc (.cells c)=h'/\Le h h'/\WF h'/\h'.own h.next=some (.cells c):=⟨_,rfl,(Le.refl h).alloc hw _,hw.alloc _,AHeap.zT _ _⟩
def Ya {ι κ:Type} {F:ι->κ->Prop} {A:Prop} (Φ:ι->κ->Prop) (a:(∀x y,F x y->Φ x y)->A) (h2:∀x y,F x y->Φ x y):A:=a h2
def KN.UJ {N:Nat} {ks:List Kt} {R:Exit->lC->AHeap->Prop} {fr:lC} (q:∀fr' h',fr'=fr->h'=h->KN P W0 N ks R fr' h'):KN P W0 N ks R fr h:=q fr h rfl rfl
theorem GS.kept (g:GS k h v n cs) (d:∀b o,blk v=some b->h.own b=some o->h'.own b=some o):GS k h' v n cs:=by
 obtain⟨a,q|⟨i,c,cap,rfl,e,rr⟩⟩:=g
 .exact⟨a,.inl q⟩
 .exact⟨a,.inr ⟨i,c,cap,rfl,d i _ rfl e,rr⟩⟩
theorem GS.put {k n:Nat} {h:AHeap} {v:Value} {cs:List Value} (g:GS k h v n cs) {id:Nat} (o:fK) (hb:blk v≠some id):GS k (h.put id o) v n cs:=
 g.kept fun b a c d=>by grind [AHeap.By]
abbrev Pr:=Int×Int
def xM (p:Pr):List Value:=[.int .i64 p.1,.int .i64 p.2]
def UI (p:Pr):Value:=.agg #[.int .i64 p.1,.int .i64 p.2]
def Iu (ps:List Pr):List Value:=ps.flatMap xM
theorem Ta (ps:List Pr):(Iu ps).length=ps.length*2:=by
 induction ps<;>grind [Iu,xM]
def WI (ps:List Pr):(Iu ps).all (·.oneCell')=true:=by
 rw[ff];intro x a;rw[Iu,Yi]at a;obtain⟨p,_,a⟩:=a;simp[xM]at a;rcases a with rfl|rfl<;>rfl
theorem mZ (a b:List Pr):Iu (a++b)=Iu a++Iu b:=by simp[Iu]
theorem H5:∀(ps:List Pr) (i:Nat) (p:Pr),ps[i]?=some p->(Iu ps)[i*2]?=some (.int .i64 p.1)/\(Iu ps)[i*2+1]?=some (.int .i64 p.2)
 |[],i,p,h=>by simp at h
 |q::ps,0,p,h=>by grind [Iu,xM]
 |q::ps,i+1,p,h=>by
  have:=H5 ps i p (by simpa using h);have e:Iu (q::ps)=.int .i64 q.1::.int .i64 q.2::Iu ps:=rfl
  grind
def PR (h:AHeap) (v:Value) (ps:List Pr):Prop:=CS 2 h v ps.length (Iu ps)
def FK (v:Value) (i:Nat):Addr:=elemAddr v (i*2)
theorem PR.le {h h':AHeap} {v:Value} {ps:List Pr} (r:PR h v ps) (e:Le h h'):PR h' v ps:=CS.le r e
theorem WE:UA Tryz.prog 38=2:=Ji
def ts3:UA Tryz.prog 3=1:=Ji
theorem PR.len {ps:List Pr} (r:PR h v ps) (g:AHeap):aLen Tryz.prog g 22 v=some (.int .i64 ps.length):=by
 obtain⟨a,c,rfl,_⟩:=r.sl;simp[aLen,Tryz.underlying22]
theorem PR.addr {ps:List Pr} (r:PR h v ps) {k:IntKind} (i:Nat) (hi:i<ps.length):aIndexAddr Tryz.prog 22 v (.int k i)=some (.pointer (some (FK v i))):=by
 obtain⟨a,c,rfl,hs⟩:=r.sl;obtain⟨a,rfl⟩:=LH.1 (hs NH);have b:(i:Int)<(ps.length:Int):=NH;simp[aIndexAddr,Tryz.underlying22,Tryz.underlying38,b,FK,elemAddr,WE]
def Dh (a:Addr):aIndexAddr Tryz.prog 38 (.pointer (some a)) (.int .i64 0)=some (.pointer (some (Ip a 0))):=by simp[aIndexAddr,Tryz.underlying38,Tryz.underlying3]
def Z0 (a:Addr):aIndexAddr Tryz.prog 38 (.pointer (some a)) (.int .i64 1)=some (.pointer (some (Ip a 1))):=by simp[aIndexAddr,Tryz.underlying38,Tryz.underlying3,ts3]
theorem PR.get {h:AHeap} {v:Value} {ps:List Pr} (r:PR h v ps) {i:Nat} {p:Pr} (b:ps[i]?=some p):
  h.read (Ip (FK v i) 0)=some (.int .i64 p.1)/\h.read (Ip (FK v i) 1)=some (.int .i64 p.2):=by
 obtain⟨d,e⟩:=H5 ps i p b;have f:=CS.get r _ _ d;have g:=CS.get r _ _ e;obtain⟨a,c,rfl,hs⟩:=r.sl
 grind [Option.isSome_iff_exists,FK,fA,Ip]
def PR.l0 {ps:List Pr} (r:PR h v ps) {p:Pr} (a:ps[i]?=some p):aload Tryz.prog h 3 (Ip (FK v i) 0)=some (.int .i64 p.1):=by rw[Bj Tryz.underlying3 rfl];exact(r.get a).1
def PR.l1 {ps:List Pr} (r:PR h v ps) {p:Pr} (a:ps[i]?=some p):aload Tryz.prog h 3 (Ip (FK v i) 1)=some (.int .i64 p.2):=by rw[Bj Tryz.underlying3 rfl];exact(r.get a).2
theorem PR.load {ps:List Pr} (r:PR h v ps) {p:Pr} (b:ps[i]?=some p):aload Tryz.prog h 38 (FK v i)=some (UI p):=by
 obtain⟨c,d⟩:=r.get b;have a:readN h (FK v i) 2=some [.int .i64 p.1,.int .i64 p.2]:=by
  refine ua [.int .i64 p.1,.int .i64 p.2] _ fun j x e=>?_
  grind
 have hd:isAggD (.array 2 3)=true:=rfl;simp only[aload,Tryz.underlying38,hd,cond_true,WE,a,UI]
theorem alloc42 (h:AHeap):aAlloc Tryz.prog h 38=some (.pointer (some ⟨h.next,0,none⟩),h.alloc (.cells [.int .i64 0,.int .i64 0])):=rfl
def gD {x y:Value} {p:Pr} (a:h.own w=some (.cells [x,y])):aStore Tryz.prog h 38 (.pointer (some ⟨w,0,none⟩)) (UI p)=some (h.put w (.cells (xM p))):=by
 simp[aStore,a,UI,Value.cells,WE,putCells,xM,Tryz.underlying38];exact⟨rfl,rfl⟩
def Ci (h:AHeap) (p:Pr):zF h (UI p)=some (.pointer (some ⟨h.next,0,none⟩),h.alloc (.cells (xM p))):=rfl
def lK {p:Pr} (a:h.own w=some (.cells (xM p))):aload Tryz.prog h 3 ⟨w,0,none⟩=some (.int .i64 p.1):=by rw[Fq Tryz.underlying3 rfl a];rfl
def HY {p:Pr} (a:h.own w=some (.cells (xM p))):aload Tryz.prog h 3 ⟨w,1,none⟩=some (.int .i64 p.2):=by rw[Fq Tryz.underlying3 rfl a];rfl
def uM {p:Pr} (a:h.own w=some (.cells (xM p))):aload Tryz.prog h 38 ⟨w,0,none⟩=some (UI p):=by rw[Wx Tryz.underlying38 rfl WE a (by simp[xM])];rfl
theorem Ut (hw:WF h) (p:Pr):∃a h2,aAlloc Tryz.prog h 38=some (.pointer (some ⟨h.next,0,none⟩),a)/\aStore Tryz.prog a 38 (.pointer (some ⟨h.next,0,none⟩)) (UI p)=some h2/\Le h h2/\WF h2/\h2.own h.next=some (.cells (xM p)):=by
 obtain⟨a,d,l1,w1,b⟩:=Tt hw [.int .i64 0,.int .i64 0]
 have c:h.own h.next=none:=(Le.refl h).next hw (qL0 _)
 exact⟨a,_,by grind [alloc42],gD b,l1.put _ c,w1.put _ (w1.lt b),AHeap.Y3 _ _ _⟩
structure GM where
 n:Int
 es:List Pr
structure GR (h:AHeap) (v:Value) (G:GM):Prop where
 ex:∃ev,v=.agg #[.int .i64 G.n,ev]/\PR h ev G.es
theorem GR.le {h h':AHeap} {v:Value} {G:GM} (r:GR h v G) (e:Le h h'):GR h' v G:=by
 obtain⟨a,b,c⟩:=r.ex;exact⟨a,b,c.le e⟩
def Ii (a:Addr):aField Tryz.prog 24 (.pointer (some a)) 0=some (.pointer (some (Ip a 0))):=rfl
def Di (a:Addr):aField Tryz.prog 24 (.pointer (some a)) 1=some (.pointer (some (Ip a 1))):=rfl
def r8 (c:WF h) {n:Int} {es:List Pr} (r:PR h ev es):
  ∃a,zF h (.agg #[.int .i64 n,ev])=some (.pointer (some ⟨h.next,0,none⟩),a)/\Le h a/\WF a/\a.own h.next=some (.cells [.int .i64 n,ev])/\
   ∀g,Le a g->aload Tryz.prog g 24 ⟨h.next,0,none⟩=some (.agg #[.int .i64 n,ev])/\aload Tryz.prog g 3 ⟨h.next,0,none⟩=some (.int .i64 n)/\aload Tryz.prog g 22 ⟨h.next,1,none⟩=some ev:=by
 obtain⟨a,d,l1,w1,b⟩:=Tt c [.int .i64 n,ev];have h2:=r.sl.one;refine⟨a,?_,l1,w1,b,fun g e=>⟨?_,Fq Tryz.underlying3 rfl (e.own _ _ b),Fq Tryz.underlying22 rfl (e.own _ _ b)⟩⟩
 .rw [<- d]
  obtain⟨_,_,rfl,_⟩:=r.sl;rfl
 .rw[Wx Tryz.underlying24 rfl (by kernel_rfl:UA Tryz.prog 24=2) (e.own _ _ b) Ma];rfl
def xO.cells {v:Value} {n:Nat} (h:xO v n):v.cells=#[v]:=by obtain⟨a,c,rfl,_⟩:=h;rfl
theorem gh {W0:LA} {N:Nat} {fr:lC} {h:AHeap} {i:Nat} {ol:List Oper} {ks:List Kt} {R:Exit→lC→AHeap→Prop} (t:DT) (hd:KD Tryz.prog W0 N ol.toArray ks R t [] fr h) (hok:gN ol.toArray t=true:=by kernel_rfl):ZJ Tryz.prog W0 N i ol.toArray ks R fr h:=ZJ.intro mixed t hok hd
def RL.Uc {α:Type} {R:AHeap→Value→α→Prop} {h:AHeap} {v:Value} {xs:List α} (z:RL R h v xs):=z.len (P:=Tryz.prog) Tryz.underlying49
def RS.Uc {h:AHeap} {v:Value} {xs:List Value} (z:RS h v xs):=z.len (P:=Tryz.prog) Tryz.underlying49
def RL.DH {h:AHeap} {v:Value} {xs:List Int} (z:RL RP h v xs):=z.loadI (P:=Tryz.prog) Tryz.underlying3 rfl
def RL.TA {α:Type} {R:AHeap→Value→α→Prop} {h:AHeap} {v:Value} {xs:List α} (z:RL R h v xs):=z.addr (P:=Tryz.prog) Tryz.underlying49 Tryz.underlying3 (by kernel_rfl) (k:=.i64)
def RS.TA {h:AHeap} {v:Value} {xs:List Value} (z:RS h v xs):=z.addr (P:=Tryz.prog) Tryz.underlying49 Tryz.underlying3 (by kernel_rfl) (k:=.i64)
def RL.NS {α:Type} {R:AHeap→Value→α→Prop} {h:AHeap} {v:Value} {xs:List α} (z:RL R h v xs):=z.addr (P:=Tryz.prog) Tryz.underlying27 Tryz.underlying49 (by kernel_rfl) (k:=.i64)
def RS.NS {h:AHeap} {v:Value} {xs:List Value} (z:RS h v xs):=z.addr (P:=Tryz.prog) Tryz.underlying27 Tryz.underlying49 (by kernel_rfl) (k:=.i64)
def RL.Wm {α:Type} {R:AHeap→Value→α→Prop} {h:AHeap} {v:Value} {xs:List α} (z:RL R h v xs):=z.load' (P:=Tryz.prog) Tryz.underlying49 rfl
def Mb:=@Go.Proofs.Tryz.underlying3
def Ac:=@Go.Proofs.Tryz.underlying49
def AV:=@Go.Proofs.Tryz.underlying4
def eY:=@Go.Proofs.Tryz.underlying59
def Uh:=@Go.Proofs.Tryz.underlying22
def yU:=@Go.Proofs.Tryz.underlying27
def pE:=@Go.Proofs.Tryz.func24
def qS7:=@Go.Proofs.Tryz.underlying110
def qS8:=@Go.Proofs.Tryz.underlying38
def qS9:=@Go.Proofs.Tryz.underlying104
def UP:=@Go.Proofs.Tryz.underlying24
def KT:=@Go.Proofs.Tryz.func143
def sU:=@Go.Proofs.Tryz.underlying122
def afm:=@Go.Proofs.Tryz.underlying75
def NQ:=@Go.Proofs.Tryz.func104
def qS15:=@Go.Proofs.Tryz.underlying146
def YW:=@Go.Proofs.Tryz.func40
def zL:=@Go.Proofs.Tryz.func37
def zj:=@Go.Proofs.Tryz.underlying125
def Gs:=@Go.Proofs.Tryz.underlying62
def zC:=@Go.Proofs.Tryz.func32
def iZ:=@Go.Proofs.Tryz.func35
def qS22:=@Go.Proofs.Tryz.underlying118
def qS23:=@Go.Proofs.Tryz.func131
def qS24:=@Go.Proofs.Tryz.underlying88
def qS25:=@Go.Proofs.Tryz.underlying74
def Gm:=@Go.Proofs.Tryz.func88
def Md:=@Go.Proofs.Tryz.func93
def XX:=@Go.Proofs.Tryz.func94
def ahp:=@Go.Proofs.Tryz.func97
def ahq:=@Go.Proofs.Tryz.func72
def ahr:=@Go.Proofs.Tryz.func34
def qS32:=@Go.Proofs.Tryz.func115
def qS33:=@Go.Proofs.Tryz.func113
def qS34:=@Go.Proofs.Tryz.func141
def qS35:=@Go.Proofs.Tryz.func101
def qS36:=@Go.Proofs.Tryz.func140
def qS37:=@Go.Proofs.Tryz.underlying108
def qS38:=@Go.Proofs.Tryz.underlying28
end
section
attribute [local irreducible] Kp MQ lU KO1 KO KN KX KE VK Kl ZJ TC aab
open Go.Proofs
theorem Pd (b:LA) (a:Int) (h:AHeap):AC Tryz.prog b 131 [.int .i64 a] h fun v h'=>v=.bool false/\h'=h:=by
 refine AC.vE ⟨qS23,rfl,WY⟩ Tryz.ntmps131 Tryz.results131 fun c=>?_;simp only[Br,Nat.reduceAdd];simp only[HO,Nat.reduceLT,↓reduceIte,Nat.reduceEqDiff,reduceCtorEq,bne,eq_self]
 grind
def iC (a b:Int):Int:=if a<b then-1 else if a>b then 1 else 0
def wS (d:LA) (a b:Int) (h:AHeap):AC Tryz.prog d 88 [.int .i64 a,.int .i64 b] h fun v h'=>v=.int .i64 (iC a b)/\h'=h:=by
 refine AC.vE ⟨Gm,rfl,WY⟩ Tryz.ntmps88 Tryz.results88 fun e=>?_;simp only[Br,Nat.reduceAdd];refine Uy ?_;refine TC.intro PJ ⟨qS23,rfl,WY⟩ (Pd d a h) ?_;rintro x f w1 ⟨rfl,rfl⟩;refine Uy ?_;refine TC.intro PJ ⟨qS23,rfl,WY⟩ (Pd d b f) ?_;rintro x h2 w2 ⟨rfl,rfl⟩;unfold iC;by_cases c:a<b
 .simp only[HO,Nat.reduceLT,↓reduceIte,Nat.reduceEqDiff,reduceCtorEq,c];exact⟨trivial,trivial⟩
 .by_cases c2 : a > b
  .simp only[HO,Nat.reduceLT,↓reduceIte,Nat.reduceEqDiff,reduceCtorEq,c,c2];exact⟨trivial,trivial⟩
  .simp only[HO,Nat.reduceLT,↓reduceIte,Nat.reduceEqDiff,reduceCtorEq,c,c2];exact⟨trivial,trivial⟩
def orM:RZ->Int
 |[]=>0
 |x::r=>if x=0 then orM r else x
theorem wU (f:LA) (v:Value) (xs:RZ) (h:AHeap) (d:RL RP h v xs) (m:xs.length<=1000):AC Tryz.prog f 87 [v] h fun x h'=>x=.int .i64 (orM xs)/\h'=h:=by
 refine AC.vE ⟨Tryz.func87,rfl,WY⟩ Tryz.ntmps87 Tryz.results87 fun g=>?_;simp only[Br,Nat.reduceAdd];have j:=d.Uc h;refine Sk j ?_;refine lIn (fun k fr hh=>∃i:Nat,k=xs.length-i/\i<=xs.length/\hh=h/\fr=mkF [(3,.int .i64 0),(6,v),(7,.int .i64 xs.length),(8,.int .i64 i)]/\orM xs=orM (xs.drop i)) ⟨0,rfl,Og _,rfl,rfl,rfl⟩ ?_;rintro k fr hh-⟨i,rfl,hi,rfl,rfl,b⟩;refine Uy ?_;refine Kl.intro (fun l=>?_) (fun hf=>?_)
 .have a : i < xs.length := CC l
  have ad:=d.TA i a;have ld:=d.DH i a;rw[vY a,orM]at b;by_cases c:xs[i]=0
  .rw [if_pos c] at b
   simp only[HO,Nat.reduceLT,↓reduceIte,Nat.reduceEqDiff,reduceCtorEq,ad,ld,bne,eq_true c,aaa i NH];exact lgA NH ⟨i+1,rfl,a,rfl,rfl,b⟩
  .rw [if_neg c] at b
   simp only[HO,Nat.reduceLT,↓reduceIte,Nat.reduceEqDiff,reduceCtorEq,ad,ld,bne,eq_false c]
   grind
 .have e : xs.length <= i := vp hf
  rw[To e,orM]at b;refine Uy ?_
  grind
def Nz (p q:Pr):Int:=orM [iC p.1 q.1,iC p.2 q.2]
theorem Hv (p q:Pr):Nz p q<0↔p.1<q.1\/p.1=q.1/\p.2<q.2:=by grind [Nz,orM,iC]
theorem eK (p q:Pr):Nz p q=0↔p=q:=by grind [Nz,orM,iC]
def mk2 (h:AHeap) (a b:Int):aBuildSlice Tryz.prog h 49 2 [(0,.int .i64 a),(1,.int .i64 b)]=some (.slice (some ⟨h.next,0,none⟩) 2 2,h.alloc (.cells [.int .i64 a,.int .i64 b])):=rfl
def DU (g:LA) (p q:Pr) (h:AHeap):AC Tryz.prog g 63 [UI p,UI q] h fun v h'=>v=.int .i64 (Nz p q)/\Le h h':=by
 refine AC.vE ⟨Tryz.func63,rfl,WY⟩ Tryz.ntmps63 Tryz.results63 fun i=>?_;simp only[Br,Nat.reduceAdd];obtain⟨j,k,l1,w1,l⟩:=Tt i (xM p);obtain⟨h2,m,l2,w2,f⟩:=Tt w1 (xM q);refine Sk (Yb @Ci k m) ?_;have c:=l2.own _ _ l
 generalize h.next=a at*
 generalize j.next=b at*
 refine gh (tA [0,1,2,3,5,6,7,8] (JQ 4 [1,3] (JQ 9 [4,6,8] (JQ 10 [4,9] (JQ 11 [9,10] (tA [12] .done)))))) ?_;refine CO (adG @Dh @Z0 @Ip.eq_1 @XJ (lK c) (HY c) (lK f) (HY f)) ?_;refine VA.intro PJ ⟨Gm,rfl,WY⟩ (wS g p.1 q.1 h2) ?_;rintro x h3 t ⟨rfl,rfl⟩;refine CO (adG @Dh @Z0 @Ip.eq_1 @XJ (lK c) (HY c) (lK f) (HY f)) ?_;refine VA.intro PJ ⟨Gm,rfl,WY⟩ (wS g p.2 q.2 h3) ?_;rintro x u n ⟨rfl,rfl⟩;obtain⟨o,r,l5,w,s⟩:=Tt n [.int .i64 (iC p.1 q.1),.int .i64 (iC p.2 q.2)];have d:=l5.own _ _ c;have e:=l5.own _ _ f;refine CO (Da @Dh @Z0 @Ip.eq_1 @XJ (lK c) (HY c) (lK f) (HY f) @mk2 r (lK d) (HY d) (lK e) (HY e)) ?_;refine VA.intro PJ ⟨Tryz.func87,rfl,WY⟩ (wU g _ [iC p.1 q.1,iC p.2 q.2] o (RL.Wh (RS.whole s rfl)) Ma) ?_;rintro x y z ⟨rfl,rfl⟩;refine CO (adG @Dh @Z0 @Ip.eq_1 @XJ (lK d) (HY d) (lK e) (HY e)) ?_;exact⟨rfl,(l1.trans l2).trans l5⟩
def yu (g:LA) (p q:Pr) (h:AHeap):AC Tryz.prog g 167 [UI p,UI q] h fun v h'=>v=.int .i64 (Nz p q)/\Le h h':=by
 refine AC.vE ⟨Tryz.func167,rfl,WY⟩ Tryz.ntmps167 Tryz.results167 fun i=>?_;simp only[Br,Nat.reduceAdd];obtain⟨j,k,l1,w1,l⟩:=Tt i (xM p);obtain⟨h2,m,l2,w2,f⟩:=Tt w1 (xM q);refine Sk (Yb @Ci k m) ?_;have c:=l2.own _ _ l
 generalize h.next=a at*
 generalize j.next=b at*
 refine gh (tA [0,1,2,3,5,6,7,8] (JQ 4 [1,3] (JQ 9 [4,6,8] (JQ 10 [4,9] (JQ 11 [9,10] (tA [12] .done)))))) ?_;refine CO (adG @Dh @Z0 @Ip.eq_1 @XJ (lK c) (HY c) (lK f) (HY f)) ?_;refine VA.intro PJ ⟨Gm,rfl,WY⟩ (wS g p.1 q.1 h2) ?_;rintro x h3 t ⟨rfl,rfl⟩;refine CO (adG @Dh @Z0 @Ip.eq_1 @XJ (lK c) (HY c) (lK f) (HY f)) ?_;refine VA.intro PJ ⟨Gm,rfl,WY⟩ (wS g p.2 q.2 h3) ?_;rintro x u n ⟨rfl,rfl⟩;obtain⟨o,r,l5,w,s⟩:=Tt n [.int .i64 (iC p.1 q.1),.int .i64 (iC p.2 q.2)];have d:=l5.own _ _ c;have e:=l5.own _ _ f;refine CO (Da @Dh @Z0 @Ip.eq_1 @XJ (lK c) (HY c) (lK f) (HY f) @mk2 r (lK d) (HY d) (lK e) (HY e)) ?_;refine VA.intro PJ ⟨Tryz.func87,rfl,WY⟩ (wU g _ [iC p.1 q.1,iC p.2 q.2] o (RL.Wh (RS.whole s rfl)) Ma) ?_;rintro x y z ⟨rfl,rfl⟩;refine CO (adG @Dh @Z0 @Ip.eq_1 @XJ (lK d) (HY d) (lK e) (HY e)) ?_;exact⟨rfl,(l1.trans l2).trans l5⟩
def YN (G:GM) (i:Nat):Prop:=∀p,G.es[i]?=some p->(0<=p.1/\p.1<p.2/\p.2<G.n)/\∀q,0<i->G.es[i-1]?=some q->Nz q p<0
structure bX (G:GM):Prop where
 n0:0<=G.n
 n1:G.n<=200
 len:G.es.length<=594
 ok:∀i,i<G.es.length->YN G i
theorem ak (T:LA) (v:Value) (G:GM) (h:AHeap) (hg:GR h v G):AC Tryz.prog T 24 [v] h fun x h'=>RR (bX G) x/\Le h h':=by
 obtain⟨Y,rfl,C⟩:=hg.ex;refine AC.vE ⟨pE,rfl,WY⟩ Tryz.ntmps24 Tryz.results24 fun P=>?_;simp only[Br,Nat.reduceAdd];obtain⟨U,J,l,Z,-,Q⟩:=r8 (n:=G.n) P C
 generalize h.next=B at*
 have V:=fun g=>C.len g;have c:=Q U (Le.refl _);by_cases K:G.n<0
 .refine Sk (bG J @Ii @Ip.eq_1 @XJ c.2.1 K) ?_
  exact⟨.f fun q=>by have:=q.n0;omega,l⟩
 by_cases c1:G.n>200
 .refine Sk (rE J @Ii @Ip.eq_1 @XJ c.2.1 K c1) ?_
  exact⟨.f fun q=>by have:=q.n1;omega,l⟩
 by_cases c2:(G.es.length:Int)>594
 .refine Sk (rk J @Ii @Di @Ip.eq_1 @XJ c.2.1 c.2.2 V K c1 c2) ?_
  grind [RR.f,bX.len]
 refine Sk (rk J @Ii @Di @Ip.eq_1 @XJ c.2.1 c.2.2 V K c1 c2) ?_;refine lIn (fun k fr hh=>∃i:Nat,k=G.es.length-i/\i<=G.es.length/\fr=mkF [(1,.pointer (some ⟨B,0,none⟩)),(20,Y),(21,.int .i64 G.es.length),(22,.int .i64 i)]/\Le U hh/\∀j,j<i->YN G j) ⟨0,rfl,Og _,rfl,Le.refl _,NH⟩ ?_;rintro k fr hh R ⟨i,rfl,hi,rfl,a,D⟩;refine Uy ?_;refine Kl.intro (fun W=>?_) (fun hf=>?_)
 rotate_left
 .have aa : G.es.length <= i := vp hf
  refine Uy ?_;exact⟨.t ⟨NH,NH,NH,fun j X=>D j NH⟩,l.trans a⟩
 have m:i<G.es.length:=CC W;clear W;have d:=CA m;generalize G.es[i]=p at d;have y:=C.le (l.trans a);have ad:=C.addr (k:=.i64) i m;have ld:=y.load d;obtain⟨h2,h3,L,e3,b,ae,M⟩:=Ut R p;have N:=lK M;have L1:=HY M;have LP:=uM M;have fT:=Q h3 (a.trans b);have bad:¬YN G i->¬bX G:=fun hn q=>hn (q.ok i m);have u:=(l.trans a).trans b
 generalize hh.next=E at*
 by_cases O:p.1<0
 .simp only [HO, Nat.reduceLT, ↓reduceIte, Nat.reduceEqDiff, reduceCtorEq, ad, ld, L, e3, Dh, Z0, Ip, XJ, N, L1, O]
  exact⟨.f (bad fun q=>by have:=(q p d).1.1;omega),u⟩
 by_cases d1:p.1>=p.2
 .simp only [HO, Nat.reduceLT, ↓reduceIte, Nat.reduceEqDiff, reduceCtorEq, ad, ld, L, e3, Dh, Z0, Ip, XJ, N, L1, O, d1]
  exact⟨.f (bad fun q=>by have:=(q p d).1.2.1;omega),u⟩
 by_cases d2:p.2>=G.n
 .simp only [HO, Nat.reduceLT, ↓reduceIte, Nat.reduceEqDiff, reduceCtorEq, ad, ld, L, e3, Dh, Z0, Ii, Ip, XJ, N, L1, fT.2.1, O, d1, d2]
  exact⟨.f (bad fun q=>by have:=(q p d).1.2.2;omega),u⟩
 simp only[HO,Nat.reduceLT,↓reduceIte,Nat.reduceEqDiff,reduceCtorEq,ad,ld,L,e3,Dh,Z0,Ii,Ip,XJ,N,L1,fT.2.1,O,d1,d2];by_cases i0:i=0
 .subst i0
  have z:((0:Int)<((0:Nat):Int))=False:=eq_false NH;refine gh (tA [0,1,2,3,4,5,6,7,8,9] (JQ 10 [2,8,9] (tA [11,12] .done))) ?_;refine CO (Yb @gt_iff_lt.{0} z (aaa 0 NH)) ?_
  refine lgA NH ⟨0+1,rfl,m,rfl,a.trans b,fun j X=>?_⟩;have:j=0:=NH;subst this;intro p' S
  grind
 .have z : ((0 : Int) < (i : Int)) = True := eq_true NH
  have w:=CA (show i-1<G.es.length by omega);generalize G.es[i-1]'(by omega)=q at w
  have o:awrap .i64 ((i:Int)-1)=((i-1:Nat):Int):=by grind [cT]
  have A:=C.addr (k:=.i64) (i-1) NH;have F:=(y.le b).load w;refine gh (tA [0,1,2,3,4,5,6,7,8,9] (JQ 10 [2,8,9] (tA [11,12] .done))) ?_;simp only[HO,Nat.reduceLT,↓reduceIte,Nat.reduceEqDiff,reduceCtorEq,Nat.reduceBEq,Qg,gt_iff_lt,z,o,Di,Ip,XJ,fT.2.2,A,F,LP];refine VA.intro PJ ⟨Tryz.func63,rfl,WY⟩ (DU T q p h3) ?_;rintro x h4 ag ⟨rfl,r⟩;have H:=Q h4 ((a.trans b).trans r);have s:=F;have I:=uM (r.own _ _ M);have s:=((y.le b).le r).load w;by_cases d3:Nz q p>=0
  .refine CO (Pj z o @Di @Ip.eq_1 @XJ H.2.2 A s I d3) ?_
   exact⟨.f (bad fun k=>by have:=(k p d).2 q NH w;omega),u.trans r⟩
  .refine CO (rk z o @Di @Ip.eq_1 @XJ H.2.2 A s I d3 (aaa i NH)) ?_
   refine lgA NH ⟨i+1,rfl,m,rfl,(a.trans b).trans r,fun j X=>?_⟩;by_cases e:j=i
   .subst e
    intro p' S
    grind
   grind
variable {G:GM} {es:List Pr} {i j:Nat} {p:Pr}
def D3 (es:List Pr):Prop:=∀(i j:Nat) p q,i<j->es[i]?=some p->es[j]?=some q->Nz p q<0
theorem bX.q9 (r:bX G):D3 G.es:=by
 have step:∀(d i:Nat) p q,G.es[i]?=some p->G.es[i+(d+1)]?=some q->Nz p q<0:=by
  intro d
  induction d with
  |zero=>
   intro i p q b a;have c:=(Ny.1 a).1;exact(r.ok (i+1) c q a).2 p NH pw
  |succ d f=>
   intro i p q b a;have c:=(Ny.1 a).1;have e:=CA (show i+(d+1)<G.es.length by omega);have h:=f i p _ b e;have h2:=(r.ok (i+(d+1+1)) c q a).2 _ NH (by rw[show i+(d+1+1)-1=i+(d+1) by omega];exact e);rw[Hv]at*;omega
 intro i j p q g b a;have:=step (j-i-1) i p q b pw;exact this
theorem D3.uniq (a:D3 es) (hi:es[i]?=some p) (b:es[j]?=some p):i=j:=by
 rcases cJ i j with h|h|h
 .have := a i j p p h hi b
  grind [eK]
 .exact h
 .have := a j i p p h b hi
  grind [eK]
theorem ahs (n:Nat) (h:n<18446744073709551616):awrap .u64 (n:Int)=(n:Int):=by grind [awrap]
theorem Tq (n:Nat) (h:n<18446744073709551616):aShift .shr .u64 (n:Int) 1=some (.int .u64 ((n / 2:Nat):Int)):=by
 have e:((n:Int)).fdiv (2^min 1 IntKind.u64.bits)=((n / 2:Nat):Int):=by rw[show min 1 IntKind.u64.bits=1 from rfl,Int.fdiv_eq_ediv_of_nonneg _ WY];simp
 grind [aShift]
def cv3u (h:AHeap) (x:Int):aConvert Tryz.prog h 3 146 (.int .i64 x)=some (.int .u64 (awrap .u64 x),h):=by simp[aConvert,qS15,Mb]
def cvu3 (h:AHeap) (x:Int):aConvert Tryz.prog h 146 3 (.int .u64 x)=some (.int .i64 (awrap .i64 x),h):=by simp[aConvert,qS15,Mb]
theorem xm (G:LA) (F:FuncId) (fn:Func) (c:Code) (H:Good Tryz.prog F fn c) (n:∀(p q:Pr) (h:AHeap),AC Tryz.prog G F [UI p,UI q] h fun v h'=>v=.int .i64 (Nz p q)/\Le h h')
  (v:Value) (es:List Pr) (p:Pr) (h:AHeap) (r:PR h v es) (W:es.length<=1000) (ha:D3 es):
  AC Tryz.prog G 70 [v,UI p,.func (.func F) #[] #[]] h fun x h'=>(∃(i:Nat) (b:Bool),x=.tuple #[.int .i64 i,.bool b]/\(b=true->es[i]?=some p)/\(b=false->p∉es))/\Le h h':=by
 refine AC.vE ⟨Tryz.func70,rfl,WY⟩ Tryz.ntmps70 Tryz.results70 fun t=>?_;simp only[Br,Nat.reduceAdd];obtain⟨L,M,l1,w1,u⟩:=Tt t (xM p);have N:=fun g=>r.len g;refine Sk (Yb @Ci M N) ?_
 generalize h.next=B at*
 refine lIn (fun k fr hh=>∃lo hi:Nat,k=hi-lo/\lo<=hi/\hi<=es.length/\fr=mkF [(0,v),(2,.func (.func F) #[] #[]),(4,.pointer (some ⟨B,0,none⟩)),(8,.int .i64 es.length),(9,.int .i64 lo),(10,.int .i64 hi)]/\Le L hh/\
   (∀(k:Nat) q,k<lo->es[k]?=some q->Nz q p<0)/\∀(k:Nat) q,hi<=k->es[k]?=some q->¬Nz q p<0) ⟨0,es.length,rfl,Og _,qL0 _,rfl,Le.refl _,NH,fun k q s d=>by grind⟩ ?_
 rintro k fr hh O ⟨lo,hi,rfl,P,w,rfl,a,y,A⟩;have I:=uM (a.own _ _ u);have f:=r.le (l1.trans a);refine Uy ?_;refine Kl.intro (fun J=>?_) (fun hf=>?_)
 .have Q : lo < hi := CC J
  clear J;have a1:awrap .i64 ((lo:Int)+(hi:Int))=((lo+hi:Nat):Int):=by grind [cT]
  have a2:=ahs (lo+hi) NH;have R:=Tq (lo+hi) NH;have S:awrap .i64 (((lo+hi) / 2:Nat):Int)=(((lo+hi) / 2:Nat):Int):=cT _ NH NH;have C:(lo+hi) / 2<hi:=NH;have D:lo<=(lo+hi) / 2:=NH;refine Sk (bG a1 @cv3u a2 R @cvu3 S) ?_;generalize (lo+hi) / 2=m at*;have d:=CA (show m<es.length by omega);generalize es[m]'(by omega)=q at d
  have ad:=r.addr (k:=.i64) m NH;have ld:=f.load d;refine gh (tA [0,1,2,3,4,5] (JQ 6 [0,4,5] (tA [7] .done))) ?_;simp only[HO,Nat.reduceLT,↓reduceIte,Nat.reduceEqDiff,reduceCtorEq,Nat.reduceBEq,Qg,ad,ld,I];refine VA.intro PJ H (n q p hh) ?_;rintro x h3 T ⟨rfl,l3⟩;have j:=uM ((a.trans l3).own _ _ u);have l:=(f.le l3).load d;by_cases K:Nz q p<0
  .simp only [HO, Nat.reduceLT, ↓reduceIte, Nat.reduceEqDiff, reduceCtorEq, Nat.reduceBEq, Qg, ad, l, j, K, aaa m NH]
   refine lgA NH ⟨m+1,hi,rfl,C,w,rfl,a.trans l3,fun k E s o=>?_,A⟩;by_cases e:k=m
   .grind
   .have := ha k m E q NH o d
    grind [Hv]
  .simp only [HO, Nat.reduceLT, ↓reduceIte, Nat.reduceEqDiff, reduceCtorEq, Nat.reduceBEq, Qg, ad, l, j, K]
   refine lgA NH ⟨lo,m,rfl,D,NH,rfl,a.trans l3,y,fun k E s o=>?_⟩;by_cases e:k=m
   .grind
   .have := ha m k q E NH d o
    grind [Hv]
 have U:hi<=lo:=vp hf;obtain rfl:lo=hi:=NH;clear hf;by_cases c1:lo<es.length
 .have z : ((lo : Int) < (es.length : Int)) = True := eq_true NH
  have d:=CA c1;generalize es[lo]=q at d;have ad:=r.addr (k:=.i64) lo c1;have ld:=f.load d;refine Uy ?_;refine gh (tA [0,1,2,3,4,5,6,7,8,9,10] (JQ 11 [4,5,9,10] (tA [12,13,14,15] .done))) ?_;simp only[HO,Nat.reduceLT,↓reduceIte,Nat.reduceEqDiff,reduceCtorEq,Nat.reduceBEq,Qg,z,ad,ld,I];refine VA.intro PJ H (n q p hh) ?_;rintro x h3 T ⟨rfl,l3⟩;have j:=uM ((a.trans l3).own _ _ u);have l:=(f.le l3).load d;simp only[HO,Nat.reduceLT,↓reduceIte,Nat.reduceEqDiff,reduceCtorEq,Nat.reduceBEq,Qg,z,ad,l,j];refine⟨⟨lo,decide (Nz q p=0),rfl,fun e=>?_,fun e=>?_⟩,(l1.trans a).trans l3⟩
  .grind [eK]
  .have V := of_decide_eq_false e
   intro C;obtain⟨k,s⟩:=IE.1 C;have X:=(eK p p).2 rfl;rcases cJ k lo with h|h|h
   .grind
   .grind
   .have := ha lo k q p h d s
    grind
 .have z : ((lo : Int) < (es.length : Int)) = False := eq_false NH
  refine Uy ?_;refine gh (tA [0,1,2,3,4,5,6,7,8,9,10] (JQ 11 [4,5,9,10] (tA [12,13,14,15] .done))) ?_;refine CO z ?_
  grind [Le.trans,List.mem_iff_getElem?,eK]
theorem D3.nodup {l:List Pr} (a:D3 l):l.Nodup:=by
 rw[si,DF];intro i j hi c b e;have:=a i j _ _ b (CA hi) (CA c)
 grind [eK]
variable {a b n:Nat} {h:AHeap} {v:Value} {web:List Pr} {xs:List Bool}
def sJ (_:AHeap) (v:Value) (b:Bool):Prop:=v=.bool b
theorem Nn.sJ:Nn sJ:=fun _ _ _ _ h _=>h
def RL.Sm (r:RS h v (xs.map Value.bool)):RL sJ h v xs:=
 ⟨_,r,Ma,fun i x u b a=>by simp[b]at a;exact a.symm⟩
theorem RL.W7 (r:RL sJ h v xs) (i:Nat) (hi:i<xs.length):aload Tryz.prog h 4 (elemAddr v i)=some (.bool xs[i]):=by
 obtain⟨u,a,h2⟩:=r.load (P:=Tryz.prog) AV rfl i hi;rw[a];exact congrArg some h2
def RL.LB (r:RL sJ h v xs) {k:IntKind} (i:Nat) (hi:i<xs.length):aIndexAddr Tryz.prog 59 v (.int k i)=some (.pointer (some (elemAddr v i))):=
 r.addr (P:=Tryz.prog) eY AV Ji i hi
def ofM (es web:List Pr):List Bool:=es.map fun e=>decide (e∈web)
def onW (web:List Pr) (v:Nat):Prop:=∃e∈web,e.1=(v:Int)\/e.2=(v:Int)
instance (web:List Pr) (v:Nat):Decidable (onW web v):=inferInstanceAs (Decidable (∃e∈web,e.1=(v:Int)\/e.2=(v:Int)))
def Cb (n:Nat) (web:List Pr):List Bool:=(List.range n).map fun v=>decide (onW web v)
theorem yV (a:D3 es) (hi:es[i]?=some p):ofM es (web++[p])=(ofM es web).set i true:=by
 apply V3;intro j;rw[fj]
 grind [ofM,D3.uniq]
theorem NM (web:List Pr) (p:Pr) (v:Nat):onW (web++[p]) v↔onW web v\/(p.1=(v:Int)\/p.2=(v:Int)):=by
 simp only[onW,qL7,jf]
 grind
theorem mc:Cb n (web++[((a:Int),(b:Int))])=((Cb n web).set a true).set b true:=by
 apply V3
 grind [Cb,NM]
def c8 (es web:List Pr):(ofM es web).length=es.length:=by simp[ofM]
def Qe (n:Nat) (web:List Pr):(Cb n web).length=n:=by simp[Cb]
theorem ofM_nil (es:List Pr):ofM es []=List.replicate es.length false:=by
 apply aeB
 all_goals grind [ofM]
theorem onM_nil (n:Nat):Cb n []=List.replicate n false:=by
 apply aeB
 all_goals grind [Cb,onW]
structure CU (es web:List Pr):Prop where
 q9:∀(i:Nat) p q,web[i]?=some p->web[i+1]?=some q->Nz p q<0
 mem:∀p∈web,p∈es
structure New2 (h h':AHeap) (A B:Nat) (x y:List Value):Prop where
 le:Le h h'
 wf:WF h'
 oA:h'.own A=some (.cells x)
 oB:h'.own B=some (.cells y)
 nA:h.own A=none
 nB:h.own B=none
 ne:A≠B
def Yd (hw:WF h) (x y:List Value):New2 h ((h.alloc (.cells x)).alloc (.cells y)) h.next (h.next+1) x y:=by
 have a:∀x,h.next<=x->h.own x=none:=fun x b=>(Le.refl h).next hw b
 exact⟨((Le.refl h).alloc hw _).alloc (hw.alloc _) _,(hw.alloc _).alloc _,by simp[Mh,om],by simp[Mh,om],a _ (qL0 _),a _ NH,NH⟩
def aht (hw:WF h) (x y:List Value):New2 h ((h.alloc (.cells y)).alloc (.cells x)) (h.next+1) h.next x y:=by
 have a:∀x,h.next<=x->h.own x=none:=fun x b=>(Le.refl h).next hw b
 exact⟨((Le.refl h).alloc hw _).alloc (hw.alloc _) _,(hw.alloc _).alloc _,by simp[Mh,om],by simp[Mh,om],a _ NH,a _ (qL0 _),NH⟩
def GR.open {n:Int} (r:GR h v ⟨n,es⟩):∃a,v=.agg #[.int .i64 n,a]/\PR h a es:=r.ex
theorem j5 (W0:LA) (v r:Value) (G:GM) (web:List Pr) (h:AHeap) (hg:GR h v G) (hw:PR h r web) (hr:bX G) (hn:web.length<=1000):
  AC Tryz.prog W0 134 [v,r] h fun x h'=>(∃ov nv b,x=.tuple #[ov,nv,.bool b]/\(nv.cells=#[nv]/\nv.oneCell'=true)/\(b=true↔CU G.es web)/\(b=true->RL sJ h' ov (ofM G.es web)/\RL sJ h' nv (Cb G.n.toNat web)))/\Le h h':=by
 obtain⟨gn,es⟩:=G;have h0:0<=gn:=hr.n0;obtain⟨n,rfl⟩:=WA h0
 obtain⟨ev,rfl,hp⟩:=hg.open
 have b5:(n:Int)<=200:=hr.n1;have b6:es.length<=594:=hr.len;have S:D3 es:=hr.q9;have al:∀p∈es,0<=p.1/\p.1<p.2/\p.2<(n:Int):=fun p K=>by
  obtain⟨i,hi⟩:=IE.1 K;exact(hr.ok i (Ny.1 hi).1 p hi).1
 show AC Tryz.prog W0 134 [.agg #[.int .i64 (n:Int),ev],r] h fun x h'=>(∃ov nv b,x=.tuple #[ov,nv,.bool b]/\(nv.cells=#[nv]/\nv.oneCell'=true)/\(b=true↔CU es web)/\(b=true->RL sJ h' ov (ofM es web)/\RL sJ h' nv (Cb n web)))/\Le h h';refine AC.vE ⟨Tryz.func134,rfl,WY⟩ Tryz.ntmps134 Tryz.results134 fun bk=>?_;simp only[Br,Nat.reduceAdd];obtain⟨T,b1,s,o,-,lA⟩:=r8 (n:=(n:Int)) bk hp
 generalize h.next=B at*
 have ll:=fun g=>hp.len g;have aq:=lA T (Le.refl _);have bm:=fun g:AHeap=>Ye (P:=Tryz.prog) (t:=59) (z:=.bool false) g eY rfl rfl rfl rfl Ji AV Ji es.length NH;have bo:=fun g:AHeap=>Ye (P:=Tryz.prog) (t:=59) (z:=.bool false) g eY rfl rfl rfl rfl Ji AV Ji n NH;refine Sk b1 ?_;have Y:List.replicate es.length (Value.bool false)=(ofM es []).map Value.bool:=by rw[ofM_nil];simp
 have Z:List.replicate n (Value.bool false)=(Cb n []).map Value.bool:=by rw[onM_nil];simp
 apply Ya (F:=fun(fr:lC) (h':AHeap)=>∃A C,Fj fr [(1,r),(2,.pointer (some ⟨B,0,none⟩)),(7,.slice (some ⟨A,0,none⟩) es.length es.length),(8,.slice (some ⟨C,0,none⟩) n n)]/\New2 T h' A C (List.replicate es.length (Value.bool false)) (List.replicate n (Value.bool false)))
 .intro cont
  have X1:=lA ((T.alloc (.cells (List.replicate es.length (.bool false))))) ((Le.refl T).alloc o _);have X2:=lA ((T.alloc (.cells (List.replicate n (.bool false))))) ((Le.refl T).alloc o _);have X3:=lA _ (Yd o (List.replicate es.length (.bool false)) (List.replicate n (.bool false))).le;have X4:=lA _ (aht o (List.replicate es.length (.bool false)) (List.replicate n (.bool false))).le;refine gh (tA [0,1,2,4,5] (.ch 3 [2] (tA [7] (JQ 6 [5] (tA [8] .done))) (JQ 6 [5] (JQ 3 [2] (tA [7,8] .done))))) ?_;simp only[kJJ,Nat.reduceLT,↓reduceIte,Nat.reduceEqDiff,reduceCtorEq,Nat.reduceBEq,Qg,Ii,Di,Ip,XJ,aq.2.1,aq.2.2,ll,bm,bo,om,X1.2.1,X1.2.2,X2.2.1,X2.2.2,X3.2.1,X3.2.2,X4.2.1,X4.2.2];refine⟨?_,?_⟩
  .refine KN.UJ fun fr' h' e1 e2 => cont fr' h' ?_
   subst e1 e2;exact⟨_,_,fD,Yd o _ _⟩
  .refine KN.UJ fun fr' h' e1 e2 => cont fr' h' ?_
   subst e1 e2;exact⟨_,_,fD,aht o _ _⟩
 rintro fr h2 ⟨A,C,u,N⟩;simp only[Fj]at u;obtain⟨f1,f2,f7,f8,-⟩:=u;have lw:=fun g=>hw.len g;simp only[HO,Nat.reduceLT,↓reduceIte,Nat.reduceEqDiff,reduceCtorEq,f1,lw];have ar:=N.oA;have av:=N.oB;rw[Y]at ar;rw[Z]at av;have nA:=N.nA;have nC:=N.nB;have b8:=N.ne;refine aab.intro (fun k fr hh=>∃i:Nat,k=web.length-i/\i<=web.length/\fr=mkF [(1,r),(2,.pointer (some ⟨B,0,none⟩)),(7,.slice (some ⟨A,0,none⟩) es.length es.length),(8,.slice (some ⟨C,0,none⟩) n n),(20,r),(21,.int .i64 web.length),(22,.int .i64 i)]/\
   hh.own A=some (.cells ((ofM es (web.take i)).map Value.bool))/\hh.own C=some (.cells ((Cb n (web.take i)).map Value.bool))/\Le T hh/\(∀(j:Nat) p,j<i->web[j]?=some p->p∈es)/\∀(j:Nat) p q,j+1<i->web[j]?=some p->web[j+1]?=some q->Nz p q<0)
  web.length [(1,r),(2,.pointer (some ⟨B,0,none⟩)),(7,.slice (some ⟨A,0,none⟩) es.length es.length),(8,.slice (some ⟨C,0,none⟩) n n),(20,r),(21,.int .i64 web.length),(22,.int .i64 (0:Nat))] (by simp only[Fj,HO,Nat.reduceLT,↓reduceIte,Nat.reduceEqDiff,reduceCtorEq,f1,f2,f7,f8];simp)
  ⟨0,rfl,Og _,rfl,ar,av,N.le,NH,NH⟩ ?_
 rintro k fr hh ay ⟨i,rfl,hi,rfl,oA,oC,L,b9,aa⟩;refine Uy ?_;refine Kl.intro (fun ht=>?_) (fun hf=>?_)
 rotate_left
 .have br : web.length <= i := vp hf
  rw[yM br]at oA oC;refine Uy ?_;refine⟨⟨_,_,true,rfl,⟨rfl,rfl⟩,⟨fun _=>⟨fun j p q cc m=>?_,fun p K=>?_⟩,fun _=>rfl⟩,fun _=>⟨RL.Sm (RS.whole oA (by simp[c8])),RL.Sm (RS.whole oC (by simp[Qe]))⟩⟩,s.trans L⟩
  .grind
  grind [List.mem_iff_getElem?]
 have M:i<web.length:=CC ht;clear ht;have O:=CA M;have ae:web.take (i+1)=web.take i++[web[i]]:=Sb M;generalize web[i]=p at O ae;have w:=hw.le (s.trans L);have ad:=hw.addr (k:=.i64) i M;have ld:=w.load O;obtain⟨cd,h3,e2,e3,D,bx,d⟩:=Ut ay p;have az:=D.own _ _ oA;have aC:=D.own _ _ oC;have U:=L.trans D
 have nE:T.own hh.next=none:=L.none ((Le.refl hh).next ay (qL0 _))
 generalize hh.next=E at*
 simp only[HO,Nat.reduceLT,↓reduceIte,Nat.reduceEqDiff,reduceCtorEq,ad,ld,e2,e3];have aD:(∃(j:Nat) (a b:Pr),web[j]?=some a/\web[j+1]?=some b/\¬Nz a b<0)->¬CU es web:=fun⟨j,a,b,x,y,z⟩ q=>z (q.q9 j a b x y);apply Ya (F:=fun(fr:lC) (h4:AHeap)=>Fj fr [(1,r),(2,.pointer (some ⟨B,0,none⟩)),(7,.slice (some ⟨A,0,none⟩) es.length es.length),(8,.slice (some ⟨C,0,none⟩) n n),(10,.pointer (some ⟨E,0,none⟩)),(20,r),(21,.int .i64 web.length),(22,.int .i64 i),(38,.bool false)]/\Le h3 h4/\WF h4/\∀q,0<i->web[i-1]?=some q->Nz q p<0)
 .intro cont
  by_cases i0:i=0
  .have z : ((0 : Int) < (i : Int)) = False := eq_false NH
   refine gh (tA [0,1,2,3,4,5,6,7,8] (JQ 9 [2,7,8] (tA [10,11] .done))) ?_;simp only[kJJ,Nat.reduceLT,↓reduceIte,Nat.reduceEqDiff,reduceCtorEq,Nat.reduceBEq,Qg,gt_iff_lt,z];exact KN.UJ fun fr' h' x y=>cont fr' h' (by subst x y;exact⟨fD,Le.refl _,bx,fun q h=>by omega⟩)
  .have z : ((0 : Int) < (i : Int)) = True := eq_true NH
   have H:=CA (show i-1<web.length by omega);generalize web[i-1]'(by omega)=q at H
   have I:awrap .i64 ((i:Int)-1)=((i-1:Nat):Int):=by rw[cT _ NH NH];omega
   have ag:=hw.addr (k:=.i64) (i-1) NH;have bB:=(w.le D).load H;have LP:=uM d;refine gh (tA [0,1,2,3,4,5,6,7,8] (JQ 9 [2,7,8] (tA [10,11] .done))) ?_;refine CO (bG @gt_iff_lt.{0} z I ag bB LP) ?_
   refine VA.intro PJ ⟨Tryz.func167,rfl,WY⟩ (yu W0 q p h3) ?_;rintro x h4 aF ⟨rfl,f⟩;have Q:=uM (f.own _ _ d);have V:=((w.le D).le f).load H;by_cases d3:Nz q p>=0
   .refine CO (bG z I ag V Q d3) ?_
    refine⟨⟨_,_,false,rfl,⟨rfl,rfl⟩,⟨fun e=>(by cases e),fun e=>absurd e (aD ⟨i-1,q,p,H,by rw[show i-1+1=i by omega];exact O,NH⟩)⟩,fun e=>by cases e⟩,((s.trans U).trans f)⟩
   .simp only [kJJ, Nat.reduceLT, ↓reduceIte, Nat.reduceEqDiff, reduceCtorEq, Nat.reduceBEq, Qg, z, I, ag, V, Q, d3]
    exact KN.UJ fun fr' h' x y=>cont fr' h' (by subst x y;exact⟨fD,f,aF,fun q' _ m=>by rw[H]at m;injection m with m;subst m;omega⟩)
 rintro fr h4 ⟨u,f,aF,bF⟩;simp only[Fj]at u;obtain⟨g1,g2,g7,g8,aH,aJ,aK,bH,bI,-⟩:=u;have J:=U.trans f;have bN:=lA h4 J;have Q:=uM (f.own _ _ d);refine Sk (adG bI g2 aH @Di @Ip.eq_1 @XJ bN.2.2 Q) ?_;refine TC.intro PJ ⟨Tryz.func70,rfl,WY⟩ (xm W0 167 Tryz.f167 _ ⟨Tryz.func167,rfl,WY⟩ (fun p q h=>yu W0 p q h) ev es p h4 (hp.le (s.trans J)) NH S) ?_;rintro x h5 cf ⟨⟨l,b,rfl,bQ,bW⟩,R⟩;have W:=J.trans R;cases b with
 |false=>
  refine Uy ?_;exact⟨⟨_,_,false,rfl,⟨rfl,rfl⟩,⟨fun e=>(by cases e),fun q=>absurd (q.mem p (Gc O)) (bW rfl)⟩,fun e=>by cases e⟩,s.trans W⟩
 |true=>
 have aj:=bQ rfl;have K:=Gc aj;obtain⟨p1,p2,p3⟩:=al p K;obtain⟨a,c⟩:=p;simp only at p1 p2 p3;obtain⟨a,rfl⟩:=WA p1;obtain⟨c,rfl⟩:=WA (show 0<=c by omega);have X:=(Ny.1 aj).1;have bY:=R.own _ _ (f.own _ _ az);have cg:=R.own _ _ (f.own _ _ aC);have aP:=R.own _ _ (f.own _ _ d);have ck:A≠E:=fun e=>by subst e;rw[az]at d;injection d with d;injection d with d;cases hx:(ofM es (web.take i))with|nil=>rw[hx]at d;cases d|cons y ys=>rw[hx]at d;injection d with d _;cases d
 have cm:C≠E:=fun e=>by subst e;rw[aC]at d;injection d with d;injection d with d;cases hx:(Cb n (web.take i))with|nil=>rw[hx]at d;cases d|cons y ys=>rw[hx]at d;injection d with d _;cases d
 have bZ:∀k:IntKind,aIndexAddr Tryz.prog 59 (.slice (some ⟨A,0,none⟩) es.length es.length) (.int k l)=some (.pointer (some ⟨A,l,none⟩)):=fun k=>by rw[Wc eY AV Ji l X];simp[Ip]
 have aT:∀(k:IntKind) (j:Nat),j<n->aIndexAddr Tryz.prog 59 (.slice (some ⟨C,0,none⟩) n n) (.int k j)=some (.pointer (some ⟨C,j,none⟩)):=fun k j hj=>by rw[Wc eY AV Ji j hj];simp[Ip]
 have st1:=QB (P:=Tryz.prog) (t:=4) (x:=.bool true) AV Ji bY (off:=l) (by simp[c8,X]) rfl rfl;have b0:(h5.put A (.cells (((ofM es (web.take i)).map Value.bool).set l (.bool true)))).own C=some (.cells ((Cb n (web.take i)).map Value.bool)):=by grind [AHeap.By]
 have aW:(h5.put A (.cells (((ofM es (web.take i)).map Value.bool).set l (.bool true)))).own E=some (.cells (xM ((a:Int),(c:Int)))):=by grind [AHeap.By]
 have cp:(h5.put A (.cells (((ofM es (web.take i)).map Value.bool).set l (.bool true)))).own A=some (.cells ((ofM es (web.take (i+1))).map Value.bool)):=by rw[AHeap.Y3,ae,yV S aj,ac9]
 have b2:=W.put (.cells (((ofM es (web.take i)).map Value.bool).set l (.bool true))) nA;generalize h5.put A (.cells (((ofM es (web.take i)).map Value.bool).set l (.bool true)))=h6 at*;have st2:=QB (P:=Tryz.prog) (t:=4) (x:=.bool true) AV Ji b0 (off:=a) (by simp[Qe];omega) rfl rfl;have b3:(h6.put C (.cells (((Cb n (web.take i)).map Value.bool).set a (.bool true)))).own C=some (.cells (((Cb n (web.take i)).map Value.bool).set a (.bool true))):=AHeap.Y3 _ _ _;have aX:(h6.put C (.cells (((Cb n (web.take i)).map Value.bool).set a (.bool true)))).own E=some (.cells (xM ((a:Int),(c:Int)))):=by grind [AHeap.By]
 have cq:(h6.put C (.cells (((Cb n (web.take i)).map Value.bool).set a (.bool true)))).own A=some (.cells ((ofM es (web.take (i+1))).map Value.bool)):=by grind [AHeap.By]
 have b4:=b2.put (.cells (((Cb n (web.take i)).map Value.bool).set a (.bool true))) nC;generalize h6.put C (.cells (((Cb n (web.take i)).map Value.bool).set a (.bool true)))=h7 at*;have st3:=QB (P:=Tryz.prog) (t:=4) (x:=.bool true) AV Ji b3 (off:=c) (by simp[Qe];omega) rfl rfl;have a6:=lK aP;have a7:=HY aP;have a8:=lK aW;have bb:=HY aW;have bg:=lK aX;have bh:=HY aX;simp only at a6 a7 a8 bb bg bh;refine Uy ?_;refine gh (tA [0,1,2,3,4,5,6,7,8] (JQ 9 [0,1,8] (tA [10] (JQ 11 [0,1,2,3,4,8,9,10] (tA [12] (JQ 13 [0,1,2,3,4,5,6,7,8,9,10,11,12] .done)))))) ?_;simp only[HO,Nat.reduceLT,↓reduceIte,Nat.reduceEqDiff,reduceCtorEq,Nat.reduceBEq,Qg,g1,g2,g7,g8,aH,aJ,aK,bH,Dh,Z0,Ip,XJ,a6,a7,a8,bb,bg,bh,bZ,aT _ a NH,aT _ c NH,st1,st2,st3,aaa i NH];refine tn (web.length-(i+1)) [(1,r),(2,.pointer (some ⟨B,0,none⟩)),(7,.slice (some ⟨A,0,none⟩) es.length es.length),(8,.slice (some ⟨C,0,none⟩) n n),(20,r),(21,.int .i64 web.length),(22,.int .i64 (i+1:Nat))] NH (by simp only[Fj,HO,Nat.reduceLT,↓reduceIte,Nat.reduceEqDiff,reduceCtorEq,g1,g2,g7,g8,aJ,aK];simp)
  ⟨i+1,rfl,M,rfl,by grind [AHeap.By],by rw[AHeap.Y3,ae,mc];simp[ac9],b4.put _ nC,fun j q hj hq=>?_,fun j q q' hj hq m=>?_⟩
 .grind
 .by_cases e : j + 1 = i
  .have : web[i - 1]? = some q := by rw [<- e]; grind
   grind
  .exact aa j q q' NH hq m
variable {α:Type}
def fG:∀n:Nat,n<=300->IntKind.u64.wrap ((BitVec.ofInt IntKind.u64.bits (n:Int) &&& BitVec.ofInt IntKind.u64.bits 4294967295).toNat:Nat)=(n:Int):=by
 intro n a;have:∀k:Fin 301,IntKind.u64.wrap ((BitVec.ofInt IntKind.u64.bits ((k:Nat):Int) &&& BitVec.ofInt IntKind.u64.bits 4294967295).toNat:Nat)=((k:Nat):Int):=by decide+kernel
 exact this ⟨n,NH⟩
theorem KR (n:Nat) (a:n<=300):aShift .shr .u64 (n:Int) 32=some (.int .u64 0):=by
 simp[aShift,IntKind.bits]
 grind
theorem sS (n:Nat) (a:n<=300):awrap .u64 (n:Int)=n:=by grind [awrap]
theorem Ld (b:LA) (n:Nat) (a:n<=300) (h:AHeap):AC Tryz.prog b 170 [.int .u64 1,.int .u64 n] h fun x h'=>x=.tuple #[.int .u64 0,.int .u64 n]/\h'=h:=by
 refine AC.vE ⟨Tryz.func170,rfl,WY⟩ Tryz.ntmps170 Tryz.results170 fun c=>?_;simp only[Br,Nat.reduceAdd];have a1:IntKind.u64.wrap ((BitVec.ofInt IntKind.u64.bits 1 &&& BitVec.ofInt IntKind.u64.bits 4294967295).toNat:Nat)=1:=fG 1 WY;have a2:aShift .shr .u64 1 32=some (.int .u64 0):=KR 1 WY;have d:IntKind.u64.wrap ((BitVec.ofInt IntKind.u64.bits 0 &&& BitVec.ofInt IntKind.u64.bits 4294967295).toNat:Nat)=0:=fG 0 WY;have e:aShift .shr .u64 0 32=some (.int .u64 0):=KR 0 WY;have f:=fG n a;have g:=KR n a;have i:awrap .u64 0=0:=by decide
 have j:=sS n a;refine Sk (Da a1 a2 d e f g i j @Int.mul_one @Int.one_mul @Int.mul_zero @Int.zero_mul @Int.add_zero @Int.zero_add) ?_
 grind
theorem Mul_any (a:LA) (n:Nat) (b:n<=300) (h:AHeap):AC Tryz.prog a 144 [.int .u64 1,.int .u64 n] h fun x h'=>x=.tuple #[.int .u64 0,.int .u64 n]/\h'=h:=by
 refine AC.vE ⟨Tryz.func144,rfl,WY⟩ Tryz.ntmps144 Tryz.results144 fun c=>?_;simp only[Br,Nat.reduceAdd];refine Uy ?_;refine TC.intro PJ ⟨Tryz.func170,rfl,WY⟩ (Ld a n b h) ?_;rintro v h'-⟨rfl,rfl⟩;refine Uy ?_
 grind
theorem cW (a b:α) (i n m:Nat) (c:min i (n-i)=m):List.take i (List.replicate i a++List.replicate (n-i) b)++List.take (m*1) (List.replicate i a)++List.drop (i+m*1) (List.replicate i a++List.replicate (n-i) b)=List.replicate (i+m) a++List.replicate (n-(i+m)) b:=by
 have d:List.take i (List.replicate i a++List.replicate (n-i) b)=List.replicate i a:=pw;have e:List.take (m*1) (List.replicate i a)=List.replicate m a:=pw;have e3:List.drop (i+m*1) (List.replicate i a++List.replicate (n-i) b)=List.replicate (n-(i+m)) b:=by
  rw[pQ,List.drop_append,List.drop_replicate,List.drop_replicate];simp;omega
 grind [List.replicate_append_replicate]
theorem rN (y:LA) (l:Value) (n:Nat) (p:n<=300) (h:AHeap) (q:RL RP h l [-1]):AC Tryz.prog y 104 [l,.int .i64 n] h fun v h'=>∃id,v=.slice (some ⟨id,0,none⟩) n n/\h.next<=id/\h'.own id=some (.cells (List.replicate n (.int .i64 (-1))))/\Le h h':=by
 refine AC.vE ⟨NQ,rfl,WY⟩ Tryz.ntmps104 Tryz.results104 fun d=>?_;simp only[Br,Nat.reduceAdd];have A:¬((n:Int)<0):=NH;have B:aLen Tryz.prog h 49 l=some (.int .i64 (1:Int)):=q.Uc h;have w1:awrap .u64 1=1:=by decide
 simp only[HO,Nat.reduceLT,↓reduceIte,Nat.reduceEqDiff,reduceCtorEq,A,B,aConvert,Mb,qS15,sS n p,w1];refine TC.intro PJ ⟨Tryz.func144,rfl,WY⟩ (Mul_any y n p h) ?_;rintro v h'-⟨rfl,rfl⟩;have C:¬((0:Int)<(0:Int)):=by decide
 have D:¬((9223372036854775807:Int)<(n:Int)):=NH;have mk:=Ye (P:=Tryz.prog) (t:=49) h' Ac rfl rfl rfl rfl Ji Mb Ji n NH;simp only[HO,Nat.reduceLT,↓reduceIte,Nat.reduceEqDiff,reduceCtorEq,C,D,aConvert,Mb,qS15,ie n NH NH,mk]
 have f:(h'.alloc (.cells (List.replicate n (.int .i64 0)))).own h'.next=some (.cells (List.replicate n (.int .i64 0))):=AHeap.zT _ _
 have hle:Le h' (h'.alloc (.cells (List.replicate n (.int .i64 0)))):=(Le.refl _).alloc d _
 have g:h'.own h'.next=none:=(Le.refl h').next d (qL0 _)
 generalize h'.alloc (.cells (List.replicate n (.int .i64 0)))=z at*
 have c:∃m h2,aCopy Tryz.prog z 49 (.slice (some ⟨h'.next,0,none⟩) n n) l=some (.int .i64 (m:Nat),h2)/\(n=0/\m=0\/1<=m/\m<=n)/\h2.own h'.next=some (.cells (List.replicate m (.int .i64 (-1))++List.replicate (n-m) (.int .i64 0)))/\Le h' h2:=by
  by_cases E:n=0
  .subst E
   exact⟨0,z,afl Ac Mb WY q.sl Ma,.inl ⟨rfl,rfl⟩,by simpa using f,hle⟩
  .obtain ⟨vs, F, hlen, hg⟩ := q
   have r:vs=[.int .i64 (-1)]:=by
    match vs,hlen with
    |[x],_=>rw[hg 0 (-1) x rfl rfl]
   subst r;refine⟨1,_,IQ (k:=1) Ac Mb rfl f (F.le hle).cs (by rfl) 1 (by simp;omega) WY (by simp;omega),.inr ⟨NH,NH⟩,?_,hle.put _ g⟩
   grind [AHeap.Y3]
 obtain⟨m,h2,G,H,s,j⟩:=c;refine Sk G ?_
 refine lIn (fun k fr hh=>∃i:Nat,k=n-i/\(n=0/\i=0\/1<=i/\i<=n)/\fr=mkF [(7,.slice (some ⟨h'.next,0,none⟩) n n),(8,.int .i64 i)]/\hh.own h'.next=some (.cells (List.replicate i (.int .i64 (-1))++List.replicate (n-i) (.int .i64 0)))/\Le h' hh) ⟨m,rfl,H,rfl,s,j⟩ ?_
 rintro k fr hh-⟨i,rfl,hi,rfl,f,hle⟩
 simp only[HO,Nat.reduceLT,↓reduceIte,Nat.reduceEqDiff,reduceCtorEq,show aLen Tryz.prog hh 49 (.slice (some ⟨h'.next,0,none⟩) n n)=some (.int .i64 n)from rfl]
 refine Kl.intro (fun I=>?_) (fun hf=>?_)
 .have u : i < n := CC I
  refine Uy ?_;refine gh (tA [0,1,2,3,4,5,6] (JQ 7 [3,6] (tA [8] (JQ 9 [0,1,2,3,4,5,6,7,8] .done)))) ?_;have b:n<RA:=afP p WY
  have s1:=yj (P:=Tryz.prog) (t:=49) (a:=some ⟨h'.next,0,none⟩) (n:=n) (cap:=n) (k:=.i64) Ac Mb rfl i NH (.inr u) (qL0 _) b
  have s2:=pn (P:=Tryz.prog) (t:=49) (a:=⟨h'.next,0,none⟩) (n:=n) (cap:=n) (k:=.i64) Ac Mb i NH (qL0 _) b
  simp only[uu,Ip,XJ]at s1
  have o:CS 1 hh (.slice (some ⟨h'.next,0,none⟩) i n) i (List.replicate i (.int .i64 (-1))):=by
   have:=CS.own (k:=1) (off:=0) (n:=i) (cap:=n) f Ma
   grind
  have w:=IQ (P:=Tryz.prog) (t:=49) (k:=1) (n:=i) (off:=i) (dl:=n-i) (dc:=n-i) (e:=3) Ac Mb rfl f o (all_rep rfl i) (min i (n-i)) rfl NH (by simp;omega);refine CO (xU s1 s2 w (ie ((i:Int)+((min i (n-i):Nat):Int)) NH NH)) ?_;refine lgA NH ⟨i+min i (n-i),rfl,NH,rfl,?_,hle.put _ g⟩
  grind [AHeap.Y3,cW]
 .have J : n <= i := vp hf
  have:i=n:=NH;subst this;refine Uy ?_
  grind
end
section
open Go.Proofs
variable {L c n w:Nat} {P:Program} {b0 h h':AHeap} {r:RZ} {rows:AM} {us:List Value} {v:Value} {α:Type}
def Bp (l:RZ):List Value:=l.map (Value.int .i64)
theorem uE (l:RZ):(Bp l).length=l.length:=by simp[Bp]
def yG (l:RZ):(Bp l).all (·.oneCell')=true:=by simp[Bp];intros;rfl
def DQ (h:AHeap) (x:Int):aBuildSlice Tryz.prog h 49 1 [(0,.int .i64 x)]=some (.slice (some ⟨h.next,0,none⟩) 1 1,h.alloc (.cells [.int .i64 x])):=rfl
theorem xr {t xt:TypeId} {v x v':Value} (hw:WF h) (e:aAppend P h t xt v x=some (v',h')):WF h':=by
 unfold aAppend at e;split at e
 .grind [WF.kill,WF.alloc,WF.put,WF.lt]
 .cases e
theorem grow (m:WF h) {G:AHeap} {R w q t:Nat} {us cells:List Value} {cu x:Value} {d:TypeDesc} (v:apT Tryz.prog t t 1=true) (y:Tryz.prog.underlying t=some d) (n:UA Tryz.prog t=1)
  (oR:h.own R=some (.cells us)) (hw:w<us.length) (g:GS 1 h cu q cells) (z:cells.all (·.oneCell')=true) (A:x.oneCell'=true) (H:q<=100000) (B:blk cu≠some R) (le:Le G h) (C:G.own R=none) (ap:Z2 G cu):
  ∃a k f j,h.alloc (.cells [x])=k/\aAppend Tryz.prog k t t cu (.slice (some ⟨h.next,0,none⟩) 1 1)=some (a,f)/\aStore Tryz.prog f t (.pointer (some ⟨R,w,none⟩)) a=some j/\GS 1 j a (q+1) (cells++[x])/\
   j.own R=some (.cells (us.set w a))/\blk a≠some R/\Z2 G a/\Le h k/\Le G f/\Le G j/\(∀b o,h.own b=some o->b≠R->blk cu≠some b->j.own b=some o/\blk a≠some b)/\(∀b o,h.own b=some o->blk cu≠some b->f.own b=some o)/\WF j:=by
 obtain⟨k,e4,c,e,D⟩:=Tt m [x];obtain⟨a,f,p,r,hf⟩:=(g.le c).push (P:=Tryz.prog) (t:=t) v D z A NH;obtain⟨s,u⟩:=aG hf e (c.own _ _ oR) B;obtain⟨l5,E⟩:=hf G e (le.trans c) ap;have l:WF f:=xr e p;have sl:=r.cs.sl;have st:=QB (P:=Tryz.prog) (t:=t) (x:=a) y n s (off:=w) hw (by obtain⟨_,_,rfl,_⟩:=sl;rfl) sl.one;refine⟨a,k,f,_,e4,p,st,r.put _ u,AHeap.Y3 _ _ _,u,E,c,l5,l5.put _ C,fun b o hb F i=>?_,fun b o hb i=>(aG hf e (c.own _ _ hb) i).1,l.put _ (l.lt s)⟩;obtain⟨r1,r2⟩:=aG hf e (c.own _ _ hb) i
 grind [AHeap.By]
structure Rows (b0 h:AHeap) (L:Nat) (us:List Value) (rows:AM):Prop where
 oL:h.own L=some (.cells us)
 len:us.length=rows.length
 gs:∀(v:Nat) u r,us[v]?=some u->rows[v]?=some r->GS 1 h u r.length (Bp r)
 nL:∀(v:Nat) u,us[v]?=some u->blk u≠some L
 TE:∀(v w:Nat) u u' b,v≠w->us[v]?=some u->us[w]?=some u'->blk u=some b->blk u'≠some b
 ap:∀(v:Nat) u,us[v]?=some u->Z2 b0 u
 le:Le b0 h
 bL:b0.own L=none
theorem Rows.up {b0 h h':AHeap} {L:Nat} {us:List Value} {rows:AM} (R:Rows b0 h L us rows) (e:Le h h'):Rows b0 h' L us rows:=
 ⟨e.own _ _ R.oL,R.len,fun v u r a b=>(R.gs v u r a b).le e,R.nL,R.TE,R.ap,R.le.trans e,R.bL⟩
theorem Rows.start (d:h.own L=some (.cells (List.replicate n (.slice none 0 0)))) (le:Le b0 h) (bL:b0.own L=none):Rows b0 h L (List.replicate n (.slice none 0 0)) (List.replicate n []):=by
 have c:∀(v:Nat) u,(List.replicate n (Value.slice none 0 0))[v]?=some u->u=.slice none 0 0:=fun v u a=>ahw (Gc a);refine⟨d,Ma,fun v u r a e=>?_,fun v u a=>?_,fun v w u u' b _ a _ hb=>?_,fun v u a b hb=>?_,le,bL⟩
 .rw[c v u a,show r=[]from ahw (Gc e)];exact .nil 1 _
 all_goals grind [blk]
theorem Rows.push (R:Rows b0 h L us rows) (p:WF h) (C:rows[w]?=some r) (x:Int) (D:r.length<=100000):
  ∃u u' m j l,us[w]?=some u/\h.alloc (.cells [.int .i64 x])=m/\aAppend Tryz.prog m 49 49 u (.slice (some ⟨h.next,0,none⟩) 1 1)=some (u',j)/\aStore Tryz.prog j 49 (.pointer (some ⟨L,w,none⟩)) u'=some l/\Le h m/\Le b0 j/\
   j.own L=some (.cells us)/\Rows b0 l L (us.set w u') (rows.set w (r++[x]))/\WF l/\(∀b o,h.own b=some o->b≠L->(∀(v:Nat) a,us[v]?=some a->blk a≠some b)->j.own b=some o/\l.own b=some o/\∀(v:Nat) a,(us.set w u')[v]?=some a->blk a≠some b):=by
 have f:w<us.length:=by grind [Rows.len]
 have i:=CA f;generalize us[w]=u at i;have g:=R.gs w u r i C;obtain⟨u',m,j,l,e4,E,F,H,o6,n6,I,l4,l5,l6,keep,d,s⟩:=grow p (G:=b0) (t:=49) (x:=.int .i64 x) Ji Ac Ji R.oL f g (yG _) rfl D (R.nL w u i) R.le R.bL (R.ap w u i);refine⟨u,u',m,j,l,i,e4,E,F,l4,l5,d _ _ R.oL (R.nL w u i),⟨o6,by simp[R.len],fun v a q ha c=>?_,fun v a ha=>?_,fun v v' a a' b y ha mi hb=>?_,fun v a ha=>?_,l6,R.bL⟩,s,fun b o hb z n=>⟨d b o hb (n w u i),(keep b o hb z (n w u i)).1,fun v a ha=>?_⟩⟩
 .rw [fj] at ha c
  by_cases e:w=v
  .grind [Bp]
  .rw [if_neg e] at ha c
   refine(R.gs v a q ha c).kept fun b o hb A=>(keep b o A (fun B=>R.nL v a ha pw) (fun B=>R.TE w v u a b e i ha B hb)).1
 .grind [Rows.nL]
 .rw [fj] at ha mi
  by_cases e:w=v
  .subst e
   rw[if_pos rfl,if_pos f]at ha;injection ha with ha;subst ha;rw[if_neg y]at mi;intro sZ;have k:∃q,rows[v']?=some q:=⟨_,CA (by grind [Rows.len])⟩;obtain⟨q,c⟩:=k;obtain⟨o,A⟩:=Db.1 ((R.gs v' a' q mi c).Sy sZ)
   grind [Rows.TE]
  .rw [if_neg e] at ha
   by_cases e':w=v'
   .subst e'
    rw[if_pos rfl,if_pos f]at mi;injection mi with mi;subst mi;have k:∃q,rows[v]?=some q:=⟨_,CA (by grind [Rows.len])⟩;obtain⟨q,c⟩:=k;obtain⟨o,A⟩:=Db.1 ((R.gs v a q ha c).Sy hb)
    grind [Rows.TE]
   grind [Rows.TE]
 all_goals grind [Rows.ap]
def isG (h:AHeap) (u:Value) (r:RZ):Prop:=GS 1 h u r.length (Bp r)
def RL.map {R R':AHeap->Value->α->Prop} {xs:List α} (r:RL R h v xs) (hR:∀u x,R h u x->R' h u x):RL R' h v xs:=by
 obtain⟨vs,q,a,b⟩:=r;exact⟨vs,q,a,fun i x u c d=>hR u x (b i x u c d)⟩
theorem isG.rl {u:Value} (g:isG h u r):RL RP h u r:=RL.Wh (GS.cs g).rs
theorem Rows.rlG (R:Rows b0 h L us rows) (a:us.length=n):RL isG h (.slice (some ⟨L,0,none⟩) n c) rows:=
 ⟨us,RS.whole R.oL a,R.len,fun i x u b d=>R.gs i u x d b⟩
theorem Rows.rl (R:Rows b0 h L us rows) (a:us.length=n):RL (RL RP) h (.slice (some ⟨L,0,none⟩) n c) rows:=
 ⟨us,RS.whole R.oL a,R.len,fun i x u b d=>RL.Wh (R.gs i u x d b).cs.rs⟩
def Xs (rows:AM) (p:Pr):AM:=
 let r1:=rows.set p.1.toNat ((rows.getD p.1.toNat [])++[p.2])
 r1.set p.2.toNat ((r1.getD p.2.toNat [])++[p.1])
def Zh (n:Nat) (es:List Pr):AM:=es.foldl Xs (List.replicate n [])
theorem pO (rows:AM) (p:Pr):(Xs rows p).length=rows.length:=by simp[Xs]
theorem Xq (n:Nat) (es:List Pr):(Zh n es).length=n:=by
 have:∀(es:List Pr) (rows:AM),(es.foldl Xs rows).length=rows.length:=by
  intro es
  induction es<;>grind [pO]
 grind [Zh.eq_1]
def NJ (n:Nat) (es:List Pr) (p:Pr):Zh n (es++[p])=Xs (Zh n es) p:=by simp[Zh]
theorem bV (n:Nat) (es:List Pr):∀r∈Zh n es,r.length<=2*es.length:=by
 have:∀(es:List Pr) (rows:AM) (k:Nat),(∀r∈rows,r.length<=k)->∀r∈es.foldl Xs rows,r.length<=k+2*es.length:=by
  intro es
  induction es with
  |nil=>grind
  |cons p es c=>
   intro rows k h r a;rw[u3]at a;have b:∀(l:AM) (m:Nat),(∀r∈l,r.length<=m)->∀i,(l.getD i []).length<=m:=fun l m e i=>by grind
   have d:∀r∈rows.set p.1.toNat ((rows.getD p.1.toNat [])++[p.2]),r.length<=k+1:=fun r a=>by grind
   have h2:∀r∈Xs rows p,r.length<=k+2:=fun r a=>by
    rcases xP a with h'|rfl
    .grind
    .have:=b _ (k+1) d p.2.toNat;grind
   have:=c (Xs rows p) (k+2) h2 r a;simp;omega
 intro r a;have:=this es (List.replicate n []) 0 (fun r a=>by grind) r a;omega
end
section
attribute [local irreducible] Kp MQ lU KO1 KO KN KX KE VK Kl ZJ TC aab
open Go.Proofs
theorem M3 (W0:LA) (v:Value) (n:Nat) (es:List Pr) (h:AHeap) (hg:GR h v ⟨(n:Int),es⟩) (hr:bX ⟨(n:Int),es⟩):AC Tryz.prog W0 32 [v] h fun x h'=>RL isG h' x (Zh n es)/\Le h h':=by
 have ay:=hg
 obtain⟨ev,rfl,hp⟩:=hg.open
 have bF:(n:Int)<=200:=hr.n1;have bH:es.length<=594:=hr.len;have y:∀p∈es,0<=p.1/\p.1<p.2/\p.2<(n:Int):=fun p az=>by
  obtain⟨i,hi⟩:=IE.1 az;exact(hr.ok i (Ny.1 hi).1 p hi).1
 refine AC.vE ⟨zC,rfl,WY⟩ Tryz.ntmps32 Tryz.results32 fun aC=>?_;simp only[Br,Nat.reduceAdd];obtain⟨h1,b1,A,bN,-,lA⟩:=r8 (n:=(n:Int)) aC hp
 generalize h.next=B at*
 have aD:=lA h1 (Le.refl _);have ll:=fun g=>hp.len g;simp only[HO,Nat.reduceLT,↓reduceIte,Nat.reduceEqDiff,reduceCtorEq,b1,aD.1];refine TC.intro PJ ⟨pE,rfl,WY⟩ (ak W0 _ _ h1 (ay.le A)) ?_;rintro x h2 C ⟨⟨bb,rfl,aF⟩,m⟩;obtain rfl:bb=true:=aF.2 hr;have aH:=lA h2 m;have mk:=Ye (P:=Tryz.prog) (t:=27) (z:=.slice none 0 0) h2 yU rfl rfl rfl rfl Ji Ac Ji n NH;obtain⟨h3,e3,aJ,bQ,o3⟩:=Tt C (List.replicate n (.slice none 0 0));rw[e3]at mk
 have nL:h2.own h2.next=none:=(Le.refl h2).next C (qL0 _)
 generalize h2.next=L at*
 have fT:=lA h3 (m.trans aJ);simp only[HO,Nat.reduceLT,↓reduceIte,Nat.reduceEqDiff,reduceCtorEq,Ii,Di,Ip,XJ,aH.2.1,mk,fT.2.2,ll];have R0:Rows h2 h3 L (List.replicate n (.slice none 0 0)) (Zh n (es.take 0)):=by grind [Zh,Rows.start]
 refine aab.intro (fun k fr hh=>∃(i:Nat) (us:List Value),k=es.length-i/\i<=es.length/\fr=mkF [(3,.slice (some ⟨L,0,none⟩) n n),(13,ev),(14,.int .i64 es.length),(15,.int .i64 i)]/\Rows h2 hh L us (Zh n (es.take i)))
  es.length [(3,.slice (some ⟨L,0,none⟩) n n),(13,ev),(14,.int .i64 es.length),(15,.int .i64 (0:Nat))] fD ⟨0,_,rfl,Og _,rfl,R0⟩ ?_
 rintro k fr hh D ⟨i,us,rfl,hi,rfl,R⟩;refine Uy ?_;refine Kl.intro (fun ht=>?_) (fun hf=>?_)
 rotate_left
 .have aK : es.length <= i := vp hf
  rw[yM aK]at R;refine Uy ?_
  grind [Rows.rlG,Rows.len,Xq,Le.trans,Rows.le]
 have l:i<es.length:=CC ht;clear ht;have o:=CA l;have F:es.take (i+1)=es.take i++[es[i]]:=Sb l;generalize es[i]=p at o F;obtain⟨p1,p2,p3⟩:=y p (Gc o);have aP:=hp.le ((A.trans m).trans R.le);have ad:=hp.addr (k:=.i64) i l;have ld:=aP.load o;obtain⟨bW,h4,e4,aT,aW,aX,G⟩:=Ut D p
 have a6:hh.own hh.next=none:=(Le.refl hh).next D (qL0 _)
 obtain⟨a,c⟩:=p;simp only at p1 p2 p3;obtain⟨a,rfl⟩:=WA p1;obtain⟨c,rfl⟩:=WA (show 0<=c by omega);have R4:=R.up aW
 have a7:∀(v:Nat) u,us[v]?=some u->blk u≠some hh.next:=fun v u hu hb=>by
  have a8:∃q,(Zh n (es.take i))[v]?=some q:=⟨_,CA (by grind [Rows.len])⟩;obtain⟨q,hq⟩:=a8;exact(R.gs v u q hu hq).Sy hb a6
 have H:hh.next≠L:=fun e=>by have:=R.oL;grind
 generalize hh.next=E at*
 simp only[HO,Nat.reduceLT,↓reduceIte,Nat.reduceEqDiff,reduceCtorEq,ad,ld,e4,aT];have bg:=bV n (es.take i);have bY:(es.take i).length<=594:=pw;have I:∀(k:IntKind) (j:Nat),j<n->aIndexAddr Tryz.prog 27 (.slice (some ⟨L,0,none⟩) n n) (.int k j)=some (.pointer (some ⟨L,j,none⟩)):=fun k j hj=>by rw[Wc yU Ac Ji j hj];simp[Ip]
 have J:a<(Zh n (es.take i)).length:=by grind [Xq]
 have K:=CA J;have M:(Zh n (es.take i)).getD a []=(Zh n (es.take i))[a]:=D4 J;have N:((Zh n (es.take i))[a]).length<=100000:=pw;generalize (Zh n (es.take i))[a]=ra at K M N;obtain⟨u,u',h5,h6,h7,hu,e5,e6,e7,l5,l6,bZ,R7,bh,keep⟩:=R4.push aX K (c:Int) N;obtain⟨d,b,O⟩:=keep _ _ G H a7;have Q:=lK G;have S:=HY G;have T:=lK (l5.own _ _ G);have U:=HY (l5.own _ _ G);have V:=lK d;have W:=HY d;have X:=lK b;have Y:=HY b;simp only at Q S T U V W X Y;have bk:aload Tryz.prog h4 49 ⟨L,a,none⟩=some u:=by rw[Fq Ac rfl R4.oL];exact hu
 have bm:aload Tryz.prog h5 49 ⟨L,a,none⟩=some u:=by rw[Fq Ac rfl (l5.own _ _ R4.oL)];exact hu
 have bs:aBuildSlice Tryz.prog h4 49 1 [(0,.int .i64 (c:Int))]=some (.slice (some ⟨h4.next,0,none⟩) 1 1,h5):=by rw[DQ,e5]
 refine gh (tA [0,1,2,3,4,5,6,7,8,9] (JQ 10 [9] (JQ 11 [7,10] (tA [12] (JQ 13 [0,1,2,3,4,5,6,7,8,9,10,11,12] .done))))) ?_;simp only[HO,Nat.reduceLT,↓reduceIte,Nat.reduceEqDiff,reduceCtorEq,Nat.reduceBEq,Qg,Dh,Z0,Ip,XJ,Q,S,T,U,V,W,I _ a NH,bk,bm,bs,e6,e7];have b0:((Zh n (es.take i)).set a (ra++[(c:Int)])).length=n:=by simp[Xq]
 have r:c<((Zh n (es.take i)).set a (ra++[(c:Int)])).length:=NH;have Z:=CA r;have aa:((Zh n (es.take i)).set a (ra++[(c:Int)])).getD c []=((Zh n (es.take i)).set a (ra++[(c:Int)]))[c]:=D4 r;have ae:(((Zh n (es.take i)).set a (ra++[(c:Int)]))[c]).length<=100000:=by
  rcases xP (ZT r)with e|e
  .grind
  .rw[e];simp;grind
 generalize ((Zh n (es.take i)).set a (ra++[(c:Int)]))[c]=rc at Z aa ae;obtain⟨w,w',h8,h9,b2,hw,e8,e9,bo,l8,l9,b3,ag,bI,s⟩:=R7.push bh Z (a:Int) ae;obtain⟨f,aj,-⟩:=s _ _ b H O;have al:=lK (l8.own _ _ b);have aq:=HY (l8.own _ _ b);have ar:=lK f;have av:=HY f;simp only at al aq ar av;have br:aload Tryz.prog h7 49 ⟨L,c,none⟩=some w:=by rw[Fq Ac rfl R7.oL];exact hw
 have bx:aload Tryz.prog h8 49 ⟨L,c,none⟩=some w:=by rw[Fq Ac rfl (l8.own _ _ R7.oL)];exact hw
 have bB:aBuildSlice Tryz.prog h7 49 1 [(0,.int .i64 (a:Int))]=some (.slice (some ⟨h7.next,0,none⟩) 1 1,h8):=by rw[DQ,e8]
 refine gh (tA [0,1,2,3,4,5,6,7,8,9] (JQ 10 [9] (JQ 11 [7,10] (tA [12] (JQ 13 [0,1,2,3,4,5,6,7,8,9,10,11,12] .done))))) ?_;simp only[HO,Nat.reduceLT,↓reduceIte,Nat.reduceEqDiff,reduceCtorEq,Nat.reduceBEq,Qg,Dh,Z0,Ip,XJ,X,Y,al,aq,ar,av,I _ c NH,br,bx,bB,e9,bo,aaa i NH];have:Xs (Zh n (es.take i)) ((a:Int),(c:Int))=((Zh n (es.take i)).set a (ra++[(c:Int)])).set c (rc++[(a:Int)]):=by simp only[Xs,HV,M,aa]
 rw[<-this,<-NJ,<-F]at ag;exact tn (es.length-(i+1)) [(3,.slice (some ⟨L,0,none⟩) n n),(13,ev),(14,.int .i64 es.length),(15,.int .i64 (i+1:Nat))] NH fD ⟨i+1,_,rfl,l,rfl,ag⟩
def oe (a:LA) (v:Value) (n:Nat) (es:List Pr) (h:AHeap) (hg:GR h v ⟨(n:Int),es⟩) (b:bX ⟨(n:Int),es⟩):AC Tryz.prog a 32 [v] h fun x h'=>RL (RL RP) h' x (Zh n es)/\Le h h':=
 (M3 a v n es h hg b).mono fun _ _ h=>⟨h.1.map fun _ _ g=>g.rl,h.2⟩
end
section
open Go.Proofs
def aO (p:Pr) (v:Int):Bool:=decide (p.1=v)||decide (p.2=v)
def onE (ps:List Pr) (v:Int):Bool:=ps.any fun p=>aO p v
def eqP (p q:Pr):aEq Tryz.prog 38 (UI p) (UI q)=some (decide (p=q)):=by
 have e:p=q↔p.1=q.1/\p.2=q.2:=Prod.ext_iff;simp only[aEq,qS8,Mb,UI,allInts,ts3];by_cases a:p.1=q.1
 .by_cases h2 : p.2 = q.2
  .simp[e,a,h2]
  .simp[e,a,h2]
 .simp[e,a]
def gfP (p:Pr):guardFree (UI p)=true:=rfl
def abinP (p q:Pr):mM Tryz.prog .eql 38 (UI p) (UI q)=some (.bool (decide (p=q)))/\mM Tryz.prog .neq 38 (UI p) (UI q)=some (.bool (!decide (p=q))):=by
 have a:abin Tryz.prog .eql 38 (UI p) (UI q)=match aEq Tryz.prog 38 (UI p) (UI q)with|some b=>some (.bool b)|none=>none:=rfl
 have h2:abin Tryz.prog .neq 38 (UI p) (UI q)=match aEq Tryz.prog 38 (UI p) (UI q)with|some b=>some (.bool (!b))|none=>none:=rfl
 constructor
 .rw[mM,gfP,cond_true,a,eqP]
 .rw[mM,gfP,cond_true,h2,eqP]
def hasB (ps:List Pr) (p:Pr):Bool:=ps.any fun q=>decide (q=p)
def aeP (ps:List Pr) (p:Pr):hasB ps p=true↔p∈ps:=by simp[hasB]
end
section
attribute [local irreducible] Kp MQ lU KO1 KO KN KX KE VK Kl ZJ TC aab
open Go.Proofs
theorem abn (u:LA) (v w:Value) (ps a:List Pr) (h:AHeap) (n:PR h v ps) (hw:PR h w a) (A:ps.length<=100000):AC Tryz.prog u 39 [v,w] h fun x h'=>x=.bool (decide (ps=a))/\h'=h:=by
 refine AC.vE ⟨Tryz.func39,rfl,WY⟩ Tryz.ntmps39 Tryz.results39 fun y=>?_;simp only[Br,Nat.reduceAdd];have o:=fun g=>n.len g;have lw:=fun g=>hw.len g;by_cases c:(ps.length:Int)=(a.length:Int)
 rotate_left
 .simp only [HO, Nat.reduceLT, ↓reduceIte, Nat.reduceEqDiff, reduceCtorEq, o, lw, bne, eq_false c]
  exact⟨by rw[decide_eq_false (fun e=>c (by rw[e]))],trivial⟩
 have c':ps.length=a.length:=NH;simp only[HO,Nat.reduceLT,↓reduceIte,Nat.reduceEqDiff,reduceCtorEq,o,lw,bne,eq_true c];refine lIn (fun k fr hh=>∃i:Nat,k=ps.length-i/\i<=ps.length/\hh=h/\fr=mkF [(0,v),(1,w),(5,.int .i64 i)]/\ps.take i=a.take i) ⟨0,rfl,Og _,rfl,rfl,rfl⟩ ?_;rintro k fr hh-⟨i,rfl,hi,rfl,rfl,s⟩;refine Sk o ?_;refine Kl.intro (fun z=>?_) (fun hf=>?_)
 .have b : i < ps.length := CC z
  have f:=CA b;have j:=CA (show i<a.length by omega);have t1:ps.take (i+1)=ps.take i++[ps[i]]:=Sb b;have t:a.take (i+1)=a.take i++[a[i]'(by omega)]:=Sb NH
  generalize ps[i]=p at f t1;generalize a[i]'(by omega)=q at j t
  have ad:=n.addr (k:=.i64) i b;have ld:=n.load f;have l:=hw.addr (k:=.i64) i NH;have m:=hw.load j;have d:=(abinP p q).2;refine Uy ?_;refine gh (tA [0,1,2,3,4,5,6,7,8] .done) ?_;cases hb:decide (p=q)with
  |true=>
   rw[hb]at d;have e:=of_decide_eq_true hb;simp only[kS1,bLookup,bMapSet,wantA,Zm,stepOp,evalO,evalL,evalP,evalM,putDst,flat,kA,kB,Nat.reduceLT,↓reduceIte,kC,Nat.reduceEqDiff,aBuiltin,mM,guardFree,abin,aInt,aUn,aNilCheck,retQ,G8,aresults,aresultL,aresult,mkF,Yx,reduceCtorEq,kD,kE,kF,kG,kH,kI,kJ,kK,aExtract,calleeOf,kD1,Nat.reduceBEq,HoldsAll,kL,kM,kN,kO,ad,ld,l,m,d,-mM,aaa i NH];exact lgA NH ⟨i+1,rfl,b,rfl,rfl,by rw[t1,t,s,e]⟩
  |false=>
   rw[hb]at d;have e:=of_decide_eq_false hb;simp only[kS1,bLookup,bMapSet,wantA,Zm,stepOp,evalO,evalL,evalP,evalM,putDst,flat,kA,kB,Nat.reduceLT,↓reduceIte,kC,Nat.reduceEqDiff,aBuiltin,mM,guardFree,abin,aInt,aUn,aNilCheck,retQ,G8,aresults,aresultL,aresult,mkF,Yx,reduceCtorEq,kD,kE,kF,kG,kH,kI,kJ,kK,aExtract,calleeOf,kD1,Nat.reduceBEq,HoldsAll,kL,kM,kN,kO,ad,ld,l,m,d,-mM];exact by rw[decide_eq_false (fun e'=>e pw)]
 .have r : ps.length <= i := vp hf
  rw[yM r,yM NH]at s;refine Uy ?_
  grind
end
section
open Go.Proofs
variable {L:RZ} {cl cl':Nat->Nat->Prop} {es:List Pr} {met:II} {n u v w x:Nat} {on:Nat->Bool} {α:Type}
theorem cA (l:List α) (i j:Nat) (a d:α):(l.set i a).getD j d=if i=j/\i<l.length then a else l.getD j d:=pw
def aV (n:Nat) (es:List Pr):Prop:=∀p∈es,0<=p.1/\p.1<p.2/\p.2<(n:Int)
theorem bX.GD (b:bX ⟨(n:Int),es⟩):aV n es:=fun p a=>by
 obtain⟨i,hi⟩:=IE.1 a;exact(b.ok i (Ny.1 hi).1 p hi).1
def Jp (es:List Pr) (u w:Nat):Prop:=((u:Int),(w:Int))∈es\/((w:Int),(u:Int))∈es
theorem Jp.symm {es:List Pr} {u w:Nat} (h:Jp es u w):Jp es w u:=Or.symm h
theorem Jp.lt (a:aV n es) (h:Jp es u w):u<n/\w<n:=by
 rcases h with h|h<;>have:=a _ h<;>simp only at this<;>omega
theorem ahS (rows:AM) (p:Pr) (u:Nat) (x:Int) (a:p.1.toNat<rows.length) (h2:p.2.toNat<rows.length):
  x∈(Xs rows p).getD u []↔x∈rows.getD u []\/(p.1.toNat=u/\x=p.2)\/(p.2.toNat=u/\x=p.1):=by
 simp only[Xs,cA,adP]
 grind
theorem FH (n:Nat):∀(es:List Pr) (rows:AM),rows.length=n->aV n es->∀(u:Nat) (x:Int),x∈(es.foldl Xs rows).getD u []↔x∈rows.getD u []\/∃p∈es,(p.1.toNat=u/\x=p.2)\/(p.2.toNat=u/\x=p.1)
 |[],rows,_,_,u,x=>by simp
 |p::es,rows,c,a,u,x=>by
  have d:=a p Ma;rw[u3,FH n es _ (by grind [pO]) (fun q b=>a q (by simp[b])) u x,ahS rows p u x NH NH]
  grind
theorem EW (d:aV n es) (u w:Nat):(w:Int)∈(Zh n es).getD u []↔Jp es u w:=by
 have c:(List.replicate n ([]:RZ)).getD u []=[]:=pw;rw[Zh,FH n es _ Ma d,c];simp only[EP,false_or,Jp];constructor
 .rintro ⟨⟨a, b⟩, e, ⟨f, h2⟩ | ⟨f, h2⟩⟩
  .have:=d _ e;grind
  .have:=d _ e;grind
 grind
theorem Ru (b:aV n es) {x:Int} (c:x∈(Zh n es).getD u []):∃w:Nat,x=(w:Int)/\w<n:=by
 have a:(List.replicate n ([]:RZ)).getD u []=[]:=pw;rw[Zh,FH n es _ Ma b,a]at c;simp only[EP,false_or]at c;obtain⟨p,d,⟨_,rfl⟩|⟨_,rfl⟩⟩:=c
 .have:=b _ d;exact⟨p.2.toNat,NH,NH⟩
 .have:=b _ d;exact⟨p.1.toNat,NH,NH⟩
inductive Cn (on:Nat->Bool) (es:List Pr):Nat->Nat->Prop
 |refl {u:Nat}:on u=false->Cn on es u u
 |step {u w x:Nat}:Cn on es u w->Jp es w x->on x=false->Cn on es u x
theorem Cn.off1 (h:Cn on es u w):on u=false:=by
 induction h with
 |refl h=>exact h
 |step _ _ _ a=>exact a
theorem Cn.AB (h:Cn on es u w):on w=false:=by
 cases h<;>grind
theorem Cn.trans (h:Cn on es u w) (k:Cn on es w x):Cn on es u x:=by
 induction k with
 |refl _=>exact h
 |step _ a o b=>exact b.step a o
theorem Cn.symm {on:Nat->Bool} {es:List Pr} {u w:Nat} (h:Cn on es u w):Cn on es w u:=by
 induction h with
 |refl h=>exact .refl h
 |step h a o b=>exact((Cn.refl o).step a.symm h.AB).trans b
structure TO (n:Nat) (on:Nat->Bool) (es:List Pr) (v:Nat) (L:RZ):Prop where
 len:L.length=n
 val:∀(u:Nat) l,L[u]?=some l->l=-1\/on u=false/\∃k:Nat,k<v/\l=(k:Int)/\Cn on es k u
 qi:∀(u w:Nat) l,L[u]?=some l->0<=l->Jp es u w->on w=false->L[w]?=some l
 low:∀u,u<v->u<n->on u=false->L[u]?≠some (-1)
structure TI (n:Nat) (on:Nat->Bool) (es:List Pr) (v:Nat) (L:RZ) (met:II) (cl:Nat->Nat->Prop):Prop where
 len:L.length=n
 val:∀(u:Nat) l,L[u]?=some l->l=-1\/on u=false/\∃k:Nat,k<=v/\l=(k:Int)/\Cn on es k u
 qi:∀(u w:Nat) l,L[u]?=some l->0<=l->l<(v:Int)->Jp es u w->on w=false->L[w]?=some l
 low:∀u,u<=v->u<n->on u=false->L[u]?≠some (-1)
 mm:∀u,u∈met↔L[u]?=some (v:Int)
 nd:met.Nodup
 cl:∀u w,cl u w->L[w]?=some (v:Int)
theorem TO.start (n:Nat) (on:Nat->Bool) (es:List Pr):TO n on es 0 (List.replicate n (-1)):=
 ⟨Ma,fun u l h=>.inl (ahw (Gc h)),fun u w l h a=>by grind,fun u h=>by omega⟩
theorem TO.skip (t:TO n on es v L) (h:on v=true\/L[v]?≠some (-1)):TO n on es (v+1) L:=
 ⟨t.len,fun u l a=>(t.val u l a).imp id fun⟨b,k,h2,h3⟩=>⟨b,k,NH,h3⟩,t.qi,fun u c d e=>by grind [TO.low]⟩
theorem TO.begin (t:TO n on es v L) (j:v<n) (c:on v=false) (k:L[v]?=some (-1)) (cl:Nat->Nat->Prop) (b:∀u w,¬cl u w):TI n on es v (L.set v (v:Int)) [v] cl:=by
 have d:v<L.length:=pw;have f:∀u,u≠v->(L.set v (v:Int))[u]?=L[u]?:=fun u g=>by grind
 have heq:(L.set v (v:Int))[v]?=some (v:Int):=pw;refine⟨by simp[t.len],fun u l a=>?_,fun u w l a m o ha hw=>?_,fun u g p i=>?_,fun u=>?_,Ma,fun u w h=>absurd h (b u w)⟩
 .by_cases e : u = v
  .subst e;rw[heq]at a;injection a with a;exact .inr ⟨c,u,qL0 _,a.symm,.refl c⟩
  grind [TO.val]
 .grind [TO.qi]
 .grind [TO.low]
 grind [TO.val]
theorem TI.mono (t:TI n on es v L met cl) (h:∀u w,cl' u w->cl u w):TI n on es v L met cl':=
 ⟨t.len,t.val,t.qi,t.low,t.mm,t.nd,fun u w k=>t.cl u w (h u w k)⟩
theorem TI.off (t:TI n on es v L met cl) (a:u∈met):on u=false/\Cn on es v u:=by
 rcases t.val u _ ((t.mm u).1 a)with h|⟨h,k,_,h2,h3⟩
 all_goals grind
theorem TI.stay (t:TI n on es v L met cl) (f:u∈met) (ha:Jp es u w) (c:∃l,L[w]?=some l/\l≠-1) (h:∀a b,cl' a b->cl a b\/b=w):TI n on es v L met cl':=by
 refine⟨t.len,t.val,t.qi,t.low,t.mm,t.nd,fun a b k=>?_⟩;rcases h a b k with h|rfl
 .exact t.cl a b h
 .obtain ⟨l, d, g⟩ := c
  rcases t.val _ _ d with h'|⟨i,k,j,rfl,_⟩
  .grind
  .by_cases e : k = v
   .grind
   .have := t.qi b u (k : Int) d NH NH ha.symm (t.off f).1
    grind [TI.mm]
theorem TI.push (t:TI n on es v L met cl) (g:u∈met) (ha:Jp es u w) (c:on w=false) (f:L[w]?=some (-1)) (h:∀a b,cl' a b->cl a b\/b=w):
  TI n on es v (L.set w (v:Int)) (met++[w]) cl':=by
 have i:w<L.length:=(Ny.1 f).1;have j:∀x,x≠w->(L.set w (v:Int))[x]?=L[x]?:=fun x m=>by grind
 have heq:(L.set w (v:Int))[w]?=some (v:Int):=pw;have o:w∉met:=fun h=>by grind [TI.mm]
 refine⟨by simp[t.len],fun x l d=>?_,fun x y l d r s p z=>?_,fun x m A q=>?_,fun x=>?_,?_,fun a b k=>?_⟩
 .by_cases e : x = w
  .subst e;rw[heq]at d;injection d with d;exact .inr ⟨c,v,qL0 _,d.symm,(t.off g).2.step ha c⟩
  grind [TI.val]
 .grind [TI.qi]
 .grind [TI.low]
 .grind [TI.mm]
 .grind [TI.nd]
 .rcases h a b k with h | rfl
  .have := t.cl a b h
   grind
  .exact heq
theorem TI.finish (t:TI n on es v L met cl) (h:∀u w,u∈met->Jp es u w->on w=false->cl u w):TO n on es (v+1) L:=by
 refine⟨t.len,fun u l a=>(t.val u l a).imp id fun⟨b,k,h2,h3⟩=>⟨b,k,NH,h3⟩,fun u w l a d ha hw=>?_,fun u f g c=>?_⟩
 .rcases t.val u l a with h' | ⟨b, k, h2, rfl, _⟩
  .omega
  .by_cases e : k = v
   .subst e;exact t.cl u w (h u w ((t.mm u).2 a) ha hw)
   grind [TI.qi]
 grind [TI.low]
theorem TI.abP (t:TI n on es v L met cl):met.length<=n:=by
 have hs:met⊆List.range n:=fun u a=>by
  have:=(Ny.1 ((t.mm u).1 a)).1
  grind [TI.len]
 have:=t.nd.length_le_of_subset hs
 grind
structure wx (n:Nat) (on:Nat->Bool) (es:List Pr) (L:RZ):Prop where
 len:L.length=n
 off:∀u,u<n->on u=false->∃k:Nat,k<n/\L[u]?=some (k:Int)/\Cn on es k u
 same:∀u w,u<n->w<n->on u=false->on w=false->(L[u]?=L[w]?↔Cn on es u w)
theorem TO.done (d:aV n es) (t:TO n on es n L):wx n on es L:=by
 have off:∀u,u<n->on u=false->∃k:Nat,k<n/\L[u]?=some (k:Int)/\Cn on es k u:=fun u a f=>by grind [TO.len,TO.val,TO.low]
 refine⟨t.len,off,fun u w a hw g b=>⟨fun e=>?_,fun c=>?_⟩⟩
 .grind [Cn.symm,Cn.trans]
 .clear hw b
  induction c<;>grind [TO.qi]
end
section
attribute [local irreducible] Kp MQ lU KO1 KO KN KX KE VK Kl ZJ TC aab
open Go.Proofs
variable {h:AHeap} {i:Nat} {l:II} {ps:List Pr} {v:Value} {xs:RZ}
def GI (h:AHeap) (v:Value) (xs:RZ):Prop:=GS 1 h v xs.length (Bp xs)
theorem GI.le {h h':AHeap} {v:Value} {xs:RZ} (g:GI h v xs) (e:Le h h'):GI h' v xs:=GS.le g e
theorem GI.rl (g:GI h v xs):RL RP h v xs:=RL.Wh (GS.cs g).rs
theorem GI.nil (h:AHeap):GI h (.slice none 0 0) []:=GS.nil 1 h
theorem GI.push {h:AHeap} {v:Value} {xs:RZ} (g:GI h v xs) (d:WF h) (x:Int) (m:xs.length<=100000):
  ∃v' c a,aBuildSlice Tryz.prog h 49 1 [(0,.int .i64 x)]=some (.slice (some ⟨h.next,0,none⟩) 1 1,c)/\aAppend Tryz.prog c 49 49 v (.slice (some ⟨h.next,0,none⟩) 1 1)=some (v',a)/\GI a v' (xs++[x])/\WF a/\Le h c/\
   (∀f,Le f h->Z2 f v->Le f a/\Z2 f v')/\(∀b o,h.own b=some o->blk v≠some b->a.own b=some o/\blk v'≠some b):=by
 obtain⟨c,e4,l4,e,j⟩:=Tt d [.int .i64 x];obtain⟨v',a,i,n,hf⟩:=(GS.le g l4).push (P:=Tryz.prog) (t:=49) Ji j (yG _) rfl NH;refine⟨v',c,a,by rw[DQ,e4],i,?_,xr e i,l4,fun f k af=>hf f e (k.trans l4) af,fun b o l hb=>aG hf e (l4.own _ _ l) hb⟩
 grind [Bp,GI.eq_1]
def GP (h:AHeap) (v:Value) (ps:List Pr):Prop:=GS 2 h v ps.length (Iu ps)
theorem GP.le {h h':AHeap} {v:Value} {ps:List Pr} (g:GP h v ps) (e:Le h h'):GP h' v ps:=GS.le g e
theorem GP.pr (g:GP h v ps):PR h v ps:=GS.cs g
theorem GP.nil (h:AHeap):GP h (.slice none 0 0) []:=GS.nil 2 h
theorem GP.join {v x:Value} {ps c:List Pr} (g:GP h v ps) (d:WF h) (i:PR h x c) (l:ps.length+c.length<=1000000000):
  ∃v' a,aAppend Tryz.prog h 22 22 v x=some (v',a)/\GP a v' (ps++c)/\WF a/\
   (∀f,Le f h->Z2 f v->Le f a/\Z2 f v')/\(∀b o,h.own b=some o->blk v≠some b->a.own b=some o/\blk v'≠some b):=by
 obtain⟨v',a,m,n,hf⟩:=GS.append (P:=Tryz.prog) (t:=22) (xt:=22) (k:=2) Ji g (fun e j=>CS.src j i) (WI _) (WI _) (Ta _) NH
 grind [xr,aG,GP.eq_1,mZ]
theorem mkP1 (h:AHeap) (p:Pr):aBuildSlice Tryz.prog h 22 1 [(0,UI p)]=some (.slice (some ⟨h.next,0,none⟩) 1 1,h.alloc (.cells (xM p))):=rfl
theorem GP.push (g:GP h v ps) (d:WF h) (p:Pr) (l:ps.length+1<=100000):
  ∃v' c a,aBuildSlice Tryz.prog h 22 1 [(0,UI p)]=some (.slice (some ⟨h.next,0,none⟩) 1 1,c)/\aAppend Tryz.prog c 22 22 v (.slice (some ⟨h.next,0,none⟩) 1 1)=some (v',a)/\GP a v' (ps++[p])/\WF a/\Le h c/\
   (∀f,Le f h->Z2 f v->Le f a/\Z2 f v')/\(∀b o,h.own b=some o->blk v≠some b->a.own b=some o/\blk v'≠some b):=by
 obtain⟨c,e4,l4,e,i⟩:=Tt d (xM p)
 have j:PR c (.slice (some ⟨h.next,0,none⟩) 1 1) [p]:=by
  have:=CS.own (k:=2) (off:=0) (n:=1) (cap:=1) i (by simp[xM]);exact this
 obtain⟨v',a,m,q,r,hf,s⟩:=(g.le l4).join e j (by simp;omega)
 grind [mkP1,Le.trans,Le.own]
theorem yy (L:RZ) (i:Nat) (x:Int):(Bp L).set i (.int .i64 x)=Bp (L.set i x):=by simp[Bp,ac9]
def kz (l:II):RZ:=l.map fun(x:Nat)=>(x:Int)
theorem y6 (l:II):(kz l).length=l.length:=by simp[kz]
theorem sY (hi:i<l.length):(kz l)[i]'(by grind [y6])=((l[i]:Nat):Int):=by simp[kz]
theorem tS (W0:LA) (v o:Value) (n:Nat) (es:List Pr) (bs:List Bool) (h:AHeap) (hg:GR h v ⟨(n:Int),es⟩) (hr:bX ⟨(n:Int),es⟩) (hb:RL sJ h o bs) (b2:bs.length=n):
  AC Tryz.prog W0 135 [v,o] h fun x h'=>∃L,RL RP h' x L/\wx n (fun u=>bs.getD u false) es L/\Le h h':=by
 have bb:=hg
 obtain⟨ev,rfl,hp⟩:=hg.open
 have b0:(n:Int)<=200:=hr.n1;have hR:=hr.GD;refine AC.vE ⟨Tryz.func135,rfl,WY⟩ Tryz.ntmps135 Tryz.results135 fun bg=>?_;simp only[Br,Nat.reduceAdd];obtain⟨h1,b1,aa,b3,-,lA⟩:=r8 (n:=(n:Int)) bg hp
 generalize h.next=B at*
 have bh:=lA h1 (Le.refl _);simp only[HO,Nat.reduceLT,↓reduceIte,Nat.reduceEqDiff,reduceCtorEq,b1,bh.1];refine TC.intro PJ ⟨zC,rfl,WY⟩ (oe W0 _ n es h1 (bb.le aa) hr) ?_;rintro y hB bk ⟨G,H⟩;have b4:=lA hB H;obtain⟨h2,e2,Q,bm,o2⟩:=Tt bk [.int .i64 (-1)];have bo:=lA h2 (H.trans Q);simp only[HO,Nat.reduceLT,↓reduceIte,Nat.reduceEqDiff,reduceCtorEq,DQ,e2,Ii,Ip,XJ,bo.2.1];refine TC.intro PJ ⟨NQ,rfl,WY⟩ (rN W0 _ n NH h2 (RL.Wh (RS.whole o2 rfl))) ?_;rintro x h3 b5 ⟨T,rfl,hT,o3,av⟩;have fT:=lA h3 ((H.trans Q).trans av);have ay:=Q.trans av
 have nT:hB.own T=none:=Q.next bm hT
 have br:h3.own T=some (.cells (Bp (List.replicate n (-1)))):=by rw[o3];simp[Bp]
 simp only[HO,Nat.reduceLT,↓reduceIte,Nat.reduceEqDiff,reduceCtorEq,Ii,Ip,XJ,fT.2.1];let on:Nat->Bool:=fun u=>bs.getD u false;have b6:=hb.le Nn.sJ (aa.trans H);have az:∀g,Le hB g->∀u,u<n->aload Tryz.prog g 4 (elemAddr o u)=some (.bool (on u)):=fun g lg u hu=>by grind [RL.le,Nn.sJ,RL.W7]
 have z:∀(k:IntKind) (u:Nat),u<n->aIndexAddr Tryz.prog 59 o (.int k u)=some (.pointer (some (elemAddr o u))):=fun k u hu=>hb.LB u NH;have R:∀(k:IntKind) (j:Nat),j<n->aIndexAddr Tryz.prog 49 (.slice (some ⟨T,0,none⟩) n n) (.int k j)=some (.pointer (some ⟨T,j,none⟩)):=fun k j hj=>by rw[Wc Ac Mb Ji j hj];simp[Ip]
 have aC:∀(g:AHeap) (L:RZ) (j:Nat) (l:Int),g.own T=some (.cells (Bp L))->L[j]?=some l->aload Tryz.prog g 3 ⟨T,j,none⟩=some (.int .i64 l):=fun g L j l ho hl=>by rw[Fq Mb rfl ho];simp[Bp,hl]
 refine aab.intro (fun k fr hh=>∃(v:Nat) (L:RZ),k=n-v/\v<=n/\fr=mkF [(1,o),(5,y),(6,.slice (some ⟨T,0,none⟩) n n),(19,.int .i64 n),(20,.int .i64 v)]/\hh.own T=some (.cells (Bp L))/\Le hB hh/\TO n on es v L)
  n [(1,o),(5,y),(6,.slice (some ⟨T,0,none⟩) n n),(19,.int .i64 n),(20,.int .i64 (0:Nat))] fD ⟨0,_,rfl,Og _,rfl,br,ay,TO.start n on es⟩ ?_
 rintro k fr hh ae ⟨v,L,rfl,hv,rfl,oT,A,tO⟩;refine Uy ?_;refine Kl.intro (fun Y=>?_) (fun hf=>?_)
 rotate_left
 .have aD : n <= v := vp hf
  obtain rfl:v=n:=NH;refine Uy ?_;exact⟨L,RL.Wh (RS.whole oT (by grind [TO.len])),tO.done hR,(aa.trans H).trans A⟩
 have c:v<n:=CC Y;clear Y;have S:=CA (show v<L.length by grind [TO.len]);generalize L[v]'(by grind)=lv at S
 have C:=az hh A v c;have ag:=aC hh L v lv oT S;by_cases c1:on v=true
 .rw [c1] at C
  simp only[HO,Nat.reduceLT,↓reduceIte,Nat.reduceEqDiff,reduceCtorEq,z _ v c,C,aaa v NH];exact tn (n-(v+1)) [(1,o),(5,y),(6,.slice (some ⟨T,0,none⟩) n n),(19,.int .i64 n),(20,.int .i64 (v+1:Nat))] NH fD ⟨v+1,L,rfl,c,rfl,oT,A,tO.skip (.inl c1)⟩
 rw[VX]at c1;rw[c1]at C;by_cases c2:lv>=0
 .simp only [HO, Nat.reduceLT, ↓reduceIte, Nat.reduceEqDiff, reduceCtorEq, z _ v c, C, R _ v c, ag, c2, aaa v NH]
  exact tn (n-(v+1)) [(1,o),(5,y),(6,.slice (some ⟨T,0,none⟩) n n),(19,.int .i64 n),(20,.int .i64 (v+1:Nat))] NH fD ⟨v+1,L,rfl,c,rfl,oT,A,tO.skip (.inr (by rw[S];intro e;injection e with e;omega))⟩
 have Z:L[v]?=some (-1):=by grind [TO.val]
 have st1:aStore Tryz.prog hh 3 (.pointer (some ⟨T,v,none⟩)) (.int .i64 (v:Int))=some (hh.put T (.cells (Bp (L.set v (v:Int))))):=by rw[QB (P:=Tryz.prog) (t:=3) (x:=.int .i64 (v:Int)) Mb Ji oT (off:=v) (by rw[uE,tO.len];exact c) rfl rfl,yy]
 have D:WF (hh.put T (.cells (Bp (L.set v (v:Int))))):=ae.put _ (ae.lt oT);have I:Le hB (hh.put T (.cells (Bp (L.set v (v:Int))))):=A.put _ nT;have J:(hh.put T (.cells (Bp (L.set v (v:Int))))).own T=some (.cells (Bp (L.set v (v:Int)))):=AHeap.Y3 _ _ _;simp only[HO,Nat.reduceLT,↓reduceIte,Nat.reduceEqDiff,reduceCtorEq,z _ v c,C,R _ v c,ag,c2,st1];generalize hh.put T (.cells (Bp (L.set v (v:Int))))=h4 at*;obtain⟨h5,e5,aj,bx,o5⟩:=Tt D [.int .i64 (v:Int)]
 have nM:hB.own h4.next=none:=I.next D (qL0 _)
 have bB:T≠h4.next:=fun e=>by have:=D.lt J;omega
 simp only[HO,Nat.reduceLT,↓reduceIte,Nat.reduceEqDiff,reduceCtorEq,DQ,e5];have aF:=tO.begin c c1 Z (fun a w=>(∃j,j<0/\[v][j]?=some a)/\Jp es a w/\on w=false) (fun a w h=>by grind)
 have gM:GI h5 (.slice (some ⟨h4.next,0,none⟩) 1 1) (kz [v]):=GS.full o5 rfl (show 1<1000000000000 by decide)
 refine aab.intro (fun k fr m=>∃(i:Nat) (L:RZ) (d:Value) (met:II),k=n-i/\i<=met.length/\fr=mkF [(1,o),(5,y),(6,.slice (some ⟨T,0,none⟩) n n),(7,.int .i64 v),(8,d),(9,.int .i64 i),(19,.int .i64 n),(20,.int .i64 v)]/\
   m.own T=some (.cells (Bp L))/\Le hB m/\GI m d (kz met)/\blk d≠some T/\Z2 hB d/\TI n on es v L met (fun a w=>(∃j,j<i/\met[j]?=some a)/\Jp es a w/\on w=false))
  n [(1,o),(5,y),(6,.slice (some ⟨T,0,none⟩) n n),(7,.int .i64 v),(8,.slice (some ⟨h4.next,0,none⟩) 1 1),(9,.int .i64 (0:Nat)),(19,.int .i64 n),(20,.int .i64 v)] fD
  ⟨0,_,_,[v],rfl,Og _,rfl,aj.own _ _ J,I.trans aj,gM,by grind [blk],fun b hb=>by grind [blk],aF⟩ ?_
 clear aF gM bB nM o5 bx aj e5 h5 J I D st1 C ag S Z c2 oT A tO ae;clear h4 hh L;rintro k fr m U ⟨i,L,d,met,rfl,hi,rfl,oT,leq,gm,nm,am,E⟩;have lm:=fun g=>gm.rl.Uc g;have aH:=E.abP;rw[y6]at lm;simp only[HO,Nat.reduceLT,↓reduceIte,Nat.reduceEqDiff,reduceCtorEq,lm];refine Kl.intro (fun Y=>?_) (fun hf=>?_)
 rotate_left
 .have aD : met.length <= i := vp hf
  simp only[HO,Nat.reduceLT,↓reduceIte,Nat.reduceEqDiff,reduceCtorEq,aaa v NH];refine tn (n-(v+1)) [(1,o),(5,y),(6,.slice (some ⟨T,0,none⟩) n n),(19,.int .i64 n),(20,.int .i64 (v+1:Nat))] NH fD ⟨v+1,L,rfl,c,rfl,oT,leq,E.finish fun a w ha V bF=>⟨?_,V,bF⟩⟩
  grind [List.mem_iff_getElem?]
 have p:i<met.length:=CC Y;clear Y;have f:=CA p;have aJ:=sY p;have aK:=gm.rl.TA i (by rw[y6];exact p);have W:=gm.rl.DH i (by rw[y6];exact p);rw[aJ]at W;generalize met[i]=u at f W;clear aJ;have K:u∈met:=Gc f;have b8:u<n:=by have:=(Ny.1 ((E.mm u).1 K)).1;grind [TI.len]
 have al:u<(Zh n es).length:=by grind [Xq]
 have bH:=G.NS u al;obtain⟨uv,bI,s⟩:=G.Wm u al;have bN:(Zh n es).getD u []=(Zh n es)[u]:=D4 al;generalize (Zh n es)[u]=row at s bN;have lr:=fun g=>s.Uc g;have b9:row.length<=2000:=by
  have:=bV n es row (by grind);have:es.length<=594:=hr.len;omega
 simp only[HO,Nat.reduceLT,↓reduceIte,Nat.reduceEqDiff,reduceCtorEq,aK,W,bH,bI m leq,lr];have aP:TI n on es v L met (fun a w=>((∃j,j<i/\met[j]?=some a)/\Jp es a w/\on w=false)\/(a=u/\(w:Int)∈row.take 0/\on w=false)):=E.mono fun a w h=>by grind
 refine aab.intro (fun k fr m=>∃(q:Nat) (L:RZ) (d:Value) (met:II),k=row.length-q/\q<=row.length/\fr=mkF [(1,o),(5,y),(6,.slice (some ⟨T,0,none⟩) n n),(7,.int .i64 v),(8,d),(9,.int .i64 i),(19,.int .i64 n),(20,.int .i64 v),(52,uv),(53,.int .i64 row.length),(54,.int .i64 q)]/\
   m.own T=some (.cells (Bp L))/\Le hB m/\GI m d (kz met)/\blk d≠some T/\Z2 hB d/\met[i]?=some u/\TI n on es v L met (fun a w=>((∃j,j<i/\met[j]?=some a)/\Jp es a w/\on w=false)\/(a=u/\(w:Int)∈row.take q/\on w=false)))
  row.length [(1,o),(5,y),(6,.slice (some ⟨T,0,none⟩) n n),(7,.int .i64 v),(8,d),(9,.int .i64 i),(19,.int .i64 n),(20,.int .i64 v),(52,uv),(53,.int .i64 row.length),(54,.int .i64 (0:Nat))] fD
  ⟨0,L,d,met,rfl,Og _,rfl,oT,leq,gm,nm,am,f,aP⟩ ?_
 clear aP aK W lm;clear K f p aH E am nm gm leq oT U hi;clear m L d met;rintro k fr m U ⟨q,L,d,met,rfl,cc,rfl,oT,leq,gm,nm,am,f,E⟩;have K:u∈met:=Gc f;have aH:=E.abP;have p:=(Ny.1 f).1;refine Uy ?_;refine Kl.intro (fun Y=>?_) (fun hf=>?_)
 rotate_left
 .have aD : row.length <= q := vp hf
  simp only[HO,Nat.reduceLT,↓reduceIte,Nat.reduceEqDiff,reduceCtorEq,aaa i NH];refine tn (n-(i+1)) [(1,o),(5,y),(6,.slice (some ⟨T,0,none⟩) n n),(7,.int .i64 v),(8,d),(9,.int .i64 (i+1:Nat)),(19,.int .i64 n),(20,.int .i64 v)] NH fD ⟨i+1,L,d,met,rfl,p,rfl,oT,leq,gm,nm,am,E.mono fun a w h=>?_⟩
  grind [EW]
 have F:q<row.length:=CC Y;clear Y;have aq:=s.TA q F;have X:=(s.le Nn.RP leq).DH q F;have bQ:row.take (q+1)=row.take q++[row[q]]:=Sb F;have ar:row[q]∈(Zh n es).getD u []:=pw;generalize row[q]=x at X bQ ar;obtain⟨w,rfl,r⟩:=Ru hR ar;have V:=(EW hR u w).1 ar;have M:=CA (show w<L.length by grind [TI.len]);generalize L[w]'(by grind)=lw at M
 have N:=az m leq w r;have aT:=aC m L w lw oT M;by_cases c3:on w=true
 .rw [c3] at N
  simp only[HO,Nat.reduceLT,↓reduceIte,Nat.reduceEqDiff,reduceCtorEq,aq,X,z _ w r,N,aaa q NH];refine tn (row.length-(q+1)) [(1,o),(5,y),(6,.slice (some ⟨T,0,none⟩) n n),(7,.int .i64 v),(8,d),(9,.int .i64 i),(19,.int .i64 n),(20,.int .i64 v),(52,uv),(53,.int .i64 row.length),(54,.int .i64 (q+1:Nat))] NH fD
   ⟨q+1,L,d,met,rfl,F,rfl,oT,leq,gm,nm,am,f,E.mono fun a b h=>?_⟩
  rcases h with h|⟨h1,h2,h3⟩
  .exact .inl h
  grind
 rw[VX]at c3;rw[c3]at N;have aW:∀(O:II),(∀j,j<met.length->O[j]?=met[j]?)->∀a b,((∃j,j<i/\O[j]?=some a)/\Jp es a b/\on b=false)\/(a=u/\(b:Int)∈row.take (q+1)/\on b=false)->
   (((∃j,j<i/\met[j]?=some a)/\Jp es a b/\on b=false)\/(a=u/\(b:Int)∈row.take q/\on b=false))\/b=w:=fun O hm a b h=>by
  rcases h with⟨⟨j,hj,cd⟩,h2⟩|⟨h1,h2,h3⟩
  .grind
  grind
 by_cases c4:lw<0
 rotate_left
 .simp only [HO, Nat.reduceLT, ↓reduceIte, Nat.reduceEqDiff, reduceCtorEq, aq, X, z _ w r, N, R _ w r, aT, c4, aaa q NH]
  exact tn (row.length-(q+1)) [(1,o),(5,y),(6,.slice (some ⟨T,0,none⟩) n n),(7,.int .i64 v),(8,d),(9,.int .i64 i),(19,.int .i64 n),(20,.int .i64 v),(52,uv),(53,.int .i64 row.length),(54,.int .i64 (q+1:Nat))] NH fD
   ⟨q+1,L,d,met,rfl,F,rfl,oT,leq,gm,nm,am,f,E.stay K V ⟨lw,M,NH⟩ (aW met fun _ _=>rfl)⟩
 have aX:L[w]?=some (-1):=by
  rcases E.val w lw M with rfl|⟨_,k,_,rfl,_⟩
  .exact M
  .omega
 have st1:aStore Tryz.prog m 3 (.pointer (some ⟨T,w,none⟩)) (.int .i64 (v:Int))=some (m.put T (.cells (Bp (L.set w (v:Int))))):=by rw[QB (P:=Tryz.prog) (t:=3) (x:=.int .i64 (v:Int)) Mb Ji oT (off:=w) (by rw[uE,E.len];exact r) rfl rfl,yy]
 have D:WF (m.put T (.cells (Bp (L.set w (v:Int))))):=U.put _ (U.lt oT);have I:Le hB (m.put T (.cells (Bp (L.set w (v:Int))))):=leq.put _ nT;have J:(m.put T (.cells (Bp (L.set w (v:Int))))).own T=some (.cells (Bp (L.set w (v:Int)))):=AHeap.Y3 _ _ _;have bW:GI (m.put T (.cells (Bp (L.set w (v:Int))))) d (kz met):=GS.put gm _ nm;simp only[HO,Nat.reduceLT,↓reduceIte,Nat.reduceEqDiff,reduceCtorEq,aq,X,z _ w r,N,R _ w r,aT,c4,st1];generalize m.put T (.cells (Bp (L.set w (v:Int))))=h4 at*;obtain⟨a7,h5,h6,e5,e6,g6,w6,l5,hf,hk⟩:=bW.push D (w:Int) (by grind [y6]);obtain⟨l6,a6⟩:=hf hB I am;obtain⟨bY,bZ⟩:=hk T _ J nm;have a8:kz met++[(w:Int)]=kz (met++[w]):=by simp[kz]
 rw[a8]at g6;simp only[HO,Nat.reduceLT,↓reduceIte,Nat.reduceEqDiff,reduceCtorEq,e5,e6,aaa q NH];exact tn (row.length-(q+1)) [(1,o),(5,y),(6,.slice (some ⟨T,0,none⟩) n n),(7,.int .i64 v),(8,a7),(9,.int .i64 i),(19,.int .i64 n),(20,.int .i64 v),(52,uv),(53,.int .i64 row.length),(54,.int .i64 (q+1:Nat))] NH fD
  ⟨q+1,_,a7,met++[w],rfl,F,rfl,bY,l6,g6,bZ,a6,by rw[Eh p];exact f,E.push K V c3 aX (aW _ fun j hj=>Eh hj)⟩
end
variable {es:List Pr} {i j n s t v w:Nat} {met:List Bool} {o opn tH:II} {up:RZ}
theorem D3.lt (a:D3 es) {p q:Pr} (b:i<j) (hi:es[i]?=some p) (c:es[j]?=some q):p.1<q.1\/p.1=q.1/\p.2<q.2:=(Hv p q).1 (a i j p q b hi c)
theorem OZ:∀(k:Nat) (es:List Pr),es.length=k->aV n es->D3 es->∀u,((Zh n es).getD u []).Pairwise (·<·):=by
 intro k
 induction k with
 |zero=>
  intro es d _ _ u;obtain rfl:=EH d;have f:(Zh n []).getD u []=[]:=by grind [Zh]
  rw[f];exact .nil
 |succ k s=>
  intro g d t ha u;obtain⟨es,p,rfl⟩:∃es p,g=es++[p]:=by
   rcases acg g with rfl|⟨es,p,h⟩
   all_goals grind
  have c:aV n es:=fun q m=>t q (by simp[m]);have mi:D3 es:=fun i j a b o hi B=>ha i j a b o pw pw;have s:=s es pw c mi;have C:=t p Ma;have low:∀u:Nat,∀x∈(Zh n es).getD u [],((u:Int)=p.1->x<p.2)/\((u:Int)=p.2->x<p.1):=by
   intro u x v;obtain⟨w,rfl,_⟩:=Ru c v;have l:=(EW c u w).1 v;have key:∀q∈es,q.1<p.1\/q.1=p.1/\q.2<p.2:=by
    intro q m;obtain⟨i,hi⟩:=IE.1 m;have r:=(Ny.1 hi).1;exact ha.lt (i:=i) (j:=es.length) r pw Ma
   rcases l with h|h<;>have y:=c _ h<;>have h2:=key _ h<;>simp only at y h2<;>constructor<;>intro e<;>omega
  have gd:∀(rows:AM) (x:Int) (i:Nat),(rows.set i (rows.getD i []++[x])).getD u []=if i=u/\i<rows.length then rows.getD u []++[x]else rows.getD u []:=pw
  rw[NJ];have z:=Xq n es;have y:p.1.toNat<n:=NH;simp only[Xs];rw[gd];simp only[adP,z];have A:=gd (Zh n es) p.2 p.1.toNat;rw[z]at A;rw[A];by_cases D:p.1.toNat=u
  .grind
  .by_cases E : p.2.toNat = u
   .grind
   grind
theorem KW (es:List Pr) (a:aV n es) (ha:D3 es) (u:Nat):((Zh n es).getD u []).Pairwise (·<·):=OZ es.length es rfl a ha u
def Full (es:List Pr) (o:II) (x:Nat):Prop:=∀y,Jp es x y->y∈o
inductive du (n:Nat) (es:List Pr) (from_:Nat):II->RZ->Prop
 |start:du n es from_ [from_] (List.replicate n (-1))
 |step {o:II} {up:RZ} {k v w:Nat}:du n es from_ o up->o[k]?=some v->Jp es v w->w∉o->(∀y,Jp es v y->y∉o->w<=y)->(∀(j x:Nat),k<j->o[j]?=some x->Full es o x)->du n es from_ (o++[w]) (up.set w (v:Int))
structure Oc (n:Nat) (es:List Pr) (from_:Nat) (o:II) (up:RZ):Prop where
 KP:du n es from_ o up
 full:∀x∈o,Full es o x
theorem du.len (d:du n es s o up):1<=o.length/\up.length=n:=by
 induction d<;>grind
theorem du.same (d:du n es s o up):∀{b:II} {a:RZ},du n es s b a->o.length=b.length->o=b/\up=a:=by
 induction d with
 |start=>
  intro b a c j;cases c<;>grind
 |@step o up k v w d l ha hw u hf m=>
  intro b a c j;cases c with
  |start=>grind
  |@step x p k1 q w1 d1 e f g r i=>
   obtain⟨rfl,rfl⟩:=m d1 pw;have t:k=k1:=by
    rcases cJ k k1 with h|h|h
    .exact absurd (hf k1 q h e w1 f) g
    .exact h
    .exact absurd (i k v h l w ha) hw
   grind
theorem du.peel (d:du n es s o up):∀m,1<=m->m<o.length->∃a b,du n es s a b/\a.length=m/\∃x∈a,¬Full es a x:=by
 induction d with
 |start=>grind
 |@step o up k v w d c ha hw e hf g=>
  intro m i h2;by_cases h:m<o.length
  .grind
  .simp at h2
   exact⟨o,up,d,NH,v,Gc c,fun f=>hw (f w ha)⟩
theorem Oc.uniq {o d:II} {up c:RZ} (a:Oc n es s o up) (b:Oc n es s d c):o=d/\up=c:=by
 have key:∀{o d:II} {up c:RZ},Oc n es s o up->Oc n es s d c->¬o.length<d.length:=by
  intro o d up c a b h;obtain⟨g,e,d2,f,x,i,hf⟩:=b.KP.peel o.length a.KP.len.1 h;obtain⟨rfl,rfl⟩:=a.KP.same d2 f.symm
  grind [Oc.full]
 have j:=key a b;have h2:=key b a;exact a.KP.same b.KP NH
structure DS (n:Nat) (es:List Pr) (s:Nat) (met:List Bool) (tH:II) (o opn:II) (up:RZ):Prop where
 KP:du n es s o up
 metl:met.length=n
 mm:∀v,v<n->(met[v]?=some true↔v∈o)
 trl:tH.length=n
 tr:∀v t,tH[v]?=some t->t<=((Zh n es).getD v []).length/\∀x∈((Zh n es).getD v []).take t,x.toNat∈o
 sub:opn.Sublist o
 closed:∀v∈o,v∉opn->Full es o v
 lt:∀v∈o,v<n
 nodup:o.Nodup
theorem DS.start {n:Nat} {es:List Pr} {s:Nat} (hs:s<n):DS n es s ((List.replicate n false).set s true) (List.replicate n 0) [s] [s] (List.replicate n (-1)) where
 KP:=.start
 metl:=by simp
 mm v a:=pw
 trl:=by simp
 tr v t c:=pw
 sub:=zd _
 closed v a b:=absurd a b
 lt v a:=pw
 nodup:=by simp
theorem DS.len_o (d:DS n es s met tH o opn up):o.length<=n:=by
 have:o.length<=(List.range n).length:=d.nodup.length_le_of_subset (by grind [DS.lt])
 grind
def DS.len_opn (d:DS n es s met tH o opn up):opn.length<=n:=Hs d.sub.length_le d.len_o
theorem DS.pop (b:aV n es) (d:DS n es s met tH o (opn++[v]) up) (a:tH[v]?=some ((Zh n es).getD v []).length):DS n es s met tH o opn up:=
 {d with
  sub:=by grind [List.Sublist.trans,DS.sub]
  closed:=fun x c f=>by
   by_cases e:x=v
   .intro y g
    have:=(d.tr _ _ a).2 y (by grind [EW])
    grind
   grind [DS.closed]}
theorem DS.skip {x:Int} (d:DS n es s met tH o opn up) (f:tH[v]?=some t) (c:((Zh n es).getD v [])[t]?=some x) (h:x.toNat∈o):DS n es s met (tH.set v (t+1)) o opn up:=
 {d with
  trl:=by simp[d.trl]
  tr:=fun u q a=>by
   rw[fj]at a;split at a
   .rename_i e; subst e
    split at a
    .injection a with a; subst a
     have g:=(Ny.1 c).1;refine⟨g,fun y b=>?_⟩;rw[Yl,c]at b;simp at b;rcases b with b|b
     .exact(d.tr _ _ f).2 y b
     grind
    .cases a
   .exact d.tr u q a}
theorem DS.last (d:DS n es s met tH o (opn++[v]) up):
  ∃k,o[k]?=some v/\∀(j x:Nat),k<j->o[j]?=some x->Full es o x:=by
 obtain⟨a,b,rfl,h,h2⟩:=List.append_sublist_iff.1 d.sub;have g:v∈b:=pw;obtain⟨i,hi⟩:=IE.1 g;refine⟨a.length+i,by rw[vZ NH];simpa using hi,fun j x l f=>?_⟩;have e:x∈a++b:=Gc f;refine d.closed x e fun c=>?_;rw[vZ NH]at f;have nd:=d.nodup;rw[qL7,jf]at c;rcases c with c|rfl
 .grind
 .have : j - a.length = i := by grind [List.getElem?_inj]
  omega
theorem DS.push (g:aV n es) (ha:D3 es) (d:DS n es s met tH o (opn++[v]) up) (p:tH[v]?=some t) (j:((Zh n es).getD v [])[t]?=some (w:Int)) (x:w∉o):
  DS n es s (met.set w true) (tH.set v (t+1)) (o++[w]) (opn++[v]++[w]) (up.set w (v:Int)):=by
 obtain⟨k,z,hf⟩:=d.last;have l:(w:Int)∈(Zh n es).getD v []:=Gc j;have c:=(EW g v w).1 l;have m:=(c.lt g).2;have r:=KW es g ha v;refine⟨.step d.KP z c x (fun y a A=>?_) hf,by simp[d.metl],fun u b=>?_,by simp[d.trl],fun u q f=>?_,(by grind [DS.sub]),fun u b B=>?_,fun u b=>?_,?_⟩
 .obtain ⟨i, hi⟩ := IE.1 ((EW g v y).2 a)
  rcases cJ i t with h|h|h
  .have := (d.tr v t p).2 (y : Int) (Gc (i := i) pw)
   grind
  .grind
  grind [List.pairwise_iff_getElem]
 .grind [DS.metl,DS.mm]
 .rw [fj] at f
  split at f
  .rename_i e; subst e
   split at f
   .injection f with f; subst f
    refine⟨(Ny.1 j).1,fun y a=>?_⟩;rw[Yl,j]at a;simp at a;rw[qL7];rcases a with a|a
    .exact .inl ((d.tr _ _ p).2 y a)
    grind
   .cases f
  .obtain ⟨C, h2⟩ := d.tr u q f
   grind
 .rw [qL7, jf] at b
  rcases b with b|rfl
  .exact fun y a=>AQ _ (d.closed u b (by grind [List.mem_append_left]) y a)
  grind
 .rw [qL7, jf] at b
  rcases b with b|rfl
  .exact d.lt u b
  .exact m
 grind [DS.nodup]
theorem DS.fin (d:DS n es s met tH o [] up):Oc n es s o up:=⟨d.KP,(by grind [DS.closed])⟩
section
open Go.Proofs
variable {X k:Nat} {es ps:List Pr} {ev v:Value} {h:AHeap} {n:Int}
def Wj (a:xO v k):aBuild Tryz.prog 24 [(0,.int .i64 n),(1,v)]=some (.agg #[.int .i64 n,v]):=by
 obtain⟨_,_,rfl,_⟩:=a;kernel_rfl
theorem Lo (h:AHeap):aAlloc Tryz.prog h 24=some (.pointer (some ⟨h.next,0,none⟩),h.alloc (.cells [.int .i64 0,.slice none 0 0])):=rfl
def newG (hw:WF h) (r:PR h ev es):∃b h2,aAlloc Tryz.prog h 24=some (.pointer (some ⟨h.next,0,none⟩),b)/\aStore Tryz.prog b 24 (.pointer (some ⟨h.next,0,none⟩)) (.agg #[.int .i64 n,ev])=some h2/\Le h h2/\WF h2/\
  ∀g,Le h2 g->aload Tryz.prog g 24 ⟨h.next,0,none⟩=some (.agg #[.int .i64 n,ev])/\aload Tryz.prog g 3 ⟨h.next,0,none⟩=some (.int .i64 n)/\aload Tryz.prog g 22 ⟨h.next,1,none⟩=some ev:=by
 obtain⟨b,f,l1,w1,d⟩:=Tt hw [.int .i64 0,.slice none 0 0]
 have i:h.own h.next=none:=(Le.refl h).next hw (qL0 _)
 have one:=r.sl.one;have a:UA Tryz.prog 24=2:=Ji;have j:(Value.agg #[.int .i64 n,ev]).cells=#[.int .i64 n,ev]:=rfl;have k:(Value.int IntKind.i64 n).oneCell'=true:=rfl
 have c:(b.put h.next (.cells [.int .i64 n,ev])).own h.next=some (.cells [.int .i64 n,ev]):=AHeap.Y3 _ _ _
 refine⟨b,b.put h.next (.cells [.int .i64 n,ev]),by rw[Lo,f],?_,l1.put _ i,w1.put _ (w1.lt d),fun g e=>⟨?_,Fq Mb rfl (e.own _ _ c),Fq Uh rfl (e.own _ _ c)⟩⟩
 .simp[aStore,d,j,a,putCells,UP,one,k]
 .rw[Wx UP rfl a (e.own _ _ c) Ma];rfl
def mkP4 (h:AHeap) (a b c d:Pr):aBuildSlice Tryz.prog h 22 4 [(0,UI a),(1,UI b),(2,UI c),(3,UI d)]=some (.slice (some ⟨h.next,0,none⟩) 4 4,h.alloc (.cells (Iu [a,b,c,d]))):=Ji
theorem PR.made {id:Nat} (a:h.own id=some (.cells (Iu ps))) (b:ps.length=k):PR h (.slice (some ⟨id,0,none⟩) k k) ps:=by
 have:=CS.own (k:=2) (off:=0) (n:=k) (cap:=k) a (by grind [Ta])
 grind [Ta,PR.eq_1]
structure GX (h:AHeap) (X:Nat) (n:Int) (ev:Value) (ps:List Pr):Prop where
 ox:h.own X=some (.cells [.int .i64 n,ev])
 gp:GP h ev ps
 ne:blk ev≠some X
def build24e (n:Int):aBuild Tryz.prog 24 [(0,.int .i64 n)]=some (.agg #[.int .i64 n,.slice none 0 0]):=Ji
theorem GX.new (hw:WF h) (n:Int):∃a h2,aAlloc Tryz.prog h 24=some (.pointer (some ⟨h.next,0,none⟩),a)/\aStore Tryz.prog a 24 (.pointer (some ⟨h.next,0,none⟩)) (.agg #[.int .i64 n,.slice none 0 0])=some h2/\Le h h2/\WF h2/\h.own h.next=none/\GX h2 h.next n (.slice none 0 0) []:=by
 obtain⟨a,j,l1,w1,d⟩:=Tt hw [.int .i64 0,.slice none 0 0]
 have e:h.own h.next=none:=(Le.refl h).next hw (qL0 _)
 have b:UA Tryz.prog 24=2:=Ji;have f:(Value.agg #[.int .i64 n,.slice none 0 0]).cells=#[.int .i64 n,.slice none 0 0]:=rfl;have g:(Value.int IntKind.i64 n).oneCell'=true:=rfl;have c:(Value.slice none 0 0).oneCell'=true:=rfl
 have i:(a.put h.next (.cells [.int .i64 n,.slice none 0 0])).own h.next=some (.cells [.int .i64 n,.slice none 0 0]):=AHeap.Y3 _ _ _
 refine⟨a,a.put h.next (.cells [.int .i64 n,.slice none 0 0]),by grind [Lo],?_,l1.put _ e,w1.put _ (w1.lt d),e,⟨i,GP.nil _,by simp[blk]⟩⟩
 simp[aStore,d,f,b,putCells,UP,g,c]
theorem GX.le {h h':AHeap} {X:Nat} {n:Int} {a:Value} {ps:List Pr} (g:GX h X n a ps) (e:Le h h'):GX h' X n a ps:=⟨e.own _ _ g.ox,g.gp.le e,g.ne⟩
def GX.ld (g:GX h X n ev ps):aload Tryz.prog h 24 ⟨X,0,none⟩=some (.agg #[.int .i64 n,ev])/\aload Tryz.prog h 3 ⟨X,0,none⟩=some (.int .i64 n)/\aload Tryz.prog h 22 ⟨X,1,none⟩=some ev:=by
 refine⟨?_,Fq Mb rfl g.ox,Fq Uh rfl g.ox⟩;rw[Wx UP rfl (by kernel_rfl:UA Tryz.prog 24=2) g.ox Ma];rfl
theorem GX.push' (g:GX h X n ev ps) (hw:WF h) (p:Pr) (l:ps.length+1<=100000):
  ∃v' a i c,aBuildSlice Tryz.prog h 22 1 [(0,UI p)]=some (.slice (some ⟨h.next,0,none⟩) 1 1,a)/\aAppend Tryz.prog a 22 22 ev (.slice (some ⟨h.next,0,none⟩) 1 1)=some (v',i)/\aStore Tryz.prog i 22 (.pointer (some ⟨X,1,none⟩)) v'=some c/\
   GX c X n v' (ps++[p])/\WF c/\Le h a/\(∀f,Le f h->f.own X=none->Z2 f ev->Le f c/\Z2 f v')/\(∀b o,h.own b=some o->b≠X->blk ev≠some b->c.own b=some o/\blk v'≠some b):=by
 obtain⟨v',a,i,e4,m,j,k,l4,hf,q⟩:=g.gp.push hw p l;obtain⟨d,e⟩:=q X _ g.ox g.ne;have one:=j.pr.sl.one;have r:v'.cells=#[v']:=by obtain⟨_,_,rfl,_⟩:=j.pr.sl;rfl
 have st:=QB (P:=Tryz.prog) (t:=22) (x:=v') Uh Ji d (off:=1) Ma r one;refine⟨v',a,i,_,e4,m,st,⟨AHeap.Y3 _ _ _,GS.put j _ e,e⟩,k.put _ (k.lt d),l4,fun f s u af=>?_,fun b o hb v w=>?_⟩
 all_goals grind [Le.put,AHeap.By]
end
section
attribute [local irreducible] Kp MQ lU KO1 KO KN KX KE VK Kl ZJ TC aab
open Go.Proofs
theorem Back_any (b:LA) (v:Value) (xs:RZ) (h:AHeap) (c:RL RP h v xs):AC Tryz.prog b 130 [v] h fun x h'=>∃B,x=.func (.func 166) #[] #[.pointer (some ⟨B,0,none⟩)]/\h.next<=B/\h'.own B=some (.cells [v])/\Le h h':=by
 refine AC.vE ⟨Tryz.func130,rfl,WY⟩ Tryz.ntmps130 Tryz.results130 fun a=>?_;simp only[Br,Nat.reduceAdd];obtain⟨d,e,l1,w1,g⟩:=Tt a [v]
 have f:zF h v=some (.pointer (some ⟨h.next,0,none⟩),d):=by rw[<-e];obtain⟨_,_,rfl,_⟩:=c.sl;rfl
 refine Sk f ?_
 grind
theorem Tp (o:LA) (e B:Nat) (v:Value) (xs:RZ) (I:Nat->AHeap->Prop) (h:AHeap) (u:xs.length<1000000)
  (d:∀i g,I i g->g.own B=some (.cells [v])/\RL RP g v xs) (f:I xs.length h)
  (p:∀i g (hi:i<xs.length),WF g->h.next<=g.next->I (i+1) g->AY Tryz.prog o e [.int .i64 i,.int .i64 xs[i]] g fun x l=>x=.bool true/\h.next<=l.next/\I i l):
  AC Tryz.prog o 166 [Yg e,.pointer (some ⟨B,0,none⟩)] h fun _ h'=>I 0 h':=by
 have ld:∀i g,I i g->aload Tryz.prog g 49 ⟨B,0,none⟩=some v:=fun i g hi=>by rw[Fq Ac rfl (d i g hi).1];rfl
 refine AC.vE ⟨Tryz.func166,rfl,WY⟩ Tryz.ntmps166 Tryz.results166 fun q=>?_;simp only[Br,Nat.reduceAdd];have w1:awrap .i64 ((xs.length:Int)-1)=(xs.length:Int)-1:=ie _ NH NH;simp only[HO,Nat.reduceLT,↓reduceIte,Nat.reduceEqDiff,reduceCtorEq,ld _ _ f,(d _ _ f).2.len Ac,w1]
 refine lIn (fun k fr g=>∃i:Nat,k=i/\i<=xs.length/\fr=mkF [(0,Yg e),(1,.pointer (some ⟨B,0,none⟩)),(3,.int .i64 ((i:Int)-1))]/\h.next<=g.next/\I i g) ⟨xs.length,rfl,qL0 _,rfl,qL0 _,f⟩ ?_
 rintro k fr g r ⟨i,rfl,hi,rfl,hle,a⟩;refine Uy ?_;refine Kl.intro (fun w=>?_) (fun hf=>?_)
 .have b : 1 <= k := pw
  obtain⟨j,rfl⟩:∃j,k=j+1:=⟨k-1,NH⟩;have m:j<xs.length:=NH;have s:((j+1:Nat):Int)-1=(j:Int):=NH;have ad:=(d _ _ a).2.addr (k:=.i64) Ac Mb rfl j m;have le:=(d _ _ a).2.DH j m;simp only[HO,Nat.reduceLT,↓reduceIte,Nat.reduceEqDiff,reduceCtorEq,s,ld _ _ a,ad,le];refine TC.yield (by simp only[HO,Nat.reduceLT,↓reduceIte,Nat.reduceEqDiff,reduceCtorEq,yieldOf]<;>rfl) (p j g m r hle a) ?_;rintro x l t ⟨rfl,c,n⟩;have w2:awrap .i64 ((j:Int)-1)=(j:Int)-1:=ie _ NH NH;refine Sk w2 ?_;exact lgA NH ⟨j,rfl,NH,rfl,c,n⟩
 .have b : k = 0 := pw
  subst b;refine Uy ?_;exact a
end
variable {es:List Pr} {n s v w:Nat} {o:II} {up:RZ}
instance adjDec (es:List Pr) (u w:Nat):Decidable (Jp es u w):=by unfold Jp;infer_instance
def sI (n:Nat) (es:List Pr) (o:II) (v:Nat):Option Nat:=(List.range n).find? fun w=>decide (Jp es v w)&&!o.contains w
def lastF (n:Nat) (es:List Pr) (o:II):II->Option (Nat×Nat)
  |[]=>none
  |v::r=>match sI n es o v with
    |some w=>some (v,w)
    |none=>lastF n es o r
def walkS (n:Nat) (es:List Pr) (st:II×RZ):II×RZ:=
 match lastF n es st.1 st.1.reverse with
 |some (v,w)=>(st.1++[w],st.2.set w (v:Int))
 |none=>st
def walkN (n:Nat) (es:List Pr):Nat->II×RZ->II×RZ
 |0,st=>st
 |k+1,st=>walkN n es k (walkS n es st)
def K9 (n:Nat) (es:List Pr) (s:Nat):II×RZ:=walkN n es n ([s],List.replicate n (-1))
theorem agy (a:aV n es) (h:sI n es o v=some w):Jp es v w/\w∉o/\∀y,Jp es v y->y∉o->w<=y:=by grind [sI,List.find?_range_eq_some]
theorem Yf (a:aV n es) (h:sI n es o v=none):Full es o v:=by
 intro y b;unfold sI at h;rw[List.find?_eq_none]at h;have:=h y (iy.2 (b.lt a).2)
 grind
theorem ac8 {n:Nat} {es:List Pr} {o:II} (b:aV n es):∀{l:II},lastF n es o l=none->∀x∈l,Full es o x
 |[],_,x,a=>by simp at a
 |v::r,h,x,a=>by
  simp only[lastF]at h;split at h
  .cases h
  .rcases EL.1 a with rfl | a
   .grind [Yf]
   .exact ac8 b h x a
theorem O6 {n:Nat} {es:List Pr} {o:II} (b:aV n es):∀{l:II} {v w:Nat},lastF n es o l=some (v,w)->∃i,l[i]?=some v/\sI n es o v=some w/\∀(j x:Nat),j<i->l[j]?=some x->Full es o x
 |[],v,w,h=>by cases h
 |u::r,v,w,h=>by
  simp only[lastF]at h;split at h
  .rename_i w' c
   injection h with h;injection h with a h2;subst a h2;exact⟨0,rfl,c,NH⟩
  .obtain ⟨i, a, h2, h3⟩ := O6 b h
   refine⟨i+1,pw,h2,fun j x d e=>?_⟩;cases j<;>grind [Yf]
theorem du.ndlt (b:aV n es) (hs:s<n) (d:du n es s o up):o.Nodup/\∀x∈o,x<n:=by
 induction d with
 |start=>simp[hs]
 |@step o up k v w d c ha hw e hf f=>
  refine⟨?_,fun x a=>?_⟩
  .grind
  .rw [qL7, jf] at a
   rcases a with a|rfl
   .grind
   .exact(ha.lt b).2
theorem du.boundF (a:aV n es) (hs:s<n) (d:du n es s o up):o.length<=n:=by
 have:=(d.ndlt a hs).1.length_le_of_subset (l₂:=List.range n) fun v b=>iy.2 ((d.ndlt a hs).2 v b)
 grind
theorem jM {n:Nat} {es:List Pr} {s:Nat} (a:aV n es) (hs:s<n):∀(k:Nat) {o:II} {up:RZ},du n es s o up->n<o.length+k->Oc n es s (walkN n es k (o,up)).1 (walkN n es k (o,up)).2
 |0,o,up,d,h=>by have:=d.boundF a hs;omega
 |k+1,o,up,d,h=>by
  simp only[walkN,walkS];split
  .rename_i v w b
   obtain⟨i,m,h2,h3⟩:=O6 a b;obtain⟨c,e,f⟩:=agy a h2;refine jM a hs k (.step (k:=o.length-1-i) d ?_ c e f fun j x p g=>?_) (by simp;omega)
   .grind
   .have l := (Ny.1 g).1
    refine h3 (o.length-1-j) x NH ?_
    grind
  .rename_i b
   have hf:∀x∈o,Full es o x:=by grind [ac8]
   have:∀k,walkN n es k (o,up)=(o,up):=by
    intro k
    induction k<;>grind [walkN,walkS]
   rw[this];exact⟨d,hf⟩
def Te (a:aV n es) (hs:s<n):Oc n es s (K9 n es s).1 (K9 n es s).2:=jM a hs n .start Ma
theorem Oc.eq (a:aV n es) (hs:s<n) (d:Oc n es s o up):o=(K9 n es s).1/\up=(K9 n es s).2:=d.uniq (Te a hs)
section
open Go.Proofs
variable {a b n:Nat} {es:List Pr}
def GW (a b:Nat):Pr:=(min (a:Int) (b:Int),max (a:Int) (b:Int))
theorem so (a b:Nat):GW a b=GW b a:=by grind [GW]
theorem bj:GW a b=(((min a b:Nat):Int),((max a b:Nat):Int)):=by grind [GW]
theorem H4 (c:aV n es) (h:Jp es a b):GW a b∈es:=by
 unfold GW;rcases h with h|h
 .have:=c _ h;grind
 .have:=c _ h;grind
theorem ab6 {v a b:Nat} (h:GW v a=GW v b):a=b:=by rw[bj,bj,kc]at h;omega
theorem T0 (c:aV n es) (h:Jp es a b):GW a b∈es:=H4 c h
theorem Xa (b:aV n es) (h:Jp es a a):False:=by
 rcases h with h|h<;>have:=(b _ h).2.1<;>simp at this
end
end Go.Fw
namespace Go.Fw
open Go.Proofs
def goS (rows:AM) (d:Nat×Nat):Nat×Nat:=
 (d.2,(if(rows.getD d.2 []).getD 0 0=(d.1:Int)then(rows.getD d.2 []).getD 1 0 else(rows.getD d.2 []).getD 0 0).toNat)
def goF (rows:AM):Nat->Nat×Nat->Nat->Nat×Nat
 |0,d,k=>(d.2,k)
 |f+1,d,k=>if(rows.getD d.2 []).length=2 then goF rows f (goS rows d) (k+1)else(d.2,k)
theorem afn (rows:AM):∀(K f:Nat) (d:Nat×Nat) (k:Nat),K<f->(∀i,i<K->(rows.getD (it (goS rows) i d).2 []).length=2)->(rows.getD (it (goS rows) K d).2 []).length≠2->goF rows f d k=((it (goS rows) K d).2,k+K)
 |0,f+1,d,k,_,_,h=>by
  have h':(rows.getD d.2 []).length≠2:=h;rw[goF,if_neg h'];rfl
 |K+1,f+1,d,k,hf,a,h2=>by
  have b:(rows.getD d.2 []).length=2:=a 0 (Nat.succ_pos _);rw[goF,if_pos b,afn rows K f (goS rows d) (k+1) NH (by grind [aaS]) (by rw[<-aaS];exact h2),<-aaS];congr 1;omega
section
variable {n : Nat} {es : List Pr} (hR : aV n es) (hA : D3 es)
include hR hA
theorem abg {v:Nat} (h:((Zh n es).getD v []).length=2):∃a b:Nat,(Zh n es).getD v []=[(a:Int),(b:Int)]/\a≠b/\Jp es v a/\Jp es v b/\∀w,Jp es v w->w=a\/w=b:=by
 have f:=KW es hR hA v;have d:=fun w=>EW hR v w;have c:=fun x=>Ru hR (u:=v) (x:=x);generalize (Zh n es).getD v []=r at*
 match r,h with
 |[x,y],_=>
  obtain⟨a,rfl,-⟩:=c x Ma;obtain⟨b,rfl,-⟩:=c y Ma;have e:(a:Int)<(b:Int):=by grind [List.mem_singleton]
  refine⟨a,b,rfl,NH,pw,pw,fun w hw=>?_⟩;have:=(d w).2 hw;simp at this;omega
def goS_adj {d:Nat×Nat} (h2:((Zh n es).getD d.2 []).length=2):Jp es (goS (Zh n es) d).1 (goS (Zh n es) d).2:=by
 obtain⟨a,b,e,ne,h3,c,f⟩:=abg hR hA h2;unfold goS;rw[e];split<;>simpa using by assumption
theorem af5 {d c:Nat×Nat} (v:Jp es d.2 d.1) (v':Jp es c.2 c.1) (h2:((Zh n es).getD d.2 []).length=2) (e:goS (Zh n es) d=goS (Zh n es) c):d=c:=by
 obtain⟨l,x⟩:=d;obtain⟨l',x'⟩:=c;have ex:x=x':=congrArg Prod.fst e;subst ex;have f:=congrArg Prod.snd e;obtain⟨a,b,h,ne,h3,i,g⟩:=abg hR hA h2;unfold goS at f;rw[h]at f;simp only[pC,NC]at f;have:=g l v;have:=g l' v'
 grind
theorem aa7 {d:Nat×Nat} (v:Jp es d.1 d.2):∀k,(∀i,i<k->((Zh n es).getD (it (goS (Zh n es)) i d).2 []).length=2)->Jp es (it (goS (Zh n es)) k d).1 (it (goS (Zh n es)) k d).2
 |0,_=>v
 |k+1,h=>goS_adj hR hA pw
def af6 {d:Nat×Nat} (v:Jp es d.1 d.2) {K:Nat} (h:∀i,i<K->((Zh n es).getD (it (goS (Zh n es)) i d).2 []).length=2):∀i j,i<j->j<=K->it (goS (Zh n es)) i d=it (goS (Zh n es)) j d->d=it (goS (Zh n es)) (j-i) d
 |0,j,_,_,e=>e
 |i+1,j+1,a,c,e=>by
  have a1:=aa7 hR hA v i fun q b=>h q NH;have a2:=aa7 hR hA v j fun q b=>h q NH;have:=af6 v h i j NH NH (af5 hR hA a1.symm a2.symm (h i NH) e);rwa[show j+1-(i+1)=j-i by omega]
theorem go_ends {c v:Nat} (b:Jp es c v) (p:((Zh n es).getD c []).length≠2):∃K,K<=n*n/\(∀i,i<K->((Zh n es).getD (it (goS (Zh n es)) i (c,v)).2 []).length=2)/\((Zh n es).getD (it (goS (Zh n es)) K (c,v)).2 []).length≠2:=by
 by_cases H:∀K,K<=n*n->(∀i,i<K->((Zh n es).getD (it (goS (Zh n es)) i (c,v)).2 []).length=2)->((Zh n es).getD (it (goS (Zh n es)) K (c,v)).2 []).length=2
 rotate_left
 .simp only [Vn] at H
  obtain⟨K,d,h2,h3⟩:=H;exact pw
 have all:∀K,K<=n*n+1->∀i,i<K->((Zh n es).getD (it (goS (Zh n es)) i (c,v)).2 []).length=2:=by
  intro K
  induction K with
  |zero=>omega
  |succ K g=>
   intro q i hi;rcases Nat.lt_succ_iff_lt_or_eq.1 hi with h|rfl
   .exact g NH i h
   .exact pw
 have all:=all _ (qL0 _);let code:Nat->Nat:=fun i=>(it (goS (Zh n es)) i (c,v)).1*n+(it (goS (Zh n es)) i (c,v)).2;have lt:∀i,i<=n*n->(it (goS (Zh n es)) i (c,v)).1<n/\(it (goS (Zh n es)) i (c,v)).2<n:=fun i hi=>
  (aa7 hR hA b i pw).lt hR
 have nd:((List.range (n*n+1)).map code).Nodup:=by
  have key:∀i j,i<j->j<=n*n->code i≠code j:=fun i j a k e=>by
   obtain⟨a1,a2⟩:=lt i NH;obtain⟨r,l⟩:=lt j k;have e':(it (goS (Zh n es)) i (c,v)).1*n+(it (goS (Zh n es)) i (c,v)).2=(it (goS (Zh n es)) j (c,v)).1*n+(it (goS (Zh n es)) j (c,v)).2:=e;have s:0<n:=NH;have m2:(it (goS (Zh n es)) i (c,v)).2=(it (goS (Zh n es)) j (c,v)).2:=by
    have:=congrArg (·%n) e';simp only[Nat.mul_add_mod_self_right]at this;rwa[Cg a2,Cg l]at this
   have m1:(it (goS (Zh n es)) i (c,v)).1=(it (goS (Zh n es)) j (c,v)).1:=by exact(by grind [Nat.eq_of_mul_eq_mul_right])
   have f:=af6 hR hA b (K:=n*n+1) all i j a NH (adQ m1 m2);obtain⟨t,m⟩:∃t,j-i=t+1:=⟨j-i-1,NH⟩;rw[m]at f;have:c=(it (goS (Zh n es)) t (c,v)).2:=congrArg Prod.fst f;exact pw
  rw[si,wI];exact K4 (by grind) pz
 have:=tf nd (B:=List.range (n*n)) fun x o=>by
  obtain⟨i,hi,rfl⟩:=Z6.1 o;have hi:=iy.1 hi;obtain⟨a1,a2⟩:=lt i NH;rw[iy];have d:((it (goS (Zh n es)) i (c,v)).1+1)*n<=n*n:=WS n a1;rw[Ua,Nat.one_mul]at d;show(it (goS (Zh n es)) i (c,v)).1*n+(it (goS (Zh n es)) i (c,v)).2<n*n;omega
 simp only[jz,aex]at this;omega
end
def aaA (rows:AM) (v:Nat):Bool:=(rows.getD v []).length==3||(rows.getD v []).length==4
def aad (rows:AM):II:=(List.range rows.length).filter fun v=>aaA rows v
def aaj (rows:AM) (cs:II):List (Nat×Nat):=cs.flatMap fun c=>(rows.getD c []).map fun x=>(c,x.toNat)
def aal (rows:AM) (d:Nat×Nat):Nat×Nat:=goF rows 40001 d 0
def aaH (rows:AM) (d:Nat×Nat):Pr:=(min (d.1:Int) ((aal rows d).1:Int),max (d.1:Int) ((aal rows d).1:Int))
def aaI (rows:AM) (cs:II) (p:Pr):Nat:=((aaj rows cs).map (aaH rows)).count p
def aaU (rows:AM) (cs:II):Nat:=((aaj rows cs).map fun d=>(aal rows d).2+1).sum
def abh (W:Pr->Nat) (A B:II):Bool:=A.all fun c=>B.all fun d=>c==d||W (min (c:Int) (d:Int),max (c:Int) (d:Int))==2
def aa1 (W:Pr->Nat) (cs:II):Bool:=
 let f:=cs.headD 0;let A:=cs.filter fun(c:Nat)=>W ((f:Int),((c:Nat):Int))==0;let B:=cs.filter fun(c:Nat)=>W ((f:Int),((c:Nat):Int))!=0
 A.length==3&&!B.contains f&&abh W A B
def aaN (es:List Pr):Int:=
 let rows:=Zh 200 es
 if rows.any (fun r=>!(r.length==0||r.length==2||r.length==3||r.length==4))then 0 else
 let cs:=aad rows
 if cs.length=5 then
  if cs.any (fun c=>(rows.getD c []).length !=4)then 0
  else if aaU rows cs≠2*es.length then 0
  else if abh (aaI rows cs) cs cs then 5 else 0
 else if cs.length=6 then
  if cs.any (fun c=>(rows.getD c []).length !=3)then 0
  else if aaU rows cs≠2*es.length then 0
  else if aa1 (aaI rows cs) cs then 33 else 0
 else 0
attribute [local instance] Classical.propDecidable in
noncomputable def aaz (es:List Pr):Int:=if bX ⟨200,es⟩then aaN es else 0
def acu {n:Nat} {es:List Pr} (hR:aV n es) (hA:D3 es) (a:n<=200) {c v:Nat} (b:Jp es c v) (d:((Zh n es).getD c []).length≠2):
  ∃K,K<=40000/\(∀i,i<K->((Zh n es).getD (it (goS (Zh n es)) i (c,v)).2 []).length=2)/\((Zh n es).getD (it (goS (Zh n es)) K (c,v)).2 []).length≠2/\aal (Zh n es) (c,v)=((it (goS (Zh n es)) K (c,v)).2,K):=by
 obtain⟨K,e,h2,h3⟩:=go_ends hR hA b d;have f:K<=40000:=Hs e (KV a a);refine⟨K,f,h2,h3,?_⟩;rw[aal,afn _ K 40001 _ _ NH h2 h3,XJ]
end Go.Fw
