/- A text. -/
import Derived.Test.YtkccdnmaaelbiaaGreatProg
import Derived.Test.YtkccdnmaaelbiaaGreatFwZB
set_option linter.all false
set_option maxRecDepth 99999
set_option maxHeartbeats 9999999
open Go.Proofs
namespace Go.Fw
variable {P:Program} {W0:LA} {cs:List Value} {ev v:Value} {h h':aae} {i k n w:Nat} {p:Prop} {α:Type}
def mixed:Tryz.prog.follows .mixedOrders=true:=Ji
def CA{l:List α}(h:i<l.length):l[i]?=some l[i]:=yY h
theorem D4{l:List α}{d:α}(h:i<l.length):l.getD i d=l[i]:=pw
def afK(p:Prop)(v:Value):Prop:=∃b:Bool,v=.bool b/\(b=true↔p)
theorem afK.t(h:p):afK p (.bool true):=⟨true,rfl,by simp[h]⟩
theorem afK.f(h:¬p):afK p (.bool false):=⟨false,rfl,by simp[h]⟩
theorem CC(h:decide ((i:Int)<(n:Int))=true):i<n:=pw
theorem vp(h:decide ((i:Int)<(n:Int))=false):n<=i:=pw
def Tt(hw:WF h)(c:List Value):∃h',h.alloc (.cells c)=h'/\Le h h'/\WF h'/\h'.own h.next=some (.cells c):=⟨_,rfl,(Le.refl h).alloc hw _,hw.alloc _,aae.zT _ _⟩
def Ya{ι κ:Type}{F:ι->κ->Prop}{A:Prop}(Φ:ι->κ->Prop)(a:(∀x y,F x y->Φ x y)->A)(h2:∀x y,F x y->Φ x y):A:=a h2
def KN.UJ{N:Nat}{ks:List Kt}{R:Exit->aap->aae->Prop}{fr:aap}(q:∀fr' h',fr'=fr->h'=h->KN P W0 N ks R fr' h'):KN P W0 N ks R fr h:=q fr h rfl rfl
theorem GS.kept(g:GS k h v n cs)(d:∀b o,blk v=some b->h.own b=some o->h'.own b=some o):GS k h' v n cs:=by
 obtain⟨a,q|⟨i,c,cap,rfl,e,f⟩⟩:=g
 .exact⟨a,.inl q⟩
 .exact⟨a,.inr ⟨i,c,cap,rfl,d i _ rfl e,f⟩⟩
theorem GS.put{k n:Nat}{h:aae}{v:Value}{cs:List Value}(g:GS k h v n cs){id:Nat}(o:fK)(hb:blk v≠some id):GS k (h.put id o) v n cs:=g.kept fun b a c d=>by grind[aae.By]
abbrev Pr:=Int×Int
abbrev xLP:=List Pr
def xM(p:Pr):List Value:=[.int .i64 p.1,.int .i64 p.2]
def UI(p:Pr):Value:=.agg #[.int .i64 p.1,.int .i64 p.2]
def Iu(ps:List Pr):List Value:=ps.flatMap xM
theorem Ta(ps:List Pr):(Iu ps).length=ps.length*2:=by
 induction ps<;>grind[Iu,xM]
def WI(ps:List Pr):(Iu ps).all (·.oneCell')=true:=by rw[DF];intro x a;rw[Iu,y5]at a;obtain⟨p,_,a⟩:=a;simp[xM]at a;rcases a with rfl|rfl<;>rfl
theorem mZ(a b:List Pr):Iu (a++b)=Iu a++Iu b:=by simp[Iu]
theorem H5:∀(ps:List Pr)(i:Nat)(p:Pr),ps[i]?=some p->(Iu ps)[i*2]?=some (.int .i64 p.1)/\(Iu ps)[i*2+1]?=some (.int .i64 p.2)
 |[],i,p,h=>by simp at h
 |q::ps,0,p,h=>by grind[Iu,xM]
 |q::ps,i+1,p,h=>by have:=H5 ps i p (by simpa using h);have e:Iu (q::ps)=.int .i64 q.1::.int .i64 q.2::Iu ps:=rfl;grind
def PR(h:aae)(v:Value)(ps:List Pr):Prop:=CS 2 h v ps.length (Iu ps)
def FK(v:Value)(i:Nat):Addr:=abv v (i*2)
theorem PR.le{h h':aae}{v:Value}{ps:List Pr}(r:PR h v ps)(e:Le h h'):PR h' v ps:=CS.le r e
def WE:UA Tryz.prog 38=2:=Ji
def ts3:UA Tryz.prog 3=1:=Ji
theorem PR.len{ps:List Pr}(r:PR h v ps)(g:aae):ahz Tryz.prog g 22 v=some (.int .i64 ps.length):=by obtain⟨a,c,rfl,_⟩:=r.sl;simp[ahz,Tryz.underlying22]
theorem PR.addr{ps:List Pr}(r:PR h v ps){k:IntKind}(i:Nat)(hi:i<ps.length):abX Tryz.prog 22 v (.int k i)=some (.pointer (some (FK v i))):=by obtain⟨a,c,rfl,hs⟩:=r.sl;obtain⟨a,rfl⟩:=EP.1 (hs NH);have b:(i:Int)<(ps.length:Int):=NH;simp[abX,Tryz.underlying22,Tryz.underlying38,b,FK,abv,WE]
def Dh(a:Addr):abX Tryz.prog 38 (.pointer (some a)) (.int .i64 0)=some (.pointer (some (Ip a 0))):=by simp[abX,Tryz.underlying38,Tryz.underlying3]
def Z0(a:Addr):abX Tryz.prog 38 (.pointer (some a)) (.int .i64 1)=some (.pointer (some (Ip a 1))):=by simp[abX,Tryz.underlying38,Tryz.underlying3,ts3]
theorem PR.get{h:aae}{v:Value}{ps:List Pr}(r:PR h v ps){i:Nat}{p:Pr}(b:ps[i]?=some p):
  h.read (Ip (FK v i) 0)=some (.int .i64 p.1)/\h.read (Ip (FK v i) 1)=some (.int .i64 p.2):=by
 obtain⟨d,e⟩:=H5 ps i p b;have f:=CS.get r _ _ d;have g:=CS.get r _ _ e;obtain⟨a,c,rfl,hs⟩:=r.sl;grind[Option.isSome_iff_exists,FK,fA,Ip]
def PR.l0{ps:List Pr}(r:PR h v ps){p:Pr}(a:ps[i]?=some p):acd Tryz.prog h 3 (Ip (FK v i) 0)=some (.int .i64 p.1):=by rw[Bj Tryz.underlying3 rfl];exact(r.get a).1
def PR.l1{ps:List Pr}(r:PR h v ps){p:Pr}(a:ps[i]?=some p):acd Tryz.prog h 3 (Ip (FK v i) 1)=some (.int .i64 p.2):=by rw[Bj Tryz.underlying3 rfl];exact(r.get a).2
theorem PR.load{ps:List Pr}(r:PR h v ps){p:Pr}(b:ps[i]?=some p):acd Tryz.prog h 38 (FK v i)=some (UI p):=by
 obtain⟨c,d⟩:=r.get b;have a:agK h (FK v i) 2=some [.int .i64 p.1,.int .i64 p.2]:=by refine ua [.int .i64 p.1,.int .i64 p.2] _ fun j x e=>?_;grind
 have hd:agS (.array 2 3)=true:=rfl;simp only[acd,Tryz.underlying38,hd,cond_true,WE,a,UI]
theorem alloc42(h:aae):agH Tryz.prog h 38=some (.pointer (some ⟨h.next,0,none⟩),h.alloc (.cells [.int .i64 0,.int .i64 0])):=rfl
def ajZ{x y:Value}{p:Pr}(a:h.own w=some (.cells [x,y])):acs Tryz.prog h 38 (.pointer (some ⟨w,0,none⟩)) (UI p)=some (h.put w (.cells (xM p))):=by simp[acs,a,UI,Value.cells,WE,putCells,xM,Tryz.underlying38];exact⟨rfl,rfl⟩
def Ci(h:aae)(p:Pr):zF h (UI p)=some (.pointer (some ⟨h.next,0,none⟩),h.alloc (.cells (xM p))):=rfl
def lK{p:Pr}(a:h.own w=some (.cells (xM p))):acd Tryz.prog h 3 ⟨w,0,none⟩=some (.int .i64 p.1):=by rw[Fq Tryz.underlying3 rfl a];rfl
def HY{p:Pr}(a:h.own w=some (.cells (xM p))):acd Tryz.prog h 3 ⟨w,1,none⟩=some (.int .i64 p.2):=by rw[Fq Tryz.underlying3 rfl a];rfl
def uM{p:Pr}(a:h.own w=some (.cells (xM p))):acd Tryz.prog h 38 ⟨w,0,none⟩=some (UI p):=by rw[Wx Tryz.underlying38 rfl WE a (by simp[xM])];rfl
theorem Ut(hw:WF h)(p:Pr):∃a h2,agH Tryz.prog h 38=some (.pointer (some ⟨h.next,0,none⟩),a)/\acs Tryz.prog a 38 (.pointer (some ⟨h.next,0,none⟩)) (UI p)=some h2/\Le h h2/\WF h2/\h2.own h.next=some (.cells (xM p)):=by
 obtain⟨a,d,l1,w1,b⟩:=Tt hw [.int .i64 0,.int .i64 0]
 have c:h.own h.next=none:=(Le.refl h).next hw (qL0 _)
 exact⟨a,_,by grind[alloc42],ajZ b,l1.put _ c,w1.put _ (w1.lt b),aae.Y3 _ _ _⟩
structure GM where
 n:Int
 es:List Pr
structure GR (h:aae) (v:Value) (G:GM):Prop where
 ex:∃ev,v=.agg #[.int .i64 G.n,ev]/\PR h ev G.es
theorem GR.le{h h':aae}{v:Value}{G:GM}(r:GR h v G)(e:Le h h'):GR h' v G:=by obtain⟨ev,a,b⟩:=r.ex;exact⟨ev,a,b.le e⟩
def Ii(a:Addr):agQ Tryz.prog 24 (.pointer (some a)) 0=some (.pointer (some (Ip a 0))):=rfl
def Di(a:Addr):agQ Tryz.prog 24 (.pointer (some a)) 1=some (.pointer (some (Ip a 1))):=rfl
def r8(c:WF h){n:Int}{es:List Pr}(r:PR h ev es):
  ∃a,zF h (.agg #[.int .i64 n,ev])=some (.pointer (some ⟨h.next,0,none⟩),a)/\Le h a/\WF a/\a.own h.next=some (.cells [.int .i64 n,ev])/\
   ∀g,Le a g->acd Tryz.prog g 24 ⟨h.next,0,none⟩=some (.agg #[.int .i64 n,ev])/\acd Tryz.prog g 3 ⟨h.next,0,none⟩=some (.int .i64 n)/\acd Tryz.prog g 22 ⟨h.next,1,none⟩=some ev:=by
 obtain⟨a,d,l1,w1,b⟩:=Tt c [.int .i64 n,ev];have h2:=r.sl.one;refine⟨a,?_,l1,w1,b,fun g e=>⟨?_,Fq Tryz.underlying3 rfl (e.own _ _ b),Fq Tryz.underlying22 rfl (e.own _ _ b)⟩⟩
 .rw[<-d];obtain⟨_,_,rfl,_⟩:=r.sl;rfl
 .rw[Wx Tryz.underlying24 rfl (by kernel_rfl:UA Tryz.prog 24=2) (e.own _ _ b) Ma];rfl
def xO.cells{v:Value}{n:Nat}(h:xO v n):v.cells=#[v]:=by obtain⟨a,c,rfl,_⟩:=h;rfl
theorem gh{W0:LA}{N:Nat}{fr:aap}{h:aae}{i:Nat}{ol:List Oper}{ks:List Kt}{R:Exit→aap→aae→Prop}(t:DT)(hd:KD Tryz.prog W0 N ol.toArray ks R t [] fr h)(hok:gN ol.toArray t=true:=by kernel_rfl):ZJ Tryz.prog W0 N i ol.toArray ks R fr h:=ZJ.intro mixed t hok hd
def RL.Uc{h:aae}{v:Value}{xs:List Int}(z:RL RP h v xs):=z.loadI (P:=Tryz.prog) Tryz.underlying3 rfl
def RL.DH{α:Type}{R:aae→Value→α→Prop}{h:aae}{v:Value}{xs:List α}(z:RL R h v xs):=z.len (P:=Tryz.prog) Tryz.underlying49
def RS.DH{h:aae}{v:Value}{xs:List Value}(z:RS h v xs):=z.len (P:=Tryz.prog) Tryz.underlying49
def RL.TA{α:Type}{R:aae→Value→α→Prop}{h:aae}{v:Value}{xs:List α}(z:RL R h v xs):=z.addr (P:=Tryz.prog) Tryz.underlying49 Tryz.underlying3 (by kernel_rfl) (k:=.i64)
def RS.TA{h:aae}{v:Value}{xs:List Value}(z:RS h v xs):=z.addr (P:=Tryz.prog) Tryz.underlying49 Tryz.underlying3 (by kernel_rfl) (k:=.i64)
def RL.NS{α:Type}{R:aae→Value→α→Prop}{h:aae}{v:Value}{xs:List α}(z:RL R h v xs):=z.addr (P:=Tryz.prog) Tryz.underlying27 Tryz.underlying49 (by kernel_rfl) (k:=.i64)
def RS.NS{h:aae}{v:Value}{xs:List Value}(z:RS h v xs):=z.addr (P:=Tryz.prog) Tryz.underlying27 Tryz.underlying49 (by kernel_rfl) (k:=.i64)
def RL.Wm{α:Type}{R:aae→Value→α→Prop}{h:aae}{v:Value}{xs:List α}(z:RL R h v xs):=z.load' (P:=Tryz.prog) Tryz.underlying49 rfl
def RL.qP5{α:Type}{R:aae→Value→α→Prop}{h:aae}{v:Value}{xs:List α}(z:RL R h v xs):=z.len (P:=Tryz.prog) Tryz.underlying27
def RS.qP5{h:aae}{v:Value}{xs:List Value}(z:RS h v xs):=z.len (P:=Tryz.prog) Tryz.underlying27
def RL.qP6{α:Type}{R:aae→Value→α→Prop}{h:aae}{v:Value}{xs:List α}(z:RL R h v xs):=z.len (P:=Tryz.prog) Tryz.underlying28
def RS.qP6{h:aae}{v:Value}{xs:List Value}(z:RS h v xs):=z.len (P:=Tryz.prog) Tryz.underlying28
def RL.qP7{α:Type}{R:aae→Value→α→Prop}{h:aae}{v:Value}{xs:List α}(z:RL R h v xs):=z.addr (P:=Tryz.prog) Tryz.underlying28 Tryz.underlying49 (by kernel_rfl) (k:=.i64)
def RS.qP7{h:aae}{v:Value}{xs:List Value}(z:RS h v xs):=z.addr (P:=Tryz.prog) Tryz.underlying28 Tryz.underlying49 (by kernel_rfl) (k:=.i64)
def Mb:=@Go.Proofs.Tryz.underlying49
def Ac:=@Go.Proofs.Tryz.underlying3
def AV:=@Go.Proofs.Tryz.underlying4
def eY:=@Go.Proofs.Tryz.underlying22
def Uh:=@Go.Proofs.Tryz.underlying59
def yU:=@Go.Proofs.Tryz.underlying24
def pE:=@Go.Proofs.Tryz.underlying27
def qS7:=@Go.Proofs.Tryz.underlying110
def qS8:=@Go.Proofs.Tryz.underlying38
def qS9:=@Go.Proofs.Tryz.underlying104
def UP:=@Go.Proofs.Tryz.func143
def KT:=@Go.Proofs.Tryz.underlying122
def adW:=@Go.Proofs.Tryz.underlying75
def yo:=@Go.Proofs.Tryz.func19
def NQ:=@Go.Proofs.Tryz.func104
def Xv:=@Go.Proofs.Tryz.func55
def qS16:=@Go.Proofs.Tryz.underlying146
def zL:=@Go.Proofs.Tryz.func24
def zj:=@Go.Proofs.Tryz.func32
def qS19:=@Go.Proofs.Tryz.underlying125
def alN:=@Go.Proofs.Tryz.func148
def iZ:=@Go.Proofs.Tryz.func61
def SV:=@Go.Proofs.Tryz.func62
def qS23:=@Go.Proofs.Tryz.underlying118
def qS24:=@Go.Proofs.Tryz.underlying143
def qS25:=@Go.Proofs.Tryz.underlying88
def qS26:=@Go.Proofs.Tryz.underlying74
def qS27:=@Go.Proofs.Tryz.func88
def qS28:=@Go.Proofs.Tryz.func93
def qS29:=@Go.Proofs.Tryz.func94
def qS30:=@Go.Proofs.Tryz.func97
def qS31:=@Go.Proofs.Tryz.func17
def qS32:=@Go.Proofs.Tryz.func131
def qS33:=@Go.Proofs.Tryz.func115
def qS34:=@Go.Proofs.Tryz.func113
def qS35:=@Go.Proofs.Tryz.func151
def qS36:=@Go.Proofs.Tryz.func112
def qS37:=@Go.Proofs.Tryz.func141
def qS38:=@Go.Proofs.Tryz.func140
def qS39:=@Go.Proofs.Tryz.func107
def qS40:=@Go.Proofs.Tryz.underlying108
def qS41:=@Go.Proofs.Tryz.underlying62
def qS42:=@Go.Proofs.Tryz.underlying28
section
attribute [local irreducible] Kp MQ lU rS KO KN KX KE VK Kl ZJ TC aab
theorem Pd(b:LA)(a:Int)(h:aae):AC Tryz.prog b 131 [.int .i64 a] h fun v h'=>v=.bool false/\h'=h:=by refine AC.vE ⟨qS32,rfl,WY⟩ Tryz.ntmps131 Tryz.results131 fun c=>?_;simp only[Br,seval];simp only[HO,seval,bne,eq_self];grind
def iC(a b:Int):Int:=if a<b then-1 else if a>b then 1 else 0
def wS(d:LA)(a b:Int)(h:aae):AC Tryz.prog d 88 [.int .i64 a,.int .i64 b] h fun v h'=>v=.int .i64 (iC a b)/\h'=h:=by
 refine AC.vE ⟨qS27,rfl,WY⟩ Tryz.ntmps88 Tryz.results88 fun e=>?_;simp only[Br,seval];refine Uy ?_;refine kCi qS32 (Pd d a h) ?_;rintro x f w1 ⟨rfl,rfl⟩;refine Uy ?_;refine kCi qS32 (Pd d b f) ?_;rintro x h2 g ⟨rfl,rfl⟩;unfold iC;by_cases c:a<b
 .simp only[HO,seval,c];exact⟨trivial,trivial⟩
 .by_cases c2:a>b
  .simp only[HO,seval,c,c2];exact⟨trivial,trivial⟩
  .simp only[HO,seval,c,c2];exact⟨trivial,trivial⟩
def orM:RZ->Int
 |[]=>0
 |x::r=>if x=0 then orM r else x
theorem Or_any(f:LA)(v:Value)(xs:RZ)(h:aae)(d:RL RP h v xs)(m:xs.length<=1000):AC Tryz.prog f 87 [v] h fun x h'=>x=.int .i64 (orM xs)/\h'=h:=by
 refine AC.vE ⟨Tryz.func87,rfl,WY⟩ Tryz.ntmps87 Tryz.results87 fun g=>?_;simp only[Br,seval];have j:=d.DH h;refine Sk j ?_;refine lIn (fun k fr hh=>∃i:Nat,k=xs.length-i/\i<=xs.length/\hh=h/\fr=mkF [(3,.int .i64 0),(6,v),(7,.int .i64 xs.length),(8,.int .i64 i)]/\orM xs=orM (xs.drop i)) ⟨0,rfl,WA _,rfl,rfl,rfl⟩ ?_;rintro k fr hh-⟨i,rfl,hi,rfl,rfl,b⟩;refine Uy ?_;refine Kl.intro (fun l=>?_) (fun hf=>?_)
 .have a:i<xs.length:=CC l;have ad:=d.TA i a;have ld:=d.Uc i a;rw[Yi a,orM]at b;by_cases c:xs[i]=0
  .rw[AE c]at b;simp only[HO,seval,ad,ld,bne,eq_true c,Tw i NH];exact lgA NH ⟨i+1,rfl,a,rfl,rfl,b⟩
  .rw[aal c]at b;simp only[HO,seval,ad,ld,bne,eq_false c];grind
 .have e:xs.length<=i:=vp hf;rw[kS e,orM]at b;refine Uy ?_;grind
def Nz(p q:Pr):Int:=orM [iC p.1 q.1,iC p.2 q.2]
theorem Hv(p q:Pr):Nz p q<0↔p.1<q.1\/p.1=q.1/\p.2<q.2:=by grind[Nz,orM,iC]
theorem eK(p q:Pr):Nz p q=0↔p=q:=by grind[Nz,orM,iC]
def mk2(h:aae)(a b:Int):abB Tryz.prog h 49 2 [(0,.int .i64 a),(1,.int .i64 b)]=some (.slice (some ⟨h.next,0,none⟩) 2 2,h.alloc (.cells [.int .i64 a,.int .i64 b])):=rfl
def DU(g:LA)(p q:Pr)(h:aae):AC Tryz.prog g 63 [UI p,UI q] h fun v h'=>v=.int .i64 (Nz p q)/\Le h h':=by
 refine AC.vE ⟨Tryz.func63,rfl,WY⟩ Tryz.ntmps63 Tryz.results63 fun i=>?_;simp only[Br,seval];obtain⟨j,k,l1,w1,l⟩:=Tt i (xM p);obtain⟨h2,m,l2,t,f⟩:=Tt w1 (xM q);refine Sk (Yb @Ci k m) ?_;have c:=l2.own _ _ l
 generalize h.next=a at*
 generalize j.next=b at*
 refine gh (tA [0,1,2,3,5,6,7,8] (JQ 4 [1,3] (JQ 9 [4,6,8] (JQ 10 [4,9] (JQ 11 [9,10] (tA [12] .done)))))) ?_;refine CO (acL @Dh @Z0 @Ip.eq_1 @Gc (lK c) (HY c) (lK f) (HY f)) ?_;refine kGi qS27 (wS g p.1 q.1 h2) ?_;rintro x h3 u ⟨rfl,rfl⟩;refine CO (acL @Dh @Z0 @Ip.eq_1 @Gc (lK c) (HY c) (lK f) (HY f)) ?_;refine kGi qS27 (wS g p.2 q.2 h3) ?_;rintro x w n ⟨rfl,rfl⟩;obtain⟨o,r,l5,y,s⟩:=Tt n [.int .i64 (iC p.1 q.1),.int .i64 (iC p.2 q.2)];have d:=l5.own _ _ c;have e:=l5.own _ _ f;refine CO (Da @Dh @Z0 @Ip.eq_1 @Gc (lK c) (HY c) (lK f) (HY f) @mk2 r (lK d) (HY d) (lK e) (HY e)) ?_;refine kGi Tryz.func87 (Or_any g _ [iC p.1 q.1,iC p.2 q.2] o (RL.Wh (RS.whole s rfl)) Ma) ?_;rintro x z A ⟨rfl,rfl⟩;refine CO (acL @Dh @Z0 @Ip.eq_1 @Gc (lK d) (HY d) (lK e) (HY e)) ?_;exact⟨rfl,(l1.trans l2).trans l5⟩
def yu(g:LA)(p q:Pr)(h:aae):AC Tryz.prog g 167 [UI p,UI q] h fun v h'=>v=.int .i64 (Nz p q)/\Le h h':=by
 refine AC.vE ⟨Tryz.func167,rfl,WY⟩ Tryz.ntmps167 Tryz.results167 fun i=>?_;simp only[Br,seval];obtain⟨j,k,l1,w1,l⟩:=Tt i (xM p);obtain⟨h2,m,l2,t,f⟩:=Tt w1 (xM q);refine Sk (Yb @Ci k m) ?_;have c:=l2.own _ _ l
 generalize h.next=a at*
 generalize j.next=b at*
 refine gh (tA [0,1,2,3,5,6,7,8] (JQ 4 [1,3] (JQ 9 [4,6,8] (JQ 10 [4,9] (JQ 11 [9,10] (tA [12] .done)))))) ?_;refine CO (acL @Dh @Z0 @Ip.eq_1 @Gc (lK c) (HY c) (lK f) (HY f)) ?_;refine kGi qS27 (wS g p.1 q.1 h2) ?_;rintro x h3 u ⟨rfl,rfl⟩;refine CO (acL @Dh @Z0 @Ip.eq_1 @Gc (lK c) (HY c) (lK f) (HY f)) ?_;refine kGi qS27 (wS g p.2 q.2 h3) ?_;rintro x w n ⟨rfl,rfl⟩;obtain⟨o,r,l5,y,s⟩:=Tt n [.int .i64 (iC p.1 q.1),.int .i64 (iC p.2 q.2)];have d:=l5.own _ _ c;have e:=l5.own _ _ f;refine CO (Da @Dh @Z0 @Ip.eq_1 @Gc (lK c) (HY c) (lK f) (HY f) @mk2 r (lK d) (HY d) (lK e) (HY e)) ?_;refine kGi Tryz.func87 (Or_any g _ [iC p.1 q.1,iC p.2 q.2] o (RL.Wh (RS.whole s rfl)) Ma) ?_;rintro x z A ⟨rfl,rfl⟩;refine CO (acL @Dh @Z0 @Ip.eq_1 @Gc (lK d) (HY d) (lK e) (HY e)) ?_;exact⟨rfl,(l1.trans l2).trans l5⟩
def YN(G:GM)(i:Nat):Prop:=∀p,G.es[i]?=some p->(0<=p.1/\p.1<p.2/\p.2<G.n)/\∀q,0<i->G.es[i-1]?=some q->Nz q p<0
structure bX (G:GM):Prop where
 n0:0<=G.n
 n1:G.n<=200
 len:G.es.length<=594
 ok:∀i,i<G.es.length->YN G i
theorem ak(V:LA)(v:Value)(G:GM)(h:aae)(hg:GR h v G):AC Tryz.prog V 24 [v] h fun x h'=>afK (bX G) x/\Le h h':=by
 obtain⟨ev,rfl,C⟩:=hg.ex;refine AC.vE ⟨zL,rfl,WY⟩ Tryz.ntmps24 Tryz.results24 fun R=>?_;simp only[Br,seval];obtain⟨W,J,l,aa,-,S⟩:=r8 (n:=G.n) R C
 generalize h.next=B at*
 have X:=fun g=>C.len g;have c:=S W (Le.refl _);by_cases K:G.n<0
 .refine Sk (bG J @Ii @Ip.eq_1 @Gc c.2.1 K) ?_;exact⟨.f fun q=>by have:=q.n0;omega,l⟩
 by_cases c1:G.n>200
 .refine Sk (rE J @Ii @Ip.eq_1 @Gc c.2.1 K c1) ?_;exact⟨.f fun q=>by have:=q.n1;omega,l⟩
 by_cases c2:(G.es.length:Int)>594
 .refine Sk (rk J @Ii @Di @Ip.eq_1 @Gc c.2.1 c.2.2 X K c1 c2) ?_;grind[afK.f,bX.len]
 refine Sk (rk J @Ii @Di @Ip.eq_1 @Gc c.2.1 c.2.2 X K c1 c2) ?_;refine lIn (fun k fr hh=>∃i:Nat,k=G.es.length-i/\i<=G.es.length/\fr=mkF [(1,.pointer (some ⟨B,0,none⟩)),(20,ev),(21,.int .i64 G.es.length),(22,.int .i64 i)]/\Le W hh/\∀j,j<i->YN G j) ⟨0,rfl,WA _,rfl,Le.refl _,NH⟩ ?_;rintro k fr hh T ⟨i,rfl,hi,rfl,a,D⟩;refine Uy ?_;refine Kl.intro (fun ht=>?_) (fun hf=>?_)
 rotate_left
 .have ae:G.es.length<=i:=vp hf;refine Uy ?_;exact⟨.t ⟨NH,NH,NH,fun j hj=>D j NH⟩,l.trans a⟩
 have m:i<G.es.length:=CC ht;clear ht;have d:=CA m;generalize G.es[i]=p at d;have y:=C.le (l.trans a);have ad:=C.addr (k:=.i64) i m;have ld:=y.load d;obtain⟨h2,h3,L,M,b,ag,N⟩:=Ut T p;have O:=lK N;have P:=HY N;have LP:=uM N;have fT:=S h3 (a.trans b);have bad:¬YN G i->¬bX G:=fun hn q=>hn (q.ok i m);have u:=(l.trans a).trans b
 generalize hh.next=E at*
 by_cases Q:p.1<0
 .simp only[HO,seval,ad,ld,L,M,Dh,Z0,Ip,Gc,O,P,Q];exact⟨.f (bad fun q=>by have:=(q p d).1.1;omega),u⟩
 by_cases d1:p.1>=p.2
 .simp only[HO,seval,ad,ld,L,M,Dh,Z0,Ip,Gc,O,P,Q,d1];exact⟨.f (bad fun q=>by have:=(q p d).1.2.1;omega),u⟩
 by_cases d2:p.2>=G.n
 .simp only[HO,seval,ad,ld,L,M,Dh,Z0,Ii,Ip,Gc,O,P,fT.2.1,Q,d1,d2];exact⟨.f (bad fun q=>by have:=(q p d).1.2.2;omega),u⟩
 simp only[HO,seval,ad,ld,L,M,Dh,Z0,Ii,Ip,Gc,O,P,fT.2.1,Q,d1,d2];by_cases i0:i=0
 .subst i0;have z:((0:Int)<((0:Nat):Int))=False:=eq_false NH;refine gh (tA [0,1,2,3,4,5,6,7,8,9] (JQ 10 [2,8,9] (tA [11,12] .done))) ?_;refine CO (Yb @gt_iff_lt.{0} z (Tw 0 NH)) ?_
  refine lgA NH ⟨0+1,rfl,m,rfl,a.trans b,fun j hj=>?_⟩;have:j=0:=NH;subst this;intro p' U;grind
 .have z:((0:Int)<(i:Int))=True:=eq_true NH;have w:=CA (show i-1<G.es.length by omega);generalize G.es[i-1]'(by omega)=q at w
  have o:adA .i64 ((i:Int)-1)=((i-1:Nat):Int):=by grind[cT]
  have A:=C.addr (k:=.i64) (i-1) NH;have F:=(y.le b).load w;refine gh (tA [0,1,2,3,4,5,6,7,8,9] (JQ 10 [2,8,9] (tA [11,12] .done))) ?_;simp only[HO,seval,Qg,gt_iff_lt,z,o,Di,Ip,Gc,fT.2.2,A,F,LP];refine kGi Tryz.func63 (DU V q p h3) ?_;rintro x h4 aj ⟨rfl,r⟩;have H:=S h4 ((a.trans b).trans r);have s:=F;have I:=uM (r.own _ _ N);have s:=((y.le b).le r).load w;by_cases d3:Nz q p>=0
  .refine CO (Pj z o @Di @Ip.eq_1 @Gc H.2.2 A s I d3) ?_;exact⟨.f (bad fun k=>by have:=(k p d).2 q NH w;omega),u.trans r⟩
  .refine CO (rk z o @Di @Ip.eq_1 @Gc H.2.2 A s I d3 (Tw i NH)) ?_;refine lgA NH ⟨i+1,rfl,m,rfl,(a.trans b).trans r,fun j hj=>?_⟩;by_cases e:j=i
   .subst e;intro p' U;grind
   grind
def agX(K:LA)(v:Value)(G:GM)(h:aae)(hg:GR h v G):AC Tryz.prog K 55 [v] h fun x h'=>afK (bX G) x/\Le h h':=by
 obtain⟨ev,rfl,y⟩:=hg.ex;refine AC.vE ⟨Xv,rfl,WY⟩ Tryz.ntmps55 Tryz.results55 fun C=>?_;simp only[Br,seval];obtain⟨H,z,b,L,-,M⟩:=r8 (n:=G.n) C y
 generalize h.next=B at*
 have D:=fun g=>y.len g;have a:=M H (Le.refl _);have u:=y.le b;by_cases A:G.n<0
 .refine Sk (bG z @Ii @Ip.eq_1 @Gc a.2.1 A) ?_;exact⟨.f fun q=>by have:=q.n0;omega,b⟩
 by_cases c1:G.n>200
 .refine Sk (rE z @Ii @Ip.eq_1 @Gc a.2.1 A c1) ?_;exact⟨.f fun q=>by have:=q.n1;omega,b⟩
 by_cases c2:(G.es.length:Int)>594
 .refine Sk (rk z @Ii @Di @Ip.eq_1 @Gc a.2.1 a.2.2 D A c1 c2) ?_;exact⟨.f fun q=>by have:=q.len;omega,b⟩
 refine Sk (rk z @Ii @Di @Ip.eq_1 @Gc a.2.1 a.2.2 D A c1 c2) ?_;refine lIn (fun k fr hh=>∃(i:Nat)(last:Int),k=G.es.length-i/\i<=G.es.length/\hh=H/\fr=mkF [(1,.pointer (some ⟨B,0,none⟩)),(3,.int .i64 last),(4,.int .i64 i)]/\
   (∀j,j<i->YN G j)/\((i=0/\last=-1)\/∃q,0<i/\G.es[i-1]?=some q/\last=q.1*200+q.2)) ⟨0,-1,rfl,WA _,rfl,rfl,NH,.inl ⟨rfl,rfl⟩⟩ ?_
 rintro k fr hh-⟨i,last,rfl,hi,rfl,rfl,d,l⟩;refine Sk (IX @Di @Ip.eq_1 @Gc a.2.2 D) ?_;refine Kl.intro (fun I=>?_) (fun hf=>?_)
 rotate_left
 .have N:G.es.length<=i:=vp hf;refine Uy ?_;exact⟨.t ⟨NH,NH,NH,fun j O=>d j NH⟩,b⟩
 have m:i<G.es.length:=CC I;clear I;have c:=CA m;generalize G.es[i]=p at c;have ad:=y.addr (k:=.i64) i m;have l0:=u.l0 c;have l1:=u.l1 c;simp only[Ip]at l0 l1;have bad:¬YN G i->¬bX G:=fun P q=>P (q.ok i m);refine Uy ?_;refine gh (tA [0,1,2,3,4,5,6,7,8,9,10,11,12,13] .done) ?_;by_cases r:p.1<0
 .simp only[HO,seval,Qg,Di,Dh,Z0,Ip,Gc,a.2.2,ad,l0,l1,r];exact⟨.f (bad fun q=>by have:=(q p c).1.1;omega),b⟩
 by_cases d1:p.2<0
 .simp only[HO,seval,Qg,Di,Dh,Z0,Ip,Gc,a.2.2,ad,l0,l1,r,d1];exact⟨.f (bad fun q=>by have:=(q p c).1;omega),b⟩
 by_cases d2:p.1>=G.n
 .simp only[HO,seval,Qg,Ii,Di,Dh,Z0,Ip,Gc,a.2.1,a.2.2,ad,l0,l1,r,d1,d2];exact⟨.f (bad fun q=>by have:=(q p c).1;omega),b⟩
 by_cases d3:p.2>=G.n
 .simp only[HO,seval,Qg,Ii,Di,Dh,Z0,Ip,Gc,a.2.1,a.2.2,ad,l0,l1,r,d1,d2,d3];exact⟨.f (bad fun q=>by have:=(q p c).1;omega),b⟩
 by_cases d4:p.1>=p.2
 .simp only[HO,seval,Qg,Ii,Di,Dh,Z0,Ip,Gc,a.2.1,a.2.2,ad,l0,l1,r,d1,d2,d3,d4];exact⟨.f (bad fun q=>by have:=(q p c).1;omega),b⟩
 have w1:adA .i64 (p.1*200)=p.1*200:=cT _ NH NH;have J:adA .i64 (p.1*200+p.2)=p.1*200+p.2:=cT _ NH NH;by_cases d5:p.1*200+p.2<=last
 .simp only[HO,seval,Qg,Ii,Di,Dh,Z0,Ip,Gc,a.2.1,a.2.2,ad,l0,l1,r,d1,d2,d3,d4,w1,J,d5];refine⟨.f (bad fun k=>?_),b⟩;rcases l with⟨rfl,rfl⟩|⟨q,E,s,rfl⟩
  .omega
  .have:=(Hv q p).1 ((k p c).2 q E s);have F:=(d (i-1) NH q s).1;omega
 .simp only[HO,seval,Qg,Ii,Di,Dh,Z0,Ip,Gc,a.2.1,a.2.2,ad,l0,l1,r,d1,d2,d3,d4,w1,J,d5,Tw i NH];refine lgA NH ⟨i+1,_,rfl,m,rfl,rfl,fun j O=>?_,.inr ⟨p,NH,by simpa using c,rfl⟩⟩;by_cases e:j=i
  .subst e;intro S o;rw[c]at o;injection o with o;subst o;refine⟨⟨NH,NH,NH⟩,fun q Q s=>?_⟩;rcases l with⟨rfl,rfl⟩|⟨R,_,w,rfl⟩
   .omega
   .rw[w]at s;injection s with s;subst s;have F:=(d (j-1) NH R w).1;rw[Hv];omega
  .exact d j NH
variable {es:List Pr} {j:Nat} {p:Pr}
def D3(es:List Pr):Prop:=∀(i j:Nat) p q,i<j->es[i]?=some p->es[j]?=some q->Nz p q<0
theorem bX.q9{G:GM}(r:bX G):D3 G.es:=by
 have step:∀(d i:Nat) p q,G.es[i]?=some p->G.es[i+(d+1)]?=some q->Nz p q<0:=by
  intro d
  induction d with
  |zero=>intro i p q b a;have c:=(Ny.1 a).1;exact(r.ok (i+1) c q a).2 p NH pw
  |succ d f=>intro i p q b a;have c:=(Ny.1 a).1;have e:=CA (show i+(d+1)<G.es.length by omega);have h:=f i p _ b e;have h2:=(r.ok (i+(d+1+1)) c q a).2 _ NH (by rw[show i+(d+1+1)-1=i+(d+1) by omega];exact e);rw[Hv]at*;omega
 intro i j p q g b a;have:=step (j-i-1) i p q b pw;exact this
theorem D3.uniq(a:D3 es)(hi:es[i]?=some p)(b:es[j]?=some p):i=j:=by
 rcases zO i j with h|h|h
 .have:=a i j p p h hi b;grind[eK]
 .exact h
 .have:=a j i p p h b hi;grind[eK]
theorem aw_u64(n:Nat)(h:n<18446744073709551616):adA .u64 (n:Int)=(n:Int):=by grind[adA]
theorem shr_u64(n:Nat)(h:n<18446744073709551616):ahd .shr .u64 (n:Int) 1=some (.int .u64 ((n / 2:Nat):Int)):=by
 have e:((n:Int)).fdiv (2^min 1 IntKind.u64.bits)=((n / 2:Nat):Int):=by rw[show min 1 IntKind.u64.bits=1 from rfl,Int.fdiv_eq_ediv_of_nonneg _ WY];simp
 grind[ahd]
def cv3u(h:aae)(x:Int):ahg Tryz.prog h 3 146 (.int .i64 x)=some (.int .u64 (adA .u64 x),h):=by simp[ahg,qS16,Ac]
def cvu3(h:aae)(x:Int):ahg Tryz.prog h 146 3 (.int .u64 x)=some (.int .i64 (adA .i64 x),h):=by simp[ahg,qS16,Ac]
theorem xm(G:LA)(F:FuncId)(fn:Func)(c:Code)(H:Good Tryz.prog F fn c)(n:∀(p q:Pr)(h:aae),AC Tryz.prog G F [UI p,UI q] h fun v h'=>v=.int .i64 (Nz p q)/\Le h h')(v:Value)(es:List Pr)(p:Pr)(h:aae)(r:PR h v es)(hn:es.length<=1000)(ha:D3 es):
  AC Tryz.prog G 70 [v,UI p,.func (.func F) #[] #[]] h fun x h'=>(∃(i:Nat)(b:Bool),x=.tuple #[.int .i64 i,.bool b]/\(b=true->es[i]?=some p)/\(b=false->p∉es))/\Le h h':=by
 refine AC.vE ⟨Tryz.func70,rfl,WY⟩ Tryz.ntmps70 Tryz.results70 fun t=>?_;simp only[Br,seval];obtain⟨L,M,l1,w1,u⟩:=Tt t (xM p);have N:=fun g=>r.len g;refine Sk (Yb @Ci M N) ?_
 generalize h.next=B at*
 refine lIn (fun k fr hh=>∃lo hi:Nat,k=hi-lo/\lo<=hi/\hi<=es.length/\fr=mkF [(0,v),(2,.func (.func F) #[] #[]),(4,.pointer (some ⟨B,0,none⟩)),(8,.int .i64 es.length),(9,.int .i64 lo),(10,.int .i64 hi)]/\Le L hh/\
   (∀(k:Nat) q,k<lo->es[k]?=some q->Nz q p<0)/\∀(k:Nat) q,hi<=k->es[k]?=some q->¬Nz q p<0) ⟨0,es.length,rfl,WA _,qL0 _,rfl,Le.refl _,NH,fun k q s d=>by grind⟩ ?_
 rintro k fr hh O ⟨lo,hi,rfl,P,w,rfl,a,y,A⟩;have I:=uM (a.own _ _ u);have f:=r.le (l1.trans a);refine Uy ?_;refine Kl.intro (fun J=>?_) (fun hf=>?_)
 .have Q:lo<hi:=CC J;clear J;have R:adA .i64 ((lo:Int)+(hi:Int))=((lo+hi:Nat):Int):=by grind[cT]
  have S:=aw_u64 (lo+hi) NH;have T:=shr_u64 (lo+hi) NH;have U:adA .i64 (((lo+hi) / 2:Nat):Int)=(((lo+hi) / 2:Nat):Int):=cT _ NH NH;have C:(lo+hi) / 2<hi:=NH;have D:lo<=(lo+hi) / 2:=NH;refine Sk (bG R @cv3u S T @cvu3 U) ?_;generalize (lo+hi) / 2=m at*;have d:=CA (show m<es.length by omega);generalize es[m]'(by omega)=q at d
  have ad:=r.addr (k:=.i64) m NH;have ld:=f.load d;refine gh (tA [0,1,2,3,4,5] (JQ 6 [0,4,5] (tA [7] .done))) ?_;simp only[HO,seval,Qg,ad,ld,I];refine VA.intro PJ H (n q p hh) ?_;rintro x h3 V ⟨rfl,l3⟩;have j:=uM ((a.trans l3).own _ _ u);have l:=(f.le l3).load d;by_cases K:Nz q p<0
  .simp only[HO,seval,Qg,ad,l,j,K,Tw m NH];refine lgA NH ⟨m+1,hi,rfl,C,w,rfl,a.trans l3,fun k E s o=>?_,A⟩;by_cases e:k=m
   .grind
   .have:=ha k m E q NH o d;grind[Hv]
  .simp only[HO,seval,Qg,ad,l,j,K];refine lgA NH ⟨lo,m,rfl,D,NH,rfl,a.trans l3,y,fun k E s o=>?_⟩;by_cases e:k=m
   .grind
   .have:=ha m k q E NH d o;grind[Hv]
 have W:hi<=lo:=vp hf;obtain rfl:lo=hi:=NH;clear hf;by_cases c1:lo<es.length
 .have z:((lo:Int)<(es.length:Int))=True:=eq_true NH;have d:=CA c1;generalize es[lo]=q at d;have ad:=r.addr (k:=.i64) lo c1;have ld:=f.load d;refine Uy ?_;refine gh (tA [0,1,2,3,4,5,6,7,8,9,10] (JQ 11 [4,5,9,10] (tA [12,13,14,15] .done))) ?_;simp only[HO,seval,Qg,z,ad,ld,I];refine VA.intro PJ H (n q p hh) ?_;rintro x h3 V ⟨rfl,l3⟩;have j:=uM ((a.trans l3).own _ _ u);have l:=(f.le l3).load d;simp only[HO,seval,Qg,z,ad,l,j];refine⟨⟨lo,decide (Nz q p=0),rfl,fun e=>?_,fun e=>?_⟩,(l1.trans a).trans l3⟩
  .grind[eK]
  .have X:=of_decide_eq_false e;intro C;obtain⟨k,s⟩:=qy.1 C;have h0:=(eK p p).2 rfl;rcases zO k lo with h|h|h
   .grind
   .grind
   .have:=ha lo k q p h d s;grind
 .have z:((lo:Int)<(es.length:Int))=False:=eq_false NH;refine Uy ?_;refine gh (tA [0,1,2,3,4,5,6,7,8,9,10] (JQ 11 [4,5,9,10] (tA [12,13,14,15] .done))) ?_;refine CO z ?_;grind[Le.trans,List.mem_iff_getElem?,eK]
theorem D3.nodup{l:List Pr}(a:D3 l):l.Nodup:=by rw[Gw,wI];intro i j hi c b e;have:=a i j _ _ b (CA hi) (CA c);grind[eK]
end
end Go.Fw
