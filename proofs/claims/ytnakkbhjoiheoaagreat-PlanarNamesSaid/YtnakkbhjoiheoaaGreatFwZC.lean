/- A text. -/
import Derived.Test.YtnakkbhjoiheoaaGreatProg
import Derived.Test.YtnakkbhjoiheoaaGreatFwDraw
set_option linter.all false
set_option maxRecDepth 99999
set_option maxHeartbeats 9999999
open Go.Proofs
open Option renaming some→Z,none→Y
open Bool renaming true→tT,false→fF
open List renaming replicate→rP,range→rG
open Go.Value renaming slice→sL,pointer→pT
open Go renaming Value→vV
open Go.Proofs.Tryz renaming prog→pG
open Go.Proofs.Tryz
open List
namespace Go.Fw
theorem fD{p:Prop}(h:p:=by simp only[Fj,HO,Nat.reduceLT,↓reduceIte,Nat.reduceEqDiff,reduceCtorEq];simp):p:=h
theorem PJ{p:Prop}(h:p:=by simp only[HO,Nat.reduceLT,↓reduceIte,Nat.reduceEqDiff,reduceCtorEq]<;>rfl):p:=h
theorem sbL{fr:aam}:Sub .leaf fr:=fun k v h=>by simp[Trie.get]at h
theorem sbS{t fr:aam}{k:Nat}{v:Value}(h:Sub t fr)(e:fr.get k=some v):Sub (t.set k v) fr:=fun k' v' h'=>by
  rw[Trie.YO]at h'
  by_cases hk:k'=k
  ·subst hk;rw[if_pos rfl]at h';injection h' with h';subst h';exact e
  ·rw[if_neg hk]at h';exact h k' v' h'
theorem lgA{I:Nat→aam→aai→Prop}{k k':Nat}{Q:Exit→aam→aai→Prop}{fr fr':aam}{h:aai}(hk:k'<k)(hi:I k' fr' h)(hl:Sub fr' fr:=by(repeat refine sbS ?_ (by simp only[HO,Nat.reduceLT,↓reduceIte,Nat.reduceEqDiff,reduceCtorEq]<;>simp));exact sbL):aeM I k Q .normal fr h:=⟨k',hk,_,hl,hi⟩
theorem lIn{P:Program}{W0:LA}{N:Nat}{fr fr':aam}{h:aai}{c:Code}{ks:List Kt}{R:Exit→aam→aai→Prop}(I:Nat→aam→aai→Prop){k0:Nat}(h0:I k0 fr' h)(hr:∀k fr h,WF h→I k fr h→VK P W0 N c [] (aeM I k (KE P W0 N R ks)) fr h)(hl:Sub fr' fr:=by(repeat refine sbS ?_ (by simp only[HO,Nat.reduceLT,↓reduceIte,Nat.reduceEqDiff,reduceCtorEq]<;>simp));exact sbL):aab P W0 N c ks R fr h:=.loop I k0 _ hl h0 fun k fr h hi=>ud.wf fun hw=>VC.sound (hr k fr h hw hi)
theorem Uy{p q:Prop}(x:q)(e:p=q:=by simp only[HO,Nat.reduceLT,↓reduceIte,Nat.reduceEqDiff,reduceCtorEq];rfl):p:=e.mpr x
theorem Sk{f p q:Prop}(F:f)(x:q)(e:f→p=q:=by intro k;simp only[HO,Nat.reduceLT,↓reduceIte,Nat.reduceEqDiff,reduceCtorEq,k];rfl):p:=(e F).mpr x
theorem CO{f p q:Prop}(F:f)(x:q)(e:f→p=q:=by intro k;simp only[HO,Nat.reduceLT,↓reduceIte,Nat.reduceEqDiff,reduceCtorEq,Nat.reduceBEq,Nat.reduceAdd,Qg,k];rfl):p:=(e F).mpr x
theorem kCi {P:Program} {W0:LA} {N:Nat} {ops:Array Oper} {fr:aam} {h:aai} {ks:List Kt} {R:Exit→aam→aai→Prop} {o:Oper} {l:List Oper} {g:FuncId} {args:List Value} {fn:Func} {Rc:Value→aai→Prop} (hg:P.funcs[g]?=some fn) (ha:AC P W0 g args h Rc)
    (hk:∀v h',WF h'→Rc v h'→Kp P W0 N ops ks R l h' (putDst N fr o.dst v)) (hc:abt fr o=some (g,args):=by simp only[HO,Nat.reduceLT,↓reduceIte,Nat.reduceEqDiff,reduceCtorEq]<;>rfl) (h2:fn.body.isSome=true:=by rfl) (h3:(fn.name== "runtime.NumGoroutine")=false:=by decide):TC P W0 N ops ks R o l fr h:=
  .intro hc ⟨hg,(Option.some_get h2).symm,h3⟩ ha hk
theorem kGi {P:Program} {W0:LA} {N:Nat} {ops:Array Oper} {fr:aam} {h:aai} {ks:List Kt} {R:Exit→aam→aai→Prop} {o:Oper} {t:DT} {aac:List Nat} {g:FuncId} {args:List Value} {fn:Func} {Rc:Value→aai→Prop} (hg:P.funcs[g]?=some fn) (ha:AC P W0 g args h Rc)
    (hk:∀v h',WF h'→Rc v h'→KG5 P W0 N ops ks R t aac h' (putDst N fr o.dst v)) (hc:abt fr o=some (g,args):=by simp only[HO,Nat.reduceLT,↓reduceIte,Nat.reduceEqDiff,reduceCtorEq]<;>rfl) (h2:fn.body.isSome=true:=by rfl) (h3:(fn.name== "runtime.NumGoroutine")=false:=by decide):VA P W0 N ops ks R t aac fr h o:=
  .intro hc ⟨hg,(Option.some_get h2).symm,h3⟩ ha hk
def kAr:=XC @me.eq_1 (XC @aeI.eq_1 @aeI.eq_2)
theorem AC.vE{P:Program}{W0:LA}{h:aai}{f:FuncId}{args:List Value}{fn:Func}{c:Code}{R:Value→aai→Prop}(hg:Good P f fn c){n:Nat}(hn:fn.ntmps=n){rs:Array ResultVar}(hrs:fn.results=rs)(hc:WF h→VK P W0 n c [] (agk P rs.toList R) (me args) h)(hlen:args.length≤n:=by simp):AC P W0 f args h R:=AC.vc hg hn hrs hlen hc
theorem AC.vF {P:Program} {W0:LA} {h:aai} {f:FuncId} {args:List Value} {fn:Func} {c:Code} {fr:aam} {R:Value→aai→Prop} (hf:P.funcs[f]?=some fn) {n:Nat} (hn:fn.ntmps=n) {rs:Array ResultVar} (hrs:fn.results=rs)
    (hc:WF h→VK P W0 n c [] (agk P rs.toList R) fr h) (hb:fn.body=some c:=by rfl) (hm:(fn.name== "runtime.NumGoroutine")=false:=by decide) (he:me args=fr:=by simp only[kAr,Nat.reduceLT,↓reduceIte,Nat.reduceEqDiff,reduceCtorEq];rfl) (hlen:args.length≤n:=by simp):AC P W0 f args h R:=AC.vc ⟨hf,hb,hm⟩ hn hrs hlen (he▸hc)
variable {P:Program} {W0:LA} {cs:List Value} {ev v:Value} {h h':aai} {i k n w:Nat} {p:Prop} {α:Type}
def mixed:pG.follows .mixedOrders=tT:=Ji
def CA{l:List α}(h:i<l.length):l[i]?=Z l[i]:=Gc h
theorem D4{l:List α}{d:α}(h:i<l.length):l.getD i d=l[i]:=hGr
def RR(p:Prop)(v:vV):Prop:=∃b:Bool,v=.bool b/\(b=tT↔p)
def RR.t(h:p):RR p (.bool tT):=⟨tT,rfl,by simp[h]⟩
theorem RR.f(h:¬p):RR p (.bool fF):=⟨fF,rfl,by simp[h]⟩
theorem acb(h:decide ((i:Int)<(n:Int))=tT):i<n:=hGr
theorem vp(h:decide ((i:Int)<(n:Int))=fF):n<=i:=hGr
def Tt(hw:WF h)(c:xLV):∃h',h.alloc (.cells c)=h'/\Le h h'/\WF h'/\h'.own h.next=Z (.cells c):=⟨_,rfl,(Le.refl h).alloc hw _,hw.alloc _,aai.zT _ _⟩
def Ya{ι κ:Type}{F:ι->κ->Prop}{A:Prop}(Φ:ι->κ->Prop)(a:(∀x y,F x y->Φ x y)->A)(h2:∀x y,F x y->Φ x y):A:=a h2
def KN.UJ{N:Nat}{ks:List Kt}{R:Exit->aam->aai->Prop}{fr:aam}(q:∀fr' h',fr'=fr->h'=h->KN P W0 N ks R fr' h'):KN P W0 N ks R fr h:=q fr h rfl rfl
theorem GS.kept(g:GS k h v n cs)(d:∀b o,blk v=Z b->h.own b=Z o->h'.own b=Z o):GS k h' v n cs:=by
 obtain⟨a,q|⟨i,c,cap,rfl,e,rr⟩⟩:=g
 .exact⟨a,.inl q⟩
 .exact⟨a,.inr ⟨i,c,cap,rfl,d i _ rfl e,rr⟩⟩
theorem GS.put{k n:Nat}{h:aai}{v:vV}{cs:xLV}(g:GS k h v n cs){id:Nat}(o:fK)(hb:blk v≠Z id):GS k (h.put id o) v n cs:=g.kept fun b a c d=>by grind[aai.By]
abbrev Pr:=Int×Int
abbrev xLP:=List Pr
def xM(p:Pr):xLV:=[.int .i64 p.1,.int .i64 p.2]
def UI(p:Pr):vV:=.agg #[p.1,p.2]
def Iu(ps:List Pr):xLV:=ps.flatMap xM
theorem Ta(ps:List Pr):(Iu ps).length=ps.length*2:=by
 induction ps<;>grind[Iu,xM]
def WI(ps:List Pr):(Iu ps).all (·.oneCell')=tT:=by rw[QD];intro x a;rw[Iu,KG]at a;have⟨p,_,a⟩:=a;simp[xM]at a;rcases a with rfl|rfl<;>rfl
theorem mZ(a b:List Pr):Iu (a++b)=Iu a++Iu b:=by simp[Iu]
theorem H5:∀(ps:List Pr)(i:Nat)(p:Pr),ps[i]?=Z p->(Iu ps)[i*2]?=Z (.int .i64 p.1)/\(Iu ps)[i*2+1]?=Z (.int .i64 p.2)
 |[],i,p,h=>by simp at h
 |q::ps,0,p,h=>by grind[Iu,xM]
 |q::ps,i+1,p,h=>by have:=H5 ps i p (by simpa using h);have e:Iu (q::ps)=.int .i64 q.1::.int .i64 q.2::Iu ps:=rfl;grind
def PR(h:aai)(v:vV)(ps:List Pr):Prop:=CS 2 h v ps.length (Iu ps)
def FK(v:vV)(i:Nat):Addr:=aaq v (i*2)
theorem PR.le{h h':aai}{v:vV}{ps:List Pr}(r:PR h v ps)(e:Le h h'):PR h' v ps:=CS.le r e
theorem PR.nil(h:aai):PR h (.slice Y 0 0) []:=CS.nil 2 h
theorem WE:UA pG 49=2:=Ji
def ts3:UA pG 3=1:=Ji
theorem PR.len{ps:List Pr}(r:PR h v ps)(g:aai):aeh pG g 22 v=Z (.int .i64 ps.length):=by obtain⟨a,c,rfl,_⟩:=r.sl;simp[aeh,underlying22]
theorem PR.addr{ps:List Pr}(r:PR h v ps){k:IntKind}(i:Nat)(hi:i<ps.length):aao pG 22 v (.int k i)=Z (pT (Z (FK v i))):=by obtain⟨a,c,rfl,hs⟩:=r.sl;obtain⟨a,rfl⟩:=mJ.1 (hs NH);have b:(i:Int)<(ps.length:Int):=NH;simp[aao,underlying22,underlying49,b,FK,aaq,WE]
def Dh(a:Addr):aao pG 49 (pT (Z a)) (.int .i64 0)=Z (pT (Z (Ip a 0))):=by simp[aao,underlying49,underlying3]
def Z0(a:Addr):aao pG 49 (pT (Z a)) (.int .i64 1)=Z (pT (Z (Ip a 1))):=by simp[aao,underlying49,underlying3,ts3]
theorem PR.get{h:aai}{v:vV}{ps:List Pr}(r:PR h v ps){i:Nat}{p:Pr}(b:ps[i]?=Z p):
  h.read (Ip (FK v i) 0)=Z (.int .i64 p.1)/\h.read (Ip (FK v i) 1)=Z (.int .i64 p.2):=by
 have⟨d,e⟩:=H5 ps i p b;have f:=CS.get r _ _ d;have g:=CS.get r _ _ e;obtain⟨a,c,rfl,hs⟩:=r.sl;grind[Option.isSome_iff_exists,FK,fA,Ip]
def PR.l0{ps:List Pr}(r:PR h v ps){p:Pr}(a:ps[i]?=Z p):aaC pG h 3 (Ip (FK v i) 0)=Z (.int .i64 p.1):=by rw[Bj underlying3 rfl];exact(r.get a).1
def PR.l1{ps:List Pr}(r:PR h v ps){p:Pr}(a:ps[i]?=Z p):aaC pG h 3 (Ip (FK v i) 1)=Z (.int .i64 p.2):=by rw[Bj underlying3 rfl];exact(r.get a).2
theorem PR.load{ps:List Pr}(r:PR h v ps){p:Pr}(b:ps[i]?=Z p):aaC pG h 49 (FK v i)=Z (UI p):=by
 have⟨c,d⟩:=r.get b;have a:abN h (FK v i) 2=Z [.int .i64 p.1,.int .i64 p.2]:=by refine ag8 [p.1,p.2] _ fun j x e=>?_;grind
 have hd:ab8 (.array 2 3)=tT:=rfl;simp only[aaC,underlying49,hd,cond_true,WE,a,UI]
theorem alloc42(h:aai):abO pG h 49=Z (pT (Z h.next),h.alloc (.cells [.int .i64 0,.int .i64 0])):=rfl
def gD{x y:vV}{p:Pr}(a:h.own w=Z (.cells [x,y])):aaK pG h 49 (pT (Z w)) (UI p)=Z (h.put w (.cells (xM p))):=by simp[aaK,a,UI,vV.cells,WE,putCells,xM,underlying49];exact⟨rfl,rfl⟩
def Ci(h:aai)(p:Pr):zF h (UI p)=Z (pT (Z h.next),h.alloc (.cells (xM p))):=rfl
def lK{p:Pr}(a:h.own w=Z (.cells (xM p))):aaC pG h 3 ⟨w,0,Y⟩=Z (.int .i64 p.1):=by rw[Fq underlying3 rfl a];rfl
def HY{p:Pr}(a:h.own w=Z (.cells (xM p))):aaC pG h 3 ⟨w,1,Y⟩=Z (.int .i64 p.2):=by rw[Fq underlying3 rfl a];rfl
def uM{p:Pr}(a:h.own w=Z (.cells (xM p))):aaC pG h 49 ⟨w,0,Y⟩=Z (UI p):=by rw[Wx underlying49 rfl WE a (by simp[xM])];rfl
theorem Ut(hw:WF h)(p:Pr):∃a h2,abO pG h 49=Z (pT (Z h.next),a)/\aaK pG a 49 (pT (Z h.next)) (UI p)=Z h2/\Le h h2/\WF h2/\h2.own h.next=Z (.cells (xM p)):=by
 have⟨a,d,l1,w1,b⟩:=Tt hw [.int .i64 0,.int .i64 0]
 have c:h.own h.next=Y:=(Le.refl h).next hw (qL0 _)
 exact⟨a,_,by grind[alloc42],gD b,l1.put _ c,w1.put _ (w1.lt b),aai.Y3 _ _ _⟩
structure GM where
 n:Int
 es:List Pr
structure GR (h:aai) (v:vV) (G:GM):Prop where
 ex:∃ev,v=.agg #[G.n,ev]/\PR h ev G.es
theorem GR.le{h h':aai}{v:vV}{G:GM}(r:GR h v G)(e:Le h h'):GR h' v G:=by have⟨ev,a,b⟩:=r.ex;exact⟨ev,a,b.le e⟩
def Ii(a:Addr):aca pG 24 (pT (Z a)) 0=Z (pT (Z (Ip a 0))):=rfl
def Di(a:Addr):aca pG 24 (pT (Z a)) 1=Z (pT (Z (Ip a 1))):=rfl
def r8(c:WF h){n:Int}{es:List Pr}(r:PR h ev es):
  ∃a,zF h (.agg #[n,ev])=Z (pT (Z h.next),a)/\Le h a/\WF a/\a.own h.next=Z (.cells [n,ev])/\
   ∀g,Le a g->aaC pG g 24 ⟨h.next,0,Y⟩=Z (.agg #[n,ev])/\aaC pG g 3 ⟨h.next,0,Y⟩=Z (.int .i64 n)/\aaC pG g 22 ⟨h.next,1,Y⟩=Z ev:=by
 have⟨a,d,l1,w1,b⟩:=Tt c [n,ev];have h2:=r.sl.one;refine⟨a,?_,l1,w1,b,fun g e=>⟨?_,Fq underlying3 rfl (e.own _ _ b),Fq underlying22 rfl (e.own _ _ b)⟩⟩
 .rw[<-d];obtain⟨_,_,rfl,_⟩:=r.sl;rfl
 .rw[Wx underlying24 rfl (by kernel_rfl:UA pG 24=2) (e.own _ _ b) Ma];rfl
def xO.cells{v:vV}{n:Nat}(h:xO v n):v.cells=#[v]:=by obtain⟨a,c,rfl,_⟩:=h;rfl
theorem gh{W0:LA}{N:Nat}{fr:aam}{h:aai}{i:Nat}{ol:List Oper}{ks:List Kt}{R:Exit→aam→aai→Prop}(t:DT)(hd:KD Tryz.prog W0 N ol.toArray ks R t [] fr h)(hok:akk ol.toArray t=true:=by kernel_rfl):ZJ Tryz.prog W0 N i ol.toArray ks R fr h:=ZJ.intro mixed t hok hd
def RL.Uc{h:aai}{v:Value}{xs:List Int}(z:RL RP h v xs):=z.loadI (P:=Tryz.prog) Tryz.underlying3 rfl
def RL.DH{α:Type}{R:aai→Value→α→Prop}{h:aai}{v:Value}{xs:List α}(z:RL R h v xs):=z.addr (P:=Tryz.prog) Tryz.underlying28 Tryz.underlying3 (by kernel_rfl) (k:=.i64)
def RS.DH{h:aai}{v:Value}{xs:List Value}(z:RS h v xs):=z.addr (P:=Tryz.prog) Tryz.underlying28 Tryz.underlying3 (by kernel_rfl) (k:=.i64)
def RL.TA{α:Type}{R:aai→Value→α→Prop}{h:aai}{v:Value}{xs:List α}(z:RL R h v xs):=z.len (P:=Tryz.prog) Tryz.underlying28
def RS.TA{h:aai}{v:Value}{xs:List Value}(z:RS h v xs):=z.len (P:=Tryz.prog) Tryz.underlying28
def RL.NS{α:Type}{R:aai→Value→α→Prop}{h:aai}{v:Value}{xs:List α}(z:RL R h v xs):=z.load' (P:=Tryz.prog) Tryz.underlying28 rfl
def RL.Wm{α:Type}{R:aai→Value→α→Prop}{h:aai}{v:Value}{xs:List α}(z:RL R h v xs):=z.addr (P:=Tryz.prog) Tryz.underlying25 Tryz.underlying28 (by kernel_rfl) (k:=.i64)
def RS.Wm{h:aai}{v:Value}{xs:List Value}(z:RS h v xs):=z.addr (P:=Tryz.prog) Tryz.underlying25 Tryz.underlying28 (by kernel_rfl) (k:=.i64)
def RL.qP5{α:Type}{R:aai→Value→α→Prop}{h:aai}{v:Value}{xs:List α}(z:RL R h v xs):=z.len (P:=Tryz.prog) Tryz.underlying25
def RS.qP5{h:aai}{v:Value}{xs:List Value}(z:RS h v xs):=z.len (P:=Tryz.prog) Tryz.underlying25
def RL.qP6{α:Type}{R:aai→Value→α→Prop}{h:aai}{v:Value}{xs:List α}(z:RL R h v xs):=z.len (P:=Tryz.prog) Tryz.underlying26
def RS.qP6{h:aai}{v:Value}{xs:List Value}(z:RS h v xs):=z.len (P:=Tryz.prog) Tryz.underlying26
def RL.qP7{α:Type}{R:aai→Value→α→Prop}{h:aai}{v:Value}{xs:List α}(z:RL R h v xs):=z.addr (P:=Tryz.prog) Tryz.underlying26 Tryz.underlying28 (by kernel_rfl) (k:=.i64)
def RS.qP7{h:aai}{v:Value}{xs:List Value}(z:RS h v xs):=z.addr (P:=Tryz.prog) Tryz.underlying26 Tryz.underlying28 (by kernel_rfl) (k:=.i64)
def Mb:=@Go.Proofs.Tryz.underlying28
def Ac:=@Go.Proofs.Tryz.underlying3
def AV:=@Go.Proofs.Tryz.underlying4
def eY:=@Go.Proofs.Tryz.underlying22
def Uh:=@Go.Proofs.Tryz.underlying41
def qS5:=@Go.Proofs.Tryz.underlying49
def qS6:=@Go.Proofs.Tryz.func33
def qS7:=@Go.Proofs.Tryz.underlying24
def qS8:=@Go.Proofs.Tryz.underlying25
def qS9:=@Go.Proofs.Tryz.underlying96
def UP:=@Go.Proofs.Tryz.underlying90
def KT:=@Go.Proofs.Tryz.func167
def sU:=@Go.Proofs.Tryz.underlying165
def afm:=@Go.Proofs.Tryz.underlying127
def alD:=@Go.Proofs.Tryz.underlying64
def qS15:=@Go.Proofs.Tryz.underlying114
def YW:=@Go.Proofs.Tryz.func82
def akP:=@Go.Proofs.Tryz.func44
def qS18:=@Go.Proofs.Tryz.underlying74
def qS19:=@Go.Proofs.Tryz.underlying26
def akW:=@Go.Proofs.Tryz.func19
def qS21:=@Go.Proofs.Tryz.underlying168
def qS22:=@Go.Proofs.Tryz.func54
def qS23:=@Go.Proofs.Tryz.func14
def qS24:=@Go.Proofs.Tryz.underlying161
def qS25:=@Go.Proofs.Tryz.underlying126
def qS26:=@Go.Proofs.Tryz.func112
def qS27:=@Go.Proofs.Tryz.func127
def qS28:=@Go.Proofs.Tryz.func128
def qS29:=@Go.Proofs.Tryz.func131
def qS30:=@Go.Proofs.Tryz.underlying84
def qS31:=@Go.Proofs.Tryz.func81
def qS32:=@Go.Proofs.Tryz.func61
def qS33:=@Go.Proofs.Tryz.func11
def qS34:=@Go.Proofs.Tryz.func101
def qS35:=@Go.Proofs.Tryz.func165
def qS36:=@Go.Proofs.Tryz.func129
def qS37:=@Go.Proofs.Tryz.underlying97
def qS38:=@Go.Proofs.Tryz.underlying94
section
attribute [local irreducible] Kp MQ lU KO1 KO KN KX KE VK Kl ZJ TC aab
theorem Pd(b:LA)(a:Int)(h:aai):AC pG b 112 [a] h fun v h'=>v=.bool fF/\h'=h:=by refine AC.vF qS26 ntmps112 results112 fun c=>?_;simp only[HO,seval,bne,eq_self];grind
def iC(a b:Int):Int:=if a<b then-1 else if a>b then 1 else 0
def wS(d:LA)(a b:Int)(h:aai):AC pG d 81 [a,b] h fun v h'=>v=.int .i64 (iC a b)/\h'=h:=by
 refine AC.vF qS31 ntmps81 results81 fun e=>?_;refine Uy ?_;refine kCi qS26 (Pd d a h) ?_;rintro x f w1 ⟨rfl,rfl⟩;refine Uy ?_;refine kCi qS26 (Pd d b f) ?_;rintro x h2 w2 ⟨rfl,rfl⟩;unfold iC;by_cases c:a<b
 .simp only[HO,seval,c];exact⟨trivial,trivial⟩
 .by_cases c2:a>b
  .simp only[HO,seval,c,c2];exact⟨trivial,trivial⟩
  .simp only[HO,seval,c,c2];exact⟨trivial,trivial⟩
def orM:RZ->Int
 |[]=>0
 |x::r=>if x=0 then orM r else x
theorem Or_any(f:LA)(v:vV)(xs:RZ)(h:aai)(d:RL RP h v xs)(m:xs.length<=1000):AC pG f 80 [v] h fun x h'=>x=.int .i64 (orM xs)/\h'=h:=by
 refine AC.vF func80 ntmps80 results80 fun g=>?_;have j:=d.TA h;refine Sk j ?_;refine lIn (fun k fr hh=>∃i:Nat,k=xs.length-i/\i<=xs.length/\hh=h/\fr=mkF [(3,.int .i64 0),(6,v),(7,xs.length),(8,i)]/\orM xs=orM (xs.drop i)) ⟨0,rfl,aax _,rfl,rfl,rfl⟩ ?_;rintro k fr hh-⟨i,rfl,hi,rfl,rfl,b⟩;refine Uy ?_;refine Kl.intro (fun l=>?_) (fun hf=>?_)
 .have a:i<xs.length:=acb l;have ad:=d.DH i a;have ld:=d.Uc i a;rw[qL68 a,orM]at b;by_cases c:xs[i]=0
  .rw[Sb c]at b;simp only[HO,seval,ad,ld,bne,eq_true c,aaa i NH];exact lgA NH ⟨i+1,rfl,a,rfl,rfl,b⟩
  .rw[WA c]at b;simp only[HO,seval,ad,ld,bne,eq_false c];grind
 .have e:xs.length<=i:=vp hf;rw[alu e,orM]at b;refine Uy ?_;grind
def Nz(p q:Pr):Int:=orM [iC p.1 q.1,iC p.2 q.2]
theorem Hv(p q:Pr):Nz p q<0↔p.1<q.1\/p.1=q.1/\p.2<q.2:=by grind[Nz,orM,iC]
theorem eK(p q:Pr):Nz p q=0↔p=q:=by grind[Nz,orM,iC]
def mk2(h:aai)(a b:Int):aas pG h 28 2 [(0,a),(1,b)]=Z (sL (Z h.next) 2 2,h.alloc (.cells [a,b])):=rfl
def DU(g:LA)(p q:Pr)(h:aai):AC pG g 50 [UI p,UI q] h fun v h'=>v=.int .i64 (Nz p q)/\Le h h':=by
 refine AC.vF func50 ntmps50 results50 fun i=>?_;have⟨j,k,l1,w1,l⟩:=Tt i (xM p);have⟨h2,m,l2,w2,f⟩:=Tt w1 (xM q);refine Sk (Yb @Ci k m) ?_;have c:=l2.own _ _ l
 generalize h.next=a at*
 generalize j.next=b at*
 refine gh (tA [0,1,2,3,5,6,7,8] (JQ 4 [1,3] (JQ 9 [4,6,8] (JQ 10 [4,9] (JQ 11 [9,10] (tA [12] .done)))))) ?_;refine CO (adG @Dh @Z0 @Ip.eq_1 @EL (lK c) (HY c) (lK f) (HY f)) ?_;refine kGi qS31 (wS g p.1 q.1 h2) ?_;rintro x h3 t ⟨rfl,rfl⟩;refine CO (adG @Dh @Z0 @Ip.eq_1 @EL (lK c) (HY c) (lK f) (HY f)) ?_;refine kGi qS31 (wS g p.2 q.2 h3) ?_;rintro x u n ⟨rfl,rfl⟩;have⟨o,r,l5,w,s⟩:=Tt n [.int .i64 (iC p.1 q.1),.int .i64 (iC p.2 q.2)];have d:=l5.own _ _ c;have e:=l5.own _ _ f;refine CO (Da @Dh @Z0 @Ip.eq_1 @EL (lK c) (HY c) (lK f) (HY f) @mk2 r (lK d) (HY d) (lK e) (HY e)) ?_;refine kGi func80 (Or_any g _ [iC p.1 q.1,iC p.2 q.2] o (RL.Wh (RS.whole s rfl)) Ma) ?_;rintro x y z ⟨rfl,rfl⟩;refine CO (adG @Dh @Z0 @Ip.eq_1 @EL (lK d) (HY d) (lK e) (HY e)) ?_;exact⟨rfl,(l1.trans l2).trans l5⟩
def yu(g:LA)(p q:Pr)(h:aai):AC pG g 176 [UI p,UI q] h fun v h'=>v=.int .i64 (Nz p q)/\Le h h':=by
 refine AC.vF func176 ntmps176 results176 fun i=>?_;have⟨j,k,l1,w1,l⟩:=Tt i (xM p);have⟨h2,m,l2,w2,f⟩:=Tt w1 (xM q);refine Sk (Yb @Ci k m) ?_;have c:=l2.own _ _ l
 generalize h.next=a at*
 generalize j.next=b at*
 refine gh (tA [0,1,2,3,5,6,7,8] (JQ 4 [1,3] (JQ 9 [4,6,8] (JQ 10 [4,9] (JQ 11 [9,10] (tA [12] .done)))))) ?_;refine CO (adG @Dh @Z0 @Ip.eq_1 @EL (lK c) (HY c) (lK f) (HY f)) ?_;refine kGi qS31 (wS g p.1 q.1 h2) ?_;rintro x h3 t ⟨rfl,rfl⟩;refine CO (adG @Dh @Z0 @Ip.eq_1 @EL (lK c) (HY c) (lK f) (HY f)) ?_;refine kGi qS31 (wS g p.2 q.2 h3) ?_;rintro x u n ⟨rfl,rfl⟩;have⟨o,r,l5,w,s⟩:=Tt n [.int .i64 (iC p.1 q.1),.int .i64 (iC p.2 q.2)];have d:=l5.own _ _ c;have e:=l5.own _ _ f;refine CO (Da @Dh @Z0 @Ip.eq_1 @EL (lK c) (HY c) (lK f) (HY f) @mk2 r (lK d) (HY d) (lK e) (HY e)) ?_;refine kGi func80 (Or_any g _ [iC p.1 q.1,iC p.2 q.2] o (RL.Wh (RS.whole s rfl)) Ma) ?_;rintro x y z ⟨rfl,rfl⟩;refine CO (adG @Dh @Z0 @Ip.eq_1 @EL (lK d) (HY d) (lK e) (HY e)) ?_;exact⟨rfl,(l1.trans l2).trans l5⟩
def YN(G:GM)(i:Nat):Prop:=∀p,G.es[i]?=Z p->(0<=p.1/\p.1<p.2/\p.2<G.n)/\∀q,0<i->G.es[i-1]?=Z q->Nz q p<0
structure bX (G:GM):Prop where
 n0:0<=G.n
 n1:G.n<=200
 len:G.es.length<=594
 ok:∀i,i<G.es.length->YN G i
theorem ak(T:LA)(v:vV)(G:GM)(h:aai)(hg:GR h v G):AC pG T 33 [v] h fun x h'=>RR (bX G) x/\Le h h':=by
 obtain⟨ev,rfl,C⟩:=hg.ex;refine AC.vF qS6 ntmps33 results33 fun P=>?_;obtain⟨U,J,l,aa,-,Q⟩:=r8 (n:=G.n) P C
 generalize h.next=B at*
 have V:=fun g=>C.len g;have c:=Q U (Le.refl _);by_cases K:G.n<0
 .refine Sk (bG J @Ii @Ip.eq_1 @EL c.2.1 K) ?_;exact⟨.f fun q=>by have:=q.n0;omega,l⟩
 by_cases c1:G.n>200
 .refine Sk (rE J @Ii @Ip.eq_1 @EL c.2.1 K c1) ?_;exact⟨.f fun q=>by have:=q.n1;omega,l⟩
 by_cases c2:(G.es.length:Int)>594
 .refine Sk (rk J @Ii @Di @Ip.eq_1 @EL c.2.1 c.2.2 V K c1 c2) ?_;grind[RR.f,bX.len]
 refine Sk (rk J @Ii @Di @Ip.eq_1 @EL c.2.1 c.2.2 V K c1 c2) ?_;refine lIn (fun k fr hh=>∃i:Nat,k=G.es.length-i/\i<=G.es.length/\fr=mkF [(1,pT (Z B)),(20,ev),(21,G.es.length),(22,i)]/\Le U hh/\∀j,j<i->YN G j) ⟨0,rfl,aax _,rfl,Le.refl _,NH⟩ ?_;rintro k fr hh R ⟨i,rfl,hi,rfl,a,D⟩;refine Uy ?_;refine Kl.intro (fun W=>?_) (fun hf=>?_)
 rotate_left
 .have ae:G.es.length<=i:=vp hf;refine Uy ?_;exact⟨.t ⟨NH,NH,NH,fun j X=>D j NH⟩,l.trans a⟩
 have m:i<G.es.length:=acb W;clear W;have d:=CA m;generalize G.es[i]=p at d;have y:=C.le (l.trans a);have ad:=C.addr (k:=.i64) i m;have ld:=y.load d;have⟨h2,h3,L,e3,b,ai,M⟩:=Ut R p;have N:=lK M;have L1:=HY M;have LP:=uM M;have fT:=Q h3 (a.trans b);have bad:¬YN G i->¬bX G:=fun hn q=>hn (q.ok i m);have u:=(l.trans a).trans b
 generalize hh.next=E at*
 by_cases O:p.1<0
 .simp only[HO,seval,ad,ld,L,e3,Dh,Z0,Ip,EL,N,L1,O];exact⟨.f (bad fun q=>by have:=(q p d).1.1;omega),u⟩
 by_cases d1:p.1>=p.2
 .simp only[HO,seval,ad,ld,L,e3,Dh,Z0,Ip,EL,N,L1,O,d1];exact⟨.f (bad fun q=>by have:=(q p d).1.2.1;omega),u⟩
 by_cases d2:p.2>=G.n
 .simp only[HO,seval,ad,ld,L,e3,Dh,Z0,Ii,Ip,EL,N,L1,fT.2.1,O,d1,d2];exact⟨.f (bad fun q=>by have:=(q p d).1.2.2;omega),u⟩
 simp only[HO,seval,ad,ld,L,e3,Dh,Z0,Ii,Ip,EL,N,L1,fT.2.1,O,d1,d2];by_cases i0:i=0
 .subst i0;have z:((0:Int)<((0:Nat):Int))=False:=eq_false NH;refine gh (fRn 0 10 (JQ 10 [2,8,9] (tA [11,12] .done))) ?_;refine CO (Yb @gt_iff_lt.{0} z (aaa 0 NH)) ?_
  refine lgA NH ⟨0+1,rfl,m,rfl,a.trans b,fun j X=>?_⟩;have:j=0:=NH;subst this;intro p' S;grind
 .have z:((0:Int)<(i:Int))=True:=eq_true NH;have w:=CA (show i-1<G.es.length by omega);generalize G.es[i-1]'(by omega)=q at w
  have o:aaY .i64 ((i:Int)-1)=((i-1:Nat):Int):=by grind[cT]
  have A:=C.addr (k:=.i64) (i-1) NH;have F:=(y.le b).load w;refine gh (fRn 0 10 (JQ 10 [2,8,9] (tA [11,12] .done))) ?_;simp only[HO,seval,Qg,gt_iff_lt,z,o,Di,Ip,EL,fT.2.2,A,F,LP];refine kGi func50 (DU T q p h3) ?_;rintro x h4 aj ⟨rfl,r⟩;have H:=Q h4 ((a.trans b).trans r);have s:=F;have I:=uM (r.own _ _ M);have s:=((y.le b).le r).load w;by_cases d3:Nz q p>=0
  .refine CO (Pj z o @Di @Ip.eq_1 @EL H.2.2 A s I d3) ?_;exact⟨.f (bad fun k=>by have:=(k p d).2 q NH w;omega),u.trans r⟩
  .refine CO (rk z o @Di @Ip.eq_1 @EL H.2.2 A s I d3 (aaa i NH)) ?_;refine lgA NH ⟨i+1,rfl,m,rfl,(a.trans b).trans r,fun j X=>?_⟩;by_cases e:j=i
   .subst e;intro p' S;grind
   grind
variable {G:GM} {es:List Pr} {j:Nat} {p:Pr}
def D3(es:xLP):Prop:=∀(i j:Nat) p q,i<j->es[i]?=Z p->es[j]?=Z q->Nz p q<0
theorem bX.q9(r:bX G):D3 G.es:=by
 have step:∀(d i:Nat) p q,G.es[i]?=Z p->G.es[i+(d+1)]?=Z q->Nz p q<0:=by
  intro d
  induction d with
  |zero=>intro i p q b a;have c:=(Ny.1 a).1;exact(r.ok (i+1) c q a).2 p NH hGr
  |succ d f=>intro i p q b a;have c:=(Ny.1 a).1;have e:=CA (show i+(d+1)<G.es.length by omega);have h:=f i p _ b e;have h2:=(r.ok (i+(d+1+1)) c q a).2 _ NH (by rw[show i+(d+1+1)-1=i+(d+1) by omega];exact e);rw[Hv]at*;omega
 intro i j p q g b a;have:=step (j-i-1) i p q b hGr;exact this
theorem D3.uniq(a:D3 es)(hi:es[i]?=Z p)(b:es[j]?=Z p):i=j:=by
 rcases adQ i j with h|h|h
 .have:=a i j p p h hi b;grind[eK]
 .exact h
 .have:=a j i p p h b hi;grind[eK]
theorem aw_u64(n:Nat)(h:n<18446744073709551616):aaY .u64 (n:Int)=(n:Int):=by grind[aaY]
theorem Tq(n:Nat)(h:n<18446744073709551616):acV .shr .u64 (n:Int) 1=Z (.int .u64 ((n / 2:Nat):Int)):=by
 have e:((n:Int)).fdiv (2^min 1 IntKind.u64.bits)=((n / 2:Nat):Int):=by rw[show min 1 IntKind.u64.bits=1 from rfl,Int.fdiv_eq_ediv_of_nonneg _ WY];simp
 grind[acV]
def cv3u(h:aai)(x:Int):acX pG h 3 114 x=Z (.int .u64 (aaY .u64 x),h):=by simp[acX,qS15,Ac]
def cvu3(h:aai)(x:Int):acX pG h 114 3 (.int .u64 x)=Z (.int .i64 (aaY .i64 x),h):=by simp[acX,qS15,Ac]
theorem xm(G:LA)(F:FuncId)(fn:Func)(c:Code)(H:Good pG F fn c)(n:∀(p q:Pr)(h:aai),AC pG G F [UI p,UI q] h fun v h'=>v=.int .i64 (Nz p q)/\Le h h')(v:vV)(es:xLP)(p:Pr)(h:aai)(r:PR h v es)(W:es.length<=1000)(ha:D3 es):
  AC pG G 177 [v,UI p,.func (.func F) #[] #[]] h fun x h'=>(∃(i:Nat)(b:Bool),x=.tuple #[i,.bool b]/\(b=tT->es[i]?=Z p)/\(b=fF->p∉es))/\Le h h':=by
 refine AC.vF func177 ntmps177 results177 fun t=>?_;have⟨L,M,l1,w1,u⟩:=Tt t (xM p);have N:=fun g=>r.len g;refine Sk (Yb @Ci M N) ?_
 generalize h.next=B at*
 refine lIn (fun k fr hh=>∃lo hi:Nat,k=hi-lo/\lo<=hi/\hi<=es.length/\fr=mkF [(0,v),(2,.func (.func F) #[] #[]),(4,pT (Z B)),(8,es.length),(9,lo),(10,hi)]/\Le L hh/\
   (∀(k:Nat) q,k<lo->es[k]?=Z q->Nz q p<0)/\∀(k:Nat) q,hi<=k->es[k]?=Z q->¬Nz q p<0) ⟨0,es.length,rfl,aax _,qL0 _,rfl,Le.refl _,NH,fun k q s d=>by grind⟩ ?_
 rintro k fr hh O ⟨lo,hi,rfl,P,w,rfl,a,y,A⟩;have I:=uM (a.own _ _ u);have f:=r.le (l1.trans a);refine Uy ?_;refine Kl.intro (fun J=>?_) (fun hf=>?_)
 .have Q:lo<hi:=acb J;clear J;have a1:aaY .i64 ((lo:Int)+(hi:Int))=((lo+hi:Nat):Int):=by grind[cT]
  have a2:=aw_u64 (lo+hi) NH;have R:=Tq (lo+hi) NH;have S:aaY .i64 (((lo+hi) / 2:Nat):Int)=(((lo+hi) / 2:Nat):Int):=cT _ NH NH;have C:(lo+hi) / 2<hi:=NH;have D:lo<=(lo+hi) / 2:=NH;refine Sk (bG a1 @cv3u a2 R @cvu3 S) ?_;generalize (lo+hi) / 2=m at*;have d:=CA (show m<es.length by omega);generalize es[m]'(by omega)=q at d
  have ad:=r.addr (k:=.i64) m NH;have ld:=f.load d;refine gh (fRn 0 6 (JQ 6 [0,4,5] (tA [7] .done))) ?_;simp only[HO,seval,Qg,ad,ld,I];refine VA.intro PJ H (n q p hh) ?_;rintro x h3 T ⟨rfl,l3⟩;have j:=uM ((a.trans l3).own _ _ u);have l:=(f.le l3).load d;by_cases K:Nz q p<0
  .simp only[HO,seval,Qg,ad,l,j,K,aaa m NH];refine lgA NH ⟨m+1,hi,rfl,C,w,rfl,a.trans l3,fun k E s o=>?_,A⟩;by_cases e:k=m
   .grind
   .have:=ha k m E q NH o d;grind[Hv]
  .simp only[HO,seval,Qg,ad,l,j,K];refine lgA NH ⟨lo,m,rfl,D,NH,rfl,a.trans l3,y,fun k E s o=>?_⟩;by_cases e:k=m
   .grind
   .have:=ha m k q E NH d o;grind[Hv]
 have U:hi<=lo:=vp hf;obtain rfl:lo=hi:=NH;clear hf;by_cases c1:lo<es.length
 .have z:((lo:Int)<(es.length:Int))=True:=eq_true NH;have d:=CA c1;generalize es[lo]=q at d;have ad:=r.addr (k:=.i64) lo c1;have ld:=f.load d;refine Uy ?_;refine gh (fRn 0 11 (JQ 11 [4,5,9,10] (tA [12,13,14,15] .done))) ?_;simp only[HO,seval,Qg,z,ad,ld,I];refine VA.intro PJ H (n q p hh) ?_;rintro x h3 T ⟨rfl,l3⟩;have j:=uM ((a.trans l3).own _ _ u);have l:=(f.le l3).load d;simp only[HO,seval,Qg,z,ad,l,j];refine⟨⟨lo,decide (Nz q p=0),rfl,fun e=>?_,fun e=>?_⟩,(l1.trans a).trans l3⟩
  .grind[eK]
  .have V:=qL215 e;intro C;have⟨k,s⟩:=Og.1 C;have X:=(eK p p).2 rfl;rcases adQ k lo with h|h|h
   .grind
   .grind
   .have:=ha lo k q p h d s;grind
 .have z:((lo:Int)<(es.length:Int))=False:=eq_false NH;refine Uy ?_;refine gh (fRn 0 11 (JQ 11 [4,5,9,10] (tA [12,13,14,15] .done))) ?_;refine CO z ?_;grind[Le.trans,mem_iff_getElem?,eK]
theorem D3.nodup{l:xLP}(a:D3 l):l.Nodup:=by rw[AE,Yi];intro i j hi c b e;have:=a i j _ _ b (CA hi) (CA c);grind[eK]
variable {a b:Nat} {web:List Pr} {xs:List Bool}
def sJ(_:aai)(v:vV)(b:Bool):Prop:=v=.bool b
theorem Nn.sJ:Nn sJ:=fun _ _ _ _ h _=>h
def RL.ofBo(r:RS h v (xs.map vV.bool)):RL sJ h v xs:=⟨_,r,Ma,fun i x u b a=>by simp[b]at a;exact a.symm⟩
theorem RL.W7(r:RL sJ h v xs)(i:Nat)(hi:i<xs.length):aaC pG h 4 (aaq v i)=Z (.bool xs[i]):=by have⟨u,a,h2⟩:=r.load (P:=pG) AV rfl i hi;rw[a];exact congrArg Z h2
def RL.LB(r:RL sJ h v xs){k:IntKind}(i:Nat)(hi:i<xs.length):aao pG 41 v (.int k i)=Z (pT (Z (aaq v i))):=r.addr (P:=pG) Uh AV Ji i hi
def ofM(es web:xLP):List Bool:=es.map fun e=>decide (e∈web)
def onW(web:xLP)(v:Nat):Prop:=∃e∈web,e.1=(v:Int)\/e.2=(v:Int)
instance (web:xLP) (v:Nat):Decidable (onW web v):=inferInstanceAs (Decidable (∃e∈web,e.1=(v:Int)\/e.2=(v:Int)))
def Cb(n:Nat)(web:xLP):List Bool:=(rG n).map fun v=>decide (onW web v)
theorem ofM_push(a:D3 es)(hi:es[i]?=Z p):ofM es (web++[p])=(ofM es web).set i tT:=by apply EH;intro j;rw[K4];grind[ofM,D3.uniq]
theorem onW_snoc(web:xLP)(p:Pr)(v:Nat):onW (web++[p]) v↔onW web v\/(p.1=(v:Int)\/p.2=(v:Int)):=by simp only[onW,vZ,iy];grind
theorem onM_push:Cb n (web++[((a:Int),(b:Int))])=((Cb n web).set a tT).set b tT:=by apply EH;grind[Cb,onW_snoc]
def c8(es web:xLP):(ofM es web).length=es.length:=by simp[ofM]
def Qe(n:Nat)(web:xLP):(Cb n web).length=n:=by simp[Cb]
theorem ofM_nil(es:xLP):ofM es []=rP es.length fF:=by
 apply TV
 all_goals grind[ofM]
theorem onM_nil(n:Nat):Cb n []=rP n fF:=by
 apply TV
 all_goals grind[Cb,onW]
structure CU (es web:xLP):Prop where
 q9:∀(i:Nat) p q,web[i]?=Z p->web[i+1]?=Z q->Nz p q<0
 mem:∀p∈web,p∈es
structure New2 (h h':aai) (A B:Nat) (x y:xLV):Prop where
 le:Le h h'
 wf:WF h'
 oA:h'.own A=Z (.cells x)
 oB:h'.own B=Z (.cells y)
 nA:h.own A=Y
 nB:h.own B=Y
 ne:A≠B
def new2_a(hw:WF h)(x y:xLV):New2 h ((h.alloc (.cells x)).alloc (.cells y)) h.next (h.next+1) x y:=by
 have a:∀x,h.next<=x->h.own x=Y:=fun x b=>(Le.refl h).next hw b
 exact⟨((Le.refl h).alloc hw _).alloc (hw.alloc _) _,(hw.alloc _).alloc _,by simp[Mh,om],by simp[Mh,om],a _ (qL0 _),a _ NH,NH⟩
def new2_b(hw:WF h)(x y:xLV):New2 h ((h.alloc (.cells y)).alloc (.cells x)) (h.next+1) h.next x y:=by
 have a:∀x,h.next<=x->h.own x=Y:=fun x b=>(Le.refl h).next hw b
 exact⟨((Le.refl h).alloc hw _).alloc (hw.alloc _) _,(hw.alloc _).alloc _,by simp[Mh,om],by simp[Mh,om],a _ NH,a _ (qL0 _),NH⟩
def GR.open{n:Int}(r:GR h v ⟨n,es⟩):∃ev,v=.agg #[n,ev]/\PR h ev es:=r.ex
theorem split_any(W0:LA)(v r:vV)(G:GM)(web:xLP)(h:aai)(hg:GR h v G)(hw:PR h r web)(hr:bX G)(hn:web.length<=1000):
  AC pG W0 159 [v,r] h fun x h'=>(∃ov nv b,x=.tuple #[ov,nv,.bool b]/\(nv.cells=#[nv]/\nv.oneCell'=tT)/\(b=tT↔CU G.es web)/\(b=tT->RL sJ h' ov (ofM G.es web)/\RL sJ h' nv (Cb G.n.toNat web)))/\Le h h':=by
 have⟨gn,es⟩:=G;have h0:0<=gn:=hr.n0;obtain⟨n,rfl⟩:=qL7 h0
 obtain⟨ev,rfl,hp⟩:=hg.open
 have b6:(n:Int)<=200:=hr.n1;have b8:es.length<=594:=hr.len;have S:D3 es:=hr.q9;have av:∀p∈es,0<=p.1/\p.1<p.2/\p.2<(n:Int):=fun p K=>by have⟨i,hi⟩:=Og.1 K;exact(hr.ok i (Ny.1 hi).1 p hi).1
 show AC pG W0 159 [.agg #[n,ev],r] h fun x h'=>(∃ov nv b,x=.tuple #[ov,nv,.bool b]/\(nv.cells=#[nv]/\nv.oneCell'=tT)/\(b=tT↔CU es web)/\(b=tT->RL sJ h' ov (ofM es web)/\RL sJ h' nv (Cb n web)))/\Le h h';refine AC.vF func159 ntmps159 results159 fun bm=>?_;obtain⟨T,b1,s,o,-,lA⟩:=r8 (n:=(n:Int)) bm hp
 generalize h.next=B at*
 have ll:=fun g=>hp.len g;have ay:=lA T (Le.refl _);have bo:=fun g:aai=>Ye (P:=pG) (t:=41) (z:=.bool fF) g Uh rfl rfl rfl rfl Ji AV Ji es.length NH;have br:=fun g:aai=>Ye (P:=pG) (t:=41) (z:=.bool fF) g Uh rfl rfl rfl rfl Ji AV Ji n NH;refine Sk b1 ?_;have aa:rP es.length (vV.bool fF)=(ofM es []).map vV.bool:=by rw[ofM_nil];simp
 have ae:rP n (vV.bool fF)=(Cb n []).map vV.bool:=by rw[onM_nil];simp
 apply Ya (F:=fun(fr:aam)(h':aai)=>∃A C,Fj fr [(1,r),(2,pT (Z B)),(7,sL (Z ⟨A,0,Y⟩) es.length es.length),(8,sL (Z ⟨C,0,Y⟩) n n)]/\New2 T h' A C (rP es.length (vV.bool fF)) (rP n (vV.bool fF)))
 .intro cont;have X1:=lA ((T.alloc (.cells (rP es.length (.bool fF))))) ((Le.refl T).alloc o _);have X2:=lA ((T.alloc (.cells (rP n (.bool fF))))) ((Le.refl T).alloc o _);have X3:=lA _ (new2_a o (rP es.length (.bool fF)) (rP n (.bool fF))).le;have X4:=lA _ (new2_b o (rP es.length (.bool fF)) (rP n (.bool fF))).le;refine gh (tA [0,1,2,4,5] (.ch 3 [2] (tA [7] (JQ 6 [5] (tA [8] .done))) (JQ 6 [5] (JQ 3 [2] (tA [7,8] .done))))) ?_;simp only[kJJ,seval,Qg,Ii,Di,Ip,EL,ay.2.1,ay.2.2,ll,bo,br,om,X1.2.1,X1.2.2,X2.2.1,X2.2.2,X3.2.1,X3.2.2,X4.2.1,X4.2.2];refine⟨?_,?_⟩
  .refine KN.UJ fun fr' h' e1 e2=>cont fr' h' ?_;subst e1 e2;exact⟨_,_,fD,new2_a o _ _⟩
  .refine KN.UJ fun fr' h' e1 e2=>cont fr' h' ?_;subst e1 e2;exact⟨_,_,fD,new2_b o _ _⟩
 rintro fr h2 ⟨A,C,u,N⟩;simp only[Fj]at u;obtain⟨f1,f2,f7,f8,-⟩:=u;have lw:=fun g=>hw.len g;simp only[HO,seval,f1,lw];have az:=N.oA;have aC:=N.oB;rw[aa]at az;rw[ae]at aC;have nA:=N.nA;have nC:=N.nB;have b9:=N.ne;refine aab.intro (fun k fr hh=>∃i:Nat,k=web.length-i/\i<=web.length/\fr=mkF [(1,r),(2,pT (Z B)),(7,sL (Z ⟨A,0,Y⟩) es.length es.length),(8,sL (Z ⟨C,0,Y⟩) n n),(20,r),(21,web.length),(22,i)]/\
   hh.own A=Z (.cells ((ofM es (web.take i)).map vV.bool))/\hh.own C=Z (.cells ((Cb n (web.take i)).map vV.bool))/\Le T hh/\(∀(j:Nat) p,j<i->web[j]?=Z p->p∈es)/\∀(j:Nat) p q,j+1<i->web[j]?=Z p->web[j+1]?=Z q->Nz p q<0)
  web.length [(1,r),(2,pT (Z B)),(7,sL (Z ⟨A,0,Y⟩) es.length es.length),(8,sL (Z ⟨C,0,Y⟩) n n),(20,r),(21,web.length),(22,(0:Nat))] (by simp only[Fj,HO,seval,f1,f2,f7,f8];simp)
  ⟨0,rfl,aax _,rfl,az,aC,N.le,NH,NH⟩ ?_
 rintro k fr hh aD ⟨i,rfl,hi,rfl,oA,oC,L,cc,ai⟩;refine Uy ?_;refine Kl.intro (fun ht=>?_) (fun hf=>?_)
 rotate_left
 .have bx:web.length<=i:=vp hf;rw[abe bx]at oA oC;refine Uy ?_;refine⟨⟨_,_,tT,rfl,⟨rfl,rfl⟩,⟨fun _=>⟨fun j p q cd m=>?_,fun p K=>?_⟩,fun _=>rfl⟩,fun _=>⟨RL.ofBo (RS.whole oA (by simp[c8])),RL.ofBo (RS.whole oC (by simp[Qe]))⟩⟩,s.trans L⟩
  .grind
  grind[mem_iff_getElem?]
 have M:i<web.length:=acb ht;clear ht;have O:=CA M;have aj:web.take (i+1)=web.take i++[web[i]]:=XJ M;generalize web[i]=p at O aj;have w:=hw.le (s.trans L);have ad:=hw.addr (k:=.i64) i M;have ld:=w.load O;have⟨cf,h3,e2,e3,D,bB,d⟩:=Ut aD p;have aF:=D.own _ _ oA;have aH:=D.own _ _ oC;have U:=L.trans D
 have nE:T.own hh.next=Y:=L.none ((Le.refl hh).next aD (qL0 _))
 generalize hh.next=E at*
 simp only[HO,seval,ad,ld,e2,e3];have aJ:(∃(j:Nat)(a b:Pr),web[j]?=Z a/\web[j+1]?=Z b/\¬Nz a b<0)->¬CU es web:=fun⟨j,a,b,x,y,z⟩ q=>z (q.q9 j a b x y);apply Ya (F:=fun(fr:aam)(h4:aai)=>Fj fr [(1,r),(2,pT (Z B)),(7,sL (Z ⟨A,0,Y⟩) es.length es.length),(8,sL (Z ⟨C,0,Y⟩) n n),(10,pT (Z E)),(20,r),(21,web.length),(22,i),(38,.bool fF)]/\Le h3 h4/\WF h4/\∀q,0<i->web[i-1]?=Z q->Nz q p<0)
 .intro cont;by_cases i0:i=0
  .have z:((0:Int)<(i:Int))=False:=eq_false NH;refine gh (fRn 0 9 (JQ 9 [2,7,8] (tA [10,11] .done))) ?_;simp only[kJJ,seval,Qg,gt_iff_lt,z];exact KN.UJ fun fr' h' x y=>cont fr' h' (by subst x y;exact⟨fD,Le.refl _,bB,fun q h=>by omega⟩)
  .have z:((0:Int)<(i:Int))=True:=eq_true NH;have H:=CA (show i-1<web.length by omega);generalize web[i-1]'(by omega)=q at H
   have I:aaY .i64 ((i:Int)-1)=((i-1:Nat):Int):=by rw[cT _ NH NH];omega
   have aq:=hw.addr (k:=.i64) (i-1) NH;have bF:=(w.le D).load H;have LP:=uM d;refine gh (fRn 0 9 (JQ 9 [2,7,8] (tA [10,11] .done))) ?_;refine CO (bG @gt_iff_lt.{0} z I aq bF LP) ?_
   refine kGi func176 (yu W0 q p h3) ?_;rintro x h4 aK ⟨rfl,f⟩;have Q:=uM (f.own _ _ d);have V:=((w.le D).le f).load H;by_cases d3:Nz q p>=0
   .refine CO (bG z I aq V Q d3) ?_;refine⟨⟨_,_,fF,rfl,⟨rfl,rfl⟩,⟨fun e=>(by cases e),fun e=>absurd e (aJ ⟨i-1,q,p,H,by rw[show i-1+1=i by omega];exact O,NH⟩)⟩,fun e=>by cases e⟩,((s.trans U).trans f)⟩
   .simp only[kJJ,seval,Qg,z,I,aq,V,Q,d3];exact KN.UJ fun fr' h' x y=>cont fr' h' (by subst x y;exact⟨fD,f,aK,fun q' _ m=>by rw[H]at m;injection m with m;subst m;omega⟩)
 rintro fr h4 ⟨u,f,aK,bH⟩;simp only[Fj]at u;obtain⟨g1,g2,g7,g8,aL,aN,aP,bI,bN,-⟩:=u;have J:=U.trans f;have bQ:=lA h4 J;have Q:=uM (f.own _ _ d);refine Sk (adG bN g2 aL @Di @Ip.eq_1 @EL bQ.2.2 Q) ?_;refine kCi func177 (xm W0 176 Tryz.f176 _ ⟨func176,rfl,WY⟩ (fun p q h=>yu W0 p q h) ev es p h4 (hp.le (s.trans J)) NH S) ?_;rintro x h5 cg ⟨⟨l,b,rfl,bW,bY⟩,R⟩;have W:=J.trans R;cases b with
 |false=>refine Uy ?_;exact⟨⟨_,_,fF,rfl,⟨rfl,rfl⟩,⟨fun e=>(by cases e),fun q=>absurd (q.mem p (BS O)) (bY rfl)⟩,fun e=>by cases e⟩,s.trans W⟩
 |true=>
 have ar:=bW rfl;have K:=BS ar;have⟨p1,p2,p3⟩:=av p K;have⟨a,c⟩:=p;simp only at p1 p2 p3;obtain⟨a,rfl⟩:=qL7 p1;obtain⟨c,rfl⟩:=qL7 (show 0<=c by omega);have X:=(Ny.1 ar).1;have bZ:=R.own _ _ (f.own _ _ aF);have ck:=R.own _ _ (f.own _ _ aH);have aT:=R.own _ _ (f.own _ _ d);have cm:A≠E:=fun e=>by subst e;rw[aF]at d;injection d with d;injection d with d;cases hx:(ofM es (web.take i))with|nil=>rw[hx]at d;cases d|cons y ys=>rw[hx]at d;injection d with d _;cases d
 have cp:C≠E:=fun e=>by subst e;rw[aH]at d;injection d with d;injection d with d;cases hx:(Cb n (web.take i))with|nil=>rw[hx]at d;cases d|cons y ys=>rw[hx]at d;injection d with d _;cases d
 have b0:∀k:IntKind,aao pG 41 (sL (Z ⟨A,0,Y⟩) es.length es.length) (.int k l)=Z (pT (Z ⟨A,l,Y⟩)):=fun k=>by rw[Wc Uh AV Ji l X];simp[Ip]
 have aW:∀(k:IntKind)(j:Nat),j<n->aao pG 41 (sL (Z ⟨C,0,Y⟩) n n) (.int k j)=Z (pT (Z ⟨C,j,Y⟩)):=fun k j hj=>by rw[Wc Uh AV Ji j hj];simp[Ip]
 have st1:=QB (P:=pG) (t:=4) (x:=.bool tT) AV Ji bZ (off:=l) (by simp[c8,X]) rfl rfl;have b2:(h5.put A (.cells (((ofM es (web.take i)).map vV.bool).set l (.bool tT)))).own C=Z (.cells ((Cb n (web.take i)).map vV.bool)):=by grind[aai.By]
 have aX:(h5.put A (.cells (((ofM es (web.take i)).map vV.bool).set l (.bool tT)))).own E=Z (.cells (xM ((a:Int),(c:Int)))):=by grind[aai.By]
 have cq:(h5.put A (.cells (((ofM es (web.take i)).map vV.bool).set l (.bool tT)))).own A=Z (.cells ((ofM es (web.take (i+1))).map vV.bool)):=by rw[aai.Y3,aj,ofM_push S ar,ak3]
 have b3:=W.put (.cells (((ofM es (web.take i)).map vV.bool).set l (.bool tT))) nA;generalize h5.put A (.cells (((ofM es (web.take i)).map vV.bool).set l (.bool tT)))=h6 at*;have st2:=QB (P:=pG) (t:=4) (x:=.bool tT) AV Ji b2 (off:=a) (by simp[Qe];omega) rfl rfl;have b4:(h6.put C (.cells (((Cb n (web.take i)).map vV.bool).set a (.bool tT)))).own C=Z (.cells (((Cb n (web.take i)).map vV.bool).set a (.bool tT))):=aai.Y3 _ _ _;have a6:(h6.put C (.cells (((Cb n (web.take i)).map vV.bool).set a (.bool tT)))).own E=Z (.cells (xM ((a:Int),(c:Int)))):=by grind[aai.By]
 have cx:(h6.put C (.cells (((Cb n (web.take i)).map vV.bool).set a (.bool tT)))).own A=Z (.cells ((ofM es (web.take (i+1))).map vV.bool)):=by grind[aai.By]
 have b5:=b3.put (.cells (((Cb n (web.take i)).map vV.bool).set a (.bool tT))) nC;generalize h6.put C (.cells (((Cb n (web.take i)).map vV.bool).set a (.bool tT)))=h7 at*;have st3:=QB (P:=pG) (t:=4) (x:=.bool tT) AV Ji b4 (off:=c) (by simp[Qe];omega) rfl rfl;have a7:=lK aT;have a8:=HY aT;have bb:=lK aX;have bg:=HY aX;have bh:=lK a6;have bk:=HY a6;simp only at a7 a8 bb bg bh bk;refine Uy ?_;refine gh (fRn 0 9 (JQ 9 [0,1,8] (tA [10] (JQ 11 [0,1,2,3,4,8,9,10] (tA [12] (JQ 13 [0,1,2,3,4,5,6,7,8,9,10,11,12] .done)))))) ?_;simp only[HO,seval,Qg,g1,g2,g7,g8,aL,aN,aP,bI,Dh,Z0,Ip,EL,a7,a8,bb,bg,bh,bk,b0,aW _ a NH,aW _ c NH,st1,st2,st3,aaa i NH];refine tn (web.length-(i+1)) [(1,r),(2,pT (Z B)),(7,sL (Z ⟨A,0,Y⟩) es.length es.length),(8,sL (Z ⟨C,0,Y⟩) n n),(20,r),(21,web.length),(22,(i+1:Nat))] NH (by simp only[Fj,HO,seval,g1,g2,g7,g8,aN,aP];simp)
  ⟨i+1,rfl,M,rfl,by grind[aai.By],by rw[aai.Y3,aj,onM_push];simp[ak3],b5.put _ nC,fun j q hj hq=>?_,fun j q q' hj hq m=>?_⟩
 .grind
 .by_cases e:j+1=i
  .have:web[i-1]?=Z q:=by rw[<-e];grind
   grind
  .exact ai j q q' NH hq m
def fG:∀n:Nat,n<=300->IntKind.u64.wrap ((BitVec.ofInt IntKind.u64.bits (n:Int) &&& BitVec.ofInt IntKind.u64.bits 4294967295).toNat:Nat)=(n:Int):=by
 intro n a;have:∀k:Fin 301,IntKind.u64.wrap ((BitVec.ofInt IntKind.u64.bits ((k:Nat):Int) &&& BitVec.ofInt IntKind.u64.bits 4294967295).toNat:Nat)=((k:Nat):Int):=by decide+kernel
 exact this ⟨n,NH⟩
theorem KR(n:Nat)(a:n<=300):acV .shr .u64 (n:Int) 32=Z (.int .u64 0):=by simp[acV,IntKind.bits];grind
theorem sS(n:Nat)(a:n<=300):aaY .u64 (n:Int)=n:=by grind[aaY]
theorem Mul64_any(b:LA)(n:Nat)(a:n<=300)(h:aai):AC pG b 153 [.int .u64 1,.int .u64 n] h fun x h'=>x=.tuple #[.int .u64 0,.int .u64 n]/\h'=h:=by
 refine AC.vF func153 ntmps153 results153 fun c=>?_;have a1:IntKind.u64.wrap ((BitVec.ofInt IntKind.u64.bits 1 &&& BitVec.ofInt IntKind.u64.bits 4294967295).toNat:Nat)=1:=fG 1 WY;have a2:acV .shr .u64 1 32=Z (.int .u64 0):=KR 1 WY;have d:IntKind.u64.wrap ((BitVec.ofInt IntKind.u64.bits 0 &&& BitVec.ofInt IntKind.u64.bits 4294967295).toNat:Nat)=0:=fG 0 WY;have e:acV .shr .u64 0 32=Z (.int .u64 0):=KR 0 WY;have f:=fG n a;have g:=KR n a;have i:aaY .u64 0=0:=by decide
 have j:=sS n a;refine Sk (Da a1 a2 d e f g i j @Int.mul_one @Int.one_mul @Int.mul_zero @Int.zero_mul @Int.add_zero @Int.zero_add) ?_;grind
theorem Mul_any(a:LA)(n:Nat)(b:n<=300)(h:aai):AC pG a 113 [.int .u64 1,.int .u64 n] h fun x h'=>x=.tuple #[.int .u64 0,.int .u64 n]/\h'=h:=by refine AC.vF func113 ntmps113 results113 fun c=>?_;refine Uy ?_;refine kCi func153 (Mul64_any a n b h) ?_;rintro v h'-⟨rfl,rfl⟩;refine Uy ?_;grind
theorem rep_grow(a b:α)(i n m:Nat)(c:min i (n-i)=m):List.take i (rP i a++rP (n-i) b)++List.take (m*1) (rP i a)++List.drop (i+m*1) (rP i a++rP (n-i) b)=rP (i+m) a++rP (n-(i+m)) b:=by
 have d:List.take i (rP i a++rP (n-i) b)=rP i a:=hGr;have e:List.take (m*1) (rP i a)=rP m a:=hGr;have e3:List.drop (i+m*1) (rP i a++rP (n-i) b)=rP (n-(i+m)) b:=by rw[akO,drop_append,drop_replicate,drop_replicate];simp;omega
 grind[replicate_append_replicate]
theorem rN(y:LA)(l:vV)(n:Nat)(p:n<=300)(h:aai)(q:RL RP h l [-1]):AC pG y 82 [l,n] h fun v h'=>∃id,v=sL (Z ⟨id,0,Y⟩) n n/\h.next<=id/\h'.own id=Z (.cells (rP n (.int .i64 (-1))))/\Le h h':=by
 refine AC.vF YW ntmps82 results82 fun d=>?_;have A:¬((n:Int)<0):=NH;have B:aeh pG h 28 l=Z (.int .i64 (1:Int)):=q.TA h;have w1:aaY .u64 1=1:=by decide
 simp only[HO,seval,A,B,acX,Ac,qS15,sS n p,w1];refine kCi func113 (Mul_any y n p h) ?_;rintro v h'-⟨rfl,rfl⟩;have C:¬((0:Int)<(0:Int)):=by decide
 have D:¬((9223372036854775807:Int)<(n:Int)):=NH;have mk:=Ye (P:=pG) (t:=28) h' Mb rfl rfl rfl rfl Ji Ac Ji n NH;simp only[HO,seval,C,D,acX,Ac,qS15,ie n NH NH,mk]
 have f:(h'.alloc (.cells (rP n (.int .i64 0)))).own h'.next=Z (.cells (rP n (.int .i64 0))):=aai.zT _ _
 have hle:Le h' (h'.alloc (.cells (rP n (.int .i64 0)))):=(Le.refl _).alloc d _
 have g:h'.own h'.next=Y:=(Le.refl h').next d (qL0 _)
 generalize h'.alloc (.cells (rP n (.int .i64 0)))=z at*
 have c:∃m h2,afo pG z 28 (sL (Z ⟨h'.next,0,Y⟩) n n) l=Z (.int .i64 (m:Nat),h2)/\(n=0/\m=0\/1<=m/\m<=n)/\h2.own h'.next=Z (.cells (rP m (.int .i64 (-1))++rP (n-m) (.int .i64 0)))/\Le h' h2:=by
  by_cases E:n=0
  .subst E;exact⟨0,z,afl Mb Ac WY q.sl Ma,.inl ⟨rfl,rfl⟩,by simpa using f,hle⟩
  .obtain⟨vs,F,hlen,hg⟩:=q;have r:vs=[.int .i64 (-1)]:=by
    match vs,hlen with
    |[x],_=>rw[hg 0 (-1) x rfl rfl]
   subst r;refine⟨1,_,IQ (k:=1) Mb Ac rfl f (F.le hle).cs (by rfl) 1 (by simp;omega) WY (by simp;omega),.inr ⟨NH,NH⟩,?_,hle.put _ g⟩;grind[aai.Y3]
 have⟨m,h2,G,H,s,j⟩:=c;refine Sk G ?_
 refine lIn (fun k fr hh=>∃i:Nat,k=n-i/\(n=0/\i=0\/1<=i/\i<=n)/\fr=mkF [(7,sL (Z ⟨h'.next,0,Y⟩) n n),(8,i)]/\hh.own h'.next=Z (.cells (rP i (.int .i64 (-1))++rP (n-i) (.int .i64 0)))/\Le h' hh) ⟨m,rfl,H,rfl,s,j⟩ ?_
 rintro k fr hh-⟨i,rfl,hi,rfl,f,hle⟩
 simp only[HO,seval,show aeh pG hh 28 (sL (Z ⟨h'.next,0,Y⟩) n n)=Z (.int .i64 n)from rfl]
 refine Kl.intro (fun I=>?_) (fun hf=>?_)
 .have u:i<n:=acb I;refine Uy ?_;refine gh (fRn 0 7 (JQ 7 [3,6] (tA [8] (JQ 9 [0,1,2,3,4,5,6,7,8] .done)))) ?_;have b:n<UNK:=QU p WY
  have s1:=aSlice_lo (P:=pG) (t:=28) (a:=Z ⟨h'.next,0,Y⟩) (n:=n) (cap:=n) (k:=.i64) Mb Ac rfl i NH (.inr u) (qL0 _) b
  have s2:=pn (P:=pG) (t:=28) (a:=⟨h'.next,0,Y⟩) (n:=n) (cap:=n) (k:=.i64) Mb Ac i NH (qL0 _) b
  simp only[V9,Ip,EL]at s1
  have o:CS 1 hh (sL (Z ⟨h'.next,0,Y⟩) i n) i (rP i (.int .i64 (-1))):=by have:=CS.own (k:=1) (off:=0) (n:=i) (cap:=n) f Ma;grind
  have w:=IQ (P:=pG) (t:=28) (k:=1) (n:=i) (off:=i) (dl:=n-i) (dc:=n-i) (e:=3) Mb Ac rfl f o (all_rep rfl i) (min i (n-i)) rfl NH (by simp;omega);refine CO (xU s1 s2 w (ie ((i:Int)+((min i (n-i):Nat):Int)) NH NH)) ?_;refine lgA NH ⟨i+min i (n-i),rfl,NH,rfl,?_,hle.put _ g⟩;grind[aai.Y3,rep_grow]
 .have J:n<=i:=vp hf;have:i=n:=NH;subst this;refine Uy ?_;grind
variable {L R c q t:Nat} {b0:aai} {r:RZ} {rows:AM} {us:List Value}
def Bp(l:RZ):xLV:=l.map (vV.int .i64)
theorem uE(l:RZ):(Bp l).length=l.length:=by simp[Bp]
def yG(l:RZ):(Bp l).all (·.oneCell')=tT:=by simp[Bp];intros;rfl
def DQ(h:aai)(x:Int):aas pG h 28 1 [(0,x)]=Z (sL (Z h.next) 1 1,h.alloc (.cells [x])):=rfl
theorem xr{t xt:TypeId}{v x v':vV}(hw:WF h)(e:aaR P h t xt v x=Z (v',h')):WF h':=by
 unfold aaR at e;split at e
 .grind[WF.kill,WF.alloc,WF.put,WF.lt]
 .cases e
theorem grow(m:WF h){G:aai}{us cells:xLV}{cu x:vV}{d:TypeDesc}(v:apT pG t t 1=tT)(y:pG.underlying t=Z d)(n:UA pG t=1)(oR:h.own R=Z (.cells us))(hw:w<us.length)(g:GS 1 h cu q cells)(z:cells.all (·.oneCell')=tT)(A:x.oneCell'=tT)(H:q<=100000)(B:blk cu≠Z R)(le:Le G h)(C:G.own R=Y)(ap:Z2 G cu):
  ∃a k f j,h.alloc (.cells [x])=k/\aaR pG k t t cu (sL (Z h.next) 1 1)=Z (a,f)/\aaK pG f t (pT (Z ⟨R,w,Y⟩)) a=Z j/\GS 1 j a (q+1) (cells++[x])/\
   j.own R=Z (.cells (us.set w a))/\blk a≠Z R/\Z2 G a/\Le h k/\Le G f/\Le G j/\(∀b o,h.own b=Z o->b≠R->blk cu≠Z b->j.own b=Z o/\blk a≠Z b)/\(∀b o,h.own b=Z o->blk cu≠Z b->f.own b=Z o)/\WF j:=by
 have⟨k,e4,c,e,D⟩:=Tt m [x];have⟨a,f,p,r,hf⟩:=(g.le c).push (P:=pG) (t:=t) v D z A NH;have⟨s,u⟩:=aG hf e (c.own _ _ oR) B;have⟨l5,E⟩:=hf G e (le.trans c) ap;have l:WF f:=xr e p;have sl:=r.cs.sl;have st:=QB (P:=pG) (t:=t) (x:=a) y n s (off:=w) hw (by obtain⟨_,_,rfl,_⟩:=sl;rfl) sl.one;refine⟨a,k,f,_,e4,p,st,r.put _ u,aai.Y3 _ _ _,u,E,c,l5,l5.put _ C,fun b o hb F i=>?_,fun b o hb i=>(aG hf e (c.own _ _ hb) i).1,l.put _ (l.lt s)⟩;have⟨r1,r2⟩:=aG hf e (c.own _ _ hb) i;grind[aai.By]
structure Rows (b0 h:aai) (L:Nat) (us:xLV) (rows:AM):Prop where
 oL:h.own L=Z (.cells us)
 len:us.length=rows.length
 gs:∀(v:Nat) u r,us[v]?=Z u->rows[v]?=Z r->GS 1 h u r.length (Bp r)
 nL:∀(v:Nat) u,us[v]?=Z u->blk u≠Z L
 TE:∀(v w:Nat) u u' b,v≠w->us[v]?=Z u->us[w]?=Z u'->blk u=Z b->blk u'≠Z b
 ap:∀(v:Nat) u,us[v]?=Z u->Z2 b0 u
 le:Le b0 h
 bL:b0.own L=Y
theorem Rows.up{b0 h h':aai}{L:Nat}{us:xLV}{rows:AM}(R:Rows b0 h L us rows)(e:Le h h'):Rows b0 h' L us rows:=⟨e.own _ _ R.oL,R.len,fun v u r a b=>(R.gs v u r a b).le e,R.nL,R.TE,R.ap,R.le.trans e,R.bL⟩
theorem Rows.start(d:h.own L=Z (.cells (rP n (.slice Y 0 0))))(le:Le b0 h)(bL:b0.own L=Y):Rows b0 h L (rP n (.slice Y 0 0)) (rP n []):=by
 have c:∀(v:Nat) u,(rP n (vV.slice Y 0 0))[v]?=Z u->u=.slice Y 0 0:=fun v u a=>qL192 (BS a);refine⟨d,Ma,fun v u r a e=>?_,fun v u a=>?_,fun v w u u' b _ a _ hb=>?_,fun v u a b hb=>?_,le,bL⟩
 .rw[c v u a,show r=[]from qL192 (BS e)];exact .nil 1 _
 all_goals grind[blk]
theorem Rows.push(R:Rows b0 h L us rows)(p:WF h)(C:rows[w]?=Z r)(x:Int)(D:r.length<=100000):
  ∃u u' m j l,us[w]?=Z u/\h.alloc (.cells [x])=m/\aaR pG m 28 28 u (sL (Z h.next) 1 1)=Z (u',j)/\aaK pG j 28 (pT (Z ⟨L,w,Y⟩)) u'=Z l/\Le h m/\Le b0 j/\
   j.own L=Z (.cells us)/\Rows b0 l L (us.set w u') (rows.set w (r++[x]))/\WF l/\(∀b o,h.own b=Z o->b≠L->(∀(v:Nat) a,us[v]?=Z a->blk a≠Z b)->j.own b=Z o/\l.own b=Z o/\∀(v:Nat) a,(us.set w u')[v]?=Z a->blk a≠Z b):=by
 have f:w<us.length:=by grind[Rows.len]
 have i:=CA f;generalize us[w]=u at i;have g:=R.gs w u r i C;have⟨u',m,j,l,e4,E,F,H,o6,n6,I,l4,l5,l6,keep,d,s⟩:=grow p (G:=b0) (t:=28) (x:=x) Ji Mb Ji R.oL f g (yG _) rfl D (R.nL w u i) R.le R.bL (R.ap w u i);refine⟨u,u',m,j,l,i,e4,E,F,l4,l5,d _ _ R.oL (R.nL w u i),⟨o6,by simp[R.len],fun v a q ha c=>?_,fun v a ha=>?_,fun v v' a a' b y ha mi hb=>?_,fun v a ha=>?_,l6,R.bL⟩,s,fun b o hb z n=>⟨d b o hb (n w u i),(keep b o hb z (n w u i)).1,fun v a ha=>?_⟩⟩
 .rw[K4]at ha c;by_cases e:w=v
  .grind[Bp]
  .rw[WA e]at ha c;refine(R.gs v a q ha c).kept fun b o hb A=>(keep b o A (fun B=>R.nL v a ha hGr) (fun B=>R.TE w v u a b e i ha B hb)).1
 .grind[Rows.nL]
 .rw[K4]at ha mi;by_cases e:w=v
  .subst e;rw[Sb rfl,Sb f]at ha;injection ha with ha;subst ha;rw[WA y]at mi;intro sZ;have k:∃q,rows[v']?=Z q:=⟨_,CA (by grind[Rows.len])⟩;have⟨q,c⟩:=k;have⟨o,A⟩:=uV.1 ((R.gs v' a' q mi c).Sy sZ);grind[Rows.TE]
  .rw[WA e]at ha;by_cases e':w=v'
   .subst e';rw[Sb rfl,Sb f]at mi;injection mi with mi;subst mi;have k:∃q,rows[v]?=Z q:=⟨_,CA (by grind[Rows.len])⟩;have⟨q,c⟩:=k;have⟨o,A⟩:=uV.1 ((R.gs v a q ha c).Sy hb);grind[Rows.TE]
   grind[Rows.TE]
 all_goals grind[Rows.ap]
def isG(h:aai)(u:vV)(r:RZ):Prop:=GS 1 h u r.length (Bp r)
def RL.map{R R':aai->vV->α->Prop}{xs:List α}(r:RL R h v xs)(hR:∀u x,R h u x->R' h u x):RL R' h v xs:=by have⟨vs,q,a,b⟩:=r;exact⟨vs,q,a,fun i x u c d=>hR u x (b i x u c d)⟩
theorem isG.rl{u:vV}(g:isG h u r):RL RP h u r:=RL.Wh (GS.cs g).rs
theorem Rows.rlG(R:Rows b0 h L us rows)(a:us.length=n):RL isG h (sL (Z L) n c) rows:=⟨us,RS.whole R.oL a,R.len,fun i x u b d=>R.gs i u x d b⟩
theorem Rows.rl(R:Rows b0 h L us rows)(a:us.length=n):RL (RL RP) h (sL (Z L) n c) rows:=⟨us,RS.whole R.oL a,R.len,fun i x u b d=>RL.Wh (R.gs i u x d b).cs.rs⟩
def Xs(rows:AM)(p:Pr):AM:=
 let r1:=rows.set p.1.toNat ((rows.getD p.1.toNat [])++[p.2])
 r1.set p.2.toNat ((r1.getD p.2.toNat [])++[p.1])
def Zh(n:Nat)(es:xLP):AM:=es.foldl Xs (rP n [])
theorem pO(rows:AM)(p:Pr):(Xs rows p).length=rows.length:=by simp[Xs]
theorem Xq(n:Nat)(es:xLP):(Zh n es).length=n:=by
 have:∀(es:xLP)(rows:AM),(es.foldl Xs rows).length=rows.length:=by
  intro es
  induction es<;>grind[pO]
 grind[Zh.eq_1]
def NJ(n:Nat)(es:xLP)(p:Pr):Zh n (es++[p])=Xs (Zh n es) p:=by simp[Zh]
theorem bV(n:Nat)(es:xLP):∀r∈Zh n es,r.length<=2*es.length:=by
 have:∀(es:xLP)(rows:AM)(k:Nat),(∀r∈rows,r.length<=k)->∀r∈es.foldl Xs rows,r.length<=k+2*es.length:=by
  intro es
  induction es with
  |nil=>grind
  |cons p es c=>
   intro rows k h r a;rw[gK]at a;have b:∀(l:AM)(m:Nat),(∀r∈l,r.length<=m)->∀i,(l.getD i []).length<=m:=fun l m e i=>by grind
   have d:∀r∈rows.set p.1.toNat ((rows.getD p.1.toNat [])++[p.2]),r.length<=k+1:=fun r a=>by grind
   have h2:∀r∈Xs rows p,r.length<=k+2:=fun r a=>by
    rcases agK a with h'|rfl
    .grind
    .have:=b _ (k+1) d p.2.toNat;grind
   have:=c (Xs rows p) (k+2) h2 r a;simp;omega
 intro r a;have:=this es (rP n []) 0 (fun r a=>by grind) r a;omega
end
end Go.Fw
