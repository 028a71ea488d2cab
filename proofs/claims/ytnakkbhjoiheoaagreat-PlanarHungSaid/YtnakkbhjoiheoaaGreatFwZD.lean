/- A text. -/
import Derived.Test.YtnakkbhjoiheoaaGreatFwVC
set_option linter.all false
set_option maxRecDepth 99999
set_option maxHeartbeats 9999999
open Go.Proofs
open Option renaming some→Z,none→Y
open Bool renaming true→tT,false→fF
open List renaming replicate→rP,range→rG
open Go.Value renaming slice→sL,pointer→pT
open Go renaming Value→vV
open Go.Proofs.Tryz renaming prog→pG
open Go.Proofs.Tryz
open List
namespace Go.Fw
theorem gh{W0:LA}{N:Nat}{fr:aam}{h:aai}{i:Nat}{ol:List Oper}{ks:List Kt}{R:Exit→aam→aai→Prop}(t:DT)(hd:KD Tryz.prog W0 N ol.toArray ks R t [] fr h)(hok:akk ol.toArray t=true:=by kernel_rfl):ZJ Tryz.prog W0 N i ol.toArray ks R fr h:=ZJ.intro mixed t hok hd
def RL.Uc{h:aai}{v:Value}{xs:List Int}(z:RL RP h v xs):=z.loadI (P:=Tryz.prog) Tryz.underlying3 rfl
def RL.DH{α:Type}{R:aai→Value→α→Prop}{h:aai}{v:Value}{xs:List α}(z:RL R h v xs):=z.len (P:=Tryz.prog) Tryz.underlying28
def RS.DH{h:aai}{v:Value}{xs:List Value}(z:RS h v xs):=z.len (P:=Tryz.prog) Tryz.underlying28
def RL.TA{α:Type}{R:aai→Value→α→Prop}{h:aai}{v:Value}{xs:List α}(z:RL R h v xs):=z.addr (P:=Tryz.prog) Tryz.underlying28 Tryz.underlying3 (by kernel_rfl) (k:=.i64)
def RS.TA{h:aai}{v:Value}{xs:List Value}(z:RS h v xs):=z.addr (P:=Tryz.prog) Tryz.underlying28 Tryz.underlying3 (by kernel_rfl) (k:=.i64)
def RL.NS{α:Type}{R:aai→Value→α→Prop}{h:aai}{v:Value}{xs:List α}(z:RL R h v xs):=z.load' (P:=Tryz.prog) Tryz.underlying28 rfl
def RL.Wm{α:Type}{R:aai→Value→α→Prop}{h:aai}{v:Value}{xs:List α}(z:RL R h v xs):=z.addr (P:=Tryz.prog) Tryz.underlying25 Tryz.underlying28 (by kernel_rfl) (k:=.i64)
def RS.Wm{h:aai}{v:Value}{xs:List Value}(z:RS h v xs):=z.addr (P:=Tryz.prog) Tryz.underlying25 Tryz.underlying28 (by kernel_rfl) (k:=.i64)
def RL.qP5{α:Type}{R:aai→Value→α→Prop}{h:aai}{v:Value}{xs:List α}(z:RL R h v xs):=z.len (P:=Tryz.prog) Tryz.underlying25
def RS.qP5{h:aai}{v:Value}{xs:List Value}(z:RS h v xs):=z.len (P:=Tryz.prog) Tryz.underlying25
def RL.qP6{α:Type}{R:aai→Value→α→Prop}{h:aai}{v:Value}{xs:List α}(z:RL R h v xs):=z.len (P:=Tryz.prog) Tryz.underlying26
def RS.qP6{h:aai}{v:Value}{xs:List Value}(z:RS h v xs):=z.len (P:=Tryz.prog) Tryz.underlying26
def RL.qP7{α:Type}{R:aai→Value→α→Prop}{h:aai}{v:Value}{xs:List α}(z:RL R h v xs):=z.addr (P:=Tryz.prog) Tryz.underlying26 Tryz.underlying28 (by kernel_rfl) (k:=.i64)
def RS.qP7{h:aai}{v:Value}{xs:List Value}(z:RS h v xs):=z.addr (P:=Tryz.prog) Tryz.underlying26 Tryz.underlying28 (by kernel_rfl) (k:=.i64)
def Mb:=@Go.Proofs.Tryz.underlying28
def Ac:=@Go.Proofs.Tryz.underlying3
def AV:=@Go.Proofs.Tryz.underlying4
def eY:=@Go.Proofs.Tryz.underlying22
def Uh:=@Go.Proofs.Tryz.underlying41
def qS5:=@Go.Proofs.Tryz.func27
def qS6:=@Go.Proofs.Tryz.func33
def qS7:=@Go.Proofs.Tryz.underlying49
def qS8:=@Go.Proofs.Tryz.underlying24
def qS9:=@Go.Proofs.Tryz.underlying25
def UP:=@Go.Proofs.Tryz.underlying96
def KT:=@Go.Proofs.Tryz.underlying90
def sU:=@Go.Proofs.Tryz.func167
def afm:=@Go.Proofs.Tryz.underlying165
def alD:=@Go.Proofs.Tryz.underlying127
def akq:=@Go.Proofs.Tryz.underlying64
def qS16:=@Go.Proofs.Tryz.underlying114
def aj9:=@Go.Proofs.Tryz.func82
def zj:=@Go.Proofs.Tryz.func44
def qS19:=@Go.Proofs.Tryz.underlying74
def akW:=@Go.Proofs.Tryz.func14
def qS21:=@Go.Proofs.Tryz.underlying168
def qS22:=@Go.Proofs.Tryz.underlying26
def qS23:=@Go.Proofs.Tryz.func54
def qS24:=@Go.Proofs.Tryz.func19
def qS25:=@Go.Proofs.Tryz.func11
def qS26:=@Go.Proofs.Tryz.underlying161
def qS27:=@Go.Proofs.Tryz.underlying126
def qS28:=@Go.Proofs.Tryz.func112
def qS29:=@Go.Proofs.Tryz.func127
def qS30:=@Go.Proofs.Tryz.func128
def qS31:=@Go.Proofs.Tryz.func131
def qS32:=@Go.Proofs.Tryz.underlying84
def qS33:=@Go.Proofs.Tryz.func81
def qS34:=@Go.Proofs.Tryz.func61
def qS35:=@Go.Proofs.Tryz.func101
def qS36:=@Go.Proofs.Tryz.func165
def qS37:=@Go.Proofs.Tryz.func129
def qS38:=@Go.Proofs.Tryz.underlying97
def qS39:=@Go.Proofs.Tryz.underlying94
section
attribute [local irreducible] Kp MQ lU KO1 KO KN KX KE VK Kl ZJ TC aab
theorem Pd(b:LA)(a:Int)(h:aai):AC pG b 112 [a] h fun v h'=>v=.bool fF/\h'=h:=by refine AC.vF qS28 ntmps112 results112 fun c=>?_;simp only[HO,seval,bne,eq_self];grind
def iC(a b:Int):Int:=if a<b then-1 else if a>b then 1 else 0
def wS(d:LA)(a b:Int)(h:aai):AC pG d 81 [a,b] h fun v h'=>v=.int .i64 (iC a b)/\h'=h:=by
 refine AC.vF qS33 ntmps81 results81 fun e=>?_;refine Uy ?_;refine kCi qS28 (Pd d a h) ?_;rintro x f w1 ⟨rfl,rfl⟩;refine Uy ?_;refine kCi qS28 (Pd d b f) ?_;rintro x h2 w2 ⟨rfl,rfl⟩;unfold iC;by_cases c:a<b
 .simp only[HO,seval,c];exact⟨trivial,trivial⟩
 .by_cases c2:a>b
  .simp only[HO,seval,c,c2];exact⟨trivial,trivial⟩
  .simp only[HO,seval,c,c2];exact⟨trivial,trivial⟩
def orM:RZ->Int
 |[]=>0
 |x::r=>if x=0 then orM r else x
theorem Or_any(f:LA)(v:vV)(xs:RZ)(h:aai)(d:RL RP h v xs)(m:xs.length<=1000):AC pG f 80 [v] h fun x h'=>x=.int .i64 (orM xs)/\h'=h:=by
 refine AC.vF func80 ntmps80 results80 fun g=>?_;have j:=d.DH h;refine Sk j ?_;refine lIn (fun k fr hh=>∃i:Nat,k=xs.length-i/\i<=xs.length/\hh=h/\fr=mkF [(3,.int .i64 0),(6,v),(7,xs.length),(8,i)]/\orM xs=orM (xs.drop i)) ⟨0,rfl,Og _,rfl,rfl,rfl⟩ ?_;rintro k fr hh-⟨i,rfl,hi,rfl,rfl,b⟩;refine Uy ?_;refine Kl.intro (fun l=>?_) (fun hf=>?_)
 .have a:i<xs.length:=acb l;have ad:=d.TA i a;have ld:=d.Uc i a;rw[qL67 a,orM]at b;by_cases c:xs[i]=0
  .rw[WA c]at b;simp only[HO,seval,ad,ld,bne,eq_true c,aaa i NH];exact lgA NH ⟨i+1,rfl,a,rfl,rfl,b⟩
  .rw[IE c]at b;simp only[HO,seval,ad,ld,bne,eq_false c];grind
 .have e:xs.length<=i:=vp hf;rw[akN e,orM]at b;refine Uy ?_;grind
def Nz(p q:Pr):Int:=orM [iC p.1 q.1,iC p.2 q.2]
theorem Hv(p q:Pr):Nz p q<0↔p.1<q.1\/p.1=q.1/\p.2<q.2:=by grind[Nz,orM,iC]
theorem eK(p q:Pr):Nz p q=0↔p=q:=by grind[Nz,orM,iC]
def mk2(h:aai)(a b:Int):aas pG h 28 2 [(0,a),(1,b)]=Z (sL (Z h.next) 2 2,h.alloc (.cells [a,b])):=rfl
def DU(g:LA)(p q:Pr)(h:aai):AC pG g 50 [UI p,UI q] h fun v h'=>v=.int .i64 (Nz p q)/\Le h h':=by
 refine AC.vF func50 ntmps50 results50 fun i=>?_;have⟨j,k,l1,w1,l⟩:=Tt i (xM p);have⟨h2,m,l2,w2,f⟩:=Tt w1 (xM q);refine Sk (Yb @Ci k m) ?_;have c:=l2.own _ _ l
 generalize h.next=a at*
 generalize j.next=b at*
 refine gh (tA [0,1,2,3,5,6,7,8] (JQ 4 [1,3] (JQ 9 [4,6,8] (JQ 10 [4,9] (JQ 11 [9,10] (tA [12] .done)))))) ?_;refine CO (adG @Dh @Z0 @Ip.eq_1 @BS (lK c) (HY c) (lK f) (HY f)) ?_;refine kGi qS33 (wS g p.1 q.1 h2) ?_;rintro x h3 t ⟨rfl,rfl⟩;refine CO (adG @Dh @Z0 @Ip.eq_1 @BS (lK c) (HY c) (lK f) (HY f)) ?_;refine kGi qS33 (wS g p.2 q.2 h3) ?_;rintro x u n ⟨rfl,rfl⟩;have⟨o,r,l5,w,s⟩:=Tt n [.int .i64 (iC p.1 q.1),.int .i64 (iC p.2 q.2)];have d:=l5.own _ _ c;have e:=l5.own _ _ f;refine CO (Da @Dh @Z0 @Ip.eq_1 @BS (lK c) (HY c) (lK f) (HY f) @mk2 r (lK d) (HY d) (lK e) (HY e)) ?_;refine kGi func80 (Or_any g _ [iC p.1 q.1,iC p.2 q.2] o (RL.Wh (RS.whole s rfl)) Ma) ?_;rintro x y z ⟨rfl,rfl⟩;refine CO (adG @Dh @Z0 @Ip.eq_1 @BS (lK d) (HY d) (lK e) (HY e)) ?_;exact⟨rfl,(l1.trans l2).trans l5⟩
def yu(g:LA)(p q:Pr)(h:aai):AC pG g 176 [UI p,UI q] h fun v h'=>v=.int .i64 (Nz p q)/\Le h h':=by
 refine AC.vF func176 ntmps176 results176 fun i=>?_;have⟨j,k,l1,w1,l⟩:=Tt i (xM p);have⟨h2,m,l2,w2,f⟩:=Tt w1 (xM q);refine Sk (Yb @Ci k m) ?_;have c:=l2.own _ _ l
 generalize h.next=a at*
 generalize j.next=b at*
 refine gh (tA [0,1,2,3,5,6,7,8] (JQ 4 [1,3] (JQ 9 [4,6,8] (JQ 10 [4,9] (JQ 11 [9,10] (tA [12] .done)))))) ?_;refine CO (adG @Dh @Z0 @Ip.eq_1 @BS (lK c) (HY c) (lK f) (HY f)) ?_;refine kGi qS33 (wS g p.1 q.1 h2) ?_;rintro x h3 t ⟨rfl,rfl⟩;refine CO (adG @Dh @Z0 @Ip.eq_1 @BS (lK c) (HY c) (lK f) (HY f)) ?_;refine kGi qS33 (wS g p.2 q.2 h3) ?_;rintro x u n ⟨rfl,rfl⟩;have⟨o,r,l5,w,s⟩:=Tt n [.int .i64 (iC p.1 q.1),.int .i64 (iC p.2 q.2)];have d:=l5.own _ _ c;have e:=l5.own _ _ f;refine CO (Da @Dh @Z0 @Ip.eq_1 @BS (lK c) (HY c) (lK f) (HY f) @mk2 r (lK d) (HY d) (lK e) (HY e)) ?_;refine kGi func80 (Or_any g _ [iC p.1 q.1,iC p.2 q.2] o (RL.Wh (RS.whole s rfl)) Ma) ?_;rintro x y z ⟨rfl,rfl⟩;refine CO (adG @Dh @Z0 @Ip.eq_1 @BS (lK d) (HY d) (lK e) (HY e)) ?_;exact⟨rfl,(l1.trans l2).trans l5⟩
def YN(G:GM)(i:Nat):Prop:=∀p,G.es[i]?=Z p->(0<=p.1/\p.1<p.2/\p.2<G.n)/\∀q,0<i->G.es[i-1]?=Z q->Nz q p<0
structure bX (G:GM):Prop where
 n0:0<=G.n
 n1:G.n<=200
 len:G.es.length<=594
 ok:∀i,i<G.es.length->YN G i
theorem ak(T:LA)(v:vV)(G:GM)(h:aai)(hg:GR h v G):AC pG T 33 [v] h fun x h'=>RR (bX G) x/\Le h h':=by
 obtain⟨ev,rfl,C⟩:=hg.ex;refine AC.vF qS6 ntmps33 results33 fun P=>?_;obtain⟨U,J,l,aa,-,Q⟩:=r8 (n:=G.n) P C
 generalize h.next=B at*
 have V:=fun g=>C.len g;have c:=Q U (Le.refl _);by_cases K:G.n<0
 .refine Sk (bG J @Ii @Ip.eq_1 @BS c.2.1 K) ?_;exact⟨.f fun q=>by have:=q.n0;omega,l⟩
 by_cases c1:G.n>200
 .refine Sk (rE J @Ii @Ip.eq_1 @BS c.2.1 K c1) ?_;exact⟨.f fun q=>by have:=q.n1;omega,l⟩
 by_cases c2:(G.es.length:Int)>594
 .refine Sk (rk J @Ii @Di @Ip.eq_1 @BS c.2.1 c.2.2 V K c1 c2) ?_;grind[RR.f,bX.len]
 refine Sk (rk J @Ii @Di @Ip.eq_1 @BS c.2.1 c.2.2 V K c1 c2) ?_;refine lIn (fun k fr hh=>∃i:Nat,k=G.es.length-i/\i<=G.es.length/\fr=mkF [(1,pT (Z B)),(20,ev),(21,G.es.length),(22,i)]/\Le U hh/\∀j,j<i->YN G j) ⟨0,rfl,Og _,rfl,Le.refl _,NH⟩ ?_;rintro k fr hh R ⟨i,rfl,hi,rfl,a,D⟩;refine Uy ?_;refine Kl.intro (fun W=>?_) (fun hf=>?_)
 rotate_left
 .have ae:G.es.length<=i:=vp hf;refine Uy ?_;exact⟨.t ⟨NH,NH,NH,fun j X=>D j NH⟩,l.trans a⟩
 have m:i<G.es.length:=acb W;clear W;have d:=CA m;generalize G.es[i]=p at d;have y:=C.le (l.trans a);have ad:=C.addr (k:=.i64) i m;have ld:=y.load d;have⟨h2,h3,L,e3,b,ai,M⟩:=Ut R p;have N:=lK M;have L1:=HY M;have LP:=uM M;have fT:=Q h3 (a.trans b);have bad:¬YN G i->¬bX G:=fun hn q=>hn (q.ok i m);have u:=(l.trans a).trans b
 generalize hh.next=E at*
 by_cases O:p.1<0
 .simp only[HO,seval,ad,ld,L,e3,Dh,Z0,Ip,BS,N,L1,O];exact⟨.f (bad fun q=>by have:=(q p d).1.1;omega),u⟩
 by_cases d1:p.1>=p.2
 .simp only[HO,seval,ad,ld,L,e3,Dh,Z0,Ip,BS,N,L1,O,d1];exact⟨.f (bad fun q=>by have:=(q p d).1.2.1;omega),u⟩
 by_cases d2:p.2>=G.n
 .simp only[HO,seval,ad,ld,L,e3,Dh,Z0,Ii,Ip,BS,N,L1,fT.2.1,O,d1,d2];exact⟨.f (bad fun q=>by have:=(q p d).1.2.2;omega),u⟩
 simp only[HO,seval,ad,ld,L,e3,Dh,Z0,Ii,Ip,BS,N,L1,fT.2.1,O,d1,d2];by_cases i0:i=0
 .subst i0;have z:((0:Int)<((0:Nat):Int))=False:=eq_false NH;refine gh (fRn 0 10 (JQ 10 [2,8,9] (tA [11,12] .done))) ?_;refine CO (Yb @gt_iff_lt.{0} z (aaa 0 NH)) ?_
  refine lgA NH ⟨0+1,rfl,m,rfl,a.trans b,fun j X=>?_⟩;have:j=0:=NH;subst this;intro p' S;grind
 .have z:((0:Int)<(i:Int))=True:=eq_true NH;have w:=CA (show i-1<G.es.length by omega);generalize G.es[i-1]'(by omega)=q at w
  have o:aaY .i64 ((i:Int)-1)=((i-1:Nat):Int):=by grind[cT]
  have A:=C.addr (k:=.i64) (i-1) NH;have F:=(y.le b).load w;refine gh (fRn 0 10 (JQ 10 [2,8,9] (tA [11,12] .done))) ?_;simp only[HO,seval,Qg,gt_iff_lt,z,o,Di,Ip,BS,fT.2.2,A,F,LP];refine kGi func50 (DU T q p h3) ?_;rintro x h4 aj ⟨rfl,r⟩;have H:=Q h4 ((a.trans b).trans r);have s:=F;have I:=uM (r.own _ _ M);have s:=((y.le b).le r).load w;by_cases d3:Nz q p>=0
  .refine CO (Pj z o @Di @Ip.eq_1 @BS H.2.2 A s I d3) ?_;exact⟨.f (bad fun k=>by have:=(k p d).2 q NH w;omega),u.trans r⟩
  .refine CO (rk z o @Di @Ip.eq_1 @BS H.2.2 A s I d3 (aaa i NH)) ?_;refine lgA NH ⟨i+1,rfl,m,rfl,(a.trans b).trans r,fun j X=>?_⟩;by_cases e:j=i
   .subst e;intro p' S;grind
   grind
variable {G:GM} {es:List Pr} {i j:Nat} {p:Pr}
def D3(es:xLP):Prop:=∀(i j:Nat) p q,i<j->es[i]?=Z p->es[j]?=Z q->Nz p q<0
theorem bX.q9(r:bX G):D3 G.es:=by
 have step:∀(d i:Nat) p q,G.es[i]?=Z p->G.es[i+(d+1)]?=Z q->Nz p q<0:=by
  intro d
  induction d with
  |zero=>intro i p q b a;have c:=(Ny.1 a).1;exact(r.ok (i+1) c q a).2 p NH hGr
  |succ d f=>intro i p q b a;have c:=(Ny.1 a).1;have e:=CA (show i+(d+1)<G.es.length by omega);have h:=f i p _ b e;have h2:=(r.ok (i+(d+1+1)) c q a).2 _ NH (by rw[show i+(d+1+1)-1=i+(d+1) by omega];exact e);rw[Hv]at*;omega
 intro i j p q g b a;have:=step (j-i-1) i p q b hGr;exact this
theorem D3.uniq(a:D3 es)(hi:es[i]?=Z p)(b:es[j]?=Z p):i=j:=by
 rcases af8 i j with h|h|h
 .have:=a i j p p h hi b;grind[eK]
 .exact h
 .have:=a j i p p h b hi;grind[eK]
theorem aw_u64(n:Nat)(h:n<18446744073709551616):aaY .u64 (n:Int)=(n:Int):=by grind[aaY]
theorem Tq(n:Nat)(h:n<18446744073709551616):acV .shr .u64 (n:Int) 1=Z (.int .u64 ((n / 2:Nat):Int)):=by
 have e:((n:Int)).fdiv (2^min 1 IntKind.u64.bits)=((n / 2:Nat):Int):=by rw[show min 1 IntKind.u64.bits=1 from rfl,Int.fdiv_eq_ediv_of_nonneg _ WY];simp
 grind[acV]
def cv3u(h:aai)(x:Int):acX pG h 3 114 x=Z (.int .u64 (aaY .u64 x),h):=by simp[acX,qS16,Ac]
def cvu3(h:aai)(x:Int):acX pG h 114 3 (.int .u64 x)=Z (.int .i64 (aaY .i64 x),h):=by simp[acX,qS16,Ac]
theorem xm(G:LA)(F:FuncId)(fn:Func)(c:Code)(H:Good pG F fn c)(n:∀(p q:Pr)(h:aai),AC pG G F [UI p,UI q] h fun v h'=>v=.int .i64 (Nz p q)/\Le h h')(v:vV)(es:xLP)(p:Pr)(h:aai)(r:PR h v es)(W:es.length<=1000)(ha:D3 es):
  AC pG G 177 [v,UI p,.func (.func F) #[] #[]] h fun x h'=>(∃(i:Nat)(b:Bool),x=.tuple #[i,.bool b]/\(b=tT->es[i]?=Z p)/\(b=fF->p∉es))/\Le h h':=by
 refine AC.vF func177 ntmps177 results177 fun t=>?_;have⟨L,M,l1,w1,u⟩:=Tt t (xM p);have N:=fun g=>r.len g;refine Sk (Yb @Ci M N) ?_
 generalize h.next=B at*
 refine lIn (fun k fr hh=>∃lo hi:Nat,k=hi-lo/\lo<=hi/\hi<=es.length/\fr=mkF [(0,v),(2,.func (.func F) #[] #[]),(4,pT (Z B)),(8,es.length),(9,lo),(10,hi)]/\Le L hh/\
   (∀(k:Nat) q,k<lo->es[k]?=Z q->Nz q p<0)/\∀(k:Nat) q,hi<=k->es[k]?=Z q->¬Nz q p<0) ⟨0,es.length,rfl,Og _,qL0 _,rfl,Le.refl _,NH,fun k q s d=>by grind⟩ ?_
 rintro k fr hh O ⟨lo,hi,rfl,P,w,rfl,a,y,A⟩;have I:=uM (a.own _ _ u);have f:=r.le (l1.trans a);refine Uy ?_;refine Kl.intro (fun J=>?_) (fun hf=>?_)
 .have Q:lo<hi:=acb J;clear J;have a1:aaY .i64 ((lo:Int)+(hi:Int))=((lo+hi:Nat):Int):=by grind[cT]
  have a2:=aw_u64 (lo+hi) NH;have R:=Tq (lo+hi) NH;have S:aaY .i64 (((lo+hi) / 2:Nat):Int)=(((lo+hi) / 2:Nat):Int):=cT _ NH NH;have C:(lo+hi) / 2<hi:=NH;have D:lo<=(lo+hi) / 2:=NH;refine Sk (bG a1 @cv3u a2 R @cvu3 S) ?_;generalize (lo+hi) / 2=m at*;have d:=CA (show m<es.length by omega);generalize es[m]'(by omega)=q at d
  have ad:=r.addr (k:=.i64) m NH;have ld:=f.load d;refine gh (fRn 0 6 (JQ 6 [0,4,5] (tA [7] .done))) ?_;simp only[HO,seval,Qg,ad,ld,I];refine VA.intro PJ H (n q p hh) ?_;rintro x h3 T ⟨rfl,l3⟩;have j:=uM ((a.trans l3).own _ _ u);have l:=(f.le l3).load d;by_cases K:Nz q p<0
  .simp only[HO,seval,Qg,ad,l,j,K,aaa m NH];refine lgA NH ⟨m+1,hi,rfl,C,w,rfl,a.trans l3,fun k E s o=>?_,A⟩;by_cases e:k=m
   .grind
   .have:=ha k m E q NH o d;grind[Hv]
  .simp only[HO,seval,Qg,ad,l,j,K];refine lgA NH ⟨lo,m,rfl,D,NH,rfl,a.trans l3,y,fun k E s o=>?_⟩;by_cases e:k=m
   .grind
   .have:=ha m k q E NH d o;grind[Hv]
 have U:hi<=lo:=vp hf;obtain rfl:lo=hi:=NH;clear hf;by_cases c1:lo<es.length
 .have z:((lo:Int)<(es.length:Int))=True:=eq_true NH;have d:=CA c1;generalize es[lo]=q at d;have ad:=r.addr (k:=.i64) lo c1;have ld:=f.load d;refine Uy ?_;refine gh (fRn 0 11 (JQ 11 [4,5,9,10] (tA [12,13,14,15] .done))) ?_;simp only[HO,seval,Qg,z,ad,ld,I];refine VA.intro PJ H (n q p hh) ?_;rintro x h3 T ⟨rfl,l3⟩;have j:=uM ((a.trans l3).own _ _ u);have l:=(f.le l3).load d;simp only[HO,seval,Qg,z,ad,l,j];refine⟨⟨lo,decide (Nz q p=0),rfl,fun e=>?_,fun e=>?_⟩,(l1.trans a).trans l3⟩
  .grind[eK]
  .have V:=qL211 e;intro C;have⟨k,s⟩:=aax.1 C;have X:=(eK p p).2 rfl;rcases af8 k lo with h|h|h
   .grind
   .grind
   .have:=ha lo k q p h d s;grind
 .have z:((lo:Int)<(es.length:Int))=False:=eq_false NH;refine Uy ?_;refine gh (fRn 0 11 (JQ 11 [4,5,9,10] (tA [12,13,14,15] .done))) ?_;refine CO z ?_;grind[Le.trans,mem_iff_getElem?,eK]
theorem D3.nodup{l:xLP}(a:D3 l):l.Nodup:=by rw[j9,Yi];intro i j hi c b e;have:=a i j _ _ b (CA hi) (CA c);grind[eK]
variable {a b n:Nat} {h:aai} {v:Value} {web:List Pr} {xs:List Bool}
def sJ(_:aai)(v:vV)(b:Bool):Prop:=v=.bool b
theorem Nn.sJ:Nn sJ:=fun _ _ _ _ h _=>h
def RL.ofBo(r:RS h v (xs.map vV.bool)):RL sJ h v xs:=⟨_,r,Ma,fun i x u b a=>by simp[b]at a;exact a.symm⟩
theorem RL.W7(r:RL sJ h v xs)(i:Nat)(hi:i<xs.length):aaC pG h 4 (aaq v i)=Z (.bool xs[i]):=by have⟨u,a,h2⟩:=r.load (P:=pG) AV rfl i hi;rw[a];exact congrArg Z h2
def RL.LB(r:RL sJ h v xs){k:IntKind}(i:Nat)(hi:i<xs.length):aao pG 41 v (.int k i)=Z (pT (Z (aaq v i))):=r.addr (P:=pG) Uh AV Ji i hi
def ofM(es web:xLP):List Bool:=es.map fun e=>decide (e∈web)
def onW(web:xLP)(v:Nat):Prop:=∃e∈web,e.1=(v:Int)\/e.2=(v:Int)
instance (web:xLP) (v:Nat):Decidable (onW web v):=inferInstanceAs (Decidable (∃e∈web,e.1=(v:Int)\/e.2=(v:Int)))
def Cb(n:Nat)(web:xLP):List Bool:=(rG n).map fun v=>decide (onW web v)
theorem ofM_push(a:D3 es)(hi:es[i]?=Z p):ofM es (web++[p])=(ofM es web).set i tT:=by apply EH;intro j;rw[j3];grind[ofM,D3.uniq]
theorem onW_snoc(web:xLP)(p:Pr)(v:Nat):onW (web++[p]) v↔onW web v\/(p.1=(v:Int)\/p.2=(v:Int)):=by simp only[onW,yM,Gw];grind
theorem onM_push:Cb n (web++[((a:Int),(b:Int))])=((Cb n web).set a tT).set b tT:=by apply EH;grind[Cb,onW_snoc]
def c8(es web:xLP):(ofM es web).length=es.length:=by simp[ofM]
def Qe(n:Nat)(web:xLP):(Cb n web).length=n:=by simp[Cb]
theorem ofM_nil(es:xLP):ofM es []=rP es.length fF:=by
 apply Dl
 all_goals grind[ofM]
theorem onM_nil(n:Nat):Cb n []=rP n fF:=by
 apply Dl
 all_goals grind[Cb,onW]
structure CU (es web:xLP):Prop where
 q9:∀(i:Nat) p q,web[i]?=Z p->web[i+1]?=Z q->Nz p q<0
 mem:∀p∈web,p∈es
structure New2 (h h':aai) (A B:Nat) (x y:xLV):Prop where
 le:Le h h'
 wf:WF h'
 oA:h'.own A=Z (.cells x)
 oB:h'.own B=Z (.cells y)
 nA:h.own A=Y
 nB:h.own B=Y
 ne:A≠B
def new2_a(hw:WF h)(x y:xLV):New2 h ((h.alloc (.cells x)).alloc (.cells y)) h.next (h.next+1) x y:=by
 have a:∀x,h.next<=x->h.own x=Y:=fun x b=>(Le.refl h).next hw b
 exact⟨((Le.refl h).alloc hw _).alloc (hw.alloc _) _,(hw.alloc _).alloc _,by simp[Mh,om],by simp[Mh,om],a _ (qL0 _),a _ NH,NH⟩
def new2_b(hw:WF h)(x y:xLV):New2 h ((h.alloc (.cells y)).alloc (.cells x)) (h.next+1) h.next x y:=by
 have a:∀x,h.next<=x->h.own x=Y:=fun x b=>(Le.refl h).next hw b
 exact⟨((Le.refl h).alloc hw _).alloc (hw.alloc _) _,(hw.alloc _).alloc _,by simp[Mh,om],by simp[Mh,om],a _ NH,a _ (qL0 _),NH⟩
def GR.open{n:Int}(r:GR h v ⟨n,es⟩):∃ev,v=.agg #[n,ev]/\PR h ev es:=r.ex
theorem split_any(W0:LA)(v r:vV)(G:GM)(web:xLP)(h:aai)(hg:GR h v G)(hw:PR h r web)(hr:bX G)(hn:web.length<=1000):
  AC pG W0 159 [v,r] h fun x h'=>(∃ov nv b,x=.tuple #[ov,nv,.bool b]/\(nv.cells=#[nv]/\nv.oneCell'=tT)/\(b=tT↔CU G.es web)/\(b=tT->RL sJ h' ov (ofM G.es web)/\RL sJ h' nv (Cb G.n.toNat web)))/\Le h h':=by
 have⟨gn,es⟩:=G;have h0:0<=gn:=hr.n0;obtain⟨n,rfl⟩:=Sb h0
 obtain⟨ev,rfl,hp⟩:=hg.open
 have b6:(n:Int)<=200:=hr.n1;have b8:es.length<=594:=hr.len;have S:D3 es:=hr.q9;have av:∀p∈es,0<=p.1/\p.1<p.2/\p.2<(n:Int):=fun p K=>by have⟨i,hi⟩:=aax.1 K;exact(hr.ok i (Ny.1 hi).1 p hi).1
 show AC pG W0 159 [.agg #[n,ev],r] h fun x h'=>(∃ov nv b,x=.tuple #[ov,nv,.bool b]/\(nv.cells=#[nv]/\nv.oneCell'=tT)/\(b=tT↔CU es web)/\(b=tT->RL sJ h' ov (ofM es web)/\RL sJ h' nv (Cb n web)))/\Le h h';refine AC.vF func159 ntmps159 results159 fun bm=>?_;obtain⟨T,b1,s,o,-,lA⟩:=r8 (n:=(n:Int)) bm hp
 generalize h.next=B at*
 have ll:=fun g=>hp.len g;have ay:=lA T (Le.refl _);have bo:=fun g:aai=>Ye (P:=pG) (t:=41) (z:=.bool fF) g Uh rfl rfl rfl rfl Ji AV Ji es.length NH;have br:=fun g:aai=>Ye (P:=pG) (t:=41) (z:=.bool fF) g Uh rfl rfl rfl rfl Ji AV Ji n NH;refine Sk b1 ?_;have aa:rP es.length (vV.bool fF)=(ofM es []).map vV.bool:=by rw[ofM_nil];simp
 have ae:rP n (vV.bool fF)=(Cb n []).map vV.bool:=by rw[onM_nil];simp
 apply Ya (F:=fun(fr:aam)(h':aai)=>∃A C,Fj fr [(1,r),(2,pT (Z B)),(7,sL (Z ⟨A,0,Y⟩) es.length es.length),(8,sL (Z ⟨C,0,Y⟩) n n)]/\New2 T h' A C (rP es.length (vV.bool fF)) (rP n (vV.bool fF)))
 .intro cont;have X1:=lA ((T.alloc (.cells (rP es.length (.bool fF))))) ((Le.refl T).alloc o _);have X2:=lA ((T.alloc (.cells (rP n (.bool fF))))) ((Le.refl T).alloc o _);have X3:=lA _ (new2_a o (rP es.length (.bool fF)) (rP n (.bool fF))).le;have X4:=lA _ (new2_b o (rP es.length (.bool fF)) (rP n (.bool fF))).le;refine gh (tA [0,1,2,4,5] (.ch 3 [2] (tA [7] (JQ 6 [5] (tA [8] .done))) (JQ 6 [5] (JQ 3 [2] (tA [7,8] .done))))) ?_;simp only[kJJ,seval,Qg,Ii,Di,Ip,BS,ay.2.1,ay.2.2,ll,bo,br,om,X1.2.1,X1.2.2,X2.2.1,X2.2.2,X3.2.1,X3.2.2,X4.2.1,X4.2.2];refine⟨?_,?_⟩
  .refine KN.UJ fun fr' h' e1 e2=>cont fr' h' ?_;subst e1 e2;exact⟨_,_,fD,new2_a o _ _⟩
  .refine KN.UJ fun fr' h' e1 e2=>cont fr' h' ?_;subst e1 e2;exact⟨_,_,fD,new2_b o _ _⟩
 rintro fr h2 ⟨A,C,u,N⟩;simp only[Fj]at u;obtain⟨f1,f2,f7,f8,-⟩:=u;have lw:=fun g=>hw.len g;simp only[HO,seval,f1,lw];have az:=N.oA;have aC:=N.oB;rw[aa]at az;rw[ae]at aC;have nA:=N.nA;have nC:=N.nB;have b9:=N.ne;refine aab.intro (fun k fr hh=>∃i:Nat,k=web.length-i/\i<=web.length/\fr=mkF [(1,r),(2,pT (Z B)),(7,sL (Z ⟨A,0,Y⟩) es.length es.length),(8,sL (Z ⟨C,0,Y⟩) n n),(20,r),(21,web.length),(22,i)]/\
   hh.own A=Z (.cells ((ofM es (web.take i)).map vV.bool))/\hh.own C=Z (.cells ((Cb n (web.take i)).map vV.bool))/\Le T hh/\(∀(j:Nat) p,j<i->web[j]?=Z p->p∈es)/\∀(j:Nat) p q,j+1<i->web[j]?=Z p->web[j+1]?=Z q->Nz p q<0)
  web.length [(1,r),(2,pT (Z B)),(7,sL (Z ⟨A,0,Y⟩) es.length es.length),(8,sL (Z ⟨C,0,Y⟩) n n),(20,r),(21,web.length),(22,(0:Nat))] (by simp only[Fj,HO,seval,f1,f2,f7,f8];simp)
  ⟨0,rfl,Og _,rfl,az,aC,N.le,NH,NH⟩ ?_
 rintro k fr hh aD ⟨i,rfl,hi,rfl,oA,oC,L,cc,ai⟩;refine Uy ?_;refine Kl.intro (fun ht=>?_) (fun hf=>?_)
 rotate_left
 .have bx:web.length<=i:=vp hf;rw[abe bx]at oA oC;refine Uy ?_;refine⟨⟨_,_,tT,rfl,⟨rfl,rfl⟩,⟨fun _=>⟨fun j p q cd m=>?_,fun p K=>?_⟩,fun _=>rfl⟩,fun _=>⟨RL.ofBo (RS.whole oA (by simp[c8])),RL.ofBo (RS.whole oC (by simp[Qe]))⟩⟩,s.trans L⟩
  .grind
  grind[mem_iff_getElem?]
 have M:i<web.length:=acb ht;clear ht;have O:=CA M;have aj:web.take (i+1)=web.take i++[web[i]]:=EL M;generalize web[i]=p at O aj;have w:=hw.le (s.trans L);have ad:=hw.addr (k:=.i64) i M;have ld:=w.load O;have⟨cf,h3,e2,e3,D,bB,d⟩:=Ut aD p;have aF:=D.own _ _ oA;have aH:=D.own _ _ oC;have U:=L.trans D
 have nE:T.own hh.next=Y:=L.none ((Le.refl hh).next aD (qL0 _))
 generalize hh.next=E at*
 simp only[HO,seval,ad,ld,e2,e3];have aJ:(∃(j:Nat)(a b:Pr),web[j]?=Z a/\web[j+1]?=Z b/\¬Nz a b<0)->¬CU es web:=fun⟨j,a,b,x,y,z⟩ q=>z (q.q9 j a b x y);apply Ya (F:=fun(fr:aam)(h4:aai)=>Fj fr [(1,r),(2,pT (Z B)),(7,sL (Z ⟨A,0,Y⟩) es.length es.length),(8,sL (Z ⟨C,0,Y⟩) n n),(10,pT (Z E)),(20,r),(21,web.length),(22,i),(38,.bool fF)]/\Le h3 h4/\WF h4/\∀q,0<i->web[i-1]?=Z q->Nz q p<0)
 .intro cont;by_cases i0:i=0
  .have z:((0:Int)<(i:Int))=False:=eq_false NH;refine gh (fRn 0 9 (JQ 9 [2,7,8] (tA [10,11] .done))) ?_;simp only[kJJ,seval,Qg,gt_iff_lt,z];exact KN.UJ fun fr' h' x y=>cont fr' h' (by subst x y;exact⟨fD,Le.refl _,bB,fun q h=>by omega⟩)
  .have z:((0:Int)<(i:Int))=True:=eq_true NH;have H:=CA (show i-1<web.length by omega);generalize web[i-1]'(by omega)=q at H
   have I:aaY .i64 ((i:Int)-1)=((i-1:Nat):Int):=by rw[cT _ NH NH];omega
   have aq:=hw.addr (k:=.i64) (i-1) NH;have bF:=(w.le D).load H;have LP:=uM d;refine gh (fRn 0 9 (JQ 9 [2,7,8] (tA [10,11] .done))) ?_;refine CO (bG @gt_iff_lt.{0} z I aq bF LP) ?_
   refine kGi func176 (yu W0 q p h3) ?_;rintro x h4 aK ⟨rfl,f⟩;have Q:=uM (f.own _ _ d);have V:=((w.le D).le f).load H;by_cases d3:Nz q p>=0
   .refine CO (bG z I aq V Q d3) ?_;refine⟨⟨_,_,fF,rfl,⟨rfl,rfl⟩,⟨fun e=>(by cases e),fun e=>absurd e (aJ ⟨i-1,q,p,H,by rw[show i-1+1=i by omega];exact O,NH⟩)⟩,fun e=>by cases e⟩,((s.trans U).trans f)⟩
   .simp only[kJJ,seval,Qg,z,I,aq,V,Q,d3];exact KN.UJ fun fr' h' x y=>cont fr' h' (by subst x y;exact⟨fD,f,aK,fun q' _ m=>by rw[H]at m;injection m with m;subst m;omega⟩)
 rintro fr h4 ⟨u,f,aK,bH⟩;simp only[Fj]at u;obtain⟨g1,g2,g7,g8,aL,aN,aP,bI,bN,-⟩:=u;have J:=U.trans f;have bQ:=lA h4 J;have Q:=uM (f.own _ _ d);refine Sk (adG bN g2 aL @Di @Ip.eq_1 @BS bQ.2.2 Q) ?_;refine kCi func177 (xm W0 176 Tryz.f176 _ ⟨func176,rfl,WY⟩ (fun p q h=>yu W0 p q h) ev es p h4 (hp.le (s.trans J)) NH S) ?_;rintro x h5 cg ⟨⟨l,b,rfl,bW,bY⟩,R⟩;have W:=J.trans R;cases b with
 |false=>refine Uy ?_;exact⟨⟨_,_,fF,rfl,⟨rfl,rfl⟩,⟨fun e=>(by cases e),fun q=>absurd (q.mem p (XJ O)) (bY rfl)⟩,fun e=>by cases e⟩,s.trans W⟩
 |true=>
 have ar:=bW rfl;have K:=XJ ar;have⟨p1,p2,p3⟩:=av p K;have⟨a,c⟩:=p;simp only at p1 p2 p3;obtain⟨a,rfl⟩:=Sb p1;obtain⟨c,rfl⟩:=Sb (show 0<=c by omega);have X:=(Ny.1 ar).1;have bZ:=R.own _ _ (f.own _ _ aF);have ck:=R.own _ _ (f.own _ _ aH);have aT:=R.own _ _ (f.own _ _ d);have cm:A≠E:=fun e=>by subst e;rw[aF]at d;injection d with d;injection d with d;cases hx:(ofM es (web.take i))with|nil=>rw[hx]at d;cases d|cons y ys=>rw[hx]at d;injection d with d _;cases d
 have cp:C≠E:=fun e=>by subst e;rw[aH]at d;injection d with d;injection d with d;cases hx:(Cb n (web.take i))with|nil=>rw[hx]at d;cases d|cons y ys=>rw[hx]at d;injection d with d _;cases d
 have b0:∀k:IntKind,aao pG 41 (sL (Z ⟨A,0,Y⟩) es.length es.length) (.int k l)=Z (pT (Z ⟨A,l,Y⟩)):=fun k=>by rw[Wc Uh AV Ji l X];simp[Ip]
 have aW:∀(k:IntKind)(j:Nat),j<n->aao pG 41 (sL (Z ⟨C,0,Y⟩) n n) (.int k j)=Z (pT (Z ⟨C,j,Y⟩)):=fun k j hj=>by rw[Wc Uh AV Ji j hj];simp[Ip]
 have st1:=QB (P:=pG) (t:=4) (x:=.bool tT) AV Ji bZ (off:=l) (by simp[c8,X]) rfl rfl;have b2:(h5.put A (.cells (((ofM es (web.take i)).map vV.bool).set l (.bool tT)))).own C=Z (.cells ((Cb n (web.take i)).map vV.bool)):=by grind[aai.By]
 have aX:(h5.put A (.cells (((ofM es (web.take i)).map vV.bool).set l (.bool tT)))).own E=Z (.cells (xM ((a:Int),(c:Int)))):=by grind[aai.By]
 have cq:(h5.put A (.cells (((ofM es (web.take i)).map vV.bool).set l (.bool tT)))).own A=Z (.cells ((ofM es (web.take (i+1))).map vV.bool)):=by rw[aai.Y3,aj,ofM_push S ar,alw]
 have b3:=W.put (.cells (((ofM es (web.take i)).map vV.bool).set l (.bool tT))) nA;generalize h5.put A (.cells (((ofM es (web.take i)).map vV.bool).set l (.bool tT)))=h6 at*;have st2:=QB (P:=pG) (t:=4) (x:=.bool tT) AV Ji b2 (off:=a) (by simp[Qe];omega) rfl rfl;have b4:(h6.put C (.cells (((Cb n (web.take i)).map vV.bool).set a (.bool tT)))).own C=Z (.cells (((Cb n (web.take i)).map vV.bool).set a (.bool tT))):=aai.Y3 _ _ _;have a6:(h6.put C (.cells (((Cb n (web.take i)).map vV.bool).set a (.bool tT)))).own E=Z (.cells (xM ((a:Int),(c:Int)))):=by grind[aai.By]
 have cx:(h6.put C (.cells (((Cb n (web.take i)).map vV.bool).set a (.bool tT)))).own A=Z (.cells ((ofM es (web.take (i+1))).map vV.bool)):=by grind[aai.By]
 have b5:=b3.put (.cells (((Cb n (web.take i)).map vV.bool).set a (.bool tT))) nC;generalize h6.put C (.cells (((Cb n (web.take i)).map vV.bool).set a (.bool tT)))=h7 at*;have st3:=QB (P:=pG) (t:=4) (x:=.bool tT) AV Ji b4 (off:=c) (by simp[Qe];omega) rfl rfl;have a7:=lK aT;have a8:=HY aT;have bb:=lK aX;have bg:=HY aX;have bh:=lK a6;have bk:=HY a6;simp only at a7 a8 bb bg bh bk;refine Uy ?_;refine gh (fRn 0 9 (JQ 9 [0,1,8] (tA [10] (JQ 11 [0,1,2,3,4,8,9,10] (tA [12] (JQ 13 [0,1,2,3,4,5,6,7,8,9,10,11,12] .done)))))) ?_;simp only[HO,seval,Qg,g1,g2,g7,g8,aL,aN,aP,bI,Dh,Z0,Ip,BS,a7,a8,bb,bg,bh,bk,b0,aW _ a NH,aW _ c NH,st1,st2,st3,aaa i NH];refine tn (web.length-(i+1)) [(1,r),(2,pT (Z B)),(7,sL (Z ⟨A,0,Y⟩) es.length es.length),(8,sL (Z ⟨C,0,Y⟩) n n),(20,r),(21,web.length),(22,(i+1:Nat))] NH (by simp only[Fj,HO,seval,g1,g2,g7,g8,aN,aP];simp)
  ⟨i+1,rfl,M,rfl,by grind[aai.By],by rw[aai.Y3,aj,onM_push];simp[alw],b5.put _ nC,fun j q hj hq=>?_,fun j q q' hj hq m=>?_⟩
 .grind
 .by_cases e:j+1=i
  .have:web[i-1]?=Z q:=by rw[<-e];grind
   grind
  .exact ai j q q' NH hq m
variable {α:Type}
def fG:∀n:Nat,n<=300->IntKind.u64.wrap ((BitVec.ofInt IntKind.u64.bits (n:Int) &&& BitVec.ofInt IntKind.u64.bits 4294967295).toNat:Nat)=(n:Int):=by
 intro n a;have:∀k:Fin 301,IntKind.u64.wrap ((BitVec.ofInt IntKind.u64.bits ((k:Nat):Int) &&& BitVec.ofInt IntKind.u64.bits 4294967295).toNat:Nat)=((k:Nat):Int):=by decide+kernel
 exact this ⟨n,NH⟩
theorem KR(n:Nat)(a:n<=300):acV .shr .u64 (n:Int) 32=Z (.int .u64 0):=by simp[acV,IntKind.bits];grind
theorem sS(n:Nat)(a:n<=300):aaY .u64 (n:Int)=n:=by grind[aaY]
theorem Mul64_any(b:LA)(n:Nat)(a:n<=300)(h:aai):AC pG b 153 [.int .u64 1,.int .u64 n] h fun x h'=>x=.tuple #[.int .u64 0,.int .u64 n]/\h'=h:=by
 refine AC.vF func153 ntmps153 results153 fun c=>?_;have a1:IntKind.u64.wrap ((BitVec.ofInt IntKind.u64.bits 1 &&& BitVec.ofInt IntKind.u64.bits 4294967295).toNat:Nat)=1:=fG 1 WY;have a2:acV .shr .u64 1 32=Z (.int .u64 0):=KR 1 WY;have d:IntKind.u64.wrap ((BitVec.ofInt IntKind.u64.bits 0 &&& BitVec.ofInt IntKind.u64.bits 4294967295).toNat:Nat)=0:=fG 0 WY;have e:acV .shr .u64 0 32=Z (.int .u64 0):=KR 0 WY;have f:=fG n a;have g:=KR n a;have i:aaY .u64 0=0:=by decide
 have j:=sS n a;refine Sk (Da a1 a2 d e f g i j @Int.mul_one @Int.one_mul @Int.mul_zero @Int.zero_mul @Int.add_zero @Int.zero_add) ?_;grind
theorem Mul_any(a:LA)(n:Nat)(b:n<=300)(h:aai):AC pG a 113 [.int .u64 1,.int .u64 n] h fun x h'=>x=.tuple #[.int .u64 0,.int .u64 n]/\h'=h:=by refine AC.vF func113 ntmps113 results113 fun c=>?_;refine Uy ?_;refine kCi func153 (Mul64_any a n b h) ?_;rintro v h'-⟨rfl,rfl⟩;refine Uy ?_;grind
theorem rep_grow(a b:α)(i n m:Nat)(c:min i (n-i)=m):List.take i (rP i a++rP (n-i) b)++List.take (m*1) (rP i a)++List.drop (i+m*1) (rP i a++rP (n-i) b)=rP (i+m) a++rP (n-(i+m)) b:=by
 have d:List.take i (rP i a++rP (n-i) b)=rP i a:=hGr;have e:List.take (m*1) (rP i a)=rP m a:=hGr;have e3:List.drop (i+m*1) (rP i a++rP (n-i) b)=rP (n-(i+m)) b:=by rw[ajX,drop_append,drop_replicate,drop_replicate];simp;omega
 grind[replicate_append_replicate]
theorem rN(y:LA)(l:vV)(n:Nat)(p:n<=300)(h:aai)(q:RL RP h l [-1]):AC pG y 82 [l,n] h fun v h'=>∃id,v=sL (Z ⟨id,0,Y⟩) n n/\h.next<=id/\h'.own id=Z (.cells (rP n (.int .i64 (-1))))/\Le h h':=by
 refine AC.vF aj9 ntmps82 results82 fun d=>?_;have A:¬((n:Int)<0):=NH;have B:aeh pG h 28 l=Z (.int .i64 (1:Int)):=q.DH h;have w1:aaY .u64 1=1:=by decide
 simp only[HO,seval,A,B,acX,Ac,qS16,sS n p,w1];refine kCi func113 (Mul_any y n p h) ?_;rintro v h'-⟨rfl,rfl⟩;have C:¬((0:Int)<(0:Int)):=by decide
 have D:¬((9223372036854775807:Int)<(n:Int)):=NH;have mk:=Ye (P:=pG) (t:=28) h' Mb rfl rfl rfl rfl Ji Ac Ji n NH;simp only[HO,seval,C,D,acX,Ac,qS16,ie n NH NH,mk]
 have f:(h'.alloc (.cells (rP n (.int .i64 0)))).own h'.next=Z (.cells (rP n (.int .i64 0))):=aai.zT _ _
 have hle:Le h' (h'.alloc (.cells (rP n (.int .i64 0)))):=(Le.refl _).alloc d _
 have g:h'.own h'.next=Y:=(Le.refl h').next d (qL0 _)
 generalize h'.alloc (.cells (rP n (.int .i64 0)))=z at*
 have c:∃m h2,afo pG z 28 (sL (Z ⟨h'.next,0,Y⟩) n n) l=Z (.int .i64 (m:Nat),h2)/\(n=0/\m=0\/1<=m/\m<=n)/\h2.own h'.next=Z (.cells (rP m (.int .i64 (-1))++rP (n-m) (.int .i64 0)))/\Le h' h2:=by
  by_cases E:n=0
  .subst E;exact⟨0,z,afl Mb Ac WY q.sl Ma,.inl ⟨rfl,rfl⟩,by simpa using f,hle⟩
  .obtain⟨vs,F,hlen,hg⟩:=q;have r:vs=[.int .i64 (-1)]:=by
    match vs,hlen with
    |[x],_=>rw[hg 0 (-1) x rfl rfl]
   subst r;refine⟨1,_,IQ (k:=1) Mb Ac rfl f (F.le hle).cs (by rfl) 1 (by simp;omega) WY (by simp;omega),.inr ⟨NH,NH⟩,?_,hle.put _ g⟩;grind[aai.Y3]
 have⟨m,h2,G,H,s,j⟩:=c;refine Sk G ?_
 refine lIn (fun k fr hh=>∃i:Nat,k=n-i/\(n=0/\i=0\/1<=i/\i<=n)/\fr=mkF [(7,sL (Z ⟨h'.next,0,Y⟩) n n),(8,i)]/\hh.own h'.next=Z (.cells (rP i (.int .i64 (-1))++rP (n-i) (.int .i64 0)))/\Le h' hh) ⟨m,rfl,H,rfl,s,j⟩ ?_
 rintro k fr hh-⟨i,rfl,hi,rfl,f,hle⟩
 simp only[HO,seval,show aeh pG hh 28 (sL (Z ⟨h'.next,0,Y⟩) n n)=Z (.int .i64 n)from rfl]
 refine Kl.intro (fun I=>?_) (fun hf=>?_)
 .have u:i<n:=acb I;refine Uy ?_;refine gh (fRn 0 7 (JQ 7 [3,6] (tA [8] (JQ 9 [0,1,2,3,4,5,6,7,8] .done)))) ?_;have b:n<UNK:=alO p WY
  have s1:=aSlice_lo (P:=pG) (t:=28) (a:=Z ⟨h'.next,0,Y⟩) (n:=n) (cap:=n) (k:=.i64) Mb Ac rfl i NH (.inr u) (qL0 _) b
  have s2:=pn (P:=pG) (t:=28) (a:=⟨h'.next,0,Y⟩) (n:=n) (cap:=n) (k:=.i64) Mb Ac i NH (qL0 _) b
  simp only[ahD,Ip,BS]at s1
  have o:CS 1 hh (sL (Z ⟨h'.next,0,Y⟩) i n) i (rP i (.int .i64 (-1))):=by have:=CS.own (k:=1) (off:=0) (n:=i) (cap:=n) f Ma;grind
  have w:=IQ (P:=pG) (t:=28) (k:=1) (n:=i) (off:=i) (dl:=n-i) (dc:=n-i) (e:=3) Mb Ac rfl f o (all_rep rfl i) (min i (n-i)) rfl NH (by simp;omega);refine CO (xU s1 s2 w (ie ((i:Int)+((min i (n-i):Nat):Int)) NH NH)) ?_;refine lgA NH ⟨i+min i (n-i),rfl,NH,rfl,?_,hle.put _ g⟩;grind[aai.Y3,rep_grow]
 .have J:n<=i:=vp hf;have:i=n:=NH;subst this;refine Uy ?_;grind
variable {L c w:Nat} {P:Program} {b0 h':aai} {r:RZ} {rows:AM} {us:List Value}
def Bp(l:RZ):xLV:=l.map (vV.int .i64)
theorem uE(l:RZ):(Bp l).length=l.length:=by simp[Bp]
def yG(l:RZ):(Bp l).all (·.oneCell')=tT:=by simp[Bp];intros;rfl
def DQ(h:aai)(x:Int):aas pG h 28 1 [(0,x)]=Z (sL (Z h.next) 1 1,h.alloc (.cells [x])):=rfl
theorem xr{t xt:TypeId}{v x v':vV}(hw:WF h)(e:aaR P h t xt v x=Z (v',h')):WF h':=by
 unfold aaR at e;split at e
 .grind[WF.kill,WF.alloc,WF.put,WF.lt]
 .cases e
theorem grow(m:WF h){G:aai}{R w q t:Nat}{us cells:xLV}{cu x:vV}{d:TypeDesc}(v:apT pG t t 1=tT)(y:pG.underlying t=Z d)(n:UA pG t=1)(oR:h.own R=Z (.cells us))(hw:w<us.length)(g:GS 1 h cu q cells)(z:cells.all (·.oneCell')=tT)(A:x.oneCell'=tT)(H:q<=100000)(B:blk cu≠Z R)(le:Le G h)(C:G.own R=Y)(ap:Z2 G cu):
  ∃a k f j,h.alloc (.cells [x])=k/\aaR pG k t t cu (sL (Z h.next) 1 1)=Z (a,f)/\aaK pG f t (pT (Z ⟨R,w,Y⟩)) a=Z j/\GS 1 j a (q+1) (cells++[x])/\
   j.own R=Z (.cells (us.set w a))/\blk a≠Z R/\Z2 G a/\Le h k/\Le G f/\Le G j/\(∀b o,h.own b=Z o->b≠R->blk cu≠Z b->j.own b=Z o/\blk a≠Z b)/\(∀b o,h.own b=Z o->blk cu≠Z b->f.own b=Z o)/\WF j:=by
 have⟨k,e4,c,e,D⟩:=Tt m [x];have⟨a,f,p,r,hf⟩:=(g.le c).push (P:=pG) (t:=t) v D z A NH;have⟨s,u⟩:=aG hf e (c.own _ _ oR) B;have⟨l5,E⟩:=hf G e (le.trans c) ap;have l:WF f:=xr e p;have sl:=r.cs.sl;have st:=QB (P:=pG) (t:=t) (x:=a) y n s (off:=w) hw (by obtain⟨_,_,rfl,_⟩:=sl;rfl) sl.one;refine⟨a,k,f,_,e4,p,st,r.put _ u,aai.Y3 _ _ _,u,E,c,l5,l5.put _ C,fun b o hb F i=>?_,fun b o hb i=>(aG hf e (c.own _ _ hb) i).1,l.put _ (l.lt s)⟩;have⟨r1,r2⟩:=aG hf e (c.own _ _ hb) i;grind[aai.By]
structure Rows (b0 h:aai) (L:Nat) (us:xLV) (rows:AM):Prop where
 oL:h.own L=Z (.cells us)
 len:us.length=rows.length
 gs:∀(v:Nat) u r,us[v]?=Z u->rows[v]?=Z r->GS 1 h u r.length (Bp r)
 nL:∀(v:Nat) u,us[v]?=Z u->blk u≠Z L
 TE:∀(v w:Nat) u u' b,v≠w->us[v]?=Z u->us[w]?=Z u'->blk u=Z b->blk u'≠Z b
 ap:∀(v:Nat) u,us[v]?=Z u->Z2 b0 u
 le:Le b0 h
 bL:b0.own L=Y
theorem Rows.up{b0 h h':aai}{L:Nat}{us:xLV}{rows:AM}(R:Rows b0 h L us rows)(e:Le h h'):Rows b0 h' L us rows:=⟨e.own _ _ R.oL,R.len,fun v u r a b=>(R.gs v u r a b).le e,R.nL,R.TE,R.ap,R.le.trans e,R.bL⟩
theorem Rows.start(d:h.own L=Z (.cells (rP n (.slice Y 0 0))))(le:Le b0 h)(bL:b0.own L=Y):Rows b0 h L (rP n (.slice Y 0 0)) (rP n []):=by
 have c:∀(v:Nat) u,(rP n (vV.slice Y 0 0))[v]?=Z u->u=.slice Y 0 0:=fun v u a=>qL186 (XJ a);refine⟨d,Ma,fun v u r a e=>?_,fun v u a=>?_,fun v w u u' b _ a _ hb=>?_,fun v u a b hb=>?_,le,bL⟩
 .rw[c v u a,show r=[]from qL186 (XJ e)];exact .nil 1 _
 all_goals grind[blk]
theorem Rows.push(R:Rows b0 h L us rows)(p:WF h)(C:rows[w]?=Z r)(x:Int)(D:r.length<=100000):
  ∃u u' m j l,us[w]?=Z u/\h.alloc (.cells [x])=m/\aaR pG m 28 28 u (sL (Z h.next) 1 1)=Z (u',j)/\aaK pG j 28 (pT (Z ⟨L,w,Y⟩)) u'=Z l/\Le h m/\Le b0 j/\
   j.own L=Z (.cells us)/\Rows b0 l L (us.set w u') (rows.set w (r++[x]))/\WF l/\(∀b o,h.own b=Z o->b≠L->(∀(v:Nat) a,us[v]?=Z a->blk a≠Z b)->j.own b=Z o/\l.own b=Z o/\∀(v:Nat) a,(us.set w u')[v]?=Z a->blk a≠Z b):=by
 have f:w<us.length:=by grind[Rows.len]
 have i:=CA f;generalize us[w]=u at i;have g:=R.gs w u r i C;have⟨u',m,j,l,e4,E,F,H,o6,n6,I,l4,l5,l6,keep,d,s⟩:=grow p (G:=b0) (t:=28) (x:=x) Ji Mb Ji R.oL f g (yG _) rfl D (R.nL w u i) R.le R.bL (R.ap w u i);refine⟨u,u',m,j,l,i,e4,E,F,l4,l5,d _ _ R.oL (R.nL w u i),⟨o6,by simp[R.len],fun v a q ha c=>?_,fun v a ha=>?_,fun v v' a a' b y ha mi hb=>?_,fun v a ha=>?_,l6,R.bL⟩,s,fun b o hb z n=>⟨d b o hb (n w u i),(keep b o hb z (n w u i)).1,fun v a ha=>?_⟩⟩
 .rw[j3]at ha c;by_cases e:w=v
  .grind[Bp]
  .rw[IE e]at ha c;refine(R.gs v a q ha c).kept fun b o hb A=>(keep b o A (fun B=>R.nL v a ha hGr) (fun B=>R.TE w v u a b e i ha B hb)).1
 .grind[Rows.nL]
 .rw[j3]at ha mi;by_cases e:w=v
  .subst e;rw[WA rfl,WA f]at ha;injection ha with ha;subst ha;rw[IE y]at mi;intro sZ;have k:∃q,rows[v']?=Z q:=⟨_,CA (by grind[Rows.len])⟩;have⟨q,c⟩:=k;have⟨o,A⟩:=jz.1 ((R.gs v' a' q mi c).Sy sZ);grind[Rows.TE]
  .rw[IE e]at ha;by_cases e':w=v'
   .subst e';rw[WA rfl,WA f]at mi;injection mi with mi;subst mi;have k:∃q,rows[v]?=Z q:=⟨_,CA (by grind[Rows.len])⟩;have⟨q,c⟩:=k;have⟨o,A⟩:=jz.1 ((R.gs v a q ha c).Sy hb);grind[Rows.TE]
   grind[Rows.TE]
 all_goals grind[Rows.ap]
def isG(h:aai)(u:vV)(r:RZ):Prop:=GS 1 h u r.length (Bp r)
def RL.map{R R':aai->vV->α->Prop}{xs:List α}(r:RL R h v xs)(hR:∀u x,R h u x->R' h u x):RL R' h v xs:=by have⟨vs,q,a,b⟩:=r;exact⟨vs,q,a,fun i x u c d=>hR u x (b i x u c d)⟩
theorem isG.rl{u:vV}(g:isG h u r):RL RP h u r:=RL.Wh (GS.cs g).rs
theorem Rows.rlG(R:Rows b0 h L us rows)(a:us.length=n):RL isG h (sL (Z L) n c) rows:=⟨us,RS.whole R.oL a,R.len,fun i x u b d=>R.gs i u x d b⟩
theorem Rows.rl(R:Rows b0 h L us rows)(a:us.length=n):RL (RL RP) h (sL (Z L) n c) rows:=⟨us,RS.whole R.oL a,R.len,fun i x u b d=>RL.Wh (R.gs i u x d b).cs.rs⟩
def Xs(rows:AM)(p:Pr):AM:=
 let r1:=rows.set p.1.toNat ((rows.getD p.1.toNat [])++[p.2])
 r1.set p.2.toNat ((r1.getD p.2.toNat [])++[p.1])
def Zh(n:Nat)(es:xLP):AM:=es.foldl Xs (rP n [])
theorem pO(rows:AM)(p:Pr):(Xs rows p).length=rows.length:=by simp[Xs]
theorem Xq(n:Nat)(es:xLP):(Zh n es).length=n:=by
 have:∀(es:xLP)(rows:AM),(es.foldl Xs rows).length=rows.length:=by
  intro es
  induction es<;>grind[pO]
 grind[Zh.eq_1]
def NJ(n:Nat)(es:xLP)(p:Pr):Zh n (es++[p])=Xs (Zh n es) p:=by simp[Zh]
theorem bV(n:Nat)(es:xLP):∀r∈Zh n es,r.length<=2*es.length:=by
 have:∀(es:xLP)(rows:AM)(k:Nat),(∀r∈rows,r.length<=k)->∀r∈es.foldl Xs rows,r.length<=k+2*es.length:=by
  intro es
  induction es with
  |nil=>grind
  |cons p es c=>
   intro rows k h r a;rw[iU]at a;have b:∀(l:AM)(m:Nat),(∀r∈l,r.length<=m)->∀i,(l.getD i []).length<=m:=fun l m e i=>by grind
   have d:∀r∈rows.set p.1.toNat ((rows.getD p.1.toNat [])++[p.2]),r.length<=k+1:=fun r a=>by grind
   have h2:∀r∈Xs rows p,r.length<=k+2:=fun r a=>by
    rcases agK a with h'|rfl
    .grind
    .have:=b _ (k+1) d p.2.toNat;grind
   have:=c (Xs rows p) (k+2) h2 r a;simp;omega
 intro r a;have:=this es (rP n []) 0 (fun r a=>by grind) r a;omega
theorem Beside_g(W0:LA)(v:vV)(n:Nat)(es:xLP)(h:aai)(hg:GR h v ⟨(n:Int),es⟩)(hr:bX ⟨(n:Int),es⟩):AC pG W0 44 [v] h fun x h'=>RL isG h' x (Zh n es)/\Le h h':=by
 have aD:=hg
 obtain⟨ev,rfl,hp⟩:=hg.open
 have bH:(n:Int)<=200:=hr.n1;have bI:es.length<=594:=hr.len;have y:∀p∈es,0<=p.1/\p.1<p.2/\p.2<(n:Int):=fun p aF=>by have⟨i,hi⟩:=aax.1 aF;exact(hr.ok i (Ny.1 hi).1 p hi).1
 refine AC.vF zj ntmps44 results44 fun aH=>?_;obtain⟨h1,b1,A,bQ,-,lA⟩:=r8 (n:=(n:Int)) aH hp
 generalize h.next=B at*
 have aJ:=lA h1 (Le.refl _);have ll:=fun g=>hp.len g;simp only[HO,seval,b1,aJ.1];refine TC.intro PJ ⟨qS6,rfl,WY⟩ (ak W0 _ _ h1 (aD.le A)) ?_;rintro x h2 C ⟨⟨bb,rfl,aK⟩,m⟩;obtain rfl:bb=tT:=aK.2 hr;have aL:=lA h2 m;have mk:=Ye (P:=pG) (t:=25) (z:=.slice Y 0 0) h2 qS9 rfl rfl rfl rfl Ji Mb Ji n NH;have⟨h3,e3,aN,bW,o3⟩:=Tt C (rP n (.slice Y 0 0));rw[e3]at mk
 have nL:h2.own h2.next=Y:=(Le.refl h2).next C (qL0 _)
 generalize h2.next=L at*
 have fT:=lA h3 (m.trans aN);simp only[HO,seval,Ii,Di,Ip,BS,aL.2.1,mk,fT.2.2,ll];have R0:Rows h2 h3 L (rP n (.slice Y 0 0)) (Zh n (es.take 0)):=by grind[Zh,Rows.start]
 refine aab.intro (fun k fr hh=>∃(i:Nat)(us:xLV),k=es.length-i/\i<=es.length/\fr=mkF [(3,sL (Z L) n n),(13,ev),(14,.int .i64 es.length),(15,i)]/\Rows h2 hh L us (Zh n (es.take i)))
  es.length [(3,sL (Z L) n n),(13,ev),(14,.int .i64 es.length),(15,(0:Nat))] fD ⟨0,_,rfl,Og _,rfl,R0⟩ ?_
 rintro k fr hh D ⟨i,us,rfl,hi,rfl,R⟩;refine Uy ?_;refine Kl.intro (fun ht=>?_) (fun hf=>?_)
 rotate_left
 .have aP:es.length<=i:=vp hf;rw[abe aP]at R;refine Uy ?_;grind[Rows.rlG,Rows.len,Xq,Le.trans,Rows.le]
 have l:i<es.length:=acb ht;clear ht;have o:=CA l;have F:es.take (i+1)=es.take i++[es[i]]:=EL l;generalize es[i]=p at o F;have⟨p1,p2,p3⟩:=y p (XJ o);have aT:=hp.le ((A.trans m).trans R.le);have ad:=hp.addr (k:=.i64) i l;have ld:=aT.load o;have⟨bY,h4,e4,aW,aX,a6,G⟩:=Ut D p
 have a7:hh.own hh.next=Y:=(Le.refl hh).next D (qL0 _)
 have⟨a,c⟩:=p;simp only at p1 p2 p3;obtain⟨a,rfl⟩:=Sb p1;obtain⟨c,rfl⟩:=Sb (show 0<=c by omega);have R4:=R.up aX
 have a8:∀(v:Nat) u,us[v]?=Z u->blk u≠Z hh.next:=fun v u hu hb=>by have bg:∃q,(Zh n (es.take i))[v]?=Z q:=⟨_,CA (by grind[Rows.len])⟩;have⟨q,hq⟩:=bg;exact(R.gs v u q hu hq).Sy hb a7
 have H:hh.next≠L:=fun e=>by have:=R.oL;grind
 generalize hh.next=E at*
 simp only[HO,seval,ad,ld,e4,aW];have bh:=bV n (es.take i);have bZ:(es.take i).length<=594:=hGr;have I:∀(k:IntKind)(j:Nat),j<n->aao pG 25 (sL (Z L) n n) (.int k j)=Z (pT (Z ⟨L,j,Y⟩)):=fun k j hj=>by rw[Wc qS9 Mb Ji j hj];simp[Ip]
 have J:a<(Zh n (es.take i)).length:=by grind[Xq]
 have K:=CA J;have M:(Zh n (es.take i)).getD a []=(Zh n (es.take i))[a]:=D4 J;have N:((Zh n (es.take i))[a]).length<=100000:=hGr;generalize (Zh n (es.take i))[a]=ra at K M N;have⟨u,u',h5,h6,h7,hu,e5,e6,e7,l5,l6,b0,R7,bk,keep⟩:=R4.push a6 K (c:Int) N;have⟨d,b,O⟩:=keep _ _ G H a8;have Q:=lK G;have S:=HY G;have T:=lK (l5.own _ _ G);have U:=HY (l5.own _ _ G);have V:=lK d;have W:=HY d;have X:=lK b;have aa:=HY b;simp only at Q S T U V W X aa;have bm:aaC pG h4 28 ⟨L,a,Y⟩=Z u:=by rw[Fq Mb rfl R4.oL];exact hu
 have bo:aaC pG h5 28 ⟨L,a,Y⟩=Z u:=by rw[Fq Mb rfl (l5.own _ _ R4.oL)];exact hu
 have bs:aas pG h4 28 1 [(0,c)]=Z (sL (Z h4.next) 1 1,h5):=by rw[DQ,e5]
 refine gh (fRn 0 10 (JQ 10 [9] (JQ 11 [7,10] (tA [12] (JQ 13 [0,1,2,3,4,5,6,7,8,9,10,11,12] .done))))) ?_;simp only[HO,seval,Qg,Dh,Z0,Ip,BS,Q,S,T,U,V,W,I _ a NH,bm,bo,bs,e6,e7];have b2:((Zh n (es.take i)).set a (ra++[(c:Int)])).length=n:=by simp[Xq]
 have r:c<((Zh n (es.take i)).set a (ra++[(c:Int)])).length:=NH;have ae:=CA r;have ai:((Zh n (es.take i)).set a (ra++[(c:Int)])).getD c []=((Zh n (es.take i)).set a (ra++[(c:Int)]))[c]:=D4 r;have aj:(((Zh n (es.take i)).set a (ra++[(c:Int)]))[c]).length<=100000:=by
  rcases agK (AE r)with e|e
  .grind
  .rw[e];simp;grind
 generalize ((Zh n (es.take i)).set a (ra++[(c:Int)]))[c]=rc at ae ai aj;have⟨w,w',h8,h9,b3,hw,e8,e9,br,l8,l9,b4,aq,bN,s⟩:=R7.push bk ae (a:Int) aj;obtain⟨f,ar,-⟩:=s _ _ b H O;have av:=lK (l8.own _ _ b);have ay:=HY (l8.own _ _ b);have az:=lK f;have aC:=HY f;simp only at av ay az aC;have bx:aaC pG h7 28 ⟨L,c,Y⟩=Z w:=by rw[Fq Mb rfl R7.oL];exact hw
 have bB:aaC pG h8 28 ⟨L,c,Y⟩=Z w:=by rw[Fq Mb rfl (l8.own _ _ R7.oL)];exact hw
 have bF:aas pG h7 28 1 [(0,a)]=Z (sL (Z h7.next) 1 1,h8):=by rw[DQ,e8]
 refine gh (fRn 0 10 (JQ 10 [9] (JQ 11 [7,10] (tA [12] (JQ 13 [0,1,2,3,4,5,6,7,8,9,10,11,12] .done))))) ?_;simp only[HO,seval,Qg,Dh,Z0,Ip,BS,X,aa,av,ay,az,aC,I _ c NH,bx,bB,bF,e9,br,aaa i NH];have:Xs (Zh n (es.take i)) ((a:Int),(c:Int))=((Zh n (es.take i)).set a (ra++[(c:Int)])).set c (rc++[(a:Int)]):=by simp only[Xs,vZ,M,ai]
 rw[<-this,<-NJ,<-F]at aq;exact tn (es.length-(i+1)) [(3,sL (Z L) n n),(13,ev),(14,.int .i64 es.length),(15,(i+1:Nat))] NH fD ⟨i+1,_,rfl,l,rfl,aq⟩
def oe(a:LA)(v:vV)(n:Nat)(es:xLP)(h:aai)(hg:GR h v ⟨(n:Int),es⟩)(b:bX ⟨(n:Int),es⟩):AC pG a 44 [v] h fun x h'=>RL (RL RP) h' x (Zh n es)/\Le h h':=(Beside_g a v n es h hg b).mono fun _ _ h=>⟨h.1.map fun _ _ g=>g.rl,h.2⟩
def aO(p:Pr)(v:Int):Bool:=decide (p.1=v)||decide (p.2=v)
def onE(ps:xLP)(v:Int):Bool:=ps.any fun p=>aO p v
def eqP(p q:Pr):aEq pG 49 (UI p) (UI q)=Z (decide (p=q)):=by
 have e:p=q↔p.1=q.1/\p.2=q.2:=Prod.ext_iff;simp only[aEq,qS7,Ac,UI,aa9,ts3];by_cases a:p.1=q.1
 .by_cases h2:p.2=q.2
  .simp[e,a,h2]
  .simp[e,a,h2]
 .simp[e,a]
def gfP(p:Pr):aci (UI p)=tT:=rfl
def abinP(p q:Pr):mM pG .eql 49 (UI p) (UI q)=Z (.bool (decide (p=q)))/\mM pG .neq 49 (UI p) (UI q)=Z (.bool (!decide (p=q))):=by
 have a:ae3 pG .eql 49 (UI p) (UI q)=match aEq pG 49 (UI p) (UI q)with|some b=>Z (.bool b)|none=>Y:=rfl
 have h2:ae3 pG .neq 49 (UI p) (UI q)=match aEq pG 49 (UI p) (UI q)with|some b=>Z (.bool (!b))|none=>Y:=rfl
 constructor
 .rw[mM,gfP,cond_true,a,eqP]
 .rw[mM,gfP,cond_true,h2,eqP]
def hasB(ps:xLP)(p:Pr):Bool:=ps.any fun q=>decide (q=p)
def hasB_iff(ps:xLP)(p:Pr):hasB ps p=tT↔p∈ps:=by simp[hasB]
theorem abn(u:LA)(v w:vV)(ps a:xLP)(h:aai)(n:PR h v ps)(hw:PR h w a)(A:ps.length<=100000):AC pG u 17 [v,w] h fun x h'=>x=.bool (decide (ps=a))/\h'=h:=by
 refine AC.vF func17 ntmps17 results17 fun y=>?_;have o:=fun g=>n.len g;have lw:=fun g=>hw.len g;by_cases c:(ps.length:Int)=(a.length:Int)
 rotate_left
 .simp only[HO,seval,o,lw,bne,eq_false c];exact⟨by rw[Z6 (fun e=>c (by rw[e]))],trivial⟩
 have c':ps.length=a.length:=NH;simp only[HO,seval,o,lw,bne,eq_true c];refine lIn (fun k fr hh=>∃i:Nat,k=ps.length-i/\i<=ps.length/\hh=h/\fr=mkF [(0,v),(1,w),(5,i)]/\ps.take i=a.take i) ⟨0,rfl,Og _,rfl,rfl,rfl⟩ ?_;rintro k fr hh-⟨i,rfl,hi,rfl,rfl,s⟩;refine Sk o ?_;refine Kl.intro (fun z=>?_) (fun hf=>?_)
 .have b:i<ps.length:=acb z;have f:=CA b;have j:=CA (show i<a.length by omega);have t1:ps.take (i+1)=ps.take i++[ps[i]]:=EL b;have t:a.take (i+1)=a.take i++[a[i]'(by omega)]:=EL NH
  generalize ps[i]=p at f t1;generalize a[i]'(by omega)=q at j t
  have ad:=n.addr (k:=.i64) i b;have ld:=n.load f;have l:=hw.addr (k:=.i64) i NH;have m:=hw.load j;have d:=(abinP p q).2;refine Uy ?_;refine gh (fRn 0 9 .done) ?_;cases hb:decide (p=q)with
  |true=>rw[hb]at d;have e:=ai4 hb;simp only[kS1,aer,aet,ab6,Zm,abr,aa6,acZ,aeb,aec,putDst,flat,kA,kB,Nat.reduceLT,↓reduceIte,kC,Nat.reduceEqDiff,aeZ,mM,aci,ae3,adY,aUn,acy,agk,G8,acD,acf,ad7,mkF,Yx,reduceCtorEq,kD,kE,kF,kG,kH,kI,kJ,kK,acW,abt,kD1,Nat.reduceBEq,abj,kL,kM,kN,kO,ad,ld,l,m,d,-mM,aaa i NH];exact lgA NH ⟨i+1,rfl,b,rfl,rfl,by rw[t1,t,s,e]⟩
  |false=>rw[hb]at d;have e:=qL211 hb;simp only[kS1,aer,aet,ab6,Zm,abr,aa6,acZ,aeb,aec,putDst,flat,kA,kB,Nat.reduceLT,↓reduceIte,kC,Nat.reduceEqDiff,aeZ,mM,aci,ae3,adY,aUn,acy,agk,G8,acD,acf,ad7,mkF,Yx,reduceCtorEq,kD,kE,kF,kG,kH,kI,kJ,kK,acW,abt,kD1,Nat.reduceBEq,abj,kL,kM,kN,kO,ad,ld,l,m,d,-mM];exact by rw[Z6 (fun e'=>e hGr)]
 .have r:ps.length<=i:=vp hf;rw[abe r,abe NH]at s;refine Uy ?_;grind
variable {L:RZ} {cl cl':Nat->Nat->Prop} {met:II} {on:Nat->Bool} {u v x:Nat}
theorem cA(l:List α)(i j:Nat)(a d:α):(l.set i a).getD j d=if i=j/\i<l.length then a else l.getD j d:=hGr
def aV(n:Nat)(es:xLP):Prop:=∀p∈es,0<=p.1/\p.1<p.2/\p.2<(n:Int)
theorem bX.GD(b:bX ⟨(n:Int),es⟩):aV n es:=fun p a=>by have⟨i,hi⟩:=aax.1 a;exact(b.ok i (Ny.1 hi).1 p hi).1
def Jp(es:xLP)(u w:Nat):Prop:=((u:Int),(w:Int))∈es\/((w:Int),(u:Int))∈es
theorem Jp.symm{es:xLP}{u w:Nat}(h:Jp es u w):Jp es w u:=Or.symm h
theorem Jp.lt(a:aV n es)(h:Jp es u w):u<n/\w<n:=by
 rcases h with h|h<;>have:=a _ h<;>simp only at this<;>omega
theorem bes_step(rows:AM)(p:Pr)(u:Nat)(x:Int)(a:p.1.toNat<rows.length)(h2:p.2.toNat<rows.length):
  x∈(Xs rows p).getD u []↔x∈rows.getD u []\/(p.1.toNat=u/\x=p.2)\/(p.2.toNat=u/\x=p.1):=by
 simp only[Xs,cA,afM];grind
theorem FH(n:Nat):∀(es:xLP)(rows:AM),rows.length=n->aV n es->∀(u:Nat)(x:Int),x∈(es.foldl Xs rows).getD u []↔x∈rows.getD u []\/∃p∈es,(p.1.toNat=u/\x=p.2)\/(p.2.toNat=u/\x=p.1)
 |[],rows,_,_,u,x=>by simp
 |p::es,rows,c,a,u,x=>by have d:=a p Ma;rw[iU,FH n es _ (by grind[pO]) (fun q b=>a q (by simp[b])) u x,bes_step rows p u x NH NH];grind
theorem EW(d:aV n es)(u w:Nat):(w:Int)∈(Zh n es).getD u []↔Jp es u w:=by
 have c:(rP n ([]:RZ)).getD u []=[]:=hGr;rw[Zh,FH n es _ Ma d,c];simp only[fj,false_or,Jp];constructor
 .rintro⟨⟨a,b⟩,e,⟨f,h2⟩|⟨f,h2⟩⟩
  .have:=d _ e;grind
  .have:=d _ e;grind
 grind
theorem Ru(b:aV n es){x:Int}(c:x∈(Zh n es).getD u []):∃w:Nat,x=(w:Int)/\w<n:=by
 have a:(rP n ([]:RZ)).getD u []=[]:=hGr;rw[Zh,FH n es _ Ma b,a]at c;simp only[fj,false_or]at c;obtain⟨p,d,⟨_,rfl⟩|⟨_,rfl⟩⟩:=c
 .have:=b _ d;exact⟨p.2.toNat,NH,NH⟩
 .have:=b _ d;exact⟨p.1.toNat,NH,NH⟩
inductive Cn (on:Nat->Bool) (es:xLP):Nat->Nat->Prop
 |refl {u:Nat}:on u=fF->Cn on es u u
 |step {u w x:Nat}:Cn on es u w->Jp es w x->on x=fF->Cn on es u x
theorem Cn.off1(h:Cn on es u w):on u=fF:=by
 induction h with
 |refl h=>exact h
 |step _ _ _ a=>exact a
theorem Cn.AB(h:Cn on es u w):on w=fF:=by
 cases h<;>grind
theorem Cn.trans(h:Cn on es u w)(k:Cn on es w x):Cn on es u x:=by
 induction k with
 |refl _=>exact h
 |step _ a o b=>exact b.step a o
theorem Cn.symm{on:Nat->Bool}{es:xLP}{u w:Nat}(h:Cn on es u w):Cn on es w u:=by
 induction h with
 |refl h=>exact .refl h
 |step h a o b=>exact((Cn.refl o).step a.symm h.AB).trans b
structure TO (n:Nat) (on:Nat->Bool) (es:xLP) (v:Nat) (L:RZ):Prop where
 len:L.length=n
 val:∀(u:Nat) l,L[u]?=Z l->l=-1\/on u=fF/\∃k:Nat,k<v/\l=(k:Int)/\Cn on es k u
 qi:∀(u w:Nat) l,L[u]?=Z l->0<=l->Jp es u w->on w=fF->L[w]?=Z l
 low:∀u,u<v->u<n->on u=fF->L[u]?≠Z (-1)
structure TI (n:Nat) (on:Nat->Bool) (es:xLP) (v:Nat) (L:RZ) (met:II) (cl:Nat->Nat->Prop):Prop where
 len:L.length=n
 val:∀(u:Nat) l,L[u]?=Z l->l=-1\/on u=fF/\∃k:Nat,k<=v/\l=(k:Int)/\Cn on es k u
 qi:∀(u w:Nat) l,L[u]?=Z l->0<=l->l<(v:Int)->Jp es u w->on w=fF->L[w]?=Z l
 low:∀u,u<=v->u<n->on u=fF->L[u]?≠Z (-1)
 mm:∀u,u∈met↔L[u]?=Z (v:Int)
 nd:met.Nodup
 cl:∀u w,cl u w->L[w]?=Z (v:Int)
theorem TO.start(n:Nat)(on:Nat->Bool)(es:xLP):TO n on es 0 (rP n (-1)):=⟨Ma,fun u l h=>.inl (qL186 (XJ h)),fun u w l h a=>by grind,fun u h=>by omega⟩
theorem TO.skip(t:TO n on es v L)(h:on v=tT\/L[v]?≠Z (-1)):TO n on es (v+1) L:=⟨t.len,fun u l a=>(t.val u l a).imp id fun⟨b,k,h2,h3⟩=>⟨b,k,NH,h3⟩,t.qi,fun u c d e=>by grind[TO.low]⟩
theorem TO.begin(t:TO n on es v L)(j:v<n)(c:on v=fF)(k:L[v]?=Z (-1))(cl:Nat->Nat->Prop)(b:∀u w,¬cl u w):TI n on es v (L.set v (v:Int)) [v] cl:=by
 have d:v<L.length:=hGr;have f:∀u,u≠v->(L.set v (v:Int))[u]?=L[u]?:=fun u g=>by grind
 have heq:(L.set v (v:Int))[v]?=Z (v:Int):=hGr;refine⟨by simp[t.len],fun u l a=>?_,fun u w l a m o ha hw=>?_,fun u g p i=>?_,fun u=>?_,Ma,fun u w h=>absurd h (b u w)⟩
 .by_cases e:u=v
  .subst e;rw[heq]at a;injection a with a;exact .inr ⟨c,u,qL0 _,a.symm,.refl c⟩
  grind[TO.val]
 .grind[TO.qi]
 .grind[TO.low]
 grind[TO.val]
theorem TI.mono(t:TI n on es v L met cl)(h:∀u w,cl' u w->cl u w):TI n on es v L met cl':=⟨t.len,t.val,t.qi,t.low,t.mm,t.nd,fun u w k=>t.cl u w (h u w k)⟩
theorem TI.off(t:TI n on es v L met cl)(a:u∈met):on u=fF/\Cn on es v u:=by
 rcases t.val u _ ((t.mm u).1 a)with h|⟨h,k,_,h2,h3⟩
 all_goals grind
theorem TI.stay(t:TI n on es v L met cl)(f:u∈met)(ha:Jp es u w)(c:∃l,L[w]?=Z l/\l≠-1)(h:∀a b,cl' a b->cl a b\/b=w):TI n on es v L met cl':=by
 refine⟨t.len,t.val,t.qi,t.low,t.mm,t.nd,fun a b k=>?_⟩;rcases h a b k with h|rfl
 .exact t.cl a b h
 .obtain⟨l,d,g⟩:=c;rcases t.val _ _ d with h'|⟨i,k,j,rfl,_⟩
  .grind
  .by_cases e:k=v
   .grind
   .have:=t.qi b u (k:Int) d NH NH ha.symm (t.off f).1;grind[TI.mm]
theorem TI.push(t:TI n on es v L met cl)(g:u∈met)(ha:Jp es u w)(c:on w=fF)(f:L[w]?=Z (-1))(h:∀a b,cl' a b->cl a b\/b=w):
  TI n on es v (L.set w (v:Int)) (met++[w]) cl':=by
 have i:w<L.length:=(Ny.1 f).1;have j:∀x,x≠w->(L.set w (v:Int))[x]?=L[x]?:=fun x m=>by grind
 have heq:(L.set w (v:Int))[w]?=Z (v:Int):=hGr;have o:w∉met:=fun h=>by grind[TI.mm]
 refine⟨by simp[t.len],fun x l d=>?_,fun x y l d r s p z=>?_,fun x m A q=>?_,fun x=>?_,?_,fun a b k=>?_⟩
 .by_cases e:x=w
  .subst e;rw[heq]at d;injection d with d;exact .inr ⟨c,v,qL0 _,d.symm,(t.off g).2.step ha c⟩
  grind[TI.val]
 .grind[TI.qi]
 .grind[TI.low]
 .grind[TI.mm]
 .grind[TI.nd]
 .rcases h a b k with h|rfl
  .have:=t.cl a b h;grind
  .exact heq
theorem TI.finish(t:TI n on es v L met cl)(h:∀u w,u∈met->Jp es u w->on w=fF->cl u w):TO n on es (v+1) L:=by
 refine⟨t.len,fun u l a=>(t.val u l a).imp id fun⟨b,k,h2,h3⟩=>⟨b,k,NH,h3⟩,fun u w l a d ha hw=>?_,fun u f g c=>?_⟩
 .rcases t.val u l a with h'|⟨b,k,h2,rfl,_⟩
  .omega
  .by_cases e:k=v
   .subst e;exact t.cl u w (h u w ((t.mm u).2 a) ha hw)
   grind[TI.qi]
 grind[TI.low]
theorem TI.abP(t:TI n on es v L met cl):met.length<=n:=by
 have hs:met⊆rG n:=fun u a=>by have:=(Ny.1 ((t.mm u).1 a)).1;grind[TI.len]
 have:=t.nd.length_le_of_subset hs;grind
structure af1 (n:Nat) (on:Nat->Bool) (es:xLP) (L:RZ):Prop where
 len:L.length=n
 off:∀u,u<n->on u=fF->∃k:Nat,k<n/\L[u]?=Z (k:Int)/\Cn on es k u
 same:∀u w,u<n->w<n->on u=fF->on w=fF->(L[u]?=L[w]?↔Cn on es u w)
theorem TO.done(d:aV n es)(t:TO n on es n L):af1 n on es L:=by
 have off:∀u,u<n->on u=fF->∃k:Nat,k<n/\L[u]?=Z (k:Int)/\Cn on es k u:=fun u a f=>by grind[TO.len,TO.val,TO.low]
 refine⟨t.len,off,fun u w a hw g b=>⟨fun e=>?_,fun c=>?_⟩⟩
 .grind[Cn.symm,Cn.trans]
 .clear hw b
  induction c<;>grind[TO.qi]
variable {l:II} {ps:List Pr} {v:Value} {xs:RZ}
def GI(h:aai)(v:vV)(xs:RZ):Prop:=GS 1 h v xs.length (Bp xs)
theorem GI.le{h h':aai}{v:vV}{xs:RZ}(g:GI h v xs)(e:Le h h'):GI h' v xs:=GS.le g e
theorem GI.rl(g:GI h v xs):RL RP h v xs:=RL.Wh (GS.cs g).rs
theorem GI.nil(h:aai):GI h (.slice Y 0 0) []:=GS.nil 1 h
theorem GI.push{h:aai}{v:vV}{xs:RZ}(g:GI h v xs)(d:WF h)(x:Int)(m:xs.length<=100000):
  ∃v' c a,aas pG h 28 1 [(0,x)]=Z (sL (Z h.next) 1 1,c)/\aaR pG c 28 28 v (sL (Z h.next) 1 1)=Z (v',a)/\GI a v' (xs++[x])/\WF a/\Le h c/\
   (∀f,Le f h->Z2 f v->Le f a/\Z2 f v')/\(∀b o,h.own b=Z o->blk v≠Z b->a.own b=Z o/\blk v'≠Z b):=by
 have⟨c,e4,l4,e,j⟩:=Tt d [x];have⟨v',a,i,n,hf⟩:=(GS.le g l4).push (P:=pG) (t:=28) Ji j (yG _) rfl NH;refine⟨v',c,a,by rw[DQ,e4],i,?_,xr e i,l4,fun f k af=>hf f e (k.trans l4) af,fun b o l hb=>aG hf e (l4.own _ _ l) hb⟩;grind[Bp,GI.eq_1]
def GP(h:aai)(v:vV)(ps:xLP):Prop:=GS 2 h v ps.length (Iu ps)
theorem GP.le{h h':aai}{v:vV}{ps:xLP}(g:GP h v ps)(e:Le h h'):GP h' v ps:=GS.le g e
theorem GP.pr(g:GP h v ps):PR h v ps:=GS.cs g
theorem GP.nil(h:aai):GP h (.slice Y 0 0) []:=GS.nil 2 h
theorem GP.join{v x:vV}{ps c:xLP}(g:GP h v ps)(d:WF h)(i:PR h x c)(l:ps.length+c.length<=1000000000):
  ∃v' a,aaR pG h 22 22 v x=Z (v',a)/\GP a v' (ps++c)/\WF a/\
   (∀f,Le f h->Z2 f v->Le f a/\Z2 f v')/\(∀b o,h.own b=Z o->blk v≠Z b->a.own b=Z o/\blk v'≠Z b):=by
 have⟨v',a,m,n,hf⟩:=GS.append (P:=pG) (t:=22) (xt:=22) (k:=2) Ji g (fun e j=>CS.src j i) (WI _) (WI _) (Ta _) NH;grind[xr,aG,GP.eq_1,mZ]
theorem mkP1(h:aai)(p:Pr):aas pG h 22 1 [(0,UI p)]=Z (sL (Z h.next) 1 1,h.alloc (.cells (xM p))):=rfl
theorem GP.push(g:GP h v ps)(d:WF h)(p:Pr)(l:ps.length+1<=100000):
  ∃v' c a,aas pG h 22 1 [(0,UI p)]=Z (sL (Z h.next) 1 1,c)/\aaR pG c 22 22 v (sL (Z h.next) 1 1)=Z (v',a)/\GP a v' (ps++[p])/\WF a/\Le h c/\
   (∀f,Le f h->Z2 f v->Le f a/\Z2 f v')/\(∀b o,h.own b=Z o->blk v≠Z b->a.own b=Z o/\blk v'≠Z b):=by
 have⟨c,e4,l4,e,i⟩:=Tt d (xM p)
 have j:PR c (sL (Z h.next) 1 1) [p]:=by have:=CS.own (k:=2) (off:=0) (n:=1) (cap:=1) i (by simp[xM]);exact this
 have⟨v',a,m,q,r,hf,s⟩:=(g.le l4).join e j (by simp;omega);grind[mkP1,Le.trans,Le.own]
def aho(d:LA)(v:vV)(ps:xLP)(h:aai)(e:PR h v ps)(i:ps.length<=100000):AC pG d 12 [v] h fun x h'=>GP h' x ps/\Le h h'/\Z2 h x:=by refine AC.vF func12 ntmps12 results12 fun c=>?_;obtain⟨v',j,f,g,k,hf,-⟩:=(GP.nil h).join c e (by simp;omega);have⟨l,a⟩:=hf h (Le.refl h) (fun b hb=>by simp[blk]at hb);refine Sk f ?_;exact⟨g,l,a⟩
theorem yy(L:RZ)(i:Nat)(x:Int):(Bp L).set i x=Bp (L.set i x):=by simp[Bp,alw]
def kz(l:II):RZ:=l.map fun(x:Nat)=>(x:Int)
theorem y6(l:II):(kz l).length=l.length:=by simp[kz]
theorem sY(hi:i<l.length):(kz l)[i]'(by grind[y6])=((l[i]:Nat):Int):=by simp[kz]
theorem tS(W0:LA)(v o:vV)(n:Nat)(es:xLP)(bs:List Bool)(h:aai)(hg:GR h v ⟨(n:Int),es⟩)(hr:bX ⟨(n:Int),es⟩)(hb:RL sJ h o bs)(b2:bs.length=n):
  AC pG W0 160 [v,o] h fun x h'=>∃L,RL RP h' x L/\af1 n (fun u=>bs.getD u fF) es L/\Le h h':=by
 have bb:=hg
 obtain⟨ev,rfl,hp⟩:=hg.open
 have b0:(n:Int)<=200:=hr.n1;have hR:=hr.GD;refine AC.vF func160 ntmps160 results160 fun bg=>?_;obtain⟨h1,b1,ae,b3,-,lA⟩:=r8 (n:=(n:Int)) bg hp
 generalize h.next=B at*
 have bh:=lA h1 (Le.refl _);simp only[HO,seval,b1,bh.1];refine TC.intro PJ ⟨zj,rfl,WY⟩ (oe W0 _ n es h1 (bb.le ae) hr) ?_;rintro y hB bk ⟨G,H⟩;have b4:=lA hB H;have⟨h2,e2,Q,bm,o2⟩:=Tt bk [.int .i64 (-1)];have bo:=lA h2 (H.trans Q);simp only[HO,seval,DQ,e2,Ii,Ip,BS,bo.2.1];refine TC.intro PJ ⟨aj9,rfl,WY⟩ (rN W0 _ n NH h2 (RL.Wh (RS.whole o2 rfl))) ?_;rintro x h3 b5 ⟨T,rfl,hT,o3,az⟩;have fT:=lA h3 ((H.trans Q).trans az);have aC:=Q.trans az
 have nT:hB.own T=Y:=Q.next bm hT
 have br:h3.own T=Z (.cells (Bp (rP n (-1)))):=by rw[o3];simp[Bp]
 simp only[HO,seval,Ii,Ip,BS,fT.2.1];let on:Nat->Bool:=fun u=>bs.getD u fF;have b6:=hb.le Nn.sJ (ae.trans H);have aD:∀g,Le hB g->∀u,u<n->aaC pG g 4 (aaq o u)=Z (.bool (on u)):=fun g lg u hu=>by grind[RL.le,Nn.sJ,RL.W7]
 have z:∀(k:IntKind)(u:Nat),u<n->aao pG 41 o (.int k u)=Z (pT (Z (aaq o u))):=fun k u hu=>hb.LB u NH;have R:∀(k:IntKind)(j:Nat),j<n->aao pG 28 (sL (Z T) n n) (.int k j)=Z (pT (Z ⟨T,j,Y⟩)):=fun k j hj=>by rw[Wc Mb Ac Ji j hj];simp[Ip]
 have aF:∀(g:aai)(L:RZ)(j:Nat)(l:Int),g.own T=Z (.cells (Bp L))->L[j]?=Z l->aaC pG g 3 ⟨T,j,Y⟩=Z (.int .i64 l):=fun g L j l ho hl=>by rw[Fq Ac rfl ho];simp[Bp,hl]
 refine aab.intro (fun k fr hh=>∃(v:Nat)(L:RZ),k=n-v/\v<=n/\fr=mkF [(1,o),(5,y),(6,sL (Z T) n n),(19,n),(20,v)]/\hh.own T=Z (.cells (Bp L))/\Le hB hh/\TO n on es v L)
  n [(1,o),(5,y),(6,sL (Z T) n n),(19,n),(20,(0:Nat))] fD ⟨0,_,rfl,Og _,rfl,br,aC,TO.start n on es⟩ ?_
 rintro k fr hh ai ⟨v,L,rfl,hv,rfl,oT,A,tO⟩;refine Uy ?_;refine Kl.intro (fun ht=>?_) (fun hf=>?_)
 rotate_left
 .have aH:n<=v:=vp hf;obtain rfl:v=n:=NH;refine Uy ?_;exact⟨L,RL.Wh (RS.whole oT (by grind[TO.len])),tO.done hR,(ae.trans H).trans A⟩
 have c:v<n:=acb ht;clear ht;have S:=CA (show v<L.length by grind[TO.len]);generalize L[v]'(by grind)=lv at S
 have C:=aD hh A v c;have aj:=aF hh L v lv oT S;by_cases c1:on v=tT
 .rw[c1]at C;simp only[HO,seval,z _ v c,C,aaa v NH];exact tn (n-(v+1)) [(1,o),(5,y),(6,sL (Z T) n n),(19,n),(20,(v+1:Nat))] NH fD ⟨v+1,L,rfl,c,rfl,oT,A,tO.skip (.inl c1)⟩
 rw[agy]at c1;rw[c1]at C;by_cases c2:lv>=0
 .simp only[HO,seval,z _ v c,C,R _ v c,aj,c2,aaa v NH];exact tn (n-(v+1)) [(1,o),(5,y),(6,sL (Z T) n n),(19,n),(20,(v+1:Nat))] NH fD ⟨v+1,L,rfl,c,rfl,oT,A,tO.skip (.inr (by rw[S];intro e;injection e with e;omega))⟩
 have aa:L[v]?=Z (-1):=by grind[TO.val]
 have st1:aaK pG hh 3 (pT (Z ⟨T,v,Y⟩)) v=Z (hh.put T (.cells (Bp (L.set v (v:Int))))):=by rw[QB (P:=pG) (t:=3) (x:=v) Ac Ji oT (off:=v) (by rw[uE,tO.len];exact c) rfl rfl,yy]
 have D:WF (hh.put T (.cells (Bp (L.set v (v:Int))))):=ai.put _ (ai.lt oT);have I:Le hB (hh.put T (.cells (Bp (L.set v (v:Int))))):=A.put _ nT;have J:(hh.put T (.cells (Bp (L.set v (v:Int))))).own T=Z (.cells (Bp (L.set v (v:Int)))):=aai.Y3 _ _ _;simp only[HO,seval,z _ v c,C,R _ v c,aj,c2,st1];generalize hh.put T (.cells (Bp (L.set v (v:Int))))=h4 at*;have⟨h5,e5,aq,bx,o5⟩:=Tt D [v]
 have nM:hB.own h4.next=Y:=I.next D (qL0 _)
 have bB:T≠h4.next:=fun e=>by have:=D.lt J;omega
 simp only[HO,seval,DQ,e5];have aJ:=tO.begin c c1 aa (fun a w=>(∃j,j<0/\[v][j]?=Z a)/\Jp es a w/\on w=fF) (fun a w h=>by grind)
 have gM:GI h5 (sL (Z h4.next) 1 1) (kz [v]):=GS.full o5 rfl (show 1<1000000000000 by decide)
 refine aab.intro (fun k fr m=>∃(i:Nat)(L:RZ)(d:vV)(met:II),k=n-i/\i<=met.length/\fr=mkF [(1,o),(5,y),(6,sL (Z T) n n),(7,v),(8,d),(9,i),(19,n),(20,v)]/\
   m.own T=Z (.cells (Bp L))/\Le hB m/\GI m d (kz met)/\blk d≠Z T/\Z2 hB d/\TI n on es v L met (fun a w=>(∃j,j<i/\met[j]?=Z a)/\Jp es a w/\on w=fF))
  n [(1,o),(5,y),(6,sL (Z T) n n),(7,v),(8,sL (Z h4.next) 1 1),(9,(0:Nat)),(19,n),(20,v)] fD
  ⟨0,_,_,[v],rfl,Og _,rfl,aq.own _ _ J,I.trans aq,gM,by grind[blk],fun b hb=>by grind[blk],aJ⟩ ?_
 clear aJ gM bB nM o5 bx aq e5 h5 J I D st1 C aj S aa c2 oT A tO ai;clear h4 hh L;rintro k fr m U ⟨i,L,d,met,rfl,hi,rfl,oT,leq,gm,nm,am,E⟩;have lm:=fun g=>gm.rl.DH g;have aK:=E.abP;rw[y6]at lm;simp only[HO,seval,lm];refine Kl.intro (fun ht=>?_) (fun hf=>?_)
 rotate_left
 .have aH:met.length<=i:=vp hf;simp only[HO,seval,aaa v NH];refine tn (n-(v+1)) [(1,o),(5,y),(6,sL (Z T) n n),(19,n),(20,(v+1:Nat))] NH fD ⟨v+1,L,rfl,c,rfl,oT,leq,E.finish fun a w ha V bF=>⟨?_,V,bF⟩⟩;grind[mem_iff_getElem?]
 have p:i<met.length:=acb ht;clear ht;have f:=CA p;have aL:=sY p;have aN:=gm.rl.TA i (by rw[y6];exact p);have W:=gm.rl.Uc i (by rw[y6];exact p);rw[aL]at W;generalize met[i]=u at f W;clear aL;have K:u∈met:=XJ f;have b8:u<n:=by have:=(Ny.1 ((E.mm u).1 K)).1;grind[TI.len]
 have ar:u<(Zh n es).length:=by grind[Xq]
 have bH:=G.Wm u ar;have⟨uv,bI,s⟩:=G.NS u ar;have bN:(Zh n es).getD u []=(Zh n es)[u]:=D4 ar;generalize (Zh n es)[u]=row at s bN;have lr:=fun g=>s.DH g;have b9:row.length<=2000:=by have:=bV n es row (by grind);have:es.length<=594:=hr.len;omega
 simp only[HO,seval,aN,W,bH,bI m leq,lr];have aP:TI n on es v L met (fun a w=>((∃j,j<i/\met[j]?=Z a)/\Jp es a w/\on w=fF)\/(a=u/\(w:Int)∈row.take 0/\on w=fF)):=E.mono fun a w h=>by grind
 refine aab.intro (fun k fr m=>∃(q:Nat)(L:RZ)(d:vV)(met:II),k=row.length-q/\q<=row.length/\fr=mkF [(1,o),(5,y),(6,sL (Z T) n n),(7,v),(8,d),(9,i),(19,n),(20,v),(52,uv),(53,row.length),(54,q)]/\
   m.own T=Z (.cells (Bp L))/\Le hB m/\GI m d (kz met)/\blk d≠Z T/\Z2 hB d/\met[i]?=Z u/\TI n on es v L met (fun a w=>((∃j,j<i/\met[j]?=Z a)/\Jp es a w/\on w=fF)\/(a=u/\(w:Int)∈row.take q/\on w=fF)))
  row.length [(1,o),(5,y),(6,sL (Z T) n n),(7,v),(8,d),(9,i),(19,n),(20,v),(52,uv),(53,row.length),(54,(0:Nat))] fD
  ⟨0,L,d,met,rfl,Og _,rfl,oT,leq,gm,nm,am,f,aP⟩ ?_
 clear aP aN W lm;clear K f p aK E am nm gm leq oT U hi;clear m L d met;rintro k fr m U ⟨q,L,d,met,rfl,cc,rfl,oT,leq,gm,nm,am,f,E⟩;have K:u∈met:=XJ f;have aK:=E.abP;have p:=(Ny.1 f).1;refine Uy ?_;refine Kl.intro (fun ht=>?_) (fun hf=>?_)
 rotate_left
 .have aH:row.length<=q:=vp hf;simp only[HO,seval,aaa i NH];refine tn (n-(i+1)) [(1,o),(5,y),(6,sL (Z T) n n),(7,v),(8,d),(9,(i+1:Nat)),(19,n),(20,v)] NH fD ⟨i+1,L,d,met,rfl,p,rfl,oT,leq,gm,nm,am,E.mono fun a w h=>?_⟩;grind[EW]
 have F:q<row.length:=acb ht;clear ht;have av:=s.TA q F;have X:=(s.le Nn.RP leq).Uc q F;have bQ:row.take (q+1)=row.take q++[row[q]]:=EL F;have ay:row[q]∈(Zh n es).getD u []:=hGr;generalize row[q]=x at X bQ ay;obtain⟨w,rfl,r⟩:=Ru hR ay;have V:=(EW hR u w).1 ay;have M:=CA (show w<L.length by grind[TI.len]);generalize L[w]'(by grind)=lw at M
 have N:=aD m leq w r;have aT:=aF m L w lw oT M;by_cases c3:on w=tT
 .rw[c3]at N;simp only[HO,seval,av,X,z _ w r,N,aaa q NH];refine tn (row.length-(q+1)) [(1,o),(5,y),(6,sL (Z T) n n),(7,v),(8,d),(9,i),(19,n),(20,v),(52,uv),(53,row.length),(54,(q+1:Nat))] NH fD
   ⟨q+1,L,d,met,rfl,F,rfl,oT,leq,gm,nm,am,f,E.mono fun a b h=>?_⟩
  rcases h with h|⟨h1,h2,h3⟩
  .exact .inl h
  grind
 rw[agy]at c3;rw[c3]at N;have aW:∀(O:II),(∀j,j<met.length->O[j]?=met[j]?)->∀a b,((∃j,j<i/\O[j]?=Z a)/\Jp es a b/\on b=fF)\/(a=u/\(b:Int)∈row.take (q+1)/\on b=fF)->
   (((∃j,j<i/\met[j]?=Z a)/\Jp es a b/\on b=fF)\/(a=u/\(b:Int)∈row.take q/\on b=fF))\/b=w:=fun O hm a b h=>by
  rcases h with⟨⟨j,hj,cd⟩,h2⟩|⟨h1,h2,h3⟩
  .grind
  grind
 by_cases c4:lw<0
 rotate_left
 .simp only[HO,seval,av,X,z _ w r,N,R _ w r,aT,c4,aaa q NH];exact tn (row.length-(q+1)) [(1,o),(5,y),(6,sL (Z T) n n),(7,v),(8,d),(9,i),(19,n),(20,v),(52,uv),(53,row.length),(54,(q+1:Nat))] NH fD
   ⟨q+1,L,d,met,rfl,F,rfl,oT,leq,gm,nm,am,f,E.stay K V ⟨lw,M,NH⟩ (aW met fun _ _=>rfl)⟩
 have aX:L[w]?=Z (-1):=by
  rcases E.val w lw M with rfl|⟨_,k,_,rfl,_⟩
  .exact M
  .omega
 have st1:aaK pG m 3 (pT (Z ⟨T,w,Y⟩)) v=Z (m.put T (.cells (Bp (L.set w (v:Int))))):=by rw[QB (P:=pG) (t:=3) (x:=v) Ac Ji oT (off:=w) (by rw[uE,E.len];exact r) rfl rfl,yy]
 have D:WF (m.put T (.cells (Bp (L.set w (v:Int))))):=U.put _ (U.lt oT);have I:Le hB (m.put T (.cells (Bp (L.set w (v:Int))))):=leq.put _ nT;have J:(m.put T (.cells (Bp (L.set w (v:Int))))).own T=Z (.cells (Bp (L.set w (v:Int)))):=aai.Y3 _ _ _;have bW:GI (m.put T (.cells (Bp (L.set w (v:Int))))) d (kz met):=GS.put gm _ nm;simp only[HO,seval,av,X,z _ w r,N,R _ w r,aT,c4,st1];generalize m.put T (.cells (Bp (L.set w (v:Int))))=h4 at*;have⟨a7,h5,h6,e5,e6,g6,w6,l5,hf,hk⟩:=bW.push D (w:Int) (by grind[y6]);have⟨l6,a6⟩:=hf hB I am;have⟨bY,bZ⟩:=hk T _ J nm;have a8:kz met++[(w:Int)]=kz (met++[w]):=by simp[kz]
 rw[a8]at g6;simp only[HO,seval,e5,e6,aaa q NH];exact tn (row.length-(q+1)) [(1,o),(5,y),(6,sL (Z T) n n),(7,v),(8,a7),(9,i),(19,n),(20,v),(52,uv),(53,row.length),(54,(q+1:Nat))] NH fD
  ⟨q+1,_,a7,met++[w],rfl,F,rfl,bY,l6,g6,bZ,a6,by rw[eR p];exact f,E.push K V c3 aX (aW _ fun j hj=>eR hj)⟩
variable {met:List Bool} {o opn tH:II} {s t v:Nat} {up:RZ}
theorem D3.lt(a:D3 es){p q:Pr}(b:i<j)(hi:es[i]?=Z p)(c:es[j]?=Z q):p.1<q.1\/p.1=q.1/\p.2<q.2:=(Hv p q).1 (a i j p q b hi c)
theorem besM_asc':∀(k:Nat)(es:xLP),es.length=k->aV n es->D3 es->∀u,((Zh n es).getD u []).Pairwise (·<·):=by
 intro k
 induction k with
 |zero=>
  intro es d _ _ u;obtain rfl:=im d;have f:(Zh n []).getD u []=[]:=by grind[Zh]
  rw[f];exact .nil
 |succ k s=>
  intro g d t ha u;obtain⟨es,p,rfl⟩:∃es p,g=es++[p]:=by
   rcases af7 g with rfl|⟨es,p,h⟩
   all_goals grind
  have c:aV n es:=fun q m=>t q (by simp[m]);have mi:D3 es:=fun i j a b o hi B=>ha i j a b o hGr hGr;have s:=s es hGr c mi;have C:=t p Ma;have low:∀u:Nat,∀x∈(Zh n es).getD u [],((u:Int)=p.1->x<p.2)/\((u:Int)=p.2->x<p.1):=by
   intro u x v;obtain⟨w,rfl,_⟩:=Ru c v;have l:=(EW c u w).1 v;have key:∀q∈es,q.1<p.1\/q.1=p.1/\q.2<p.2:=by intro q m;have⟨i,hi⟩:=aax.1 m;have r:=(Ny.1 hi).1;exact ha.lt (i:=i) (j:=es.length) r hGr Ma
   rcases l with h|h<;>have y:=c _ h<;>have h2:=key _ h<;>simp only at y h2<;>constructor<;>intro e<;>omega
  have gd:∀(rows:AM)(x:Int)(i:Nat),(rows.set i (rows.getD i []++[x])).getD u []=if i=u/\i<rows.length then rows.getD u []++[x]else rows.getD u []:=hGr
  rw[NJ];have z:=Xq n es;have y:p.1.toNat<n:=NH;simp only[Xs];rw[gd];simp only[afM,z];have A:=gd (Zh n es) p.2 p.1.toNat;rw[z]at A;rw[A];by_cases D:p.1.toNat=u
  .grind
  .by_cases E:p.2.toNat=u
   .grind
   grind
theorem KW(es:xLP)(a:aV n es)(ha:D3 es)(u:Nat):((Zh n es).getD u []).Pairwise (·<·):=besM_asc' es.length es rfl a ha u
def Full(es:xLP)(o:II)(x:Nat):Prop:=∀y,Jp es x y->y∈o
inductive du (n:Nat) (es:xLP) (from_:Nat):II->RZ->Prop
 |start:du n es from_ [from_] (rP n (-1))
 |step {o:II} {up:RZ} {k v w:Nat}:du n es from_ o up->o[k]?=Z v->Jp es v w->w∉o->(∀y,Jp es v y->y∉o->w<=y)->(∀(j x:Nat),k<j->o[j]?=Z x->Full es o x)->du n es from_ (o++[w]) (up.set w (v:Int))
structure Oc (n:Nat) (es:xLP) (from_:Nat) (o:II) (up:RZ):Prop where
 KP:du n es from_ o up
 full:∀x∈o,Full es o x
theorem du.len(d:du n es s o up):1<=o.length/\up.length=n:=by
 induction d<;>grind
theorem du.same(d:du n es s o up):∀{b:II}{a:RZ},du n es s b a->o.length=b.length->o=b/\up=a:=by
 induction d with
 |start=>intro b a c j;cases c<;>grind
 |@step o up k v w d l ha hw u hf m=>
  intro b a c j;cases c with
  |start=>grind
  |@step x p k1 q w1 d1 e f g r i=>
   obtain⟨rfl,rfl⟩:=m d1 hGr;have t:k=k1:=by
    rcases af8 k k1 with h|h|h
    .exact absurd (hf k1 q h e w1 f) g
    .exact h
    .exact absurd (i k v h l w ha) hw
   grind
theorem du.peel(d:du n es s o up):∀m,1<=m->m<o.length->∃a b,du n es s a b/\a.length=m/\∃x∈a,¬Full es a x:=by
 induction d with
 |start=>grind
 |@step o up k v w d c ha hw e hf g=>
  intro m i h2;by_cases h:m<o.length
  .grind
  .simp at h2;exact⟨o,up,d,NH,v,XJ c,fun f=>hw (f w ha)⟩
theorem Oc.uniq{o d:II}{up c:RZ}(a:Oc n es s o up)(b:Oc n es s d c):o=d/\up=c:=by
 have key:∀{o d:II}{up c:RZ},Oc n es s o up->Oc n es s d c->¬o.length<d.length:=by intro o d up c a b h;have⟨g,e,d2,f,x,i,hf⟩:=b.KP.peel o.length a.KP.len.1 h;obtain⟨rfl,rfl⟩:=a.KP.same d2 f.symm;grind[Oc.full]
 have j:=key a b;have h2:=key b a;exact a.KP.same b.KP NH
structure DS (n:Nat) (es:xLP) (s:Nat) (met:List Bool) (tH:II) (o opn:II) (up:RZ):Prop where
 KP:du n es s o up
 metl:met.length=n
 mm:∀v,v<n->(met[v]?=Z tT↔v∈o)
 trl:tH.length=n
 tr:∀v t,tH[v]?=Z t->t<=((Zh n es).getD v []).length/\∀x∈((Zh n es).getD v []).take t,x.toNat∈o
 sub:opn.Sublist o
 closed:∀v∈o,v∉opn->Full es o v
 lt:∀v∈o,v<n
 nodup:o.Nodup
theorem DS.start{n:Nat}{es:xLP}{s:Nat}(hs:s<n):DS n es s ((rP n fF).set s tT) (rP n 0) [s] [s] (rP n (-1)) where
 KP:=.start
 metl:=by simp
 mm v a:=hGr
 trl:=by simp
 tr v t c:=hGr
 sub:=ahm _
 closed v a b:=absurd a b
 lt v a:=hGr
 nodup:=by simp
theorem DS.len_o(d:DS n es s met tH o opn up):o.length<=n:=by have:o.length<=(rG n).length:=d.nodup.length_le_of_subset (by grind[DS.lt]);grind
def DS.len_opn(d:DS n es s met tH o opn up):opn.length<=n:=ff d.sub.length_le d.len_o
theorem DS.pop(b:aV n es)(d:DS n es s met tH o (opn++[v]) up)(a:tH[v]?=Z ((Zh n es).getD v []).length):DS n es s met tH o opn up:=
 {d with
  sub:=by grind[List.Sublist.trans,DS.sub]
  closed:=fun x c f=>by
   by_cases e:x=v
   .intro y g;have:=(d.tr _ _ a).2 y (by grind[EW]);grind
   grind[DS.closed]}
theorem DS.skip{x:Int}(d:DS n es s met tH o opn up)(f:tH[v]?=Z t)(c:((Zh n es).getD v [])[t]?=Z x)(h:x.toNat∈o):DS n es s met (tH.set v (t+1)) o opn up:=
 {d with
  trl:=by simp[d.trl]
  tr:=fun u q a=>by
   rw[j3]at a;split at a
   .rename_i e;subst e;split at a
    .injection a with a;subst a;have g:=(Ny.1 c).1;refine⟨g,fun y b=>?_⟩;rw[dU,c]at b;simp at b;rcases b with b|b
     .exact(d.tr _ _ f).2 y b
     grind
    .cases a
   .exact d.tr u q a}
theorem DS.last(d:DS n es s met tH o (opn++[v]) up):
  ∃k,o[k]?=Z v/\∀(j x:Nat),k<j->o[j]?=Z x->Full es o x:=by
 obtain⟨a,b,rfl,h,h2⟩:=List.append_sublist_iff.1 d.sub;have g:v∈b:=hGr;have⟨i,hi⟩:=aax.1 g;refine⟨a.length+i,by rw[jf NH];simpa using hi,fun j x l f=>?_⟩;have e:x∈a++b:=XJ f;refine d.closed x e fun c=>?_;rw[jf NH]at f;have nd:=d.nodup;rw[yM,Gw]at c;rcases c with c|rfl
 .grind
 .have:j-a.length=i:=by grind[List.getElem?_inj]
  omega
theorem DS.push(g:aV n es)(ha:D3 es)(d:DS n es s met tH o (opn++[v]) up)(p:tH[v]?=Z t)(j:((Zh n es).getD v [])[t]?=Z (w:Int))(x:w∉o):
  DS n es s (met.set w tT) (tH.set v (t+1)) (o++[w]) (opn++[v]++[w]) (up.set w (v:Int)):=by
 have⟨k,z,hf⟩:=d.last;have l:(w:Int)∈(Zh n es).getD v []:=XJ j;have c:=(EW g v w).1 l;have m:=(c.lt g).2;have r:=KW es g ha v;refine⟨.step d.KP z c x (fun y a A=>?_) hf,by simp[d.metl],fun u b=>?_,by simp[d.trl],fun u q f=>?_,(by grind[DS.sub]),fun u b B=>?_,fun u b=>?_,?_⟩
 .obtain⟨i,hi⟩:=aax.1 ((EW g v y).2 a);rcases af8 i t with h|h|h
  .have:=(d.tr v t p).2 (y:Int) (XJ (i:=i) hGr);grind
  .grind
  grind[pairwise_iff_getElem]
 .grind[DS.metl,DS.mm]
 .rw[j3]at f;split at f
  .rename_i e;subst e;split at f
   .injection f with f;subst f;refine⟨(Ny.1 j).1,fun y a=>?_⟩;rw[dU,j]at a;simp at a;rw[yM];rcases a with a|a
    .exact .inl ((d.tr _ _ p).2 y a)
    grind
   .cases f
  .obtain⟨C,h2⟩:=d.tr u q f;grind
 .rw[yM,Gw]at b;rcases b with b|rfl
  .exact fun y a=>Bx _ (d.closed u b (by grind[mem_append_left]) y a)
  grind
 .rw[yM,Gw]at b;rcases b with b|rfl
  .exact d.lt u b
  .exact m
 grind[DS.nodup]
theorem DS.fin(d:DS n es s met tH o [] up):Oc n es s o up:=⟨d.KP,(by grind[DS.closed])⟩
end
end Go.Fw
