/- A text. -/
import Derived.Test.YtkccdnmaaelbiaaGreatFwDraw
set_option linter.all false
set_option maxRecDepth 99999
set_option maxHeartbeats 9999999
namespace Go.Fw
def tA:List Nat→DT→DT
  |[],t=>t
  |i::l,t=>.fl i (tA l t)
def JQ (i:Nat) (p:List Nat) (t:DT):DT:=.ch i p t .no
end Go.Fw
namespace Go.Fw
variable {P : Program} {W0 : LA} {N : Nat} {ops : Array Oper} {fr : lC} {h : AHeap}
def onO {α:Type} (x:Option α) (f:α->Prop):Prop:=
 match x with
 |some a=>f a
 |none=>False
def Vm (b:Bool) (p q:Prop):Prop:=
 match b with
 |true=>p
 |false=>q
def yF (p q:Prop):Vm true p q=p:=rfl
theorem G9 {α:Type} {x:Option α} {f:α->Prop}:onO x f↔∃a,x=some a/\f a:=by
 cases x<;>simp[onO]
def cD (P:Program) (W0:LA) (N:Nat) (o:Oper) (fr:lC) (h:AHeap) (K:lC->AHeap->Prop):Prop:=
 ∃g args fn c,calleeOf fr o=some (g,args)/\Good P g fn c/\AC P W0 g args h fun v h'=>onO (putDst N fr o.dst v) fun fr'=>K fr' h'
def IH (P:Program) (W0:LA) (N:Nat) (o:Oper) (fr:lC) (h:AHeap) (K:lC->AHeap->Prop):Prop:=
 cD P W0 N o fr h K\/∃d args,yieldOf fr o=some (d,args)/\AY P W0 d args h fun v h'=>onO (putDst N fr o.dst v) fun fr'=>K fr' h'
def ROps (P:Program) (W0:LA) (N:Nat) (ops:Array Oper) (Q:lC->AHeap->Prop):List Oper->lC->AHeap->Prop
 |[],fr,h=>Q fr h
 |o::r,fr,h=>
  onO (wantA ops fr o) fun w=>
   Vm w
    (Vm (Zm o) (IH P W0 N o fr h (ROps P W0 N ops Q r))
     (onO (stepOp P fr h o) fun p=>onO (putDst N fr o.dst p.1) fun fr'=>ROps P W0 N ops Q r fr' p.2))
    (onO (putDst N fr o.dst Yx) fun fr'=>ROps P W0 N ops Q r fr' h)
def ROps.sound {Q:lC->AHeap->Prop}:∀{l:List Oper} {fr:lC} {h:AHeap},ROps P W0 N ops Q l fr h->ML P W0 N ops l fr h Q
 |[],fr,h,q=>.nil q
 |o::r,fr,h,q=>by
  simp only[ROps]at q;obtain⟨w,hw,q⟩:=G9.1 q;cases w with
  |false=>
   obtain⟨fr',d,q⟩:=G9.1 q;exact .skip hw d (ROps.sound q)
  |true=>
   simp only[yF]at q;cases k:Zm o with
   |true=>
    rw[k]at q;rcases q with⟨g,args,fn,c,f,hg,ha⟩|⟨n,args,m,ha⟩
    .exact .call hw f hg (ha.mono fun v h' e=>let⟨fr',d,e⟩:=G9.1 e;⟨fr',d,ROps.sound e⟩)
    .exact .yield hw m (ha.mono fun v h' e=>let⟨fr',d,e⟩:=G9.1 e;⟨fr',d,ROps.sound e⟩)
   |false=>
    rw[k]at q;obtain⟨⟨v,h'⟩,hs,q⟩:=G9.1 q;obtain⟨fr',d,q⟩:=G9.1 q;exact .step hw hs d (ROps.sound q)
def WF (h:AHeap):Prop:=∀i,h.own i≠none->i<h.next
def AC.wf {f:FuncId} {args:List Value} {R:Value->AHeap->Prop} (e:WF h->AC P W0 f args h R):AC P W0 f args h R:=
 fun ex m w d r g=>e r.lt ex m w d r g
def ud.wf {c:Code} {Q:Exit->lC->AHeap->Prop} (d:WF h->ud P W0 N c fr h Q):ud P W0 N c fr h Q:=
 fun e nn m a w s K f=>d s.rel.lt e nn m a w s K f
def AC.post {f:FuncId} {args:List Value} {R:Value->AHeap->Prop} (e:AC P W0 f args h R):AC P W0 f args h fun v h'=>WF h'/\R v h':=
 fun ex m w d r g=>(e ex m w d r g).mono fun _ _ ⟨v,v',k,h',l,h2,h3,n,p,q⟩=>⟨v,v',k,h',l,h2,h3,n,p,h2.lt,q⟩
def rZ {o:Oper} {g:FuncId} {args:List Value} {fn:Func} {c:Code} {R:Value->AHeap->Prop} {K:lC->AHeap->Prop} (d:calleeOf fr o=some (g,args)) (hg:Good P g fn c) (ha:AC P W0 g args h R)
  (e:∀v h',WF h'->R v h'->onO (putDst N fr o.dst v) fun fr'=>K fr' h'):cD P W0 N o fr h K:=
 ⟨g,args,fn,c,d,hg,ha.post.mono fun v h' ⟨hw,f⟩=>e v h' hw f⟩
def vseq (y:lC->AHeap->Prop) (Q:Exit->lC->AHeap->Prop):Exit->lC->AHeap->Prop
 |.normal,fr,h=>y fr h
 |e,fr,h=>Q e fr h
def onV (x:Option Value) (p q:Prop):Prop:=
 match x with
 |some (.bool b)=>Vm b p q
 |_=>False
def VC (P:Program) (W0:LA) (N:Nat):Code->(Exit->lC->AHeap->Prop)->lC->AHeap->Prop
 |.skip,Q,fr,h=>Q .normal fr h
 |.ret,Q,fr,h=>Q .ret fr h
 |.exit i,Q,fr,h=>Q (.exit i) fr h
 |.seq a b,Q,fr,h=>VC P W0 N a (vseq (VC P W0 N b Q) Q) fr h
 |.block i a,Q,fr,h=>VC P W0 N a (blockQ i Q) fr h
 |.region _ ops false,Q,fr,h=>ROps P W0 N ops (Q .normal) ops.toList fr h
 |.cond c a b,Q,fr,h=>onV (evalO fr c) (VC P W0 N a Q fr h) (VC P W0 N b Q fr h)
 |c,Q,fr,h=>ud P W0 N c fr h Q
def VC.sound:∀{c:Code} {Q:Exit->lC->AHeap->Prop} {fr:lC} {h:AHeap},VC P W0 N c Q fr h->ud P W0 N c fr h Q:=by
 intro c
 induction c with
 |skip=>intro Q fr h q;exact .skip q
 |ret=>intro Q fr h q;exact .ret q
 |exit i=>intro Q fr h q;exact .exit q
 |seq a b f g=>
  intro Q fr h q;refine .seq ((f q).mono fun e fr h k=>?_);cases e with
  |normal=>exact g k
  |_=>exact k
 |block i a f=>intro Q fr h q;exact .block (f q)
 |region i ops d=>
  intro Q fr h q;cases d with
  |false=>
   obtain⟨l⟩:=ops;exact .region (ROps.sound q)
  |true=>exact q
 |cond c a b f g=>
  intro Q fr h q;simp only[VC]at q;unfold onV at q;split at q
  .rename_i t m
   refine .cond m (fun e=>?_) (fun e=>?_)
   .subst e;exact f q
   .subst e;exact g q
  .exact q.elim
 |loop c=>intro Q fr h q;exact q
 |rangeFunc=>intro Q fr h q;exact q
 |scope c=>intro Q fr h q;exact q
 |label l=>intro Q fr h q;exact q
 |goto l=>intro Q fr h q;exact q
 |refuse w=>intro Q fr h q;exact q
inductive Kt where
 |seq (c:Code)
 |blk (i:Nat)
def KE (P:Program) (W0:LA) (N:Nat) (R:Exit->lC->AHeap->Prop):List Kt->Exit->lC->AHeap->Prop
 |[]=>R
 |.seq c::ks=>vseq (VC P W0 N c (KE P W0 N R ks)) (KE P W0 N R ks)
 |.blk i::ks=>blockQ i (KE P W0 N R ks)
def VK (P:Program) (W0:LA) (N:Nat) (c:Code) (ks:List Kt) (R:Exit->lC->AHeap->Prop) (fr:lC) (h:AHeap):Prop:=VC P W0 N c (KE P W0 N R ks) fr h
def KN (P:Program) (W0:LA) (N:Nat) (ks:List Kt) (R:Exit->lC->AHeap->Prop) (fr:lC) (h:AHeap):Prop:=KE P W0 N R ks .normal fr h
def KX (P:Program) (W0:LA) (N:Nat) (e:Exit) (ks:List Kt) (R:Exit->lC->AHeap->Prop) (fr:lC) (h:AHeap):Prop:=KE P W0 N R ks e fr h
def KO (P:Program) (W0:LA) (N:Nat) (ops:Array Oper) (ks:List Kt) (R:Exit->lC->AHeap->Prop) (l:List Oper) (fr:lC) (h:AHeap):Prop:=ROps P W0 N ops (KE P W0 N R ks .normal) l fr h
def rS (P:Program) (W0:LA) (N:Nat) (ops:Array Oper) (ks:List Kt) (R:Exit->lC->AHeap->Prop) (o:Oper) (l:List Oper) (fr:lC) (h:AHeap) (w:Option Bool):Prop:=
 onO w fun w=>
   Vm w
    (Vm (Zm o) (IH P W0 N o fr h (ROps P W0 N ops (KE P W0 N R ks .normal) l))
     (onO (stepOp P fr h o) fun p=>onO (putDst N fr o.dst p.1) fun fr'=>ROps P W0 N ops (KE P W0 N R ks .normal) l fr' p.2))
    (onO (putDst N fr o.dst Yx) fun fr'=>ROps P W0 N ops (KE P W0 N R ks .normal) l fr' h)
def lU (P:Program) (W0:LA) (N:Nat) (ops:Array Oper) (ks:List Kt) (R:Exit->lC->AHeap->Prop) (o:Oper) (l:List Oper) (fr:lC) (h:AHeap) (b:Bool):Prop:=
  Vm b (IH P W0 N o fr h (ROps P W0 N ops (KE P W0 N R ks .normal) l))
          (onO (stepOp P fr h o) fun p=>onO (putDst N fr o.dst p.1) fun fr'=>ROps P W0 N ops (KE P W0 N R ks .normal) l fr' p.2)
def MQ (P:Program) (W0:LA) (N:Nat) (ops:Array Oper) (ks:List Kt) (R:Exit->lC->AHeap->Prop) (o:Oper) (l:List Oper) (fr:lC) (x:Option (Value×AHeap)):Prop:=
 onO x fun p=>onO (putDst N fr o.dst p.1) fun fr'=>ROps P W0 N ops (KE P W0 N R ks .normal) l fr' p.2
def Kp (P:Program) (W0:LA) (N:Nat) (ops:Array Oper) (ks:List Kt) (R:Exit->lC->AHeap->Prop) (l:List Oper) (h:AHeap) (x:Option lC):Prop:=
 onO x fun fr'=>ROps P W0 N ops (KE P W0 N R ks .normal) l fr' h
def TC (P:Program) (W0:LA) (N:Nat) (ops:Array Oper) (ks:List Kt) (R:Exit->lC->AHeap->Prop) (o:Oper) (l:List Oper) (fr:lC) (h:AHeap):Prop:=
 IH P W0 N o fr h (ROps P W0 N ops (KE P W0 N R ks .normal) l)
def Kl (P:Program) (W0:LA) (N:Nat) (a b:Code) (ks:List Kt) (R:Exit->lC->AHeap->Prop) (fr:lC) (h:AHeap) (x:Option Value):Prop:=onV x (VK P W0 N a ks R fr h) (VK P W0 N b ks R fr h)
def aab (P:Program) (W0:LA) (N:Nat) (c:Code) (ks:List Kt) (R:Exit->lC->AHeap->Prop) (fr:lC) (h:AHeap):Prop:=ud P W0 N (.loop c) fr h (KE P W0 N R ks)
def ZJ (P:Program) (W0:LA) (N:Nat) (i:Nat) (ops:Array Oper) (ks:List Kt) (R:Exit->lC->AHeap->Prop) (fr:lC) (h:AHeap):Prop:=ud P W0 N (.region i ops true) fr h (KE P W0 N R ks)
theorem lW (a b:Int):(a==b)=decide (a=b):=pw
def fst_mk {α β:Type} (a:α) (b:β):(a,b).1=a:=id rfl
def snd_mk {α β:Type} (a:α) (b:β):(a,b).2=b:=id rfl
section eqs
variable {ks : List Kt} {R : Exit → lC → AHeap → Prop} {a b : Code} {o : Oper} {i j : Nat} {c : Operand}
def Mc:VK P W0 N .skip ks R fr h=KN P W0 N ks R fr h:=id rfl
def vJ:VK P W0 N .ret ks R fr h=KX P W0 N .ret ks R fr h:=id rfl
def aeN:VK P W0 N (.exit i) ks R fr h=KX P W0 N (.exit i) ks R fr h:=id rfl
def RI:VK P W0 N (.seq a b) ks R fr h=VK P W0 N a (.seq b::ks) R fr h:=id rfl
def SC:VK P W0 N (.block i a) ks R fr h=VK P W0 N a (.blk i::ks) R fr h:=id rfl
def qS {l:List Oper}:VK P W0 N (.region i (List.toArray l) false) ks R fr h=KO P W0 N (List.toArray l) ks R l fr h:=id rfl
def aeO:VK P W0 N (.region i ops true) ks R fr h=ZJ P W0 N i ops ks R fr h:=id rfl
def L5:VK P W0 N (.cond c a b) ks R fr h=Kl P W0 N a b ks R fr h (evalO fr c):=id rfl
def Fe:Kl P W0 N a b ks R fr h (some (.bool true))=VK P W0 N a ks R fr h:=id rfl
def Wi:Kl P W0 N a b ks R fr h (some (.bool false))=VK P W0 N b ks R fr h:=id rfl
def T4:VK P W0 N (.loop a) ks R fr h=aab P W0 N a ks R fr h:=id rfl
def bY:KN P W0 N [] R fr h=R .normal fr h:=id rfl
def KN_seq:KN P W0 N (.seq a::ks) R fr h=VK P W0 N a ks R fr h:=id rfl
def EF:KN P W0 N (.blk i::ks) R fr h=KN P W0 N ks R fr h:=id rfl
def sn:KX P W0 N .ret [] R fr h=R .ret fr h:=id rfl
def Vy:KX P W0 N .ret (.seq a::ks) R fr h=KX P W0 N .ret ks R fr h:=id rfl
def Y6:KX P W0 N .ret (.blk i::ks) R fr h=KX P W0 N .ret ks R fr h:=id rfl
def Kw:KX P W0 N (.exit j) [] R fr h=R (.exit j) fr h:=id rfl
def zz:KX P W0 N (.exit j) (.seq a::ks) R fr h=KX P W0 N (.exit j) ks R fr h:=id rfl
def ach:KX P W0 N (.exit j) (.blk i::ks) R fr h=if j=i then KN P W0 N ks R fr h else KX P W0 N (.exit j) ks R fr h:=id rfl
def J1:KE P W0 N R ks .normal fr h=KN P W0 N ks R fr h:=id rfl
def Ys:KE P W0 N R ks .ret fr h=KX P W0 N .ret ks R fr h:=id rfl
def mK:KE P W0 N R ks (.exit i) fr h=KX P W0 N (.exit i) ks R fr h:=id rfl
def Ue:KO P W0 N ops ks R [] fr h=KN P W0 N ks R fr h:=id rfl
def cj {l:List Oper}:KO P W0 N ops ks R (o::l) fr h=rS P W0 N ops ks R o l fr h (wantA ops fr o):=id rfl
def bE {l l':List Oper}:KO P W0 N ops ks R (List.append (o::l) l') fr h=KO P W0 N ops ks R (o::List.append l l') fr h:=id rfl
def Q2 {l:List Oper}:KO P W0 N ops ks R (List.append [] l) fr h=KO P W0 N ops ks R l fr h:=id rfl
def HA {l:List Oper}:rS P W0 N ops ks R o l fr h (some true)=lU P W0 N ops ks R o l fr h (Zm o):=id rfl
def RW {l:List Oper}:rS P W0 N ops ks R o l fr h (some false)=Kp P W0 N ops ks R l h (putDst N fr o.dst Yx):=id rfl
def Px {l:List Oper}:lU P W0 N ops ks R o l fr h true=TC P W0 N ops ks R o l fr h:=id rfl
def re {l:List Oper}:lU P W0 N ops ks R o l fr h false=MQ P W0 N ops ks R o l fr (stepOp P fr h o):=id rfl
def OD {l:List Oper} {v:Value} {h':AHeap}:MQ P W0 N ops ks R o l fr (some (v,h'))=Kp P W0 N ops ks R l h' (putDst N fr o.dst v):=id rfl
def EV {l:List Oper}:Kp P W0 N ops ks R l h (some fr)=KO P W0 N ops ks R l fr h:=id rfl
end eqs
def VK.sound {c:Code} {R:Exit->lC->AHeap->Prop} (q:VK P W0 N c [] R fr h):ud P W0 N c fr h R:=VC.sound q
def Kl.intro {a b:Code} {t:Bool} {ks:List Kt} {R:Exit->lC->AHeap->Prop} (d:t=true->VK P W0 N a ks R fr h) (hf:t=false->VK P W0 N b ks R fr h):Kl P W0 N a b ks R fr h (some (.bool t)):=by
 cases t
 .exact hf rfl
 .exact d rfl
def TC.intro {ks:List Kt} {R:Exit->lC->AHeap->Prop} {o:Oper} {l:List Oper} {g:FuncId} {args:List Value} {fn:Func} {c:Code} {Rc:Value->AHeap->Prop} (d:calleeOf fr o=some (g,args)) (hg:Good P g fn c) (ha:AC P W0 g args h Rc)
  (e:∀v h',WF h'->Rc v h'->Kp P W0 N ops ks R l h' (putDst N fr o.dst v)):TC P W0 N ops ks R o l fr h:=.inl (rZ d hg ha e)
def TC.yield {ks:List Kt} {R:Exit->lC->AHeap->Prop} {o:Oper} {l:List Oper} {d:Nat} {args:List Value} {Rc:Value->AHeap->Prop} (e:yieldOf fr o=some (d,args)) (ha:AY P W0 d args h Rc)
  (f:∀v h',WF h'->Rc v h'->Kp P W0 N ops ks R l h' (putDst N fr o.dst v)):TC P W0 N ops ks R o l fr h:=.inr ⟨d,args,e,ha.post.mono fun v h' ⟨hw,g⟩=>f v h' hw g⟩
def UH (R:Value->AHeap->Prop):Exit->lC->AHeap->Prop:=fun e _ h=>e=.normal/\R (.bool true) h
def aB {R:Value->AHeap->Prop}:UH R .normal fr h=R (.bool true) h:=by simp[UH]
theorem VK.round {ps:Array Tmp} {assign body:Code} {args:List Value} {d:AHeap} {R:Value->AHeap->Prop} (q:VK P W0 N (.seq assign body) [] (UH R) (putPs ps.toList args fr) d):Rnd P W0 N ps fr assign body args d R:=by
 have g:VC P W0 N assign (vseq (VC P W0 N body (KE P W0 N (UH R) [])) (KE P W0 N (UH R) [])) (putPs ps.toList args fr) d:=q;refine(VC.sound g).mono fun e k h2 f=>?_;cases e with
 |normal=>exact⟨rfl,VC.sound f⟩
 |_=>exact absurd f.1 Ma
def VK.rangeFunc {ks:List Kt} {R:Exit->lC->AHeap->Prop} {g:Operand} {ps:Array Tmp} {assign body:Code} {gf:FuncId} {fn:Func} {c:Code} {first cap:Array Value}
  (hg:evalO fr g=some (.func (.func gf) first cap)) (d:Good P gf fn c) (l:ps.toList.all (fun p=>Nat.blt p N)=true)
  (m:∀(f:LA) (k:Nat),(∀(args:List Value) (e:AHeap) (R:Value->AHeap->Prop),args.length=ps.size->h.next<=e.next->VK P W0 N (.seq assign body) [] (UH R) (putPs ps.toList args fr) e->AY P f k args e R)->
   AC P f gf (first.toList++[Yg k]++cap.toList) h fun _ h'=>WF h'->KN P W0 N ks R fr h'):VK P W0 N (.rangeFunc g ps assign body) ks R fr h:=
 ud.rangeFunc hg d l fun f k n=>(m f k fun args e R' r s q=>n args e R' r s (VK.round q)).post.mono fun _ _ ⟨hw,u⟩=>u hw
def G8 (P:Program) (rs:List ResultVar) (R:Value->AHeap->Prop) (fr:lC) (h:AHeap):Prop:=
 match aresults P fr h rs with
 |some v=>R v h
 |none=>False
def retQ (P:Program) (rs:List ResultVar) (R:Value->AHeap->Prop):Exit->lC->AHeap->Prop
 |.normal,fr,h=>G8 P rs R fr h
 |.ret,fr,h=>G8 P rs R fr h
 |_,_,_=>False
theorem AC.vc {f:FuncId} {args:List Value} {fn:Func} {c:Code} {R:Value->AHeap->Prop} (hg:Good P f fn c) {n:Nat} (m:fn.ntmps=n) {rs:Array ResultVar} (d:fn.results=rs) (hlen:args.length<=n)
  (g:WF h->VK P W0 n c [] (retQ P rs.toList R) (me args) h):AC P W0 f args h R:=by
 subst m;subst d;refine AC.wf fun k=>?_;replace g:=g k;refine .body hg hlen ((VK.sound g).mono fun e fr' h' l=>?_);have key:∀fr h,G8 P fn.results.toList R fr h->∃v,aresults P fr h fn.results.toList=some v/\R v h:=by grind [G8]
 cases e with
 |normal=>exact⟨.inl rfl,key _ _ l⟩
 |ret=>exact⟨.inr rfl,key _ _ l⟩
 |_=>exact l.elim
def mkF:List (Nat×Value)->lC
 |[]=>.leaf
 |(t,v)::r=>(mkF r).set t v
def Fj (fr:lC):List (Nat×Value)->Prop
 |[]=>True
 |(t,v)::r=>fr.get t=some v/\Fj fr r
theorem Sub.mkF {fr:lC}:∀{l:List (Nat×Value)},Fj fr l->Sub (mkF l) fr
 |[],_,k,v,h=>by grind [mkF,Trie.get]
 |(t,u)::r,ha,k,v,h=>by
  simp only[Fw.mkF,Trie.YO]at h;by_cases d:k=t
  .subst d;rw[if_pos rfl]at h;injection h with h;subst h;exact ha.1
  .rw[if_neg d]at h;exact Sub.mkF ha.2 k v h
def tn {I:Nat->lC->AHeap->Prop} {k:Nat} {Q:Exit->lC->AHeap->Prop} (d:Nat) (l:List (Nat×Value)) (e:d<k) (f:Fj fr l) (hi:I d (mkF l) h):adP I k Q .normal fr h:=
 ⟨d,e,_,Sub.mkF f,hi⟩
def NA {I:Nat->lC->AHeap->Prop} {k:Nat} {Q:Exit->lC->AHeap->Prop}:adP I k Q .ret fr h=Q .ret fr h:=id rfl
def xz {I:Nat->lC->AHeap->Prop} {k i:Nat} {Q:Exit->lC->AHeap->Prop}:adP I k Q (.exit i) fr h=Q (.exit i) fr h:=id rfl
def aab.intro {c:Code} {ks:List Kt} {R:Exit->lC->AHeap->Prop} (I:Nat->lC->AHeap->Prop) (k0:Nat) (l:List (Nat×Value)) (hs:Fj fr l) (d:I k0 (mkF l) h)
  (e:∀k fr h,WF h->I k fr h->VK P W0 N c [] (adP I k (KE P W0 N R ks)) fr h):aab P W0 N c ks R fr h:=
 .loop I k0 _ (Sub.mkF hs) d fun k fr h hi=>ud.wf fun hw=>VC.sound (e k fr h hw hi)
def RDraw (P:Program) (W0:LA) (N:Nat) (ops:Array Oper) (Q:lC->AHeap->Prop):DT->II->lC->AHeap->Prop
 |.done,_,fr,h=>Q fr h
 |.no,_,_,_=>True
 |.fl i t,aad,fr,h=>
  onO ops[i]? fun o=>onO (wantA ops fr o) fun w=>
   Vm w (onO (stepOp P fr h o) fun p=>p.2=h/\onO (putDst N fr o.dst p.1) fun fr'=>RDraw P W0 N ops Q t (i::aad) fr' h)
    (onO (putDst N fr o.dst Yx) fun fr'=>RDraw P W0 N ops Q t (i::aad) fr' h)
 |.ch i pre t other,aad,fr,h=>
  (onO ops[i]? fun o=>onO (wantA ops fr o) fun w=>
   Vm w
    (Vm (Zm o) (cD P W0 N o fr h fun fr' h'=>HoldsAll P ops fr' h' (aad.filter fun p=>!pre.contains p)/\RDraw P W0 N ops Q t (aad.filter fun p=>!pre.contains p) fr' h')
     (onO (stepOp P fr h o) fun p=>onO (putDst N fr o.dst p.1) fun fr'=>HoldsAll P ops fr' p.2 (aad.filter fun p=>!pre.contains p)/\RDraw P W0 N ops Q t (aad.filter fun p=>!pre.contains p) fr' p.2))
    (onO (putDst N fr o.dst Yx) fun fr'=>RDraw P W0 N ops Q t (aad.filter fun p=>!pre.contains p) fr' h))/\
  RDraw P W0 N ops Q other aad fr h
theorem RDraw.sound {Q:lC->AHeap->Prop}:∀{t:DT} {aad:II} {fr:lC} {h:AHeap},RDraw P W0 N ops Q t aad fr h->DW P W0 N ops Q t aad fr h:=by
 intro t
 induction t with
 |done=>intro aad fr h q;exact q
 |no=>intro aad fr h _;exact trivial
 |fl i t p=>
  intro aad fr h q;simp only[RDraw]at q;obtain⟨o,d,q⟩:=G9.1 q;obtain⟨w,hw,q⟩:=G9.1 q;simp only[DW,d,hw];cases w with
  |false=>
   obtain⟨fr',k,q⟩:=G9.1 q
   grind
  |true=>
   obtain⟨⟨v,h'⟩,hs,rfl,q⟩:=G9.1 q
   grind [G9]
 |ch i pre t other l e=>
  intro aad fr h q;simp only[RDraw]at q;obtain⟨q,m⟩:=q;simp only[DW];refine⟨?_,e m⟩;obtain⟨o,d,q⟩:=G9.1 q;obtain⟨w,hw,q⟩:=G9.1 q;simp only[d,hw];cases w with
  |false=>
   obtain⟨fr',k,q⟩:=G9.1 q
   grind
  |true=>
   simp only[yF]at q;cases f:Zm o with
   |true=>
    rw[f]at q;obtain⟨g,args,fn,c,n,hg,ha⟩:=q
    grind [AC.mono,G9]
   |false=>
    rw[f]at q;obtain⟨⟨v,h'⟩,hs,q⟩:=G9.1 q
    grind [G9]
def KD (P:Program) (W0:LA) (N:Nat) (ops:Array Oper) (ks:List Kt) (R:Exit->lC->AHeap->Prop) (t:DT) (aad:II) (fr:lC) (h:AHeap):Prop:=RDraw P W0 N ops (KE P W0 N R ks .normal) t aad fr h
def KF1 (P:Program) (W0:LA) (N:Nat) (ops:Array Oper) (ks:List Kt) (R:Exit->lC->AHeap->Prop) (t:DT) (aad:II) (fr:lC) (h:AHeap) (x:Option Oper):Prop:=
 onO x fun o=>onO (wantA ops fr o) fun w=>
   Vm w (onO (stepOp P fr h o) fun p=>p.2=h/\onO (putDst N fr o.dst p.1) fun fr'=>KD P W0 N ops ks R t aad fr' h)
    (onO (putDst N fr o.dst Yx) fun fr'=>KD P W0 N ops ks R t aad fr' h)
def KF2 (P:Program) (W0:LA) (N:Nat) (ops:Array Oper) (ks:List Kt) (R:Exit->lC->AHeap->Prop) (t:DT) (aad:II) (fr:lC) (h:AHeap) (o:Oper) (w:Option Bool):Prop:=
  onO w fun w=>Vm w (onO (stepOp P fr h o) fun p=>p.2=h/\onO (putDst N fr o.dst p.1) fun fr'=>KD P W0 N ops ks R t aad fr' h)
        (onO (putDst N fr o.dst Yx) fun fr'=>KD P W0 N ops ks R t aad fr' h)
def KF3 (P:Program) (W0:LA) (N:Nat) (ops:Array Oper) (ks:List Kt) (R:Exit->lC->AHeap->Prop) (t:DT) (aad:II) (fr:lC) (h:AHeap) (o:Oper) (x:Option (Value×AHeap)):Prop:=
 onO x fun p=>p.2=h/\onO (putDst N fr o.dst p.1) fun fr'=>KD P W0 N ops ks R t aad fr' h
def KF4 (P:Program) (W0:LA) (N:Nat) (ops:Array Oper) (ks:List Kt) (R:Exit->lC->AHeap->Prop) (t:DT) (aad:II) (h:AHeap) (x:Option lC):Prop:=
 onO x fun fr'=>KD P W0 N ops ks R t aad fr' h
def KG1 (P:Program) (W0:LA) (N:Nat) (ops:Array Oper) (ks:List Kt) (R:Exit->lC->AHeap->Prop) (t:DT) (aad:II) (fr:lC) (h:AHeap) (x:Option Oper):Prop:=
 onO x fun o=>onO (wantA ops fr o) fun w=>
   Vm w
    (Vm (Zm o) (cD P W0 N o fr h fun fr' h'=>HoldsAll P ops fr' h' aad/\KD P W0 N ops ks R t aad fr' h')
     (onO (stepOp P fr h o) fun p=>onO (putDst N fr o.dst p.1) fun fr'=>HoldsAll P ops fr' p.2 aad/\KD P W0 N ops ks R t aad fr' p.2))
    (onO (putDst N fr o.dst Yx) fun fr'=>KD P W0 N ops ks R t aad fr' h)
def KG2 (P:Program) (W0:LA) (N:Nat) (ops:Array Oper) (ks:List Kt) (R:Exit->lC->AHeap->Prop) (t:DT) (aad:II) (fr:lC) (h:AHeap) (o:Oper) (w:Option Bool):Prop:=
  onO w fun w=>Vm w
        (Vm (Zm o) (cD P W0 N o fr h fun fr' h'=>HoldsAll P ops fr' h' aad/\KD P W0 N ops ks R t aad fr' h')
          (onO (stepOp P fr h o) fun p=>onO (putDst N fr o.dst p.1) fun fr'=>HoldsAll P ops fr' p.2 aad/\KD P W0 N ops ks R t aad fr' p.2))
        (onO (putDst N fr o.dst Yx) fun fr'=>KD P W0 N ops ks R t aad fr' h)
def KG3 (P:Program) (W0:LA) (N:Nat) (ops:Array Oper) (ks:List Kt) (R:Exit->lC->AHeap->Prop) (t:DT) (aad:II) (fr:lC) (h:AHeap) (o:Oper) (b:Bool):Prop:=
  Vm b (cD P W0 N o fr h fun fr' h'=>HoldsAll P ops fr' h' aad/\KD P W0 N ops ks R t aad fr' h')
          (onO (stepOp P fr h o) fun p=>onO (putDst N fr o.dst p.1) fun fr'=>HoldsAll P ops fr' p.2 aad/\KD P W0 N ops ks R t aad fr' p.2)
def VA (P:Program) (W0:LA) (N:Nat) (ops:Array Oper) (ks:List Kt) (R:Exit->lC->AHeap->Prop) (t:DT) (aad:II) (fr:lC) (h:AHeap) (o:Oper):Prop:=
 cD P W0 N o fr h fun fr' h'=>HoldsAll P ops fr' h' aad/\KD P W0 N ops ks R t aad fr' h'
def KG4 (P:Program) (W0:LA) (N:Nat) (ops:Array Oper) (ks:List Kt) (R:Exit->lC->AHeap->Prop) (t:DT) (aad:II) (fr:lC) (o:Oper) (x:Option (Value×AHeap)):Prop:=
 onO x fun p=>onO (putDst N fr o.dst p.1) fun fr'=>HoldsAll P ops fr' p.2 aad/\KD P W0 N ops ks R t aad fr' p.2
def KG5 (P:Program) (W0:LA) (N:Nat) (ops:Array Oper) (ks:List Kt) (R:Exit->lC->AHeap->Prop) (t:DT) (aad:II) (h:AHeap) (x:Option lC):Prop:=
 onO x fun fr'=>HoldsAll P ops fr' h aad/\KD P W0 N ops ks R t aad fr' h
section eqs
variable {ks : List Kt} {R : Exit → lC → AHeap → Prop} {o : Oper} {i : Nat} {t other : DT} {aad pre : List Nat} {v : Value} {h' : AHeap}
def KD_done:KD P W0 N ops ks R .done aad fr h=KN P W0 N ks R fr h:=id rfl
def KD_no:KD P W0 N ops ks R .no aad fr h=True:=id rfl
def KD_fl:KD P W0 N ops ks R (.fl i t) aad fr h=KF1 P W0 N ops ks R t (i::aad) fr h ops[i]?:=id rfl
def uS:KF1 P W0 N ops ks R t aad fr h (some o)=KF2 P W0 N ops ks R t aad fr h o (wantA ops fr o):=id rfl
def Ti:KF2 P W0 N ops ks R t aad fr h o (some true)=KF3 P W0 N ops ks R t aad fr h o (stepOp P fr h o):=id rfl
def T7:KF2 P W0 N ops ks R t aad fr h o (some false)=KF4 P W0 N ops ks R t aad h (putDst N fr o.dst Yx):=id rfl
def Kq:KF3 P W0 N ops ks R t aad fr h o (some (v,h))=KF4 P W0 N ops ks R t aad h (putDst N fr o.dst v):=by simp[KF3,KF4,onO]
def iG:KF4 P W0 N ops ks R t aad h (some fr)=KD P W0 N ops ks R t aad fr h:=id rfl
def KD_ch:KD P W0 N ops ks R (.ch i pre t other) aad fr h=(KG1 P W0 N ops ks R t (aad.filter fun p=>!pre.contains p) fr h ops[i]?/\KD P W0 N ops ks R other aad fr h):=id rfl
def Ds:KG1 P W0 N ops ks R t aad fr h (some o)=KG2 P W0 N ops ks R t aad fr h o (wantA ops fr o):=id rfl
def UE:KG2 P W0 N ops ks R t aad fr h o (some true)=KG3 P W0 N ops ks R t aad fr h o (Zm o):=id rfl
def YY:KG2 P W0 N ops ks R t aad fr h o (some false)=KF4 P W0 N ops ks R t aad h (putDst N fr o.dst Yx):=id rfl
def CD:KG3 P W0 N ops ks R t aad fr h o true=VA P W0 N ops ks R t aad fr h o:=id rfl
def fw:KG3 P W0 N ops ks R t aad fr h o false=KG4 P W0 N ops ks R t aad fr o (stepOp P fr h o):=id rfl
def uW:KG4 P W0 N ops ks R t aad fr o (some (v,h'))=KG5 P W0 N ops ks R t aad h' (putDst N fr o.dst v):=id rfl
def DV:KG5 P W0 N ops ks R t aad h (some fr)=(HoldsAll P ops fr h aad/\KD P W0 N ops ks R t aad fr h):=id rfl
end eqs
def HD (fr:lC) (d:Option Tmp) (v:Value):Prop:=∀k,d=some k->fr.get k=some v
def H3 (fr:lC) (h:AHeap) (d:Option Tmp) (x:Option (Value×AHeap)):Prop:=∃v,x=some (v,h)/\HD fr d v
def H2 (P:Program) (fr:lC) (h:AHeap) (o:Oper) (w:Option Bool):Prop:=
 match w with
 |some true=>H3 fr h o.dst (stepOp P fr h o)
 |some false=>HD fr o.dst Yx
 |none=>False
def H1 (P:Program) (ops:Array Oper) (fr:lC) (h:AHeap) (x:Option Oper):Prop:=
 match x with
 |some o=>H2 P fr h o (wantA ops fr o)
 |none=>False
theorem Km (p:Nat):Holds P ops fr h p=H1 P ops fr h ops[p]?:=by grind [Holds,H1,H2,H3,HD]
def H1_some {o:Oper}:H1 P ops fr h (some o)=H2 P fr h o (wantA ops fr o):=id rfl
def H2_true {o:Oper}:H2 P fr h o (some true)=H3 fr h o.dst (stepOp P fr h o):=id rfl
def Xb {o:Oper}:H2 P fr h o (some false)=HD fr o.dst Yx:=id rfl
def H3_some {d:Option Tmp} {v:Value}:H3 fr h d (some (v,h))=HD fr d v:=by simp[H3]
def HD_some {k:Tmp} {v:Value}:HD fr (some k) v=(fr.get k=some v):=by simp[HD]
def HD_none {v:Value}:HD fr none v=True:=by simp[HD]
def VA.intro {ks:List Kt} {R:Exit->lC->AHeap->Prop} {o:Oper} {t:DT} {aad:II} {g:FuncId} {args:List Value} {fn:Func} {c:Code} {Rc:Value->AHeap->Prop} (d:calleeOf fr o=some (g,args)) (hg:Good P g fn c) (ha:AC P W0 g args h Rc)
  (e:∀v h',WF h'->Rc v h'->KG5 P W0 N ops ks R t aad h' (putDst N fr o.dst v)):VA P W0 N ops ks R t aad fr h o:=rZ d hg ha e
def ZJ.intro {i:Nat} {ol:List Oper} {ks:List Kt} {R:Exit->lC->AHeap->Prop} (e:P.follows .mixedOrders=true) (t:DT) (d:gN ol.toArray t=true)
  (hd:KD P W0 N ol.toArray ks R t [] fr h):ZJ P W0 N i ol.toArray ks R fr h:=.draw e t d hd.sound
end Go.Fw
