/- A text. -/
import Derived.Test.YtnakkbhjoiheoaaGreatProg
import Derived.Test.YtnakkbhjoiheoaaGreatFwRules
set_option linter.all false
set_option maxRecDepth 99999
set_option maxHeartbeats 9999999
open Go.Proofs
open Option renaming some→Z,none→Y
open Bool renaming true→tT,false→fF
open List renaming replicate→rP
open Go.Value renaming slice→sL,pointer→pT
open Go renaming Value→vV
open Go.Proofs.Tryz renaming prog→pG
open Go.Proofs.Tryz
open List
namespace Go.Fw
section
variable{P:Program}{W0:LA}{N:Nat}{ops:Array Oper}{fr:aam}{h:aai}
def onO{α:Type}(x:Option α)(f:α->Prop):Prop:=
 match x with
 |some a=>f a
 |none=>False
def Vm(b:Bool)(p q:Prop):Prop:=
 match b with
 |true=>p
 |false=>q
def yF(p q:Prop):Vm tT p q=p:=rfl
theorem adM{α:Type}{x:Option α}{f:α->Prop}:onO x f↔∃a,x=Z a/\f a:=by
 cases x<;>simp[onO]
def cD(P:Program)(W0:LA)(N:Nat)(o:Oper)(fr:aam)(h:aai)(K:aam->aai->Prop):Prop:=∃g args fn c,abt fr o=Z (g,args)/\Good P g fn c/\AC P W0 g args h fun v h'=>onO (putDst N fr o.dst v) fun fr'=>K fr' h'
def IH(P:Program)(W0:LA)(N:Nat)(o:Oper)(fr:aam)(h:aai)(K:aam->aai->Prop):Prop:=cD P W0 N o fr h K\/∃d args,yieldOf fr o=Z (d,args)/\AY P W0 d args h fun v h'=>onO (putDst N fr o.dst v) fun fr'=>K fr' h'
def aeG(P:Program)(W0:LA)(N:Nat)(ops:Array Oper)(Q:aam->aai->Prop):List Oper->aam->aai->Prop
 |[],fr,h=>Q fr h
 |o::r,fr,h=>
  onO (ab6 ops fr o) fun w=>
   Vm w
    (Vm (Zm o) (IH P W0 N o fr h (aeG P W0 N ops Q r))
     (onO (abr P fr h o) fun p=>onO (putDst N fr o.dst p.1) fun fr'=>aeG P W0 N ops Q r fr' p.2))
    (onO (putDst N fr o.dst Yx) fun fr'=>aeG P W0 N ops Q r fr' h)
def aeG.sound{Q:aam->aai->Prop}:∀{l:List Oper}{fr:aam}{h:aai},aeG P W0 N ops Q l fr h->ML P W0 N ops l fr h Q
 |[],fr,h,q=>.nil q
 |o::r,fr,h,q=>by
  simp only[aeG]at q;have⟨w,hw,q⟩:=adM.1 q;cases w with
  |false=>have⟨fr',d,q⟩:=adM.1 q;exact .skip hw d (aeG.sound q)
  |true=>
   simp only[yF]at q;cases k:Zm o with
   |true=>
    rw[k]at q;rcases q with⟨g,args,fn,c,f,hg,ha⟩|⟨n,args,m,ha⟩
    .exact .call hw f hg (ha.mono fun v h' e=>let⟨fr',d,e⟩:=adM.1 e;⟨fr',d,aeG.sound e⟩)
    .exact .yield hw m (ha.mono fun v h' e=>let⟨fr',d,e⟩:=adM.1 e;⟨fr',d,aeG.sound e⟩)
   |false=>rw[k]at q;have⟨⟨v,h'⟩,hs,q⟩:=adM.1 q;have⟨fr',d,q⟩:=adM.1 q;exact .step hw hs d (aeG.sound q)
def WF(h:aai):Prop:=∀i,h.own i≠Y->i<h.next
def AC.wf{f:FuncId}{args:xLV}{R:vV->aai->Prop}(e:WF h->AC P W0 f args h R):AC P W0 f args h R:=fun ex m w d r g=>e r.lt ex m w d r g
def ud.wf{c:Code}{Q:Exit->aam->aai->Prop}(d:WF h->ud P W0 N c fr h Q):ud P W0 N c fr h Q:=fun e nn m a w s K f=>d s.rel.lt e nn m a w s K f
def AC.post{f:FuncId}{args:xLV}{R:vV->aai->Prop}(e:AC P W0 f args h R):AC P W0 f args h fun v h'=>WF h'/\R v h':=fun ex m w d r g=>(e ex m w d r g).mono fun _ _ ⟨v,v',k,h',l,h2,h3,n,p,q⟩=>⟨v,v',k,h',l,h2,h3,n,p,h2.lt,q⟩
def rZ{o:Oper}{g:FuncId}{args:xLV}{fn:Func}{c:Code}{R:vV->aai->Prop}{K:aam->aai->Prop}(d:abt fr o=Z (g,args))(hg:Good P g fn c)(ha:AC P W0 g args h R)(e:∀v h',WF h'->R v h'->onO (putDst N fr o.dst v) fun fr'=>K fr' h'):cD P W0 N o fr h K:=
 ⟨g,args,fn,c,d,hg,ha.post.mono fun v h' ⟨hw,f⟩=>e v h' hw f⟩
def vseq(y:aam->aai->Prop)(Q:Exit->aam->aai->Prop):Exit->aam->aai->Prop
 |.normal,fr,h=>y fr h
 |e,fr,h=>Q e fr h
def onV(x:Option vV)(p q:Prop):Prop:=
 match x with
 |some (.bool b)=>Vm b p q
 |_=>False
def VC(P:Program)(W0:LA)(N:Nat):Code->(Exit->aam->aai->Prop)->aam->aai->Prop
 |.skip,Q,fr,h=>Q .normal fr h
 |.ret,Q,fr,h=>Q .ret fr h
 |.exit i,Q,fr,h=>Q (.exit i) fr h
 |.seq a b,Q,fr,h=>VC P W0 N a (vseq (VC P W0 N b Q) Q) fr h
 |.block i a,Q,fr,h=>VC P W0 N a (agj i Q) fr h
 |.region _ ops fF,Q,fr,h=>aeG P W0 N ops (Q .normal) ops.toList fr h
 |.cond c a b,Q,fr,h=>onV (aa6 fr c) (VC P W0 N a Q fr h) (VC P W0 N b Q fr h)
 |c,Q,fr,h=>ud P W0 N c fr h Q
def VC.sound:∀{c:Code}{Q:Exit->aam->aai->Prop}{fr:aam}{h:aai},VC P W0 N c Q fr h->ud P W0 N c fr h Q:=by
 intro c
 induction c with
 |skip=>intro Q fr h q;exact .skip q
 |ret=>intro Q fr h q;exact .ret q
 |exit i=>intro Q fr h q;exact .exit q
 |seq a b f g=>
  intro Q fr h q;refine .seq ((f q).mono fun e fr h k=>?_);cases e with
  |normal=>exact g k
  |_=>exact k
 |block i a f=>intro Q fr h q;exact .block (f q)
 |region i ops d=>
  intro Q fr h q;cases d with
  |false=>have⟨l⟩:=ops;exact .region (aeG.sound q)
  |true=>exact q
 |cond c a b f g=>
  intro Q fr h q;simp only[VC]at q;unfold onV at q;split at q
  .rename_i t m;refine .cond m (fun e=>?_) (fun e=>?_)
   .subst e;exact f q
   .subst e;exact g q
  .exact q.elim
 |loop c=>intro Q fr h q;exact q
 |rangeFunc=>intro Q fr h q;exact q
 |scope c=>intro Q fr h q;exact q
 |label l=>intro Q fr h q;exact q
 |goto l=>intro Q fr h q;exact q
 |refuse w=>intro Q fr h q;exact q
inductive Kt where
 |seq (c:Code)
 |blk (i:Nat)
def KE(P:Program)(W0:LA)(N:Nat)(R:Exit->aam->aai->Prop):List Kt->Exit->aam->aai->Prop
 |[]=>R
 |.seq c::ks=>vseq (VC P W0 N c (KE P W0 N R ks)) (KE P W0 N R ks)
 |.blk i::ks=>agj i (KE P W0 N R ks)
def VK(P:Program)(W0:LA)(N:Nat)(c:Code)(ks:List Kt)(R:Exit->aam->aai->Prop)(fr:aam)(h:aai):Prop:=VC P W0 N c (KE P W0 N R ks) fr h
def KN(P:Program)(W0:LA)(N:Nat)(ks:List Kt)(R:Exit->aam->aai->Prop)(fr:aam)(h:aai):Prop:=KE P W0 N R ks .normal fr h
def KX(P:Program)(W0:LA)(N:Nat)(e:Exit)(ks:List Kt)(R:Exit->aam->aai->Prop)(fr:aam)(h:aai):Prop:=KE P W0 N R ks e fr h
def KO(P:Program)(W0:LA)(N:Nat)(ops:Array Oper)(ks:List Kt)(R:Exit->aam->aai->Prop)(l:List Oper)(fr:aam)(h:aai):Prop:=aeG P W0 N ops (KE P W0 N R ks .normal) l fr h
def KO1(P:Program)(W0:LA)(N:Nat)(ops:Array Oper)(ks:List Kt)(R:Exit->aam->aai->Prop)(o:Oper)(l:List Oper)(fr:aam)(h:aai)(w:Option Bool):Prop:=
 onO w fun w=>
   Vm w
    (Vm (Zm o) (IH P W0 N o fr h (aeG P W0 N ops (KE P W0 N R ks .normal) l))
     (onO (abr P fr h o) fun p=>onO (putDst N fr o.dst p.1) fun fr'=>aeG P W0 N ops (KE P W0 N R ks .normal) l fr' p.2))
    (onO (putDst N fr o.dst Yx) fun fr'=>aeG P W0 N ops (KE P W0 N R ks .normal) l fr' h)
def lU(P:Program)(W0:LA)(N:Nat)(ops:Array Oper)(ks:List Kt)(R:Exit->aam->aai->Prop)(o:Oper)(l:List Oper)(fr:aam)(h:aai)(b:Bool):Prop:=
  Vm b (IH P W0 N o fr h (aeG P W0 N ops (KE P W0 N R ks .normal) l))
          (onO (abr P fr h o) fun p=>onO (putDst N fr o.dst p.1) fun fr'=>aeG P W0 N ops (KE P W0 N R ks .normal) l fr' p.2)
def MQ(P:Program)(W0:LA)(N:Nat)(ops:Array Oper)(ks:List Kt)(R:Exit->aam->aai->Prop)(o:Oper)(l:List Oper)(fr:aam)(x:Option (vV×aai)):Prop:=onO x fun p=>onO (putDst N fr o.dst p.1) fun fr'=>aeG P W0 N ops (KE P W0 N R ks .normal) l fr' p.2
def Kp(P:Program)(W0:LA)(N:Nat)(ops:Array Oper)(ks:List Kt)(R:Exit->aam->aai->Prop)(l:List Oper)(h:aai)(x:Option aam):Prop:=onO x fun fr'=>aeG P W0 N ops (KE P W0 N R ks .normal) l fr' h
def TC(P:Program)(W0:LA)(N:Nat)(ops:Array Oper)(ks:List Kt)(R:Exit->aam->aai->Prop)(o:Oper)(l:List Oper)(fr:aam)(h:aai):Prop:=IH P W0 N o fr h (aeG P W0 N ops (KE P W0 N R ks .normal) l)
def Kl(P:Program)(W0:LA)(N:Nat)(a b:Code)(ks:List Kt)(R:Exit->aam->aai->Prop)(fr:aam)(h:aai)(x:Option vV):Prop:=onV x (VK P W0 N a ks R fr h) (VK P W0 N b ks R fr h)
def aab(P:Program)(W0:LA)(N:Nat)(c:Code)(ks:List Kt)(R:Exit->aam->aai->Prop)(fr:aam)(h:aai):Prop:=ud P W0 N (.loop c) fr h (KE P W0 N R ks)
def ZJ(P:Program)(W0:LA)(N:Nat)(i:Nat)(ops:Array Oper)(ks:List Kt)(R:Exit->aam->aai->Prop)(fr:aam)(h:aai):Prop:=ud P W0 N (.region i ops tT) fr h (KE P W0 N R ks)
theorem ag6(a b:Int):(a==b)=decide (a=b):=hGr
def fst_mk{α β:Type}(a:α)(b:β):(a,b).1=a:=id rfl
def snd_mk{α β:Type}(a:α)(b:β):(a,b).2=b:=id rfl
section eqs
variable{ks:List Kt}{R:Exit->aam->aai->Prop}{a b:Code}{o:Oper}{i j:Nat}{c:Operand}
def Mc:VK P W0 N .skip ks R fr h=KN P W0 N ks R fr h:=id rfl
def VK_ret:VK P W0 N .ret ks R fr h=KX P W0 N .ret ks R fr h:=id rfl
def af3:VK P W0 N (.exit i) ks R fr h=KX P W0 N (.exit i) ks R fr h:=id rfl
def VK_seq:VK P W0 N (.seq a b) ks R fr h=VK P W0 N a (.seq b::ks) R fr h:=id rfl
def akw:VK P W0 N (.block i a) ks R fr h=VK P W0 N a (.blk i::ks) R fr h:=id rfl
def qS{l:List Oper}:VK P W0 N (.region i (List.toArray l) fF) ks R fr h=KO P W0 N (List.toArray l) ks R l fr h:=id rfl
def af4:VK P W0 N (.region i ops tT) ks R fr h=ZJ P W0 N i ops ks R fr h:=id rfl
def L5:VK P W0 N (.cond c a b) ks R fr h=Kl P W0 N a b ks R fr h (aa6 fr c):=id rfl
def Fe:Kl P W0 N a b ks R fr h (Z (.bool tT))=VK P W0 N a ks R fr h:=id rfl
def Wi:Kl P W0 N a b ks R fr h (Z (.bool fF))=VK P W0 N b ks R fr h:=id rfl
def T4:VK P W0 N (.loop a) ks R fr h=aab P W0 N a ks R fr h:=id rfl
def KN_nil:KN P W0 N [] R fr h=R .normal fr h:=id rfl
def KN_seq:KN P W0 N (.seq a::ks) R fr h=VK P W0 N a ks R fr h:=id rfl
def KN_blk:KN P W0 N (.blk i::ks) R fr h=KN P W0 N ks R fr h:=id rfl
def sn:KX P W0 N .ret [] R fr h=R .ret fr h:=id rfl
def Vy:KX P W0 N .ret (.seq a::ks) R fr h=KX P W0 N .ret ks R fr h:=id rfl
def Y6:KX P W0 N .ret (.blk i::ks) R fr h=KX P W0 N .ret ks R fr h:=id rfl
def Kw:KX P W0 N (.exit j) [] R fr h=R (.exit j) fr h:=id rfl
def zz:KX P W0 N (.exit j) (.seq a::ks) R fr h=KX P W0 N (.exit j) ks R fr h:=id rfl
def acE:KX P W0 N (.exit j) (.blk i::ks) R fr h=if j=i then KN P W0 N ks R fr h else KX P W0 N (.exit j) ks R fr h:=id rfl
def J1:KE P W0 N R ks .normal fr h=KN P W0 N ks R fr h:=id rfl
def KE_ret:KE P W0 N R ks .ret fr h=KX P W0 N .ret ks R fr h:=id rfl
def mK:KE P W0 N R ks (.exit i) fr h=KX P W0 N (.exit i) ks R fr h:=id rfl
def KO_nil:KO P W0 N ops ks R [] fr h=KN P W0 N ks R fr h:=id rfl
def cj{l:List Oper}:KO P W0 N ops ks R (o::l) fr h=KO1 P W0 N ops ks R o l fr h (ab6 ops fr o):=id rfl
def agc{l l':List Oper}:KO P W0 N ops ks R (List.append (o::l) l') fr h=KO P W0 N ops ks R (o::List.append l l') fr h:=id rfl
def Q2{l:List Oper}:KO P W0 N ops ks R (List.append [] l) fr h=KO P W0 N ops ks R l fr h:=id rfl
def HA{l:List Oper}:KO1 P W0 N ops ks R o l fr h (Z tT)=lU P W0 N ops ks R o l fr h (Zm o):=id rfl
def aiN{l:List Oper}:KO1 P W0 N ops ks R o l fr h (Z fF)=Kp P W0 N ops ks R l h (putDst N fr o.dst Yx):=id rfl
def Px{l:List Oper}:lU P W0 N ops ks R o l fr h tT=TC P W0 N ops ks R o l fr h:=id rfl
def re{l:List Oper}:lU P W0 N ops ks R o l fr h fF=MQ P W0 N ops ks R o l fr (abr P fr h o):=id rfl
def OD{l:List Oper}{v:vV}{h':aai}:MQ P W0 N ops ks R o l fr (Z (v,h'))=Kp P W0 N ops ks R l h' (putDst N fr o.dst v):=id rfl
def EV{l:List Oper}:Kp P W0 N ops ks R l h (Z fr)=KO P W0 N ops ks R l fr h:=id rfl
end eqs
def VK.sound{c:Code}{R:Exit->aam->aai->Prop}(q:VK P W0 N c [] R fr h):ud P W0 N c fr h R:=VC.sound q
def Kl.intro{a b:Code}{t:Bool}{ks:List Kt}{R:Exit->aam->aai->Prop}(d:t=tT->VK P W0 N a ks R fr h)(hf:t=fF->VK P W0 N b ks R fr h):Kl P W0 N a b ks R fr h (Z (.bool t)):=by
 cases t
 .exact hf rfl
 .exact d rfl
def TC.intro{ks:List Kt}{R:Exit->aam->aai->Prop}{o:Oper}{l:List Oper}{g:FuncId}{args:xLV}{fn:Func}{c:Code}{Rc:vV->aai->Prop}(d:abt fr o=Z (g,args))(hg:Good P g fn c)(ha:AC P W0 g args h Rc)(e:∀v h',WF h'->Rc v h'->Kp P W0 N ops ks R l h' (putDst N fr o.dst v)):TC P W0 N ops ks R o l fr h:=.inl (rZ d hg ha e)
def TC.yield{ks:List Kt}{R:Exit->aam->aai->Prop}{o:Oper}{l:List Oper}{d:Nat}{args:xLV}{Rc:vV->aai->Prop}(e:yieldOf fr o=Z (d,args))(ha:AY P W0 d args h Rc)(f:∀v h',WF h'->Rc v h'->Kp P W0 N ops ks R l h' (putDst N fr o.dst v)):TC P W0 N ops ks R o l fr h:=.inr ⟨d,args,e,ha.post.mono fun v h' ⟨hw,g⟩=>f v h' hw g⟩
def rndQ(R:vV->aai->Prop):Exit->aam->aai->Prop:=fun e _ h=>e=.normal/\R (.bool tT) h
def aB{R:vV->aai->Prop}:rndQ R .normal fr h=R (.bool tT) h:=by simp[rndQ]
theorem VK.round{ps:Array Tmp}{assign body:Code}{args:xLV}{d:aai}{R:vV->aai->Prop}(q:VK P W0 N (.seq assign body) [] (rndQ R) (aeJ ps.toList args fr) d):Rnd P W0 N ps fr assign body args d R:=by
 have g:VC P W0 N assign (vseq (VC P W0 N body (KE P W0 N (rndQ R) [])) (KE P W0 N (rndQ R) [])) (aeJ ps.toList args fr) d:=q;refine(VC.sound g).mono fun e k h2 f=>?_;cases e with
 |normal=>exact⟨rfl,VC.sound f⟩
 |_=>exact absurd f.1 Ma
def VK.rangeFunc{ks:List Kt}{R:Exit->aam->aai->Prop}{g:Operand}{ps:Array Tmp}{assign body:Code}{gf:FuncId}{fn:Func}{c:Code}{first cap:Array vV}(hg:aa6 fr g=Z (.func (.func gf) first cap))(d:Good P gf fn c)(l:ps.toList.all (fun p=>Nat.blt p N)=tT)(m:∀(f:LA)(k:Nat),(∀(args:xLV)(e:aai)(R:vV->aai->Prop),args.length=ps.size->h.next<=e.next->VK P W0 N (.seq assign body) [] (rndQ R) (aeJ ps.toList args fr) e->AY P f k args e R)->
   AC P f gf (first.toList++[Yg k]++cap.toList) h fun _ h'=>WF h'->KN P W0 N ks R fr h'):VK P W0 N (.rangeFunc g ps assign body) ks R fr h:=
 ud.rangeFunc hg d l fun f k n=>(m f k fun args e R' r s q=>n args e R' r s (VK.round q)).post.mono fun _ _ ⟨hw,u⟩=>u hw
def G8(P:Program)(rs:List ResultVar)(R:vV->aai->Prop)(fr:aam)(h:aai):Prop:=
 match acD P fr h rs with
 |some v=>R v h
 |none=>False
def agk(P:Program)(rs:List ResultVar)(R:vV->aai->Prop):Exit->aam->aai->Prop
 |.normal,fr,h=>G8 P rs R fr h
 |.ret,fr,h=>G8 P rs R fr h
 |_,_,_=>False
theorem AC.vc{f:FuncId}{args:xLV}{fn:Func}{c:Code}{R:vV->aai->Prop}(hg:Good P f fn c){n:Nat}(m:fn.ntmps=n){rs:Array ResultVar}(d:fn.results=rs)(hlen:args.length<=n)(g:WF h->VK P W0 n c [] (agk P rs.toList R) (me args) h):AC P W0 f args h R:=by
 subst m;subst d;refine AC.wf fun k=>?_;replace g:=g k;refine .body hg hlen ((VK.sound g).mono fun e fr' h' l=>?_);have key:∀fr h,G8 P fn.results.toList R fr h->∃v,acD P fr h fn.results.toList=Z v/\R v h:=by grind[G8]
 cases e with
 |normal=>exact⟨.inl rfl,key _ _ l⟩
 |ret=>exact⟨.inr rfl,key _ _ l⟩
 |_=>exact l.elim
def mkF:List (Nat×vV)->aam
 |[]=>.leaf
 |(t,v)::r=>(mkF r).set t v
def Fj(fr:aam):List (Nat×vV)->Prop
 |[]=>True
 |(t,v)::r=>fr.get t=Z v/\Fj fr r
theorem Sub.mkF{fr:aam}:∀{l:List (Nat×vV)},Fj fr l->Sub (mkF l) fr
 |[],_,k,v,h=>by grind[mkF,Trie.get]
 |(t,u)::r,ha,k,v,h=>by
  simp only[Fw.mkF,Trie.YO]at h;by_cases d:k=t
  .subst d;rw[WA rfl]at h;injection h with h;subst h;exact ha.1
  .rw[IE d]at h;exact Sub.mkF ha.2 k v h
def tn{I:Nat->aam->aai->Prop}{k:Nat}{Q:Exit->aam->aai->Prop}(d:Nat)(l:List (Nat×vV))(e:d<k)(f:Fj fr l)(hi:I d (mkF l) h):aeM I k Q .normal fr h:=⟨d,e,_,Sub.mkF f,hi⟩
def NA{I:Nat->aam->aai->Prop}{k:Nat}{Q:Exit->aam->aai->Prop}:aeM I k Q .ret fr h=Q .ret fr h:=id rfl
def ac7{I:Nat->aam->aai->Prop}{k i:Nat}{Q:Exit->aam->aai->Prop}:aeM I k Q (.exit i) fr h=Q (.exit i) fr h:=id rfl
def aab.intro{c:Code}{ks:List Kt}{R:Exit->aam->aai->Prop}(I:Nat->aam->aai->Prop)(k0:Nat)(l:List (Nat×vV))(hs:Fj fr l)(d:I k0 (mkF l) h)(e:∀k fr h,WF h->I k fr h->VK P W0 N c [] (aeM I k (KE P W0 N R ks)) fr h):aab P W0 N c ks R fr h:=
 .loop I k0 _ (Sub.mkF hs) d fun k fr h hi=>ud.wf fun hw=>VC.sound (e k fr h hw hi)
def ae5(P:Program)(W0:LA)(N:Nat)(ops:Array Oper)(Q:aam->aai->Prop):DT->II->aam->aai->Prop
 |.done,_,fr,h=>Q fr h
 |.no,_,_,_=>True
 |.fl i t,aac,fr,h=>
  onO ops[i]? fun o=>onO (ab6 ops fr o) fun w=>
   Vm w (onO (abr P fr h o) fun p=>p.2=h/\onO (putDst N fr o.dst p.1) fun fr'=>ae5 P W0 N ops Q t (i::aac) fr' h)
    (onO (putDst N fr o.dst Yx) fun fr'=>ae5 P W0 N ops Q t (i::aac) fr' h)
 |.ch i pre t other,aac,fr,h=>
  (onO ops[i]? fun o=>onO (ab6 ops fr o) fun w=>
   Vm w
    (Vm (Zm o) (cD P W0 N o fr h fun fr' h'=>abj P ops fr' h' (aac.filter fun p=>!pre.contains p)/\ae5 P W0 N ops Q t (aac.filter fun p=>!pre.contains p) fr' h')
     (onO (abr P fr h o) fun p=>onO (putDst N fr o.dst p.1) fun fr'=>abj P ops fr' p.2 (aac.filter fun p=>!pre.contains p)/\ae5 P W0 N ops Q t (aac.filter fun p=>!pre.contains p) fr' p.2))
    (onO (putDst N fr o.dst Yx) fun fr'=>ae5 P W0 N ops Q t (aac.filter fun p=>!pre.contains p) fr' h))/\
  ae5 P W0 N ops Q other aac fr h
theorem ae5.sound{Q:aam->aai->Prop}:∀{t:DT}{aac:II}{fr:aam}{h:aai},ae5 P W0 N ops Q t aac fr h->DW P W0 N ops Q t aac fr h:=by
 intro t
 induction t with
 |done=>intro aac fr h q;exact q
 |no=>intro aac fr h _;exact trivial
 |fl i t p=>
  intro aac fr h q;simp only[ae5]at q;have⟨o,d,q⟩:=adM.1 q;have⟨w,hw,q⟩:=adM.1 q;simp only[DW,d,hw];cases w with
  |false=>have⟨fr',k,q⟩:=adM.1 q;grind
  |true=>obtain⟨⟨v,h'⟩,hs,rfl,q⟩:=adM.1 q;grind[adM]
 |ch i pre t other l e=>
  intro aac fr h q;simp only[ae5]at q;have⟨q,m⟩:=q;simp only[DW];refine⟨?_,e m⟩;have⟨o,d,q⟩:=adM.1 q;have⟨w,hw,q⟩:=adM.1 q;simp only[d,hw];cases w with
  |false=>have⟨fr',k,q⟩:=adM.1 q;grind
  |true=>
   simp only[yF]at q;cases f:Zm o with
   |true=>rw[f]at q;have⟨g,args,fn,c,n,hg,ha⟩:=q;grind[AC.mono,adM]
   |false=>rw[f]at q;have⟨⟨v,h'⟩,hs,q⟩:=adM.1 q;grind[adM]
def KD(P:Program)(W0:LA)(N:Nat)(ops:Array Oper)(ks:List Kt)(R:Exit->aam->aai->Prop)(t:DT)(aac:II)(fr:aam)(h:aai):Prop:=ae5 P W0 N ops (KE P W0 N R ks .normal) t aac fr h
def KF1(P:Program)(W0:LA)(N:Nat)(ops:Array Oper)(ks:List Kt)(R:Exit->aam->aai->Prop)(t:DT)(aac:II)(fr:aam)(h:aai)(x:Option Oper):Prop:=
 onO x fun o=>onO (ab6 ops fr o) fun w=>
   Vm w (onO (abr P fr h o) fun p=>p.2=h/\onO (putDst N fr o.dst p.1) fun fr'=>KD P W0 N ops ks R t aac fr' h)
    (onO (putDst N fr o.dst Yx) fun fr'=>KD P W0 N ops ks R t aac fr' h)
def KF2(P:Program)(W0:LA)(N:Nat)(ops:Array Oper)(ks:List Kt)(R:Exit->aam->aai->Prop)(t:DT)(aac:II)(fr:aam)(h:aai)(o:Oper)(w:Option Bool):Prop:=
  onO w fun w=>Vm w (onO (abr P fr h o) fun p=>p.2=h/\onO (putDst N fr o.dst p.1) fun fr'=>KD P W0 N ops ks R t aac fr' h)
        (onO (putDst N fr o.dst Yx) fun fr'=>KD P W0 N ops ks R t aac fr' h)
def KF3(P:Program)(W0:LA)(N:Nat)(ops:Array Oper)(ks:List Kt)(R:Exit->aam->aai->Prop)(t:DT)(aac:II)(fr:aam)(h:aai)(o:Oper)(x:Option (vV×aai)):Prop:=onO x fun p=>p.2=h/\onO (putDst N fr o.dst p.1) fun fr'=>KD P W0 N ops ks R t aac fr' h
def KF4(P:Program)(W0:LA)(N:Nat)(ops:Array Oper)(ks:List Kt)(R:Exit->aam->aai->Prop)(t:DT)(aac:II)(h:aai)(x:Option aam):Prop:=onO x fun fr'=>KD P W0 N ops ks R t aac fr' h
def KG1(P:Program)(W0:LA)(N:Nat)(ops:Array Oper)(ks:List Kt)(R:Exit->aam->aai->Prop)(t:DT)(aac:II)(fr:aam)(h:aai)(x:Option Oper):Prop:=
 onO x fun o=>onO (ab6 ops fr o) fun w=>
   Vm w
    (Vm (Zm o) (cD P W0 N o fr h fun fr' h'=>abj P ops fr' h' aac/\KD P W0 N ops ks R t aac fr' h')
     (onO (abr P fr h o) fun p=>onO (putDst N fr o.dst p.1) fun fr'=>abj P ops fr' p.2 aac/\KD P W0 N ops ks R t aac fr' p.2))
    (onO (putDst N fr o.dst Yx) fun fr'=>KD P W0 N ops ks R t aac fr' h)
def KG2(P:Program)(W0:LA)(N:Nat)(ops:Array Oper)(ks:List Kt)(R:Exit->aam->aai->Prop)(t:DT)(aac:II)(fr:aam)(h:aai)(o:Oper)(w:Option Bool):Prop:=
  onO w fun w=>Vm w
        (Vm (Zm o) (cD P W0 N o fr h fun fr' h'=>abj P ops fr' h' aac/\KD P W0 N ops ks R t aac fr' h')
          (onO (abr P fr h o) fun p=>onO (putDst N fr o.dst p.1) fun fr'=>abj P ops fr' p.2 aac/\KD P W0 N ops ks R t aac fr' p.2))
        (onO (putDst N fr o.dst Yx) fun fr'=>KD P W0 N ops ks R t aac fr' h)
def KG3(P:Program)(W0:LA)(N:Nat)(ops:Array Oper)(ks:List Kt)(R:Exit->aam->aai->Prop)(t:DT)(aac:II)(fr:aam)(h:aai)(o:Oper)(b:Bool):Prop:=
  Vm b (cD P W0 N o fr h fun fr' h'=>abj P ops fr' h' aac/\KD P W0 N ops ks R t aac fr' h')
          (onO (abr P fr h o) fun p=>onO (putDst N fr o.dst p.1) fun fr'=>abj P ops fr' p.2 aac/\KD P W0 N ops ks R t aac fr' p.2)
def VA(P:Program)(W0:LA)(N:Nat)(ops:Array Oper)(ks:List Kt)(R:Exit->aam->aai->Prop)(t:DT)(aac:II)(fr:aam)(h:aai)(o:Oper):Prop:=cD P W0 N o fr h fun fr' h'=>abj P ops fr' h' aac/\KD P W0 N ops ks R t aac fr' h'
def KG4(P:Program)(W0:LA)(N:Nat)(ops:Array Oper)(ks:List Kt)(R:Exit->aam->aai->Prop)(t:DT)(aac:II)(fr:aam)(o:Oper)(x:Option (vV×aai)):Prop:=onO x fun p=>onO (putDst N fr o.dst p.1) fun fr'=>abj P ops fr' p.2 aac/\KD P W0 N ops ks R t aac fr' p.2
def KG5(P:Program)(W0:LA)(N:Nat)(ops:Array Oper)(ks:List Kt)(R:Exit->aam->aai->Prop)(t:DT)(aac:II)(h:aai)(x:Option aam):Prop:=onO x fun fr'=>abj P ops fr' h aac/\KD P W0 N ops ks R t aac fr' h
section eqs
variable{ks:List Kt}{R:Exit->aam->aai->Prop}{o:Oper}{i:Nat}{t other:DT}{aac pre:II}{v:vV}{h':aai}
def KD_done:KD P W0 N ops ks R .done aac fr h=KN P W0 N ks R fr h:=id rfl
def KD_no:KD P W0 N ops ks R .no aac fr h=True:=id rfl
def KD_fl:KD P W0 N ops ks R (.fl i t) aac fr h=KF1 P W0 N ops ks R t (i::aac) fr h ops[i]?:=id rfl
def KF1_some:KF1 P W0 N ops ks R t aac fr h (Z o)=KF2 P W0 N ops ks R t aac fr h o (ab6 ops fr o):=id rfl
def KF2_true:KF2 P W0 N ops ks R t aac fr h o (Z tT)=KF3 P W0 N ops ks R t aac fr h o (abr P fr h o):=id rfl
def KF2_false:KF2 P W0 N ops ks R t aac fr h o (Z fF)=KF4 P W0 N ops ks R t aac h (putDst N fr o.dst Yx):=id rfl
def KF3_some:KF3 P W0 N ops ks R t aac fr h o (Z (v,h))=KF4 P W0 N ops ks R t aac h (putDst N fr o.dst v):=by simp[KF3,KF4,onO]
def KF4_some:KF4 P W0 N ops ks R t aac h (Z fr)=KD P W0 N ops ks R t aac fr h:=id rfl
def KD_ch:KD P W0 N ops ks R (.ch i pre t other) aac fr h=(KG1 P W0 N ops ks R t (aac.filter fun p=>!pre.contains p) fr h ops[i]?/\KD P W0 N ops ks R other aac fr h):=id rfl
def KG1_some:KG1 P W0 N ops ks R t aac fr h (Z o)=KG2 P W0 N ops ks R t aac fr h o (ab6 ops fr o):=id rfl
def KG2_true:KG2 P W0 N ops ks R t aac fr h o (Z tT)=KG3 P W0 N ops ks R t aac fr h o (Zm o):=id rfl
def KG2_false:KG2 P W0 N ops ks R t aac fr h o (Z fF)=KF4 P W0 N ops ks R t aac h (putDst N fr o.dst Yx):=id rfl
def KG3_true:KG3 P W0 N ops ks R t aac fr h o tT=VA P W0 N ops ks R t aac fr h o:=id rfl
def KG3_false:KG3 P W0 N ops ks R t aac fr h o fF=KG4 P W0 N ops ks R t aac fr o (abr P fr h o):=id rfl
def KG4_some:KG4 P W0 N ops ks R t aac fr o (Z (v,h'))=KG5 P W0 N ops ks R t aac h' (putDst N fr o.dst v):=id rfl
def KG5_some:KG5 P W0 N ops ks R t aac h (Z fr)=(abj P ops fr h aac/\KD P W0 N ops ks R t aac fr h):=id rfl
end eqs
def HD(fr:aam)(d:Option Tmp)(v:vV):Prop:=∀k,d=Z k->fr.get k=Z v
def H3(fr:aam)(h:aai)(d:Option Tmp)(x:Option (vV×aai)):Prop:=∃v,x=Z (v,h)/\HD fr d v
def H2(P:Program)(fr:aam)(h:aai)(o:Oper)(w:Option Bool):Prop:=
 match w with
 |some tT=>H3 fr h o.dst (abr P fr h o)
 |some fF=>HD fr o.dst Yx
 |none=>False
def H1(P:Program)(ops:Array Oper)(fr:aam)(h:aai)(x:Option Oper):Prop:=
 match x with
 |some o=>H2 P fr h o (ab6 ops fr o)
 |none=>False
theorem Holds_eq(p:Nat):Holds P ops fr h p=H1 P ops fr h ops[p]?:=by grind[Holds,H1,H2,H3,HD]
def H1_some{o:Oper}:H1 P ops fr h (Z o)=H2 P fr h o (ab6 ops fr o):=id rfl
def H2_true{o:Oper}:H2 P fr h o (Z tT)=H3 fr h o.dst (abr P fr h o):=id rfl
def H2_false{o:Oper}:H2 P fr h o (Z fF)=HD fr o.dst Yx:=id rfl
def H3_some{d:Option Tmp}{v:vV}:H3 fr h d (Z (v,h))=HD fr d v:=by simp[H3]
def HD_some{k:Tmp}{v:vV}:HD fr (Z k) v=(fr.get k=Z v):=by simp[HD]
def HD_none{v:vV}:HD fr Y v=True:=by simp[HD]
def VA.intro{ks:List Kt}{R:Exit->aam->aai->Prop}{o:Oper}{t:DT}{aac:II}{g:FuncId}{args:xLV}{fn:Func}{c:Code}{Rc:vV->aai->Prop}(d:abt fr o=Z (g,args))(hg:Good P g fn c)(ha:AC P W0 g args h Rc)(e:∀v h',WF h'->Rc v h'->KG5 P W0 N ops ks R t aac h' (putDst N fr o.dst v)):VA P W0 N ops ks R t aac fr h o:=rZ d hg ha e
def ZJ.intro{i:Nat}{ol:List Oper}{ks:List Kt}{R:Exit->aam->aai->Prop}(e:P.follows .mixedOrders=tT)(t:DT)(d:akk ol.toArray t=tT)(hd:KD P W0 N ol.toArray ks R t [] fr h):ZJ P W0 N i ol.toArray ks R fr h:=.draw e t d hd.sound
end
def tA:List Nat→DT→DT
  |[],t=>t
  |i::l,t=>.fl i (tA l t)
def fRn:Nat→Nat→DT→DT
  |_,0,t=>t
  |a,k+1,t=>.fl a (fRn (a+1) k t)
def JQ(i:Nat)(p:List Nat)(t:DT):DT:=.ch i p t .no
section
variable{P:Program}{h h':aai}
theorem WF.alloc(hw:WF h)(o:fK):WF (h.alloc o):=by
 intro i hi
 by_cases e:i=h.next
 .subst e;exact adN _
 .rw[aai.Ve _ _ _ e]at hi;exact ak6 (hw i hi)
theorem WF.put(hw:WF h){id:Nat}(o:fK)(a:id<h.next):WF (h.put id o):=by
 intro i hi;by_cases e:i=id
 .subst e;exact a
 .rw[aai.By _ _ _ _ e]at hi;exact hw i hi
theorem WF.kill(hw:WF h)(id:Nat):WF (h.kill id):=by
 intro i hi;by_cases e:i=id
 .grind[aai.Dg]
 .rw[aai.xJ _ _ _ e]at hi;exact hw i hi
theorem WF.lt(hw:WF h){i:Nat}{o:fK}(a:h.own i=Z o):i<h.next:=hw i (by rw[a];simp)
def om(o:fK):(h.alloc o).next=h.next+1:=rfl
theorem Mh(j:Nat)(o:fK):(h.alloc o).own j=if j=h.next then Z o else h.own j:=by grind[aai.zT,aai.Ve]
theorem own_put(i j:Nat)(o:fK):(h.put i o).own j=if j=i then Z o else h.own j:=by grind[aai.Y3,aai.By]
theorem uU(i j:Nat):(h.kill i).own j=if j=i then Y else h.own j:=by grind[aai.Dg,aai.xJ]
theorem YP{id off:Nat}{c:xLV}(a:h.own id=Z (.cells c)):h.read ⟨id,off,Y⟩=c[off]?:=by grind[aai.read]
structure Le (g h:aai):Prop where
 ext:h.ext=g.ext
 own:∀i o,g.own i=Z o->h.own i=Z o
theorem Le.refl(h:aai):Le h h:=⟨rfl,fun _ _ h=>h⟩
theorem Le.trans{c h2 h3:aai}(a:Le c h2)(b:Le h2 h3):Le c h3:=⟨b.ext.trans a.ext,fun i o h=>b.own i o (a.own i o h)⟩
theorem Le.put{g:aai}(a:Le g h){id:Nat}(o:fK)(b:g.own id=Y):Le g (h.put id o):=⟨a.ext,fun i c hi=>by grind[own_put,Le.own]⟩
theorem Le.kill{g:aai}(a:Le g h){id:Nat}(b:g.own id=Y):Le g (h.kill id):=⟨a.ext,fun i c hi=>by grind[uU,Le.own]⟩
theorem Le.next{g:aai}(a:Le g h)(hw:WF h){i:Nat}(hi:h.next<=i):g.own i=Y:=by
 cases hg:g.own i with
 |none=>rfl
 |some o=>exact absurd (hw.lt (a.own i o hg)) NH
theorem Le.alloc{g:aai}(a:Le g h)(hw:WF h)(o:fK):Le g (h.alloc o):=⟨a.ext,fun i b hi=>by grind[Mh,Le.next,Le.own]⟩
theorem Le.Qz(h:aai)(id:Nat):Le (h.kill id) h:=⟨rfl,fun i a hi=>by grind[uU]⟩
theorem Le.none{g:aai}(a:Le g h){i:Nat}(hi:h.own i=Y):g.own i=Y:=by
 cases hg:g.own i<;>grind[Le.own]
theorem Le.read{g:aai}(a:Le g h){ad:Addr}{x:vV}(b:g.read ad=Z x):h.read ad=Z x:=by grind[aai.read,Le.own,Le.ext]
def aaq(v:vV)(k:Nat):Addr:=match v with|.slice (Z a) _ _=>Ip a k|_=>default
theorem fA(a:Addr)(n c k:Nat):aaq (sL (Z a) n c) k=Ip a k:=rfl
def xO(v:vV)(n:Nat):Prop:=∃a c,v=.slice a n c/\(0<n->a.isSome=tT)
structure RS (h:aai) (v:vV) (vs:xLV):Prop where
 sl:xO v vs.length
 get:∀i x,vs[i]?=Z x->h.read (aaq v i)=Z x
theorem RS.le{v:vV}{vs:xLV}(a:RS h v vs)(e:Le h h'):RS h' v vs:=⟨a.sl,fun i x b=>e.read (a.get i x b)⟩
theorem RS.nil(h:aai):RS h (.slice Y 0 0) []:=⟨⟨Y,0,rfl,Ma⟩,fun i x a=>by simp at a⟩
theorem RS.own{id off n c:Nat}{cs:xLV}(b:h.own id=Z (.cells cs))(d:off+n<=cs.length):RS h (sL (Z ⟨id,off,Y⟩) n c) ((cs.drop off).take n):=by
 have a:((cs.drop off).take n).length=n:=by simp;omega
 refine⟨⟨_,c,by rw[a],Ma⟩,fun i x e=>?_⟩;grind[fA,Ip.eq_1,YP]
theorem RS.whole{id n c:Nat}{cs:xLV}(a:h.own id=Z (.cells cs))(b:cs.length=n):RS h (sL (Z id) n c) cs:=by have:=RS.own (c:=c) (off:=0) (n:=n) a NH;grind
theorem RS.len{v:vV}{vs:xLV}(b:RS h v vs){t e:TypeId}(d:P.underlying t=Z (.slice e))(h':aai):aeh P h' t v=Z (.int .i64 vs.length):=by obtain⟨a,c,rfl,_⟩:=b.sl;simp[aeh,d]
theorem RS.addr{v:vV}{vs:xLV}(b:RS h v vs){t e:TypeId}{d:TypeDesc}(f:P.underlying t=Z (.slice e))(hd:P.underlying e=Z d)(hs:UA P e=1){k:IntKind}(i:Nat)(hi:i<vs.length):
  aao P t v (.int k i)=Z (pT (Z (aaq v i))):=by
 obtain⟨a,c,rfl,hs'⟩:=b.sl;obtain⟨a,rfl⟩:=mJ.1 (hs' NH);have g:(i:Int)<(vs.length:Int):=NH;simp[aao,f,g,hd,aaq,hs]
theorem Bj{e:TypeId}{d:TypeDesc}(b:P.underlying e=Z d)(hd:ab8 d=fF)(a:Addr):aaC P h e a=h.read a:=by grind[aaC]
theorem RS.load{v:vV}{vs:xLV}(a:RS h v vs){e:TypeId}{d:TypeDesc}(b:P.underlying e=Z d)(hd:ab8 d=fF)(i:Nat)(hi:i<vs.length):
  aaC P h e (aaq v i)=Z vs[i]:=by grind[Bj,RS.get]
def RL{α:Type}(R:aai->vV->α->Prop)(h:aai)(v:vV)(xs:List α):Prop:=∃vs:xLV,RS h v vs/\vs.length=xs.length/\∀(i:Nat)(x:α)(u:vV),xs[i]?=Z x->vs[i]?=Z u->R h u x
def RP(_:aai)(v:vV)(n:Int):Prop:=v=n
def Nn{α:Type}(R:aai->vV->α->Prop):Prop:=∀h h' v x,R h v x->Le h h'->R h' v x
theorem Nn.RP:Nn Fw.RP:=fun _ _ _ _ r _=>r
def Nn.RL{α:Type}{R:aai->vV->α->Prop}(s:Nn R):Nn (Fw.RL R):=fun h h' v x ⟨vs,r,a,b⟩ e=>⟨vs,r.le e,a,fun i x u c d=>s h h' u x (b i x u c d) e⟩
section RL
variable{α:Type}{R:aai->vV->α->Prop}{v:vV}{xs:List α}
theorem RL.sl(a:RL R h v xs):xO v xs.length:=by have⟨vs,r,b,_⟩:=a;grind[RS.sl]
theorem RL.len(a:RL R h v xs){t e:TypeId}(b:P.underlying t=Z (.slice e))(h':aai):aeh P h' t v=Z (.int .i64 xs.length):=by have⟨vs,r,c,_⟩:=a;grind[RS.len]
theorem RL.addr(a:RL R h v xs){t e:TypeId}{d:TypeDesc}(b:P.underlying t=Z (.slice e))(hd:P.underlying e=Z d)(hs:UA P e=1){k:IntKind}(i:Nat)(hi:i<xs.length):
  aao P t v (.int k i)=Z (pT (Z (aaq v i))):=by
 have⟨vs,r,c,_⟩:=a;grind[RS.addr]
theorem RL.load(a:RL R h v xs){e:TypeId}{d:TypeDesc}(b:P.underlying e=Z d)(hd:ab8 d=fF)(i:Nat)(hi:i<xs.length):
  ∃u,aaC P h e (aaq v i)=Z u/\R h u xs[i]:=by
 have⟨vs,r,f,c⟩:=a;exact⟨_,r.load b hd i NH,c i _ _ (Gc hi) (Gc NH)⟩
def RL.loadI{xs:RZ}(a:RL RP h v xs){e:TypeId}{d:TypeDesc}(b:P.underlying e=Z d)(hd:ab8 d=fF)(i:Nat)(hi:i<xs.length):
  aaC P h e (aaq v i)=Z (.int .i64 xs[i]):=by have⟨u,c,h2⟩:=a.load b hd i hi;rw[c,h2]
theorem RL.nil:RL R h (.slice Y 0 0) []:=⟨[],RS.nil h,rfl,fun i x u a=>by simp at a⟩
end RL
def RL.Wh{v:vV}{xs:RZ}(r:RS h v (xs.map (vV.int .i64))):RL RP h v xs:=⟨_,r,Ma,fun i x u b a=>by rw[Q4,b]at a;simp at a;exact a.symm⟩
theorem RL.cellsI{v:vV}{xs:RZ}(r:RL RP h v xs):RS h v (xs.map (vV.int .i64)):=by
 have⟨vs,r,a,b⟩:=r;have:vs=xs.map (vV.int .i64):=by
  apply Dl
  .simp[a]
  .intro i c h2;have d:i<xs.length:=NH;have:=b i xs[i] vs[i] (Gc d) (Gc c);grind[RP]
 grind
theorem aaa(k:Nat)(a:k<4611686018427387904):aaY .i64 ((k:Int)+1)=((k+1:Nat):Int):=by grind[ie]
theorem qF{id:Nat}{c:xLV}(b:h.own id=Z (.cells c)):∀(n off:Nat),off+n<=c.length->abN h ⟨id,off,Y⟩ n=Z ((c.drop off).take n)
 |0,off,_=>by simp[abN]
 |n+1,off,d=>by have a:off<c.length:=NH;have e:=qF b n (off+1) NH;simp only[abN,YP b,Gc a,Ip];grind[drop_eq_getElem_cons]
theorem Wx{t:TypeId}{d:TypeDesc}{k id off:Nat}{c:xLV}(a:P.underlying t=Z d)(hd:ab8 d=tT)(hs:UA P t=k)(b:h.own id=Z (.cells c))(e:off+k<=c.length):
  aaC P h t ⟨id,off,Y⟩=Z (.agg ((c.drop off).take k).toArray):=by grind[aaC,qF]
theorem Fq{t:TypeId}{d:TypeDesc}{id off:Nat}{c:xLV}(a:P.underlying t=Z d)(hd:ab8 d=fF)(b:h.own id=Z (.cells c)):aaC P h t ⟨id,off,Y⟩=c[off]?:=by grind[Bj,YP]
def aeO(x:Int):aaY .u8 x=x%256:=by rw[Qt];simp[IntKind.wrap,IntKind.bits,IntKind.signed]
theorem cT(x:Int)(a:0<=x)(h2:x<=4611686018427387904):aaY .i64 x=x:=ie x NH NH
theorem xO.one{v:vV}{n:Nat}(b:xO v n):v.oneCell'=tT:=by obtain⟨a,c,rfl,_⟩:=b;rfl
theorem RL.one{α:Type}{R:aai->vV->α->Prop}{v:vV}{xs:List α}(a:RL R h v xs):v.oneCell'=tT:=a.sl.one
theorem RL.le{α:Type}{R:aai->vV->α->Prop}(s:Nn R){v:vV}{xs:List α}(a:RL R h v xs)(e:Le h h'):RL R h' v xs:=(Nn.RL s) _ _ _ _ a e
def aBox3{a b c:vV}(ha:a.oneCell'=tT)(hb:b.oneCell'=tT)(d:c.oneCell'=tT):zF h (.agg #[a,b,c])=Z (pT (Z h.next),h.alloc (.cells [a,b,c])):=by simp[zF,IF,vV.cells,ha,hb,d]
theorem QB{t:TypeId}{d:TypeDesc}{id off:Nat}{c:xLV}{x:vV}(b:P.underlying t=Z d)(hs:UA P t=1)(e:h.own id=Z (.cells c))(a:off<c.length)(f:x.cells=#[x])(g:x.oneCell'=tT):
  aaK P h t (pT (Z ⟨id,off,Y⟩)) x=Z (h.put id (.cells (c.set off x))):=by grind[aaK,putCells]
structure CS (k:Nat) (h:aai) (v:vV) (n:Nat) (cs:xLV):Prop where
 sl:xO v n
 len:cs.length=n*k
 get:∀i x,cs[i]?=Z x->h.read (aaq v i)=Z x
theorem CS.le{k n:Nat}{v:vV}{cs:xLV}(c:CS k h v n cs)(e:Le h h'):CS k h' v n cs:=⟨c.sl,c.len,fun i x a=>e.read (c.get i x a)⟩
def RS.cs{v:vV}{vs:xLV}(r:RS h v vs):CS 1 h v vs.length vs:=⟨r.sl,Ma,r.get⟩
theorem CS.rs{v:vV}{n:Nat}{vs:xLV}(r:CS 1 h v n vs):RS h v vs:=by
 have:vs.length=n:=by grind[CS.len]
 subst this;exact⟨r.sl,r.get⟩
theorem CS.nil(k:Nat)(h:aai):CS k h (.slice Y 0 0) 0 []:=⟨⟨Y,0,rfl,Ma⟩,Ma,fun i x a=>by simp at a⟩
theorem ag8:∀(cs:xLV)(a:Addr),(∀i x,cs[i]?=Z x->h.read (Ip a i)=Z x)->abN h a cs.length=Z cs
 |[],_,_=>rfl
 |c::cs,a,hg=>by
  have b:=hg 0 c rfl;have d:=ag8 cs (Ip a 1) fun i x e=>by have:=hg (i+1) x hGr;grind[Ip]
  grind[abN,aai.read,Ip]
theorem CS.abN{k n:Nat}{a:Addr}{cap:Nat}{cs:xLV}(c:CS k h (sL (Z a) n cap) n cs):abN h a (n*k)=Z cs:=by rw[<-c.len];exact ag8 cs a fun i x b=>c.get i x b
theorem CS.src{k n:Nat}{v:vV}{cs:xLV}{e:TypeId}(b:UA P e=k)(c:CS k h v n cs):aby P h e v=Z (n,cs):=by
 obtain⟨a,cap,rfl,hs⟩:=c.sl;cases a with
 |none=>
  have d:n=0:=by cases n<;>grind
  subst d;have:cs=[]:=by simpa using c.len
  grind[aby]
 |some a=>simp[aby,b,c.abN]
theorem CS.first{k n:Nat}{v:vV}{cs:xLV}(c:CS k h v n cs)(e:n≠0)(m:Nat)(b:m<=n):afE h k m v=Z (cs.take (m*k)):=by
 obtain⟨a,cap,rfl,hs⟩:=c.sl;obtain⟨a,rfl⟩:=mJ.1 (hs NH);have hle:m*k<=n*k:=WZ _ b;have d:(cs.take (m*k)).length=m*k:=by grind[CS.len]
 simp only[afE,b,if_true]
 conv=>lhs;rw[<-d]
 refine ag8 _ _ fun i x f=>c.get i x ?_;grind
def blk:vV->Option Nat
 |.slice (Z ⟨b,_,Y⟩) _ _=>Z b
 |_=>Y
def Z2(g:aai)(v:vV):Prop:=∀b,blk v=Z b->g.own b=Y
def GS(k:Nat)(h:aai)(v:vV)(n:Nat)(cs:xLV):Prop:=
 cs.length=n*k/\((v=.slice Y 0 0/\n=0)\/
  ∃id c cap,v=sL (Z ⟨id,0,Y⟩) n cap/\h.own id=Z (.cells c)/\c.take (n*k)=cs/\(cap=UNK+k\/cap=n/\n<1000000000000))
theorem GS.nil(k:Nat)(h:aai):GS k h (.slice Y 0 0) 0 []:=⟨Ma,.inl ⟨rfl,rfl⟩⟩
theorem GS.full{k n id:Nat}{c:xLV}(a:h.own id=Z (.cells c))(b:c.length=n*k)(d:n<1000000000000):GS k h (sL (Z id) n n) n c:=⟨b,.inr ⟨id,c,n,rfl,a,hGr,.inr ⟨rfl,d⟩⟩⟩
theorem GS.le{k n:Nat}{v:vV}{cs:xLV}(g:GS k h v n cs)(e:Le h h'):GS k h' v n cs:=by
 obtain⟨a,g|⟨id,c,cap,rfl,b,r⟩⟩:=g
 .exact⟨a,.inl g⟩
 .exact⟨a,.inr ⟨id,c,cap,rfl,e.own _ _ b,r⟩⟩
theorem GS.cs{k n:Nat}{v:vV}{cs:xLV}(g:GS k h v n cs):CS k h v n cs:=by
 obtain⟨a,⟨rfl,rfl⟩|⟨id,c,cap,rfl,b,rfl,d⟩⟩:=g
 .grind[CS.nil]
 .refine⟨⟨_,cap,rfl,Ma⟩,a,fun i x e=>?_⟩;grind[fA,Ip.eq_1,YP]
def apT(P:Program)(t xt:TypeId)(k:Nat):Bool:=
  match P.underlying t,P.underlying xt with
  |some (.slice e),Z dx=>match acd P e with
    |some z=>z.cells.size==UA P e&&z.cells.toList.all (·.oneCell')&&(P.underlying e).isSome&&acL dx&&UA P e==k&&decide (P.bytesOf e<=100000)
    |none=>fF
  |_,_=>fF
theorem GS.append{t xt:TypeId}{k n n':Nat}{v x:vV}{cs news:xLV}(d:apT P t xt k=tT)(g:GS k h v n cs)(hs:∀e,UA P e=k->aby P h e x=Z (n',news))(F:cs.all (·.oneCell')=tT)(G:news.all (·.oneCell')=tT)(o:news.length=n'*k)(hb:n+n'<=1000000000):
  ∃v' h',aaR P h t xt v x=Z (v',h')/\GS k h' v' (n+n') (cs++news)/\(∀f,WF h->Le f h->Z2 f v->Le f h'/\Z2 f v'):=by
 unfold apT at d;split at d
 .rename_i e dx i j;split at d
  .rename_i z l;simp only[ae7,beq_iff_eq,uV]at d;obtain⟨⟨⟨⟨⟨p,q⟩,hd⟩,r⟩,H⟩,s⟩:=d;have hs:=hs e H;have I:(n+n')*P.bytesOf e<=140737488355328:=ff (WS hb s) WY;have J:n+n'<=140737488355328:=NH;have m:z.cells.size=UA P e/\z.cells.toList.all (·.oneCell')/\(P.underlying e).isSome/\acL dx/\news.all (·.oneCell')/\(n+n')*P.bytesOf e<=140737488355328/\n+n'<=140737488355328/\news.length=n'*UA P e:=
    ⟨p,q,hd,r,G,I,J,hGr⟩
   have hlen:(cs++news).length=(n+n')*k:=by rw[aaf,g.1,o,kS]
   by_cases K:n'=0
   .subst K;have u:news=[]:=hGr;subst u;refine⟨v,h,?_,by simpa using g,fun f _ e a=>⟨e,a⟩⟩;obtain⟨L,⟨rfl,rfl⟩|⟨id,c,cap,rfl,C,d,D⟩⟩:=g
    .simp[aaR,i,j,l,hs,m]
    .have:n<=cap:=by grind[UNK]
     simp only[aaR,i,j,l,hs];grind
   .obtain⟨L,⟨rfl,rfl⟩|⟨id,c,cap,rfl,C,w,D⟩⟩:=g
    .have y:cs=[]:=hGr;subst y
     refine⟨_,_,?_,⟨hlen,.inr ⟨h.next,news,UNK+k,by rfl,aai.zT _ _,hGr,.inl rfl⟩⟩,fun f hw e a=>⟨e.alloc hw _,?_⟩⟩
     .have A:¬UNK<=0:=by decide
      have E:¬(0+n'<=0):=NH;simp only[aaR,i,j,l,hs];grind[GB]
     .intro b hb;grind[blk,Le.next]
    .have M:Fw.abN h ⟨id,0,Y⟩ (n*k)=Z cs:=by
      have:n*k<=c.length:=hGr;rw[qF C (n*k) 0 NH];simp[w]
     rcases D with rfl|⟨rfl,B⟩
     .refine⟨_,(h.kill id).alloc (.cells (cs++news)),?_,⟨hlen,.inr ⟨h.next,cs++news,UNK+k,by rfl,by exact aai.zT _ _,hGr,.inl rfl⟩⟩,fun f hw e a=>⟨(e.kill (a _ rfl)).alloc (hw.kill _) _,?_⟩⟩
      .simp only[aaR,i,j,l,hs];grind
      .intro b hb;grind[blk,Le.next]
     .have A:¬UNK<=cap:=TN.2 (aiq B WY)
      refine⟨_,_,?_,⟨hlen,.inr ⟨h.next,cs++news,UNK+k,by rfl,aai.zT _ _,hGr,.inl rfl⟩⟩,fun f hw e a=>⟨e.alloc hw _,?_⟩⟩
      .simp only[aaR,i,j,l,hs];grind[GB]
      .intro b hb;grind[blk,Le.next]
  .cases d
 .cases d
theorem all_rep{v:vV}(a:v.oneCell'=tT)(n:Nat):(rP n v).all (·.oneCell')=tT:=hGr
theorem Ye{t e:TypeId}{z:vV}{d:TypeDesc}(h:aai)(a:P.underlying t=Z (.slice e))(b:acd P e=Z z)(c:z.cells=#[z])(hf:flat z=tT)(f:z.oneCell'=tT)(hs:UA P e=1)(hd:P.underlying e=Z d)(hb:(P.bytesOf e).ble 1000=tT)(n:Nat)(g:n<=1000000):
  abl P h t n n=Z (sL (Z h.next) n n,h.alloc (.cells (rP n z))):=by
 have i:(P.bytesOf e:Int)*n<=140737488355328:=by have:P.bytesOf e*n<=1000*1000000:=WS (qL249 hb) g;grind
 have j:(n:Int)<=140737488355328:=NH;simp[abl,a,b,c,hf,hs,hd,i,j,IF,HW,f]
theorem IQ{t e:TypeId}{d:TypeDesc}{k n id off dl dc:Nat}{c cs:xLV}{v:vV}(i:P.underlying t=Z (.slice e))(hd:P.underlying e=Z d)(j:UA P e=k)(s:h.own id=Z (.cells c))(g:CS k h v n cs)(l:cs.all (·.oneCell')=tT)(m:Nat)(o:min n dl=m)(p:m≠0)(hb:off+m*k<=c.length):
  afo P h t (sL (Z ⟨id,off,Y⟩) dl dc) v=Z (.int .i64 m,h.put id (.cells (c.take off++cs.take (m*k)++c.drop (off+m*k)))):=by
 have q:n≠0:=NH;have b:m<=n:=NH;have hlen:afj v=Z n:=by obtain⟨a,cap,rfl,_⟩:=g.sl;rfl
 have hf:=g.first q m b
 have hle:m*k<=n*k:=WZ _ b;have u:(cs.take (m*k)).length=m*k:=by grind[CS.len]
 have r:(cs.take (m*k)).all (·.oneCell')=tT:=hGr;have f:off+(cs.take (m*k)).length<=c.length/\(cs.take (m*k)).all (·.oneCell')/\m≠0:=⟨hGr,r,p⟩;simp only[afo,i,hlen,hd,ah9,if_true,o,j];grind[IW]
def afl{t e:TypeId}{d:TypeDesc}{dl dc n:Nat}{a:Option Addr}{v:vV}(b:P.underlying t=Z (.slice e))(hd:P.underlying e=Z d)(c:UA P e≠0)(f:xO v n)(g:min n dl=0):
  afo P h t (.slice a dl dc) v=Z (.int .i64 (0:Nat),h):=by
 obtain⟨a,cap,rfl,_⟩:=f;simp[afo,b,afj,hd,g,c]
def aSlice_lo{t e:TypeId}{d:TypeDesc}{n cap:Nat}{a:Option Addr}(b:P.underlying t=Z (.slice e))(hd:P.underlying e=Z d)(c:UA P e=1){k:IntKind}(i:Nat)(hi:i<=n)(l:n<cap\/i<n)(f:n<=cap)(hs:cap<UNK):
  abf P t (.slice a n cap) (Z (.int k i)) Y Y=Z (.slice (a.map (fun a=>Ip a i)) (n-i) (cap-i)):=by
 have g:¬UNK<=cap:=NH;have h2:(0:Int)<=i:=NH;have h3:(i:Int)<=n:=NH;have j:¬(cap=i):=NH;simp[abf,b,g,f,hd,abm,abL,h2,h3,j,c]
def pn{t e:TypeId}{d:TypeDesc}{n cap:Nat}{a:Addr}(b:P.underlying t=Z (.slice e))(hd:P.underlying e=Z d){k:IntKind}(i:Nat)(hi:i<=cap)(c:n<=cap)(hs:cap<UNK):
  abf P t (sL (Z a) n cap) Y (Z (.int k i)) Y=Z (sL (Z a) i cap):=by
 have f:¬UNK<=cap:=NH;have h2:(0:Int)<=i:=NH;have h3:(i:Int)<=cap:=NH;simp[abf,b,f,c,hd,abm,abL,h2,h3,Ip]
theorem CS.own{k id off n cap:Nat}{c:xLV}(b:h.own id=Z (.cells c))(d:off+n*k<=c.length):CS k h (sL (Z ⟨id,off,Y⟩) n cap) n ((c.drop off).take (n*k)):=by
 have a:((c.drop off).take (n*k)).length=n*k:=by simp;omega
 refine⟨⟨_,cap,rfl,Ma⟩,a,fun i x e=>?_⟩;grind[fA,Ip.eq_1,YP]
def Wc{t e:TypeId}{d:TypeDesc}{a:Addr}{n cap:Nat}(b:P.underlying t=Z (.slice e))(hd:P.underlying e=Z d)(hs:UA P e=1){k:IntKind}(i:Nat)(hi:i<n):
  aao P t (sL (Z a) n cap) (.int k i)=Z (pT (Z (Ip a i))):=by
 have c:(i:Int)<(n:Int):=NH;simp[aao,b,c,hd,hs]
def Jg{t e:TypeId}{a:Option Addr}{n cap:Nat}(b:P.underlying t=Z (.slice e))(h:aai):aeh P h t (.slice a n cap)=Z (.int .i64 n):=by simp[aeh,b]
theorem aG{v v':vV}(hf:∀f,WF h->Le f h->Z2 f v->Le f h'/\Z2 f v')(hw:WF h){a:Nat}{o:fK}(g:h.own a=Z o)(hb:blk v≠Z a):h'.own a=Z o/\blk v'≠Z a:=by
 cases j:blk v with
 |none=>have⟨d,h2⟩:=hf h hw (Le.refl h) (fun b hb=>by grind);exact⟨d.own _ _ g,fun e=>by have:=h2 a e;grind⟩
 |some b=>
  have i:a≠b:=hGr;have⟨d,h2⟩:=hf (h.kill b) hw (Le.Qz h b) (fun c k=>by grind[aai.Dg]);have:(h.kill b).own a=Z o:=by grind[aai.xJ]
  exact⟨d.own _ _ this,fun e=>by have h3:=h2 a e;grind⟩
theorem GS.push{t:TypeId}{n id:Nat}{v x:vV}{cs:xLV}(b:apT P t t 1=tT)(g:GS 1 h v n cs)(c:h.own id=Z (.cells [x]))(a:cs.all (·.oneCell')=tT)(d:x.oneCell'=tT)(hb:n+1<=1000000000):
  ∃v' h',aaR P h t t v (sL (Z id) 1 1)=Z (v',h')/\GS 1 h' v' (n+1) (cs++[x])/\(∀f,WF h->Le f h->Z2 f v->Le f h'/\Z2 f v'):=
 g.append b (fun e i=>(CS.own (k:=1) (off:=0) (n:=1) (cap:=1) c Ma).src i) a (by simp[d]) Ma hb
theorem RL.load'{α:Type}{R:aai->vV->α->Prop}{g:aai}{v:vV}{xs:List α}(a:RL R g v xs){e:TypeId}{d:TypeDesc}(b:P.underlying e=Z d)(hd:ab8 d=fF)(i:Nat)(hi:i<xs.length):
  ∃u,(∀h,Le g h->aaC P h e (aaq v i)=Z u)/\R g u xs[i]:=by grind[RL.load,Bj,Le.read]
def rem(l:II)(h:aai):aai:=l.foldr (fun i g=>g.kill i) h
theorem vL(l:II):(rem l h).ext=h.ext:=by
 induction l with
 |nil=>rfl
 |cons a l b=>exact b
theorem DC(l:II)(i:Nat):(rem l h).own i=if i∈l then Y else h.own i:=by
 induction l<;>grind[rem,uU]
theorem Th{l:II}{i:Nat}{o:fK}:(rem l h).own i=Z o↔h.own i=Z o/\i∉l:=by grind[DC]
theorem Sa(l:II)(h:aai):Le (rem l h) h:=⟨(vL l).symm,fun i o hi=>(Th.1 hi).1⟩
theorem Le.rem{l l':II}(a:h'.ext=h.ext)(b:∀i o,h.own i=Z o->i∉l->h'.own i=Z o/\i∉l'):Le (Fw.rem l h) (Fw.rem l' h'):=⟨by grind[vL],fun i o hi=>by grind[Th]⟩
theorem Le.iV{g:aai}{l:II}(e:Le g h)(a:∀i∈l,g.own i=Option.none):Le g (Fw.rem l h):=⟨by grind[vL,Le.ext],fun i o hi=>Th.2 ⟨e.own _ _ hi,fun b=>by grind⟩⟩
def Le.Xm{l:II}(e:Le h h'):Le (Fw.rem l h) (Fw.rem l h'):=Le.rem e.ext fun i o hi a=>⟨e.own _ _ hi,a⟩
def bl(v:vV):II:=(blk v).toList
theorem Zr{v:vV}{i:Nat}:i∈bl v↔blk v=Z i:=by simp[bl]
def GS.Fi{k n:Nat}{v:vV}{cs:xLV}{l:II}(g:GS k h v n cs)(hb:∀b,blk v=Z b->b∉l):GS k (rem l h) v n cs:=by
 obtain⟨a,g|⟨id,c,cap,rfl,d,r⟩⟩:=g
 .exact⟨a,.inl g⟩
 .exact⟨a,.inr ⟨id,c,cap,rfl,Th.2 ⟨d,hb id rfl⟩,r⟩⟩
theorem GS.Sy{k n:Nat}{v:vV}{cs:xLV}(g:GS k h v n cs){b:Nat}(hb:blk v=Z b):h.own b≠Y:=by
 obtain⟨a,⟨rfl,_⟩|⟨id,c,cap,rfl,d,r⟩⟩:=g
 .cases hb
 .injection hb with hb;grind
def cu(v:vV):Prop:=v=.slice Y 0 0\/∃a n c,v=.slice a n c/\UNK<=c
theorem uZ{t xt:TypeId}{v x v':vV}(e:aaR P h t xt v x=Z (v',h'))(d:cu v):cu v':=by
 have key:∀base len cap,v=.slice base len cap->(v=.slice Y 0 0\/UNK<=cap)->cu v':=by
  intro base len cap f g;subst f;unfold aaR at e;split at e
  .rename_i heq;injection heq with i h2 h3;subst i h2 h3;split at e
   .split at e
    .split at e
     .grind
     .split at e
      .split at e
       .split at e
        .split at e
         .split at e
          .injection e with e;injection e with b j;subst b;exact .inr ⟨_,_,_,rfl,by assumption⟩
          .cases e
         .cases e
        .cases e
       .cases e
      .split at e
       .grind
       .split at e
        .split at e
         .injection e with e;injection e with b j;subst b;exact .inr ⟨_,_,_,rfl,qL223 _ _⟩
         .cases e
        .cases e
    .cases e
   .cases e
  .cases e
 rcases d with rfl|⟨a,n,c,rfl,k⟩
 all_goals grind
theorem Ub(a:Addr)(i j:Nat):Ip (Ip a i) j=Ip a (i+j):=by grind[Ip]
theorem RS.part{a:Addr}{n cap cap' lo hi:Nat}{vs:xLV}(r:RS h (sL (Z a) n cap) vs)(d:lo<=hi)(h2:hi<=n)(e:vs.length=n):RS h (sL (Z (Ip a lo)) (hi-lo) cap') ((vs.drop lo).take (hi-lo)):=by
 have c:((vs.drop lo).take (hi-lo)).length=hi-lo:=by simp;omega
 refine⟨⟨_,cap',by rw[c],Ma⟩,fun i x b=>?_⟩;rw[fA,Ub];rw[afC]at b;split at b
 .rw[zx]at b;have:=r.get (lo+i) x b;grind[fA]
 .cases b
def RS.none'{a:Option Addr}{n cap cap':Nat}{a':Option Addr}(b:n=0):RS h (.slice a' n cap') []:=by subst b;exact⟨⟨a',cap',rfl,Ma⟩,fun i x c=>by simp at c⟩
theorem Hx{n:Nat}{v:vV}{cs:xLV}{t e:TypeId}{d:TypeDesc}(i:P.underlying t=Z (.slice e))(hd:P.underlying e=Z d)(hs:UA P e=1)(g:GS 1 h v n cs)(p:n≠0)(lo hi:Nat)(l:lo<=hi)(h2:hi<=n):
  ∃v',abf P t v (Z (.int .i64 lo)) (Z (.int .i64 hi)) Y=Z v'/\RS h v' ((cs.drop lo).take (hi-lo)):=by
 have gc:=g.cs.rs;obtain⟨q,⟨rfl,rfl⟩|⟨id,c,cap,rfl,r,s,m⟩⟩:=g
 .grind
 .have n1:(0:Int)<=lo:=NH;have j:(lo:Int)<=hi:=NH;have n3:(hi:Int)<=n:=NH;have k:(0:Int)<=hi:=NH;have b:cs.length=n:=hGr;rcases m with rfl|⟨rfl,o⟩
  .refine⟨sL (Z (Ip ⟨id,0,Y⟩ lo)) (hi-lo) (UNK+1),?_,gc.part l h2 b⟩;simp[abf,i,hd,hs,abm,abL,n1,j,n3,k]
  .have f:¬UNK<=cap:=TN.2 (aiq o WY)
   refine⟨.slice (if cap=lo then Z id else Z (Ip ⟨id,0,Y⟩ lo)) (hi-lo) (cap-lo),?_,?_⟩
   .simp[abf,i,hd,hs,abm,abL,n1,j,n3,k,f]
   .split
    .have:hi-lo=0:=NH;rw[this];simp only[alZ];exact RS.none' (a:=Y) (cap:=0) rfl
    grind[RS.part]
def GT(k:Nat)(h:aai)(v:vV)(n:Nat)(cs:xLV):Prop:=
 cs.length=n*k/\((v=.slice Y 0 0/\n=0)\/
  ∃id c cap,v=sL (Z ⟨id,0,Y⟩) n cap/\h.own id=Z (.cells c)/\c.take (n*k)=cs/\(cap=UNK+k\/(n<=cap/\cap<1000000000000/\cap*k<=c.length)))
theorem GS.gt{k n:Nat}{v:vV}{cs:xLV}(g:GS k h v n cs):GT k h v n cs:=by
 obtain⟨a,g|⟨id,c,cap,rfl,b,d,r⟩⟩:=g
 .exact⟨a,.inl g⟩
 .refine⟨a,.inr ⟨id,c,cap,rfl,b,d,?_⟩⟩;grind
theorem GT.le{k n:Nat}{v:vV}{cs:xLV}(g:GT k h v n cs)(e:Le h h'):GT k h' v n cs:=by
 obtain⟨a,g|⟨id,c,cap,rfl,b,r⟩⟩:=g
 .exact⟨a,.inl g⟩
 .exact⟨a,.inr ⟨id,c,cap,rfl,e.own _ _ b,r⟩⟩
theorem GT.kept{k n:Nat}{v:vV}{cs:xLV}(g:GT k h v n cs)(d:∀b o,blk v=Z b->h.own b=Z o->h'.own b=Z o):GT k h' v n cs:=by
 obtain⟨a,q|⟨i,c,cap,rfl,e,rr⟩⟩:=g
 .exact⟨a,.inl q⟩
 .exact⟨a,.inr ⟨i,c,cap,rfl,d i _ rfl e,rr⟩⟩
theorem GT.put{k n:Nat}{v:vV}{cs:xLV}(g:GT k h v n cs){id:Nat}(o:fK)(hb:blk v≠Z id):GT k (h.put id o) v n cs:=g.kept fun b a c d=>by grind[aai.By]
theorem GT.cs{k n:Nat}{v:vV}{cs:xLV}(g:GT k h v n cs):CS k h v n cs:=by
 obtain⟨a,⟨rfl,rfl⟩|⟨id,c,cap,rfl,b,rfl,d⟩⟩:=g
 .grind[CS.nil]
 .refine⟨⟨_,cap,rfl,Ma⟩,a,fun i x e=>?_⟩;grind[fA,Ip.eq_1,YP]
theorem GT.Sy{k n:Nat}{v:vV}{cs:xLV}(g:GT k h v n cs){b:Nat}(hb:blk v=Z b):∃c,h.own b=Z (.cells c):=by
 obtain⟨a,⟨rfl,rfl⟩|⟨i,c,cap,rfl,d,rr⟩⟩:=g
 .cases hb
 .injection hb with hb;grind
theorem GT.append{t xt:TypeId}{k n n':Nat}{v x:vV}{cs news:xLV}(m:apT P t xt k=tT)(g:GT k h v n cs)(hs:∀e,UA P e=k->aby P h e x=Z (n',news))(o:cs.all (·.oneCell')=tT)(A:news.all (·.oneCell')=tT)(d:news.length=n'*k)(hb:n+n'<=1000000000):
  ∃v' h',aaR P h t xt v x=Z (v',h')/\GT k h' v' (n+n') (cs++news)/\(∀f,WF h->Le f h->Z2 f v->Le f h'/\Z2 f v'):=by
 obtain⟨r,⟨rfl,rfl⟩|⟨id,c,cap,rfl,w,i,O⟩⟩:=g
 .have B:cs=[]:=by simpa using r
  subst B;have⟨v',h',C,D,e3⟩:=GS.append m (GS.nil k h) hs o A d hb;exact⟨v',h',C,D.gt,e3⟩
 .rcases O with rfl|⟨s,p,q⟩
  .obtain⟨v',h',C,D,e3⟩:=GS.append m ⟨r,.inr ⟨id,c,_,rfl,w,i,.inl rfl⟩⟩ hs o A d hb;exact⟨v',h',C,D.gt,e3⟩
  .unfold apT at m;split at m
   .rename_i e dx E F;split at m
    .rename_i z G;simp only[ae7,beq_iff_eq,uV]at m;obtain⟨⟨⟨⟨⟨H,I⟩,hd⟩,J⟩,y⟩,K⟩:=m;have hs:=hs e y;have Q:(n+n')*P.bytesOf e<=140737488355328:=ff (WS hb K) WY;have R:n+n'<=140737488355328:=NH;have j:z.cells.size=UA P e/\z.cells.toList.all (·.oneCell')/\(P.underlying e).isSome/\acL dx/\news.all (·.oneCell')/\(n+n')*P.bytesOf e<=140737488355328/\n+n'<=140737488355328/\news.length=n'*UA P e:=
      ⟨H,I,hd,J,A,Q,R,by rw[y];exact d⟩
     have hlen:(cs++news).length=(n+n')*k:=by rw[aaf,r,d,kS]
     have u:¬UNK<=cap:=TN.2 (aiq p WY);have L:Fw.abN h ⟨id,0,Y⟩ (n*k)=Z cs:=by
      have:n*k<=c.length:=by have:=r;rw[<-i,uu]at this;omega
      rw[qF w (n*k) 0 NH];simp[i]
     by_cases M:n'=0
     .subst M;have N:news=[]:=by simpa using d
      subst N;refine⟨_,h,?_,⟨by simpa using r,.inr ⟨id,c,cap,rfl,w,by simpa using i,.inr ⟨s,p,q⟩⟩⟩,fun f _ e a=>⟨e,a⟩⟩;simp only[aaR,E,F,G,hs];rw[WA j,WA trivial,WA s];rfl
     .by_cases hf:n+n'<=cap
      .have l:n*k+news.length<=c.length:=by rw[d,<-kS];exact ff (WZ _ hf) q
       refine⟨sL (Z id) (n+n') cap,h.put id (.cells (putCells c (n*k) news)),?_,⟨hlen,.inr ⟨id,_,cap,rfl,aai.Y3 _ _ _,?_,.inr ⟨hf,p,by rw[O7];exact q⟩⟩⟩,fun f _ e a=>⟨e.put _ (a _ rfl),a⟩⟩
       .simp only[aaR,E,F,G,hs];rw[WA j,IE M,IE u,WA hf];simp only[w,y,BS,l,if_true]
       .rw[IW _ _ _ l];rw[oZ (by simp[d];rw[kS];omega)];rw[abe (by simp[d];rw[kS];omega),i]
      .refine⟨_,_,?_,⟨hlen,.inr ⟨h.next,cs++news,UNK+k,rfl,aai.zT _ _,by rw[<-hlen,alJ],.inl rfl⟩⟩,fun f hw e a=>⟨e.alloc hw _,?_⟩⟩
       .simp only[aaR,E,F,G,hs];rw[WA j,IE M,IE u,IE hf];simp only[GB,y,L,o,if_true]
       .intro b hb;simp[blk]at hb;subst hb;exact e.next hw (qL0 _)
    .cases m
   .cases m
theorem GT.push{t:TypeId}{n id:Nat}{v x:vV}{cs:xLV}(b:apT P t t 1=tT)(g:GT 1 h v n cs)(c:h.own id=Z (.cells [x]))(a:cs.all (·.oneCell')=tT)(i:x.oneCell'=tT)(hb:n+1<=1000000000):
  ∃v' h',aaR P h t t v (sL (Z id) 1 1)=Z (v',h')/\GT 1 h' v' (n+1) (cs++[x])/\(∀f,WF h->Le f h->Z2 f v->Le f h'/\Z2 f v'):=
 GT.append b g (fun e d=>CS.src d (CS.own (k:=1) (off:=0) (n:=1) (cap:=1) c Ma)) a hGr Ma hb
theorem GT.cut{k n:Nat}{v:vV}{cs:xLV}{t e:TypeId}{d:TypeDesc}(i:P.underlying t=Z (.slice e))(hd:P.underlying e=Z d)(hs:UA P e=k)(g:GT k h v n cs)(m:Nat)(p:m<=n):
  ∃v',abf P t v Y (Z (.int .i64 m)) Y=Z v'/\GT k h v' m (cs.take (m*k))/\blk v'=blk v:=by
 obtain⟨u,⟨rfl,rfl⟩|⟨id,c,cap,rfl,o,w,q⟩⟩:=g
 .obtain rfl:m=0:=NH;refine⟨.slice Y 0 0,?_,⟨Ma,.inl ⟨rfl,rfl⟩⟩,rfl⟩;have:¬UNK<=0:=by decide
  simp[abf,i,hd,this,abm,abL]
 .have h2:(0:Int)<=m:=NH;have r:m*k<=n*k:=WZ _ p;have a:cs.take (m*k)=c.take (m*k):=hGr;have b:(cs.take (m*k)).length=m*k:=hGr;rcases q with rfl|⟨j,f,l⟩
  .have h3:(m:Int)<=n:=NH;refine⟨sL (Z id) m (UNK+k),?_,⟨b,.inr ⟨id,c,_,rfl,o,a.symm,.inl rfl⟩⟩,rfl⟩;simp[abf,i,hd,hs,abm,abL,Ip,h2,h3]
  .have s:¬UNK<=cap:=TN.2 (aiq f WY);have h3:(m:Int)<=cap:=NH;refine⟨sL (Z id) m cap,?_,⟨b,.inr ⟨id,c,_,rfl,o,a.symm,.inr ⟨NH,f,l⟩⟩⟩,rfl⟩;simp[abf,i,s,j,hd,abm,abL,h2,h3,Ip]
def Lj{α:Type}(R:aai->vV->α->Prop)(h:aai)(v:vV)(xs:List α):Prop:=∃us:xLV,GS 1 h v us.length us/\us.length=xs.length/\us.all (·.oneCell')=tT/\∀(i:Nat) x u,xs[i]?=Z x->us[i]?=Z u->R (rem (bl v) h) u x
section
variable{α:Type}{R:aai->vV->α->Prop}{v:vV}{xs:List α}
theorem Lj.rl(s:Nn R)(g:Lj R h v xs):RL R h v xs:=by have⟨us,a,b,_,c⟩:=g;exact⟨us,a.cs.rs,b,fun i x u d e=>s _ _ _ _ (c i x u d e) (Sa _ _)⟩
theorem Lj.le(s:Nn R)(g:Lj R h v xs)(e:Le h h'):Lj R h' v xs:=by have⟨us,a,b,c,d⟩:=g;exact⟨us,a.le e,b,c,fun i x u f j=>s _ _ _ _ (d i x u f j) e.Xm⟩
theorem Lj.nil(R:aai->vV->α->Prop)(h:aai):Lj R h (.slice Y 0 0) []:=⟨[],GS.nil 1 h,rfl,rfl,fun i x u a=>by simp at a⟩
theorem Lj.empty(R:aai->vV->α->Prop){id:Nat}(a:h.own id=Z (.cells [])):Lj R h (sL (Z id) 0 0) []:=⟨[],GS.full a rfl WY,rfl,rfl,fun i x u b=>by simp at b⟩
theorem Lj.push(s:Nn R){t:TypeId}(n:apT P t t 1=tT)(g:Lj R h v xs)(c:WF h){u:vV}{x:α}(p:R (rem (bl v) h) u x)(u1:u.oneCell'=tT)(F:xs.length<=100000000):
  ∃k v' a,h.alloc (.cells [u])=k/\aaR P k t t v (sL (Z h.next) 1 1)=Z (v',a)/\Lj R a v' (xs++[x])/\Le h k/\WF k/\
   (∀f,Le f h->Z2 f v->Le f a/\Z2 f v')/\(∀b o,h.own b=Z o->blk v≠Z b->a.own b=Z o/\blk v'≠Z b):=by
 have⟨us,q,m,r,z⟩:=g;have l4:Le h (h.alloc (.cells [u])):=(Le.refl h).alloc c _;have l:WF (h.alloc (.cells [u])):=c.alloc _
 have A:(h.alloc (.cells [u])).own h.next=Z (.cells [u]):=aai.zT _ _
 have⟨v',a,B,G,hf⟩:=GS.push (P:=P) n (q.le l4) A r u1 NH;refine⟨_,v',a,rfl,B,⟨us++[u],?_,by simp[m],hGr,fun i y w d hw=>?_⟩,l4,l,fun f C af=>hf f l (C.trans l4) af,fun b o D hb=>aG hf l (l4.own _ _ D) hb⟩
 .grind
 .have j:Z2 (rem (bl v) h) v:=fun b hb=>by grind[DC,Zr]
  have⟨l5,E⟩:=hf _ l ((Sa (bl v) h).trans l4) j;have le:Le (rem (bl v) h) (rem (bl v') a):=l5.iV fun i hi=>E i (Zr.1 hi);by_cases hi:i<us.length
  .rw[eR hi]at hw;rw[eR NH]at d;exact s _ _ _ _ (z i y w d hw) le
  .have e:i=us.length:=hGr;subst e;rw[jf NH]at hw;rw[jf NH,m]at d;simp at hw d;subst hw d;exact s _ _ _ _ p le
def RMR(l:II)(R:aai->vV->α->Prop):aai->vV->α->Prop:=fun h u x=>R (rem l h) u x
def RMR.stays(s:Nn R)(l:II):Nn (RMR l R):=fun _ _ _ _ r e=>s _ _ _ _ r e.Xm
theorem xk(l l':II)(h:aai):Le (rem l (rem l' h)) (rem l' (rem l h)):=⟨by simp[vL],fun i o hi=>by grind[Th]⟩
def Lj.remI(s:Nn R){l:II}(g:Lj R (rem l h) v xs):Lj (RMR l R) h v xs:=by have⟨us,a,b,c,d⟩:=g;exact⟨us,a.le (Sa _ _),b,c,fun i x u e f=>s _ _ _ _ (d i x u e f) (xk _ _ _)⟩
def Lj.remE(s:Nn R){l:II}(g:Lj (RMR l R) h v xs)(hb:∀b,blk v=Z b->b∉l):Lj R (rem l h) v xs:=by have⟨us,a,c,d,e⟩:=g;exact⟨us,a.Fi hb,c,d,fun i x u f j=>s _ _ _ _ (e i x u f j) (xk _ _ _)⟩
theorem Lj.mG(s:Nn R){l:II}{t:TypeId}(e:apT P t t 1=tT)(g:Lj R (rem l h) v xs)(d:WF h){u:vV}{x:α}(i:R (rem l (rem (bl v) h)) u x)(u1:u.oneCell'=tT)(j:xs.length<=100000000)(hb:∀b,blk v=Z b->b∉l)(r:∀b∈l,h.own b≠Y):
  ∃a v' c,h.alloc (.cells [u])=a/\aaR P a t t v (sL (Z h.next) 1 1)=Z (v',c)/\Lj R (rem l c) v' (xs++[x])/\Le h a/\WF a/\
   (∀f,Le f h->Z2 f v->Le f c/\Z2 f v')/\(∀b o,h.own b=Z o->blk v≠Z b->c.own b=Z o/\blk v'≠Z b):=by
 have⟨a,v',c,e4,k,m,l4,n,p,q⟩:=Lj.push (RMR.stays s l) e (g.remI s) d (u:=u) (x:=x) i u1 j;refine⟨a,v',c,e4,k,m.remE s fun b sZ w=>?_,l4,n,p,q⟩;cases y:h.own b<;>grind
end
end
def kA:=@cond_true
def kB:=@cond_false
def kC:=@Trie.YO
def kD:=@acg
def kE:=@List.append_eq
def kF:=@ak4
def kG:=@JR
def kH:=@MY
def kI:=@dZ
def kJ:=@alK
def kK:=@beq_self_eq_true
def kL:=@List.filter_nil
def kM:=@akM
def kN:=@List.contains_cons
def kO:=@List.contains_nil
def kS1:=XC @ag6 (XC @fst_mk (XC @snd_mk (XC @Mc (XC @VK_ret (XC @af3 (XC @VK_seq (XC @akw (XC @qS (XC @af4 (XC @L5 (XC @Fe (XC @Wi (XC @T4 (XC @KN_nil (XC @KN_seq (XC @KN_blk (XC @sn (XC @Vy (XC @Y6 (XC @Kw (XC @zz (XC @acE (XC @J1 (XC @KE_ret (XC @mK (XC @KO_nil (XC @cj (XC @agc (XC @Q2 (XC @HA (XC @aiN (XC @Px (XC @re (XC @OD (XC @EV (XC @NA (XC @ac7 (XC @qL235 (XC @Nat.zero_ne_one (XC @Bool.not_true (XC @qL247 (XC @aeO (XC @Bool.true_beq (XC @Bool.false_beq (XC @beq_true (XC @beq_false (XC @decide_true (XC @decide_false (XC @Bool.not_not (XC @alY (XC @Bool.true_and (XC @Bool.and_false (@Bool.false_and)))))))))))))))))))))))))))))))))))))))))))))))))))))
def kJ1:=XC @ag6 (XC @fst_mk (XC @snd_mk (XC @Mc (XC @VK_ret (XC @af3 (XC @VK_seq (XC @akw (XC @qS (XC @af4 (XC @L5 (XC @Fe (XC @Wi (XC @T4 (XC @KN_nil (XC @KN_blk (XC @sn (XC @Vy (XC @Y6 (XC @Kw (XC @zz (XC @acE (XC @J1 (XC @KE_ret (XC @mK (XC @KO_nil (XC @cj (XC @agc (XC @Q2 (XC @HA (XC @aiN (XC @Px (XC @re (XC @OD (XC @EV (XC @NA (XC @ac7 (XC @qL235 (XC @Nat.zero_ne_one (XC @Bool.not_true (XC @qL247 (XC @aeO (XC @Bool.true_beq (XC @Bool.false_beq (XC @beq_true (XC @beq_false (XC @decide_true (XC @decide_false (XC @Bool.not_not (XC @alY (XC @Bool.true_and (XC @Bool.and_false (@Bool.false_and))))))))))))))))))))))))))))))))))))))))))))))))))))
def kD1:=XC @fRn.eq_1 (XC @fRn.eq_2 (XC @tA.eq_1 (XC @tA.eq_2 (XC @JQ.eq_1 (XC @Bool.or_self (XC @aeu (XC @KD_done (XC @KD_no (XC @KD_fl (XC @KF1_some (XC @KF2_true (XC @KF2_false (XC @KF3_some (XC @KF4_some (XC @KD_ch (XC @KG1_some (XC @KG2_true (XC @KG2_false (XC @KG3_true (XC @KG3_false (XC @KG4_some (XC @KG5_some (XC @Holds_eq (XC @H1_some (XC @H2_true (XC @H2_false (XC @H3_some (XC @HD_some (XC @HD_none (XC @Bool.or_false (XC @Bool.false_or (XC @Bool.true_or (XC @Bool.or_true (XC @true_and (@and_true)))))))))))))))))))))))))))))))))))
def kS2:=XC @cond_true.{1} (XC @cond_false.{1} (XC @Trie.YO (XC @acg.{0} (XC @List.append_eq.{0} (XC @ak4.{0} (XC @JR.{0} (XC @MY.{0} (XC @dZ.{0} (XC @alK.{0,0} (XC @beq_self_eq_true.{0} (XC @aer.eq_1 (XC @aet.eq_1 (XC @ab6.eq_1 (XC @Zm.eq_1 (XC @abr.eq_1 (XC @aa6.eq_1 (XC @aa6.eq_2 (XC @aa6.eq_3 (XC @aa6.eq_4 (XC @acZ.eq_1 (XC @acZ.eq_2 (XC @aeb.eq_1 (XC @aeb.eq_2 (XC @aec.eq_1 (XC @aec.eq_2 (XC @putDst.eq_1 (XC @putDst.eq_2 (XC @flat.eq_1 (XC @flat.eq_2 (XC @flat.eq_3 (XC @flat.eq_4 (XC @flat.eq_5 (XC @flat.eq_6 (XC @flat.eq_7 (XC @flat.eq_8 (XC @flat.eq_9 (XC @aeZ.eq_1 (XC @aeZ.eq_2 (XC @aeZ.eq_3 (XC @aeZ.eq_4 (XC @aeZ.eq_5 (XC @aeZ.eq_6 (XC @aeZ.eq_7 (XC @mM.eq_1 (XC @aci.eq_1 (XC @aci.eq_2 (XC @ae3.eq_1 (XC @ae3.eq_2 (XC @ae3.eq_3 (XC @ae3.eq_4 (XC @ae3.eq_5 (XC @ae3.eq_6 (XC @adY.eq_1 (XC @adY.eq_2 (XC @adY.eq_3 (XC @adY.eq_4 (XC @adY.eq_5 (XC @adY.eq_6 (XC @adY.eq_7 (XC @adY.eq_8 (XC @adY.eq_9 (XC @adY.eq_10 (XC @adY.eq_11 (XC @adY.eq_12 (XC @adY.eq_13 (XC @adY.eq_14 (XC @adY.eq_15 (XC @adY.eq_16 (XC @aUn.eq_1 (XC @aUn.eq_2 (XC @aUn.eq_3 (XC @acy.eq_1 (XC @acy.eq_2 (XC @acy.eq_3 (XC @agk.eq_1 (XC @agk.eq_2 (XC @agk.eq_3 (XC @G8.eq_1 (XC @acD.eq_1 (XC @acf.eq_1 (XC @acf.eq_2 (XC @ad7.eq_1 (XC @ad7.eq_2 (XC @mkF.eq_1 (XC @mkF.eq_2 (XC @Yx.eq_1 (XC @acW.eq_1 (XC @acW.eq_2 (@abt.eq_1)))))))))))))))))))))))))))))))))))))))))))))))))))))))))))))))))))))))))))))))))))))))))
def HO:=XC @kS1 @kS2
def Qg:=XC @kD1 (XC @abj.eq_1 (XC @abj.eq_2 (XC @List.filter_nil.{0} (XC @akM.{0} (XC @List.contains_cons.{0} @List.contains_nil.{0})))))
def kJJ:=XC @kJ1 @kS2
theorem fD{p:Prop}(h:p:=by simp only[Fj,HO,Nat.reduceLT,↓reduceIte,Nat.reduceEqDiff,reduceCtorEq];simp):p:=h
theorem PJ{p:Prop}(h:p:=by simp only[HO,Nat.reduceLT,↓reduceIte,Nat.reduceEqDiff,reduceCtorEq]<;>rfl):p:=h
theorem sbL{fr:aam}:Sub .leaf fr:=fun k v h=>by simp[Trie.get]at h
theorem sbS{t fr:aam}{k:Nat}{v:Value}(h:Sub t fr)(e:fr.get k=some v):Sub (t.set k v) fr:=fun k' v' h'=>by
  rw[Trie.YO]at h'
  by_cases hk:k'=k
  ·subst hk;rw[if_pos rfl]at h';injection h' with h';subst h';exact e
  ·rw[if_neg hk]at h';exact h k' v' h'
theorem lgA{I:Nat→aam→aai→Prop}{k k':Nat}{Q:Exit→aam→aai→Prop}{fr fr':aam}{h:aai}(hk:k'<k)(hi:I k' fr' h)(hl:Sub fr' fr:=by(repeat refine sbS ?_ (by simp only[HO,Nat.reduceLT,↓reduceIte,Nat.reduceEqDiff,reduceCtorEq]<;>simp));exact sbL):aeM I k Q .normal fr h:=⟨k',hk,_,hl,hi⟩
theorem lIn{P:Program}{W0:LA}{N:Nat}{fr fr':aam}{h:aai}{c:Code}{ks:List Kt}{R:Exit→aam→aai→Prop}(I:Nat→aam→aai→Prop){k0:Nat}(h0:I k0 fr' h)(hr:∀k fr h,WF h→I k fr h→VK P W0 N c [] (aeM I k (KE P W0 N R ks)) fr h)(hl:Sub fr' fr:=by(repeat refine sbS ?_ (by simp only[HO,Nat.reduceLT,↓reduceIte,Nat.reduceEqDiff,reduceCtorEq]<;>simp));exact sbL):aab P W0 N c ks R fr h:=.loop I k0 _ hl h0 fun k fr h hi=>ud.wf fun hw=>VC.sound (hr k fr h hw hi)
theorem Uy{p q:Prop}(x:q)(e:p=q:=by simp only[HO,Nat.reduceLT,↓reduceIte,Nat.reduceEqDiff,reduceCtorEq];rfl):p:=e.mpr x
theorem Sk{f p q:Prop}(F:f)(x:q)(e:f→p=q:=by intro k;simp only[HO,Nat.reduceLT,↓reduceIte,Nat.reduceEqDiff,reduceCtorEq,k];rfl):p:=(e F).mpr x
theorem CO{f p q:Prop}(F:f)(x:q)(e:f→p=q:=by intro k;simp only[HO,Nat.reduceLT,↓reduceIte,Nat.reduceEqDiff,reduceCtorEq,Nat.reduceBEq,Nat.reduceAdd,Qg,k];rfl):p:=(e F).mpr x
theorem kCi {P:Program} {W0:LA} {N:Nat} {ops:Array Oper} {fr:aam} {h:aai} {ks:List Kt} {R:Exit→aam→aai→Prop} {o:Oper} {l:List Oper} {g:FuncId} {args:List Value} {fn:Func} {Rc:Value→aai→Prop} (hg:P.funcs[g]?=some fn) (ha:AC P W0 g args h Rc)
    (hk:∀v h',WF h'→Rc v h'→Kp P W0 N ops ks R l h' (putDst N fr o.dst v)) (hc:abt fr o=some (g,args):=by simp only[HO,Nat.reduceLT,↓reduceIte,Nat.reduceEqDiff,reduceCtorEq]<;>rfl) (h2:fn.body.isSome=true:=by rfl) (h3:(fn.name== "runtime.NumGoroutine")=false:=by decide):TC P W0 N ops ks R o l fr h:=
  .intro hc ⟨hg,(Option.some_get h2).symm,h3⟩ ha hk
theorem kGi {P:Program} {W0:LA} {N:Nat} {ops:Array Oper} {fr:aam} {h:aai} {ks:List Kt} {R:Exit→aam→aai→Prop} {o:Oper} {t:DT} {aac:List Nat} {g:FuncId} {args:List Value} {fn:Func} {Rc:Value→aai→Prop} (hg:P.funcs[g]?=some fn) (ha:AC P W0 g args h Rc)
    (hk:∀v h',WF h'→Rc v h'→KG5 P W0 N ops ks R t aac h' (putDst N fr o.dst v)) (hc:abt fr o=some (g,args):=by simp only[HO,Nat.reduceLT,↓reduceIte,Nat.reduceEqDiff,reduceCtorEq]<;>rfl) (h2:fn.body.isSome=true:=by rfl) (h3:(fn.name== "runtime.NumGoroutine")=false:=by decide):VA P W0 N ops ks R t aac fr h o:=
  .intro hc ⟨hg,(Option.some_get h2).symm,h3⟩ ha hk
def kAr:=XC @me.eq_1 (XC @aeI.eq_1 @aeI.eq_2)
theorem AC.vE{P:Program}{W0:LA}{h:aai}{f:FuncId}{args:List Value}{fn:Func}{c:Code}{R:Value→aai→Prop}(hg:Good P f fn c){n:Nat}(hn:fn.ntmps=n){rs:Array ResultVar}(hrs:fn.results=rs)(hc:WF h→VK P W0 n c [] (agk P rs.toList R) (me args) h)(hlen:args.length≤n:=by simp):AC P W0 f args h R:=AC.vc hg hn hrs hlen hc
theorem AC.vF {P:Program} {W0:LA} {h:aai} {f:FuncId} {args:List Value} {fn:Func} {c:Code} {fr:aam} {R:Value→aai→Prop} (hf:P.funcs[f]?=some fn) {n:Nat} (hn:fn.ntmps=n) {rs:Array ResultVar} (hrs:fn.results=rs)
    (hc:WF h→VK P W0 n c [] (agk P rs.toList R) fr h) (hb:fn.body=some c:=by rfl) (hm:(fn.name== "runtime.NumGoroutine")=false:=by decide) (he:me args=fr:=by simp only[kAr,Nat.reduceLT,↓reduceIte,Nat.reduceEqDiff,reduceCtorEq];rfl) (hlen:args.length≤n:=by simp):AC P W0 f args h R:=AC.vc ⟨hf,hb,hm⟩ hn hrs hlen (he▸hc)
variable {N i k n w:Nat} {P:Program} {W0:LA} {cs:List Value} {ev v:Value} {h h':aai} {p:Prop} {α:Type}
def mixed:pG.follows .mixedOrders=tT:=Ji
def CA{l:List α}(h:i<l.length):l[i]?=Z l[i]:=Gc h
theorem D4{l:List α}{d:α}(h:i<l.length):l.getD i d=l[i]:=hGr
def RR(p:Prop)(v:vV):Prop:=∃b:Bool,v=.bool b/\(b=tT↔p)
def RR.t(h:p):RR p (.bool tT):=⟨tT,rfl,by simp[h]⟩
theorem RR.f(h:¬p):RR p (.bool fF):=⟨fF,rfl,by simp[h]⟩
theorem acb(h:decide ((i:Int)<(n:Int))=tT):i<n:=hGr
theorem vp(h:decide ((i:Int)<(n:Int))=fF):n<=i:=hGr
def Tt(hw:WF h)(c:xLV):∃h',h.alloc (.cells c)=h'/\Le h h'/\WF h'/\h'.own h.next=Z (.cells c):=⟨_,rfl,(Le.refl h).alloc hw _,hw.alloc _,aai.zT _ _⟩
def Ya{ι κ:Type}{F:ι->κ->Prop}{A:Prop}(Φ:ι->κ->Prop)(a:(∀x y,F x y->Φ x y)->A)(h2:∀x y,F x y->Φ x y):A:=a h2
def KN.UJ{ks:List Kt}{R:Exit->aam->aai->Prop}{fr:aam}(q:∀fr' h',fr'=fr->h'=h->KN P W0 N ks R fr' h'):KN P W0 N ks R fr h:=q fr h rfl rfl
theorem GS.kept(g:GS k h v n cs)(d:∀b o,blk v=Z b->h.own b=Z o->h'.own b=Z o):GS k h' v n cs:=by
 obtain⟨a,q|⟨i,c,cap,rfl,e,rr⟩⟩:=g
 .exact⟨a,.inl q⟩
 .exact⟨a,.inr ⟨i,c,cap,rfl,d i _ rfl e,rr⟩⟩
theorem GS.put{k n:Nat}{h:aai}{v:vV}{cs:xLV}(g:GS k h v n cs){id:Nat}(o:fK)(hb:blk v≠Z id):GS k (h.put id o) v n cs:=g.kept fun b a c d=>by grind[aai.By]
abbrev Pr:=Int×Int
abbrev xLP:=List Pr
def xM(p:Pr):xLV:=[.int .i64 p.1,.int .i64 p.2]
def UI(p:Pr):vV:=.agg #[p.1,p.2]
def Iu(ps:List Pr):xLV:=ps.flatMap xM
theorem Ta(ps:List Pr):(Iu ps).length=ps.length*2:=by
 induction ps<;>grind[Iu,xM]
def WI(ps:List Pr):(Iu ps).all (·.oneCell')=tT:=by rw[vY];intro x a;rw[Iu,abZ]at a;have⟨p,_,a⟩:=a;simp[xM]at a;rcases a with rfl|rfl<;>rfl
theorem mZ(a b:List Pr):Iu (a++b)=Iu a++Iu b:=by simp[Iu]
theorem H5:∀(ps:List Pr)(i:Nat)(p:Pr),ps[i]?=Z p->(Iu ps)[i*2]?=Z (.int .i64 p.1)/\(Iu ps)[i*2+1]?=Z (.int .i64 p.2)
 |[],i,p,h=>by simp at h
 |q::ps,0,p,h=>by grind[Iu,xM]
 |q::ps,i+1,p,h=>by have:=H5 ps i p (by simpa using h);have e:Iu (q::ps)=.int .i64 q.1::.int .i64 q.2::Iu ps:=rfl;grind
def PR(h:aai)(v:vV)(ps:List Pr):Prop:=CS 2 h v ps.length (Iu ps)
def FK(v:vV)(i:Nat):Addr:=aaq v (i*2)
theorem PR.le{h h':aai}{v:vV}{ps:List Pr}(r:PR h v ps)(e:Le h h'):PR h' v ps:=CS.le r e
theorem PR.nil(h:aai):PR h (.slice Y 0 0) []:=CS.nil 2 h
theorem WE:UA pG 49=2:=Ji
def ts3:UA pG 3=1:=Ji
theorem PR.len{ps:List Pr}(r:PR h v ps)(g:aai):aeh pG g 22 v=Z (.int .i64 ps.length):=by obtain⟨a,c,rfl,_⟩:=r.sl;simp[aeh,underlying22]
theorem PR.addr{ps:List Pr}(r:PR h v ps){k:IntKind}(i:Nat)(hi:i<ps.length):aao pG 22 v (.int k i)=Z (pT (Z (FK v i))):=by obtain⟨a,c,rfl,hs⟩:=r.sl;obtain⟨a,rfl⟩:=mJ.1 (hs NH);have b:(i:Int)<(ps.length:Int):=NH;simp[aao,underlying22,underlying49,b,FK,aaq,WE]
def Dh(a:Addr):aao pG 49 (pT (Z a)) (.int .i64 0)=Z (pT (Z (Ip a 0))):=by simp[aao,underlying49,underlying3]
def Z0(a:Addr):aao pG 49 (pT (Z a)) (.int .i64 1)=Z (pT (Z (Ip a 1))):=by simp[aao,underlying49,underlying3,ts3]
theorem PR.get{h:aai}{v:vV}{ps:List Pr}(r:PR h v ps){i:Nat}{p:Pr}(b:ps[i]?=Z p):
  h.read (Ip (FK v i) 0)=Z (.int .i64 p.1)/\h.read (Ip (FK v i) 1)=Z (.int .i64 p.2):=by
 have⟨d,e⟩:=H5 ps i p b;have f:=CS.get r _ _ d;have g:=CS.get r _ _ e;obtain⟨a,c,rfl,hs⟩:=r.sl;grind[Option.isSome_iff_exists,FK,fA,Ip]
def PR.l0{ps:List Pr}(r:PR h v ps){p:Pr}(a:ps[i]?=Z p):aaC pG h 3 (Ip (FK v i) 0)=Z (.int .i64 p.1):=by rw[Bj underlying3 rfl];exact(r.get a).1
def PR.l1{ps:List Pr}(r:PR h v ps){p:Pr}(a:ps[i]?=Z p):aaC pG h 3 (Ip (FK v i) 1)=Z (.int .i64 p.2):=by rw[Bj underlying3 rfl];exact(r.get a).2
theorem PR.load{ps:List Pr}(r:PR h v ps){p:Pr}(b:ps[i]?=Z p):aaC pG h 49 (FK v i)=Z (UI p):=by
 have⟨c,d⟩:=r.get b;have a:abN h (FK v i) 2=Z [.int .i64 p.1,.int .i64 p.2]:=by refine ag8 [p.1,p.2] _ fun j x e=>?_;grind
 have hd:ab8 (.array 2 3)=tT:=rfl;simp only[aaC,underlying49,hd,cond_true,WE,a,UI]
theorem alloc42(h:aai):abO pG h 49=Z (pT (Z h.next),h.alloc (.cells [.int .i64 0,.int .i64 0])):=rfl
def gD{x y:vV}{p:Pr}(a:h.own w=Z (.cells [x,y])):aaK pG h 49 (pT (Z w)) (UI p)=Z (h.put w (.cells (xM p))):=by simp[aaK,a,UI,vV.cells,WE,putCells,xM,underlying49];exact⟨rfl,rfl⟩
def Ci(h:aai)(p:Pr):zF h (UI p)=Z (pT (Z h.next),h.alloc (.cells (xM p))):=rfl
def lK{p:Pr}(a:h.own w=Z (.cells (xM p))):aaC pG h 3 ⟨w,0,Y⟩=Z (.int .i64 p.1):=by rw[Fq underlying3 rfl a];rfl
def HY{p:Pr}(a:h.own w=Z (.cells (xM p))):aaC pG h 3 ⟨w,1,Y⟩=Z (.int .i64 p.2):=by rw[Fq underlying3 rfl a];rfl
def uM{p:Pr}(a:h.own w=Z (.cells (xM p))):aaC pG h 49 ⟨w,0,Y⟩=Z (UI p):=by rw[Wx underlying49 rfl WE a (by simp[xM])];rfl
theorem Ut(hw:WF h)(p:Pr):∃a h2,abO pG h 49=Z (pT (Z h.next),a)/\aaK pG a 49 (pT (Z h.next)) (UI p)=Z h2/\Le h h2/\WF h2/\h2.own h.next=Z (.cells (xM p)):=by
 have⟨a,d,l1,w1,b⟩:=Tt hw [.int .i64 0,.int .i64 0]
 have c:h.own h.next=Y:=(Le.refl h).next hw (qL0 _)
 exact⟨a,_,by grind[alloc42],gD b,l1.put _ c,w1.put _ (w1.lt b),aai.Y3 _ _ _⟩
structure GM where
 n:Int
 es:List Pr
structure GR (h:aai) (v:vV) (G:GM):Prop where
 ex:∃ev,v=.agg #[G.n,ev]/\PR h ev G.es
theorem GR.le{h h':aai}{v:vV}{G:GM}(r:GR h v G)(e:Le h h'):GR h' v G:=by have⟨ev,a,b⟩:=r.ex;exact⟨ev,a,b.le e⟩
def Ii(a:Addr):aca pG 24 (pT (Z a)) 0=Z (pT (Z (Ip a 0))):=rfl
def Di(a:Addr):aca pG 24 (pT (Z a)) 1=Z (pT (Z (Ip a 1))):=rfl
def r8(c:WF h){n:Int}{es:List Pr}(r:PR h ev es):
  ∃a,zF h (.agg #[n,ev])=Z (pT (Z h.next),a)/\Le h a/\WF a/\a.own h.next=Z (.cells [n,ev])/\
   ∀g,Le a g->aaC pG g 24 ⟨h.next,0,Y⟩=Z (.agg #[n,ev])/\aaC pG g 3 ⟨h.next,0,Y⟩=Z (.int .i64 n)/\aaC pG g 22 ⟨h.next,1,Y⟩=Z ev:=by
 have⟨a,d,l1,w1,b⟩:=Tt c [n,ev];have h2:=r.sl.one;refine⟨a,?_,l1,w1,b,fun g e=>⟨?_,Fq underlying3 rfl (e.own _ _ b),Fq underlying22 rfl (e.own _ _ b)⟩⟩
 .rw[<-d];obtain⟨_,_,rfl,_⟩:=r.sl;rfl
 .rw[Wx underlying24 rfl (by kernel_rfl:UA pG 24=2) (e.own _ _ b) Ma];rfl
def xO.cells{v:vV}{n:Nat}(h:xO v n):v.cells=#[v]:=by obtain⟨a,c,rfl,_⟩:=h;rfl
end Go.Fw
