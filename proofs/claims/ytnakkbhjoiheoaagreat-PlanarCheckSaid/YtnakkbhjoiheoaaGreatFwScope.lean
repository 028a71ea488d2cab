/- A text. -/
import Derived.Scope
import Derived.Test.YtnakkbhjoiheoaaGreatFwDraw
set_option linter.all false
set_option maxRecDepth 99999
set_option maxHeartbeats 9999999
namespace Go.Fw
section
variable{P:Program}{W0:LA}{N:Nat}{fr:aam}{h:aai}
def ag0{b:Frame}{a:Act}{k:List Item}{cs:List Frame}{w:World}{c:Code}:step P (lone (b.atR a (.code (.scope c)::k)) cs w)=.next (lone (b.atR a (.code c::.inScope c::k)) cs w):=step_lone_go (by simp[stepG,stepG.exec,Frame.atR])
def EC{b:Frame}{a:Act}{k:List Item}{cs:List Frame}{w:World}{c:Code}:step P (lone (b.atR a (.inScope c::k)) cs w)=.next (lone (b.atR a k) cs w):=step_lone_go (by simp[stepG,stepG.exec,Frame.atR])
def VP{F:Fence}{n:Nat}{Q:Exit->Act->World->Prop}{a:Act}{w:World}{c:Code}(h:c.wpIn F n P (Exit.noGoto Q) a w):(Code.scope c).wpIn F n P Q a w:=by
 intro b k cs o hb p;have j:(lone (b.atR a (.code (.scope c)::k)) cs w).fenced P F:=fenced_calm hb p rfl;obtain⟨e,f,m,g,d⟩:=h b (.inScope c::k) cs o hb p;cases e with
 |normal=>exact⟨.normal,f,m,g,.of_steps (.head j ag0 d) (.one (fenced_calm (fr:=b.atR f (.inScope c::k)) hb p rfl) EC)⟩
 |exit id=>exact⟨.exit id,f,m,g,.of_steps (.one j ag0) ⟨fun r q=>d.1 r (by simp[exitTo,q]),fun s q=>d.2 s (by simp[exitTo,q])⟩⟩
 |goto l=>exact g.elim
 |ret=>exact⟨_,f,m,g,.of_steps (.one j ag0) d⟩
 |panic ch=>exact⟨_,f,m,g,.of_steps (.one j ag0) d⟩
 |outgrown=>exact⟨_,f,m,g,.of_steps (.one j ag0) d⟩
def noJump(Q:Exit->aam->aai->Prop):Exit->aam->aai->Prop
 |.goto _,_,_=>False
 |e,fr,h=>Q e fr h
def ud.scope{c:Code}{Q:Exit->aam->aai->Prop}(q:ud P W0 N c fr h (noJump Q)):ud P W0 N (.scope c) fr h Q:=by
 intro d nn m a w s K f;refine VP (q d nn m a w s _ fun new e g fr' h' a' w' j h2 h3 b=>?_);cases e with
 |goto l=>exact b.elim
 |_=>exact f _ _ g fr' h' a' w' j h2 h3 b
def Dp(P:Program)(W0:LA)(N:Nat)(ks:List Kt)(R:Exit->aam->aai->Prop):Exit->aam->aai->Prop:=noJump (KE P W0 N R ks)
section
variable{ks:List Kt}{R:Exit->aam->aai->Prop}{i:Nat}
def MX:Dp P W0 N ks R .normal fr h=KN P W0 N ks R fr h:=id rfl
def tx:Dp P W0 N ks R .ret fr h=KX P W0 N .ret ks R fr h:=id rfl
def J4:Dp P W0 N ks R (.exit i) fr h=KX P W0 N (.exit i) ks R fr h:=id rfl
def VK.scope{c:Code}(q:VK P W0 N c [] (Dp P W0 N ks R) fr h):VK P W0 N (.scope c) ks R fr h:=ud.scope (VK.sound q)
def VK.label{l:Nat}(q:KN P W0 N ks R fr h):VK P W0 N (.label l) ks R fr h:=ud.label q
end
end
end Go.Fw
