/- A text. -/
import Derived.Scope
import Derived.Test.YtkccdnmaaelbiaaGreatFwDraw
set_option linter.all false
set_option maxRecDepth 99999
set_option maxHeartbeats 9999999
namespace Go.Fw
variable {P : Program} {W0 : Ac} {N : Nat} {fr : EP} {h : AHeap}
def Te {b:Frame} {a:Act} {k:List Item} {cs:List Frame} {w:World} {c:Code}:step P (lone (b.atR a (.code (.scope c)::k)) cs w)=.next (lone (b.atR a (.code c::.inScope c::k)) cs w):=
 step_lone_go (by simp[stepG,stepG.exec,Frame.atR])
def me {b:Frame} {a:Act} {k:List Item} {cs:List Frame} {w:World} {c:Code}:step P (lone (b.atR a (.inScope c::k)) cs w)=.next (lone (b.atR a k) cs w):=
 step_lone_go (by simp[stepG,stepG.exec,Frame.atR])
def Qj {F:Fence} {n:Nat} {Q:Exit->Act->World->Prop} {a:Act} {w:World} {c:Code} (h:c.wpIn F n P (Exit.noGoto Q) a w):(Code.scope c).wpIn F n P Q a w:=by
 intro b k cs o hb p;have j:(lone (b.atR a (.code (.scope c)::k)) cs w).fenced P F:=fenced_calm hb p rfl;obtain⟨e,f,m,g,d⟩:=h b (.inScope c::k) cs o hb p;cases e with
 |normal=>exact⟨.normal,f,m,g,.of_steps (.head j Te d) (.one (fenced_calm (fr:=b.atR f (.inScope c::k)) hb p rfl) me)⟩
 |exit id=>exact⟨.exit id,f,m,g,.of_steps (.one j Te) ⟨fun r q=>d.1 r (by simp[exitTo,q]),fun s q=>d.2 s (by simp[exitTo,q])⟩⟩
 |goto l=>exact g.elim
 |ret=>exact⟨_,f,m,g,.of_steps (.one j Te) d⟩
 |panic ch=>exact⟨_,f,m,g,.of_steps (.one j Te) d⟩
 |outgrown=>exact⟨_,f,m,g,.of_steps (.one j Te) d⟩
def Up (Q:Exit->EP->AHeap->Prop):Exit->EP->AHeap->Prop
 |.goto _,_,_=>False
 |e,fr,h=>Q e fr h
def M9.scope {c:Code} {Q:Exit->EP->AHeap->Prop} (q:M9 P W0 N c fr h (Up Q)):M9 P W0 N (.scope c) fr h Q:=by
 intro d nn m a w s K f;refine Qj (q d nn m a w s _ fun new e g fr' h' a' w' j h2 h3 b=>?_);cases e with
 |goto l=>exact b.elim
 |_=>exact f _ _ g fr' h' a' w' j h2 h3 b
def Zx (P:Program) (W0:Ac) (N:Nat) (ks:List Kt) (R:Exit->EP->AHeap->Prop):Exit->EP->AHeap->Prop:=Up (KE P W0 N R ks)
section
variable {ks : List Kt} {R : Exit → EP → AHeap → Prop} {i : Nat}
def jr:Zx P W0 N ks R .ret fr h=KX P W0 N .ret ks R fr h:=id rfl
def VK.scope {c:Code} (q:VK P W0 N c [] (Zx P W0 N ks R) fr h):VK P W0 N (.scope c) ks R fr h:=M9.scope (VK.sound q)
def VK.label {l:Nat} (q:KN P W0 N ks R fr h):VK P W0 N (.label l) ks R fr h:=M9.label q
end
end Go.Fw
