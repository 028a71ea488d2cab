/- One of the texts of the layer and the walks: it proves what its theorems say of the functions of the seat, with no condition beyond theirs. -/
import Derived.Test.YtmakcgajgepabaaFwVC
import Derived.Scope
set_option linter.unusedSimpArgs false
set_option linter.unusedVariables false
namespace Go.Fw
variable {P : Program} {W0 : World} {N : Nat} {fr : AFrame} {h : AHeap}
def noJump (Q : Exit → AFrame → AHeap → Prop) : Exit → AFrame → AHeap → Prop
  | .goto _, _, _ => False
  | e, fr, h => Q e fr h
theorem AWP.scope {c : Code} {Q : Exit → AFrame → AHeap → Prop} (q : AWP P W0 N c fr h (noJump Q)) : AWP P W0 N (.scope c) fr h Q := by
  intro m a w s K hK
  refine wp_scope_straight (q m a w s _ fun e m' fr' h' a' w' h1 h2 h3 h4 => ?_)
  cases e with
  | goto l => exact h4.elim
  | _ => exact hK _ m' fr' h' a' w' h1 h2 h3 h4
def scopeQ (P : Program) (W0 : World) (N : Nat) (ks : List Kt) (R : Exit → AFrame → AHeap → Prop) : Exit → AFrame → AHeap → Prop := noJump (KE P W0 N R ks)
section
variable {ks : List Kt} {R : Exit → AFrame → AHeap → Prop} {i : Nat}
theorem scopeQ_normal : scopeQ P W0 N ks R .normal fr h = KN P W0 N ks R fr h := id rfl
theorem scopeQ_ret : scopeQ P W0 N ks R .ret fr h = KX P W0 N .ret ks R fr h := id rfl
theorem scopeQ_exit : scopeQ P W0 N ks R (.exit i) fr h = KX P W0 N (.exit i) ks R fr h := id rfl
theorem VK.scope {c : Code} (q : VK P W0 N c [] (scopeQ P W0 N ks R) fr h) : VK P W0 N (.scope c) ks R fr h := AWP.scope (VK.sound q)
theorem VK.label {l : Nat} (q : KN P W0 N ks R fr h) : VK P W0 N (.label l) ks R fr h := AWP.label q
end
end Go.Fw
