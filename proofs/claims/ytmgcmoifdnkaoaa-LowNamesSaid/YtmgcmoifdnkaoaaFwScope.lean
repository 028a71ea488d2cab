/- One of the texts of the layer and the walks: it proves what its theorems say of the functions of the seat, with no condition beyond theirs. -/
import Derived.Test.YtmgcmoifdnkaoaaFwVC
import Derived.Scope
set_option linter.unusedSimpArgs false
set_option linter.unusedVariables false
namespace Go.Fw
variable {P : Program} {W0 : Base} {N : Nat} {fr : AFrame} {h : AHeap}
theorem stepR_scope {b : Frame} {a : Act} {k : List Item} {cs : List Frame} {w : World} {c : Code} : step P (lone (b.atR a (.code (.scope c) :: k)) cs w) = .next (lone (b.atR a (.code c :: .inScope c :: k)) cs w) :=
  step_lone_go (by simp [stepG, stepG.exec, Frame.atR])
theorem stepR_inScope {b : Frame} {a : Act} {k : List Item} {cs : List Frame} {w : World} {c : Code} : step P (lone (b.atR a (.inScope c :: k)) cs w) = .next (lone (b.atR a k) cs w) :=
  step_lone_go (by simp [stepG, stepG.exec, Frame.atR])
theorem wpIn_scope_straight {F : Fence} {n : Nat} {Q : Exit → Act → World → Prop} {a : Act} {w : World} {c : Code} (h : c.wpIn F n P (Exit.noGoto Q) a w) : (Code.scope c).wpIn F n P Q a w := by
  intro b k cs hro hb hr
  have h0 : (lone (b.atR a (.code (.scope c) :: k)) cs w).fenced P F := fenced_calm hb hr rfl
  obtain ⟨e, a₁, w₁, hq, harr⟩ := h b (.inScope c :: k) cs hro hb hr
  cases e with
  | normal => exact ⟨.normal, a₁, w₁, hq, .of_steps (.head h0 stepR_scope harr) (.one (fenced_calm (fr := b.atR a₁ (.inScope c :: k)) hb hr rfl) stepR_inScope)⟩
  | exit id => exact ⟨.exit id, a₁, w₁, hq, .of_steps (.one h0 stepR_scope) ⟨fun k' hk => harr.1 k' (by simp [exitTo, hk]), fun hn hk => harr.2 hn (by simp [exitTo, hk])⟩⟩
  | goto l => exact hq.elim
  | ret => exact ⟨_, a₁, w₁, hq, .of_steps (.one h0 stepR_scope) harr⟩
  | panic ch => exact ⟨_, a₁, w₁, hq, .of_steps (.one h0 stepR_scope) harr⟩
  | outgrown => exact ⟨_, a₁, w₁, hq, .of_steps (.one h0 stepR_scope) harr⟩
def noJump (Q : Exit → AFrame → AHeap → Prop) : Exit → AFrame → AHeap → Prop
  | .goto _, _, _ => False
  | e, fr, h => Q e fr h
theorem AWP.scope {c : Code} {Q : Exit → AFrame → AHeap → Prop} (q : AWP P W0 N c fr h (noJump Q)) : AWP P W0 N (.scope c) fr h Q := by
  intro cx nn m a w s K hK
  refine wpIn_scope_straight (q cx nn m a w s _ fun new e m' fr' h' a' w' h1 h2 h3 h4 => ?_)
  cases e with
  | goto l => exact h4.elim
  | _ => exact hK _ _ m' fr' h' a' w' h1 h2 h3 h4
def scopeQ (P : Program) (W0 : Base) (N : Nat) (ks : List Kt) (R : Exit → AFrame → AHeap → Prop) : Exit → AFrame → AHeap → Prop := noJump (KE P W0 N R ks)
section
variable {ks : List Kt} {R : Exit → AFrame → AHeap → Prop} {i : Nat}
theorem scopeQ_normal : scopeQ P W0 N ks R .normal fr h = KN P W0 N ks R fr h := id rfl
theorem scopeQ_ret : scopeQ P W0 N ks R .ret fr h = KX P W0 N .ret ks R fr h := id rfl
theorem scopeQ_exit : scopeQ P W0 N ks R (.exit i) fr h = KX P W0 N (.exit i) ks R fr h := id rfl
theorem VK.scope {c : Code} (q : VK P W0 N c [] (scopeQ P W0 N ks R) fr h) : VK P W0 N (.scope c) ks R fr h := AWP.scope (VK.sound q)
theorem VK.label {l : Nat} (q : KN P W0 N ks R fr h) : VK P W0 N (.label l) ks R fr h := AWP.label q
end
end Go.Fw
