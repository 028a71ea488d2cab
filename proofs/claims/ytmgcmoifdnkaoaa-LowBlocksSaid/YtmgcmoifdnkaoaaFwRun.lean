/- One of the texts of the layer and the walks: it proves what its theorems say of the functions of the seat, with no condition beyond theirs. -/
import Derived.Test.YtmgcmoifdnkaoaaFwRules
set_option linter.unusedSimpArgs false
set_option linter.unusedVariables false
namespace Go.Fw
variable {P : Program} {W0 : Base} {N : Nat} {ops : Array Oper} {l : List Oper} {fr : AFrame} {h : AHeap}
def isCall (o : Oper) : Bool :=
  match o.op with
  | .call { callee := .value _, .. } => true
  | _ => false
def runOps (P : Program) (N : Nat) (ops : Array Oper) : List Oper → AFrame → AHeap → Option (List Oper × AFrame × AHeap)
  | [], fr, h => some ([], fr, h)
  | o :: r, fr, h =>
    match wantA ops fr o with
    | some true =>
      bif isCall o then some (o :: r, fr, h) else
      match stepOp P fr h o with
      | some (v, h') => match putDst N fr o.dst v with
        | some fr' => runOps P N ops r fr' h'
        | none => none
      | none => none
    | some false => match putDst N fr o.dst undefV with
      | some fr' => runOps P N ops r fr' h
      | none => none
    | none => none
theorem AOps.run {Q : AFrame → AHeap → Prop} : ∀ {l : List Oper} {fr : AFrame} {h : AHeap} {l' : List Oper} {fr' : AFrame} {h' : AHeap}, runOps P N ops l fr h = some (l', fr', h') → AOps P W0 N ops l' fr' h' Q → AOps P W0 N ops l fr h Q
  | [], fr, h, l', fr', h', e, q => by simp [runOps] at e; obtain ⟨rfl, rfl, rfl⟩ := e; exact q
  | o :: r, fr, h, l', fr', h', e, q => by
    simp only [runOps] at e
    split at e
    · rename_i hw
      cases hc : isCall o with
      | true => rw [hc] at e; simp at e; obtain ⟨rfl, rfl, rfl⟩ := e; exact q
      | false =>
        rw [hc] at e
        simp only [cond_false] at e
        split at e
        · rename_i v h1 hs
          split at e
          · rename_i fr1 hp; exact .step hw hs hp (AOps.run e q)
          · cases e
        · cases e
    · rename_i hw
      split at e
      · rename_i fr1 hp; exact .skip hw hp (AOps.run e q)
      · cases e
    · cases e
theorem AWP.run {i : Nat} {os : List Oper} {Q : Exit → AFrame → AHeap → Prop} {fr' : AFrame} {h' : AHeap} (e : runOps P N os.toArray os fr h = some ([], fr', h')) (q : Q .normal fr' h') : AWP P W0 N (.region i os.toArray false) fr h Q :=
  .region (AOps.run e (.nil q))
end Go.Fw
