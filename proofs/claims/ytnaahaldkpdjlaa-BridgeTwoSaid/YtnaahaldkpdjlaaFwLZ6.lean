/- A text of the proof. -/
import Derived.Test.YtnaahaldkpdjlaaFwLB13
import Derived.Test.YtnaahaldkpdjlaaFwRow
import Derived.Test.YtnaahaldkpdjlaaFwRep3
import Derived.Deep.Draws
import Derived.Shelf.SlLaysF0
import Derived.Shelf.SlSortCmp.NoneTotal
import Derived.Test.YtnaahaldkpdjlaaFwLZ5
set_option linter.unusedSimpArgs false
set_option linter.unusedVariables false
namespace Go.Proofs
open Go.Shelf
end Go.Proofs
namespace Go.Fw
open Go.Proofs
set_option maxHeartbeats 4000000
set_option maxRecDepth 10000
def ltP (p q : Pr) : Bool := decide (cmpP p q < 0)
def sortP (ps : List Pr) : List Pr := ps.mergeSort fun x y => !ltP y x
end Go.Fw
namespace Go.Fw
open Go.Proofs
set_option maxHeartbeats 8000000
set_option maxRecDepth 10000
structure LowR (n : Nat) (ls : List Lw) (o : List Nat) : Prop where
 len : ls.length = n
 lt : ∀ v ∈ o, v < n
 olen : o.length ≤ n
 up : ∀ v, v < n → (getL ls v).2.1 < (n : Int)
theorem lowM_R {n : Nat} {es : List Pr} (hR : InR n es) : LowR n (lowM n es).1 (lowM n es).2 := by
 obtain ⟨C, _⟩ := metM_C hR n (Nat.le_refl _)
 refine ⟨by rw [lowM, ups_length, edges_length]; exact C.len, C.lt, C.toLowI.olen, fun v hv => ?_⟩
 rw [lowM, (ups_keep _ _ v).2, (edges_keep _ _ v).2]; exact C.up v hv
def LR (h : AHeap) (v : Value) (ls : List Lw) : Prop := CS 3 h v ls.length (flatL ls)
theorem LR.le {h h' : AHeap} {v : Value} {ls : List Lw} (r : LR h v ls) (e : Le h h') : LR h' v ls := CS.le r e
theorem LR.own {h : AHeap} {L n cap : Nat} {ls : List Lw} (ho : h.own L = some (.cells (flatL ls))) (hl : ls.length = n) : LR h (.slice (some ⟨L, 0, none⟩) n cap) ls := by
 subst hl
 have := CS.own (k := 3) (off := 0) (n := ls.length) (cap := cap) ho (by rw [flatL_length]; omega)
 rw [List.drop_zero, List.take_of_length_le (by rw [flatL_length]; omega)] at this
 exact this
def brB (ls : List Lw) (v : Nat) : Option Pr := if 0 ≤ (getL ls v).2.1 ∧ (getL ls v).2.2 = (getL ls v).1 then some (min (getL ls v).2.1 (v : Int), max (getL ls v).2.1 (v : Int)) else none
def bridgesM (n : Nat) (es : List Pr) : List Pr := sortP ((lowM n es).2.filterMap (brB (lowM n es).1))
end Go.Fw
namespace Go.Fw
open Go.Proofs
attribute [local irreducible] KO4 KO3 KO2 KO1 KO KN KX KE VK KCond KDraw KCall KLoop
set_option maxHeartbeats 8000000
set_option maxRecDepth 10000
def cntS (ls : List Lw) (c : List Int) (v : Nat) : List Int :=
 if 0 ≤ (getL ls v).2.1 ∧ (getL ls (getL ls v).2.1.toNat).1 ≤ (getL ls v).2.2 then c.set (getL ls v).2.1.toNat (c.getD (getL ls v).2.1.toNat 0 + 1) else c
def cntM (ls : List Lw) (o : List Nat) (n : Nat) : List Int := o.foldl (cntS ls) (List.replicate n 0)
def isCut (ls : List Lw) (c : List Int) (v : Nat) : Bool := decide (c.getD v 0 > 1) || (decide (c.getD v 0 = 1) && decide ((getL ls v).2.1 ≥ 0))
def cutsM (n : Nat) (es : List Pr) : List Nat := (List.range n).filter (isCut (lowM n es).1 (cntM (lowM n es).1 (lowM n es).2 n))
end Go.Fw
