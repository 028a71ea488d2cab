/- One of the texts of the layer and the walks: it proves what its theorems say of the functions of the seat, with no condition beyond theirs. -/
import Derived.Test.YtdflaojabddalaaFwRg52
set_option linter.unusedSimpArgs false
set_option linter.unusedVariables false
namespace Go.Fw
open Go.Proofs
set_option maxHeartbeats 1000000

/- the names that are given, one after another -/
def atN (names : List Int) (i len : Nat) : Nat := if i < names.length then (names.getD i 0).toNat % len else 0
def freeN (names : List Int) (n : Nat) : Nat → List Nat
  | 0 => List.range n
  | i + 1 => (freeN names n i).eraseIdx (atN names i (freeN names n i).length)
def pickN (names : List Int) (n i : Nat) : Nat := (freeN names n i).getD (atN names i (freeN names n i).length) 0

theorem atN_lt (names : List Int) (i : Nat) {len : Nat} (h : 0 < len) : atN names i len < len := by
  unfold atN; split
  · exact Nat.mod_lt _ h
  · exact h
theorem freeN_length (names : List Int) (n : Nat) : ∀ i, i ≤ n → (freeN names n i).length = n - i
  | 0, _ => by simp [freeN]
  | i + 1, h => by
    have ih := freeN_length names n i (by omega)
    rw [freeN, List.length_eraseIdx, if_pos (atN_lt _ _ (by omega)), ih]; omega
theorem freeN_sub (names : List Int) (n : Nat) {i j : Nat} (h : i ≤ j) : ∀ x ∈ freeN names n j, x ∈ freeN names n i := by
  induction j with
  | zero => have : i = 0 := by omega
            subst this; exact fun x h => h
  | succ j ih =>
    by_cases e : i = j + 1
    · subst e; exact fun x h => h
    · exact fun x hx => ih (by omega) x ((List.eraseIdx_sublist _ _).subset hx)
theorem freeN_nodup (names : List Int) (n : Nat) : ∀ i, (freeN names n i).Nodup
  | 0 => List.nodup_range
  | i + 1 => (freeN_nodup names n i).sublist (List.eraseIdx_sublist _ _)
theorem pickN_get (names : List Int) (n : Nat) {i : Nat} (h : i < n) : atN names i (freeN names n i).length < (freeN names n i).length ∧ (freeN names n i)[atN names i (freeN names n i).length]? = some (pickN names n i) := by
  have hl := freeN_length names n i (by omega)
  have h1 : atN names i (freeN names n i).length < (freeN names n i).length := atN_lt _ _ (by omega)
  refine ⟨h1, ?_⟩
  rw [pickN, getD_of h1, getElem?_of h1]
theorem pickN_mem (names : List Int) (n : Nat) {i : Nat} (h : i < n) : pickN names n i ∈ freeN names n i ∧ pickN names n i ∉ freeN names n (i + 1) := by
  obtain ⟨h1, h2⟩ := pickN_get names n h
  refine ⟨List.mem_of_getElem? h2, fun hm => ?_⟩
  rw [freeN, List.mem_eraseIdx_iff_getElem?] at hm
  obtain ⟨j, hj, e⟩ := hm
  have hjl := (List.getElem?_eq_some_iff.1 e).1
  have hd := freeN_nodup names n i
  rw [List.Nodup, List.pairwise_iff_getElem] at hd
  have e1 := (List.getElem?_eq_some_iff.1 e).2
  have e2 := (List.getElem?_eq_some_iff.1 h2).2
  rcases Nat.lt_or_gt_of_ne hj with q | q
  · exact hd _ _ hjl h1 q (e1.trans e2.symm)
  · exact hd _ _ h1 hjl q (e2.trans e1.symm)
theorem pickN_map (names : List Int) (n : Nat) : MapN n (pickN names n) := by
  refine ⟨fun v hv => ?_, fun v w hv hw e => ?_⟩
  · have := freeN_sub names n (Nat.zero_le v) _ (pickN_mem names n hv).1
    exact List.mem_range.1 this
  · rcases Nat.lt_trichotomy v w with h | h | h
    · exact absurd (e ▸ freeN_sub names n h _ (pickN_mem names n hw).1) (pickN_mem names n hv).2
    · exact h
    · exact absurd (e ▸ freeN_sub names n h _ (pickN_mem names n hv).1) (pickN_mem names n hw).2
end Go.Fw
