/- One of the texts of the layer and the walks: it proves what its theorems say of the functions of the seat, with no condition beyond theirs. -/
import Derived.Test.YtdflaojabddalaaFwRg33
set_option linter.unusedSimpArgs false
set_option linter.unusedVariables false
namespace Go.Fw
open Go.Proofs
set_option maxHeartbeats 2000000
set_option maxRecDepth 10000

theorem nxt_words_len (S : SkinM) (mir : Bool) (u e j : Nat) (s : Ws) : (nxt S mir u e j s).words.length = s.words.length + 2 := by
  have : ∀ x ex, (visit s x ex).words = s.words := by intro x ex; unfold visit; split <;> rfl
  simp only [nxt, this, List.length_append]; rfl
theorem innM_words_len (S : SkinM) (mir : Bool) (u e : Nat) (s : Ws) : ∀ j, (innM S mir u e j s).words.length = s.words.length + 2 * j
  | 0 => rfl
  | j + 1 => by have := innM_words_len S mir u e s j; simp only [innM, nxt_words_len]; omega
theorem outM_words_len {S : SkinM} (hr : RightS S) {mir : Bool} {v i : Nat} (hv : v < S.rot.length) (hi : i < dg S v ∨ dg S v = 0 ∧ i = 0) : ∀ k, k ≤ S.rot.length → (outM S mir v i k).words.length = (((outM S mir v i k).ord.take k).map fun u => 2 + 2 * dg S u).sum
  | 0, _ => by simp [outM]
  | k + 1, hk => by
    have ih := outM_words_len hr hv hi (mir := mir) k (by omega)
    have ok := out_ok hr hv hi (mir := mir) k (by omega)
    have hlt : k < (outM S mir v i k).ord.length := by
      rcases Nat.lt_or_eq_of_le ok.kle with h | h
      · exact h
      · have := (ok.done hr h).1; omega
    have hpre := outM_le S mir v i (Nat.le_succ k)
    have h1 : (outM S mir v i (k + 1)).ord.take (k + 1) = (outM S mir v i k).ord.take (k + 1) := by
      obtain ⟨t, ht⟩ := hpre.1
      rw [← ht, List.take_append_of_le_length (by omega)]
    have eu : (outM S mir v i k).ord.getD k 0 = (outM S mir v i k).ord[k] := getD_of hlt
    rw [h1, List.take_succ_eq_append_getElem hlt, List.map_append, List.sum_append, ← ih]
    simp only [outM, innM_words_len, headM, List.length_append, eu]
    simp
    omega
theorem fin_words_len {S : SkinM} (hr : RightS S) {mir : Bool} {v i : Nat} (hv : v < S.rot.length) (hi : i < dg S v ∨ dg S v = 0 ∧ i = 0) : (finM S mir v i).words.length = wordsM S := by
  have ok := out_ok hr hv hi (mir := mir) S.rot.length (Nat.le_refl _)
  have hlen : S.rot.length = (outM S mir v i S.rot.length).ord.length := by
    have h1 := ok.kle
    have h2 := ok.toStOK.le
    omega
  have hall := (ok.done hr hlen).2
  have hp : (outM S mir v i S.rot.length).ord.Perm (List.range S.rot.length) := by
    rw [List.perm_ext_iff_of_nodup ok.nd List.nodup_range]
    intro a
    rw [List.mem_range]
    exact ⟨fun h => ok.lt a h, fun h => hall a h⟩
  rw [finM, outM_words_len hr hv hi _ (Nat.le_refl _), List.take_of_length_le (by omega)]
  have h1 := (hp.map fun u => 2 + 2 * dg S u).sum_nat
  rw [h1, wordsM]
  congr 1
  apply List.ext_getElem
  · simp
  · intro i h1 h2
    simp only [List.length_map, List.length_range] at h1
    simp [dg, h1]
end Go.Fw
