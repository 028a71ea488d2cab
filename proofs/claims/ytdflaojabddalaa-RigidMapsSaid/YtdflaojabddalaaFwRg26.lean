/- One of the texts of the layer and the walks: it proves what its theorems say of the functions of the seat, with no condition beyond theirs. -/
import Derived.Test.YtdflaojabddalaaFwRg25
set_option linter.unusedSimpArgs false
set_option linter.unusedVariables false
namespace Go.Fw
open Go.Proofs
set_option maxHeartbeats 400000
set_option maxRecDepth 10000

def S2 : SkinM := ⟨[[1], [0]], [[97], [98]], [[[]], [[]]]⟩
def S3 : SkinM := ⟨[[1, 2], [2, 0], [0, 1]], [[], [], []], [[[], []], [[], []], [[], []]]⟩

theorem S2_small : SmallM S2 := ⟨by decide, by decide, by decide, by decide, by decide, by decide, by decide⟩
theorem S3_small : SmallM S3 := ⟨by decide, by decide, by decide, by decide, by decide, by decide, by decide⟩
theorem S2_right : RightS S2 := by
  refine ⟨by decide, by decide, by decide, by decide, ?_, ?_, ?_, ?_⟩
  · intro v c h; match v, h with
    | 0, h => simp [S2] at h; subst h; decide
    | 1, h => simp [S2] at h; subst h; decide
    | v + 2, h => simp [S2] at h
  · intro v c ds h h'; match v, h, h' with
    | 0, h, h' => simp [S2] at h h'; subst h h'; rfl
    | 1, h, h' => simp [S2] at h h'; subst h h'; rfl
    | v + 2, h, h' => simp [S2] at h
  · intro v c h i w hw; match v, h with
    | 0, h => 
      simp [S2] at h; subst h
      match i, hw with
      | 0, hw => simp at hw; subst hw; exact ⟨by decide, by decide, by decide, by decide, fun c' h => by (simp [S2] at h; subst h; decide)⟩
      | i + 1, hw => simp at hw
    | 1, h => 
      simp [S2] at h; subst h
      match i, hw with
      | 0, hw => simp at hw; subst hw; exact ⟨by decide, by decide, by decide, by decide, fun c' h => by (simp [S2] at h; subst h; decide)⟩
      | i + 1, hw => simp at hw
    | v + 2, h => simp [S2] at h
  · intro v hv
    have h0 : Reach S2.rot 0 := .zero
    have h1 : Reach S2.rot 1 := h0.step (c := [1]) rfl (by simp)
    match v, hv with
    | 0, _ => exact h0
    | 1, _ => exact h1
    | v + 2, hv => exact absurd hv (by simp [S2])
theorem S3_right : RightS S3 := by
  refine ⟨by decide, by decide, by decide, by decide, ?_, ?_, ?_, ?_⟩
  · intro v c h; match v, h with
    | 0, h => simp [S3] at h; subst h; decide
    | 1, h => simp [S3] at h; subst h; decide
    | 2, h => simp [S3] at h; subst h; decide
    | v + 3, h => simp [S3] at h
  · intro v c ds h h'; match v, h, h' with
    | 0, h, h' => simp [S3] at h h'; subst h h'; rfl
    | 1, h, h' => simp [S3] at h h'; subst h h'; rfl
    | 2, h, h' => simp [S3] at h h'; subst h h'; rfl
    | v + 3, h, h' => simp [S3] at h
  · intro v c h i w hw; match v, h with
    | 0, h => 
      simp [S3] at h; subst h
      match i, hw with
      | 0, hw => simp at hw; subst hw; exact ⟨by decide, by decide, by decide, by decide, fun c' h => by (simp [S3] at h; subst h; decide)⟩
      | 1, hw => simp at hw; subst hw; exact ⟨by decide, by decide, by decide, by decide, fun c' h => by (simp [S3] at h; subst h; decide)⟩
      | i + 2, hw => simp at hw
    | 1, h => 
      simp [S3] at h; subst h
      match i, hw with
      | 0, hw => simp at hw; subst hw; exact ⟨by decide, by decide, by decide, by decide, fun c' h => by (simp [S3] at h; subst h; decide)⟩
      | 1, hw => simp at hw; subst hw; exact ⟨by decide, by decide, by decide, by decide, fun c' h => by (simp [S3] at h; subst h; decide)⟩
      | i + 2, hw => simp at hw
    | 2, h => 
      simp [S3] at h; subst h
      match i, hw with
      | 0, hw => simp at hw; subst hw; exact ⟨by decide, by decide, by decide, by decide, fun c' h => by (simp [S3] at h; subst h; decide)⟩
      | 1, hw => simp at hw; subst hw; exact ⟨by decide, by decide, by decide, by decide, fun c' h => by (simp [S3] at h; subst h; decide)⟩
      | i + 2, hw => simp at hw
    | v + 3, h => simp [S3] at h
  · intro v hv
    have h0 : Reach S3.rot 0 := .zero
    have h1 : Reach S3.rot 1 := h0.step (c := [1, 2]) rfl (by simp)
    have h2 : Reach S3.rot 2 := h0.step (c := [1, 2]) rfl (by simp)
    match v, hv with
    | 0, _ => exact h0
    | 1, _ => exact h1
    | 2, _ => exact h2
    | v + 3, hv => exact absurd hv (by simp [S3])

theorem S2_code : codeM S2 false 0 0 = num4 8 ++ bytesM [[97], num4 1, num4 1, [], [98], num4 1, num4 0, []] := by decide +kernel
theorem S2_ord : (finM S2 false 0 0).ord = [0, 1] := by decide +kernel
theorem S2_best : (bestM S2).length = 2 ∧ ((bestM S2)[1]?.map (·.2)) = some [0, 1] := by decide +kernel
theorem S3_best : (bestM S3).length = 12 := by decide +kernel
end Go.Fw
