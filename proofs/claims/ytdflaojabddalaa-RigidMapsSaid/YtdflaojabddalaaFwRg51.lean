/- One of the texts of the layer and the walks: it proves what its theorems say of the functions of the seat, with no condition beyond theirs. -/
import Derived.Test.YtdflaojabddalaaFwRg50
set_option linter.unusedSimpArgs false
set_option linter.unusedVariables false
namespace Go.Fw
open Go.Proofs
set_option maxHeartbeats 1000000

/- all codes, in order -/
def pairC (S : SkinM) (v i : Nat) : List (List Int) := [codeM S false v i, codeM S true v i]
def rowC (S : SkinM) (v : Nat) : List (List Int) := (List.range (max 1 (dg S v))).flatMap (pairC S v)
theorem allI_codes (S : SkinM) (v : Nat) (l : List Wd) : ∀ i, (allI S v l i).map (·.1) = l.map (·.1) ++ (List.range i).flatMap (pairC S v)
  | 0 => by simp [allI]
  | i + 1 => by
    rw [allI, List.map_append, allI_codes S v l i, List.range_succ, List.flatMap_append, List.append_assoc]
    rfl
theorem allV_codes (S : SkinM) : ∀ v, (allV S v).map (·.1) = (List.range v).flatMap (rowC S)
  | 0 => rfl
  | v + 1 => by
    rw [allV, allI_codes, allV_codes S v, List.range_succ, List.flatMap_append]
    simp [rowC]

theorem perm_range {n : Nat} {l : List Nat} (hn : l.length = n) (hd : l.Nodup) (hl : ∀ x ∈ l, x < n) : l.Perm (List.range n) := by
  rw [List.perm_ext_iff_of_nodup hd List.nodup_range]
  intro a
  rw [List.mem_range]
  exact ⟨fun h => hl a h, fun h => (nodup_le n l hd hl).2 hn a h⟩
theorem map_nodup {f : Nat → Nat} {n : Nat} (hi : ∀ v w, v < n → w < n → f v = f w → v = w) : ((List.range n).map f).Nodup := by
  show List.Pairwise (· ≠ ·) _
  rw [List.pairwise_iff_getElem]
  intro i j hi' hj hij
  simp only [List.length_map, List.length_range] at hi' hj
  simp only [List.getElem_map, List.getElem_range]
  intro e
  have := hi i j hi' hj e
  omega
theorem flatMap_perm {α β : Type} {f g : α → List β} : ∀ (l : List α) (_ : ∀ a ∈ l, (f a).Perm (g a)), (l.flatMap f).Perm (l.flatMap g)
  | [], _ => List.Perm.refl _
  | a :: l, h => by
    rw [List.flatMap_cons, List.flatMap_cons]
    exact (h a (by simp)).append (flatMap_perm l fun x hx => h x (by simp [hx]))

theorem codes_perm {S T : SkinM} {f b : Nat → Nat} {ab : Bool} (I : IsoS S T f b ab) (hr : RightS S) (hT : RightS T) : ((allV T T.rot.length).map (·.1)).Perm ((allV S S.rot.length).map (·.1)) := by
  rw [allV_codes, allV_codes, I.len]
  have h1 : (List.range S.rot.length).Perm ((List.range S.rot.length).map f) := by
    refine (perm_range (by simp) (map_nodup I.inj) ?_).symm
    intro x hx
    rw [List.mem_map] at hx
    obtain ⟨y, hy, rfl⟩ := hx
    exact I.lt y (List.mem_range.1 hy)
  refine (h1.flatMap_right _).trans ?_
  rw [List.flatMap_map]
  refine flatMap_perm _ fun v hv => ?_
  have hv : v < S.rot.length := List.mem_range.1 hv
  simp only [rowC, I.deg v hv]
  have hd : ∀ i, i < max 1 (dg S v) → i < dg S v ∨ dg S v = 0 ∧ i = 0 := fun i hi => by omega
  have h2 : (List.range (max 1 (dg S v))).Perm ((List.range (max 1 (dg S v))).map (ge S b ab v)) := by
    refine (perm_range (by simp) (map_nodup ?_) ?_).symm
    · intro i j hi hj e
      unfold ge at e
      split at e
      · omega
      · exact atM_inj ab (I.blt v hv (by omega)) (by omega) (by omega) e
    · intro x hx
      rw [List.mem_map] at hx
      obtain ⟨i, hi, rfl⟩ := hx
      have := I.ge_lt hv (hd i (List.mem_range.1 hi))
      rw [I.deg v hv] at this
      omega
  refine (h2.flatMap_right _).trans ?_
  rw [List.flatMap_map]
  refine flatMap_perm _ fun i hi => ?_
  have hi := hd i (List.mem_range.1 hi)
  have c1 := (I.code hr hT (mir := false) hv hi).1
  have c2 := (I.code hr hT (mir := true) hv hi).1
  cases ab
  · simp only [bne_self_eq_false, Bool.bne_false] at c1 c2
    rw [pairC, pairC, c1, c2]
  · simp only [bne_self_eq_false, Bool.bne_true, Bool.not_false] at c1 c2
    rw [pairC, pairC, c1, c2]
    exact List.Perm.swap _ _ _

/- least ones, by their codes -/
def minC (cs : List (List Int)) (c : List Int) : Bool := cs.all fun y => !decide (ltL y c)
theorem minC_perm {cs ds : List (List Int)} (h : cs.Perm ds) (c : List Int) : minC cs c = minC ds c := h.all_eq
theorem least_codes (l : List Wd) : (leastM l).map (·.1) = (l.map (·.1)).filter (minC (l.map (·.1))) := by
  rw [leastM, List.filter_map]
  congr 1
  apply List.filter_congr
  intro x _
  simp only [minOf, minC, List.all_map, Function.comp_apply]
  rfl
theorem least_perm {l m : List Wd} (h : (l.map (·.1)).Perm (m.map (·.1))) : ((leastM l).map (·.1)).Perm ((leastM m).map (·.1)) := by
  rw [least_codes, least_codes]
  have : minC (m.map (·.1)) = minC (l.map (·.1)) := funext fun c => (minC_perm h c).symm
  rw [this]
  exact h.filter _
theorem least_same {l : List Wd} {x y : Wd} (hx : x ∈ leastM l) (hy : y ∈ leastM l) : x.1 = y.1 := by
  obtain ⟨h1, h2⟩ := List.mem_filter.1 hx
  obtain ⟨h3, h4⟩ := List.mem_filter.1 hy
  rcases ltL_total x.1 y.1 with h | h | h
  · exact absurd h (minOf_iff.1 h4 x h1)
  · exact h
  · exact absurd h (minOf_iff.1 h2 y h3)
theorem least_ne {l : List Wd} (h : l ≠ []) : leastM l ≠ [] := by
  obtain ⟨x, hx, hm⟩ := least_exists h
  have : x ∈ leastM l := List.mem_filter.2 ⟨hx, minOf_iff.2 hm⟩
  intro e; rw [e] at this; cases this

theorem allV_ne {S : SkinM} (hr : RightS S) : allV S S.rot.length ≠ [] := by
  intro e
  have h := congrArg (List.map (·.1)) e
  rw [allV_codes] at h
  have hp := hr.pos
  have : codeM S false 0 0 ∈ (List.range S.rot.length).flatMap (rowC S) := by
    rw [List.mem_flatMap]
    refine ⟨0, List.mem_range.2 (by omega), ?_⟩
    rw [rowC, List.mem_flatMap]
    exact ⟨0, List.mem_range.2 (by omega), by simp [pairC]⟩
  rw [h] at this
  cases this

theorem names_best {S T : SkinM} {f b : Nat → Nat} {ab : Bool} (I : IsoS S T f b ab) (hr : RightS S) (hT : RightS T) :
    leastM (allV S S.rot.length) ≠ [] ∧ (leastM (allV T T.rot.length)).length = (leastM (allV S S.rot.length)).length ∧
      ∃ c, (∀ x ∈ leastM (allV S S.rot.length), x.1 = c) ∧ ∀ x ∈ leastM (allV T T.rot.length), x.1 = c := by
  have hp := least_perm (codes_perm I hr hT)
  have hne := least_ne (allV_ne hr)
  refine ⟨hne, by simpa using hp.length_eq, ?_⟩
  obtain ⟨z, hz⟩ := List.exists_mem_of_ne_nil _ hne
  refine ⟨z.1, fun x hx => least_same hx hz, fun x hx => ?_⟩
  have : x.1 ∈ (leastM (allV S S.rot.length)).map (·.1) := hp.subset (List.mem_map.2 ⟨x, hx, rfl⟩)
  obtain ⟨y, hy, e⟩ := List.mem_map.1 this
  rw [← e]; exact least_same hy hz
end Go.Fw
