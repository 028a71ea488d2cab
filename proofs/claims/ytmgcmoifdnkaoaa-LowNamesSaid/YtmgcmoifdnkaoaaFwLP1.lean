/- One of the texts of the layer and the walks: it proves what its theorems say of the functions of the seat, with no condition beyond theirs. -/
import Derived.Test.YtmgcmoifdnkaoaaFwLB14
import Derived.Test.YtmgcmoifdnkaoaaFwLW1
set_option linter.unusedSimpArgs false
set_option linter.unusedVariables false
namespace Go.Fw
open Go.Proofs
set_option maxHeartbeats 4000000
set_option maxRecDepth 10000
theorem sorted_eq : ∀ (a b : List Int), a.Pairwise (· < ·) → b.Pairwise (· < ·) → (∀ x, x ∈ a ↔ x ∈ b) → a = b
  | [], [], _, _, _ => rfl
  | [], y :: b, _, _, h => by have := (h y).2 (by simp); simp at this
  | x :: a, [], _, _, h => by have := (h x).1 (by simp); simp at this
  | x :: a, y :: b, ha, hb, h => by
    rw [List.pairwise_cons] at ha hb
    have e : x = y := by
      have h1 := (h x).1 (by simp)
      have h2 := (h y).2 (by simp)
      rw [List.mem_cons] at h1 h2
      rcases h1 with h1 | h1
      · exact h1
      · rcases h2 with h2 | h2
        · exact h2.symm
        · have := hb.1 x h1; have := ha.1 y h2; omega
    subst e
    rw [sorted_eq a b ha.2 hb.2 fun z => ?_]
    constructor
    · intro hz
      have := (h z).1 (by simp [hz])
      rw [List.mem_cons] at this
      rcases this with rfl | h'
      · have := ha.1 z hz; omega
      · exact h'
    · intro hz
      have := (h z).2 (by simp [hz])
      rw [List.mem_cons] at this
      rcases this with rfl | h'
      · have := hb.1 z hz; omega
      · exact h'
theorem compact_mem (l : List Int) (x : Int) : x ∈ Lib.compact l ↔ x ∈ l := by
  simp only [Lib.compact, Lib.compactUpTo, List.mem_map, List.mem_filter, List.mem_range]
  constructor
  · rintro ⟨j, ⟨hj, _⟩, rfl⟩
    rw [getElem!_pos _ j (by simpa using hj)]
    simp
  · intro hx
    obtain ⟨j, hj, rfl⟩ := List.mem_iff_getElem.1 hx
    clear hx
    induction j with
    | zero => exact ⟨0, ⟨hj, by simp [Lib.keeps]⟩, by rw [getElem!_pos _ 0 (by simpa using hj)]; simp⟩
    | succ j ih =>
      by_cases c : l[j + 1] = l[j]
      · rw [c]; exact ih (by omega)
      · refine ⟨j + 1, ⟨hj, ?_⟩, by rw [getElem!_pos _ (j + 1) (by simpa using hj)]; simp⟩
        simp only [Lib.keeps, decide_eq_true_eq, Nat.add_sub_cancel]
        right
        rw [getElem!_pos _ (j + 1) (by simpa using hj), getElem!_pos _ j (by simp; omega)]
        simpa using c
theorem compact_lt {l : List Int} (h : l.Pairwise (· ≤ ·)) : (Lib.compact l).Pairwise (· < ·) := by
  simp only [Lib.compact, Lib.compactUpTo]
  rw [List.pairwise_map]
  have h1 : ((List.range l.length).filter (Lib.keeps l.toArray)).Pairwise (· < ·) := List.Pairwise.filter _ List.pairwise_lt_range
  refine List.Pairwise.imp_of_mem ?_ h1
  intro i j hi hj hij
  rw [List.mem_filter, List.mem_range] at hi hj
  obtain ⟨hj1, hj2⟩ := hj
  simp only [Lib.keeps, decide_eq_true_eq] at hj2
  rw [getElem!_pos _ i (by simp; omega), getElem!_pos _ j (by simpa using hj1)] at *
  rcases hj2 with h0 | h0
  · omega
  · rw [getElem!_pos _ (j - 1) (by simp; omega)] at h0
    rw [List.pairwise_iff_getElem] at h
    simp only [List.getElem_toArray] at *
    have h2 := h (j - 1) j (by omega) hj1 (by omega)
    by_cases e : i = j - 1
    · subst e; omega
    · have := h i (j - 1) (by omega) (by omega) (by omega); omega
theorem sortI_mem (l : List Int) (x : Int) : x ∈ sortI l ↔ x ∈ l := by simp [sortI]
theorem sortI_le (l : List Int) : (sortI l).Pairwise (· ≤ ·) := by
  have := List.pairwise_mergeSort (le := fun x y : Int => decide (x ≤ y)) (fun a b c h1 h2 => by simp at *; omega) (fun a b => by simp; omega) l
  simpa [sortI] using this
end Go.Fw
namespace Go.Fw
set_option maxRecDepth 10000
abbrev offA : Nat → Bool := fun _ => false
abbrev Con (es : List Pr) : Nat → Nat → Prop := Cn offA es
theorem Con.refl (es : List Pr) (u : Nat) : Con es u u := Cn.refl rfl
theorem con_adj {es : List Pr} {u w : Nat} (h : adj es u w) : Con es u w := .step (.refl rfl) h rfl
theorem Con.lt {n : Nat} {es : List Pr} (hr : InR n es) {u w : Nat} (h : Con es u w) (hu : u < n) : w < n := by
  induction h with
  | refl _ => exact hu
  | step _ a _ _ => exact (a.lt hr).2
theorem Dfs.con {n : Nat} {es : List Pr} {s : Nat} {o : List Nat} {up : List Int} (d : Dfs n es s o up) : ∀ v ∈ o, Con es s v := by
  induction d with
  | start => intro v hv; rw [List.mem_singleton] at hv; subst hv; exact Con.refl es _
  | step d hk ha _ _ _ ih =>
    intro x hx
    rw [List.mem_append, List.mem_singleton] at hx
    rcases hx with hx | rfl
    · exact ih x hx
    · exact .step (ih _ (List.mem_of_getElem? hk)) ha rfl
theorem Dfs.head {n : Nat} {es : List Pr} {s : Nat} {o : List Nat} {up : List Int} (d : Dfs n es s o up) : o[0]? = some s := by
  induction d with
  | start => rfl
  | step d _ _ _ _ _ ih => rw [List.getElem?_append_left (by have := d.len.1; omega)]; exact ih
theorem Dfs.nodup {n : Nat} {es : List Pr} {s : Nat} {o : List Nat} {up : List Int} (d : Dfs n es s o up) : o.Nodup := by
  induction d with
  | start => simp
  | step d _ _ hw _ _ ih =>
    rw [List.nodup_append]
    exact ⟨ih, by simp, fun a ha b hb e => by rw [List.mem_singleton] at hb; subst hb; subst e; exact hw ha⟩
theorem DfsFin.mem {n : Nat} {es : List Pr} {s : Nat} {o : List Nat} {up : List Int} (d : DfsFin n es s o up) (v : Nat) : v ∈ o ↔ Con es s v := by
  refine ⟨d.dfs.con v, fun h => ?_⟩
  induction h with
  | refl _ => exact List.mem_of_getElem? d.dfs.head
  | step _ a _ ih => exact d.full _ ih _ a
open Classical in
noncomputable def compL (n : Nat) (es : List Pr) (v : Nat) : List Nat := (List.range n).filter fun w => decide (Con es v w)
open Classical in
noncomputable def heads (n : Nat) (es : List Pr) : List Nat := (List.range n).filter fun v => decide (∀ u, u < v → ¬ Con es u v)
noncomputable def partsN (n : Nat) (es : List Pr) (k : Nat) : List (List Nat) := ((heads k es).map (compL n es))
theorem mem_compL {n : Nat} {es : List Pr} {v w : Nat} : w ∈ compL n es v ↔ w < n ∧ Con es v w := by simp [compL]
theorem mem_heads {n : Nat} {es : List Pr} {v : Nat} : v ∈ heads n es ↔ v < n ∧ ∀ u, u < v → ¬ Con es u v := by simp [heads]
theorem heads_succ (k : Nat) (es : List Pr) : (heads (k + 1) es = heads k es ++ [k] ∧ ∀ u, u < k → ¬ Con es u k) ∨ (heads (k + 1) es = heads k es ∧ ∃ u, u < k ∧ Con es u k) := by
  classical
  by_cases h : ∀ u, u < k → ¬ Con es u k
  · left; refine ⟨?_, h⟩; simp only [heads, List.range_succ, List.filter_append]; congr 1; simpa using h
  · right
    refine ⟨?_, by simpa using h⟩
    simp only [heads, List.range_succ, List.filter_append]
    rw [List.filter_cons_of_neg (by simpa using h)]; simp
theorem heads_length (k : Nat) (es : List Pr) : (heads k es).length ≤ k := by
  unfold heads; exact Nat.le_trans (List.length_filter_le _ _) (by simp)
theorem range_asc (n : Nat) : (List.range n).Pairwise (· < ·) := by
  rw [List.pairwise_iff_getElem]; intro i j hi hj hij; simpa using hij
theorem compL_asc (n : Nat) (es : List Pr) (v : Nat) : (compL n es v).Pairwise (· < ·) := (range_asc n).filter _
theorem sort_comp {n : Nat} {es : List Pr} (hr : InR n es) {s : Nat} {o : List Nat} {up : List Int} (d : DfsFin n es s o up) (hs : s < n) : sortI (nat64 o) = nat64 (compL n es s) := by
  have e1 : (nat64 (compL n es s)).Pairwise (· < ·) := by
    rw [nat64, List.pairwise_map]; exact (compL_asc n es s).imp fun h => by omega
  have e2 : (sortI (nat64 o)).Pairwise (· < ·) := by
    have nd : (sortI (nat64 o)).Nodup := by
      have hp : (sortI (nat64 o)).Perm (nat64 o) := List.mergeSort_perm _ _
      rw [hp.nodup_iff, nat64]
      have := d.dfs.nodup
      rw [List.nodup_iff_pairwise_ne] at this ⊢
      rw [List.pairwise_map]; exact this.imp fun h e => h (by omega)
    have := List.Pairwise.and (sortI_le (nat64 o)) (List.nodup_iff_pairwise_ne.1 nd)
    exact this.imp fun h => by have := h.1; have := h.2; omega
  refine sorted_eq _ _ e2 e1 fun x => ?_
  rw [sortI_mem]
  simp only [nat64, List.mem_map, mem_compL]
  constructor
  · rintro ⟨v, hv, rfl⟩; exact ⟨v, ⟨((d.mem v).1 hv).lt hr hs, (d.mem v).1 hv⟩, rfl⟩
  · rintro ⟨v, ⟨_, hv⟩, rfl⟩; exact ⟨v, (d.mem v).2 hv, rfl⟩
end Go.Fw
