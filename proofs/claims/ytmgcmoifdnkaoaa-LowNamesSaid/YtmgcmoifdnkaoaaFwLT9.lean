/- One of the texts of the layer and the walks: it proves what its theorems say of the functions of the seat, with no condition beyond theirs. -/
import Derived.Test.YtmgcmoifdnkaoaaFwLM6
set_option linter.unusedSimpArgs false
set_option linter.unusedVariables false
namespace Go.Fw
set_option maxRecDepth 10000
theorem woE_sub {es : List Pr} {p : Pr} {u v : Nat} (h : Con (woE es p) u v) : Con es u v := by
  induction h with
  | refl _ => exact Con.refl _ _
  | step _ a _ ih =>
    refine .step ih ?_ rfl
    rcases a with a | a
    · exact .inl (List.mem_filter.1 a).1
    · exact .inr (List.mem_filter.1 a).1
theorem ends {n : Nat} {es : List Pr} (hr : InR n es) {p : Pr} (hp : p ∈ es) : ∃ a c : Nat, p = ((a : Int), (c : Int)) ∧ a < c ∧ c < n ∧ adj es a c := by
  have hpos := hr p hp
  obtain ⟨x, y⟩ := p
  simp only at hpos
  obtain ⟨a, rfl⟩ := Int.eq_ofNat_of_zero_le hpos.1
  obtain ⟨c, rfl⟩ := Int.eq_ofNat_of_zero_le (show 0 ≤ y by omega)
  exact ⟨a, c, rfl, by omega, by omega, .inl hp⟩
theorem more_iff {n : Nat} {es : List Pr} (hr : InR n es) {p : Pr} (hp : p ∈ es) : (heads n es).length < (heads n (woE es p)).length ↔ Br es p := by
  obtain ⟨a, c, rfl, hac, hcn, hadj⟩ := ends hr hp
  have hr' : InR n (woE es ((a : Int), (c : Int))) := fun q hq => hr q (List.mem_filter.1 hq).1
  rw [heads_more hr hr' (fun u v h => woE_sub h)]
  constructor
  · rintro ⟨u, v, hu, hv, h, hn⟩
    refine ⟨hp, fun hc => hn ?_⟩
    simp only [Int.toNat_natCast] at hc
    clear hn hv hu
    induction h with
    | refl _ => exact Con.refl _ _
    | @step x y _ ha _ ih =>
      by_cases e : isE a c x y
      · rcases e with ⟨rfl, rfl⟩ | ⟨rfl, rfl⟩
        · exact ih.trans hc
        · exact ih.trans hc.symm
      · exact ih.step ((woE_adj hr hac x y).2 ⟨ha, e⟩) rfl
  · rintro ⟨_, hn⟩
    simp only [Int.toNat_natCast] at hn
    exact ⟨a, c, by omega, hcn, con_adj hadj, hn⟩
theorem single_iff {n : Nat} {es : List Pr} (hR : RightG ⟨(n : Int), es⟩) {p : Pr} (hp : p ∈ es) : (es.filter fun q => decide (keyE n es q = keyE n es p)).length = 1 ↔ Br es p := by
  have hr := hR.inR
  obtain ⟨a, c, rfl, hac, hcn, hadj⟩ := ends hr hp
  have hpc : pairOf a c = ((a : Int), (c : Int)) := by rw [pairOf_of, Nat.min_eq_left (by omega), Nat.max_eq_right (by omega)]
  have nd := hR.nodup
  have hnd := nd.sublist (List.filter_sublist (p := fun q => decide (keyE n es q = keyE n es ((a : Int), (c : Int)))))
  have hpm : ((a : Int), (c : Int)) ∈ es.filter fun q => decide (keyE n es q = keyE n es ((a : Int), (c : Int))) := List.mem_filter.2 ⟨hp, by simp⟩
  constructor
  · intro hl
    refine ⟨hp, fun hc => ?_⟩
    simp only [Int.toNat_natCast] at hc
    have key : ∀ y, Con (woE es ((a : Int), (c : Int))) a y → Cn (wo c) es a y ∨ ∃ x, x ≠ a ∧ adj es x c ∧ Cn (wo c) es a x := by
      intro y h
      induction h with
      | refl _ => exact .inl (.refl (wo_ne (by omega)))
      | @step y z _ ha _ ih =>
        rcases ih with ih | ih
        · obtain ⟨h1, h2⟩ := (woE_adj hr hac y z).1 ha
          by_cases e : z = c
          · subst e
            exact .inr ⟨y, fun e => h2 (.inl ⟨e, rfl⟩), h1, ih⟩
          · exact .inl (ih.step h1 (wo_ne e))
        · exact .inr ih
    rcases key c hc with h | ⟨x, hxa, hx, hcx⟩
    · have := h.off2; simp [wo] at this
    · have hk := (key_iff hr hadj.symm hx.symm).2 hcx
      rw [pairOf_comm c a, hpc, pairOf_comm c x] at hk
      have hm : pairOf x c ∈ es.filter fun q => decide (keyE n es q = keyE n es ((a : Int), (c : Int))) := List.mem_filter.2 ⟨adj_mem' hr hx, by simpa using hk.symm⟩
      have hne : pairOf x c ≠ ((a : Int), (c : Int)) := fun e => by
        rw [pairOf_of, Prod.mk.injEq] at e; omega
      generalize (es.filter fun q => decide (keyE n es q = keyE n es ((a : Int), (c : Int)))) = L at *
      match L, hl, hm, hpm with
      | [z], _, hm, hpm => simp at hm hpm; exact hne (hm.trans hpm.symm)
  · rintro ⟨_, hn⟩
    simp only [Int.toNat_natCast] at hn
    have hall : ∀ q ∈ es, keyE n es q = keyE n es ((a : Int), (c : Int)) → q = ((a : Int), (c : Int)) := fun q hq hk => by
      have := key_link hr (fun q => decide (q = ((a : Int), (c : Int)))) (fun v x y hx hy hxy => ?_) hq hp hk
      · simpa using this
      · -- of two edges that go together the one is p just if the other one is
        have one : ∀ {x y : Nat}, adj es v x → adj es v y → Cn (wo v) es x y → pairOf v x = ((a : Int), (c : Int)) → pairOf v y = ((a : Int), (c : Int)) := by
          intro x y hx hy hxy e
          by_cases exy : x = y
          · rw [← exy]; exact e
          · exfalso
            have hvx : isE a c v x := by
              rw [pairOf_of, Prod.mk.injEq] at e; unfold isE; omega
            have hnv : ∀ y, Cn (wo v) es x y → Con (woE es ((a : Int), (c : Int))) x y := by
              intro y h
              induction h with
              | refl _ => exact Con.refl _ _
              | @step s t h1 h2 h3 ih =>
                refine ih.step ((woE_adj hr hac s t).2 ⟨h2, fun k => ?_⟩) rfl
                have hs := h1.off2
                simp [wo] at hs h3
                rcases hvx with ⟨rfl, rfl⟩ | ⟨rfl, rfl⟩ <;> rcases k with ⟨rfl, rfl⟩ | ⟨rfl, rfl⟩ <;> first | exact hs rfl | exact h3 rfl
            have hyv : adj (woE es ((a : Int), (c : Int))) y v := (woE_adj hr hac y v).2 ⟨hy.symm, fun k => by
              rcases hvx with ⟨h1, h2⟩ | ⟨h1, h2⟩ <;> rcases k with ⟨h3, h4⟩ | ⟨h3, h4⟩ <;> omega⟩
            have hxv := (hnv y hxy).step hyv rfl
            rcases hvx with ⟨rfl, rfl⟩ | ⟨rfl, rfl⟩
            · exact hn hxv.symm
            · exact hn hxv
        rw [Bool.eq_iff_iff, decide_eq_true_eq, decide_eq_true_eq]
        exact ⟨one hx hy hxy, one hy hx hxy.symm⟩
    have hall' : ∀ q ∈ (es.filter fun q => decide (keyE n es q = keyE n es ((a : Int), (c : Int)))), q = ((a : Int), (c : Int)) := fun q hq => by
      rw [List.mem_filter, decide_eq_true_eq] at hq; exact hall q hq.1 hq.2
    generalize (es.filter fun q => decide (keyE n es q = keyE n es ((a : Int), (c : Int)))) = L at *
    match L, hnd, hpm, hall' with
    | [], _, hpm, _ => cases hpm
    | [x], _, _, _ => rfl
    | x :: y :: r, hnd, _, hall =>
      rw [List.nodup_cons] at hnd
      exact absurd (by rw [hall x (by simp), hall y (by simp)]; simp) hnd.1
end Go.Fw
