/- One of the texts of the layer and the walks: it proves what its theorems say of the functions of the seat, with no condition beyond theirs. -/
import Derived.Test.YtmgcmoifdnkaoaaFwLT12
import Derived.Test.YtmgcmoifdnkaoaaFwLZ10
set_option linter.unusedSimpArgs false
set_option linter.unusedVariables false
namespace Go.Fw
set_option maxRecDepth 10000
attribute [local instance] Classical.propDecidable
def rowE (n : Nat) : List Pr := (List.range (n - 1)).map fun (a : Nat) => ((a : Int), ((a + 1 : Nat) : Int))
theorem rowE_length (n : Nat) : (rowE n).length = n - 1 := by simp [rowE]
theorem mem_rowE {n : Nat} {p : Pr} : p ∈ rowE n ↔ ∃ a : Nat, a + 1 < n ∧ p = ((a : Int), ((a + 1 : Nat) : Int)) := by
  rw [rowE, List.mem_map]
  constructor
  · rintro ⟨a, h, rfl⟩; rw [List.mem_range] at h; exact ⟨a, by omega, rfl⟩
  · rintro ⟨a, h, rfl⟩; exact ⟨a, by rw [List.mem_range]; omega, rfl⟩
theorem mem_rowE' {n a b : Nat} : ((a : Int), (b : Int)) ∈ rowE n ↔ a + 1 = b ∧ b < n := by
  rw [mem_rowE]
  constructor
  · rintro ⟨c, h, e⟩
    have h1 := congrArg Prod.fst e
    have h2 := congrArg Prod.snd e
    simp only at h1 h2; omega
  · rintro ⟨rfl, h⟩; exact ⟨a, h, rfl⟩
theorem adj_row {n x y : Nat} : adj (rowE n) x y ↔ (x + 1 = y ∧ y < n) ∨ (y + 1 = x ∧ x < n) := by
  rw [adj, mem_rowE', mem_rowE']
theorem row_in (n : Nat) : InR n (rowE n) := fun p hp => by
  obtain ⟨a, h, rfl⟩ := mem_rowE.1 hp
  simp only; omega
theorem row_pw (n : Nat) : (rowE n).Pairwise fun x y => x.1 < y.1 ∨ x.1 = y.1 ∧ x.2 < y.2 := by
  rw [rowE, List.pairwise_map]
  exact List.pairwise_lt_range.imp fun {a b} h => .inl (by simp only; omega)
theorem row_right {n : Nat} (h : n ≤ 200) : RightG ⟨(n : Int), rowE n⟩ := RightG.of h (by rw [rowE_length]; omega) (row_in n) (asc_pair.2 (row_pw n))
theorem row_side {n a x y : Nat} (h : Con (woE (rowE n) ((a : Int), ((a + 1 : Nat) : Int))) x y) : x ≤ a ↔ y ≤ a := by
  induction h with
  | refl _ => exact Iff.rfl
  | @step y z _ k _ ih =>
    rw [ih]
    obtain ⟨k1, k2⟩ := (woE_adj (row_in n) (by omega) _ _).1 k
    rw [adj_row] at k1
    simp only [isE] at k2
    omega
theorem row_br {n : Nat} {p : Pr} (hp : p ∈ rowE n) : Br (rowE n) p := by
  refine ⟨hp, fun h => ?_⟩
  obtain ⟨a, ha, rfl⟩ := mem_rowE.1 hp
  simp only [Int.toNat_natCast] at h
  have := row_side h
  omega
theorem row_bridges {n : Nat} (h : n ≤ 200) : bridgesM n (rowE n) = rowE n := by
  rw [bridges_eq (row_in n) (row_right h).asc, List.filter_eq_self.2]
  intro p hp; exact decide_eq_true (row_br hp)
theorem row_off {n v x y : Nat} (h : Cn (wo v) (rowE n) x y) : x < v ↔ y < v := by
  induction h with
  | refl _ => exact Iff.rfl
  | @step y z k1 k o ih =>
    rw [ih]
    have o1 := k1.off2
    simp only [wo, beq_eq_false_iff_ne] at o o1
    rw [adj_row] at k
    omega
theorem row_cut {n v : Nat} (hv : v < n) : Fo.Cut2 (rowE n) v ↔ 0 < v ∧ v + 1 < n := by
  constructor
  · rintro ⟨a, b, ha, hb, h⟩
    rw [adj_row] at ha hb
    refine Classical.byContradiction fun hc => h ?_
    obtain rfl : a = b := by omega
    exact .refl (wo_ne (by omega))
  · rintro ⟨h1, h2⟩
    refine ⟨v - 1, v + 1, adj_row.2 (by omega), adj_row.2 (by omega), fun h => ?_⟩
    have := row_off h
    omega
theorem range_mid (m : Nat) : ((List.range (m + 2)).filter fun v => decide (0 < v ∧ v + 1 < m + 2)).length = m := by
  have e : List.range (m + 2) = 0 :: (List.range m).map (· + 1) ++ [m + 1] := by
    rw [List.range_succ, show m + 1 = Nat.succ m from rfl, List.range_succ_eq_map]
  rw [e, List.filter_append, List.filter_cons, List.filter_map]
  have e1 : (List.range m).filter ((fun v => decide (0 < v ∧ v + 1 < m + 2)) ∘ (· + 1)) = List.range m := by
    rw [List.filter_eq_self]; intro a ha; rw [List.mem_range] at ha; simp; omega
  rw [e1]; simp
theorem row_cuts {n : Nat} (h3 : 3 ≤ n) : (cutsM n (rowE n)).length = n - 2 := by
  obtain ⟨m, rfl⟩ : ∃ m, n = m + 2 := ⟨n - 2, by omega⟩
  have := range_mid m
  rw [cutsM]
  rw [← List.filter_congr (p := fun v => decide (0 < v ∧ v + 1 < m + 2)) fun v hv => ?_, this]
  · rfl
  · rw [List.mem_range] at hv
    rw [Bool.eq_iff_iff, isCut_iff (row_in _) hv, row_cut hv, decide_eq_true_iff]
theorem key_one {n : Nat} {es : List Pr} (hR : RightG ⟨(n : Int), es⟩) (h : ∀ p ∈ es, Br es p) : (blocksM n es).length = es.length := by
  rw [blocksM_eq, List.length_map]
  obtain ⟨h1, h2⟩ := fk_ok (keyE n es) _ es rfl
  have inj : ∀ p ∈ es, ∀ q ∈ es, keyE n es p = keyE n es q → p = q := fun p hp q hq e => by
    have h3 := (single_iff hR hp).2 (h p hp)
    obtain ⟨x, hx⟩ := List.length_eq_one_iff.1 h3
    have m1 : p ∈ es.filter fun q => decide (keyE n es q = keyE n es p) := List.mem_filter.2 ⟨hp, by simp⟩
    have m2 : q ∈ es.filter fun q => decide (keyE n es q = keyE n es p) := List.mem_filter.2 ⟨hq, by simp [e]⟩
    rw [hx, List.mem_singleton] at m1 m2
    rw [m1, m2]
  have nd : (es.map (keyE n es)).Nodup := by
    rw [List.nodup_iff_pairwise_ne, List.pairwise_map]
    have := hR.nodup
    rw [List.nodup_iff_pairwise_ne] at this
    exact (this.imp_of_mem) fun {a b} ha hb hne e => hne (inj a ha b hb e)
  have l1 : fkM (keyE n es) es ⊆ es.map (keyE n es) := fun k hk => by
    obtain ⟨p, hp, e⟩ := (h2 k).1 hk; exact List.mem_map.2 ⟨p, hp, e⟩
  have l2 : es.map (keyE n es) ⊆ fkM (keyE n es) es := fun k hk => by
    obtain ⟨p, hp, e⟩ := List.mem_map.1 hk; exact (h2 k).2 ⟨p, hp, e⟩
  have a1 := h1.length_le_of_subset l1
  have a2 := nd.length_le_of_subset l2
  rw [List.length_map] at a1 a2
  omega
theorem row_blocks {n : Nat} (h : n ≤ 200) : (blocksM n (rowE n)).length = n - 1 := by
  rw [key_one (row_right h) fun p hp => row_br hp, rowE_length]
def ringL (n : Nat) : List Pr := rowE n ++ [(((n - 1 : Nat) : Int), 0)]
def ringE (n : Nat) : List Pr := sortP ((ringL n).map normP)
theorem norm_row (n : Nat) : (rowE n).map normP = rowE n := by
  have : ∀ p ∈ rowE n, normP p = p := fun p hp => by
    obtain ⟨a, h, rfl⟩ := mem_rowE.1 hp
    simp only [normP]; congr 1 <;> omega
  exact List.map_congr_left this |>.trans (List.map_id _)
theorem ringL_norm {n : Nat} : (ringL n).map normP = rowE n ++ [((0 : Int), ((n - 1 : Nat) : Int))] := by
  rw [ringL, List.map_append, norm_row]
  simp only [List.map_cons, List.map_nil, normP]
  congr 2
  simp only [Prod.mk.injEq]; omega
theorem ring_ok {n : Nat} (h3 : 3 ≤ n) (h : n ≤ 200) : NewOK (n : Int) (ringL n) where
  n0 := by omega
  n1 := by omega
  len := by rw [ringL, List.length_append, rowE_length]; simp; omega
  ok := fun p hp => by
    have : normP p ∈ (ringL n).map normP := List.mem_map.2 ⟨p, hp, rfl⟩
    rw [ringL_norm, List.mem_append, List.mem_singleton] at this
    rcases this with hm | hm
    · have := row_in n _ hm; omega
    · rw [hm]; simp only; omega
  nd := by
    rw [ringL_norm, List.nodup_append]
    refine ⟨(row_right h).nodup, by simp, fun a ha b hb e => ?_⟩
    rw [List.mem_singleton] at hb
    subst e; subst hb
    obtain ⟨c, hc, e⟩ := mem_rowE.1 ha
    have h1 := congrArg Prod.fst e
    have h2 := congrArg Prod.snd e
    simp only at h1 h2; omega
theorem ring_right {n : Nat} (h3 : 3 ≤ n) (h : n ≤ 200) : RightG ⟨(n : Int), ringE n⟩ := (ring_ok h3 h).right
theorem ring_length {n : Nat} (h3 : 3 ≤ n) : (ringE n).length = n := by
  rw [ringE, sortP_length, ringL_norm, List.length_append, rowE_length]; simp; omega
theorem mem_ring {n : Nat} {p : Pr} : p ∈ ringE n ↔ p ∈ rowE n ∨ p = ((0 : Int), ((n - 1 : Nat) : Int)) := by
  rw [ringE, sortP_mem, ringL_norm, List.mem_append, List.mem_singleton]
theorem adj_ring {n x y : Nat} : adj (ringE n) x y ↔ adj (rowE n) x y ∨ (x = 0 ∧ y = n - 1) ∨ (y = 0 ∧ x = n - 1) := by
  have e : ∀ a b : Nat, ((a : Int), (b : Int)) = ((0 : Int), ((n - 1 : Nat) : Int)) ↔ a = 0 ∧ b = n - 1 := fun a b => by
    rw [Prod.mk.injEq]; omega
  rw [adj, mem_ring, mem_ring, e, e, adj]
  constructor
  · rintro ((h | h) | (h | h))
    · exact .inl (.inl h)
    · exact .inr (.inl h)
    · exact .inl (.inr h)
    · exact .inr (.inr h)
  · rintro ((h | h) | (h | h))
    · exact .inl (.inl h)
    · exact .inr (.inl h)
    · exact .inl (.inr h)
    · exact .inr (.inr h)
theorem ring_low {n v : Nat} : ∀ k, k < v → k < n → Cn (wo v) (ringE n) 0 k
  | 0, h, _ => .refl (wo_ne (by omega))
  | k + 1, h, hn => .step (ring_low k (by omega) (by omega)) (adj_ring.2 (.inl (adj_row.2 (by omega)))) (wo_ne (by omega))
theorem ring_high {n v : Nat} : ∀ d k, k = n - 1 - d → v < k → d < n → Cn (wo v) (ringE n) (n - 1) k
  | 0, k, e, h, _ => by rw [show k = n - 1 by omega]; exact .refl (wo_ne (by omega))
  | d + 1, k, e, h, hd => .step (ring_high d (k + 1) (by omega) (by omega) (by omega)) (adj_ring.2 (.inl (adj_row.2 (by omega)))) (wo_ne (by omega))
theorem ring_on {n v x y : Nat} (h3 : 3 ≤ n) (hx : x < n) (hy : y < n) (nx : x ≠ v) (ny : y ≠ v) : Cn (wo v) (ringE n) x y := by
  have low : ∀ k, k < v → k < n → Cn (wo v) (ringE n) 0 k := fun k h1 h2 => ring_low k h1 h2
  have high : ∀ k, v < k → k < n → Cn (wo v) (ringE n) (n - 1) k := fun k h1 h2 => ring_high (n - 1 - k) k (by omega) h1 (by omega)
  have link : v ≠ 0 → v ≠ n - 1 → Cn (wo v) (ringE n) 0 (n - 1) := fun h1 h2 =>
    .step (.refl (wo_ne (by omega))) (adj_ring.2 (.inr (.inl ⟨rfl, rfl⟩))) (wo_ne (by omega))
  rcases Nat.lt_or_gt_of_ne nx with h1 | h1 <;> rcases Nat.lt_or_gt_of_ne ny with h2 | h2
  · exact (low x h1 hx).symm.trans (low y h2 hy)
  · exact (low x h1 hx).symm.trans ((link (by omega) (by omega)).trans (high y h2 hy))
  · exact (high x h1 hx).symm.trans ((link (by omega) (by omega)).symm.trans (low y h2 hy))
  · exact (high x h1 hx).symm.trans (high y h2 hy)
theorem ring_cuts {n : Nat} (h3 : 3 ≤ n) (h : n ≤ 200) : cutsM n (ringE n) = [] := by
  have hR := (ring_right h3 h).inR
  refine List.eq_nil_iff_forall_not_mem.2 fun v hv => ?_
  obtain ⟨hvn, a, b, ha, hb, hc⟩ := (cuts_mem hR v).1 hv
  have na : a ≠ v := fun e => by subst e; exact adj_irr hR ha
  have nb : b ≠ v := fun e => by subst e; exact adj_irr hR hb
  exact hc (ring_on h3 (ha.lt hR).2 (hb.lt hR).2 na nb)
theorem ring_key {n : Nat} (h3 : 3 ≤ n) (h : n ≤ 200) : ∀ p ∈ ringE n, keyE n (ringE n) p = keyE n (ringE n) (pairOf 0 1) := by
  have hR := (ring_right h3 h).inR
  have kk : ∀ {v a b : Nat}, adj (ringE n) v a → adj (ringE n) v b → keyE n (ringE n) (pairOf v a) = keyE n (ringE n) (pairOf v b) := fun {v a b} ha hb => by
    have na : a ≠ v := fun e => by subst e; exact adj_irr hR ha
    have nb : b ≠ v := fun e => by subst e; exact adj_irr hR hb
    exact (key_iff hR ha hb).2 (ring_on h3 (ha.lt hR).2 (hb.lt hR).2 na nb)
  have step : ∀ k, k + 1 < n → keyE n (ringE n) (pairOf k (k + 1)) = keyE n (ringE n) (pairOf 0 1) := by
    intro k
    induction k with
    | zero => intro _; rfl
    | succ k ih =>
      intro hk
      rw [← ih (by omega), pairOf_comm k (k + 1)]
      exact kk (adj_ring.2 (.inl (adj_row.2 (by omega)))) (adj_ring.2 (.inl (adj_row.2 (by omega))))
  intro p hp
  rcases mem_ring.1 hp with hp | rfl
  · obtain ⟨a, ha, rfl⟩ := mem_rowE.1 hp
    have e : ((a : Int), ((a + 1 : Nat) : Int)) = pairOf a (a + 1) := by rw [pairOf_of]; congr 1 <;> congr 1 <;> omega
    rw [e]; exact step a ha
  · have e : ((0 : Int), ((n - 1 : Nat) : Int)) = pairOf 0 (n - 1) := by rw [pairOf_of]; congr 1 <;> omega
    rw [e]; exact kk (adj_ring.2 (.inr (.inl ⟨rfl, rfl⟩))) (adj_ring.2 (.inl (adj_row.2 (by omega))))
theorem ring_blocks {n : Nat} (h3 : 3 ≤ n) (h : n ≤ 200) : blocksM n (ringE n) = [ringE n] := by
  have hk := ring_key h3 h
  obtain ⟨h1, h2⟩ := fk_ok (keyE n (ringE n)) _ (ringE n) rfl
  have h01 : pairOf 0 1 ∈ ringE n := by
    rw [mem_ring]; left
    have : pairOf 0 1 = (((0 : Nat) : Int), ((0 + 1 : Nat) : Int)) := rfl
    rw [this, mem_rowE']; omega
  rw [blocksM_eq]
  have hf : fkM (keyE n (ringE n)) (ringE n) = [keyE n (ringE n) (pairOf 0 1)] := by
    have hall : ∀ x ∈ fkM (keyE n (ringE n)) (ringE n), x = keyE n (ringE n) (pairOf 0 1) := fun x hx => by
      obtain ⟨p, hp, rfl⟩ := (h2 x).1 hx; exact hk p hp
    have hmem := (h2 _).2 ⟨_, h01, rfl⟩
    generalize fkM (keyE n (ringE n)) (ringE n) = l at *
    cases l with
    | nil => cases hmem
    | cons a r =>
      have ha := hall a (by simp)
      cases r with
      | nil => rw [ha]
      | cons b r =>
        have hb := hall b (by simp)
        rw [List.nodup_cons] at h1
        exact absurd (by rw [ha, hb]; simp) h1.1
  rw [hf]
  simp only [List.map_cons, List.map_nil]
  rw [List.filter_eq_self.2]
  intro p hp; exact decide_eq_true (hk p hp)
theorem ring_bridges {n : Nat} (h3 : 3 ≤ n) (h : n ≤ 200) : bridgesM n (ringE n) = [] := by
  have hR := ring_right h3 h
  rw [bridges_eq hR.inR hR.asc, List.filter_eq_nil_iff]
  intro p hp hb
  have hb : Br (ringE n) p := of_decide_eq_true hb
  have := (single_iff hR hp).2 hb
  rw [List.filter_eq_self.2 (fun q hq => decide_eq_true (by rw [ring_key h3 h q hq, ring_key h3 h p hp])), ring_length h3] at this
  omega
end Go.Fw
