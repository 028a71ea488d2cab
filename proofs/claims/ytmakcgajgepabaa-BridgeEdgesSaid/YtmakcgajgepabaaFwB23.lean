/- One of the texts of the layer and the walks: it proves what its theorems say of the functions of the seat, with no condition beyond theirs. -/
import Derived.Test.YtmakcgajgepabaaFwB19
set_option linter.unusedSimpArgs false
set_option linter.unusedVariables false
namespace Go.Fw
open Go.Proofs
set_option maxHeartbeats 1000000
set_option maxRecDepth 10000
theorem asc_of_step {l : List Pr} (h : ∀ (i : Nat) p q, l[i]? = some p → l[i + 1]? = some q → cmpP p q < 0) : Asc l := by
  have step : ∀ (d i : Nat) p q, l[i]? = some p → l[i + (d + 1)]? = some q → cmpP p q < 0 := by
    intro d
    induction d with
    | zero => intro i p q hp hq; exact h i p q hp hq
    | succ d ih =>
      intro i p q hp hq
      have hl := (List.getElem?_eq_some_iff.1 hq).1
      have hm := getElem?_of (show i + (d + 1) < l.length by omega)
      have h1 := ih i p _ hp hm
      have h2 := h (i + (d + 1)) _ q hm (by rw [show i + (d + 1) + 1 = i + (d + 1 + 1) by omega]; exact hq)
      rw [cmpP_lt] at *
      omega
  intro i j p q hij hp hq
  exact step (j - i - 1) i p q hp (by rw [show i + (j - i - 1 + 1) = j by omega]; exact hq)
theorem Asc.nodup {l : List Pr} (a : Asc l) : l.Nodup := by
  rw [List.nodup_iff_pairwise_ne, List.pairwise_iff_getElem]
  intro i j hi hj hij e
  have := a i j _ _ hij (getElem?_of hi) (getElem?_of hj)
  have := (cmpP_eq l[i] l[j]).2 e
  omega
theorem web_iff {n : Int} {es web : List Pr} (hr : RightG ⟨n, es⟩) : WebOK es web ↔ WebR n es web := by
  constructor
  · intro w
    have hs : web ⊆ es := fun p hp => w.mem p hp
    have hlen := (asc_of_step w.asc).nodup.length_le_of_subset hs
    refine ⟨⟨hr.n0, hr.n1, ?_, fun i hi p hp => ?_⟩, w.mem⟩
    · have := hr.len; simp only at this ⊢; omega
    · obtain ⟨j, hj⟩ := List.mem_iff_getElem?.1 (w.mem p (List.mem_of_getElem? hp))
      refine ⟨(hr.ok j (List.getElem?_eq_some_iff.1 hj).1 p hj).1, fun q h0 hq => ?_⟩
      exact w.asc (i - 1) q p hq (by rw [show i - 1 + 1 = i by omega]; exact hp)
  · intro w
    refine ⟨fun i p q hp hq => ?_, w.mem⟩
    have hl := (List.getElem?_eq_some_iff.1 hq).1
    exact (w.right.ok (i + 1) hl q hq).2 p (by omega) (by simpa using hp)
theorem endB_iff (p : Pr) (v : Int) : endB p v = true ↔ p.1 = v ∨ p.2 = v := by simp [endB]
theorem onE_iff (web : List Pr) (v : Nat) : onE web (v : Int) = true ↔ onW web v := by simp [onE, onW, endB_iff]
theorem onM_getD {n : Nat} {web : List Pr} {u : Nat} (hu : u < n) : (onM n web).getD u false = onE web (u : Int) := by
  have : onE web (u : Int) = decide (onW web u) := by
    cases h : onE web (u : Int) with
    | true => exact (decide_eq_true ((onE_iff web u).1 h)).symm
    | false => exact (decide_eq_false (fun k => by rw [(onE_iff web u).2 k] at h; cases h)).symm
  rw [this, getD_of (by rw [onM_length]; exact hu)]
  simp [onM]
section
variable {n : Nat} {es web : List Pr} {L : List Int}
abbrev onF (n : Nat) (web : List Pr) : Nat → Bool := fun u => (onM n web).getD u false
theorem meet_iff (hR : InR n es) {a b : Pr} (ha : a ∈ es) : meetB a b web = true ↔ ∃ x : Nat, x < n ∧ endB a x = true ∧ endB b x = true ∧ onF n web x = false := by
  obtain ⟨a1, a2, a3⟩ := hR a ha
  simp only [meetB, Bool.or_eq_true, Bool.and_eq_true, Bool.not_eq_true']
  constructor
  · rintro (⟨h1, h2⟩ | ⟨h1, h2⟩)
    · have e : ((a.1.toNat : Nat) : Int) = a.1 := by omega
      refine ⟨a.1.toNat, by omega, by rw [endB_iff]; omega, by rw [e]; exact h1, ?_⟩
      rw [onF, onM_getD (by omega), e]; exact h2
    · have e : ((a.2.toNat : Nat) : Int) = a.2 := by omega
      refine ⟨a.2.toNat, by omega, by rw [endB_iff]; omega, by rw [e]; exact h1, ?_⟩
      rw [onF, onM_getD (by omega), e]; exact h2
  · rintro ⟨x, hx, h1, h2, h3⟩
    rw [onF, onM_getD hx] at h3
    rw [endB_iff] at h1
    rcases h1 with h1 | h1
    · exact .inl ⟨by rw [h1]; exact h2, by rw [h1]; exact h3⟩
    · exact .inr ⟨by rw [h1]; exact h2, by rw [h1]; exact h3⟩
theorem end_adj (hR : InR n es) {p : Pr} (hp : p ∈ es) {x y : Nat} (hx : endB p x = true) (hy : endB p y = true) : x = y ∨ adj es x y := by
  rw [endB_iff] at hx hy
  obtain ⟨a, b⟩ := p
  simp only at hx hy
  rcases hx with rfl | rfl <;> rcases hy with hy | hy
  · left; omega
  · subst hy; exact .inr (.inl hp)
  · subst hy; exact .inr (.inr hp)
  · left; omega
theorem adj_edge (hR : InR n es) {x y : Nat} (h : adj es x y) : ∃ (m : Nat) (q : Pr), es[m]? = some q ∧ endB q x = true ∧ endB q y = true := by
  rcases h with h | h
  · obtain ⟨m, hm⟩ := List.mem_iff_getElem?.1 h
    exact ⟨m, _, hm, by simp [endB], by simp [endB]⟩
  · obtain ⟨m, hm⟩ := List.mem_iff_getElem?.1 h
    exact ⟨m, _, hm, by simp [endB], by simp [endB]⟩
theorem label_eq (hR : InR n es) (hT : TogM n (onF n web) es L) {p : Pr} (hp : p ∈ es) {x y : Nat} (hx : x < n) (hy : y < n) (ex : endB p x = true) (ey : endB p y = true) (ox : onF n web x = false) (oy : onF n web y = false) : L.getD x 0 = L.getD y 0 := by
  rcases end_adj hR hp ex ey with rfl | h
  · rfl
  · have := (hT.same x y hx hy ox oy).2 ((Cn.refl ox).step h oy)
    rw [List.getD_eq_getElem?_getD, List.getD_eq_getElem?_getD, this]
theorem key_off (hR : InR n es) (hT : TogM n (onF n web) es L) {p : Pr} (hp : p ∈ es) (i : Nat) {x : Nat} (hx : x < n) (ex : endB p x = true) (ox : onF n web x = false) : fragM n (onF n web) L p i = L.getD x 0 := by
  obtain ⟨a1, a2, a3⟩ := hR p hp
  have e1 : endB p (p.1.toNat : Nat) = true := by rw [endB_iff]; omega
  have e2 : endB p (p.2.toNat : Nat) = true := by rw [endB_iff]; omega
  unfold fragM
  split
  · rename_i h1; exact label_eq hR hT hp (by omega) hx e1 ex h1 ox
  · rename_i h1
    split
    · rename_i h2; exact label_eq hR hT hp (by omega) hx e2 ex h2 ox
    · rename_i h2
      rw [endB_iff] at ex
      rcases ex with e | e
      · rw [e, Int.toNat_natCast] at h1; exact absurd ox h1
      · rw [e, Int.toNat_natCast] at h2; exact absurd ox h2
theorem key_cases (hR : InR n es) {p : Pr} (hp : p ∈ es) (i : Nat) : (∃ x : Nat, x < n ∧ endB p x = true ∧ onF n web x = false) ∨ fragM n (onF n web) L p i = (n : Int) + i := by
  obtain ⟨a1, a2, a3⟩ := hR p hp
  by_cases h1 : onF n web p.1.toNat = false
  · exact .inl ⟨p.1.toNat, by omega, by rw [endB_iff]; omega, h1⟩
  · by_cases h2 : onF n web p.2.toNat = false
    · exact .inl ⟨p.2.toNat, by omega, by rw [endB_iff]; omega, h2⟩
    · right; rw [fragM, if_neg h1, if_neg h2]
theorem label_rng (hT : TogM n (onF n web) es L) {x : Nat} (hx : x < n) (ox : onF n web x = false) : ∃ k : Nat, k < n ∧ L.getD x 0 = (k : Int) ∧ Cn (onF n web) es k x := by
  obtain ⟨k, h1, h2, h3⟩ := hT.off x hx ox
  exact ⟨k, h1, by rw [List.getD_eq_getElem?_getD, h2]; rfl, h3⟩
theorem key_iff (hR : InR n es) (hT : TogM n (onF n web) es L) (ha : Asc es) {i j : Nat} {p q : Pr} (hi : es[i]? = some p) (hj : es[j]? = some q) :
    Gw es web p j ↔ fragM n (onF n web) L p i = fragM n (onF n web) L q j := by
  have hp := List.mem_of_getElem? hi
  have hq := List.mem_of_getElem? hj
  constructor
  · intro w
    have : ∀ j, Gw es web p j → ∀ q, es[j]? = some q → fragM n (onF n web) L p i = fragM n (onF n web) L q j := by
      intro j w
      induction w with
      | base hb =>
        intro q hq
        rw [hb] at hq; injection hq with hq; subst hq
        rw [ha.uniq hi hb]
      | step _ hp' hq' hm ih =>
        intro r hr
        rw [hp'] at hr; injection hr with hr; subst hr
        have h1 := ih _ hq'
        obtain ⟨x, hx, e1, e2, ox⟩ := (meet_iff hR (List.mem_of_getElem? hp')).1 hm
        rw [h1, key_off hR hT (List.mem_of_getElem? hq') _ hx e2 ox, key_off hR hT (List.mem_of_getElem? hp') _ hx e1 ox]
    exact this j w q hj
  · intro e
    rcases key_cases (L := L) (web := web) hR hp i with ⟨x, hx, ex, ox⟩ | h1
    · rcases key_cases (L := L) (web := web) hR hq j with ⟨y, hy, ey, oy⟩ | h2
      · rw [key_off hR hT hp i hx ex ox, key_off hR hT hq j hy ey oy] at e
        have hc : Cn (onF n web) es x y := by
          refine (hT.same x y hx hy ox oy).1 ?_
          obtain ⟨k, _, l1, _⟩ := hT.off x hx ox
          obtain ⟨k', _, l2, _⟩ := hT.off y hy oy
          rw [List.getD_eq_getElem?_getD, List.getD_eq_getElem?_getD, l1, l2] at e
          rw [l1, l2]; simpa using e
        have : ∀ y, Cn (onF n web) es x y → y < n → ∀ (j : Nat) q, es[j]? = some q → endB q y = true → Gw es web p j := by
          intro y c
          induction c with
          | refl _ =>
            intro hy j q hj ey
            exact .step (.base hi) hj hi ((meet_iff hR (List.mem_of_getElem? hj)).2 ⟨x, hx, ey, ex, ox⟩)
          | @step w z c a o ih =>
            intro hy j q hj ey
            have hw := (a.lt hR).1
            obtain ⟨m, r, hm, r1, r2⟩ := adj_edge hR a
            exact .step (ih hw m r hm r1) hj hm ((meet_iff hR (List.mem_of_getElem? hj)).2 ⟨z, hy, ey, r2, o⟩)
        exact this y hc hy j q hj ey
      · rw [key_off hR hT hp i hx ex ox, h2] at e
        obtain ⟨k, hk, l1, _⟩ := label_rng hT hx ox
        omega
    · rcases key_cases (L := L) (web := web) hR hq j with ⟨y, hy, ey, oy⟩ | h2
      · rw [key_off hR hT hq j hy ey oy, h1] at e
        obtain ⟨k, hk, l1, _⟩ := label_rng hT hy oy
        omega
      · rw [h1, h2] at e
        obtain rfl : i = j := by omega
        exact .base hi
end
end Go.Fw
namespace Go.Fw
open Go.Proofs
set_option maxHeartbeats 1000000
set_option maxRecDepth 10000
theorem sorted_eq : ∀ (a b : List Int), a.Pairwise (· < ·) → b.Pairwise (· < ·) → (∀ x, x ∈ a ↔ x ∈ b) → a = b
  | [], [], _, _, _ => rfl
  | [], y :: b, _, _, h => by have := (h y).2 (by simp); simp at this
  | x :: a, [], _, _, h => by have := (h x).1 (by simp); simp at this
  | x :: a, y :: b, ha, hb, h => by
    rw [List.pairwise_cons] at ha hb
    have e : x = y := by
      have h1 := (h x).1 (by simp)
      have h2 := (h y).2 (by simp)
      rw [List.mem_cons] at h1 h2
      rcases h1 with h1 | h1
      · exact h1
      · rcases h2 with h2 | h2
        · exact h2.symm
        · have := hb.1 x h1; have := ha.1 y h2; omega
    subst e
    rw [sorted_eq a b ha.2 hb.2 fun z => ?_]
    constructor
    · intro hz
      have := (h z).1 (by simp [hz])
      rw [List.mem_cons] at this
      rcases this with rfl | h'
      · have := ha.1 z hz; omega
      · exact h'
    · intro hz
      have := (h z).2 (by simp [hz])
      rw [List.mem_cons] at this
      rcases this with rfl | h'
      · have := hb.1 z hz; omega
      · exact h'
theorem compact_mem (l : List Int) (x : Int) : x ∈ Lib.compact l ↔ x ∈ l := by
  simp only [Lib.compact, Lib.compactUpTo, List.mem_map, List.mem_filter, List.mem_range]
  constructor
  · rintro ⟨j, ⟨hj, _⟩, rfl⟩
    rw [getElem!_pos _ j (by simpa using hj)]
    simp
  · intro hx
    obtain ⟨j, hj, rfl⟩ := List.mem_iff_getElem.1 hx
    clear hx
    induction j with
    | zero => exact ⟨0, ⟨hj, by simp [Lib.keeps]⟩, by rw [getElem!_pos _ 0 (by simpa using hj)]; simp⟩
    | succ j ih =>
      by_cases c : l[j + 1] = l[j]
      · rw [c]; exact ih (by omega)
      · refine ⟨j + 1, ⟨hj, ?_⟩, by rw [getElem!_pos _ (j + 1) (by simpa using hj)]; simp⟩
        simp only [Lib.keeps, decide_eq_true_eq, Nat.add_sub_cancel]
        right
        rw [getElem!_pos _ (j + 1) (by simpa using hj), getElem!_pos _ j (by simp; omega)]
        simpa using c
theorem compact_lt {l : List Int} (h : l.Pairwise (· ≤ ·)) : (Lib.compact l).Pairwise (· < ·) := by
  simp only [Lib.compact, Lib.compactUpTo]
  rw [List.pairwise_map]
  have h1 : ((List.range l.length).filter (Lib.keeps l.toArray)).Pairwise (· < ·) := List.Pairwise.filter _ List.pairwise_lt_range
  refine List.Pairwise.imp_of_mem ?_ h1
  intro i j hi hj hij
  rw [List.mem_filter, List.mem_range] at hi hj
  obtain ⟨hj1, hj2⟩ := hj
  simp only [Lib.keeps, decide_eq_true_eq] at hj2
  rw [getElem!_pos _ i (by simp; omega), getElem!_pos _ j (by simpa using hj1)] at *
  rcases hj2 with h0 | h0
  · omega
  · rw [getElem!_pos _ (j - 1) (by simp; omega)] at h0
    rw [List.pairwise_iff_getElem] at h
    simp only [List.getElem_toArray] at *
    have h2 := h (j - 1) j (by omega) hj1 (by omega)
    by_cases e : i = j - 1
    · subst e; omega
    · have := h i (j - 1) (by omega) (by omega) (by omega); omega
theorem sortI_mem (l : List Int) (x : Int) : x ∈ sortI l ↔ x ∈ l := by simp [sortI]
theorem sortI_le (l : List Int) : (sortI l).Pairwise (· ≤ ·) := by
  have := List.pairwise_mergeSort (le := fun x y : Int => decide (x ≤ y)) (fun a b c h1 h2 => by simp at *; omega) (fun a b => by simp; omega) l
  simpa [sortI] using this
theorem feet_eq {n : Nat} {es web l : List Pr} (hR : InR n es) (hl : ∀ p ∈ l, p ∈ es) : feetM (onF n web) l = nat64 (rfeet web l n) := by
  refine sorted_eq _ _ (compact_lt (sortI_le _)) ?_ fun x => ?_
  · rw [nat64, List.pairwise_map, rfeet]
    exact List.Pairwise.imp (fun h => by omega) (List.Pairwise.filter _ List.pairwise_lt_range)
  · rw [feetM, compact_mem, sortI_mem]
    simp only [ftL, ftP, List.mem_flatMap, List.mem_filter, nat64, rfeet, List.mem_map, List.mem_range, Bool.and_eq_true]
    constructor
    · rintro ⟨p, hp, hx, ho⟩
      obtain ⟨a1, a2, a3⟩ := hR p (hl p hp)
      have hx' : x = p.1 ∨ x = p.2 := by simpa using hx
      have hb : 0 ≤ x ∧ x < (n : Int) := by rcases hx' with rfl | rfl <;> omega
      obtain ⟨v, rfl⟩ := Int.eq_ofNat_of_zero_le hb.1
      rw [Int.toNat_natCast, onF, onM_getD (by omega)] at ho
      exact ⟨v, ⟨by omega, ho, by rw [onE, List.any_eq_true]; exact ⟨p, hp, by rw [endB_iff]; rcases hx' with h | h <;> omega⟩⟩, rfl⟩
    · rintro ⟨v, ⟨hv, h1, h2⟩, rfl⟩
      rw [onE, List.any_eq_true] at h2
      obtain ⟨p, hp, he⟩ := h2
      rw [endB_iff] at he
      exact ⟨p, hp, by simp; rcases he with h | h <;> omega, by rw [Int.toNat_natCast, onF, onM_getD hv]; exact h1⟩
def fullU (fr : Pr → Nat → Int) (es web : List Pr) (k : Int) : Nat → List Pr
  | 0 => []
  | i + 1 => match es[i]? with
    | some p => if p ∈ web then fullU fr es web k i else if fr p i = k then fullU fr es web k i ++ [p] else fullU fr es web k i
    | none => fullU fr es web k i
theorem lstG_add (gs : List Gr) (f k : Int) (p : Pr) : lstG (addG gs f p) k = if f = k then lstG gs k ++ [p] else lstG gs k := by
  induction gs with
  | nil => simp only [addG, lstG]; split <;> simp
  | cons g gs ih =>
    obtain ⟨a, l⟩ := g
    by_cases c : a = f
    · subst c; simp only [addG, if_true, lstG]; split <;> simp
    · simp only [addG, if_neg c, lstG, ih]
      by_cases c2 : a = k
      · subst c2; simp [Ne.symm c]
      · simp [c2]
theorem lst_full (fr : Pr → Nat → Int) (es web : List Pr) (k : Int) (i : Nat) : lstG (grpsM fr es web i) k = fullU fr es web k i := by
  induction i with
  | zero => rfl
  | succ i ih =>
    cases hp : es[i]? with
    | none => simp only [grpsM, fullU, hp]; exact ih
    | some p =>
      by_cases c : p ∈ web
      · simp only [grpsM, fullU, hp, c, if_true]; exact ih
      · simp only [grpsM, fullU, hp, c, if_false]; rw [lstG_add, ih]
theorem full_mem (fr : Pr → Nat → Int) (es web : List Pr) (k : Int) (q : Pr) (i : Nat) : q ∈ fullU fr es web k i ↔ ∃ j, j < i ∧ es[j]? = some q ∧ q ∉ web ∧ fr q j = k := by
  induction i with
  | zero => simp [fullU]
  | succ i ih =>
    have split : (∃ j, j < i + 1 ∧ es[j]? = some q ∧ q ∉ web ∧ fr q j = k) ↔ (∃ j, j < i ∧ es[j]? = some q ∧ q ∉ web ∧ fr q j = k) ∨ (es[i]? = some q ∧ q ∉ web ∧ fr q i = k) := by
      constructor
      · rintro ⟨j, hj, h⟩
        by_cases e : j = i
        · subst e; exact .inr h
        · exact .inl ⟨j, by omega, h⟩
      · rintro (⟨j, hj, h⟩ | h)
        · exact ⟨j, by omega, h⟩
        · exact ⟨i, by omega, h⟩
    rw [split, ← ih]
    cases hp : es[i]? with
    | none => simp [fullU, hp]
    | some p =>
      simp only [fullU, hp, Option.some.injEq]
      by_cases c : p ∈ web
      · simp only [c, if_true]
        exact ⟨.inl, fun h => h.elim id fun ⟨e, h, _⟩ => absurd (by rw [← e]; exact c) h⟩
      · simp only [c, if_false]
        by_cases c2 : fr p i = k
        · simp only [c2, if_true, List.mem_append, List.mem_singleton]
          exact ⟨fun h => h.elim .inl fun e => .inr ⟨e.symm, by rw [e]; exact c, by rw [e]; exact c2⟩, fun h => h.elim .inl fun ⟨e, _⟩ => .inr e.symm⟩
        · simp only [c2, if_false]
          exact ⟨.inl, fun h => h.elim id fun ⟨e, _, h⟩ => absurd (by rw [e]; exact h) c2⟩
theorem sel_full {fr : Pr → Nat → Int} {es web : List Pr} {k : Int} {S : List Bool} (h : ∀ (j : Nat) p, es[j]? = some p → (S.getD j false = true ↔ p ∉ web ∧ fr p j = k)) (i : Nat) : selM es S i = fullU fr es web k i := by
  induction i with
  | zero => rfl
  | succ i ih =>
    cases hp : es[i]? with
    | none => simp only [selM, fullU, hp]; exact ih
    | some p =>
      have := h i p hp
      simp only [selM, fullU, hp, this]
      by_cases c : p ∈ web
      · simp [c, ih]
      · simp [c, ih]
theorem grps_map {α : Type} (F : List Pr → α) (gs : List Gr) (hn : (keysG gs).Nodup) : gs.map (fun g => F g.2) = (keysG gs).map fun k => F (lstG gs k) := by
  rw [keysG, List.map_map]
  refine List.map_congr_left fun g hg => ?_
  obtain ⟨i, hi⟩ := List.mem_iff_getElem?.1 hg
  obtain ⟨k, l⟩ := g
  show F l = F (lstG gs k)
  rw [lstG_get hn hi]
theorem RO.eq {n : Nat} {es web : List Pr} {L : List Int} (hR : InR n es) (ha : Asc es) (hT : TogM n (onF n web) es L) {i : Nat} {fs : List FM} {done : List Pr} (ro : RO es web n i fs done) :
    fs = (keysG (grpsM (fragM n (onF n web) L) es web i)).map (fun k => ⟨fullU (fragM n (onF n web) L) es web k es.length, nat64 (rfeet web (fullU (fragM n (onF n web) L) es web k es.length) n)⟩) ∧
      ∀ (j : Nat) p, es[j]? = some p → p ∉ web → (p ∈ done ↔ fragM n (onF n web) L p j ∈ keysG (grpsM (fragM n (onF n web) L) es web i)) := by
  induction ro with
  | nil => exact ⟨rfl, fun j p _ _ => by simp [grpsM, keysG]⟩
  | @skip i fs done p _ hp hd ih =>
    obtain ⟨ih1, ih2⟩ := ih
    by_cases c : p ∈ web
    · rw [grpsM_in hp c]; exact ⟨ih1, ih2⟩
    · have hd' : p ∈ done := hd.resolve_left c
      rw [grpsM_out hp c, keysG_add, if_pos ((ih2 i p hp c).1 hd')]
      exact ⟨ih1, ih2⟩
  | @take i fs done p S _ hp hw hd hS ih =>
    obtain ⟨ih1, ih2⟩ := ih
    have hnk : fragM n (onF n web) L p i ∉ keysG (grpsM (fragM n (onF n web) L) es web i) := fun h => hd ((ih2 i p hp hw).2 h)
    rw [grpsM_out hp hw, keysG_add, if_neg hnk]
    have hsel : selM es S es.length = fullU (fragM n (onF n web) L) es web (fragM n (onF n web) L p i) es.length := by
      refine sel_full (fun j q hj => ?_) _
      have hjl := (List.getElem?_eq_some_iff.1 hj).1
      have e1 : S.getD j false = true ↔ S[j]? = some true := by
        rw [List.getD_eq_getElem?_getD]
        cases h : S[j]? with
        | none => simp
        | some b => simp
      rw [e1, hS.iff, key_iff hR hT ha hp hj]
      constructor
      · intro e
        refine ⟨fun hqw => ?_, e.symm⟩
        have hq := List.mem_of_getElem? hj
        have onq : ∀ x : Nat, x < n → endB q x = true → onF n web x = true := fun x hx he => by
          rw [onF, onM_getD hx, onE, List.any_eq_true]; exact ⟨q, hqw, he⟩
        rcases key_cases (L := L) (web := web) hR hq j with ⟨x, hx, ex, ox⟩ | h2
        · rw [onq x hx ex] at ox; cases ox
        · rcases key_cases (L := L) (web := web) hR (List.mem_of_getElem? hp) i with ⟨x, hx, ex, ox⟩ | h1
          · rw [key_off hR hT (List.mem_of_getElem? hp) i hx ex ox, h2] at e
            obtain ⟨k, hk, l1, _⟩ := label_rng hT hx ox
            omega
          · rw [h1, h2] at e
            obtain rfl : i = j := by omega
            rw [hp] at hj; injection hj with hj; subst hj; exact hw hqw
      · rintro ⟨_, e⟩; exact e.symm
    rw [hsel]
    refine ⟨by rw [ih1]; simp, fun j q hj hq => ?_⟩
    rw [List.mem_append, List.mem_append, ih2 j q hj hq, full_mem, List.mem_singleton]
    constructor
    · rintro (h | ⟨j', _, hj', _, h⟩)
      · exact .inl h
      · rw [ha.uniq hj hj']; exact .inr h
    · rintro (h | h)
      · exact .inl h
      · exact .inr ⟨j, (List.getElem?_eq_some_iff.1 hj).1, hj, hq, h⟩
theorem frags_eq {n : Nat} {es web : List Pr} {L : List Int} (hr : RightG ⟨(n : Int), es⟩) (hT : TogM n (onF n web) es L) {fs : List FM} {done : List Pr} (ro : RO es web n es.length fs done) : FragsM n es web L = fs := by
  rw [(ro.eq hr.inR hr.asc hT).1]
  obtain ⟨nd, _, _, _, gm⟩ := grpsM_ok (fragM n (onF n web) L) es web es.length
  have h1 : FragsM n es web L = (grpsM (fragM n (onF n web) L) es web es.length).map (fun g => (fun l => (⟨l, nat64 (rfeet web l n)⟩ : FM)) g.2) := by
    refine List.map_congr_left fun g hg => ?_
    show (⟨g.2, feetM (onF n web) g.2⟩ : FM) = ⟨g.2, nat64 (rfeet web g.2 n)⟩
    rw [feet_eq hr.inR fun p hp => gm g hg p hp]
  rw [h1]
  refine (grps_map (fun l => (⟨l, nat64 (rfeet web l n)⟩ : FM)) _ nd).trans ?_
  refine List.map_congr_left fun k _ => ?_
  rw [lst_full]
end Go.Fw
