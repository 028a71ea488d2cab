/- One of the texts of the layer and the walks: it proves what its theorems say of the functions of the seat, with no condition beyond theirs. -/
import Derived.Test.YtmgcmoifdnkaoaaFwLT12
import Derived.Test.YtmgcmoifdnkaoaaFwLZ11
set_option linter.unusedSimpArgs false
set_option linter.unusedVariables false
namespace Go.Fw
set_option maxRecDepth 10000
attribute [local instance] Classical.propDecidable
structure IsoG (n : Nat) (es fs : List Pr) (π : Nat → Nat) : Prop where
  r1 : InR n es
  r2 : InR n fs
  lt : ∀ a, a < n → π a < n
  inj : ∀ a b, a < n → b < n → π a = π b → a = b
  surj : ∀ x, x < n → ∃ a, a < n ∧ π a = x
  adj : ∀ a b, a < n → b < n → (adj fs (π a) (π b) ↔ adj es a b)
namespace IsoG
variable {n : Nat} {es fs : List Pr} {π : Nat → Nat}
theorem inv (I : IsoG n es fs π) : ∃ σ, IsoG n fs es σ ∧ (∀ a, a < n → σ (π a) = a) ∧ ∀ x, x < n → π (σ x) = x := by
  let σ : Nat → Nat := fun x => if h : ∃ a, a < n ∧ π a = x then Classical.choose h else 0
  have hs : ∀ x, x < n → σ x < n ∧ π (σ x) = x := fun x hx => by
    have h := I.surj x hx
    have := Classical.choose_spec h
    simp only [σ, dif_pos h]; exact this
  have h1 : ∀ a, a < n → σ (π a) = a := fun a ha => I.inj _ _ (hs _ (I.lt a ha)).1 ha (hs _ (I.lt a ha)).2
  exact ⟨σ, ⟨I.r2, I.r1, fun a ha => (hs a ha).1, fun a b ha hb e => by rw [← (hs a ha).2, ← (hs b hb).2, e], fun x hx => ⟨π x, I.lt x hx, h1 x hx⟩,
    fun a b ha hb => by rw [← I.adj _ _ (hs a ha).1 (hs b hb).1, (hs a ha).2, (hs b hb).2]⟩, h1, fun x hx => (hs x hx).2⟩
theorem cn {on on' : Nat → Bool} (I : IsoG n es fs π) (ho : ∀ x, x < n → on' (π x) = on x) {a b : Nat} (ha : a < n) (h : Cn on es a b) : Cn on' fs (π a) (π b) := by
  induction h with
  | refl h => exact .refl (by rw [ho _ ha]; exact h)
  | @step x y k e o ih =>
    obtain ⟨h1, h2⟩ := e.lt I.r1
    exact .step ih ((I.adj _ _ h1 h2).2 e) (by rw [ho _ h2]; exact o)
theorem cn_iff {on on' : Nat → Bool} (I : IsoG n es fs π) (ho : ∀ x, x < n → on' (π x) = on x) {a b : Nat} (ha : a < n) (hb : b < n) : Cn on' fs (π a) (π b) ↔ Cn on es a b := by
  refine ⟨fun h => ?_, I.cn ho ha⟩
  obtain ⟨σ, J, h1, h2⟩ := I.inv
  have := J.cn (on := on') (on' := on) (fun x hx => by rw [← ho _ (J.lt x hx), h2 x hx]) (I.lt a ha) h
  rwa [h1 a ha, h1 b hb] at this
theorem wo (I : IsoG n es fs π) {v a b : Nat} (hv : v < n) (ha : a < n) (hb : b < n) : Cn (Go.Fw.wo (π v)) fs (π a) (π b) ↔ Cn (Go.Fw.wo v) es a b :=
  I.cn_iff (fun x hx => by
    by_cases e : x = v
    · subst e; simp [Go.Fw.wo]
    · rw [wo_ne e, wo_ne fun h => e (I.inj _ _ hx hv h)]) ha hb
theorem con (I : IsoG n es fs π) {a b : Nat} (ha : a < n) (hb : b < n) : Con fs (π a) (π b) ↔ Con es a b := I.cn_iff (fun _ _ => rfl) ha hb
theorem cut2 (I : IsoG n es fs π) {v : Nat} (hv : v < n) : Fo.Cut2 fs (π v) ↔ Fo.Cut2 es v := by
  constructor
  · rintro ⟨a, b, ha, hb, h⟩
    obtain ⟨x, hx, rfl⟩ := I.surj a (ha.lt I.r2).2
    obtain ⟨y, hy, rfl⟩ := I.surj b (hb.lt I.r2).2
    exact ⟨x, y, (I.adj _ _ hv hx).1 ha, (I.adj _ _ hv hy).1 hb, fun k => h ((I.wo hv hx hy).2 k)⟩
  · rintro ⟨a, b, ha, hb, h⟩
    have h1 := (ha.lt I.r1).2
    have h2 := (hb.lt I.r1).2
    exact ⟨π a, π b, (I.adj _ _ hv h1).2 ha, (I.adj _ _ hv h2).2 hb, fun k => h ((I.wo hv h1 h2).1 k)⟩
end IsoG
def mapE (π : Nat → Nat) (p : Pr) : Pr := pairOf (π p.1.toNat) (π p.2.toNat)
theorem mapE_pair {π : Nat → Nat} {a b : Nat} : mapE π (pairOf a b) = pairOf (π a) (π b) := by
  rw [pairOf_of, mapE]; simp only [Int.toNat_natCast]
  rcases Nat.le_total a b with h | h
  · rw [Nat.min_eq_left h, Nat.max_eq_right h]
  · rw [Nat.min_eq_right h, Nat.max_eq_left h, pairOf_comm]
theorem pair_ex {n : Nat} {es : List Pr} (hr : InR n es) {p : Pr} (hp : p ∈ es) : ∃ a b : Nat, a < n ∧ b < n ∧ adj es a b ∧ p = pairOf a b := by
  obtain ⟨a, c, rfl, hac, hcn, h⟩ := ends hr hp
  exact ⟨a, c, by omega, hcn, h, by rw [pairOf_of, Nat.min_eq_left (by omega), Nat.max_eq_right (by omega)]⟩
namespace IsoG
variable {n : Nat} {es fs : List Pr} {π : Nat → Nat}
theorem mem (I : IsoG n es fs π) {p : Pr} (hp : p ∈ es) : mapE π p ∈ fs := by
  obtain ⟨a, b, ha, hb, h, rfl⟩ := pair_ex I.r1 hp
  rw [mapE_pair]; exact adj_mem' I.r2 ((I.adj _ _ ha hb).2 h)
theorem key1 (I : IsoG n es fs π) {p q : Pr} (hp : p ∈ es) (hq : q ∈ es) (h : keyE n es p = keyE n es q) : keyE n fs (mapE π p) = keyE n fs (mapE π q) := by
  refine key_link I.r1 (fun p => keyE n fs (mapE π p)) (fun v a b ha hb k => ?_) hp hq h
  have hv := (ha.lt I.r1).1
  have h1 := (ha.lt I.r1).2
  have h2 := (hb.lt I.r1).2
  show keyE n fs (mapE π (pairOf v a)) = keyE n fs (mapE π (pairOf v b))
  rw [mapE_pair, mapE_pair]
  exact (key_iff I.r2 ((I.adj _ _ hv h1).2 ha) ((I.adj _ _ hv h2).2 hb)).2 ((I.wo hv h1 h2).2 k)
theorem back {σ : Nat → Nat} (I : IsoG n es fs π) (h1 : ∀ a, a < n → σ (π a) = a) {p : Pr} (hp : p ∈ es) : mapE σ (mapE π p) = p := by
  obtain ⟨a, b, ha, hb, h, rfl⟩ := pair_ex I.r1 hp
  rw [mapE_pair, mapE_pair, h1 a ha, h1 b hb]
theorem key (I : IsoG n es fs π) {p q : Pr} (hp : p ∈ es) (hq : q ∈ es) : keyE n fs (mapE π p) = keyE n fs (mapE π q) ↔ keyE n es p = keyE n es q := by
  refine ⟨fun h => ?_, I.key1 hp hq⟩
  obtain ⟨σ, J, h1, h2⟩ := I.inv
  have := J.key1 (I.mem hp) (I.mem hq) h
  rwa [I.back h1 hp, I.back h1 hq] at this
theorem inj_E (I : IsoG n es fs π) {p q : Pr} (hp : p ∈ es) (hq : q ∈ es) (e : mapE π p = mapE π q) : p = q := by
  obtain ⟨σ, J, h1, h2⟩ := I.inv
  rw [← I.back h1 hp, ← I.back h1 hq, e]
theorem sur_E (I : IsoG n es fs π) {q : Pr} (hq : q ∈ fs) : ∃ p ∈ es, mapE π p = q := by
  obtain ⟨σ, J, h1, h2⟩ := I.inv
  exact ⟨mapE σ q, J.mem hq, J.back h2 hq⟩
theorem perm (I : IsoG n es fs π) (hn : es.Nodup) (hm : fs.Nodup) : fs.Perm (es.map (mapE π)) := by
  have nd : (es.map (mapE π)).Nodup := by
    rw [List.nodup_iff_pairwise_ne, List.pairwise_map]
    exact (List.nodup_iff_pairwise_ne.1 hn).imp_of_mem fun {a b} ha hb hne e => hne (I.inj_E ha hb e)
  refine (List.perm_ext_iff_of_nodup hm nd).2 fun q => ?_
  rw [List.mem_map]
  constructor
  · intro hq; obtain ⟨p, hp, e⟩ := I.sur_E hq; exact ⟨p, hp, e⟩
  · rintro ⟨p, hp, rfl⟩; exact I.mem hp
theorem block_len (I : IsoG n es fs π) (hn : es.Nodup) (hm : fs.Nodup) {p : Pr} (hp : p ∈ es) : (fs.filter fun q => decide (keyE n fs q = keyE n fs (mapE π p))).length = (es.filter fun q => decide (keyE n es q = keyE n es p)).length := by
  rw [((I.perm hn hm).filter _).length_eq, List.filter_map, List.length_map]
  congr 1
  refine List.filter_congr fun q hq => ?_
  simp only [Function.comp]
  rw [decide_eq_decide]
  exact I.key hq hp
end IsoG
theorem choice_le' {α β : Type} [DecidableEq β] {A : List α} {B : List β} {R : α → β → Prop} (na : A.Nodup) (h : ∀ a ∈ A, ∃ b ∈ B, R a b) (inj : ∀ a ∈ A, ∀ a' ∈ A, ∀ b, R a b → R a' b → a = a') : A.length ≤ B.length := by
  induction A generalizing B with
  | nil => simp
  | cons a A ih =>
    rw [List.nodup_cons] at na
    obtain ⟨b, hb, hr⟩ := h a (by simp)
    have := ih (B := B.erase b) na.2 (fun a' ha' => by
      obtain ⟨b', hb', hr'⟩ := h a' (by simp [ha'])
      refine ⟨b', ?_, hr'⟩
      have hne : b' ≠ b := fun e => by
        subst e
        have := inj a (by simp) a' (by simp [ha']) b' hr hr'
        subst this; exact na.1 ha'
      exact (List.mem_erase_of_ne hne).2 hb') (fun a ha a' ha' => inj a (by simp [ha]) a' (by simp [ha']))
    rw [List.length_erase_of_mem hb] at this
    have := List.length_pos_of_mem hb
    rw [List.length_cons]; omega
namespace IsoG
variable {n : Nat} {es fs : List Pr} {π : Nat → Nat}
theorem blocks_le (I : IsoG n es fs π) : (blocksM n es).length ≤ (blocksM n fs).length := by
  rw [blocksM_eq, blocksM_eq, List.length_map, List.length_map]
  obtain ⟨d1, m1⟩ := fk_ok (keyE n es) _ es rfl
  obtain ⟨d2, m2⟩ := fk_ok (keyE n fs) _ fs rfl
  refine choice_le' (R := fun k l => ∃ p ∈ es, keyE n es p = k ∧ keyE n fs (mapE π p) = l) d1 (fun k hk => ?_) fun k hk k' hk' l h1 h2 => ?_
  · obtain ⟨p, hp, e⟩ := (m1 k).1 hk
    exact ⟨_, (m2 _).2 ⟨_, I.mem hp, rfl⟩, p, hp, e, rfl⟩
  · obtain ⟨p, hp, rfl, e1⟩ := h1
    obtain ⟨q, hq, rfl, e2⟩ := h2
    exact (I.key hp hq).1 (e1.trans e2.symm)
theorem blocks (I : IsoG n es fs π) : (blocksM n es).length = (blocksM n fs).length := by
  obtain ⟨σ, J, _⟩ := I.inv
  have := I.blocks_le
  have := J.blocks_le
  omega
theorem cuts_mem (I : IsoG n es fs π) {v : Nat} (h : v ∈ cutsM n es) : π v ∈ cutsM n fs := by
  rw [Go.Fw.cuts_mem I.r1] at h
  rw [Go.Fw.cuts_mem I.r2]
  exact ⟨I.lt v h.1, (I.cut2 h.1).2 h.2⟩
theorem cutsM_nd (n : Nat) (es : List Pr) : (cutsM n es).Nodup := by rw [cutsM]; exact List.nodup_range.filter _
theorem cuts_le (I : IsoG n es fs π) : (cutsM n es).length ≤ (cutsM n fs).length := by
  refine choice_le' (R := fun a b => π a = b) (cutsM_nd n es) (fun a ha => ⟨_, I.cuts_mem ha, rfl⟩) fun a ha a' ha' b e1 e2 => ?_
  exact I.inj a a' ((Go.Fw.cuts_mem I.r1 a).1 ha).1 ((Go.Fw.cuts_mem I.r1 a').1 ha').1 (e1.trans e2.symm)
theorem cuts (I : IsoG n es fs π) : (cutsM n es).length = (cutsM n fs).length := by
  obtain ⟨σ, J, _⟩ := I.inv
  have := I.cuts_le
  have := J.cuts_le
  omega
end IsoG
theorem AppOK.iso {n : Nat} {es : List Pr} {ps : List Int} (A : AppOK ⟨(n : Int), es⟩ ps) : IsoG n es (appE ps es) (permF ps) := by
  have hN := A.new
  obtain ⟨hr, k, hl⟩ := A
  have hln : ps.length = n := by simp only at hl; omega
  have hmem : ∀ {a b : Nat}, a < n → b < n → (((a : Int), (b : Int)) ∈ es → pairOf (permF ps a) (permF ps b) ∈ appE ps es) := fun {a b} ha hb h => by
    rw [appE, sortP_mem]
    refine List.mem_map.2 ⟨_, List.mem_map.2 ⟨_, h, rfl⟩, ?_⟩
    rw [appP_nat k (by omega) (by omega)]; rfl
  have hm2 : ∀ {q}, q ∈ appE ps es → ∃ a b : Nat, a < n ∧ b < n ∧ ((a : Int), (b : Int)) ∈ es ∧ q = pairOf (permF ps a) (permF ps b) := fun {q} hq => by
    rw [appE, sortP_mem] at hq
    obtain ⟨r, hr', rfl⟩ := List.mem_map.1 hq
    obtain ⟨p, hp, rfl⟩ := List.mem_map.1 hr'
    obtain ⟨a, b, rfl, hab, hbn, _⟩ := ends hr.inR hp
    exact ⟨a, b, by omega, hbn, hp, by rw [appP_nat k (by omega) (by omega)]; rfl⟩
  have hr2 : InR n (appE ps es) := hN.right.inR
  refine ⟨hr.inR, hr2, fun a ha => by have := (k.get (show a < ps.length by omega)).2; omega, fun a b ha hb e => k.inj (by omega) (by omega) e, fun x hx => ?_, fun a b ha hb => ⟨fun h => ?_, fun h => ?_⟩⟩
  · obtain ⟨a, h1, h2⟩ := k.surj (show x < ps.length by omega)
    exact ⟨a, by omega, h2⟩
  · obtain ⟨c, d, hc, hd, hcd, e⟩ := hm2 (adj_mem' hr2 h)
    rw [pairOf_of, pairOf_of, Prod.mk.injEq] at e
    have inj := fun {x y : Nat} (hx : x < n) (hy : y < n) => k.inj (show x < ps.length by omega) (show y < ps.length by omega)
    have i1 := fun h => inj (x := a) (y := c) ha hc h
    have i2 := fun h => inj (x := b) (y := d) hb hd h
    have i3 := fun h => inj (x := a) (y := d) ha hd h
    have i4 := fun h => inj (x := b) (y := c) hb hc h
    rcases (show (permF ps a = permF ps c ∧ permF ps b = permF ps d) ∨ (permF ps a = permF ps d ∧ permF ps b = permF ps c) by omega) with ⟨h1, h2⟩ | ⟨h1, h2⟩
    · rw [i1 h1, i2 h2]; exact .inl hcd
    · rw [i3 h1, i4 h2]; exact .inr hcd
  · rcases h with h | h
    · have := hmem ha hb h
      rw [pairOf_of] at this
      rcases Nat.le_total (permF ps a) (permF ps b) with q | q
      · rw [Nat.min_eq_left q, Nat.max_eq_right q] at this; exact .inl this
      · rw [Nat.min_eq_right q, Nat.max_eq_left q] at this; exact .inr this
    · have := hmem hb ha h
      rw [pairOf_of] at this
      rcases Nat.le_total (permF ps a) (permF ps b) with q | q
      · rw [Nat.min_eq_right q, Nat.max_eq_left q] at this; exact .inl this
      · rw [Nat.min_eq_left q, Nat.max_eq_right q] at this; exact .inr this
theorem AppOK.right {n : Nat} {es : List Pr} {ps : List Int} (A : AppOK ⟨(n : Int), es⟩ ps) : RightG ⟨(n : Int), appE ps es⟩ := A.new.right
end Go.Fw
