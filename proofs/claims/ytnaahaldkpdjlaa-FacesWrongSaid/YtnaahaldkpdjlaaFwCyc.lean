/- A text of the proof. -/

set_option linter.unusedSimpArgs false
set_option linter.unusedVariables false
namespace Go.Fw
set_option maxRecDepth 10000
attribute [local instance] Classical.propDecidable
variable {α : Type}
noncomputable def cls (R : α → α → Prop) : List α → Nat
 | [] => 0
 | x :: l => cls R l + if ∃ y ∈ l, R x y then 0 else 1
structure Eqv (X : List α) (R : α → α → Prop) : Prop where
 refl : ∀ x ∈ X, R x x
 symm : ∀ x ∈ X, ∀ y ∈ X, R x y → R y x
 trans : ∀ x ∈ X, ∀ y ∈ X, ∀ z ∈ X, R x y → R y z → R x z
theorem Eqv.sub {X Y : List α} {R : α → α → Prop} (h : Eqv X R) (hs : ∀ y ∈ Y, y ∈ X) : Eqv Y R :=
 ⟨fun x hx => h.refl x (hs x hx), fun x hx y hy => h.symm x (hs x hx) y (hs y hy), fun x hx y hy z hz => h.trans x (hs x hx) y (hs y hy) z (hs z hz)⟩
theorem cls_congr {R R' : α → α → Prop} : ∀ {X : List α}, (∀ x ∈ X, ∀ y ∈ X, R x y ↔ R' x y) → cls R X = cls R' X
 | [], _ => rfl
 | x :: l, h => by
  have ih := cls_congr (X := l) fun a ha b hb => h a (List.mem_cons_of_mem _ ha) b (List.mem_cons_of_mem _ hb)
  have : (∃ y ∈ l, R x y) ↔ ∃ y ∈ l, R' x y := ⟨fun ⟨y, hy, r⟩ => ⟨y, hy, (h x List.mem_cons_self y (List.mem_cons_of_mem _ hy)).1 r⟩, fun ⟨y, hy, r⟩ => ⟨y, hy, (h x List.mem_cons_self y (List.mem_cons_of_mem _ hy)).2 r⟩⟩
  rw [cls, cls, ih]; simp only [this]
theorem cls_perm {R : α → α → Prop} {X Y : List α} (p : X.Perm Y) : Eqv X R → cls R X = cls R Y := by
 induction p with
 | nil => intro _; rfl
 | @cons x l l' p ih =>
  intro h
  have : (∃ y ∈ l, R x y) ↔ ∃ y ∈ l', R x y := ⟨fun ⟨y, hy, r⟩ => ⟨y, p.mem_iff.1 hy, r⟩, fun ⟨y, hy, r⟩ => ⟨y, p.mem_iff.2 hy, r⟩⟩
  rw [cls, cls, ih (h.sub fun y hy => List.mem_cons_of_mem _ hy)]; simp only [this]
 | @swap x y l =>
  intro h
  have hx : x ∈ y :: x :: l := by simp
  have hy : y ∈ y :: x :: l := by simp
  have hl : ∀ z ∈ l, z ∈ y :: x :: l := fun z hz => by simp [hz]
  simp only [cls, List.mem_cons, exists_eq_or_imp]
  by_cases e : R y x
  ·have e' := h.symm y hy x hx e
   have : (∃ z, z ∈ l ∧ R y z) ↔ ∃ z, z ∈ l ∧ R x z := ⟨fun ⟨z, hz, r⟩ => ⟨z, hz, h.trans x hx y hy z (hl z hz) e' r⟩, fun ⟨z, hz, r⟩ => ⟨z, hz, h.trans y hy x hx z (hl z hz) e r⟩⟩
   simp only [e, e', this, true_or, if_true]
  ·have e' : ¬ R x y := fun r => e (h.symm x hx y hy r)
   simp only [e, e', false_or]; omega
 | trans p q ih1 ih2 => intro h; rw [ih1 h, ih2 (h.sub fun y hy => p.mem_iff.2 hy)]
theorem cls_merge {X : List α} {R R' : α → α → Prop} (h : Eqv X R) {a b : α} (ha : a ∈ X) (hb : b ∈ X) (hn : ¬ R a b) (hR : ∀ x ∈ X, ∀ y ∈ X, R' x y ↔ R x y ∨ (R x a ∧ R b y) ∨ (R x b ∧ R a y)) : cls R X = cls R' X + 1 := by
 have key : ∀ l : List α, (∀ x ∈ l, x ∈ X) → cls R l = cls R' l + if (∃ y ∈ l, R a y) ∧ (∃ y ∈ l, R b y) then 1 else 0 := by
  intro l
  induction l with
  | nil => intro _; simp [cls]
  | cons x l ih =>
   intro hs
   have hx := hs x List.mem_cons_self
   have hl : ∀ z ∈ l, z ∈ X := fun z hz => hs z (List.mem_cons_of_mem _ hz)
   have i := ih hl
   simp only [cls, List.mem_cons, exists_eq_or_imp]
   by_cases xa : R a x
   ·have ax := h.symm a ha x hx xa
    have nb : ¬ R b x := fun r => hn (h.trans a ha x hx b hb xa (h.symm b hb x hx r))
    have nb' : ¬ R x b := fun r => nb (h.symm x hx b hb r)
    have e1 : (∃ y, y ∈ l ∧ R x y) ↔ ∃ y, y ∈ l ∧ R a y := ⟨fun ⟨z, hz, r⟩ => ⟨z, hz, h.trans a ha x hx z (hl z hz) xa r⟩, fun ⟨z, hz, r⟩ => ⟨z, hz, h.trans x hx a ha z (hl z hz) ax r⟩⟩
    have e2 : (∃ y, y ∈ l ∧ R' x y) ↔ (∃ y, y ∈ l ∧ R a y) ∨ ∃ y, y ∈ l ∧ R b y := by
     constructor
     ·rintro ⟨z, hz, r⟩
      rcases (hR x hx z (hl z hz)).1 r with r | ⟨_, r⟩ | ⟨r, _⟩
      ·exact .inl ⟨z, hz, h.trans a ha x hx z (hl z hz) xa r⟩
      ·exact .inr ⟨z, hz, r⟩
      ·exact absurd r nb'
     ·rintro (⟨z, hz, r⟩ | ⟨z, hz, r⟩)
      ·exact ⟨z, hz, (hR x hx z (hl z hz)).2 (.inl (h.trans x hx a ha z (hl z hz) ax r))⟩
      ·exact ⟨z, hz, (hR x hx z (hl z hz)).2 (.inr (.inl ⟨ax, r⟩))⟩
    simp only [e1, e2, xa, nb, true_or, false_or, true_and]
    by_cases q1 : ∃ y, y ∈ l ∧ R a y <;> by_cases q2 : ∃ y, y ∈ l ∧ R b y <;> simp only [q1, q2, and_self, and_true, and_false, true_or, or_true, or_self, if_true, if_false] at i ⊢ <;> omega
   ·by_cases xb : R b x
    ·have bx := h.symm b hb x hx xb
     have na' : ¬ R x a := fun r => xa (h.symm x hx a ha r)
     have e1 : (∃ y, y ∈ l ∧ R x y) ↔ ∃ y, y ∈ l ∧ R b y := ⟨fun ⟨z, hz, r⟩ => ⟨z, hz, h.trans b hb x hx z (hl z hz) xb r⟩, fun ⟨z, hz, r⟩ => ⟨z, hz, h.trans x hx b hb z (hl z hz) bx r⟩⟩
     have e2 : (∃ y, y ∈ l ∧ R' x y) ↔ (∃ y, y ∈ l ∧ R a y) ∨ ∃ y, y ∈ l ∧ R b y := by
      constructor
      ·rintro ⟨z, hz, r⟩
       rcases (hR x hx z (hl z hz)).1 r with r | ⟨r, _⟩ | ⟨_, r⟩
       ·exact .inr ⟨z, hz, h.trans b hb x hx z (hl z hz) xb r⟩
       ·exact absurd r na'
       ·exact .inl ⟨z, hz, r⟩
      ·rintro (⟨z, hz, r⟩ | ⟨z, hz, r⟩)
       ·exact ⟨z, hz, (hR x hx z (hl z hz)).2 (.inr (.inr ⟨bx, r⟩))⟩
       ·exact ⟨z, hz, (hR x hx z (hl z hz)).2 (.inl (h.trans x hx b hb z (hl z hz) bx r))⟩
     simp only [e1, e2, xa, xb, true_or, false_or, and_true]
     by_cases q1 : ∃ y, y ∈ l ∧ R a y <;> by_cases q2 : ∃ y, y ∈ l ∧ R b y <;> simp only [q1, q2, and_self, and_true, and_false, true_or, or_true, or_self, if_true, if_false, or_false, false_or] at i ⊢ <;> omega
    ·have na' : ¬ R x a := fun r => xa (h.symm x hx a ha r)
     have nb' : ¬ R x b := fun r => xb (h.symm x hx b hb r)
     have e2 : (∃ y, y ∈ l ∧ R' x y) ↔ ∃ y, y ∈ l ∧ R x y := by
      constructor
      ·rintro ⟨z, hz, r⟩
       rcases (hR x hx z (hl z hz)).1 r with r | ⟨r, _⟩ | ⟨r, _⟩
       ·exact ⟨z, hz, r⟩
       ·exact absurd r na'
       ·exact absurd r nb'
      ·rintro ⟨z, hz, r⟩; exact ⟨z, hz, (hR x hx z (hl z hz)).2 (.inl r)⟩
     simp only [e2, xa, xb, false_or]; omega
 have := key X fun _ h => h
 rw [if_pos ⟨⟨a, ha, h.refl a ha⟩, b, hb, h.refl b hb⟩] at this
 exact this
structure Pm (X : List α) (f : α → α) : Prop where
 nd : X.Nodup
 mem : ∀ x ∈ X, f x ∈ X
 inj : ∀ x ∈ X, ∀ y ∈ X, f x = f y → x = y
def it (f : α → α) : Nat → α → α
 | 0, x => x
 | k + 1, x => f (it f k x)
theorem it_succ' (f : α → α) : ∀ (k : Nat) (x : α), it f (k + 1) x = it f k (f x)
 | 0, _ => rfl
 | k + 1, x => by rw [it, it_succ' f k x]; rfl
theorem it_add (f : α → α) (j : Nat) : ∀ (k : Nat) (x : α), it f (j + k) x = it f j (it f k x)
 | 0, _ => rfl
 | k + 1, x => by rw [← Nat.add_assoc, it_succ', it_add f j k (f x), it_succ']
theorem sub_len {A B : List α} (na : A.Nodup) (h : ∀ a ∈ A, a ∈ B) : A.length ≤ B.length := by
 induction A generalizing B with
 | nil => simp
 | cons a A ih =>
  rw [List.nodup_cons] at na
  have hb := h a List.mem_cons_self
  have := ih (B := B.erase a) na.2 fun x hx => (List.mem_erase_of_ne (fun e => na.1 (by rw [← e]; exact hx))).2 (h x (List.mem_cons_of_mem _ hx))
  rw [List.length_erase_of_mem hb] at this
  have := List.length_pos_of_mem hb
  rw [List.length_cons]; omega
def Orb (f : α → α) (x y : α) : Prop := ∃ k, it f k x = y
namespace Pm
variable {X : List α} {f : α → α}
theorem it_mem (p : Pm X f) {x : α} (hx : x ∈ X) : ∀ k, it f k x ∈ X
 | 0 => hx
 | k + 1 => p.mem _ (p.it_mem hx k)
theorem it_inj (p : Pm X f) {x y : α} (hx : x ∈ X) (hy : y ∈ X) : ∀ k, it f k x = it f k y → x = y
 | 0, h => h
 | k + 1, h => p.it_inj hx hy k (p.inj _ (p.it_mem hx k) _ (p.it_mem hy k) h)
theorem period (p : Pm X f) {x : α} (hx : x ∈ X) : ∃ k, 0 < k ∧ it f k x = x := by
 refine Classical.byContradiction fun hno => ?_
 have nd : ((List.range (X.length + 1)).map fun k => it f k x).Nodup := by
  rw [List.nodup_iff_pairwise_ne, List.pairwise_map]
  refine List.Pairwise.imp ?_ (List.pairwise_lt_range (n := X.length + 1))
  intro i j hij e
  refine hno ⟨j - i, by omega, ?_⟩
  have : it f j x = it f i (it f (j - i) x) := by rw [← it_add]; congr 1; omega
  rw [this] at e
  exact (p.it_inj hx (p.it_mem hx _) i e).symm
 have := sub_len nd (B := X) fun a ha => by
  obtain ⟨k, _, rfl⟩ := List.mem_map.1 ha
  exact p.it_mem hx k
 rw [List.length_map, List.length_range] at this
 omega
theorem it_mul (_ : Pm X f) {x : α} {k : Nat} (h : it f k x = x) : ∀ m, it f (m * k) x = x
 | 0 => by rw [Nat.zero_mul]; rfl
 | m + 1 => by rw [Nat.add_mul, Nat.one_mul, it_add, h]; exact it_mul ‹_› h m
theorem orb_symm (p : Pm X f) {x y : α} (hx : x ∈ X) (h : Orb f x y) : Orb f y x := by
 obtain ⟨k, rfl⟩ := h
 obtain ⟨q, q0, hq⟩ := p.period hx
 refine ⟨k * q - k, ?_⟩
 rw [← it_add]
 have : k * q - k + k = k * q := by
  have : k * 1 ≤ k * q := Nat.mul_le_mul_left k q0
  omega
 rw [this]; exact p.it_mul hq k
theorem eqv (p : Pm X f) : Eqv X (Orb f) :=
 ⟨fun x _ => ⟨0, rfl⟩, fun x hx _ _ h => p.orb_symm hx h, fun _ _ _ _ _ _ ⟨j, hj⟩ ⟨k, hk⟩ => ⟨k + j, by rw [it_add, hj, hk]⟩⟩
theorem orb_mem (p : Pm X f) {x y : α} (hx : x ∈ X) (h : Orb f x y) : y ∈ X := by obtain ⟨k, rfl⟩ := h; exact p.it_mem hx k
end Pm
theorem Orb.refl (f : α → α) (x : α) : Orb f x x := ⟨0, rfl⟩
theorem Orb.one (f : α → α) (x : α) : Orb f x (f x) := ⟨1, rfl⟩
theorem Orb.trans {f : α → α} {x y z : α} (h : Orb f x y) (g : Orb f y z) : Orb f x z := by
 obtain ⟨j, rfl⟩ := h; obtain ⟨k, rfl⟩ := g; exact ⟨k + j, it_add f k j x⟩
theorem least_of {p : Nat → Prop} (h : ∃ k, p k) : ∃ k, p k ∧ ∀ j, j < k → ¬ p j := by
 obtain ⟨k, hk⟩ := h
 induction k using Nat.strongRecOn with
 | _ k ih =>
  by_cases q : ∃ j, j < k ∧ p j
  ·obtain ⟨j, hj, hp⟩ := q; exact ih j hj hp
  ·exact ⟨k, hk, fun j hj hp => q ⟨j, hj, hp⟩⟩
theorem it_agree {f g : α → α} {x : α} : ∀ k, (∀ j, j < k → f (it f j x) = g (it f j x)) → it g k x = it f k x
 | 0, _ => rfl
 | k + 1, h => by rw [it, it, it_agree k fun j hj => h j (by omega), h k (by omega)]
noncomputable def swp (f : α → α) (a b : α) : α → α := fun x => if x = a then f b else if x = b then f a else f x
theorem swp_a (f : α → α) (a b : α) : swp f a b a = f b := by simp [swp]
theorem swp_b (f : α → α) (a b : α) : swp f a b b = f a := by
 unfold swp; split
 ·rename_i h; rw [h]
 ·simp
theorem swp_ne {f : α → α} {a b x : α} (h1 : x ≠ a) (h2 : x ≠ b) : swp f a b x = f x := by simp [swp, h1, h2]
theorem swp_swp (f : α → α) (a b : α) : swp (swp f a b) a b = f := by
 funext x
 by_cases h : x = a
 ·subst h; rw [swp_a, swp_b]
 ·by_cases k : x = b
  ·subst k; rw [swp_b, swp_a]
  ·rw [swp_ne h k, swp_ne h k]
theorem Pm.swp {X : List α} {f : α → α} (p : Pm X f) {a b : α} (ha : a ∈ X) (hb : b ∈ X) : Pm X (swp f a b) := by
 have v : ∀ x, ∃ y, Fw.swp f a b x = f y ∧ (x ∈ X → y ∈ X) ∧ ((x = a ∧ y = b) ∨ (x ≠ a ∧ x = b ∧ y = a) ∨ (x ≠ a ∧ x ≠ b ∧ y = x)) := fun x => by
  by_cases h : x = a
  ·subst h; exact ⟨b, swp_a _ _ _, fun _ => hb, .inl ⟨rfl, rfl⟩⟩
  ·by_cases k : x = b
   ·subst k; exact ⟨a, swp_b _ _ _, fun _ => ha, .inr (.inl ⟨h, rfl, rfl⟩)⟩
   ·exact ⟨x, swp_ne h k, id, .inr (.inr ⟨h, k, rfl⟩)⟩
 refine ⟨p.nd, fun x hx => ?_, fun x hx y hy e => ?_⟩
 ·obtain ⟨y, e, hy, _⟩ := v x; rw [e]; exact p.mem y (hy hx)
 ·obtain ⟨x', e1, h1, c1⟩ := v x
  obtain ⟨y', e2, h2, c2⟩ := v y
  rw [e1, e2] at e
  have := p.inj _ (h1 hx) _ (h2 hy) e
  rcases c1 with ⟨a1, b1⟩ | ⟨n1, a1, b1⟩ | ⟨n1, m1, b1⟩ <;> rcases c2 with ⟨a2, b2⟩ | ⟨n2, a2, b2⟩ | ⟨n2, m2, b2⟩ <;> simp_all
theorem swp_orb {X : List α} {f : α → α} (p : Pm X f) {a b : α} (ha : a ∈ X) (hb : b ∈ X) (hn : ¬ Orb f a b) : ∀ x ∈ X, ∀ y ∈ X, Orb (swp f a b) x y ↔ Orb f x y ∨ (Orb f x a ∧ Orb f b y) ∨ (Orb f x b ∧ Orb f a y) := by
 have q := p.swp ha hb
 have hn' : ¬ Orb f b a := fun h => hn (p.orb_symm hb h)
 -- whoever comes to a (or b) comes there still
 have to : ∀ {c d : α}, (c = a ∧ d = b ∨ c = b ∧ d = a) → ∀ x ∈ X, Orb f x c → Orb (swp f a b) x c := by
  intro c d hcd x hx h
  obtain ⟨k, hk, hl⟩ := least_of h
  have hnd : ∀ j, it f j x ≠ d := fun j hj => by
   have h1 : Orb f x d := ⟨j, hj⟩
   have h2 : Orb f x c := ⟨k, hk⟩
   rcases hcd with ⟨rfl, rfl⟩ | ⟨rfl, rfl⟩
   ·exact hn ((p.orb_symm hx h2).trans h1)
   ·exact hn' ((p.orb_symm hx h2).trans h1)
  refine ⟨k, ?_⟩
  rw [it_agree k fun j hj => ?_, hk]
  have h1 := hl j hj
  have h2 := hnd j
  rcases hcd with ⟨rfl, rfl⟩ | ⟨rfl, rfl⟩
  ·exact (swp_ne h1 h2).symm
  ·exact (swp_ne h2 h1).symm
 have toa := fun x hx => to (c := a) (d := b) (.inl ⟨rfl, rfl⟩) x hx
 have tob := fun x hx => to (c := b) (d := a) (.inr ⟨rfl, rfl⟩) x hx
 have ab : Orb (swp f a b) a b := by
  have h1 := tob (f b) (p.mem b hb) (p.orb_symm hb (Orb.one f b))
  have h2 := Orb.one (swp f a b) a
  rw [swp_a] at h2
  exact h2.trans h1
 have one : ∀ x ∈ X, Orb f x (swp f a b x) ∨ (Orb f x a ∧ Orb f b (swp f a b x)) ∨ (Orb f x b ∧ Orb f a (swp f a b x)) := fun x _ => by
  by_cases h : x = a
  ·subst h; rw [swp_a]; exact .inr (.inl ⟨Orb.refl _ _, Orb.one _ _⟩)
  ·by_cases k : x = b
   ·subst k; rw [swp_b]; exact .inr (.inr ⟨Orb.refl _ _, Orb.one _ _⟩)
   ·rw [swp_ne h k]; exact .inl (Orb.one _ _)
 intro x hx y hy
 constructor
 ·rintro ⟨k, rfl⟩
  clear hy
  induction k with
  | zero => exact .inl (Orb.refl _ _)
  | succ k ih =>
   have hz := q.it_mem hx k
   have o := one _ hz
   rw [it]
   generalize it (swp f a b) k x = z at *
   rcases ih with h | ⟨h, g⟩ | ⟨h, g⟩ <;> rcases o with o | ⟨o1, o2⟩ | ⟨o1, o2⟩
   ·exact .inl (h.trans o)
   ·exact .inr (.inl ⟨h.trans o1, o2⟩)
   ·exact .inr (.inr ⟨h.trans o1, o2⟩)
   ·exact .inr (.inl ⟨h, g.trans o⟩)
   ·exact absurd (g.trans o1) hn'
   ·exact .inl (h.trans o2)
   ·exact .inr (.inr ⟨h, g.trans o⟩)
   ·exact .inl (h.trans o2)
   ·exact absurd (g.trans o1) hn
 ·have back : ∀ z ∈ X, ∀ c, (Orb f c z → z ∈ X) := fun z hz _ _ => hz
  rintro (h | ⟨h, g⟩ | ⟨h, g⟩)
  ·by_cases h1 : Orb f x a
   ·have h2 := (p.orb_symm hx h).trans h1
    exact (toa x hx h1).trans (q.orb_symm hy (toa y hy h2))
   ·by_cases h2 : Orb f x b
    ·have h3 := (p.orb_symm hx h).trans h2
     exact (tob x hx h2).trans (q.orb_symm hy (tob y hy h3))
    ·obtain ⟨k, rfl⟩ := h
     refine ⟨k, it_agree k fun j _ => (swp_ne (fun e => h1 ⟨j, e⟩) fun e => h2 ⟨j, e⟩).symm⟩
  ·exact ((toa x hx h).trans ab).trans (q.orb_symm hy (tob y hy (p.orb_symm hb g)))
  ·exact ((tob x hx h).trans (q.orb_symm ha ab)).trans (q.orb_symm hy (toa y hy (p.orb_symm ha g)))
theorem swp_apart {X : List α} {f : α → α} (p : Pm X f) {a b : α} (ha : a ∈ X) (hab : a ≠ b) (ho : Orb f a b) : ¬ Orb (swp f a b) a b := by
 obtain ⟨k, hk, hl⟩ := least_of ho
 have hb := p.orb_mem ha ho
 have q := p.swp ha hb
 have k0 : k ≠ 0 := fun e => hab (by subst e; exact hk)
 have na : ∀ j, 0 < j → j < k → it f j a ≠ a := fun j h0 hj e => by
  have : it f (k - j) a = b := by
   rw [← hk]
   have : k = (k - j) + j := by omega
   conv => rhs; rw [this, it_add, e]
  exact hl (k - j) (by omega) this
 have inS : ∀ m, ∃ j, 0 < j ∧ j ≤ k ∧ it (swp f a b) m b = it f j a := by
  intro m
  induction m with
  | zero => exact ⟨k, by omega, Nat.le_refl _, hk.symm⟩
  | succ m ih =>
   obtain ⟨j, h0, hj, e⟩ := ih
   rw [it, e]
   by_cases c : j = k
   ·subst c; rw [hk, swp_b]; exact ⟨1, by omega, by omega, rfl⟩
   ·rw [swp_ne (na j h0 (by omega)) (hl j (by omega))]; exact ⟨j + 1, by omega, by omega, rfl⟩
 intro h
 obtain ⟨m, hm⟩ := q.orb_symm ha h
 obtain ⟨j, h0, hj, e⟩ := inS m
 rw [hm] at e
 by_cases c : j = k
 ·subst c; rw [hk] at e; exact hab e
 ·exact na j h0 (by omega) e.symm
theorem cls_swp {X : List α} {f : α → α} (p : Pm X f) {a b : α} (ha : a ∈ X) (hb : b ∈ X) (hab : a ≠ b) :
  (Orb f a b → cls (Orb (swp f a b)) X = cls (Orb f) X + 1) ∧ (¬ Orb f a b → cls (Orb (swp f a b)) X + 1 = cls (Orb f) X) := by
 constructor
 ·intro h
  have q := p.swp ha hb
  have := cls_merge q.eqv ha hb (swp_apart p ha hab h) (R' := Orb f) fun x hx y hy => by
   have := swp_orb q ha hb (swp_apart p ha hab h) x hx y hy
   rwa [swp_swp] at this
  exact this
 ·intro h
  exact (cls_merge p.eqv ha hb h (swp_orb p ha hb h)).symm
noncomputable def skp (f : α → α) (d : α) : α → α := fun x => if f x = d then f d else f x
theorem skp_pm {X Y : List α} {f : α → α} (p : Pm X f) {d : α} (hp : X.Perm (d :: Y)) : Pm Y (skp f d) := by
 have nd : (d :: Y).Nodup := hp.nodup_iff.1 p.nd
 rw [List.nodup_cons] at nd
 have mem : ∀ x, x ∈ X ↔ x = d ∨ x ∈ Y := fun x => by rw [hp.mem_iff, List.mem_cons]
 have hd : d ∈ X := (mem d).2 (.inl rfl)
 have ne : ∀ x ∈ Y, x ≠ d := fun x hx e => nd.1 (by rw [← e]; exact hx)
 refine ⟨nd.2, fun x hx => ?_, fun x hx y hy e => ?_⟩
 ·have hxX := (mem x).2 (.inr hx)
  unfold skp; split
  ·rename_i h
   rcases (mem _).1 (p.mem d hd) with h2 | h2
   ·exact absurd (p.inj x hxX d hd (h.trans h2.symm)) (ne x hx)
   ·exact h2
  ·rename_i h
   rcases (mem _).1 (p.mem x hxX) with h2 | h2
   ·exact absurd h2 h
   ·exact h2
 ·have hxX := (mem x).2 (.inr hx)
  have hyX := (mem y).2 (.inr hy)
  unfold skp at e
  split at e <;> split at e
  ·rename_i h1 h2; exact p.inj x hxX y hyX (h1.trans h2.symm)
  ·exact absurd (p.inj d hd y hyX e).symm (ne y hy)
  ·exact absurd (p.inj x hxX d hd e) (ne x hx)
  ·exact p.inj x hxX y hyX e
theorem skp_orb {X Y : List α} {f : α → α} (p : Pm X f) {d : α} (hp : X.Perm (d :: Y)) : ∀ x ∈ Y, ∀ y ∈ Y, Orb (skp f d) x y ↔ Orb f x y := by
 have q := skp_pm p hp
 have nd : (d :: Y).Nodup := hp.nodup_iff.1 p.nd
 rw [List.nodup_cons] at nd
 have mem : ∀ x, x ∈ X ↔ x = d ∨ x ∈ Y := fun x => by rw [hp.mem_iff, List.mem_cons]
 intro x hx y hy
 constructor
 ·rintro ⟨k, rfl⟩
  clear hy
  induction k with
  | zero => exact Orb.refl _ _
  | succ k ih =>
   rw [it]
   generalize it (skp f d) k x = z at *
   unfold skp; split
   ·rename_i h; have := Orb.one f z; rw [h] at this; exact (ih.trans this).trans (Orb.one f d)
   ·exact ih.trans (Orb.one f z)
 ·rintro ⟨k, hk⟩
  induction k using Nat.strongRecOn generalizing x with
  | _ k ih =>
   cases k with
   | zero => exact ⟨0, hk⟩
   | succ k =>
    have hxX := (mem x).2 (.inr hx)
    rw [it_succ'] at hk
    by_cases e : f x = d
    ·cases k with
     | zero => exact absurd hy (by rw [← hk, it, e]; exact nd.1)
     | succ k =>
      rw [it_succ', e] at hk
      have h1 : skp f d x = f d := by simp [skp, e]
      have hm : f d ∈ Y := by rw [← h1]; exact q.mem x hx
      have := ih k (by omega) (f d) hm hk
      have h2 := Orb.one (skp f d) x
      rw [h1] at h2
      exact h2.trans this
    ·have h1 : skp f d x = f x := by simp [skp, e]
     have hm : f x ∈ Y := by rw [← h1]; exact q.mem x hx
     have := ih k (by omega) (f x) hm hk
     have h2 := Orb.one (skp f d) x
     rw [h1] at h2
     exact h2.trans this
theorem cls_skp {X Y : List α} {f : α → α} (p : Pm X f) {d : α} (hp : X.Perm (d :: Y)) : cls (Orb f) X = cls (Orb (skp f d)) Y + if f d = d then 1 else 0 := by
 have nd : (d :: Y).Nodup := hp.nodup_iff.1 p.nd
 rw [List.nodup_cons] at nd
 have mem : ∀ x, x ∈ X ↔ x = d ∨ x ∈ Y := fun x => by rw [hp.mem_iff, List.mem_cons]
 have hd : d ∈ X := (mem d).2 (.inl rfl)
 rw [cls_perm hp p.eqv, cls, cls_congr (skp_orb p hp)]
 congr 1
 by_cases e : f d = d
 ·rw [if_pos e, if_neg]
  rintro ⟨y, hy, k, hk⟩
  have : it f k d = d := by
   clear hk
   induction k with
   | zero => rfl
   | succ k ih => rw [it, ih, e]
  rw [this] at hk; rw [← hk] at hy; exact nd.1 hy
 ·rw [if_neg e, if_pos]
  rcases (mem _).1 (p.mem d hd) with h | h
  ·exact absurd h e
  ·exact ⟨_, h, Orb.one f d⟩
end Go.Fw
