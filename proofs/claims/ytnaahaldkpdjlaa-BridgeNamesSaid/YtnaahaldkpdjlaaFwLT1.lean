/- A text of the proof. -/
import Derived.Test.YtnaahaldkpdjlaaFwLW1
set_option linter.unusedSimpArgs false
set_option linter.unusedVariables false
namespace Go.Fw
set_option maxRecDepth 10000
inductive Anc (up : Nat → Option Nat) : Nat → Nat → Prop
 | refl (a : Nat) : Anc up a a
 | step {a b c : Nat} : Anc up a b → up c = some b → Anc up a c
theorem Anc.one {up : Nat → Option Nat} {b c : Nat} (h : up c = some b) : Anc up b c := .step (.refl b) h
theorem Anc.trans {up : Nat → Option Nat} {a b c : Nat} (h : Anc up a b) (k : Anc up b c) : Anc up a c := by
 induction k with
 | refl => exact h
 | step _ e ih => exact .step ih e
theorem Anc.chain {up : Nat → Option Nat} {a b c : Nat} (h : Anc up a c) (k : Anc up b c) : Anc up a b ∨ Anc up b a := by
 induction h with
 | refl => exact .inr k
 | @step x c h e ih =>
  cases k with
  | refl => exact .inl (h.step e)
  | @step y _ k e' => rw [e] at e'; injection e' with e'; subst e'; exact ih k
theorem Anc.child {up : Nat → Option Nat} {a b : Nat} (h : Anc up a b) (ne : a ≠ b) : ∃ c, up c = some a ∧ Anc up c b := by
 induction h with
 | refl => exact absurd rfl ne
 | @step x c h e ih =>
  by_cases q : a = x
  ·subst q; exact ⟨c, e, .refl c⟩
  ·obtain ⟨d, h1, h2⟩ := ih q; exact ⟨d, h1, h2.step e⟩
theorem Anc.last {up : Nat → Option Nat} {a b : Nat} (h : Anc up a b) (ne : a ≠ b) : ∃ c, up b = some c ∧ Anc up a c := by
 cases h with
 | refl => exact absurd rfl ne
 | step h e => exact ⟨_, e, h⟩
structure Fo (n : Nat) (es : List Pr) (num : Nat → Nat) (up : Nat → Option Nat) : Prop where
 rng : InR n es
 inj : ∀ u v, u < n → v < n → num u = num v → u = v
 upa : ∀ v u, v < n → up v = some u → adj es u v ∧ num u < num v
 anc : ∀ a b, adj es a b → num a < num b → Anc up a b
abbrev wo (v : Nat) : Nat → Bool := fun x => x == v
theorem wo_ne {v x : Nat} (h : x ≠ v) : wo v x = false := by simpa [wo] using h
def Bey (es : List Pr) (num : Nat → Nat) (up : Nat → Option Nat) (v c : Nat) : Prop := ∃ x w, Anc up c x ∧ adj es x w ∧ num w < num v
def Nt (es : List Pr) (up : Nat → Option Nat) (u w : Nat) : Prop := adj es u w ∧ up u ≠ some w ∧ up w ≠ some u
structure LowD (es : List Pr) (num : Nat → Nat) (up : Nat → Option Nat) (D : Nat → Nat → Prop) (v : Nat) (x : Nat) : Prop where
 self : x ≤ num v
 back : ∀ u w, D v u → Nt es up u w → x ≤ num w
 some_ : x = num v ∨ ∃ u w, D v u ∧ Nt es up u w ∧ x = num w
theorem LowD.uniq {es : List Pr} {num : Nat → Nat} {up : Nat → Option Nat} {D : Nat → Nat → Prop} {v x y : Nat} (a : LowD es num up D v x) (b : LowD es num up D v y) : x = y := by
 have key : ∀ {x y : Nat}, LowD es num up D v x → LowD es num up D v y → x ≤ y := by
  intro x y a b
  rcases b.some_ with h | ⟨u, w, h1, h2, h⟩
  ·rw [h]; exact a.self
  ·rw [h]; exact a.back u w h1 h2
 have := key a b; have := key b a; omega
namespace Fo
variable {n : Nat} {es : List Pr} {num : Nat → Nat} {up : Nat → Option Nat}
theorem num_le (F : Fo n es num up) {a b : Nat} (h : Anc up a b) (hb : b < n) : a < n ∧ (a = b ∨ num a < num b) := by
 induction h with
 | refl => exact ⟨hb, .inl rfl⟩
 | @step x c h e ih =>
  obtain ⟨h1, h2⟩ := F.upa c x hb e
  obtain ⟨h3, h4⟩ := ih (h1.lt F.rng).1
  refine ⟨h3, .inr ?_⟩
  rcases h4 with rfl | h4
  ·exact h2
  ·omega
theorem num_ne (F : Fo n es num up) {a b : Nat} (h : adj es a b) : num a ≠ num b := by
 intro e
 have := F.inj a b (h.lt F.rng).1 (h.lt F.rng).2 e
 subst this
 rcases h with h | h <;> have := F.rng _ h <;> simp only at this <;> omega
theorem along (F : Fo n es num up) {a b v : Nat} (h : Anc up a b) (hb : b < n) (hv : ∀ x, Anc up a x → Anc up x b → x ≠ v) : Cn (wo v) es a b := by
 induction h with
 | refl => exact .refl (wo_ne (hv _ (.refl _) (.refl _)))
 | @step x c h e ih =>
  obtain ⟨h1, h2⟩ := F.upa c x hb e
  exact .step (ih (h1.lt F.rng).1 fun y h3 h4 => hv y h3 (h4.step e)) h1 (wo_ne (hv c (h.step e) (.refl c)))
theorem lt_of_ne (F : Fo n es num up) {a v : Nat} (h : Anc up a v) (ne : a ≠ v) (hv : v < n) : num a < num v := (F.num_le h hv).2.resolve_left ne
theorem above (F : Fo n es num up) {a b v : Nat} (hv : v < n) (ha : Anc up a v) (na : a ≠ v) (hb : Anc up b v) (nb : b ≠ v) : Cn (wo v) es a b := by
 have key : ∀ {a b : Nat}, Anc up a b → Anc up b v → b ≠ v → Cn (wo v) es a b := by
  intro a b h hb nb
  have hbn := (F.num_le hb hv).1
  refine F.along h hbn fun x _ hx e => ?_
  subst e
  have h1 := F.lt_of_ne hb nb hv
  rcases (F.num_le hx hbn).2 with h2 | h2
  ·exact nb h2.symm
  ·omega
 rcases ha.chain hb with h | h
 ·exact key h hb nb
 ·exact (key h ha na).symm
theorem below (F : Fo n es num up) {c a v : Nat} (ha : a < n) (hc : up c = some v) (h : Anc up c a) : Cn (wo v) es c a := by
 have hcn := (F.num_le h ha).1
 refine F.along h ha fun x hx hxa e => ?_
 subst e
 have h1 := (F.upa c x hcn hc).2
 have h2 := (F.num_le hx (F.num_le hxa ha).1).2
 rcases h2 with h2 | h2
 ·subst h2; omega
 ·omega
theorem bey_up (F : Fo n es num up) {c v : Nat} (hcn : c < n) (hc : up c = some v) (h : Bey es num up v c) : ∃ w, Anc up w v ∧ w ≠ v ∧ Cn (wo v) es c w := by
 obtain ⟨x, w, h1, h2, h3⟩ := h
 have hx := (h2.lt F.rng).1
 have hvn := ((F.upa c v hcn hc).1.lt F.rng).1
 have hvx : Anc up v x := (Anc.one hc).trans h1
 have hwx : num w < num x := by
  have h4 := (F.upa c v hcn hc).2
  rcases (F.num_le h1 hx).2 with h | h
  ·subst h; omega
  ·omega
 have hwv : w ≠ v := fun e => by subst e; omega
 have ha := F.anc w x h2.symm hwx
 rcases ha.chain hvx with h | h
 ·exact ⟨w, h, hwv, (F.below hx hc h1).step h2 (wo_ne hwv)⟩
 ·have := (F.num_le h (h2.lt F.rng).2).2
  rcases this with h | h
  ·exact absurd h.symm hwv
  ·omega
theorem bey_closed (F : Fo n es num up) {c v x : Nat} (hcn : c < n) (hc : up c = some v) (h : ¬ Bey es num up v c) (k : Cn (wo v) es c x) : Anc up c x ∧ x < n := by
 induction k with
 | refl _ => exact ⟨.refl _, hcn⟩
 | @step x y k a o ih =>
  obtain ⟨h1, hx⟩ := ih
  have hy := (a.lt F.rng).2
  refine ⟨?_, hy⟩
  have hyv : y ≠ v := by simpa [wo] using o
  by_cases q : num y < num x
  ·have h2 := F.anc y x a.symm q
   rcases h1.chain h2 with h3 | h3
   ·exact h3
   ·by_cases e : y = c
    ·subst e; exact .refl _
    ·obtain ⟨d, h4, h5⟩ := h3.last e
     rw [hc] at h4; injection h4 with h4; subst h4
     have hvn := ((F.upa c v hcn hc).1.lt F.rng).1
     exact absurd ⟨x, y, h1, a, F.lt_of_ne h5 hyv hvn⟩ h
  ·have := F.num_ne a
   exact h1.trans (F.anc x y a (by omega))
theorem low_bey (F : Fo n es num up) {c v x : Nat} (hcn : c < n) (hc : up c = some v) (L : LowD es num up (Anc up) c x) : x < num v ↔ Bey es num up v c := by
 have hcv := (F.upa c v hcn hc).2
 constructor
 ·intro h
  rcases L.some_ with h1 | ⟨u, w, h1, h2, h3⟩
  ·omega
  ·exact ⟨u, w, h1, h2.1, by omega⟩
 ·rintro ⟨u, w, h1, h2, h3⟩
  have hun := (h2.lt F.rng).1
  have hu := (F.num_le h1 hun).2
  have := L.back u w h1 ⟨h2, fun e => ?_, fun e => ?_⟩
  ·omega
  ·by_cases q : c = u
   ·subst q; rw [hc] at e; injection e with e; subst e; omega
   ·obtain ⟨d, h4, h5⟩ := h1.last q
    rw [e] at h4; injection h4 with h4; subst h4
    rcases (F.num_le h5 (h2.lt F.rng).2).2 with h | h
    ·subst h; omega
    ·omega
  ·have := (F.upa w u (h2.lt F.rng).2 e).2
   rcases hu with hu | hu
   ·subst hu; omega
   ·omega
structure HeadS (n : Nat) (es : List Pr) (num : Nat → Nat) (up : Nat → Option Nat) (hd : Nat → Nat) : Prop where
 root : ∀ v, v < n → up v = none → hd v = v
 on : ∀ v u, v < n → up v = some u → Bey es num up u v → hd v = hd u
 new : ∀ v u, v < n → up v = some u → ¬ Bey es num up u v → hd v = v
variable {hd : Nat → Nat}
theorem hd_anc (F : Fo n es num up) (H : HeadS n es num up hd) : ∀ (k v : Nat), num v ≤ k → v < n → Anc up (hd v) v ∧ hd (hd v) = hd v := by
 intro k
 induction k with
 | zero =>
  intro v hk hv
  have hh : hd v = v := by
   cases hu : up v with
   | none => exact H.root v hv hu
   | some u => have := (F.upa v u hv hu).2; omega
  rw [hh]; exact ⟨.refl v, hh⟩
 | succ k ih =>
  intro v hk hv
  cases hu : up v with
  | none => rw [H.root v hv hu]; exact ⟨.refl v, H.root v hv hu⟩
  | some u =>
   have h1 := F.upa v u hv hu
   by_cases hb : Bey es num up u v
   ·rw [H.on v u hv hu hb]
    obtain ⟨h2, h3⟩ := ih u (by omega) (h1.1.lt F.rng).1
    exact ⟨h2.step hu, h3⟩
   ·rw [H.new v u hv hu hb]; exact ⟨.refl v, H.new v u hv hu hb⟩
def lower (num : Nat → Nat) (x y : Nat) : Nat := if num y < num x then x else y
theorem hd_sub (F : Fo n es num up) (H : HeadS n es num up hd) {c v a : Nat} (hc : up c = some v) (ha : Anc up c a) (hva : adj es v a) : hd a = hd c := by
 have han := (hva.lt F.rng).2
 have hcn := (F.num_le ha han).1
 have hcv := (F.upa c v hcn hc).2
 have key : ∀ z, Anc up c z → Anc up z a → hd z = hd c := by
  intro z hz
  induction hz with
  | refl => intro _; rfl
  | @step b z hb e ih =>
   intro hza
   have hzn := (F.num_le hza han).1
   have hbn := ((F.upa z b hzn e).1.lt F.rng).1
   rw [H.on z b hzn e ⟨a, v, hza, hva.symm, ?_⟩]
   ·exact ih ((Anc.one e).trans hza)
   ·rcases (F.num_le hb hbn).2 with h | h
    ·subst h; exact hcv
    ·omega
 exact key a ha (.refl a)
theorem block_iff (F : Fo n es num up) (H : HeadS n es num up hd) {v a b : Nat} (ha : adj es v a) (hb : adj es v b) : hd (lower num v a) = hd (lower num v b) ↔ Cn (wo v) es a b := by
 have hvn := (ha.lt F.rng).1
 have hnot : ∀ c, up c = some v → c < n → hd v ≠ c := fun c hc hcn e => by
  have h1 := (F.hd_anc H (num v) v (Nat.le_refl _) hvn).1
  have h2 := (F.upa c v hcn hc).2
  rcases (F.num_le h1 hvn).2 with h | h <;> rw [e] at h
  ·subst h; omega
  ·omega
 -- the one leads up, the other one down
 have mixed : ∀ {a b : Nat}, adj es v a → adj es v b → num a < num v → num v < num b → (hd v = hd b ↔ Cn (wo v) es a b) := by
  intro a b ha hb h1 h2
  have hbn := (hb.lt F.rng).2
  have haa := F.anc a v ha.symm h1
  have hav : a ≠ v := fun e => by subst e; omega
  obtain ⟨c, hc, hcb⟩ := (F.anc v b hb h2).child (fun e => by subst e; omega)
  have hcn := (F.num_le hcb hbn).1
  have hvc := (F.upa c v hcn hc).2
  rw [F.hd_sub H hc hcb hb]
  by_cases q : Bey es num up v c
  ·rw [H.on c v hcn hc q]
   obtain ⟨w, hw1, hw2, hw3⟩ := F.bey_up hcn hc q
   exact ⟨fun _ => ((F.above hvn haa hav hw1 hw2).trans hw3.symm).trans (F.below hbn hc hcb), fun _ => rfl⟩
  ·rw [H.new c v hcn hc q]
   refine ⟨fun e => absurd e (hnot c hc hcn), fun k => ?_⟩
   have h3 := F.bey_closed hcn hc q ((F.below hbn hc hcb).trans k.symm)
   rcases (F.num_le h3.1 h3.2).2 with h | h
   ·subst h; omega
   ·omega
 have na := F.num_ne ha
 have nb := F.num_ne hb
 rcases Nat.lt_or_gt_of_ne na with h1 | h1 <;> rcases Nat.lt_or_gt_of_ne nb with h2 | h2
 ·-- both down
  have e1 : lower num v a = a := by unfold lower; rw [if_neg (by omega)]
  have e2 : lower num v b = b := by unfold lower; rw [if_neg (by omega)]
  rw [e1, e2]
  have han := (ha.lt F.rng).2
  have hbn := (hb.lt F.rng).2
  obtain ⟨c, hc, hca⟩ := (F.anc v a ha h1).child (fun e => by subst e; omega)
  obtain ⟨d, hd', hdb⟩ := (F.anc v b hb h2).child (fun e => by subst e; omega)
  have hcn := (F.num_le hca han).1
  have hdn := (F.num_le hdb hbn).1
  rw [F.hd_sub H hc hca ha, F.hd_sub H hd' hdb hb]
  by_cases q : Bey es num up v c
  ·rw [H.on c v hcn hc q]
   obtain ⟨w, hw1, hw2, hw3⟩ := F.bey_up hcn hc q
   by_cases p : Bey es num up v d
   ·rw [H.on d v hdn hd' p]
    obtain ⟨x, hx1, hx2, hx3⟩ := F.bey_up hdn hd' p
    exact ⟨fun _ => (((F.below han hc hca).symm.trans hw3).trans (F.above hvn hw1 hw2 hx1 hx2)).trans (hx3.symm.trans (F.below hbn hd' hdb)), fun _ => rfl⟩
   ·rw [H.new d v hdn hd' p]
    refine ⟨fun e => absurd e (hnot d hd' hdn), fun k => ?_⟩
    have h3 := F.bey_closed hdn hd' p (((F.below hbn hd' hdb).trans k.symm).trans ((F.below han hc hca).symm.trans hw3))
    have h4 := F.lt_of_ne hw1 hw2 hvn
    have h5 := (F.upa d v hdn hd').2
    rcases (F.num_le h3.1 h3.2).2 with h | h
    ·subst h; omega
    ·omega
  ·rw [H.new c v hcn hc q]
   have toA : Cn (wo v) es a b → Anc up c b := fun k => (F.bey_closed hcn hc q ((F.below han hc hca).trans k)).1
   have same : Anc up c b → c = d := fun h => by
    rcases h.chain hdb with h' | h'
    ·by_cases e : c = d
     ·exact e
     ·obtain ⟨y, hy1, hy2⟩ := h'.last e
      rw [hd'] at hy1; injection hy1 with hy1; subst hy1
      have h5 := (F.upa c v hcn hc).2
      rcases (F.num_le hy2 hvn).2 with h | h
      ·subst h; omega
      ·omega
    ·by_cases e : d = c
     ·exact e.symm
     ·obtain ⟨y, hy1, hy2⟩ := h'.last e
      rw [hc] at hy1; injection hy1 with hy1; subst hy1
      have h5 := (F.upa d v hdn hd').2
      rcases (F.num_le hy2 hvn).2 with h | h
      ·subst h; omega
      ·omega
   constructor
   ·intro e
    by_cases p : Bey es num up v d
    ·rw [H.on d v hdn hd' p] at e; exact absurd e.symm (hnot c hc hcn)
    ·rw [H.new d v hdn hd' p] at e; subst e
     exact (F.below han hc hca).symm.trans (F.below hbn hc hdb)
   ·intro k
    have := same (toA k); subst this
    rw [H.new c v hcn hc q]
 ·have e1 : lower num v a = a := by unfold lower; rw [if_neg (by omega)]
  have e2 : lower num v b = v := by unfold lower; rw [if_pos (by omega)]
  rw [e1, e2]
  have := mixed hb ha h2 h1
  exact ⟨fun e => (this.1 e.symm).symm, fun k => (this.2 k.symm).symm⟩
 ·have e1 : lower num v a = v := by unfold lower; rw [if_pos (by omega)]
  have e2 : lower num v b = b := by unfold lower; rw [if_neg (by omega)]
  rw [e1, e2]
  exact mixed ha hb h1 h2
 ·have e1 : lower num v a = v := by unfold lower; rw [if_pos (by omega)]
  have e2 : lower num v b = v := by unfold lower; rw [if_pos (by omega)]
  rw [e1, e2]
  exact ⟨fun _ => F.above hvn (F.anc a v ha.symm h1) (fun e => by subst e; omega) (F.anc b v hb.symm h2) (fun e => by subst e; omega), fun _ => rfl⟩
end Fo
end Go.Fw
