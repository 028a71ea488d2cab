/- A text of the proof. -/
import Derived.Test.YtnaahaldkpdjlaaFwLW4
import Derived.Test.YtnaahaldkpdjlaaFwLZ4
set_option linter.unusedSimpArgs false
set_option linter.unusedVariables false
namespace Go.Fw
set_option maxRecDepth 10000
inductive Anc (up : Nat → Option Nat) : Nat → Nat → Prop
 | refl (a : Nat) : Anc up a a
 | step {a b c : Nat} : Anc up a b → up c = some b → Anc up a c
theorem Anc.one {up : Nat → Option Nat} {b c : Nat} (h : up c = some b) : Anc up b c := .step (.refl b) h
theorem Anc.trans {up : Nat → Option Nat} {a b c : Nat} (h : Anc up a b) (k : Anc up b c) : Anc up a c := by
 induction k with
 | refl => exact h
 | step _ e ih => exact .step ih e
theorem Anc.chain {up : Nat → Option Nat} {a b c : Nat} (h : Anc up a c) (k : Anc up b c) : Anc up a b ∨ Anc up b a := by
 induction h with
 | refl => exact .inr k
 | @step x c h e ih =>
  cases k with
  | refl => exact .inl (h.step e)
  | @step y _ k e' => rw [e] at e'; injection e' with e'; subst e'; exact ih k
theorem Anc.child {up : Nat → Option Nat} {a b : Nat} (h : Anc up a b) (ne : a ≠ b) : ∃ c, up c = some a ∧ Anc up c b := by
 induction h with
 | refl => exact absurd rfl ne
 | @step x c h e ih =>
  by_cases q : a = x
  ·subst q; exact ⟨c, e, .refl c⟩
  ·obtain ⟨d, h1, h2⟩ := ih q; exact ⟨d, h1, h2.step e⟩
theorem Anc.last {up : Nat → Option Nat} {a b : Nat} (h : Anc up a b) (ne : a ≠ b) : ∃ c, up b = some c ∧ Anc up a c := by
 cases h with
 | refl => exact absurd rfl ne
 | step h e => exact ⟨_, e, h⟩
structure Fo (n : Nat) (es : List Pr) (num : Nat → Nat) (up : Nat → Option Nat) : Prop where
 rng : InR n es
 inj : ∀ u v, u < n → v < n → num u = num v → u = v
 upa : ∀ v u, v < n → up v = some u → adj es u v ∧ num u < num v
 anc : ∀ a b, adj es a b → num a < num b → Anc up a b
abbrev wo (v : Nat) : Nat → Bool := fun x => x == v
theorem wo_ne {v x : Nat} (h : x ≠ v) : wo v x = false := by simpa [wo] using h
def Bey (es : List Pr) (num : Nat → Nat) (up : Nat → Option Nat) (v c : Nat) : Prop := ∃ x w, Anc up c x ∧ adj es x w ∧ num w < num v
def Nt (es : List Pr) (up : Nat → Option Nat) (u w : Nat) : Prop := adj es u w ∧ up u ≠ some w ∧ up w ≠ some u
structure LowD (es : List Pr) (num : Nat → Nat) (up : Nat → Option Nat) (D : Nat → Nat → Prop) (v : Nat) (x : Nat) : Prop where
 self : x ≤ num v
 back : ∀ u w, D v u → Nt es up u w → x ≤ num w
 some_ : x = num v ∨ ∃ u w, D v u ∧ Nt es up u w ∧ x = num w
theorem LowD.uniq {es : List Pr} {num : Nat → Nat} {up : Nat → Option Nat} {D : Nat → Nat → Prop} {v x y : Nat} (a : LowD es num up D v x) (b : LowD es num up D v y) : x = y := by
 have key : ∀ {x y : Nat}, LowD es num up D v x → LowD es num up D v y → x ≤ y := by
  intro x y a b
  rcases b.some_ with h | ⟨u, w, h1, h2, h⟩
  ·rw [h]; exact a.self
  ·rw [h]; exact a.back u w h1 h2
 have := key a b; have := key b a; omega
namespace Fo
variable {n : Nat} {es : List Pr} {num : Nat → Nat} {up : Nat → Option Nat}
theorem num_le (F : Fo n es num up) {a b : Nat} (h : Anc up a b) (hb : b < n) : a < n ∧ (a = b ∨ num a < num b) := by
 induction h with
 | refl => exact ⟨hb, .inl rfl⟩
 | @step x c h e ih =>
  obtain ⟨h1, h2⟩ := F.upa c x hb e
  obtain ⟨h3, h4⟩ := ih (h1.lt F.rng).1
  refine ⟨h3, .inr ?_⟩
  rcases h4 with rfl | h4
  ·exact h2
  ·omega
theorem num_ne (F : Fo n es num up) {a b : Nat} (h : adj es a b) : num a ≠ num b := by
 intro e
 have := F.inj a b (h.lt F.rng).1 (h.lt F.rng).2 e
 subst this
 rcases h with h | h <;> have := F.rng _ h <;> simp only at this <;> omega
theorem along (F : Fo n es num up) {a b v : Nat} (h : Anc up a b) (hb : b < n) (hv : ∀ x, Anc up a x → Anc up x b → x ≠ v) : Cn (wo v) es a b := by
 induction h with
 | refl => exact .refl (wo_ne (hv _ (.refl _) (.refl _)))
 | @step x c h e ih =>
  obtain ⟨h1, h2⟩ := F.upa c x hb e
  exact .step (ih (h1.lt F.rng).1 fun y h3 h4 => hv y h3 (h4.step e)) h1 (wo_ne (hv c (h.step e) (.refl c)))
theorem lt_of_ne (F : Fo n es num up) {a v : Nat} (h : Anc up a v) (ne : a ≠ v) (hv : v < n) : num a < num v := (F.num_le h hv).2.resolve_left ne
theorem above (F : Fo n es num up) {a b v : Nat} (hv : v < n) (ha : Anc up a v) (na : a ≠ v) (hb : Anc up b v) (nb : b ≠ v) : Cn (wo v) es a b := by
 have key : ∀ {a b : Nat}, Anc up a b → Anc up b v → b ≠ v → Cn (wo v) es a b := by
  intro a b h hb nb
  have hbn := (F.num_le hb hv).1
  refine F.along h hbn fun x _ hx e => ?_
  subst e
  have h1 := F.lt_of_ne hb nb hv
  rcases (F.num_le hx hbn).2 with h2 | h2
  ·exact nb h2.symm
  ·omega
 rcases ha.chain hb with h | h
 ·exact key h hb nb
 ·exact (key h ha na).symm
theorem below (F : Fo n es num up) {c a v : Nat} (ha : a < n) (hc : up c = some v) (h : Anc up c a) : Cn (wo v) es c a := by
 have hcn := (F.num_le h ha).1
 refine F.along h ha fun x hx hxa e => ?_
 subst e
 have h1 := (F.upa c x hcn hc).2
 have h2 := (F.num_le hx (F.num_le hxa ha).1).2
 rcases h2 with h2 | h2
 ·subst h2; omega
 ·omega
theorem bey_up (F : Fo n es num up) {c v : Nat} (hcn : c < n) (hc : up c = some v) (h : Bey es num up v c) : ∃ w, Anc up w v ∧ w ≠ v ∧ Cn (wo v) es c w := by
 obtain ⟨x, w, h1, h2, h3⟩ := h
 have hx := (h2.lt F.rng).1
 have hvn := ((F.upa c v hcn hc).1.lt F.rng).1
 have hvx : Anc up v x := (Anc.one hc).trans h1
 have hwx : num w < num x := by
  have h4 := (F.upa c v hcn hc).2
  rcases (F.num_le h1 hx).2 with h | h
  ·subst h; omega
  ·omega
 have hwv : w ≠ v := fun e => by subst e; omega
 have ha := F.anc w x h2.symm hwx
 rcases ha.chain hvx with h | h
 ·exact ⟨w, h, hwv, (F.below hx hc h1).step h2 (wo_ne hwv)⟩
 ·have := (F.num_le h (h2.lt F.rng).2).2
  rcases this with h | h
  ·exact absurd h.symm hwv
  ·omega
theorem bey_closed (F : Fo n es num up) {c v x : Nat} (hcn : c < n) (hc : up c = some v) (h : ¬ Bey es num up v c) (k : Cn (wo v) es c x) : Anc up c x ∧ x < n := by
 induction k with
 | refl _ => exact ⟨.refl _, hcn⟩
 | @step x y k a o ih =>
  obtain ⟨h1, hx⟩ := ih
  have hy := (a.lt F.rng).2
  refine ⟨?_, hy⟩
  have hyv : y ≠ v := by simpa [wo] using o
  by_cases q : num y < num x
  ·have h2 := F.anc y x a.symm q
   rcases h1.chain h2 with h3 | h3
   ·exact h3
   ·by_cases e : y = c
    ·subst e; exact .refl _
    ·obtain ⟨d, h4, h5⟩ := h3.last e
     rw [hc] at h4; injection h4 with h4; subst h4
     have hvn := ((F.upa c v hcn hc).1.lt F.rng).1
     exact absurd ⟨x, y, h1, a, F.lt_of_ne h5 hyv hvn⟩ h
  ·have := F.num_ne a
   exact h1.trans (F.anc x y a (by omega))
theorem low_bey (F : Fo n es num up) {c v x : Nat} (hcn : c < n) (hc : up c = some v) (L : LowD es num up (Anc up) c x) : x < num v ↔ Bey es num up v c := by
 have hcv := (F.upa c v hcn hc).2
 constructor
 ·intro h
  rcases L.some_ with h1 | ⟨u, w, h1, h2, h3⟩
  ·omega
  ·exact ⟨u, w, h1, h2.1, by omega⟩
 ·rintro ⟨u, w, h1, h2, h3⟩
  have hun := (h2.lt F.rng).1
  have hu := (F.num_le h1 hun).2
  have := L.back u w h1 ⟨h2, fun e => ?_, fun e => ?_⟩
  ·omega
  ·by_cases q : c = u
   ·subst q; rw [hc] at e; injection e with e; subst e; omega
   ·obtain ⟨d, h4, h5⟩ := h1.last q
    rw [e] at h4; injection h4 with h4; subst h4
    rcases (F.num_le h5 (h2.lt F.rng).2).2 with h | h
    ·subst h; omega
    ·omega
  ·have := (F.upa w u (h2.lt F.rng).2 e).2
   rcases hu with hu | hu
   ·subst hu; omega
   ·omega
structure HeadS (n : Nat) (es : List Pr) (num : Nat → Nat) (up : Nat → Option Nat) (hd : Nat → Nat) : Prop where
 root : ∀ v, v < n → up v = none → hd v = v
 on : ∀ v u, v < n → up v = some u → Bey es num up u v → hd v = hd u
 new : ∀ v u, v < n → up v = some u → ¬ Bey es num up u v → hd v = v
variable {hd : Nat → Nat}
theorem hd_anc (F : Fo n es num up) (H : HeadS n es num up hd) : ∀ (k v : Nat), num v ≤ k → v < n → Anc up (hd v) v ∧ hd (hd v) = hd v := by
 intro k
 induction k with
 | zero =>
  intro v hk hv
  have hh : hd v = v := by
   cases hu : up v with
   | none => exact H.root v hv hu
   | some u => have := (F.upa v u hv hu).2; omega
  rw [hh]; exact ⟨.refl v, hh⟩
 | succ k ih =>
  intro v hk hv
  cases hu : up v with
  | none => rw [H.root v hv hu]; exact ⟨.refl v, H.root v hv hu⟩
  | some u =>
   have h1 := F.upa v u hv hu
   by_cases hb : Bey es num up u v
   ·rw [H.on v u hv hu hb]
    obtain ⟨h2, h3⟩ := ih u (by omega) (h1.1.lt F.rng).1
    exact ⟨h2.step hu, h3⟩
   ·rw [H.new v u hv hu hb]; exact ⟨.refl v, H.new v u hv hu hb⟩
def lower (num : Nat → Nat) (x y : Nat) : Nat := if num y < num x then x else y
theorem hd_sub (F : Fo n es num up) (H : HeadS n es num up hd) {c v a : Nat} (hc : up c = some v) (ha : Anc up c a) (hva : adj es v a) : hd a = hd c := by
 have han := (hva.lt F.rng).2
 have hcn := (F.num_le ha han).1
 have hcv := (F.upa c v hcn hc).2
 have key : ∀ z, Anc up c z → Anc up z a → hd z = hd c := by
  intro z hz
  induction hz with
  | refl => intro _; rfl
  | @step b z hb e ih =>
   intro hza
   have hzn := (F.num_le hza han).1
   have hbn := ((F.upa z b hzn e).1.lt F.rng).1
   rw [H.on z b hzn e ⟨a, v, hza, hva.symm, ?_⟩]
   ·exact ih ((Anc.one e).trans hza)
   ·rcases (F.num_le hb hbn).2 with h | h
    ·subst h; exact hcv
    ·omega
 exact key a ha (.refl a)
theorem block_iff (F : Fo n es num up) (H : HeadS n es num up hd) {v a b : Nat} (ha : adj es v a) (hb : adj es v b) : hd (lower num v a) = hd (lower num v b) ↔ Cn (wo v) es a b := by
 have hvn := (ha.lt F.rng).1
 have hnot : ∀ c, up c = some v → c < n → hd v ≠ c := fun c hc hcn e => by
  have h1 := (F.hd_anc H (num v) v (Nat.le_refl _) hvn).1
  have h2 := (F.upa c v hcn hc).2
  rcases (F.num_le h1 hvn).2 with h | h <;> rw [e] at h
  ·subst h; omega
  ·omega
 -- the one leads up, the other one down
 have mixed : ∀ {a b : Nat}, adj es v a → adj es v b → num a < num v → num v < num b → (hd v = hd b ↔ Cn (wo v) es a b) := by
  intro a b ha hb h1 h2
  have hbn := (hb.lt F.rng).2
  have haa := F.anc a v ha.symm h1
  have hav : a ≠ v := fun e => by subst e; omega
  obtain ⟨c, hc, hcb⟩ := (F.anc v b hb h2).child (fun e => by subst e; omega)
  have hcn := (F.num_le hcb hbn).1
  have hvc := (F.upa c v hcn hc).2
  rw [F.hd_sub H hc hcb hb]
  by_cases q : Bey es num up v c
  ·rw [H.on c v hcn hc q]
   obtain ⟨w, hw1, hw2, hw3⟩ := F.bey_up hcn hc q
   exact ⟨fun _ => ((F.above hvn haa hav hw1 hw2).trans hw3.symm).trans (F.below hbn hc hcb), fun _ => rfl⟩
  ·rw [H.new c v hcn hc q]
   refine ⟨fun e => absurd e (hnot c hc hcn), fun k => ?_⟩
   have h3 := F.bey_closed hcn hc q ((F.below hbn hc hcb).trans k.symm)
   rcases (F.num_le h3.1 h3.2).2 with h | h
   ·subst h; omega
   ·omega
 have na := F.num_ne ha
 have nb := F.num_ne hb
 rcases Nat.lt_or_gt_of_ne na with h1 | h1 <;> rcases Nat.lt_or_gt_of_ne nb with h2 | h2
 ·-- both down
  have e1 : lower num v a = a := by unfold lower; rw [if_neg (by omega)]
  have e2 : lower num v b = b := by unfold lower; rw [if_neg (by omega)]
  rw [e1, e2]
  have han := (ha.lt F.rng).2
  have hbn := (hb.lt F.rng).2
  obtain ⟨c, hc, hca⟩ := (F.anc v a ha h1).child (fun e => by subst e; omega)
  obtain ⟨d, hd', hdb⟩ := (F.anc v b hb h2).child (fun e => by subst e; omega)
  have hcn := (F.num_le hca han).1
  have hdn := (F.num_le hdb hbn).1
  rw [F.hd_sub H hc hca ha, F.hd_sub H hd' hdb hb]
  by_cases q : Bey es num up v c
  ·rw [H.on c v hcn hc q]
   obtain ⟨w, hw1, hw2, hw3⟩ := F.bey_up hcn hc q
   by_cases p : Bey es num up v d
   ·rw [H.on d v hdn hd' p]
    obtain ⟨x, hx1, hx2, hx3⟩ := F.bey_up hdn hd' p
    exact ⟨fun _ => (((F.below han hc hca).symm.trans hw3).trans (F.above hvn hw1 hw2 hx1 hx2)).trans (hx3.symm.trans (F.below hbn hd' hdb)), fun _ => rfl⟩
   ·rw [H.new d v hdn hd' p]
    refine ⟨fun e => absurd e (hnot d hd' hdn), fun k => ?_⟩
    have h3 := F.bey_closed hdn hd' p (((F.below hbn hd' hdb).trans k.symm).trans ((F.below han hc hca).symm.trans hw3))
    have h4 := F.lt_of_ne hw1 hw2 hvn
    have h5 := (F.upa d v hdn hd').2
    rcases (F.num_le h3.1 h3.2).2 with h | h
    ·subst h; omega
    ·omega
  ·rw [H.new c v hcn hc q]
   have toA : Cn (wo v) es a b → Anc up c b := fun k => (F.bey_closed hcn hc q ((F.below han hc hca).trans k)).1
   have same : Anc up c b → c = d := fun h => by
    rcases h.chain hdb with h' | h'
    ·by_cases e : c = d
     ·exact e
     ·obtain ⟨y, hy1, hy2⟩ := h'.last e
      rw [hd'] at hy1; injection hy1 with hy1; subst hy1
      have h5 := (F.upa c v hcn hc).2
      rcases (F.num_le hy2 hvn).2 with h | h
      ·subst h; omega
      ·omega
    ·by_cases e : d = c
     ·exact e.symm
     ·obtain ⟨y, hy1, hy2⟩ := h'.last e
      rw [hc] at hy1; injection hy1 with hy1; subst hy1
      have h5 := (F.upa d v hdn hd').2
      rcases (F.num_le hy2 hvn).2 with h | h
      ·subst h; omega
      ·omega
   constructor
   ·intro e
    by_cases p : Bey es num up v d
    ·rw [H.on d v hdn hd' p] at e; exact absurd e.symm (hnot c hc hcn)
    ·rw [H.new d v hdn hd' p] at e; subst e
     exact (F.below han hc hca).symm.trans (F.below hbn hc hdb)
   ·intro k
    have := same (toA k); subst this
    rw [H.new c v hcn hc q]
 ·have e1 : lower num v a = a := by unfold lower; rw [if_neg (by omega)]
  have e2 : lower num v b = v := by unfold lower; rw [if_pos (by omega)]
  rw [e1, e2]
  have := mixed hb ha h2 h1
  exact ⟨fun e => (this.1 e.symm).symm, fun k => (this.2 k.symm).symm⟩
 ·have e1 : lower num v a = v := by unfold lower; rw [if_pos (by omega)]
  have e2 : lower num v b = b := by unfold lower; rw [if_neg (by omega)]
  rw [e1, e2]
  exact mixed ha hb h1 h2
 ·have e1 : lower num v a = v := by unfold lower; rw [if_pos (by omega)]
  have e2 : lower num v b = v := by unfold lower; rw [if_pos (by omega)]
  rw [e1, e2]
  exact ⟨fun _ => F.above hvn (F.anc a v ha.symm h1) (fun e => by subst e; omega) (F.anc b v hb.symm h2) (fun e => by subst e; omega), fun _ => rfl⟩
end Fo
end Go.Fw
namespace Go.Fw
set_option maxRecDepth 10000
def isE (a b x y : Nat) : Prop := x = a ∧ y = b ∨ x = b ∧ y = a
namespace Fo
variable {n : Nat} {es : List Pr} {num : Nat → Nat} {up : Nat → Option Nat} {hd : Nat → Nat}
theorem link (F : Fo n es num up) (H : HeadS n es num up hd) {α : Type} (of : Nat → Nat → α) (hsym : ∀ x y, of x y = of y x) (hof : ∀ v a b, adj es v a → adj es v b → Cn (wo v) es a b → of v a = of v b) :
  ∀ (k x y : Nat), num x ≤ k → adj es x y → num y < num x → ∃ u, up (hd x) = some u ∧ of x y = of (hd x) u := by
 intro k
 induction k with
 | zero => intro x y h1 h2 h3; omega
 | succ k ih =>
  intro x y h1 h2 h3
  have hx := (h2.lt F.rng).1
  have hA := F.anc y x h2.symm h3
  obtain ⟨u, hu, hyu⟩ := hA.last (fun e => by subst e; omega)
  have h4 := F.upa x u hx hu
  have hun := (h4.1.lt F.rng).1
  have e1 : of x y = of x u := hof x y u h2 h4.1.symm (F.above hx hA (fun e => by subst e; omega) (.one hu) (fun e => by subst e; omega))
  by_cases q : Bey es num up u x
  ·have hh := H.on x u hx hu q
   obtain ⟨w, hw1, hw2, _⟩ := F.bey_up hx hu q
   obtain ⟨p, hp, _⟩ := hw1.last hw2
   have h5 := F.upa u p hun hp
   obtain ⟨u', hu', e2⟩ := ih u p (by omega) h5.1.symm h5.2
   rw [hh]
   refine ⟨u', hu', ?_⟩
   rw [e1, hsym x u, ← e2]
   refine hof u x p h4.1 h5.1.symm ((F.block_iff H h4.1 h5.1.symm).1 ?_)
   unfold lower
   rw [if_neg (by omega), if_pos (by omega), hh]
  ·rw [H.new x u hx hu q]
   exact ⟨u, hu, e1⟩
theorem link2 (F : Fo n es num up) (H : HeadS n es num up hd) {α : Type} (of : Nat → Nat → α) (hsym : ∀ x y, of x y = of y x) (hof : ∀ v a b, adj es v a → adj es v b → Cn (wo v) es a b → of v a = of v b)
  {x y x' y' : Nat} (h : adj es x y) (h' : adj es x' y') (e : hd (lower num x y) = hd (lower num x' y')) : of x y = of x' y' := by
 have key : ∀ {x y : Nat}, adj es x y → ∃ u, up (hd (lower num x y)) = some u ∧ of x y = of (hd (lower num x y)) u := by
  intro x y h
  have := F.num_ne h
  unfold lower
  split
  ·rename_i q; exact F.link H of hsym hof (num x) x y (Nat.le_refl _) h q
  ·obtain ⟨u, h1, h2⟩ := F.link H of hsym hof (num y) y x (Nat.le_refl _) h.symm (by omega)
   exact ⟨u, h1, by rw [hsym, h2]⟩
 obtain ⟨u, h1, h2⟩ := key h
 obtain ⟨u', h3, h4⟩ := key h'
 rw [← e, h1] at h3; injection h3 with h3; subst h3
 rw [h2, h4, e]
end Fo
theorem head_ex {n : Nat} {es : List Pr} (hr : InR n es) : ∀ (v : Nat), v < n → ∃ h ∈ heads n es, Con es h v := by
 intro v
 induction v using Nat.strongRecOn with
 | ind v ih =>
  intro hv
  by_cases q : ∀ u, u < v → ¬ Con es u v
  ·exact ⟨v, mem_heads.2 ⟨hv, q⟩, Con.refl es v⟩
  ·obtain ⟨u, hu, hc⟩ : ∃ u, u < v ∧ Con es u v := by
    refine Classical.byContradiction fun k => q fun u hu hc => k ⟨u, hu, hc⟩
   obtain ⟨h, h1, h2⟩ := ih u hu (by omega)
   exact ⟨h, h1, h2.trans hc⟩
theorem heads_uniq {n : Nat} {es : List Pr} {a b : Nat} (ha : a ∈ heads n es) (hb : b ∈ heads n es) (h : Con es a b) : a = b := by
 have h1 := (mem_heads.1 ha).2 b
 have h2 := (mem_heads.1 hb).2 a
 rcases Nat.lt_trichotomy a b with q | q | q
 ·exact absurd h (h2 q)
 ·exact q
 ·exact absurd h.symm (h1 q)
theorem heads_nodup (n : Nat) (es : List Pr) : (heads n es).Nodup := by
 unfold heads; exact List.Nodup.sublist List.filter_sublist List.nodup_range
end Go.Fw
namespace Go.Fw
set_option maxRecDepth 10000
def upI (x : Int) : Option Nat := if 0 ≤ x then some x.toNat else none
def upO (up : List Int) (v : Nat) : Option Nat := upI (up.getD v (-1))
theorem upI_nat (u : Nat) : upI (u : Int) = some u := by simp [upI]
theorem upI_some {x : Int} {u : Nat} (h : upI x = some u) : x = (u : Int) := by
 unfold upI at h; split at h
 ·injection h with h; omega
 ·cases h
structure DI (es : List Pr) (s : Nat) (o : List Nat) (up : List Int) : Prop where
 root : upO up s = none
 mem : ∀ v u, upO up v = some u → v ∈ o
 upa : ∀ (k v : Nat), o[k]? = some v → v = s ∨ ∃ j u, j < k ∧ o[j]? = some u ∧ upO up v = some u ∧ adj es u v
 open_ : ∀ x ∈ o, ¬ Full es o x → ∀ l, o.getLast? = some l → Anc (upO up) x l
 anc : ∀ (j k a b : Nat), j < k → o[j]? = some a → o[k]? = some b → adj es a b → Anc (upO up) a b
theorem DI.idx {es : List Pr} {s : Nat} {o : List Nat} {up : List Int} (d : DI es s o up) (nd : o.Nodup) {a b : Nat} (h : Anc (upO up) a b) : ∀ (k : Nat), o[k]? = some b → ∃ j : Nat, j ≤ k ∧ o[j]? = some a := by
 induction h with
 | refl => exact fun k hk => ⟨k, Nat.le_refl _, hk⟩
 | @step b c h e ih =>
  intro k hk
  rcases d.upa k c hk with h1 | ⟨j, u, h1, h2, h3, _⟩
  ·subst h1; rw [d.root] at e; cases e
  ·rw [h3] at e; injection e with e; subst e
   obtain ⟨i, hi, hi2⟩ := ih j h2
   exact ⟨i, by omega, hi2⟩
theorem Anc.mono {up up' : Nat → Option Nat} {a b : Nat} (h : Anc up a b) (k : ∀ c u, up c = some u → up' c = some u) : Anc up' a b := by
 induction h with
 | refl => exact .refl _
 | step h e ih => exact .step ih (k _ _ e)
theorem Dfs.di {n : Nat} {es : List Pr} {s : Nat} {o : List Nat} {up : List Int} (hr : InR n es) (d : Dfs n es s o up) : DI es s o up := by
 induction d with
 | start =>
  have hn : ∀ v, upO (List.replicate n (-1)) v = none := fun v => by
   simp only [upO, List.getD_eq_getElem?_getD, List.getElem?_replicate]; split <;> rfl
  refine ⟨hn s, fun v u h => (by rw [hn] at h; cases h), fun k v h => ?_, fun x hx _ l hl => ?_, fun j k a b h1 h2 h3 => ?_⟩
  ·have := (List.getElem?_eq_some_iff.1 h).1; simp at this; subst this; simp at h; exact .inl h.symm
  ·simp at hx hl; subst hx; subst hl; exact .refl _
  ·have := (List.getElem?_eq_some_iff.1 h3).1; simp at this; omega
 | @step o up k v w d hk ha hw hm hf ih =>
  have hwn := (ha.lt hr).2
  have hul : up.length = n := d.len.2
  have hnd := d.nodup
  have hu : ∀ x, upO (up.set w (v : Int)) x = if x = w then some v else upO up x := fun x => by
   simp only [upO, List.getD_eq_getElem?_getD, List.getElem?_set]
   by_cases e : w = x
   ·subst e; simp [hul, hwn, upI_nat]
   ·simp [e, Ne.symm e]
  have hmono : ∀ c u, upO up c = some u → upO (up.set w (v : Int)) c = some u := fun c u h => by
   rw [hu, if_neg (fun e => hw (by subst e; exact ih.mem _ _ h))]; exact h
  have hws : w ≠ s := fun e => by subst e; exact hw (List.mem_of_getElem? d.head)
  have hkl := (List.getElem?_eq_some_iff.1 hk).1
  have hne : o ≠ [] := fun e => by subst e; simp at hkl
  obtain ⟨l, hl⟩ : ∃ l, o.getLast? = some l := ⟨_, List.getLast?_eq_some_getLast hne⟩
  have hvl := ih.open_ v (List.mem_of_getElem? hk) (fun f => hw (f w ha)) l hl
  -- whoever is not full is above v
  have habove : ∀ x ∈ o, ¬ Full es o x → Anc (upO up) x v := fun x hx hnf => by
   have hxl := ih.open_ x hx hnf l hl
   rcases hxl.chain hvl with h | h
   ·exact h
   ·obtain ⟨i, hi⟩ := List.mem_iff_getElem?.1 hx
    obtain ⟨j, hj1, hj2⟩ := ih.idx hnd h i hi
    have hil := (List.getElem?_eq_some_iff.1 hi).1
    have hjk : j = k := (List.getElem?_inj (List.getElem?_eq_some_iff.1 hj2).1 hnd).1 (hj2.trans hk.symm)
    by_cases e : i = k
    ·subst e; rw [hi] at hk; injection hk with hk; subst hk; exact .refl _
    ·exact absurd (hf i x (by omega) hi) hnf
  refine ⟨by rw [hu, if_neg (Ne.symm hws)]; exact ih.root, fun x u h => ?_, fun i x hx => ?_, fun x hx hnf l' hl' => ?_, fun i j a b hij hi hj hab => ?_⟩
  ·rw [hu] at h; rw [List.mem_append, List.mem_singleton]
   split at h
   ·rename_i e; exact .inr e
   ·exact .inl (ih.mem x u h)
  ·rcases Nat.lt_or_ge i o.length with hil | hil
   ·rw [List.getElem?_append_left hil] at hx
    rcases ih.upa i x hx with h | ⟨j, u, h1, h2, h3, h4⟩
    ·exact .inl h
    ·exact .inr ⟨j, u, h1, by rw [List.getElem?_append_left (by omega)]; exact h2, hmono _ _ h3, h4⟩
   ·rw [List.getElem?_append_right hil] at hx
    have := (List.getElem?_eq_some_iff.1 hx).1; simp at this
    have e0 : i - o.length = 0 := by omega
    rw [e0] at hx; simp at hx; subst hx
    exact .inr ⟨k, v, by omega, by rw [List.getElem?_append_left hkl]; exact hk, by rw [hu, if_pos rfl], ha⟩
  ·rw [List.getLast?_concat] at hl'
   injection hl' with hl'; subst hl'
   rw [List.mem_append, List.mem_singleton] at hx
   rcases hx with hx | rfl
   ·have hnf' : ¬ Full es o x := fun f => hnf fun y hy => List.mem_append_left _ (f y hy)
    exact ((habove x hx hnf').mono hmono).step (by rw [hu, if_pos rfl])
   ·exact .refl _
  ·have hil : i < o.length := by
    have := (List.getElem?_eq_some_iff.1 hj).1; simp at this; omega
   rw [List.getElem?_append_left hil] at hi
   rcases Nat.lt_or_ge j o.length with hjl | hjl
   ·rw [List.getElem?_append_left hjl] at hj
    exact (ih.anc i j a b hij hi hj hab).mono hmono
   ·rw [List.getElem?_append_right hjl] at hj
    have := (List.getElem?_eq_some_iff.1 hj).1; simp at this
    have e0 : j - o.length = 0 := by omega
    rw [e0] at hj; simp at hj; subst hj
    exact ((habove a (List.mem_of_getElem? hi) fun f => hw (f w hab)).mono hmono).step (by rw [hu, if_pos rfl])
def upL (ls : List Lw) (v : Nat) : Option Nat := upI (getL ls v).2.1
structure FoI (es : List Pr) (ls : List Lw) (o : List Nat) : Prop where
 num : ∀ (k v : Nat), o[k]? = some v → (getL ls v).1 = ((k + 1 : Nat) : Int) ∧ (getL ls v).2.2 = ((k + 1 : Nat) : Int)
 up : ∀ (k v : Nat), o[k]? = some v → (getL ls v).2.1 = -1 ∨ ∃ j u : Nat, j < k ∧ o[j]? = some u ∧ (getL ls v).2.1 = (u : Int) ∧ adj es u v
 anc : ∀ (j k a b : Nat), j < k → o[j]? = some a → o[k]? = some b → adj es a b → Anc (upL ls) a b
theorem putA_get {n : Nat} {up : List Int} : ∀ (l : List Nat) {ls : List Lw} {o : List Nat}, ls.length = n → l.Nodup → (∀ v ∈ l, v < n) →
  (∀ (k v : Nat), l[k]? = some v → getL (putA up l (ls, o)).1 v = (((o.length + k + 1 : Nat) : Int), up.getD v 0, ((o.length + k + 1 : Nat) : Int))) ∧ ∀ v, v ∉ l → getL (putA up l (ls, o)).1 v = getL ls v
 | [], ls, o, _, _, _ => ⟨fun k v h => by simp at h, fun v _ => rfl⟩
 | x :: r, ls, o, hl, hn, hlt => by
  rw [List.nodup_cons] at hn
  obtain ⟨q1, q2⟩ := putA_get r (ls := ls.set x (((o.length + 1 : Nat) : Int), up.getD x 0, ((o.length + 1 : Nat) : Int))) (o := o ++ [x]) (by simp [hl]) hn.2 fun v hv => hlt v (by simp [hv])
  refine ⟨fun k v hk => ?_, fun v hv => ?_⟩
  ·cases k with
   | zero =>
    simp at hk; subst hk
    rw [putA, q2 x hn.1, getL_set, if_pos ⟨rfl, by rw [hl]; exact hlt x (by simp)⟩]
   | succ k =>
    rw [putA, q1 k v (by simpa using hk)]
    simp only [List.length_append, List.length_singleton]
    rw [show o.length + 1 + k + 1 = o.length + (k + 1) + 1 by omega]
  ·simp at hv
   rw [putA, q2 v hv.2, getL_set, if_neg (fun h => hv.1 h.1.symm)]
theorem FoI.above {es : List Pr} {ls ls' : List Lw} {o : List Nat} (F : FoI es ls o) (hs : ∀ v ∈ o, getL ls' v = getL ls v) {a b : Nat} (h : Anc (upL ls) a b) : b ∈ o → Anc (upL ls') a b := by
 induction h with
 | refl => exact fun _ => .refl _
 | @step b c h e ih =>
  intro hc
  obtain ⟨k, hk⟩ := List.mem_iff_getElem?.1 hc
  have e' : upL ls' c = some b := by unfold upL; rw [hs c hc]; exact e
  rcases F.up k c hk with h1 | ⟨j, u, h1, h2, h3, _⟩
  ·unfold upL at e; rw [h1] at e; cases e
  ·unfold upL at e; rw [h3, upI_nat] at e; injection e with e; subst e
   exact (ih (List.mem_of_getElem? h2)).step e'
theorem Dfs.upm {n : Nat} {es : List Pr} {s : Nat} {o : List Nat} {up : List Int} (d : Dfs n es s o up) : ∀ v, -1 ≤ up.getD v (-1) := by
 induction d with
 | start => intro v; simp only [List.getD_eq_getElem?_getD, List.getElem?_replicate]; split <;> simp
 | step d _ _ _ _ _ ih =>
  intro v; have := ih v
  simp only [List.getD_eq_getElem?_getD, List.getElem?_set] at this ⊢
  split
  ·split
   ·simp
   ·simp
  ·exact this
theorem fromA_F {n : Nat} {es : List Pr} (hr : InR n es) {ls : List Lw} {o : List Nat} (I : LowC n es ls o) (F : FoI es ls o) {i : Nat} (hi : i < n) : FoI es (fromA n es i (ls, o)).1 (fromA n es i (ls, o)).2 := by
 unfold fromA
 split
 ·rename_i h0
  obtain ⟨p1, p2⟩ := fromA_pre hr I hi h0
  have D := walkF_fin hr hi
  obtain ⟨_, q2⟩ := putA_I (D.dfs.upR hr hi) (walkF n es i).1 I.toLowI p1 p2
  have hul := D.dfs.len.2
  have di := D.dfs.di hr
  obtain ⟨g1, g2⟩ := putA_get (up := (walkF n es i).2) (walkF n es i).1 (ls := ls) (o := o) I.len p1 fun v hv => (p2 v hv).1
  have ho : ∀ v ∈ o, getL (putA (walkF n es i).2 (walkF n es i).1 (ls, o)).1 v = getL ls v := fun v hv => g2 v fun hm => (p2 v hm).2 hv
  rw [q2]
  generalize (putA (walkF n es i).2 (walkF n es i).1 (ls, o)).1 = ls' at *
  generalize (walkF n es i).1 = P at *
  generalize (walkF n es i).2 = up at *
  have hup : ∀ v ∈ P, up.getD v 0 = up.getD v (-1) := fun v hv => by
   have := (p2 v hv).1
   rw [getD_of (by omega), getD_of (by omega)]
  have hanc : ∀ {a b : Nat}, Anc (upO up) a b → b ∈ P → Anc (upL ls') a b := by
   intro a b h
   induction h with
   | refl => exact fun _ => .refl _
   | @step b c h e ih =>
    intro hc
    obtain ⟨k, hk⟩ := List.mem_iff_getElem?.1 hc
    have e' : upL ls' c = some b := by unfold upL; rw [g1 k c hk]; simp only; rw [hup c hc]; exact e
    rcases di.upa k c hk with h1 | ⟨j, u, h1, h2, h3, _⟩
    ·subst h1; rw [di.root] at e; cases e
    ·rw [h3] at e; injection e with e; subst e
     exact (ih (List.mem_of_getElem? h2)).step e'
  refine ⟨fun k v hk => ?_, fun k v hk => ?_, fun j k a b hjk hj hk hab => ?_⟩
  ·rcases Nat.lt_or_ge k o.length with h | h
   ·rw [List.getElem?_append_left h] at hk; rw [ho v (List.mem_of_getElem? hk)]; exact F.num k v hk
   ·rw [List.getElem?_append_right h] at hk; rw [g1 _ v hk]
    rw [show o.length + (k - o.length) + 1 = k + 1 by omega]; exact ⟨rfl, rfl⟩
  ·rcases Nat.lt_or_ge k o.length with h | h
   ·rw [List.getElem?_append_left h] at hk; rw [ho v (List.mem_of_getElem? hk)]
    rcases F.up k v hk with h1 | ⟨j, u, h1, h2, h3⟩
    ·exact .inl h1
    ·exact .inr ⟨j, u, h1, by rw [List.getElem?_append_left (by omega)]; exact h2, h3⟩
   ·rw [List.getElem?_append_right h] at hk; rw [g1 _ v hk]
    simp only
    have hv := List.mem_of_getElem? hk
    rw [hup v hv]
    rcases di.upa _ v hk with h1 | ⟨j, u, h1, h2, h3, h4⟩
    ·subst h1
     left
     have hroot := di.root
     have hv1 := (p2 v hv).1
     have := D.dfs.upR hr hi v
     unfold upO upI at hroot
     split at hroot
     ·cases hroot
     ·rename_i hneg
      have := D.dfs.upm v
      omega
    ·exact .inr ⟨o.length + j, u, by omega, by rw [List.getElem?_append_right (by omega)]; simpa using h2, upI_some h3, h4⟩
  ·rcases Nat.lt_or_ge k o.length with h | h
   ·rw [List.getElem?_append_left h] at hk
    rw [List.getElem?_append_left (by omega)] at hj
    exact F.above ho (F.anc j k a b hjk hj hk hab) (List.mem_of_getElem? hk)
   ·rw [List.getElem?_append_right h] at hk
    rcases Nat.lt_or_ge j o.length with h' | h'
    ·rw [List.getElem?_append_left h'] at hj
     exact absurd (I.cl a b hab (List.mem_of_getElem? hj)) (p2 b (List.mem_of_getElem? hk)).2
    ·rw [List.getElem?_append_right h'] at hj
     exact hanc (di.anc _ _ a b (by omega) hj hk hab) (List.mem_of_getElem? hk)
 ·exact F
theorem metM_F {n : Nat} {es : List Pr} (hr : InR n es) : ∀ i, i ≤ n → FoI es (metM n es i).1 (metM n es i).2
 | 0, _ => ⟨fun k v h => by simp [metM] at h, fun k v h => by simp [metM] at h, fun j k a b _ h => by simp [metM] at h⟩
 | i + 1, hi => fromA_F hr (metM_C hr i (by omega)).1 (metM_F hr i (by omega)) (by omega)
def numL (ls : List Lw) (v : Nat) : Nat := (getL ls v).1.toNat
theorem metM_fo {n : Nat} {es : List Pr} (hr : InR n es) : Fo n es (numL (metM n es n).1) (upL (metM n es n).1) := by
 have F := metM_F hr n (Nat.le_refl _)
 obtain ⟨C, hall⟩ := metM_C hr n (Nat.le_refl _)
 have ex : ∀ v, v < n → ∃ k, (metM n es n).2[k]? = some v ∧ numL (metM n es n).1 v = k + 1 := fun v hv => by
  obtain ⟨k, hk⟩ := List.mem_iff_getElem?.1 (hall v hv)
  refine ⟨k, hk, ?_⟩
  unfold numL; rw [(F.num k v hk).1]; simp
 refine ⟨hr, fun u v hu hv e => ?_, fun v u hv e => ?_, fun a b hab h => ?_⟩
 ·obtain ⟨k, h1, h2⟩ := ex u hu
  obtain ⟨j, h3, h4⟩ := ex v hv
  have : k = j := by omega
  subst this; rw [h1] at h3; injection h3
 ·obtain ⟨k, h1, h2⟩ := ex v hv
  unfold upL at e
  rcases F.up k v h1 with h | ⟨j, w, h3, h4, h5, h6⟩
  ·rw [h] at e; cases e
  ·rw [h5, upI_nat] at e; injection e with e; subst e
   refine ⟨h6, ?_⟩
   rw [h2]; unfold numL; rw [(F.num j w h4).1]; simp; omega
 ·obtain ⟨k, h1, h2⟩ := ex a (hab.lt hr).1
  obtain ⟨j, h3, h4⟩ := ex b (hab.lt hr).2
  exact F.anc k j a b (by omega) h1 h3 hab
end Go.Fw
