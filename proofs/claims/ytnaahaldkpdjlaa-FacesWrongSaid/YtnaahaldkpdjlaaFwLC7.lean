/- A text of the proof. -/
import Derived.Test.YtnaahaldkpdjlaaFwLZ11
set_option linter.unusedSimpArgs false
set_option linter.unusedVariables false
namespace Go.Fw
set_option maxRecDepth 10000
attribute [local instance] Classical.propDecidable
structure Ds (n : Nat) (es : List Pr) (D : Nat → Nat → Nat) : Prop where
 rng : InR n es
 z : ∀ v, v < n → D v v = 0
 z' : ∀ v w, v < n → w < n → D v w = 0 → v = w
 pre : ∀ v w, v < n → w < n → v ≠ w → ∃ u, u < n ∧ adj es u w ∧ D v u + 1 = D v w
 tri : ∀ v u w, v < n → adj es u w → D v w ≤ D v u + 1
inductive Wk (es : List Pr) : Nat → Nat → Nat → Prop
 | nil (a : Nat) : Wk es a a 0
 | cons {a b c k : Nat} : Wk es a b k → adj es b c → Wk es a c (k + 1)
theorem Wk.trans {es : List Pr} {a b c j k : Nat} (h : Wk es a b j) (g : Wk es b c k) : Wk es a c (j + k) := by
 induction g with
 | nil => exact h
 | cons _ e ih => exact .cons ih e
theorem Wk.rev {es : List Pr} {a b k : Nat} (h : Wk es a b k) : Wk es b a k := by
 induction h with
 | nil => exact .nil _
 | @cons b c k _ e ih => have := (Wk.cons (.nil c) e.symm).trans ih; rwa [Nat.zero_add, Nat.add_comm] at this
namespace Ds
variable {n : Nat} {es : List Pr} {D : Nat → Nat → Nat}
theorem wk_le (d : Ds n es D) {v w k : Nat} (hv : v < n) (h : Wk es v w k) : D v w ≤ k := by
 induction h with
 | nil => rw [d.z v hv]; omega
 | cons _ e ih => have := d.tri v _ _ hv e; omega
theorem wk_ex (d : Ds n es D) {v : Nat} (hv : v < n) : ∀ (k w : Nat), w < n → D v w = k → Wk es v w k
 | 0, w, hw, e => by rw [d.z' v w hv hw e]; exact .nil _
 | k + 1, w, hw, e => by
  have hne : v ≠ w := fun h => by subst h; rw [d.z v hv] at e; omega
  obtain ⟨u, hu, ha, e'⟩ := d.pre v w hv hw hne
  exact .cons (d.wk_ex hv k u hu (by omega)) ha
theorem symm (d : Ds n es D) {v w : Nat} (hv : v < n) (hw : w < n) : D v w = D w v := by
 have h1 := d.wk_le hw (d.wk_ex hv _ w hw rfl).rev
 have h2 := d.wk_le hv (d.wk_ex hw _ v hv rfl).rev
 omega
end Ds
structure Tr (n : Nat) (es : List Pr) (D : Nat → Nat → Nat) : Prop extends Ds n es D where
 cnt : es.length + 1 = n
def Pa (n : Nat) (es : List Pr) (D : Nat → Nat → Nat) (v w i : Nat) : Prop := ∃ u, u < n ∧ (es[i]? = some ((u : Int), (w : Int)) ∨ es[i]? = some ((w : Int), (u : Int))) ∧ D v u + 1 = D v w
namespace Tr
variable {n : Nat} {es : List Pr} {D : Nat → Nat → Nat}
theorem adj_idx {u w : Nat} (h : adj es u w) : ∃ i : Nat, es[i]? = some ((u : Int), (w : Int)) ∨ es[i]? = some ((w : Int), (u : Int)) := by
 rcases h with h | h
 ·obtain ⟨i, hi⟩ := List.mem_iff_getElem?.1 h; exact ⟨i, .inl hi⟩
 ·obtain ⟨i, hi⟩ := List.mem_iff_getElem?.1 h; exact ⟨i, .inr hi⟩
theorem pa_ex (T : Tr n es D) {v w : Nat} (hv : v < n) (hw : w < n) (h : v ≠ w) : ∃ i, i < es.length ∧ Pa n es D v w i := by
 obtain ⟨u, hu, ha, e⟩ := T.pre v w hv hw h
 obtain ⟨i, hi⟩ := adj_idx ha
 refine ⟨i, ?_, u, hu, hi, e⟩
 rcases hi with hi | hi <;> exact (List.getElem?_eq_some_iff.1 hi).1
theorem pa_far {v w w' i : Nat} (h : Pa n es D v w i) (h' : Pa n es D v w' i) : w = w' := by
 obtain ⟨u, _, hi, e⟩ := h
 obtain ⟨u', _, hi', e'⟩ := h'
 rcases hi with hi | hi <;> rcases hi' with hi' | hi' <;> rw [hi] at hi' <;> injection hi' with hi' <;> rw [Prod.mk.injEq] at hi'
 ·omega
 ·obtain ⟨a, b⟩ := hi'
  have h1 : u = w' := by omega
  have h2 : w = u' := by omega
  subst h1; subst h2; omega
 ·obtain ⟨a, b⟩ := hi'
  have h1 : w = u' := by omega
  have h2 : u = w' := by omega
  subst h1; subst h2; omega
 ·omega
theorem t1 (T : Tr n es D) {v j : Nat} (hv : v < n) (hj : j < es.length) : ∃ w, w < n ∧ w ≠ v ∧ Pa n es D v w j ∧ ∀ i, Pa n es D v w i → i = j := by
 refine Classical.byContradiction fun hno => ?_
 have hall : ∀ w, w < n → w ≠ v → ∃ i, i < es.length ∧ i ≠ j ∧ Pa n es D v w i := fun w hw hne => by
  refine Classical.byContradiction fun hc => hno ⟨w, hw, hne, ?_, ?_⟩
  ·obtain ⟨i, hi, hp⟩ := T.pa_ex hv hw (Ne.symm hne)
   by_cases e : i = j
   ·subst e; exact hp
   ·exact absurd ⟨i, hi, e, hp⟩ hc
  ·intro i hp
   refine Classical.byContradiction fun e => hc ⟨i, ?_, e, hp⟩
   obtain ⟨u, _, hi | hi, _⟩ := hp <;> exact (List.getElem?_eq_some_iff.1 hi).1
 have := choice_le' (A := (List.range n).erase v) (B := (List.range es.length).erase j) (R := fun w i => Pa n es D v w i) (List.nodup_range.erase v) (fun w hw => by
  rw [List.nodup_range.mem_erase_iff] at hw
  obtain ⟨i, hi, hne, hp⟩ := hall w (List.mem_range.1 hw.2) hw.1
  exact ⟨i, by rw [List.nodup_range.mem_erase_iff]; exact ⟨hne, List.mem_range.2 hi⟩, hp⟩) (fun a _ a' _ i h1 h2 => pa_far h1 h2)
 rw [List.length_erase_of_mem (List.mem_range.2 hv), List.length_erase_of_mem (List.mem_range.2 hj), List.length_range, List.length_range] at this
 have := T.cnt
 omega
theorem pa_lt {v w i : Nat} (h : Pa n es D v w i) : i < es.length := by
 obtain ⟨u, _, hi | hi, _⟩ := h <;> exact (List.getElem?_eq_some_iff.1 hi).1
theorem uniq (T : Tr n es D) {v w i j : Nat} (hv : v < n) (hi : Pa n es D v w i) (hj : Pa n es D v w j) : i = j := by
 obtain ⟨w', _, _, hp, hall⟩ := T.t1 hv (pa_lt hj)
 have := pa_far hp hj
 subst this
 exact hall i hi
theorem par_uniq (T : Tr n es D) {v w u u' : Nat} (hv : v < n) (h1 : adj es u w) (h2 : adj es u' w) (e1 : D v u + 1 = D v w) (e2 : D v u' + 1 = D v w) : u = u' := by
 obtain ⟨i, hi⟩ := adj_idx h1
 obtain ⟨j, hj⟩ := adj_idx h2
 have := T.uniq hv (i := i) (j := j) ⟨u, (h1.lt T.rng).1, hi, e1⟩ ⟨u', (h2.lt T.rng).1, hj, e2⟩
 subst this
 have hne : u ≠ w := fun e => by subst e; omega
 rcases hi with hi | hi <;> rcases hj with hj | hj <;> rw [hi] at hj <;> injection hj with hj <;> rw [Prod.mk.injEq] at hj <;> omega
theorem lvl (T : Tr n es D) {v x y : Nat} (hv : v < n) (h : adj es x y) : D v x + 1 = D v y ∨ D v y + 1 = D v x := by
 obtain ⟨i, hi⟩ := adj_idx h
 have hil : i < es.length := by rcases hi with hi | hi <;> exact (List.getElem?_eq_some_iff.1 hi).1
 obtain ⟨w, _, _, ⟨u, hu, hp, e⟩, _⟩ := T.t1 hv hil
 rcases hi with hi | hi <;> rcases hp with hp | hp <;> rw [hi] at hp <;> injection hp with hp <;> rw [Prod.mk.injEq] at hp
 ·have h1 : x = u := by omega
  have h2 : y = w := by omega
  subst h1; subst h2; exact .inl e
 ·have h1 : x = w := by omega
  have h2 : y = u := by omega
  subst h1; subst h2; exact .inr e
 ·have h1 : y = u := by omega
  have h2 : x = w := by omega
  subst h1; subst h2; exact .inr e
 ·have h1 : y = w := by omega
  have h2 : x = u := by omega
  subst h1; subst h2; exact .inl e
theorem nodup (T : Tr n es D) : es.Nodup := by
 rw [List.nodup_iff_pairwise_ne, List.pairwise_iff_getElem]
 intro i j hi hj hij e
 have h0 : 0 < n := by have := T.cnt; omega
 obtain ⟨w, _, _, ⟨u, hu, hp, e1⟩, hall⟩ := T.t1 (v := 0) h0 hj
 have : i = j := hall i ⟨u, hu, by rw [List.getElem?_eq_getElem hi, e, ← List.getElem?_eq_getElem hj]; exact hp, e1⟩
 omega
def Cv (n : Nat) (es : List Pr) (D : Nat → Nat → Nat) (S : Nat → Prop) : Prop := ∀ v w, S v → S w → w ≠ v → ∀ u, adj es u w → D v u + 1 = D v w → S u
def Leaf (es : List Pr) (S : Nat → Prop) (v : Nat) : Prop := S v ∧ ∀ u u', adj es u v → adj es u' v → S u → S u' → u = u'
def Inner (es : List Pr) (S : Nat → Prop) (v : Nat) : Prop := S v ∧ ¬ Leaf es S v
theorem closer (T : Tr n es D) {S : Nat → Prop} (hs : ∀ v, S v → v < n) (hc : Cv n es D S) {v w : Nat} (hv : S v) (hw : S w) (hne : w ≠ v) : ∃ u, S u ∧ adj es u w ∧ D v u + 1 = D v w := by
 obtain ⟨u, _, ha, e⟩ := T.pre v w (hs v hv) (hs w hw) (Ne.symm hne)
 exact ⟨u, hc v w hv hw hne u ha e, ha, e⟩
theorem nb_inner (T : Tr n es D) {S : Nat → Prop} (hs : ∀ v, S v → v < n) (hc : Cv n es D S) (h3 : ∀ x y, ∃ z, S z ∧ z ≠ x ∧ z ≠ y) {w u : Nat} (hw : Leaf es S w) (hu : S u) (ha : adj es u w) : Inner es S u := by
 refine ⟨hu, fun L => ?_⟩
 obtain ⟨x, hx, hxw, hxu⟩ := h3 w u
 obtain ⟨u1, s1, a1, e1⟩ := T.closer hs hc hx hu (Ne.symm hxu)
 have h1 : u1 = w := L.2 u1 w a1 ha.symm s1 hw.1
 subst h1
 obtain ⟨w1, s2, a2, e2⟩ := T.closer hs hc hx hw.1 (Ne.symm hxw)
 have h2 : w1 = u := hw.2 w1 u a2 ha s2 hu
 subst h2
 omega
theorem cv_next (T : Tr n es D) {S : Nat → Prop} (hs : ∀ v, S v → v < n) (hc : Cv n es D S) : Cv n es D (Inner es S) := by
 intro v w hv hw hne u ha e
 have hu := hc v w hv.1 hw.1 hne u ha e
 refine ⟨hu, fun L => ?_⟩
 by_cases q : u = v
 ·subst q; exact hv.2 L
 ·obtain ⟨u', s', a', e'⟩ := T.closer hs hc hv.1 hu q
  have := L.2 u' w a' ha.symm s' hw.1
  subst this; omega
def IsMax (D : Nat → Nat → Nat) (S : Nat → Prop) (v m : Nat) : Prop := (∀ w, S w → D v w ≤ m) ∧ ∃ w, S w ∧ D v w = m
theorem IsMax.uniq {S : Nat → Prop} {v a b : Nat} (h : IsMax D S v a) (g : IsMax D S v b) : a = b := by
 obtain ⟨h1, x, hx, e1⟩ := h
 obtain ⟨g1, y, hy, e2⟩ := g
 have := h1 y hy; have := g1 x hx; omega
theorem max_ex {S : Nat → Prop} (hs : ∀ v, S v → v < n) (hne : ∃ v, S v) (v : Nat) : ∃ m, IsMax D S v m := by
 have key : ∀ k, k ≤ n → (∃ w, w < k ∧ S w) → ∃ m, (∀ w, w < k → S w → D v w ≤ m) ∧ ∃ w, w < k ∧ S w ∧ D v w = m := by
  intro k
  induction k with
  | zero => rintro _ ⟨w, h, _⟩; omega
  | succ k ih =>
   rintro hk ⟨w, hw, sw⟩
   by_cases q : ∃ w, w < k ∧ S w
   ·obtain ⟨m, h1, x, hx, sx, e⟩ := ih (by omega) q
    by_cases r : S k ∧ m < D v k
    ·exact ⟨D v k, fun y hy sy => by
      by_cases e' : y = k
      ·subst e'; omega
      ·have := h1 y (by omega) sy; omega, k, by omega, r.1, rfl⟩
    ·exact ⟨m, fun y hy sy => by
      by_cases e' : y = k
      ·subst e'; exact Nat.not_lt.1 fun h => r ⟨sy, h⟩
      ·exact h1 y (by omega) sy, x, by omega, sx, e⟩
   ·have e : w = k := by
     by_cases e : w = k
     ·exact e
     ·exact absurd ⟨w, by omega, sw⟩ q
    subst e
    exact ⟨D v w, fun y hy sy => by
     by_cases e' : y = w
     ·subst e'; exact Nat.le_refl _
     ·exact absurd ⟨y, by omega, sy⟩ q, w, by omega, sw, rfl⟩
 obtain ⟨w, sw⟩ := hne
 obtain ⟨m, h1, x, hx, sx, e⟩ := key n (Nat.le_refl _) ⟨w, hs w sw, sw⟩
 exact ⟨m, fun y sy => h1 y (hs y sy) sy, x, sx, e⟩
theorem max_inner (T : Tr n es D) {S : Nat → Prop} (hs : ∀ v, S v → v < n) (hc : Cv n es D S) (h3 : ∀ x y, ∃ z, S z ∧ z ≠ x ∧ z ≠ y) {v m : Nat} (hv : Inner es S v) (hm : IsMax D (Inner es S) v m) : IsMax D S v (m + 1) := by
 have hvn := hs v hv.1
 refine ⟨fun w hw => ?_, ?_⟩
 ·by_cases q : Inner es S w
  ·have := hm.1 w q; omega
  ·have hL : Leaf es S w := Classical.byContradiction fun h => q ⟨hw, h⟩
   have hne : w ≠ v := fun e => by subst e; exact hv.2 hL
   obtain ⟨u, su, ha, e⟩ := T.closer hs hc hv.1 hw hne
   have := hm.1 u (T.nb_inner hs hc h3 hL su ha)
   omega
 ·obtain ⟨x, hx, e⟩ := hm.2
  have two : ∃ a b, adj es a x ∧ adj es b x ∧ S a ∧ S b ∧ a ≠ b := by
   refine Classical.byContradiction fun hno => hx.2 ⟨hx.1, fun a b ha hb sa sb => ?_⟩
   exact Classical.byContradiction fun hne => hno ⟨a, b, ha, hb, sa, sb, hne⟩
  obtain ⟨a, b, ha, hb, sa, sb, hab⟩ := two
  rcases T.lvl hvn ha with q1 | q1
  ·rcases T.lvl hvn hb with q2 | q2
   ·exact absurd (T.par_uniq hvn ha hb q1 q2) hab
   ·exact ⟨b, sb, by omega⟩
  ·exact ⟨a, sa, by omega⟩
theorem max_leaf (T : Tr n es D) {S : Nat → Prop} (hs : ∀ v, S v → v < n) (hc : Cv n es D S) (h3 : ∀ x y, ∃ z, S z ∧ z ≠ x ∧ z ≠ y) {v u m : Nat} (hv : Leaf es S v) (hu : S u) (ha : adj es u v) (hm : IsMax D S u m) : IsMax D S v (m + 1) := by
 have hvn := hs v hv.1
 have hun := hs u hu
 have key : ∀ w, S w → w ≠ v → D v w = D u w + 1 := fun w hw hne => by
  obtain ⟨u', su, ha', e⟩ := T.closer hs hc hw hv.1 (Ne.symm hne)
  have := hv.2 u' u ha' ha su hu
  subst this
  rw [T.symm hvn (hs w hw), T.symm (hs u' su) (hs w hw)]; omega
 refine ⟨fun w hw => ?_, ?_⟩
 ·by_cases e : w = v
  ·subst e; rw [T.z w hvn]; omega
  ·rw [key w hw e]; have := hm.1 w hw; omega
 ·obtain ⟨w, hw, e⟩ := hm.2
  by_cases q : w = v
  ·subst q
   obtain ⟨x, hx, hxu, hxw⟩ := h3 u w
   have h1 : D u x ≤ m := hm.1 x hx
   have h2 : D u w ≤ 1 := by have := T.tri u u w hun ha; rw [T.z u hun] at this; omega
   have h0 : D u x ≠ 0 := fun h => hxu (T.z' u x hun (hs x hx) h).symm
   exact ⟨x, hx, by rw [key x hx hxw]; omega⟩
  ·exact ⟨w, hw, by rw [key w hw q, e]⟩
structure PeelI (n : Nat) (es : List Pr) (D : Nat → Nat → Nat) (S : Nat → Prop) (k : Nat) : Prop where
 sub : ∀ v, S v → v < n
 ne : ∃ v, S v
 cv : Cv n es D S
 ecc : ∀ v m, S v → IsMax D S v m → IsMax D (· < n) v (m + k)
 out : ∀ v, v < n → ¬ S v → ∃ u, S u ∧ ∀ a b, IsMax D (· < n) u a → IsMax D (· < n) v b → a < b
theorem PeelI.start (T : Tr n es D) : PeelI n es D (· < n) 0 :=
 ⟨fun _ h => h, ⟨0, by have := T.cnt; omega⟩, fun v w _ _ _ u ha _ => (ha.lt T.rng).1, fun v m _ h => h, fun v h h' => absurd h h'⟩
theorem PeelI.next (T : Tr n es D) {S : Nat → Prop} {k : Nat} (P : PeelI n es D S k) (h3 : ∀ x y, ∃ z, S z ∧ z ≠ x ∧ z ≠ y) : PeelI n es D (Inner es S) (k + 1) := by
 have down : ∀ v, S v → Leaf es S v → ∃ u, Inner es S u ∧ ∀ a b, IsMax D (· < n) u a → IsMax D (· < n) v b → a < b := fun v hv hL => by
  obtain ⟨x, hx, hxv, _⟩ := h3 v v
  obtain ⟨u, su, ha, _⟩ := T.closer P.sub P.cv hx hv (Ne.symm hxv)
  refine ⟨u, T.nb_inner P.sub P.cv h3 hL su ha, fun a b h1 h2 => ?_⟩
  obtain ⟨m, hm⟩ := max_ex (D := D) P.sub P.ne u
  have e1 := (P.ecc u m su hm).uniq h1
  have e2 := (P.ecc v (m + 1) hv (T.max_leaf P.sub P.cv h3 hL su ha hm)).uniq h2
  omega
 refine ⟨fun v h => P.sub v h.1, ?_, T.cv_next P.sub P.cv, fun v m hv hm => ?_, fun v hv hn => ?_⟩
 ·obtain ⟨v, hv⟩ := P.ne
  by_cases q : Inner es S v
  ·exact ⟨v, q⟩
  ·obtain ⟨u, hu, _⟩ := down v hv (Classical.byContradiction fun h => q ⟨hv, h⟩)
   exact ⟨u, hu⟩
 ·have := P.ecc v (m + 1) hv.1 (T.max_inner P.sub P.cv h3 hv hm)
  rwa [show m + 1 + k = m + (k + 1) by omega] at this
 ·by_cases q : S v
  ·exact down v q (Classical.byContradiction fun h => hn ⟨q, h⟩)
  ·obtain ⟨u, su, h⟩ := P.out v hv q
   by_cases r : Inner es S u
   ·exact ⟨u, r, h⟩
   ·obtain ⟨u', su', h'⟩ := down u su (Classical.byContradiction fun h => r ⟨su, h⟩)
    refine ⟨u', su', fun a b h1 h2 => ?_⟩
    obtain ⟨m, hm⟩ := max_ex (D := D) (S := (· < n)) (fun _ h => h) ⟨v, hv⟩ u
    have := h m b hm h2
    have := h' a m h1 hm
    omega
theorem PeelI.one (_ : Tr n es D) {S : Nat → Prop} {k : Nat} (P : PeelI n es D S k) {c : Nat} (hS : ∀ v, S v ↔ v = c) : c < n ∧ ∀ v, v < n → v ≠ c → ∀ a b, IsMax D (· < n) c a → IsMax D (· < n) v b → a < b := by
 refine ⟨P.sub c ((hS c).2 rfl), fun v hv hne a b h1 h2 => ?_⟩
 obtain ⟨u, su, h⟩ := P.out v hv (fun h => hne ((hS v).1 h))
 rw [(hS u).1 su] at h
 exact h a b h1 h2
end Tr
end Go.Fw
