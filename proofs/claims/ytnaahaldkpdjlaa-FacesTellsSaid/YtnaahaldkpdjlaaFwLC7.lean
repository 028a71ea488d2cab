/- A text of the proof. -/
import Derived.Test.YtnaahaldkpdjlaaFwLZ11
import Derived.Test.YtnaahaldkpdjlaaFwLB8
import Derived.Test.YtnaahaldkpdjlaaFwFrame
set_option linter.unusedSimpArgs false
set_option linter.unusedVariables false
namespace Go.Fw
set_option maxRecDepth 10000
attribute [local instance] Classical.propDecidable
structure Ds (n : Nat) (es : List Pr) (D : Nat → Nat → Nat) : Prop where
 rng : InR n es
 z : ∀ v, v < n → D v v = 0
 z' : ∀ v w, v < n → w < n → D v w = 0 → v = w
 pre : ∀ v w, v < n → w < n → v ≠ w → ∃ u, u < n ∧ adj es u w ∧ D v u + 1 = D v w
 tri : ∀ v u w, v < n → adj es u w → D v w ≤ D v u + 1
inductive Wk (es : List Pr) : Nat → Nat → Nat → Prop
 | nil (a : Nat) : Wk es a a 0
 | cons {a b c k : Nat} : Wk es a b k → adj es b c → Wk es a c (k + 1)
theorem Wk.trans {es : List Pr} {a b c j k : Nat} (h : Wk es a b j) (g : Wk es b c k) : Wk es a c (j + k) := by
 induction g with
 | nil => exact h
 | cons _ e ih => exact .cons ih e
theorem Wk.rev {es : List Pr} {a b k : Nat} (h : Wk es a b k) : Wk es b a k := by
 induction h with
 | nil => exact .nil _
 | @cons b c k _ e ih => have := (Wk.cons (.nil c) e.symm).trans ih; rwa [Nat.zero_add, Nat.add_comm] at this
namespace Ds
variable {n : Nat} {es : List Pr} {D : Nat → Nat → Nat}
theorem wk_le (d : Ds n es D) {v w k : Nat} (hv : v < n) (h : Wk es v w k) : D v w ≤ k := by
 induction h with
 | nil => rw [d.z v hv]; omega
 | cons _ e ih => have := d.tri v _ _ hv e; omega
theorem wk_ex (d : Ds n es D) {v : Nat} (hv : v < n) : ∀ (k w : Nat), w < n → D v w = k → Wk es v w k
 | 0, w, hw, e => by rw [d.z' v w hv hw e]; exact .nil _
 | k + 1, w, hw, e => by
  have hne : v ≠ w := fun h => by subst h; rw [d.z v hv] at e; omega
  obtain ⟨u, hu, ha, e'⟩ := d.pre v w hv hw hne
  exact .cons (d.wk_ex hv k u hu (by omega)) ha
theorem symm (d : Ds n es D) {v w : Nat} (hv : v < n) (hw : w < n) : D v w = D w v := by
 have h1 := d.wk_le hw (d.wk_ex hv _ w hw rfl).rev
 have h2 := d.wk_le hv (d.wk_ex hw _ v hv rfl).rev
 omega
end Ds
structure Tr (n : Nat) (es : List Pr) (D : Nat → Nat → Nat) : Prop extends Ds n es D where
 cnt : es.length + 1 = n
def Pa (n : Nat) (es : List Pr) (D : Nat → Nat → Nat) (v w i : Nat) : Prop := ∃ u, u < n ∧ (es[i]? = some ((u : Int), (w : Int)) ∨ es[i]? = some ((w : Int), (u : Int))) ∧ D v u + 1 = D v w
namespace Tr
variable {n : Nat} {es : List Pr} {D : Nat → Nat → Nat}
theorem adj_idx {u w : Nat} (h : adj es u w) : ∃ i : Nat, es[i]? = some ((u : Int), (w : Int)) ∨ es[i]? = some ((w : Int), (u : Int)) := by
 rcases h with h | h
 ·obtain ⟨i, hi⟩ := List.mem_iff_getElem?.1 h; exact ⟨i, .inl hi⟩
 ·obtain ⟨i, hi⟩ := List.mem_iff_getElem?.1 h; exact ⟨i, .inr hi⟩
theorem pa_ex (T : Tr n es D) {v w : Nat} (hv : v < n) (hw : w < n) (h : v ≠ w) : ∃ i, i < es.length ∧ Pa n es D v w i := by
 obtain ⟨u, hu, ha, e⟩ := T.pre v w hv hw h
 obtain ⟨i, hi⟩ := adj_idx ha
 refine ⟨i, ?_, u, hu, hi, e⟩
 rcases hi with hi | hi <;> exact (List.getElem?_eq_some_iff.1 hi).1
theorem pa_far {v w w' i : Nat} (h : Pa n es D v w i) (h' : Pa n es D v w' i) : w = w' := by
 obtain ⟨u, _, hi, e⟩ := h
 obtain ⟨u', _, hi', e'⟩ := h'
 rcases hi with hi | hi <;> rcases hi' with hi' | hi' <;> rw [hi] at hi' <;> injection hi' with hi' <;> rw [Prod.mk.injEq] at hi'
 ·omega
 ·obtain ⟨a, b⟩ := hi'
  have h1 : u = w' := by omega
  have h2 : w = u' := by omega
  subst h1; subst h2; omega
 ·obtain ⟨a, b⟩ := hi'
  have h1 : w = u' := by omega
  have h2 : u = w' := by omega
  subst h1; subst h2; omega
 ·omega
theorem t1 (T : Tr n es D) {v j : Nat} (hv : v < n) (hj : j < es.length) : ∃ w, w < n ∧ w ≠ v ∧ Pa n es D v w j ∧ ∀ i, Pa n es D v w i → i = j := by
 refine Classical.byContradiction fun hno => ?_
 have hall : ∀ w, w < n → w ≠ v → ∃ i, i < es.length ∧ i ≠ j ∧ Pa n es D v w i := fun w hw hne => by
  refine Classical.byContradiction fun hc => hno ⟨w, hw, hne, ?_, ?_⟩
  ·obtain ⟨i, hi, hp⟩ := T.pa_ex hv hw (Ne.symm hne)
   by_cases e : i = j
   ·subst e; exact hp
   ·exact absurd ⟨i, hi, e, hp⟩ hc
  ·intro i hp
   refine Classical.byContradiction fun e => hc ⟨i, ?_, e, hp⟩
   obtain ⟨u, _, hi | hi, _⟩ := hp <;> exact (List.getElem?_eq_some_iff.1 hi).1
 have := choice_le' (A := (List.range n).erase v) (B := (List.range es.length).erase j) (R := fun w i => Pa n es D v w i) (List.nodup_range.erase v) (fun w hw => by
  rw [List.nodup_range.mem_erase_iff] at hw
  obtain ⟨i, hi, hne, hp⟩ := hall w (List.mem_range.1 hw.2) hw.1
  exact ⟨i, by rw [List.nodup_range.mem_erase_iff]; exact ⟨hne, List.mem_range.2 hi⟩, hp⟩) (fun a _ a' _ i h1 h2 => pa_far h1 h2)
 rw [List.length_erase_of_mem (List.mem_range.2 hv), List.length_erase_of_mem (List.mem_range.2 hj), List.length_range, List.length_range] at this
 have := T.cnt
 omega
theorem pa_lt {v w i : Nat} (h : Pa n es D v w i) : i < es.length := by
 obtain ⟨u, _, hi | hi, _⟩ := h <;> exact (List.getElem?_eq_some_iff.1 hi).1
theorem uniq (T : Tr n es D) {v w i j : Nat} (hv : v < n) (hi : Pa n es D v w i) (hj : Pa n es D v w j) : i = j := by
 obtain ⟨w', _, _, hp, hall⟩ := T.t1 hv (pa_lt hj)
 have := pa_far hp hj
 subst this
 exact hall i hi
theorem par_uniq (T : Tr n es D) {v w u u' : Nat} (hv : v < n) (h1 : adj es u w) (h2 : adj es u' w) (e1 : D v u + 1 = D v w) (e2 : D v u' + 1 = D v w) : u = u' := by
 obtain ⟨i, hi⟩ := adj_idx h1
 obtain ⟨j, hj⟩ := adj_idx h2
 have := T.uniq hv (i := i) (j := j) ⟨u, (h1.lt T.rng).1, hi, e1⟩ ⟨u', (h2.lt T.rng).1, hj, e2⟩
 subst this
 have hne : u ≠ w := fun e => by subst e; omega
 rcases hi with hi | hi <;> rcases hj with hj | hj <;> rw [hi] at hj <;> injection hj with hj <;> rw [Prod.mk.injEq] at hj <;> omega
theorem lvl (T : Tr n es D) {v x y : Nat} (hv : v < n) (h : adj es x y) : D v x + 1 = D v y ∨ D v y + 1 = D v x := by
 obtain ⟨i, hi⟩ := adj_idx h
 have hil : i < es.length := by rcases hi with hi | hi <;> exact (List.getElem?_eq_some_iff.1 hi).1
 obtain ⟨w, _, _, ⟨u, hu, hp, e⟩, _⟩ := T.t1 hv hil
 rcases hi with hi | hi <;> rcases hp with hp | hp <;> rw [hi] at hp <;> injection hp with hp <;> rw [Prod.mk.injEq] at hp
 ·have h1 : x = u := by omega
  have h2 : y = w := by omega
  subst h1; subst h2; exact .inl e
 ·have h1 : x = w := by omega
  have h2 : y = u := by omega
  subst h1; subst h2; exact .inr e
 ·have h1 : y = u := by omega
  have h2 : x = w := by omega
  subst h1; subst h2; exact .inr e
 ·have h1 : y = w := by omega
  have h2 : x = u := by omega
  subst h1; subst h2; exact .inl e
theorem nodup (T : Tr n es D) : es.Nodup := by
 rw [List.nodup_iff_pairwise_ne, List.pairwise_iff_getElem]
 intro i j hi hj hij e
 have h0 : 0 < n := by have := T.cnt; omega
 obtain ⟨w, _, _, ⟨u, hu, hp, e1⟩, hall⟩ := T.t1 (v := 0) h0 hj
 have : i = j := hall i ⟨u, hu, by rw [List.getElem?_eq_getElem hi, e, ← List.getElem?_eq_getElem hj]; exact hp, e1⟩
 omega
def Cv (n : Nat) (es : List Pr) (D : Nat → Nat → Nat) (S : Nat → Prop) : Prop := ∀ v w, S v → S w → w ≠ v → ∀ u, adj es u w → D v u + 1 = D v w → S u
def Leaf (es : List Pr) (S : Nat → Prop) (v : Nat) : Prop := S v ∧ ∀ u u', adj es u v → adj es u' v → S u → S u' → u = u'
def Inner (es : List Pr) (S : Nat → Prop) (v : Nat) : Prop := S v ∧ ¬ Leaf es S v
theorem closer (T : Tr n es D) {S : Nat → Prop} (hs : ∀ v, S v → v < n) (hc : Cv n es D S) {v w : Nat} (hv : S v) (hw : S w) (hne : w ≠ v) : ∃ u, S u ∧ adj es u w ∧ D v u + 1 = D v w := by
 obtain ⟨u, _, ha, e⟩ := T.pre v w (hs v hv) (hs w hw) (Ne.symm hne)
 exact ⟨u, hc v w hv hw hne u ha e, ha, e⟩
theorem nb_inner (T : Tr n es D) {S : Nat → Prop} (hs : ∀ v, S v → v < n) (hc : Cv n es D S) (h3 : ∀ x y, ∃ z, S z ∧ z ≠ x ∧ z ≠ y) {w u : Nat} (hw : Leaf es S w) (hu : S u) (ha : adj es u w) : Inner es S u := by
 refine ⟨hu, fun L => ?_⟩
 obtain ⟨x, hx, hxw, hxu⟩ := h3 w u
 obtain ⟨u1, s1, a1, e1⟩ := T.closer hs hc hx hu (Ne.symm hxu)
 have h1 : u1 = w := L.2 u1 w a1 ha.symm s1 hw.1
 subst h1
 obtain ⟨w1, s2, a2, e2⟩ := T.closer hs hc hx hw.1 (Ne.symm hxw)
 have h2 : w1 = u := hw.2 w1 u a2 ha s2 hu
 subst h2
 omega
theorem cv_next (T : Tr n es D) {S : Nat → Prop} (hs : ∀ v, S v → v < n) (hc : Cv n es D S) : Cv n es D (Inner es S) := by
 intro v w hv hw hne u ha e
 have hu := hc v w hv.1 hw.1 hne u ha e
 refine ⟨hu, fun L => ?_⟩
 by_cases q : u = v
 ·subst q; exact hv.2 L
 ·obtain ⟨u', s', a', e'⟩ := T.closer hs hc hv.1 hu q
  have := L.2 u' w a' ha.symm s' hw.1
  subst this; omega
def IsMax (D : Nat → Nat → Nat) (S : Nat → Prop) (v m : Nat) : Prop := (∀ w, S w → D v w ≤ m) ∧ ∃ w, S w ∧ D v w = m
theorem IsMax.uniq {S : Nat → Prop} {v a b : Nat} (h : IsMax D S v a) (g : IsMax D S v b) : a = b := by
 obtain ⟨h1, x, hx, e1⟩ := h
 obtain ⟨g1, y, hy, e2⟩ := g
 have := h1 y hy; have := g1 x hx; omega
theorem max_ex {S : Nat → Prop} (hs : ∀ v, S v → v < n) (hne : ∃ v, S v) (v : Nat) : ∃ m, IsMax D S v m := by
 have key : ∀ k, k ≤ n → (∃ w, w < k ∧ S w) → ∃ m, (∀ w, w < k → S w → D v w ≤ m) ∧ ∃ w, w < k ∧ S w ∧ D v w = m := by
  intro k
  induction k with
  | zero => rintro _ ⟨w, h, _⟩; omega
  | succ k ih =>
   rintro hk ⟨w, hw, sw⟩
   by_cases q : ∃ w, w < k ∧ S w
   ·obtain ⟨m, h1, x, hx, sx, e⟩ := ih (by omega) q
    by_cases r : S k ∧ m < D v k
    ·exact ⟨D v k, fun y hy sy => by
      by_cases e' : y = k
      ·subst e'; omega
      ·have := h1 y (by omega) sy; omega, k, by omega, r.1, rfl⟩
    ·exact ⟨m, fun y hy sy => by
      by_cases e' : y = k
      ·subst e'; exact Nat.not_lt.1 fun h => r ⟨sy, h⟩
      ·exact h1 y (by omega) sy, x, by omega, sx, e⟩
   ·have e : w = k := by
     by_cases e : w = k
     ·exact e
     ·exact absurd ⟨w, by omega, sw⟩ q
    subst e
    exact ⟨D v w, fun y hy sy => by
     by_cases e' : y = w
     ·subst e'; exact Nat.le_refl _
     ·exact absurd ⟨y, by omega, sy⟩ q, w, by omega, sw, rfl⟩
 obtain ⟨w, sw⟩ := hne
 obtain ⟨m, h1, x, hx, sx, e⟩ := key n (Nat.le_refl _) ⟨w, hs w sw, sw⟩
 exact ⟨m, fun y sy => h1 y (hs y sy) sy, x, sx, e⟩
theorem max_inner (T : Tr n es D) {S : Nat → Prop} (hs : ∀ v, S v → v < n) (hc : Cv n es D S) (h3 : ∀ x y, ∃ z, S z ∧ z ≠ x ∧ z ≠ y) {v m : Nat} (hv : Inner es S v) (hm : IsMax D (Inner es S) v m) : IsMax D S v (m + 1) := by
 have hvn := hs v hv.1
 refine ⟨fun w hw => ?_, ?_⟩
 ·by_cases q : Inner es S w
  ·have := hm.1 w q; omega
  ·have hL : Leaf es S w := Classical.byContradiction fun h => q ⟨hw, h⟩
   have hne : w ≠ v := fun e => by subst e; exact hv.2 hL
   obtain ⟨u, su, ha, e⟩ := T.closer hs hc hv.1 hw hne
   have := hm.1 u (T.nb_inner hs hc h3 hL su ha)
   omega
 ·obtain ⟨x, hx, e⟩ := hm.2
  have two : ∃ a b, adj es a x ∧ adj es b x ∧ S a ∧ S b ∧ a ≠ b := by
   refine Classical.byContradiction fun hno => hx.2 ⟨hx.1, fun a b ha hb sa sb => ?_⟩
   exact Classical.byContradiction fun hne => hno ⟨a, b, ha, hb, sa, sb, hne⟩
  obtain ⟨a, b, ha, hb, sa, sb, hab⟩ := two
  rcases T.lvl hvn ha with q1 | q1
  ·rcases T.lvl hvn hb with q2 | q2
   ·exact absurd (T.par_uniq hvn ha hb q1 q2) hab
   ·exact ⟨b, sb, by omega⟩
  ·exact ⟨a, sa, by omega⟩
theorem max_leaf (T : Tr n es D) {S : Nat → Prop} (hs : ∀ v, S v → v < n) (hc : Cv n es D S) (h3 : ∀ x y, ∃ z, S z ∧ z ≠ x ∧ z ≠ y) {v u m : Nat} (hv : Leaf es S v) (hu : S u) (ha : adj es u v) (hm : IsMax D S u m) : IsMax D S v (m + 1) := by
 have hvn := hs v hv.1
 have hun := hs u hu
 have key : ∀ w, S w → w ≠ v → D v w = D u w + 1 := fun w hw hne => by
  obtain ⟨u', su, ha', e⟩ := T.closer hs hc hw hv.1 (Ne.symm hne)
  have := hv.2 u' u ha' ha su hu
  subst this
  rw [T.symm hvn (hs w hw), T.symm (hs u' su) (hs w hw)]; omega
 refine ⟨fun w hw => ?_, ?_⟩
 ·by_cases e : w = v
  ·subst e; rw [T.z w hvn]; omega
  ·rw [key w hw e]; have := hm.1 w hw; omega
 ·obtain ⟨w, hw, e⟩ := hm.2
  by_cases q : w = v
  ·subst q
   obtain ⟨x, hx, hxu, hxw⟩ := h3 u w
   have h1 : D u x ≤ m := hm.1 x hx
   have h2 : D u w ≤ 1 := by have := T.tri u u w hun ha; rw [T.z u hun] at this; omega
   have h0 : D u x ≠ 0 := fun h => hxu (T.z' u x hun (hs x hx) h).symm
   exact ⟨x, hx, by rw [key x hx hxw]; omega⟩
  ·exact ⟨w, hw, by rw [key w hw q, e]⟩
structure PeelI (n : Nat) (es : List Pr) (D : Nat → Nat → Nat) (S : Nat → Prop) (k : Nat) : Prop where
 sub : ∀ v, S v → v < n
 ne : ∃ v, S v
 cv : Cv n es D S
 ecc : ∀ v m, S v → IsMax D S v m → IsMax D (· < n) v (m + k)
 out : ∀ v, v < n → ¬ S v → ∃ u, S u ∧ ∀ a b, IsMax D (· < n) u a → IsMax D (· < n) v b → a < b
theorem PeelI.start (T : Tr n es D) : PeelI n es D (· < n) 0 :=
 ⟨fun _ h => h, ⟨0, by have := T.cnt; omega⟩, fun v w _ _ _ u ha _ => (ha.lt T.rng).1, fun v m _ h => h, fun v h h' => absurd h h'⟩
theorem PeelI.next (T : Tr n es D) {S : Nat → Prop} {k : Nat} (P : PeelI n es D S k) (h3 : ∀ x y, ∃ z, S z ∧ z ≠ x ∧ z ≠ y) : PeelI n es D (Inner es S) (k + 1) := by
 have down : ∀ v, S v → Leaf es S v → ∃ u, Inner es S u ∧ ∀ a b, IsMax D (· < n) u a → IsMax D (· < n) v b → a < b := fun v hv hL => by
  obtain ⟨x, hx, hxv, _⟩ := h3 v v
  obtain ⟨u, su, ha, _⟩ := T.closer P.sub P.cv hx hv (Ne.symm hxv)
  refine ⟨u, T.nb_inner P.sub P.cv h3 hL su ha, fun a b h1 h2 => ?_⟩
  obtain ⟨m, hm⟩ := max_ex (D := D) P.sub P.ne u
  have e1 := (P.ecc u m su hm).uniq h1
  have e2 := (P.ecc v (m + 1) hv (T.max_leaf P.sub P.cv h3 hL su ha hm)).uniq h2
  omega
 refine ⟨fun v h => P.sub v h.1, ?_, T.cv_next P.sub P.cv, fun v m hv hm => ?_, fun v hv hn => ?_⟩
 ·obtain ⟨v, hv⟩ := P.ne
  by_cases q : Inner es S v
  ·exact ⟨v, q⟩
  ·obtain ⟨u, hu, _⟩ := down v hv (Classical.byContradiction fun h => q ⟨hv, h⟩)
   exact ⟨u, hu⟩
 ·have := P.ecc v (m + 1) hv.1 (T.max_inner P.sub P.cv h3 hv hm)
  rwa [show m + 1 + k = m + (k + 1) by omega] at this
 ·by_cases q : S v
  ·exact down v q (Classical.byContradiction fun h => hn ⟨q, h⟩)
  ·obtain ⟨u, su, h⟩ := P.out v hv q
   by_cases r : Inner es S u
   ·exact ⟨u, r, h⟩
   ·obtain ⟨u', su', h'⟩ := down u su (Classical.byContradiction fun h => r ⟨su, h⟩)
    refine ⟨u', su', fun a b h1 h2 => ?_⟩
    obtain ⟨m, hm⟩ := max_ex (D := D) (S := (· < n)) (fun _ h => h) ⟨v, hv⟩ u
    have := h m b hm h2
    have := h' a m h1 hm
    omega
theorem PeelI.one (_ : Tr n es D) {S : Nat → Prop} {k : Nat} (P : PeelI n es D S k) {c : Nat} (hS : ∀ v, S v ↔ v = c) : c < n ∧ ∀ v, v < n → v ≠ c → ∀ a b, IsMax D (· < n) c a → IsMax D (· < n) v b → a < b := by
 refine ⟨P.sub c ((hS c).2 rfl), fun v hv hne a b h1 h2 => ?_⟩
 obtain ⟨u, su, h⟩ := P.out v hv (fun h => hne ((hS v).1 h))
 rw [(hS u).1 su] at h
 exact h a b h1 h2
end Tr
end Go.Fw
namespace Go.Fw
set_option maxRecDepth 10000
attribute [local instance] Classical.propDecidable
structure Lk (b n : Nat) (ls : List Pr) : Prop where
 n0 : n ≠ 0
 len : ls.length + 1 = n
 ok : ∀ p ∈ ls, LinkOK b n p
 con : ∀ v, v < n → Con (edgesU b ls) 0 v
def distM (b n : Nat) (ls : List Pr) (s v : Nat) : Nat := ((awayM b n ls s).getD v 0).toNat
theorem Lk.pos {b n : Nat} {ls : List Pr} (K : Lk b n ls) {s v : Nat} (hs : s < n) (hv : v < n) : 0 ≤ (awayM b n ls s).getD v 0 :=
 ((awayM_far K.ok hs).con (edgesU_in K.ok) hs hv).2 ((K.con s hs).symm.trans (K.con v hv))
theorem Lk.tree {b n : Nat} {ls : List Pr} (K : Lk b n ls) : Tr n (edgesU b ls) (distM b n ls) where
 rng := edgesU_in K.ok
 z := fun v hv => by rw [distM, ((awayM_far K.ok hv).zero v hv).2 rfl]; rfl
 z' := fun v w hv hw e => by
  have := K.pos hv hw
  rw [distM] at e
  exact (((awayM_far K.ok hv).zero w hw).1 (by omega)).symm
 pre := fun v w hv hw hne => by
  have h0 := K.pos hv hw
  have h1 : (awayM b n ls v).getD w 0 ≠ 0 := fun e => hne (((awayM_far K.ok hv).zero w hw).1 e).symm
  obtain ⟨u, hu, ha, e⟩ := (awayM_far K.ok hv).pre w hw (by omega)
  exact ⟨u, hu, ha, by rw [distM, distM, e]; omega⟩
 tri := fun v u w hv ha => by
  have h0 := K.pos hv (ha.lt (edgesU_in K.ok)).1
  have := (awayM_far K.ok hv).tri (edgesU_in K.ok) ha h0
  rw [distM, distM]; omega
 cnt := by rw [edgesU, List.length_map]; exact K.len
theorem good_lk {b n : Nat} {ls : List Pr} : GoodT b n ls ↔ Lk b n ls := by
 constructor
 ·intro G
  refine ⟨G.n0, G.len, G.ok, fun v hv => ?_⟩
  have h0 : 0 < n := by have := G.n0; omega
  refine ((awayM_far G.ok h0).con (edgesU_in G.ok) h0 hv).1 (G.all 0 h0 _ ?_)
  have hl : v < (awayM b n ls 0).length := by rw [awayM, awayK_length]; exact hv
  rw [getD_of hl]; exact List.getElem_mem hl
 ·intro K
  refine ⟨K.n0, K.len, K.ok, ?_, fun s hs x hx => ?_⟩
  ·have := K.tree.nodup
   rw [edgesU] at this
   rw [List.nodup_iff_pairwise_ne] at this ⊢
   rw [List.pairwise_map] at this
   exact this.imp fun h e => h (by rw [e])
  ·obtain ⟨v, hv, e⟩ := List.mem_iff_getElem.1 hx
   have hvn : v < n := by rw [awayM, awayK_length] at hv; exact hv
   have := K.pos hs hvn
   rw [getD_of hv, e] at this; exact this
theorem maxL_all : ∀ (L : List Int) (a : Int), a ≤ L.foldl max a ∧ (∀ x ∈ L, x ≤ L.foldl max a) ∧ (L.foldl max a = a ∨ L.foldl max a ∈ L)
 | [], a => ⟨Int.le_refl _, fun x hx => (by cases hx), .inl rfl⟩
 | y :: L, a => by
  obtain ⟨h1, h2, h3⟩ := maxL_all L (max a y)
  rw [List.foldl_cons]
  refine ⟨by omega, fun x hx => ?_, ?_⟩
  ·rcases List.mem_cons.1 hx with rfl | hx
   ·omega
   ·exact h2 x hx
  ·rcases h3 with h3 | h3
   ·rw [h3]
    rcases Int.le_total a y with q | q
    ·right; rw [Int.max_eq_right q]; simp
    ·left; exact Int.max_eq_left q
   ·right; exact List.mem_cons_of_mem _ h3
theorem Lk.ecc {b n : Nat} {ls : List Pr} (K : Lk b n ls) {s : Nat} (hs : s < n) : 0 ≤ maxL (awayM b n ls s) ∧ Tr.IsMax (distM b n ls) (· < n) s (maxL (awayM b n ls s)).toNat := by
 have hl : (awayM b n ls s).length = n := by rw [awayM, awayK_length]
 obtain ⟨h1, h2, h3⟩ := maxL_all (awayM b n ls s) 0
 rw [show (awayM b n ls s).foldl max 0 = maxL (awayM b n ls s) from rfl] at h1 h2 h3
 refine ⟨h1, fun w hw => ?_, ?_⟩
 ·have hw' : w < (awayM b n ls s).length := by rw [hl]; exact hw
  have := h2 _ (List.getElem_mem hw')
  rw [← getD_of (d := 0) hw'] at this
  rw [distM]; omega
 ·rcases h3 with h3 | h3
  ·exact ⟨s, hs, by rw [K.tree.z s hs, h3]; rfl⟩
  ·obtain ⟨w, hw, e⟩ := List.mem_iff_getElem.1 h3
   exact ⟨w, by rw [hl] at hw; exact hw, by rw [distM, getD_of hw, e]⟩
end Go.Fw
namespace Go.Fw
open Go.Proofs
set_option maxHeartbeats 16000000
set_option maxRecDepth 10000
structure Rows2 (b0 h : AHeap) (L : Nat) (us : List Value) (rows : List (List Int)) (L2 : Nat) (us2 : List Value) (rows2 : List (List Int)) : Prop where
 a : Rows b0 h L us rows
 b : Rows b0 h L2 us2 rows2
 ne : L ≠ L2
 c1 : ∀ (v : Nat) u, us[v]? = some u → blk u ≠ some L2
 c2 : ∀ (v : Nat) u, us2[v]? = some u → blk u ≠ some L
 dis : ∀ (v w : Nat) u u' q, us[v]? = some u → us2[w]? = some u' → blk u = some q → blk u' ≠ some q
theorem Rows2.up {b0 h h' : AHeap} {L L2 : Nat} {us us2 : List Value} {rows rows2 : List (List Int)} (R : Rows2 b0 h L us rows L2 us2 rows2) (e : Le h h') : Rows2 b0 h' L us rows L2 us2 rows2 :=
 ⟨R.a.up e, R.b.up e, R.ne, R.c1, R.c2, R.dis⟩
structure New3 (h h' : AHeap) (A B P : Nat) (x y p : List Value) : Prop where
 le : Le h h'
 wf : WF h'
 oA : h'.own A = some (.cells x)
 oB : h'.own B = some (.cells y)
 oP : h'.own P = some (.cells p)
 nA : h.own A = none
 nB : h.own B = none
 nP : h.own P = none
 ab : A ≠ B
 ap : A ≠ P
 bp : B ≠ P
def al3 (h : AHeap) (a b c : List Value) : AHeap := ((h.alloc (.cells a)).alloc (.cells b)).alloc (.cells c)
theorem al3_own {h : AHeap} {a b c : List Value} : (al3 h a b c).own h.next = some (.cells a) ∧ (al3 h a b c).own (h.next + 1) = some (.cells b) ∧ (al3 h a b c).own (h.next + 1 + 1) = some (.cells c) := by
 simp [al3, own_alloc, next_alloc]
 omega
theorem tsw {t e : TypeId} (ht : Try.prog.underlying t = some (.array 2 e)) (hs : tsize Try.prog t = 2) {h : AHeap} {R : Nat} {x y b c : Value} (ho : h.own R = some (.cells [x, y])) (hb : ∃ a m k, b = .slice a m k ∧ b.oneCell' = true) (hc : ∃ a m k, c = .slice a m k ∧ c.oneCell' = true) :
  aStore Try.prog h t (.pointer (some ⟨R, 0, none⟩)) (.agg #[b, c]) = some (h.put R (.cells [b, c])) := by
 obtain ⟨a1, b1, c1, rfl, o1⟩ := hb
 obtain ⟨a2, b2, c2, rfl, o2⟩ := hc
 have hcs : (Value.agg #[.slice a1 b1 c1, .slice a2 b2 c2]).cells = #[.slice a1 b1 c1, .slice a2 b2 c2] := rfl
 simp [aStore, ho, hcs, hs, putCells, ht, o1, o2]
theorem oneS (A m k : Nat) : (Value.slice (some ⟨A, 0, none⟩) m k).oneCell' = true := rfl
end Go.Fw
namespace Go.Fw
open Go.Proofs
set_option maxHeartbeats 16000000
set_option maxRecDepth 10000
def rB (ls : List Pr) (v : Nat) : List Int := (ls.filter fun p => decide (p.1 = (v : Int))).map (·.2)
def rC (ls : List Pr) (v : Nat) : List Int := (ls.filter fun p => decide (p.2 = (v : Int))).map (·.1)
structure BfsI (b m n : Nat) (E : List Pr) (met : List Nat) (mB mC : List Bool) : Prop where
 lB : mB.length = b
 lC : mC.length = m
 mb : ∀ v, v < b → (mB.getD v false = true ↔ v ∈ met)
 mc : ∀ v, v < m → (mC.getD v false = true ↔ b + v ∈ met)
 nd : met.Nodup
 lt : ∀ v ∈ met, v < n
 con : ∀ v ∈ met, Con E 0 v
 z : 0 ∈ met
theorem BfsI.all {b m n : Nat} {E : List Pr} {met : List Nat} {mB mC : List Bool} (I : BfsI b m n E met mB mC) (hcl : ∀ v ∈ met, ∀ u, adj E v u → u ∈ met) : met.length = n ↔ ∀ v, v < n → Con E 0 v := by
 have hin : ∀ v, Con E 0 v → v ∈ met := fun v h => by
  induction h with
  | refl _ => exact I.z
  | step _ a _ ih => exact hcl _ ih _ a
 constructor
 ·intro hl v hv
  refine I.con v (Classical.byContradiction fun hn => ?_)
  have nd : (v :: met).Nodup := List.nodup_cons.2 ⟨hn, I.nd⟩
  have := nd.length_le_of_subset (l₂ := List.range n) fun x hx => by
   rcases List.mem_cons.1 hx with rfl | hx
   ·exact List.mem_range.2 hv
   ·exact List.mem_range.2 (I.lt x hx)
  simp at this; omega
 ·intro h
  have h1 := I.nd.length_le_of_subset (l₂ := List.range n) fun x hx => List.mem_range.2 (I.lt x hx)
  have h2 := (List.nodup_range (n := n)).length_le_of_subset (l₂ := met) fun x hx => hin x (h x (List.mem_range.1 hx))
  simp at h1 h2; omega
theorem rB_mem {b n : Nat} {ls : List Pr} (h : ∀ p ∈ ls, LinkOK b n p) {v : Nat} {x : Int} : x ∈ rB ls v → ∃ c : Nat, x = (c : Int) ∧ b + c < n ∧ adj (edgesU b ls) v (b + c) := fun hx => by
 rw [rB, List.mem_map] at hx
 obtain ⟨p, hp, rfl⟩ := hx
 rw [List.mem_filter, decide_eq_true_eq] at hp
 have L := linkOK_nat (h p hp.1)
 have ha := link_adj hp.1 (h p hp.1)
 refine ⟨p.2.toNat, L.2.2.2.1, L.2.1, ?_⟩
 rwa [show v = p.1.toNat by omega]
theorem rC_mem {b n : Nat} {ls : List Pr} (h : ∀ p ∈ ls, LinkOK b n p) {v : Nat} {x : Int} : x ∈ rC ls v → ∃ c : Nat, x = (c : Int) ∧ c < b ∧ adj (edgesU b ls) (b + v) c := fun hx => by
 rw [rC, List.mem_map] at hx
 obtain ⟨p, hp, rfl⟩ := hx
 rw [List.mem_filter, decide_eq_true_eq] at hp
 have L := linkOK_nat (h p hp.1)
 have ha := (link_adj hp.1 (h p hp.1)).symm
 refine ⟨p.1.toNat, L.2.2.1, L.2.2.2.2, ?_⟩
 rwa [show b + v = b + p.2.toNat by omega]
theorem adj_rB {b n : Nat} {ls : List Pr} (h : ∀ p ∈ ls, LinkOK b n p) {v u : Nat} (hv : v < b) (ha : adj (edgesU b ls) v u) : b ≤ u ∧ ((u - b : Nat) : Int) ∈ rB ls v := by
 obtain ⟨p, hp, ⟨e1, e2⟩ | ⟨e1, e2⟩⟩ := adj_link h ha
 ·have L := linkOK_nat (h p hp)
  refine ⟨by omega, ?_⟩
  rw [rB, List.mem_map]
  exact ⟨p, List.mem_filter.2 ⟨hp, decide_eq_true (by omega)⟩, by omega⟩
 ·omega
theorem adj_rC {b n : Nat} {ls : List Pr} (h : ∀ p ∈ ls, LinkOK b n p) {v u : Nat} (ha : adj (edgesU b ls) (b + v) u) : u < b ∧ (u : Int) ∈ rC ls v := by
 obtain ⟨p, hp, ⟨e1, e2⟩ | ⟨e1, e2⟩⟩ := adj_link h ha
 ·have L := linkOK_nat (h p hp); omega
 ·have L := linkOK_nat (h p hp)
  refine ⟨by omega, ?_⟩
  rw [rC, List.mem_map]
  exact ⟨p, List.mem_filter.2 ⟨hp, decide_eq_true (by omega)⟩, by omega⟩
end Go.Fw
namespace Go.Fw
open Go.Proofs
attribute [local irreducible] KO4 KO3 KO2 KO1 KO KN KX KE VK KCond KDraw KCall KLoop
set_option maxHeartbeats 16000000
set_option maxRecDepth 10000
theorem st3 {t e : TypeId} (ht : Try.prog.underlying t = some (.array 2 e)) (hs : tsize Try.prog t = 2) {h : AHeap} (c d : List Value) (x y n m : Nat) :
  aStore Try.prog (al3 h [.slice none 0 0, .slice none 0 0] c d) t (.pointer (some ⟨h.next, 0, none⟩)) (.agg #[.slice (some ⟨x, 0, none⟩) n n, .slice (some ⟨y, 0, none⟩) m m]) = some ((al3 h [.slice none 0 0, .slice none 0 0] c d).put h.next (.cells [.slice (some ⟨x, 0, none⟩) n n, .slice (some ⟨y, 0, none⟩) m m])) ∧
  aStore Try.prog (al3 h c [.slice none 0 0, .slice none 0 0] d) t (.pointer (some ⟨h.next + 1, 0, none⟩)) (.agg #[.slice (some ⟨x, 0, none⟩) n n, .slice (some ⟨y, 0, none⟩) m m]) = some ((al3 h c [.slice none 0 0, .slice none 0 0] d).put (h.next + 1) (.cells [.slice (some ⟨x, 0, none⟩) n n, .slice (some ⟨y, 0, none⟩) m m])) ∧
  aStore Try.prog (al3 h c d [.slice none 0 0, .slice none 0 0]) t (.pointer (some ⟨h.next + 1 + 1, 0, none⟩)) (.agg #[.slice (some ⟨x, 0, none⟩) n n, .slice (some ⟨y, 0, none⟩) m m]) = some ((al3 h c d [.slice none 0 0, .slice none 0 0]).put (h.next + 1 + 1) (.cells [.slice (some ⟨x, 0, none⟩) n n, .slice (some ⟨y, 0, none⟩) m m])) :=
 ⟨tsw ht hs al3_own.1 ⟨_, _, _, rfl, oneS x n n⟩ ⟨_, _, _, rfl, oneS y m m⟩, tsw ht hs al3_own.2.1 ⟨_, _, _, rfl, oneS x n n⟩ ⟨_, _, _, rfl, oneS y m m⟩, tsw ht hs al3_own.2.2 ⟨_, _, _, rfl, oneS x n n⟩ ⟨_, _, _, rfl, oneS y m m⟩⟩
end Go.Fw
namespace Go.Fw
set_option maxRecDepth 10000
def nbU (b : Nat) (ls : List Pr) (v : Nat) : List Nat := if v < b then (rB ls v).map fun x => b + x.toNat else (rC ls (v - b)).map fun x => x.toNat
theorem nbU_mem {b n : Nat} {ls : List Pr} (h : ∀ p ∈ ls, LinkOK b n p) {v u : Nat} : u ∈ nbU b ls v ↔ adj (edgesU b ls) v u := by
 unfold nbU
 by_cases hv : v < b
 ·rw [if_pos hv, List.mem_map]
  constructor
  ·rintro ⟨x, hx, rfl⟩
   obtain ⟨c, rfl, _, ha⟩ := rB_mem h hx
   simpa using ha
  ·intro ha
   obtain ⟨h1, h2⟩ := adj_rB h hv ha
   exact ⟨_, h2, by omega⟩
 ·rw [if_neg hv, List.mem_map]
  have e : b + (v - b) = v := by omega
  constructor
  ·rintro ⟨x, hx, rfl⟩
   obtain ⟨c, rfl, _, ha⟩ := rC_mem h hx
   rw [e] at ha; simpa using ha
  ·intro ha
   obtain ⟨h1, h2⟩ := adj_rC h (v := v - b) (u := u) (by rwa [e])
   exact ⟨_, h2, by omega⟩
theorem nbU_nodup {b n : Nat} {ls : List Pr} (h : ∀ p ∈ ls, LinkOK b n p) (hn : ls.Nodup) (v : Nat) : (nbU b ls v).Nodup := by
 have key : ∀ (f : Pr → Int) (g : Pr → Int) (k : Int) (F : Int → Nat), (∀ p ∈ ls, ∀ q ∈ ls, f p = k → f q = k → F (g p) = F (g q) → p = q) → (((ls.filter fun p => decide (f p = k)).map g).map F).Nodup := fun f g k F inj => by
  rw [List.map_map, List.nodup_iff_pairwise_ne, List.pairwise_map]
  refine ((List.nodup_iff_pairwise_ne.1 hn).filter _).imp_of_mem fun {p q} hp hq hne e => ?_
  rw [List.mem_filter, decide_eq_true_eq] at hp hq
  exact hne (inj p hp.1 q hq.1 hp.2 hq.2 e)
 unfold nbU
 split
 ·refine key (·.1) (·.2) _ _ fun p hp q hq e1 e2 e => ?_
  have := linkOK_nat (h p hp); have := linkOK_nat (h q hq)
  exact Prod.ext (by omega) (by omega)
 ·refine key (·.2) (·.1) _ _ fun p hp q hq e1 e2 e => ?_
  have := linkOK_nat (h p hp); have := linkOK_nat (h q hq)
  exact Prod.ext (by omega) (by omega)
theorem len_congr {l l' : List Nat} (h : l.Nodup) (h' : l'.Nodup) (e : ∀ x, x ∈ l ↔ x ∈ l') : l.length = l'.length := by
 have a := h.length_le_of_subset (l₂ := l') fun x hx => (e x).1 hx
 have b := h'.length_le_of_subset (l₂ := l) fun x hx => (e x).2 hx
 omega
section
variable {b n : Nat} {ls : List Pr}
def degD (b : Nat) (ls : List Pr) (done : List Nat) (v : Nat) : Nat := ((nbU b ls v).filter fun u => decide (u ∉ done)).length
structure PlI (b n : Nat) (ls : List Pr) (done lv : List Nat) (c : Nat → Int) (k : Nat) : Prop where
 cnt : ∀ v, v < n → c v = (degD b ls done v : Int)
 dn : done.Nodup
 dlt : ∀ v ∈ done, v < n
 dle : ∀ v ∈ done, c v ≤ 1
 ln : lv.Nodup
 lm : ∀ v, v ∈ lv ↔ v < n ∧ v ∉ done ∧ c v ≤ 1
 peel : Tr.PeelI n (edgesU b ls) (distM b n ls) (fun v => v < n ∧ v ∉ done) k
structure RdI (b n : Nat) (ls : List Pr) (lv : List Nat) (i : Nat) (pre : List Nat) (c0 c : Nat → Int) (inner : List Nat) : Prop where
 cnt : ∀ u, u < n → c u = c0 u - (((lv.take i).filter fun x => decide (u ∈ nbU b ls x)).length : Int) - (if u ∈ pre then 1 else 0)
 nd : inner.Nodup
 mem : ∀ u, u ∈ inner ↔ u < n ∧ 2 ≤ c0 u ∧ c u ≤ 1
theorem RdI.start (lv : List Nat) (c0 : Nat → Int) : RdI b n ls lv 0 [] c0 c0 [] := ⟨fun u _ => by simp, by simp, fun u => by simp; omega⟩
theorem RdI.step {lv : List Nat} {i : Nat} {pre : List Nat} {c0 c : Nat → Int} {inner : List Nat} (R : RdI b n ls lv i pre c0 c inner) {w : Nat} (hw : w < n) (hp : w ∉ pre) {c' : Nat → Int} (hc : ∀ u, u < n → c' u = if u = w then c u - 1 else c u) :
  RdI b n ls lv i (pre ++ [w]) c0 c' (if c' w = 1 then inner ++ [w] else inner) := by
 have hcw := hc w hw
 rw [if_pos rfl] at hcw
 have hle : c w ≤ c0 w := by rw [R.cnt w hw]; split <;> omega
 refine ⟨fun u hu => ?_, ?_, fun u => ?_⟩
 ·rw [hc u hu]
  by_cases e : u = w
  ·subst e
   rw [if_pos rfl, R.cnt u hu, if_neg hp, if_pos (by simp)]; omega
  ·rw [if_neg e, R.cnt u hu]; simp [e]
 ·split
  ·rename_i h1
   rw [List.nodup_append]
   refine ⟨R.nd, by simp, fun a ha d hd e => ?_⟩
   rw [List.mem_singleton] at hd; subst hd; subst e
   have := ((R.mem a).1 ha).2.2; omega
  ·exact R.nd
 ·by_cases e : u = w
  ·subst e
   split
   ·rename_i h1
    rw [List.mem_append]
    constructor
    ·intro _; exact ⟨hw, by omega, by omega⟩
    ·intro _; exact .inr (by simp)
   ·rename_i h1
    rw [R.mem]; constructor
    ·rintro ⟨_, h2, h3⟩; exact ⟨hw, h2, by omega⟩
    ·rintro ⟨_, h2, h3⟩; exact ⟨hw, h2, by omega⟩
  ·have hin : (u ∈ if c' w = 1 then inner ++ [w] else inner) ↔ u ∈ inner := by split <;> simp [e]
   rw [hin, R.mem]
   constructor
   ·rintro ⟨h1, h2, h3⟩; exact ⟨h1, h2, by rw [hc u h1, if_neg e]; exact h3⟩
   ·rintro ⟨h1, h2, h3⟩; exact ⟨h1, h2, by rw [hc u h1, if_neg e] at h3; exact h3⟩
theorem PlI.deg_le {done lv : List Nat} {c : Nat → Int} {k : Nat} (_ : PlI b n ls done lv c k) (lv' : List Nat) (v : Nat) : degD b ls (done ++ lv') v ≤ degD b ls done v := by
 refine List.Sublist.length_le ?_
 have : ((nbU b ls v).filter fun u => decide (u ∉ done ++ lv')) = ((nbU b ls v).filter fun u => decide (u ∉ done)).filter fun u => decide (u ∉ lv') := by
  rw [List.filter_filter]; refine List.filter_congr fun u _ => ?_
  rw [Bool.eq_iff_iff]; simp; exact and_comm
 rw [this]; exact List.filter_sublist
theorem PlI.leaf_iff (K : Lk b n ls) {done lv : List Nat} {c : Nat → Int} {k : Nat} (P : PlI b n ls done lv c k) (v : Nat) : Tr.Leaf (edgesU b ls) (fun v => v < n ∧ v ∉ done) v ↔ v ∈ lv := by
 have hls := (good_lk.2 K).nd
 rw [P.lm]
 have hmem : ∀ u, u ∈ ((nbU b ls v).filter fun u => decide (u ∉ done)) ↔ adj (edgesU b ls) u v ∧ (u < n ∧ u ∉ done) := fun u => by
  rw [List.mem_filter, nbU_mem K.ok, decide_eq_true_eq]
  constructor
  ·rintro ⟨h1, h2⟩; exact ⟨h1.symm, (h1.lt (edgesU_in K.ok)).2, h2⟩
  ·rintro ⟨h1, _, h2⟩; exact ⟨h1.symm, h2⟩
 have hnd : ((nbU b ls v).filter fun u => decide (u ∉ done)).Nodup := (nbU_nodup K.ok hls v).filter _
 constructor
 ·rintro ⟨⟨h1, h2⟩, h3⟩
  refine ⟨h1, h2, ?_⟩
  rw [P.cnt v h1, degD]
  generalize ((nbU b ls v).filter fun u => decide (u ∉ done)) = l at *
  match l, hnd, hmem with
  | [], _, _ => simp
  | [a], _, _ => simp
  | a :: d :: r, hnd, hmem =>
   have ha := (hmem a).1 (by simp)
   have hd := (hmem d).1 (by simp)
   have := h3 a d ha.1 hd.1 ha.2 hd.2
   subst this
   simp at hnd
 ·rintro ⟨h1, h2, h3⟩
  refine ⟨⟨h1, h2⟩, fun u u' a a' s s' => ?_⟩
  rw [P.cnt v h1, degD] at h3
  have m1 := (hmem u).2 ⟨a, s⟩
  have m2 := (hmem u').2 ⟨a', s'⟩
  generalize ((nbU b ls v).filter fun u => decide (u ∉ done)) = l at *
  match l, h3, m1, m2 with
  | [], _, m1, _ => cases m1
  | [x], _, m1, m2 => rw [List.mem_singleton] at m1 m2; rw [m1, m2]
  | _ :: _ :: _, h3, _, _ => simp at h3; omega
theorem PlI.inner_eq (K : Lk b n ls) {done lv : List Nat} {c : Nat → Int} {k : Nat} (P : PlI b n ls done lv c k) : Tr.Inner (edgesU b ls) (fun v => v < n ∧ v ∉ done) = fun v => v < n ∧ v ∉ done ++ lv := by
 funext v
 refine propext ?_
 rw [Tr.Inner, P.leaf_iff K, List.mem_append]
 constructor
 ·rintro ⟨⟨h1, h2⟩, h3⟩; exact ⟨h1, fun h => h.elim h2 h3⟩
 ·rintro ⟨h1, h2⟩; exact ⟨⟨h1, fun h => h2 (.inl h)⟩, fun h => h2 (.inr h)⟩
theorem PlI.left (K : Lk b n ls) {done lv : List Nat} {c : Nat → Int} {k : Nat} (P : PlI b n ls done lv c k) : ((List.range n).filter fun v => decide (v ∉ done)).length + done.length = n ∧ ((List.range n).filter fun v => decide (v ∉ done)).Nodup ∧ ∀ v, v ∈ ((List.range n).filter fun v => decide (v ∉ done)) ↔ v < n ∧ v ∉ done := by
 refine ⟨?_, List.nodup_range.filter _, fun v => by simp⟩
 have h1 := split_len (fun v => decide (v ∉ done)) (List.range n)
 have h2 : ((List.range n).filter fun x => !decide (x ∉ done)).length = done.length := len_congr (List.nodup_range.filter _) P.dn fun v => by
  rw [List.mem_filter, List.mem_range]
  constructor
  ·rintro ⟨_, h⟩; simpa using h
  ·intro h; exact ⟨P.dlt v h, by simpa using h⟩
 rw [List.length_range] at h1
 omega
theorem PlI.three (K : Lk b n ls) {done lv : List Nat} {c : Nat → Int} {k : Nat} (P : PlI b n ls done lv c k) (h : 2 < n - done.length) : ∀ x y, ∃ z, (z < n ∧ z ∉ done) ∧ z ≠ x ∧ z ≠ y := by
 intro x y
 obtain ⟨h1, h2, h3⟩ := P.left K
 refine Classical.byContradiction fun hno => ?_
 have := h2.length_le_of_subset (l₂ := [x, y]) fun z hz => by
  have hs := (h3 z).1 hz
  by_cases e1 : z = x
  ·simp [e1]
  ·by_cases e2 : z = y
   ·simp [e2]
   ·exact absurd ⟨z, hs, e1, e2⟩ hno
 have t2 : ((List.range n).filter fun v => decide (v ∉ done)).length ≤ 2 := this
 omega
theorem PlI.next (K : Lk b n ls) {done lv : List Nat} {c c' : Nat → Int} {k : Nat} {inner : List Nat} (P : PlI b n ls done lv c k) (h : 2 < n - done.length) (R : RdI b n ls lv lv.length [] c c' inner) : PlI b n ls (done ++ lv) inner c' (k + 1) := by
 have hls := (good_lk.2 K).nd
 have hcnt : ∀ v, v < n → c' v = (degD b ls (done ++ lv) v : Int) := fun v hv => by
  rw [R.cnt v hv, P.cnt v hv, List.take_length, if_neg (by simp), degD, degD]
  have hs := split_len (fun u => decide (u ∉ lv)) ((nbU b ls v).filter fun u => decide (u ∉ done))
  have e1 : (((nbU b ls v).filter fun u => decide (u ∉ done)).filter fun u => decide (u ∉ lv)) = (nbU b ls v).filter fun u => decide (u ∉ done ++ lv) := by
   rw [List.filter_filter]; refine List.filter_congr fun u _ => ?_
   rw [Bool.eq_iff_iff]; simp; exact and_comm
  have e2 : (((nbU b ls v).filter fun u => decide (u ∉ done)).filter fun x => !decide (x ∉ lv)).length = (lv.filter fun x => decide (v ∈ nbU b ls x)).length :=
   len_congr (((nbU_nodup K.ok hls v).filter _).filter _) (P.ln.filter _) fun u => by
    rw [List.mem_filter, List.mem_filter, List.mem_filter, nbU_mem K.ok, decide_eq_true_eq, decide_eq_true_eq, nbU_mem K.ok]
    constructor
    ·rintro ⟨⟨h1, _⟩, h3⟩; exact ⟨by simpa using h3, h1.symm⟩
    ·rintro ⟨h1, h2⟩; exact ⟨⟨h2.symm, ((P.lm u).1 h1).2.1⟩, by simpa using h1⟩
  rw [e1, e2] at hs
  omega
 have hle : ∀ v, v < n → c' v ≤ c v := fun v hv => by
  rw [hcnt v hv, P.cnt v hv]
  have := P.deg_le lv v
  omega
 refine ⟨hcnt, ?_, fun v hv => ?_, fun v hv => ?_, R.nd, fun v => ?_, ?_⟩
 ·rw [List.nodup_append]; exact ⟨P.dn, P.ln, fun a ha d hd e => by subst e; exact ((P.lm a).1 hd).2.1 ha⟩
 ·rw [List.mem_append] at hv
  rcases hv with hv | hv
  ·exact P.dlt v hv
  ·exact ((P.lm v).1 hv).1
 ·rw [List.mem_append] at hv
  rcases hv with hv | hv
  ·have := hle v (P.dlt v hv); have := P.dle v hv; omega
  ·have h1 := (P.lm v).1 hv; have := hle v h1.1; omega
 ·rw [R.mem, List.mem_append]
  constructor
  ·rintro ⟨h1, h2, h3⟩
   refine ⟨h1, fun hh => ?_, h3⟩
   rcases hh with hh | hh
   ·have := P.dle v hh; omega
   ·have := ((P.lm v).1 hh).2.2; omega
  ·rintro ⟨h1, h2, h3⟩
   refine ⟨h1, ?_, h3⟩
   have hnd : v ∉ done := fun h => h2 (.inl h)
   have hnl : v ∉ lv := fun h => h2 (.inr h)
   rw [P.lm] at hnl
   have : ¬ c v ≤ 1 := fun h => hnl ⟨h1, hnd, h⟩
   omega
 ·rw [← P.inner_eq K]; exact P.peel.next K.tree (P.three K h)
theorem PlI.start (K : Lk b n ls) {lv : List Nat} {c : Nat → Int} (hc : ∀ v, v < n → c v = ((nbU b ls v).length : Int)) (hn : lv.Nodup) (hm : ∀ v, v ∈ lv ↔ v < n ∧ c v ≤ 1) : PlI b n ls [] lv c 0 := by
 refine ⟨fun v hv => by rw [hc v hv, degD, List.filter_eq_self.2 (fun _ _ => by simp)], by simp, by simp, by simp, hn, fun v => by rw [hm]; simp, ?_⟩
 have : (fun v => v < n ∧ v ∉ ([] : List Nat)) = (· < n) := by funext v; simp
 rw [this]; exact Tr.PeelI.start K.tree
end
end Go.Fw
