/- A text of the proof. -/
import Derived.Test.YtnaahaldkpdjlaaFwLB9
set_option linter.unusedSimpArgs false
set_option linter.unusedVariables false
namespace Go.Fw
open Go.Proofs
set_option maxHeartbeats 1000000
set_option maxRecDepth 10000
theorem getD_set {α : Type} (l : List α) (i j : Nat) (a d : α) : (l.set i a).getD j d = if i = j ∧ i < l.length then a else l.getD j d := by
 simp only [List.getD_eq_getElem?_getD, List.getElem?_set]
 by_cases h1 : i = j
 ·subst h1
  by_cases h2 : i < l.length
  ·simp [h2]
  ·simp [h2]
 ·simp [h1]
def InR (n : Nat) (es : List Pr) : Prop := ∀ p ∈ es, 0 ≤ p.1 ∧ p.1 < p.2 ∧ p.2 < (n : Int)
theorem RightG.inR {n : Nat} {es : List Pr} (hr : RightG ⟨(n : Int), es⟩) : InR n es := fun p hpm => by
 obtain ⟨i, hi⟩ := List.mem_iff_getElem?.1 hpm
 exact (hr.ok i (List.getElem?_eq_some_iff.1 hi).1 p hi).1
def adj (es : List Pr) (u w : Nat) : Prop := ((u : Int), (w : Int)) ∈ es ∨ ((w : Int), (u : Int)) ∈ es
theorem adj.symm {es : List Pr} {u w : Nat} (h : adj es u w) : adj es w u := Or.symm h
theorem adj.lt {n : Nat} {es : List Pr} (hr : InR n es) {u w : Nat} (h : adj es u w) : u < n ∧ w < n := by
 rcases h with h | h <;> have := hr _ h <;> simp only at this <;> omega
theorem bes_step (rows : List (List Int)) (p : Pr) (u : Nat) (x : Int) (h1 : p.1.toNat < rows.length) (h2 : p.2.toNat < rows.length) :
  x ∈ (besStep rows p).getD u [] ↔ x ∈ rows.getD u [] ∨ (p.1.toNat = u ∧ x = p.2) ∨ (p.2.toNat = u ∧ x = p.1) := by
 simp only [besStep, getD_set, List.length_set]
 by_cases e2 : p.2.toNat = u
 ·subst e2
  by_cases e1 : p.1.toNat = p.2.toNat
  ·simp [e1, h2, or_assoc]
  ·simp [e1, h2]
 ·by_cases e1 : p.1.toNat = u
  ·subst e1; simp [e2, h1]
  ·simp [e1, e2]
theorem bes_fold (n : Nat) : ∀ (es : List Pr) (rows : List (List Int)), rows.length = n → InR n es → ∀ (u : Nat) (x : Int), x ∈ (es.foldl besStep rows).getD u [] ↔ x ∈ rows.getD u [] ∨ ∃ p ∈ es, (p.1.toNat = u ∧ x = p.2) ∨ (p.2.toNat = u ∧ x = p.1)
 | [], rows, _, _, u, x => by simp
 | p :: es, rows, hl, hr, u, x => by
  have hp := hr p (by simp)
  rw [List.foldl_cons, bes_fold n es _ (by rw [besStep_length, hl]) (fun q hq => hr q (by simp [hq])) u x, bes_step rows p u x (by omega) (by omega)]
  simp only [List.mem_cons, exists_eq_or_imp]
  constructor
  ·rintro ((h | h) | h)
   ·exact .inl h
   ·exact .inr (.inl h)
   ·exact .inr (.inr h)
  ·rintro (h | h | h)
   ·exact .inl (.inl h)
   ·exact .inl (.inr h)
   ·exact .inr h
theorem besM_mem {n : Nat} {es : List Pr} (hr : InR n es) (u w : Nat) : (w : Int) ∈ (besM n es).getD u [] ↔ adj es u w := by
 have hnil : (List.replicate n ([] : List Int)).getD u [] = [] := by
  simp only [List.getD_eq_getElem?_getD, List.getElem?_replicate]; split <;> rfl
 rw [besM, bes_fold n es _ (by simp) hr, hnil]
 simp only [List.not_mem_nil, false_or, adj]
 constructor
 ·rintro ⟨⟨a, b⟩, hp, ⟨h1, h2⟩ | ⟨h1, h2⟩⟩
  ·have := hr _ hp; simp only at this h1 h2
   left; have : a = (u : Int) := by omega
   rw [← this, h2]; exact hp
  ·have := hr _ hp; simp only at this h1 h2
   right; have : b = (u : Int) := by omega
   rw [← this, h2]; exact hp
 ·rintro (h | h)
  ·exact ⟨_, h, .inl ⟨by simp, rfl⟩⟩
  ·exact ⟨_, h, .inr ⟨by simp, rfl⟩⟩
theorem besM_nat {n : Nat} {es : List Pr} (hr : InR n es) {u : Nat} {x : Int} (hx : x ∈ (besM n es).getD u []) : ∃ w : Nat, x = (w : Int) ∧ w < n := by
 have hnil : (List.replicate n ([] : List Int)).getD u [] = [] := by
  simp only [List.getD_eq_getElem?_getD, List.getElem?_replicate]; split <;> rfl
 rw [besM, bes_fold n es _ (by simp) hr, hnil] at hx
 simp only [List.not_mem_nil, false_or] at hx
 obtain ⟨p, hp, ⟨_, rfl⟩ | ⟨_, rfl⟩⟩ := hx
 ·have := hr _ hp; exact ⟨p.2.toNat, by omega, by omega⟩
 ·have := hr _ hp; exact ⟨p.1.toNat, by omega, by omega⟩
inductive Cn (on : Nat → Bool) (es : List Pr) : Nat → Nat → Prop
 | refl {u : Nat} : on u = false → Cn on es u u
 | step {u w x : Nat} : Cn on es u w → adj es w x → on x = false → Cn on es u x
theorem Cn.off1 {on : Nat → Bool} {es : List Pr} {u w : Nat} (h : Cn on es u w) : on u = false := by
 induction h with
 | refl h => exact h
 | step _ _ _ ih => exact ih
theorem Cn.off2 {on : Nat → Bool} {es : List Pr} {u w : Nat} (h : Cn on es u w) : on w = false := by
 cases h with
 | refl h => exact h
 | step _ _ h => exact h
theorem Cn.trans {on : Nat → Bool} {es : List Pr} {u w x : Nat} (h : Cn on es u w) (k : Cn on es w x) : Cn on es u x := by
 induction k with
 | refl _ => exact h
 | step _ a o ih => exact ih.step a o
theorem Cn.symm {on : Nat → Bool} {es : List Pr} {u w : Nat} (h : Cn on es u w) : Cn on es w u := by
 induction h with
 | refl h => exact .refl h
 | step h a o ih => exact ((Cn.refl o).step a.symm h.off2).trans ih
structure TO (n : Nat) (on : Nat → Bool) (es : List Pr) (v : Nat) (L : List Int) : Prop where
 len : L.length = n
 val : ∀ (u : Nat) l, L[u]? = some l → l = -1 ∨ on u = false ∧ ∃ k : Nat, k < v ∧ l = (k : Int) ∧ Cn on es k u
 old : ∀ (u w : Nat) l, L[u]? = some l → 0 ≤ l → adj es u w → on w = false → L[w]? = some l
 low : ∀ u, u < v → u < n → on u = false → L[u]? ≠ some (-1)
structure TI (n : Nat) (on : Nat → Bool) (es : List Pr) (v : Nat) (L : List Int) (met : List Nat) (cl : Nat → Nat → Prop) : Prop where
 len : L.length = n
 val : ∀ (u : Nat) l, L[u]? = some l → l = -1 ∨ on u = false ∧ ∃ k : Nat, k ≤ v ∧ l = (k : Int) ∧ Cn on es k u
 old : ∀ (u w : Nat) l, L[u]? = some l → 0 ≤ l → l < (v : Int) → adj es u w → on w = false → L[w]? = some l
 low : ∀ u, u ≤ v → u < n → on u = false → L[u]? ≠ some (-1)
 mm : ∀ u, u ∈ met ↔ L[u]? = some (v : Int)
 nd : met.Nodup
 cl : ∀ u w, cl u w → L[w]? = some (v : Int)
theorem TO.start (n : Nat) (on : Nat → Bool) (es : List Pr) : TO n on es 0 (List.replicate n (-1)) :=
 ⟨by simp, fun u l h => .inl (List.eq_of_mem_replicate (List.mem_of_getElem? h)), fun u w l h h0 => by have := List.eq_of_mem_replicate (List.mem_of_getElem? h); omega, fun u h => by omega⟩
theorem TO.skip {n : Nat} {on : Nat → Bool} {es : List Pr} {v : Nat} {L : List Int} (t : TO n on es v L) (h : on v = true ∨ L[v]? ≠ some (-1)) : TO n on es (v + 1) L :=
 ⟨t.len, fun u l hl => (t.val u l hl).imp id fun ⟨h1, k, h2, h3⟩ => ⟨h1, k, by omega, h3⟩, t.old, fun u hu hn ho => by
  by_cases e : u = v
  ·subst e; rcases h with h | h
   ·rw [h] at ho; cases ho
   ·exact h
  ·exact t.low u (by omega) hn ho⟩
theorem TO.begin {n : Nat} {on : Nat → Bool} {es : List Pr} {v : Nat} {L : List Int} (t : TO n on es v L) (hv : v < n) (ho : on v = false) (hL : L[v]? = some (-1)) (cl : Nat → Nat → Prop) (hcl : ∀ u w, ¬ cl u w) : TI n on es v (L.set v (v : Int)) [v] cl := by
 have hvl : v < L.length := by rw [t.len]; exact hv
 have hne : ∀ u, u ≠ v → (L.set v (v : Int))[u]? = L[u]? := fun u hu => by rw [List.getElem?_set]; rw [if_neg (Ne.symm hu)]
 have heq : (L.set v (v : Int))[v]? = some (v : Int) := by rw [List.getElem?_set]; simp [hvl]
 refine ⟨by simp [t.len], fun u l hl => ?_, fun u w l hl h0 h1 ha hw => ?_, fun u hu hn hon => ?_, fun u => ?_, by simp, fun u w h => absurd h (hcl u w)⟩
 ·by_cases e : u = v
  ·subst e; rw [heq] at hl; injection hl with hl; exact .inr ⟨ho, u, Nat.le_refl _, hl.symm, .refl ho⟩
  ·rw [hne u e] at hl; exact (t.val u l hl).imp id fun ⟨h1, k, h2, h3⟩ => ⟨h1, k, by omega, h3⟩
 ·by_cases e : u = v
  ·subst e; rw [heq] at hl; injection hl with hl; omega
  ·rw [hne u e] at hl
   have hk := t.old u w l hl h0 ha hw
   by_cases e2 : w = v
   ·subst e2; rw [hL] at hk; injection hk with hk; omega
   ·rw [hne w e2]; exact hk
 ·by_cases e : u = v
  ·subst e; rw [heq]; intro h; injection h with h; omega
  ·rw [hne u e]; exact t.low u (by omega) hn hon
 ·simp only [List.mem_singleton]
  constructor
  ·rintro rfl; exact heq
  ·intro h
   by_cases e : u = v
   ·exact e
   ·rw [hne u e] at h
    rcases t.val u _ h with h' | ⟨_, k, h2, h3, _⟩ <;> omega
theorem TI.mono {n : Nat} {on : Nat → Bool} {es : List Pr} {v : Nat} {L : List Int} {met : List Nat} {cl cl' : Nat → Nat → Prop} (t : TI n on es v L met cl) (h : ∀ u w, cl' u w → cl u w) : TI n on es v L met cl' :=
 ⟨t.len, t.val, t.old, t.low, t.mm, t.nd, fun u w k => t.cl u w (h u w k)⟩
theorem TI.off {n : Nat} {on : Nat → Bool} {es : List Pr} {v : Nat} {L : List Int} {met : List Nat} {cl : Nat → Nat → Prop} (t : TI n on es v L met cl) {u : Nat} (hu : u ∈ met) : on u = false ∧ Cn on es v u := by
 rcases t.val u _ ((t.mm u).1 hu) with h | ⟨h, k, _, h2, h3⟩
 ·omega
 ·obtain rfl : v = k := by omega
  exact ⟨h, h3⟩
theorem TI.stay {n : Nat} {on : Nat → Bool} {es : List Pr} {v : Nat} {L : List Int} {met : List Nat} {cl cl' : Nat → Nat → Prop} (t : TI n on es v L met cl) {u w : Nat} (hu : u ∈ met) (ha : adj es u w) (hwl : ∃ l, L[w]? = some l ∧ l ≠ -1) (h : ∀ a b, cl' a b → cl a b ∨ b = w) : TI n on es v L met cl' := by
 refine ⟨t.len, t.val, t.old, t.low, t.mm, t.nd, fun a b k => ?_⟩
 rcases h a b k with h | rfl
 ·exact t.cl a b h
 ·obtain ⟨l, hl, hne⟩ := hwl
  rcases t.val _ _ hl with h' | ⟨how, k, hk, rfl, _⟩
  ·exact absurd h' hne
  ·by_cases e : k = v
   ·subst e; exact hl
   ·have := t.old b u (k : Int) hl (by omega) (by omega) ha.symm (t.off hu).1
    rw [(t.mm u).1 hu] at this; injection this with this; omega
theorem TI.push {n : Nat} {on : Nat → Bool} {es : List Pr} {v : Nat} {L : List Int} {met : List Nat} {cl cl' : Nat → Nat → Prop} (t : TI n on es v L met cl) {u w : Nat} (hu : u ∈ met) (ha : adj es u w) (how : on w = false) (hwl : L[w]? = some (-1)) (h : ∀ a b, cl' a b → cl a b ∨ b = w) :
  TI n on es v (L.set w (v : Int)) (met ++ [w]) cl' := by
 have hvl : w < L.length := (List.getElem?_eq_some_iff.1 hwl).1
 have hne : ∀ x, x ≠ w → (L.set w (v : Int))[x]? = L[x]? := fun x hx => by rw [List.getElem?_set]; rw [if_neg (Ne.symm hx)]
 have heq : (L.set w (v : Int))[w]? = some (v : Int) := by rw [List.getElem?_set]; simp [hvl]
 have hnm : w ∉ met := fun h => by have := (t.mm w).1 h; rw [hwl] at this; injection this with this; omega
 refine ⟨by simp [t.len], fun x l hl => ?_, fun x y l hl h0 h1 hxy hy => ?_, fun x hx hn hon => ?_, fun x => ?_, ?_, fun a b k => ?_⟩
 ·by_cases e : x = w
  ·subst e; rw [heq] at hl; injection hl with hl; exact .inr ⟨how, v, Nat.le_refl _, hl.symm, (t.off hu).2.step ha how⟩
  ·rw [hne x e] at hl; exact t.val x l hl
 ·by_cases e : x = w
  ·subst e; rw [heq] at hl; injection hl with hl; omega
  ·rw [hne x e] at hl
   have hk := t.old x y l hl h0 h1 hxy hy
   by_cases e2 : y = w
   ·subst e2; rw [hwl] at hk; injection hk with hk; omega
   ·rw [hne y e2]; exact hk
 ·by_cases e : x = w
  ·subst e; rw [heq]; intro h; injection h with h; omega
  ·rw [hne x e]; exact t.low x hx hn hon
 ·simp only [List.mem_append, List.mem_singleton]
  by_cases e : x = w
  ·subst e; simp [heq]
  ·rw [hne x e, ← t.mm x]; simp [e]
 ·rw [List.nodup_append]; exact ⟨t.nd, by simp, fun a ham b hb => fun e => hnm (by rw [List.mem_singleton] at hb; rw [← hb, ← e]; exact ham)⟩
 ·rcases h a b k with h | rfl
  ·have := t.cl a b h
   by_cases e : b = w
   ·subst e; exact heq
   ·rw [hne b e]; exact this
  ·exact heq
theorem TI.finish {n : Nat} {on : Nat → Bool} {es : List Pr} {v : Nat} {L : List Int} {met : List Nat} {cl : Nat → Nat → Prop} (t : TI n on es v L met cl) (h : ∀ u w, u ∈ met → adj es u w → on w = false → cl u w) : TO n on es (v + 1) L := by
 refine ⟨t.len, fun u l hl => (t.val u l hl).imp id fun ⟨h1, k, h2, h3⟩ => ⟨h1, k, by omega, h3⟩, fun u w l hl h0 ha hw => ?_, fun u hu hn hon => ?_⟩
 ·rcases t.val u l hl with h' | ⟨h1, k, h2, rfl, _⟩
  ·omega
  ·by_cases e : k = v
   ·subst e; exact t.cl u w (h u w ((t.mm u).2 hl) ha hw)
   ·exact t.old u w _ hl h0 (by omega) ha hw
 ·exact t.low u (by omega) hn hon
theorem TI.len_met {n : Nat} {on : Nat → Bool} {es : List Pr} {v : Nat} {L : List Int} {met : List Nat} {cl : Nat → Nat → Prop} (t : TI n on es v L met cl) : met.length ≤ n := by
 have hs : met ⊆ List.range n := fun u hu => by
  have := (List.getElem?_eq_some_iff.1 ((t.mm u).1 hu)).1
  rw [List.mem_range, ← t.len]; exact this
 have := t.nd.length_le_of_subset hs
 simpa using this
structure TogM (n : Nat) (on : Nat → Bool) (es : List Pr) (L : List Int) : Prop where
 len : L.length = n
 off : ∀ u, u < n → on u = false → ∃ k : Nat, k < n ∧ L[u]? = some (k : Int) ∧ Cn on es k u
 same : ∀ u w, u < n → w < n → on u = false → on w = false → (L[u]? = L[w]? ↔ Cn on es u w)
theorem TO.done {n : Nat} {on : Nat → Bool} {es : List Pr} {L : List Int} (hr : InR n es) (t : TO n on es n L) : TogM n on es L := by
 have off : ∀ u, u < n → on u = false → ∃ k : Nat, k < n ∧ L[u]? = some (k : Int) ∧ Cn on es k u := fun u hu ho => by
  have hl := getElem?_of (show u < L.length by rw [t.len]; exact hu)
  rcases t.val u _ hl with h | ⟨_, k, h1, h2, h3⟩
  ·exact absurd (by rw [hl, h]) (t.low u hu hu ho)
  ·exact ⟨k, h1, by rw [hl, h2], h3⟩
 refine ⟨t.len, off, fun u w hu hw ou ow => ⟨fun e => ?_, fun c => ?_⟩⟩
 ·obtain ⟨k, _, h1, h2⟩ := off u hu ou
  obtain ⟨k', _, h3, h4⟩ := off w hw ow
  rw [h1, h3] at e; injection e with e
  obtain rfl : k = k' := by omega
  exact h2.symm.trans h4
 ·clear hw ow
  induction c with
  | refl _ => rfl
  | step c a o ih =>
   have hx := (a.lt hr).1
   obtain ⟨k, _, h1, _⟩ := off _ hx c.off2
   rw [ih, h1]
   exact (t.old _ _ _ h1 (by omega) a o).symm
end Go.Fw
