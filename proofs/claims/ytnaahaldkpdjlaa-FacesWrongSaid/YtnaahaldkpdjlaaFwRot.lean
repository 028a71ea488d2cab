/- A text of the proof. -/
import Derived.Test.YtnaahaldkpdjlaaFwCyc
set_option linter.unusedSimpArgs false
set_option linter.unusedVariables false
namespace Go.Fw
set_option maxRecDepth 10000
attribute [local instance] Classical.propDecidable
def nxF (h : Nat) : List Nat → Nat → Nat
 | [], _ => h
 | x :: l, y => if x = y then l.headD h else nxF h l y
def nx (l : List Nat) (y : Nat) : Nat := nxF (l.headD y) l y
theorem nxF_split (h y : Nat) (b : List Nat) : ∀ a : List Nat, y ∉ a → nxF h (a ++ y :: b) y = b.headD h
 | [], _ => by simp [nxF]
 | x :: a, hn => by
  rw [List.cons_append, nxF, if_neg (fun e => hn (by simp [e])), nxF_split h y b a (fun h => hn (List.mem_cons_of_mem _ h))]
theorem nx_split {a b : List Nat} {y : Nat} (hn : y ∉ a) : nx (a ++ y :: b) y = (b ++ (a ++ [y])).headD 0 := by
 rw [nx, nxF_split _ _ _ _ hn]
 cases b with
 | cons c b => rfl
 | nil => cases a <;> rfl
theorem split_at {l : List Nat} {y : Nat} (h : y ∈ l) : ∃ a b, l = a ++ y :: b ∧ y ∉ a := by
 induction l with
 | nil => cases h
 | cons x l ih =>
  by_cases e : x = y
  ·subst e; exact ⟨[], l, rfl, by simp⟩
  ·obtain ⟨a, b, rfl, hn⟩ := ih (by simpa [Ne.symm e] using h)
   exact ⟨x :: a, b, rfl, by simp [hn, Ne.symm e]⟩
theorem nx_cons {c : List Nat} {y : Nat} : nx (y :: c) y = (c ++ [y]).headD 0 := by
 have := nx_split (a := []) (b := c) (y := y) (by simp)
 simpa using this
theorem nx_rot {a b : List Nat} (nd : (a ++ b).Nodup) {y : Nat} (hy : y ∈ a ++ b) : nx (a ++ b) y = nx (b ++ a) y := by
 rw [List.nodup_append] at nd
 obtain ⟨na, nb, nab⟩ := nd
 rcases List.mem_append.1 hy with h | h
 ·obtain ⟨a1, a2, rfl, hn⟩ := split_at h
  have h2 : y ∉ b ++ a1 := fun hm => by
   rcases List.mem_append.1 hm with hm | hm
   ·exact nab y (by simp) y hm rfl
   ·exact hn hm
  rw [List.append_assoc, List.cons_append, nx_split hn, show b ++ (a1 ++ y :: a2) = (b ++ a1) ++ y :: a2 by simp, nx_split h2]
  simp only [List.append_assoc]
 ·obtain ⟨b1, b2, rfl, hn⟩ := split_at h
  have h2 : y ∉ a ++ b1 := fun hm => by
   rcases List.mem_append.1 hm with hm | hm
   ·exact nab y hm y (by simp) rfl
   ·exact hn hm
  rw [← List.append_assoc, nx_split h2, show b1 ++ y :: b2 ++ a = b1 ++ y :: (b2 ++ a) by simp, nx_split hn]
  simp only [List.append_assoc]
theorem to_front {l : List Nat} (nd : l.Nodup) {y : Nat} (h : y ∈ l) : ∃ c, (∀ z, z ∈ l ↔ z = y ∨ z ∈ c) ∧ (y :: c).Nodup ∧ (∀ z ∈ l, nx l z = nx (y :: c) z) ∧ (∃ a b, l = a ++ y :: b ∧ c = b ++ a) := by
 obtain ⟨a, b, rfl, hn⟩ := split_at h
 have hp : (a ++ y :: b).Perm (y :: (b ++ a)) := by
  have : (a ++ y :: b).Perm (y :: b ++ a) := List.perm_append_comm
  simpa using this
 exact ⟨b ++ a, fun z => by rw [hp.mem_iff, List.mem_cons], hp.nodup_iff.1 nd, fun z hz => by rw [nx_rot nd hz]; rfl, a, b, rfl, rfl⟩
theorem nx_mem {l : List Nat} {y : Nat} (h : y ∈ l) : nx l y ∈ l := by
 obtain ⟨a, b, rfl, hn⟩ := split_at h
 rw [nx_split hn]
 cases b with
 | cons c b => simp
 | nil => cases a <;> simp
theorem nodup_rev {l : List Nat} (nd : l.Nodup) : l.reverse.Nodup := (List.reverse_perm l).nodup_iff.2 nd
theorem nx_rev {l : List Nat} (nd : l.Nodup) {y : Nat} (h : y ∈ l) : nx l.reverse (nx l y) = y := by
 obtain ⟨a, b, rfl, hn⟩ := split_at h
 have e1 : nx (a ++ y :: b) y = nx (y :: (b ++ a)) y := by rw [nx_rot nd h]; rfl
 have ndr : (a ++ y :: b).reverse.Nodup := nodup_rev nd
 have e2 : ∀ z ∈ a ++ y :: b, nx (a ++ y :: b).reverse z = nx (y :: (b ++ a)).reverse z := fun z hz => by
  have : (a ++ y :: b).reverse = (y :: b).reverse ++ a.reverse := by simp
  rw [this] at ndr ⊢
  rw [nx_rot ndr (by rw [← this]; exact List.mem_reverse.2 hz)]
  congr 1; simp
 rw [e2 _ (nx_mem h), e1, nx_cons]
 have nd2 : (y :: (b ++ a)).Nodup := by
  have hp : (a ++ y :: b).Perm (y :: b ++ a) := List.perm_append_comm
  exact hp.nodup_iff.1 nd
 generalize b ++ a = c at *
 cases c with
 | nil => simp [nx, nxF]
 | cons z c =>
  rw [List.cons_append, List.headD_cons]
  rw [List.nodup_cons, List.nodup_cons] at nd2
  have : (y :: z :: c).reverse = c.reverse ++ z :: [y] := by simp
  rw [this, nx_split (by simpa using nd2.2.1)]; rfl
theorem nx_inj {l : List Nat} (nd : l.Nodup) {x y : Nat} (hx : x ∈ l) (hy : y ∈ l) (e : nx l x = nx l y) : x = y := by
 rw [← nx_rev nd hx, ← nx_rev nd hy, e]
theorem nx_self {l : List Nat} (nd : l.Nodup) {x : Nat} (hx : x ∈ l) : nx l x = x ↔ l = [x] := by
 constructor
 ·intro h
  obtain ⟨c, hm, nc, he, a, b, rfl, rfl⟩ := to_front nd hx
  rw [he x hx, nx_cons] at h
  cases hc : b ++ a with
  | nil =>
   obtain ⟨rfl, rfl⟩ := List.append_eq_nil_iff.1 hc
   rfl
  | cons z c =>
   rw [hc] at h nc
   rw [List.cons_append, List.headD_cons] at h
   subst h; simp at nc
 ·rintro rfl; simp [nx, nxF]
theorem nx_erase {l : List Nat} (nd : l.Nodup) {x y : Nat} (hx : x ∈ l) (hy : y ∈ l) (hne : y ≠ x) : nx (l.erase x) y = if nx l y = x then nx l x else nx l y := by
 obtain ⟨c, hm, nc, he, a, b, rfl, rfl⟩ := to_front nd hx
 have hxa : x ∉ a := fun h => by
  rw [List.nodup_append] at nd; exact nd.2.2 x h x (by simp) rfl
 have h1 : (a ++ x :: b).erase x = a ++ b := by
  rw [List.erase_append_right _ hxa, List.erase_cons_head]
 have hyc : y ∈ b ++ a := by rcases (hm y).1 hy with h | h; exact absurd h hne; exact h
 have nab : (a ++ b).Nodup := by
  rw [List.nodup_append] at nd ⊢
  exact ⟨nd.1, (List.nodup_cons.1 nd.2.1).2, fun p hp q hq => nd.2.2 p hp q (List.mem_cons_of_mem _ hq)⟩
 rw [h1, nx_rot nab (by simpa [or_comm] using hyc), he y hy, he x hx]
 generalize b ++ a = c at *
 obtain ⟨c1, c2, rfl, hn⟩ := split_at hyc
 have h2 : y ∉ x :: c1 := by simp [hne, hn]
 rw [nx_split hn, nx_cons]
 have h3 : nx (x :: (c1 ++ y :: c2)) y = (c2 ++ (x :: c1 ++ [y])).headD 0 := by
  have := nx_split (b := c2) h2
  simpa using this
 rw [h3]
 rw [List.nodup_cons] at nc
 cases c2 with
 | nil => simp
 | cons z c2 =>
  have : z ≠ x := fun e => nc.1 (by simp [e])
  simp [this]
structure IsRot (n : Nat) (r : Nat → List Nat) : Prop where
 nd : ∀ v, (r v).Nodup
 lt : ∀ v w, w ∈ r v → v < n
 sy : ∀ v w, w ∈ r v → v ∈ r w
 ir : ∀ v, v ∉ r v
abbrev Dart := Nat × Nat
def dl (n : Nat) (r : Nat → List Nat) : List Dart := (List.range n).flatMap fun v => (r v).map fun w => (v, w)
def fph (r : Nat → List Nat) (d : Dart) : Dart := (d.2, nx (r d.2) d.1)
section
variable {n : Nat} {r : Nat → List Nat}
theorem mem_dl (R : IsRot n r) {d : Dart} : d ∈ dl n r ↔ d.2 ∈ r d.1 := by
 obtain ⟨v, w⟩ := d
 simp only [dl, List.mem_flatMap, List.mem_range, List.mem_map, Prod.mk.injEq]
 constructor
 ·rintro ⟨x, _, y, hy, rfl, rfl⟩; exact hy
 ·intro h; exact ⟨v, R.lt v w h, w, h, rfl, rfl⟩
theorem flat_nodup {f : Nat → List Dart} (h1 : ∀ v, (f v).Nodup) (h2 : ∀ v, ∀ d ∈ f v, d.1 = v) : ∀ {l : List Nat}, l.Nodup → (l.flatMap f).Nodup
 | [], _ => by simp
 | v :: l, h => by
  rw [List.nodup_cons] at h
  rw [List.flatMap_cons, List.nodup_append]
  refine ⟨h1 v, flat_nodup h1 h2 h.2, fun a ha b hb e => ?_⟩
  obtain ⟨w, hw, hb⟩ := List.mem_flatMap.1 hb
  subst e
  rw [← h2 w a hb, h2 v a ha] at hw
  exact h.1 hw
theorem dl_nodup (R : IsRot n r) : (dl n r).Nodup := by
 refine flat_nodup (fun v => ?_) (fun v d hd => ?_) List.nodup_range
 ·rw [List.nodup_iff_pairwise_ne, List.pairwise_map]
  exact (List.nodup_iff_pairwise_ne.1 (R.nd v)).imp fun h e => h (by injection e)
 ·obtain ⟨w, _, rfl⟩ := List.mem_map.1 hd; rfl
theorem phi_pm (R : IsRot n r) : Pm (dl n r) (fph r) := by
 refine ⟨dl_nodup R, fun d hd => ?_, fun d hd e he h => ?_⟩
 ·rw [mem_dl R] at hd ⊢; exact nx_mem (R.sy _ _ hd)
 ·rw [mem_dl R] at hd he
  obtain ⟨v, w⟩ := d; obtain ⟨x, y⟩ := e
  simp only [fph, Prod.mk.injEq] at h
  obtain ⟨rfl, h⟩ := h
  have : v = x := nx_inj (R.nd w) (R.sy _ _ hd) (R.sy _ _ he) h
  rw [this]
def del (r : Nat → List Nat) (v w : Nat) : Nat → List Nat := fun x => if x = v then (r v).erase w else if x = w then (r w).erase v else r x
theorem del_v (r : Nat → List Nat) (v w : Nat) : del r v w v = (r v).erase w := by simp [del]
theorem del_w {v w : Nat} (r : Nat → List Nat) (h : v ≠ w) : del r v w w = (r w).erase v := by simp [del, Ne.symm h]
theorem del_ne {v w x : Nat} (r : Nat → List Nat) (h1 : x ≠ v) (h2 : x ≠ w) : del r v w x = r x := by simp [del, h1, h2]
theorem mem_del (R : IsRot n r) {v w : Nat} (hvw : v ≠ w) {x y : Nat} : y ∈ del r v w x ↔ y ∈ r x ∧ ¬ (x = v ∧ y = w) ∧ ¬ (x = w ∧ y = v) := by
 by_cases h1 : x = v
 ·subst h1; rw [del_v, (R.nd x).mem_erase_iff]
  constructor
  ·rintro ⟨a, b⟩; exact ⟨b, fun h => a h.2, fun h => hvw h.1⟩
  ·rintro ⟨a, b, _⟩; exact ⟨fun e => b ⟨rfl, e⟩, a⟩
 ·by_cases h2 : x = w
  ·subst h2; rw [del_w r hvw, (R.nd x).mem_erase_iff]
   constructor
   ·rintro ⟨a, b⟩; exact ⟨b, fun h => h1 h.1, fun h => a h.2⟩
   ·rintro ⟨a, _, b⟩; exact ⟨fun e => b ⟨rfl, e⟩, a⟩
  ·rw [del_ne r h1 h2]
   exact ⟨fun h => ⟨h, fun e => h1 e.1, fun e => h2 e.1⟩, fun h => h.1⟩
theorem del_rot (R : IsRot n r) {v w : Nat} (hvw : v ≠ w) : IsRot n (del r v w) := by
 refine ⟨fun x => ?_, fun x y h => R.lt x y ((mem_del R hvw).1 h).1, fun x y h => ?_, fun x h => R.ir x ((mem_del R hvw).1 h).1⟩
 ·unfold del; split
  ·exact (R.nd v).erase _
  ·split
   ·exact (R.nd w).erase _
   ·exact R.nd x
 ·rw [mem_del R hvw] at h ⊢
  exact ⟨R.sy _ _ h.1, fun e => h.2.2 ⟨e.2, e.1⟩, fun e => h.2.1 ⟨e.2, e.1⟩⟩
theorem perm_of_mem {α : Type} {A B : List α} (na : A.Nodup) (nb : B.Nodup) (h : ∀ x, x ∈ A ↔ x ∈ B) : A.Perm B := by
 induction A generalizing B with
 | nil =>
  cases B with
  | nil => exact .nil
  | cons b B => exact absurd ((h b).2 List.mem_cons_self) (by simp)
 | cons a A ih =>
  rw [List.nodup_cons] at na
  have hb := (h a).1 List.mem_cons_self
  refine .trans (.cons a (ih (B := B.erase a) na.2 (nb.erase _) fun x => ?_)) (List.perm_cons_erase hb).symm
  rw [nb.mem_erase_iff, ← h x, List.mem_cons]
  constructor
  ·intro hx; exact ⟨fun e => na.1 (by rw [← e]; exact hx), .inr hx⟩
  ·rintro ⟨h1, h2 | h2⟩; exact absurd h2 h1; exact h2
theorem dl_del (R : IsRot n r) {v w : Nat} (h : w ∈ r v) : (dl n r).Perm ((v, w) :: (w, v) :: dl n (del r v w)) := by
 have hvw : v ≠ w := fun e => R.ir v (by rw [← e] at h; exact h)
 have R' := del_rot R hvw
 refine perm_of_mem (dl_nodup R) ?_ fun d => ?_
 ·rw [List.nodup_cons, List.nodup_cons]
  refine ⟨?_, ?_, dl_nodup R'⟩
  ·simp only [List.mem_cons, Prod.mk.injEq, mem_dl R', mem_del R hvw]
   rintro (⟨e, _⟩ | ⟨_, e, _⟩)
   ·exact hvw e
   ·exact e ⟨trivial, trivial⟩
  ·simp only [mem_dl R', mem_del R hvw]
   rintro ⟨_, _, e⟩; exact e ⟨trivial, trivial⟩
 ·obtain ⟨x, y⟩ := d
  simp only [List.mem_cons, mem_dl R, mem_dl R', mem_del R hvw, Prod.mk.injEq]
  by_cases h1 : x = v ∧ y = w
  ·obtain ⟨rfl, rfl⟩ := h1; simp [h]
  ·by_cases h2 : x = w ∧ y = v
   ·obtain ⟨rfl, rfl⟩ := h2; simp [R.sy _ _ h]
   ·simp [h1, h2]
theorem skp_eq {α : Type} (f : α → α) (d x : α) : skp f d x = if f x = d then f d else f x := rfl
theorem phi_del (R : IsRot n r) {v w : Nat} (h : w ∈ r v) {d : Dart} (hd : d ∈ dl n (del r v w)) : fph (del r v w) d = skp (skp (swp (fph r) (v, w) (w, v)) (v, w)) (w, v) d := by
 have hvw : v ≠ w := fun e => R.ir v (by rw [← e] at h; exact h)
 have R' := del_rot R hvw
 obtain ⟨a, b⟩ := d
 rw [mem_dl R', mem_del R hvw] at hd
 obtain ⟨hab, n1, n2⟩ := hd
 simp only at hab n1 n2
 have s0 : swp (fph r) (v, w) (w, v) (a, b) = fph r (a, b) := swp_ne (fun e => n1 (by simpa using e)) (fun e => n2 (by simpa using e))
 have hba := R.sy _ _ hab
 by_cases h1 : b = v
 ·subst h1
  have haw : a ≠ w := fun e => n2 ⟨e, rfl⟩
  have e1 : fph (del r b w) (a, b) = (b, if nx (r b) a = w then nx (r b) w else nx (r b) a) := by
   simp only [fph]; rw [del_v, nx_erase (R.nd b) h hba haw]
  have e2 : skp (swp (fph r) (b, w) (w, b)) (b, w) (a, b) = (b, if nx (r b) a = w then nx (r b) w else nx (r b) a) := by
   unfold skp; rw [s0, swp_a]
   simp only [fph, Prod.mk.injEq, true_and]
   split <;> simp_all
  have e3 : skp (skp (swp (fph r) (b, w) (w, b)) (b, w)) (w, b) (a, b) = skp (swp (fph r) (b, w) (w, b)) (b, w) (a, b) := by
   rw [skp_eq (skp (swp (fph r) (b, w) (w, b)) (b, w)), if_neg]; rw [e2]; intro e; injection e with e _; exact hvw e
  rw [e1, e3, e2]
 ·have e2 : skp (swp (fph r) (v, w) (w, v)) (v, w) (a, b) = fph r (a, b) := by
   unfold skp; rw [s0, if_neg]; simp only [fph, Prod.mk.injEq]; exact fun e => h1 e.1
  by_cases h2 : b = w
  ·subst h2
   have hav : a ≠ v := fun e => n1 ⟨e, rfl⟩
   have e1 : fph (del r v b) (a, b) = (b, if nx (r b) a = v then nx (r b) v else nx (r b) a) := by
    simp only [fph]; rw [del_w r hvw, nx_erase (R.nd b) (R.sy _ _ h) hba hav]
   have e4 : skp (swp (fph r) (v, b) (b, v)) (v, b) (b, v) = (b, nx (r b) v) := by
    unfold skp; rw [swp_b, if_neg]
    ·rfl
    ·simp only [fph, Prod.mk.injEq]; exact fun e => h1 e.1
   have e3 : skp (skp (swp (fph r) (v, b) (b, v)) (v, b)) (b, v) (a, b) = if fph r (a, b) = (b, v) then (b, nx (r b) v) else fph r (a, b) := by
    rw [skp_eq (skp (swp (fph r) (v, b) (b, v)) (v, b)), e2, e4]
    by_cases hh : fph r (a, b) = (b, v)
    ·rw [if_pos hh, if_pos hh]
    ·rw [if_neg hh, if_neg hh]
   rw [e1, e3]
   simp only [fph, Prod.mk.injEq, true_and]
   split <;> rfl
  ·have e3 : skp (skp (swp (fph r) (v, w) (w, v)) (v, w)) (w, v) (a, b) = fph r (a, b) := by
    rw [skp_eq (skp (swp (fph r) (v, w) (w, v)) (v, w)), e2, if_neg]; simp only [fph, Prod.mk.injEq]; exact fun e => h2 e.1
   rw [e3]; simp only [fph]; rw [del_ne r h1 h2]
noncomputable def fcs (n : Nat) (r : Nat → List Nat) : Nat := cls (Orb (fph r)) (dl n r) + ((List.range n).filter fun v => decide (r v = [])).length
theorem orb_congr {α : Type} {f g : α → α} {X : List α} (p : Pm X f) (h : ∀ x ∈ X, f x = g x) : ∀ x ∈ X, ∀ y ∈ X, Orb f x y ↔ Orb g x y := by
 intro x hx y _
 have e : ∀ k, it g k x = it f k x := fun k => it_agree k fun j _ => h _ (p.it_mem hx j)
 exact ⟨fun ⟨k, hk⟩ => ⟨k, by rw [e]; exact hk⟩, fun ⟨k, hk⟩ => ⟨k, by rw [← e]; exact hk⟩⟩
theorem iso_del (R : IsRot n r) {v w : Nat} (h : w ∈ r v) : ((List.range n).filter fun x => decide (del r v w x = [])).length = ((List.range n).filter fun x => decide (r x = [])).length + (if r v = [w] then 1 else 0) + if r w = [v] then 1 else 0 := by
 have hvw : v ≠ w := fun e => R.ir v (by rw [← e] at h; exact h)
 have hw := R.sy _ _ h
 have key : ∀ l : List Nat, l.Nodup → (l.filter fun x => decide (del r v w x = [])).length = (l.filter fun x => decide (r x = [])).length + (if v ∈ l ∧ r v = [w] then 1 else 0) + if w ∈ l ∧ r w = [v] then 1 else 0 := by
  intro l
  induction l with
  | nil => intro _; simp
  | cons x l ih =>
   intro nd
   rw [List.nodup_cons] at nd
   have i := ih nd.2
   have er : ∀ {a b : Nat}, b ∈ r a → ((r a).erase b = [] ↔ r a = [b]) := fun {a b} hb => by
    constructor
    ·intro e
     have h1 := List.length_erase_of_mem hb
     rw [e] at h1
     obtain ⟨c, hc⟩ := List.length_eq_one_iff.1 (show (r a).length = 1 by have := List.length_pos_of_mem hb; simp at h1; omega)
     rw [hc] at hb; rw [List.mem_singleton] at hb; rw [hc, hb]
    ·intro e; rw [e]; simp
   by_cases h1 : x = v
   ·subst h1
    have nr : r x ≠ [] := fun e => by rw [e] at h; cases h
    rw [List.filter_cons, List.filter_cons, del_v]
    simp only [er h, nr, decide_false, List.mem_cons, true_or, true_and, nd.1, false_and, if_false, Bool.false_eq_true, decide_eq_true_eq, Ne.symm hvw, false_or] at i ⊢
    split <;> (try simp only [List.length_cons]) <;> omega
   ·by_cases h2 : x = w
    ·subst h2
     have nr : r x ≠ [] := fun e => by rw [e] at hw; cases hw
     rw [List.filter_cons, List.filter_cons, del_w r hvw]
     simp only [er hw, nr, decide_false, List.mem_cons, true_or, true_and, nd.1, false_and, if_false, Bool.false_eq_true, decide_eq_true_eq, hvw, false_or] at i ⊢
     split <;> (try simp only [List.length_cons]) <;> omega
    ·rw [List.filter_cons, List.filter_cons, del_ne r h1 h2]
     simp only [List.mem_cons, Ne.symm h1, Ne.symm h2, false_or] at i ⊢
     split <;> (try simp only [List.length_cons]) <;> omega
 have := key (List.range n) List.nodup_range
 have h1 : v ∈ List.range n := List.mem_range.2 (R.lt _ _ h)
 have h2 : w ∈ List.range n := List.mem_range.2 (R.lt _ _ hw)
 simp only [h1, h2, true_and] at this
 exact this
theorem fcs_del (R : IsRot n r) {v w : Nat} (h : w ∈ r v) : (Orb (fph r) (v, w) (w, v) → fcs n (del r v w) = fcs n r + 1) ∧ (¬ Orb (fph r) (v, w) (w, v) → fcs n (del r v w) + 1 = fcs n r) := by
 have hvw : v ≠ w := fun e => R.ir v (by rw [← e] at h; exact h)
 have hw := R.sy _ _ h
 have R' := del_rot R hvw
 have p := phi_pm R
 have hd : (v, w) ∈ dl n r := (mem_dl R).2 h
 have hd' : (w, v) ∈ dl n r := (mem_dl R).2 hw
 have hne : ((v, w) : Dart) ≠ (w, v) := fun e => by injection e with e _; exact hvw e
 obtain ⟨s1, s2⟩ := cls_swp p hd hd' hne
 have q := p.swp hd hd'
 have hp := dl_del R h
 have k1 := cls_skp q hp
 have q1 := skp_pm q hp
 have k2 := cls_skp q1 (.refl _)
 have q2 := skp_pm q1 (.refl _)
 have c1 : cls (Orb (fph (del r v w))) (dl n (del r v w)) = cls (Orb (skp (skp (swp (fph r) (v, w) (w, v)) (v, w)) (w, v))) (dl n (del r v w)) :=
  cls_congr (orb_congr (phi_pm R') fun x hx => phi_del R h hx)
 have e1 : (swp (fph r) (v, w) (w, v) (v, w) = (v, w)) ↔ r v = [w] := by
  rw [swp_a]; simp only [fph, Prod.mk.injEq, true_and]; exact nx_self (R.nd v) h
 have e2 : (skp (swp (fph r) (v, w) (w, v)) (v, w) (w, v) = (w, v)) ↔ r w = [v] := by
  have : skp (swp (fph r) (v, w) (w, v)) (v, w) (w, v) = fph r (v, w) := by
   unfold skp; rw [swp_b, if_neg]; simp only [fph, Prod.mk.injEq]; exact fun e => hvw e.1.symm
  rw [this]; simp only [fph, Prod.mk.injEq, true_and]; exact nx_self (R.nd w) hw
 simp only [e1] at k1
 simp only [e2] at k2
 have i := iso_del R h
 unfold fcs
 constructor
 ·intro ho; have := s1 ho; omega
 ·intro ho; have := s2 ho; omega
inductive Cr (r : Nat → List Nat) : Nat → Nat → Prop
 | refl (a : Nat) : Cr r a a
 | step {a b c : Nat} : Cr r a b → c ∈ r b → Cr r a c
theorem Cr.trans {a b c : Nat} (h : Cr r a b) (g : Cr r b c) : Cr r a c := by
 induction g with
 | refl => exact h
 | step _ e ih => exact .step ih e
theorem Cr.one {a b : Nat} (h : b ∈ r a) : Cr r a b := .step (.refl a) h
theorem Cr.symm (R : IsRot n r) {a b : Nat} (h : Cr r a b) : Cr r b a := by
 induction h with
 | refl => exact .refl _
 | step _ e ih => exact (Cr.one (R.sy _ _ e)).trans ih
theorem Cr.eqv (R : IsRot n r) (X : List Nat) : Eqv X (Cr r) := ⟨fun x _ => .refl x, fun _ _ _ _ h => h.symm R, fun _ _ _ _ _ _ h g => h.trans g⟩
theorem Cr.mono {r' : Nat → List Nat} (h : ∀ v w, w ∈ r v → w ∈ r' v) {a b : Nat} (c : Cr r a b) : Cr r' a b := by
 induction c with
 | refl => exact .refl _
 | step _ e ih => exact .step ih (h _ _ e)
noncomputable def cmps (n : Nat) (r : Nat → List Nat) : Nat := cls (Cr r) (List.range n)
theorem cr_del (R : IsRot n r) {v w : Nat} (h : w ∈ r v) {a b : Nat} : Cr r a b ↔ Cr (del r v w) a b ∨ (Cr (del r v w) a v ∧ Cr (del r v w) w b) ∨ (Cr (del r v w) a w ∧ Cr (del r v w) v b) := by
 have hvw : v ≠ w := fun e => R.ir v (by rw [← e] at h; exact h)
 have sub : ∀ x y, y ∈ del r v w x → y ∈ r x := fun x y hy => ((mem_del R hvw).1 hy).1
 constructor
 ·intro c
  induction c with
  | refl => exact .inl (.refl _)
  | @step b c _ e ih =>
   by_cases h1 : b = v ∧ c = w
   ·obtain ⟨rfl, rfl⟩ := h1
    rcases ih with i | ⟨i, _⟩ | ⟨i, _⟩
    ·exact .inr (.inl ⟨i, .refl _⟩)
    ·exact .inr (.inl ⟨i, .refl _⟩)
    ·exact .inl i
   ·by_cases h2 : b = w ∧ c = v
    ·obtain ⟨rfl, rfl⟩ := h2
     rcases ih with i | ⟨i, _⟩ | ⟨i, _⟩
     ·exact .inr (.inr ⟨i, .refl _⟩)
     ·exact .inl i
     ·exact .inr (.inr ⟨i, .refl _⟩)
    ·have e' : c ∈ del r v w b := (mem_del R hvw).2 ⟨e, h1, h2⟩
     rcases ih with i | ⟨i, j⟩ | ⟨i, j⟩
     ·exact .inl (.step i e')
     ·exact .inr (.inl ⟨i, .step j e'⟩)
     ·exact .inr (.inr ⟨i, .step j e'⟩)
 ·rintro (c | ⟨c, d⟩ | ⟨c, d⟩)
  ·exact c.mono sub
  ·exact ((c.mono sub).trans (.one h)).trans (d.mono sub)
  ·exact ((c.mono sub).trans (.one (R.sy _ _ h))).trans (d.mono sub)
theorem cmps_del (R : IsRot n r) {v w : Nat} (h : w ∈ r v) : (Cr (del r v w) v w → cmps n (del r v w) = cmps n r) ∧ (¬ Cr (del r v w) v w → cmps n (del r v w) = cmps n r + 1) := by
 have hvw : v ≠ w := fun e => R.ir v (by rw [← e] at h; exact h)
 have R' := del_rot R hvw
 constructor
 ·intro c
  refine cls_congr fun a _ b _ => ?_
  rw [cr_del R h]
  exact ⟨.inl, fun x => x.elim id fun x => x.elim (fun x => (x.1.trans c).trans x.2) fun x => (x.1.trans (c.symm R')).trans x.2⟩
 ·intro c
  exact cls_merge (Cr.eqv R' _) (List.mem_range.2 (R.lt _ _ h)) (List.mem_range.2 (R.lt _ _ (R.sy _ _ h))) c fun a _ b _ => cr_del R h
theorem bridge_face (R : IsRot n r) {v w : Nat} (h : w ∈ r v) (hb : ¬ Cr (del r v w) v w) : Orb (fph r) (v, w) (w, v) := by
 have hvw : v ≠ w := fun e => R.ir v (by rw [← e] at h; exact h)
 have R' := del_rot R hvw
 have p := phi_pm R
 have hd : (v, w) ∈ dl n r := (mem_dl R).2 h
 refine Classical.byContradiction fun hno => hb ?_
 -- all that come behind are over there
 have key : ∀ j, 0 < j → Cr (del r v w) w (it (fph r) j (v, w)).1 ∨ ∃ i, 0 < i ∧ i < j ∧ it (fph r) i (v, w) = (v, w) := by
  intro j
  induction j with
  | zero => intro h; omega
  | succ j ih =>
   intro _
   by_cases j0 : j = 0
   ·subst j0; exact .inl (.refl _)
   rcases ih (by omega) with c | ⟨i, i0, ij, e⟩
   ·by_cases e1 : it (fph r) j (v, w) = (v, w)
    ·exact .inr ⟨j, by omega, by omega, e1⟩
    have e2 : it (fph r) j (v, w) ≠ (w, v) := fun e => hno ⟨j, e⟩
    have hm := p.it_mem hd j
    rw [it]
    generalize it (fph r) j (v, w) = z at *
    obtain ⟨a, b⟩ := z
    rw [mem_dl R] at hm
    refine .inl (c.step ?_)
    exact (mem_del R hvw).2 ⟨hm, fun e => e1 (Prod.ext e.1 e.2), fun e => e2 (Prod.ext e.1 e.2)⟩
   ·exact .inr ⟨i, i0, by omega, e⟩
 obtain ⟨k, ⟨k0, hk⟩, hl⟩ := least_of (p := fun k => 0 < k ∧ it (fph r) k (v, w) = (v, w)) (p.period hd)
 rcases key k k0 with c | ⟨i, i0, ik, e⟩
 ·rw [hk] at c; exact c.symm R'
 ·exact absurd ⟨i0, e⟩ (hl i ik)
theorem no_dart (R : IsRot n r) (h : dl n r = []) (v : Nat) : r v = [] := by
 cases e : r v with
 | nil => rfl
 | cons w l =>
  have : (v, w) ∈ dl n r := (mem_dl R).2 (by show w ∈ r v; rw [e]; exact List.mem_cons_self)
  rw [h] at this; cases this
theorem genus_ex : ∀ (m : Nat) (r : Nat → List Nat), IsRot n r → (dl n r).length = 2 * m → ∃ g, n + fcs n r + 2 * g = m + 2 * cmps n r
 | 0, r, R, h => by
  have h0 := List.length_eq_zero_iff.1 h
  have hr := no_dart R h0
  refine ⟨0, ?_⟩
  have e1 : fcs n r = n := by
   unfold fcs; rw [h0]
   have : (List.range n).filter (fun v => decide (r v = [])) = List.range n := by rw [List.filter_eq_self]; intro a _; simp [hr]
   rw [this]; simp [cls]
  have e2 : cmps n r = n := by
   unfold cmps
   have : ∀ a b, Cr r a b ↔ a = b := fun a b => by
    constructor
    ·intro c
     induction c with
     | refl => rfl
     | step _ e _ => rw [hr] at e; cases e
    ·rintro rfl; exact .refl _
   have key : ∀ l : List Nat, l.Nodup → cls (Cr r) l = l.length := by
    intro l
    induction l with
    | nil => intro _; rfl
    | cons x l ih =>
     intro nd
     rw [List.nodup_cons] at nd
     rw [cls, ih nd.2, if_neg]; rfl
     rintro ⟨y, hy, c⟩
     rw [(this x y).1 c] at nd; exact nd.1 hy
   rw [key _ List.nodup_range, List.length_range]
  omega
 | m + 1, r, R, h => by
  obtain ⟨d, l, e⟩ : ∃ d l, dl n r = d :: l := by
   cases hh : dl n r with
   | nil => rw [hh] at h; simp at h
   | cons d l => exact ⟨d, l, rfl⟩
  obtain ⟨v, w⟩ := d
  have hw : w ∈ r v := (mem_dl (d := (v, w)) R).1 (by rw [e]; exact List.mem_cons_self)
  have hvw : v ≠ w := fun e => R.ir v (by rw [← e] at hw; exact hw)
  have hl := (dl_del R hw).length_eq
  simp only [List.length_cons] at hl
  obtain ⟨g, hg⟩ := genus_ex m (del r v w) (del_rot R hvw) (by omega)
  obtain ⟨f1, f2⟩ := fcs_del R hw
  obtain ⟨c1, c2⟩ := cmps_del R hw
  by_cases ho : Orb (fph r) (v, w) (w, v)
  ·have := f1 ho
   by_cases hc : Cr (del r v w) v w
   ·have := c1 hc; exact ⟨g + 1, by omega⟩
   ·have := c2 hc; exact ⟨g, by omega⟩
  ·have := f2 ho
   have hc : Cr (del r v w) v w := Classical.byContradiction fun hc => ho (bridge_face R hw hc)
   have := c1 hc; exact ⟨g, by omega⟩
end
end Go.Fw
