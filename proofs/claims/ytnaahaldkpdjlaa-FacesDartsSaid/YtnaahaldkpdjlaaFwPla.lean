/- A text of the proof. -/
import Derived.Test.YtnaahaldkpdjlaaFwRot
set_option linter.unusedSimpArgs false
set_option linter.unusedVariables false
namespace Go.Fw
set_option maxRecDepth 10000
attribute [local instance] Classical.propDecidable
variable {n : Nat} {r : Nat → List Nat}
def Flat (n : Nat) (r : Nat → List Nat) : Prop := 2 * (n + fcs n r) = (dl n r).length + 4 * cmps n r
theorem dl_even : ∀ (m : Nat) (r : Nat → List Nat), IsRot n r → (dl n r).length = m → m % 2 = 0 := by
 intro m
 induction m using Nat.strongRecOn with
 | _ m ih =>
  intro r R h
  cases hh : dl n r with
  | nil => rw [hh] at h; simp at h; omega
  | cons d l =>
   obtain ⟨v, w⟩ := d
   have hw : w ∈ r v := (mem_dl (d := (v, w)) R).1 (by rw [hh]; exact List.mem_cons_self)
   have hvw : v ≠ w := fun e => R.ir v (by rw [← e] at hw; exact hw)
   have hl := (dl_del R hw).length_eq
   simp only [List.length_cons] at hl
   have := ih _ (by omega) _ (del_rot R hvw) rfl
   omega
theorem genus (R : IsRot n r) : ∃ g, 2 * (n + fcs n r) + 4 * g = (dl n r).length + 4 * cmps n r := by
 have he := dl_even _ r R rfl
 obtain ⟨g, hg⟩ := genus_ex ((dl n r).length / 2) r R (by omega)
 exact ⟨g, by omega⟩
theorem flat_del (R : IsRot n r) {v w : Nat} (h : w ∈ r v) (hf : Flat n r) : Flat n (del r v w) ∧ (Orb (fph r) (v, w) (w, v) ↔ ¬ Cr (del r v w) v w) := by
 have hvw : v ≠ w := fun e => R.ir v (by rw [← e] at h; exact h)
 have R' := del_rot R hvw
 have hl := (dl_del R h).length_eq
 simp only [List.length_cons] at hl
 obtain ⟨f1, f2⟩ := fcs_del R h
 obtain ⟨c1, c2⟩ := cmps_del R h
 obtain ⟨g, hg⟩ := genus R'
 have hb := bridge_face R h
 unfold Flat at *
 by_cases ho : Orb (fph r) (v, w) (w, v)
 ·have := f1 ho
  by_cases hc : Cr (del r v w) v w
  ·have := c1 hc; omega
  ·have := c2 hc; exact ⟨by omega, fun _ => hc, fun _ => ho⟩
 ·have := f2 ho
  have hc : Cr (del r v w) v w := Classical.byContradiction fun hc => ho (hb hc)
  have := c1 hc
  exact ⟨by omega, fun h => absurd h ho, fun h => absurd hc h⟩
noncomputable def keepE (P : Nat → Nat → Prop) (r : Nat → List Nat) : Nat → List Nat := fun v => (r v).filter fun w => decide (P v w)
theorem keepE_all {P : Nat → Nat → Prop} (h : ∀ v w, w ∈ r v → P v w) : keepE P r = r := by
 funext v; rw [keepE, List.filter_eq_self]; intro w hw; simpa using h v w hw
theorem keepE_del (R : IsRot n r) {P : Nat → Nat → Prop} {v w : Nat} (hvw : v ≠ w) (h1 : ¬ P v w) (h2 : ¬ P w v) : keepE P (del r v w) = keepE P r := by
 funext x
 unfold keepE del
 split
 ·rename_i e; subst e
  rw [(R.nd x).erase_eq_filter, List.filter_filter]
  refine List.filter_congr fun y _ => ?_
  by_cases e : y = w
  ·subst e; simp [h1]
  ·simp [e]
 ·split
  ·rename_i e1 e; subst e
   rw [(R.nd x).erase_eq_filter, List.filter_filter]
   refine List.filter_congr fun y _ => ?_
   by_cases e : y = v
   ·subst e; simp [h2]
   ·simp [e]
  ·rfl
theorem flat_keep : ∀ (m : Nat) (r : Nat → List Nat), IsRot n r → (dl n r).length = m → Flat n r → ∀ {P : Nat → Nat → Prop}, (∀ v w, P v w → P w v) → Flat n (keepE P r) := by
 intro m
 induction m using Nat.strongRecOn with
 | _ m ih =>
  intro r R hm hf P hP
  by_cases hall : ∀ v w, w ∈ r v → P v w
  ·rw [keepE_all hall]; exact hf
  obtain ⟨v, w, hw, hn⟩ : ∃ v w, w ∈ r v ∧ ¬ P v w := Classical.byContradiction fun hc => hall fun v w hw => Classical.byContradiction fun hn => hc ⟨v, w, hw, hn⟩
  have hvw : v ≠ w := fun e => R.ir v (by rw [← e] at hw; exact hw)
  have hl := (dl_del R hw).length_eq
  simp only [List.length_cons] at hl
  rw [← keepE_del R hvw hn fun h => hn (hP _ _ h)]
  exact ih _ (by omega) _ (del_rot R hvw) rfl (flat_del R hw hf).1 hP
theorem Flat.keep (R : IsRot n r) (hf : Flat n r) {P : Nat → Nat → Prop} (hP : ∀ v w, P v w → P w v) : Flat n (keepE P r) := flat_keep _ r R rfl hf hP
end Go.Fw
namespace Go.Fw
set_option maxRecDepth 10000
attribute [local instance] Classical.propDecidable
section
variable {α : Type} {X : List α} {f : α → α}
noncomputable def ordr (f : α → α) (x : α) : Nat := if h : ∃ k, 0 < k ∧ it f k x = x then Classical.choose (least_of h) else 0
theorem ordr_spec (p : Pm X f) {x : α} (hx : x ∈ X) : 0 < ordr f x ∧ it f (ordr f x) x = x ∧ ∀ j, 0 < j → j < ordr f x → it f j x ≠ x := by
 have h := p.period hx
 unfold ordr
 rw [dif_pos h]
 have := Classical.choose_spec (least_of h)
 exact ⟨this.1.1, this.1.2, fun j h0 hj e => this.2 j hj ⟨h0, e⟩⟩
noncomputable def orbL (f : α → α) (x : α) : List α := (List.range (ordr f x)).map fun k => it f k x
theorem orbL_len (f : α → α) (x : α) : (orbL f x).length = ordr f x := by simp [orbL]
theorem it_mod (p : Pm X f) {x : α} (hx : x ∈ X) (k : Nat) : it f k x = it f (k % ordr f x) x := by
 have h := (ordr_spec p hx).2.1
 have e : k = k % ordr f x + (k / ordr f x) * ordr f x := by have := Nat.mod_add_div k (ordr f x); rw [Nat.mul_comm] at this; omega
 conv => lhs; rw [e, it_add, p.it_mul h]
theorem mem_orbL (p : Pm X f) {x : α} (hx : x ∈ X) {y : α} : y ∈ orbL f x ↔ Orb f x y := by
 unfold orbL
 rw [List.mem_map]
 constructor
 ·rintro ⟨k, _, rfl⟩; exact ⟨k, rfl⟩
 ·rintro ⟨k, rfl⟩
  exact ⟨k % ordr f x, List.mem_range.2 (Nat.mod_lt _ (ordr_spec p hx).1), (it_mod p hx k).symm⟩
theorem it_first (p : Pm X f) {x : α} (hx : x ∈ X) {i j : Nat} (hj : j < ordr f x) (hij : i < j) : it f i x ≠ it f j x := fun e => by
 have h : it f j x = it f i (it f (j - i) x) := by rw [← it_add]; congr 1; omega
 rw [h] at e
 have := p.it_inj hx (p.it_mem hx _) i e
 exact (ordr_spec p hx).2.2 (j - i) (by omega) (by omega) this.symm
theorem orbL_nodup (p : Pm X f) {x : α} (hx : x ∈ X) : (orbL f x).Nodup := by
 unfold orbL
 rw [List.nodup_iff_pairwise_ne, List.pairwise_map, List.pairwise_iff_getElem]
 intro i j hi hj hij
 rw [List.length_range] at hj
 simp only [List.getElem_range]
 exact it_first p hx hj hij
end
def ltD (a b : Dart) : Prop := a.1 < b.1 ∨ a.1 = b.1 ∧ a.2 < b.2
instance (a b : Dart) : Decidable (ltD a b) := by unfold ltD; infer_instance
theorem ltD_irr (a : Dart) : ¬ ltD a a := by unfold ltD; omega
theorem ltD_trans {a b c : Dart} (h : ltD a b) (g : ltD b c) : ltD a c := by unfold ltD at *; omega
theorem ltD_tri (a b : Dart) : ltD a b ∨ a = b ∨ ltD b a := by
 unfold ltD
 by_cases h : a = b
 ·exact .inr (.inl h)
 ·have : a.1 ≠ b.1 ∨ a.2 ≠ b.2 := Classical.byContradiction fun hc => h (Prod.ext (by omega) (by omega))
  omega
section
variable {n : Nat} {r : Nat → List Nat}
noncomputable def ddl (n : Nat) (r : Nat → List Nat) : List Dart := (List.range n).flatMap fun v => ((List.range n).filter fun w => decide (w ∈ r v)).map fun w => (v, w)
theorem mem_ddl (R : IsRot n r) {d : Dart} : d ∈ ddl n r ↔ d.2 ∈ r d.1 := by
 obtain ⟨v, w⟩ := d
 simp only [ddl, List.mem_flatMap, List.mem_range, List.mem_map, List.mem_filter, decide_eq_true_eq, Prod.mk.injEq]
 constructor
 ·rintro ⟨x, _, y, ⟨_, hy⟩, rfl, rfl⟩; exact hy
 ·intro h; exact ⟨v, R.lt v w h, w, ⟨R.lt w v (R.sy _ _ h), h⟩, rfl, rfl⟩
theorem ddl_asc (n : Nat) (r : Nat → List Nat) : (ddl n r).Pairwise ltD := by
 unfold ddl
 rw [List.pairwise_flatMap]
 constructor
 ·intro v _
  rw [List.pairwise_map]
  exact ((List.pairwise_lt_range (n := n)).filter _).imp fun h => .inr ⟨rfl, h⟩
 ·refine (List.pairwise_lt_range (n := n)).imp fun {a b} h x hx y hy => ?_
  obtain ⟨_, _, rfl⟩ := List.mem_map.1 hx
  obtain ⟨_, _, rfl⟩ := List.mem_map.1 hy
  exact .inl h
theorem ddl_nodup (n : Nat) (r : Nat → List Nat) : (ddl n r).Nodup := (List.nodup_iff_pairwise_ne).2 ((ddl_asc n r).imp fun h e => by subst e; exact ltD_irr _ h)
def Hd (r : Nat → List Nat) (d : Dart) : Prop := ∀ e, Orb (fph r) d e → ¬ ltD e d
noncomputable def hdsF (n : Nat) (r : Nat → List Nat) : List Dart := (ddl n r).filter fun d => decide (Hd r d)
noncomputable def faceF (r : Nat → List Nat) (d : Dart) : List Nat := (orbL (fph r) d).map (·.1)
noncomputable def facesF (n : Nat) (r : Nat → List Nat) : List (List Nat) := (hdsF n r).map (faceF r)
theorem mem_hdsF (R : IsRot n r) {d : Dart} : d ∈ hdsF n r ↔ d.2 ∈ r d.1 ∧ Hd r d := by
 rw [hdsF, List.mem_filter, mem_ddl R, decide_eq_true_eq]
theorem hd_ex (R : IsRot n r) {d : Dart} (hd : d ∈ dl n r) : ∃ e, e ∈ hdsF n r ∧ Orb (fph r) d e := by
 have p := phi_pm R
 have key : ∀ (k : Nat) (l : List Dart), l.length = k → l ≠ [] → ∃ e ∈ l, ∀ y ∈ l, ¬ ltD y e := by
  intro k
  induction k with
  | zero => intro l h hn; exact absurd (List.length_eq_zero_iff.1 h) hn
  | succ k ih =>
   intro l h _
   cases l with
   | nil => cases h
   | cons x l =>
    by_cases e : l = []
    ·subst e; exact ⟨x, by simp, fun y hy => by rw [List.mem_singleton] at hy; subst hy; exact ltD_irr _⟩
    obtain ⟨y, hy, hm⟩ := ih l (by simpa using h) e
    by_cases q : ltD y x
    ·exact ⟨y, List.mem_cons_of_mem _ hy, fun z hz => by
      rcases List.mem_cons.1 hz with rfl | hz
      ·exact fun g => ltD_irr _ (ltD_trans q g)
      ·exact hm z hz⟩
    ·exact ⟨x, List.mem_cons_self, fun z hz => by
      rcases List.mem_cons.1 hz with rfl | hz
      ·exact ltD_irr _
      ·intro g
       have hmz := hm z hz
       rcases ltD_tri y x with h1 | h1 | h1
       ·exact q h1
       ·rw [h1] at hmz; exact hmz g
       ·exact hmz (ltD_trans g h1)⟩
 obtain ⟨e, he, hm⟩ := key _ (orbL (fph r) d) rfl (fun h => by have := (mem_orbL p hd).2 (Orb.refl (fph r) d); rw [h] at this; cases this)
 have ho := (mem_orbL p hd).1 he
 refine ⟨e, (mem_hdsF R).2 ⟨(mem_dl R).1 (p.orb_mem hd ho), fun y hy => hm y ((mem_orbL p hd).2 (ho.trans hy))⟩, ho⟩
theorem hd_uniq (R : IsRot n r) {d e : Dart} (hd : d ∈ hdsF n r) (he : e ∈ hdsF n r) (h : Orb (fph r) d e) : d = e := by
 rw [mem_hdsF R] at hd he
 have h1 := hd.2 e h
 have h2 := he.2 d ((phi_pm R).orb_symm ((mem_dl R).2 hd.1) h)
 rcases ltD_tri d e with q | q | q
 ·exact absurd q h2
 ·exact q
 ·exact absurd q h1
theorem ordr_two (R : IsRot n r) {d : Dart} (hd : d ∈ dl n r) : 2 ≤ ordr (fph r) d := by
 have p := phi_pm R
 obtain ⟨h0, h1, _⟩ := ordr_spec p hd
 refine Classical.byContradiction fun hc => ?_
 have e : ordr (fph r) d = 1 := by omega
 rw [e] at h1
 have h2 : d.2 = d.1 := congrArg Prod.fst h1
 have := (mem_dl R).1 hd
 rw [h2] at this
 exact R.ir _ this
end
end Go.Fw
namespace Go.Fw
set_option maxRecDepth 10000
attribute [local instance] Classical.propDecidable
theorem asc_eq {α : Type} {lt : α → α → Prop} (irr : ∀ a, ¬ lt a a) (tr : ∀ a b c, lt a b → lt b c → lt a c) : ∀ (l m : List α), l.Pairwise lt → m.Pairwise lt → (∀ x, x ∈ l ↔ x ∈ m) → l = m
 | [], [], _, _, _ => rfl
 | [], y :: m, _, _, h => absurd ((h y).2 List.mem_cons_self) List.not_mem_nil
 | x :: l, [], _, _, h => absurd ((h x).1 List.mem_cons_self) List.not_mem_nil
 | x :: l, y :: m, hl, hm, h => by
  rw [List.pairwise_cons] at hl hm
  have e : x = y := by
   rcases List.mem_cons.1 ((h x).1 List.mem_cons_self) with e | e
   ·exact e
   ·rcases List.mem_cons.1 ((h y).2 List.mem_cons_self) with e2 | e2
    ·exact e2.symm
    ·exact absurd (tr _ _ _ (hl.1 y e2) (hm.1 x e)) (irr x)
  subst e
  congr 1
  refine asc_eq irr tr l m hl.2 hm.2 fun z => ?_
  have hz := h z
  simp only [List.mem_cons] at hz
  constructor
  ·intro g
   rcases hz.1 (.inr g) with e | e
   ·subst e; exact absurd (hl.1 z g) (irr z)
   ·exact e
  ·intro g
   rcases hz.2 (.inr g) with e | e
   ·subst e; exact absurd (hm.1 z g) (irr z)
   ·exact e
section
variable {n : Nat} {r : Nat → List Nat}
theorem ordr_eq {α : Type} {X : List α} {f : α → α} (p : Pm X f) {x : α} (hx : x ∈ X) {k : Nat} (h0 : 0 < k) (h1 : it f k x = x) (h2 : ∀ j, j < k → 0 < j → it f j x ≠ x) : ordr f x = k := by
 obtain ⟨a, b, c⟩ := ordr_spec p hx
 rcases Nat.lt_trichotomy (ordr f x) k with h | h | h
 ·exact absurd b (h2 _ h a)
 ·exact h
 ·exact absurd h1 (c k h0 h)
def Cert (n : Nat) (r : Nat → List Nat) (hs : List (Dart × Nat)) : Prop :=
 (∀ p ∈ hs, p.1.2 ∈ r p.1.1 ∧ 0 < p.2 ∧ it (fph r) p.2 p.1 = p.1 ∧ ∀ j, j < p.2 → (0 < j → it (fph r) j p.1 ≠ p.1) ∧ ¬ ltD (it (fph r) j p.1) p.1) ∧ (hs.map (·.1)).Pairwise ltD ∧ ∀ d ∈ dl n r, ∃ p ∈ hs, d ∈ (List.range p.2).map fun j => it (fph r) j p.1
theorem facesF_cert (R : IsRot n r) {hs : List (Dart × Nat)} (C : Cert n r hs) : facesF n r = hs.map fun p => (List.range p.2).map fun j => (it (fph r) j p.1).1 := by
 obtain ⟨h1, h2, h3⟩ := C
 have p := phi_pm R
 have ho : ∀ q ∈ hs, ordr (fph r) q.1 = q.2 := fun q hq => by
  obtain ⟨a, b, c, d⟩ := h1 q hq
  exact ordr_eq p ((mem_dl R).2 a) b c fun j hj h0 => (d j hj).1 h0
 have hhd : ∀ q ∈ hs, Hd r q.1 := fun q hq => by
  obtain ⟨a, b, c, d⟩ := h1 q hq
  rintro e ⟨k, rfl⟩
  rw [it_mod p ((mem_dl R).2 a) k, ho q hq]
  exact (d _ (Nat.mod_lt _ b)).2
 have e : hdsF n r = hs.map (·.1) := by
  refine asc_eq ltD_irr (fun _ _ _ => ltD_trans) _ _ ((ddl_asc n r).filter _) h2 fun x => ?_
  constructor
  ·intro hx
   obtain ⟨hx1, hx2⟩ := (mem_hdsF R).1 hx
   obtain ⟨q, hq, hm⟩ := h3 x ((mem_dl R).2 hx1)
   obtain ⟨j, _, ej⟩ := List.mem_map.1 hm
   have : q.1 ∈ hdsF n r := (mem_hdsF R).2 ⟨(h1 q hq).1, hhd q hq⟩
   have := hd_uniq R this hx ⟨j, ej⟩
   rw [← this]; exact List.mem_map.2 ⟨q, hq, rfl⟩
  ·intro hx
   obtain ⟨q, hq, rfl⟩ := List.mem_map.1 hx
   exact (mem_hdsF R).2 ⟨(h1 q hq).1, hhd q hq⟩
 rw [facesF, e, List.map_map]
 refine List.map_congr_left fun q hq => ?_
 simp only [Function.comp, faceF, orbL, ho q hq, List.map_map]
 rfl
end
end Go.Fw
namespace Go.Fw
set_option maxRecDepth 10000
attribute [local instance] Classical.propDecidable
def inv (d : Dart) : Dart := (d.2, d.1)
section
variable {n : Nat} {r : Nat → List Nat}
end
end Go.Fw
