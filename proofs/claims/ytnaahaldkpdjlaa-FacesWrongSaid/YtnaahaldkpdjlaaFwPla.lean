/- A text of the proof. -/
import Derived.Test.YtnaahaldkpdjlaaFwRot
import Derived.Test.YtnaahaldkpdjlaaFwRep2
import Derived.Test.YtnaahaldkpdjlaaFwFrame
import Derived.Test.YtnaahaldkpdjlaaFwOps7
import Derived.KernelRfl
import Derived.Test.YtnaahaldkpdjlaaProg
set_option linter.unusedSimpArgs false
set_option linter.unusedVariables false
namespace Go.Fw
set_option maxRecDepth 10000
attribute [local instance] Classical.propDecidable
variable {n : Nat} {r : Nat → List Nat}
def Flat (n : Nat) (r : Nat → List Nat) : Prop := 2 * (n + fcs n r) = (dl n r).length + 4 * cmps n r
theorem dl_even : ∀ (m : Nat) (r : Nat → List Nat), IsRot n r → (dl n r).length = m → m % 2 = 0 := by
 intro m
 induction m using Nat.strongRecOn with
 | _ m ih =>
  intro r R h
  cases hh : dl n r with
  | nil => rw [hh] at h; simp at h; omega
  | cons d l =>
   obtain ⟨v, w⟩ := d
   have hw : w ∈ r v := (mem_dl (d := (v, w)) R).1 (by rw [hh]; exact List.mem_cons_self)
   have hvw : v ≠ w := fun e => R.ir v (by rw [← e] at hw; exact hw)
   have hl := (dl_del R hw).length_eq
   simp only [List.length_cons] at hl
   have := ih _ (by omega) _ (del_rot R hvw) rfl
   omega
theorem genus (R : IsRot n r) : ∃ g, 2 * (n + fcs n r) + 4 * g = (dl n r).length + 4 * cmps n r := by
 have he := dl_even _ r R rfl
 obtain ⟨g, hg⟩ := genus_ex ((dl n r).length / 2) r R (by omega)
 exact ⟨g, by omega⟩
theorem flat_del (R : IsRot n r) {v w : Nat} (h : w ∈ r v) (hf : Flat n r) : Flat n (del r v w) ∧ (Orb (fph r) (v, w) (w, v) ↔ ¬ Cr (del r v w) v w) := by
 have hvw : v ≠ w := fun e => R.ir v (by rw [← e] at h; exact h)
 have R' := del_rot R hvw
 have hl := (dl_del R h).length_eq
 simp only [List.length_cons] at hl
 obtain ⟨f1, f2⟩ := fcs_del R h
 obtain ⟨c1, c2⟩ := cmps_del R h
 obtain ⟨g, hg⟩ := genus R'
 have hb := bridge_face R h
 unfold Flat at *
 by_cases ho : Orb (fph r) (v, w) (w, v)
 ·have := f1 ho
  by_cases hc : Cr (del r v w) v w
  ·have := c1 hc; omega
  ·have := c2 hc; exact ⟨by omega, fun _ => hc, fun _ => ho⟩
 ·have := f2 ho
  have hc : Cr (del r v w) v w := Classical.byContradiction fun hc => ho (hb hc)
  have := c1 hc
  exact ⟨by omega, fun h => absurd h ho, fun h => absurd hc h⟩
noncomputable def keepE (P : Nat → Nat → Prop) (r : Nat → List Nat) : Nat → List Nat := fun v => (r v).filter fun w => decide (P v w)
theorem keepE_all {P : Nat → Nat → Prop} (h : ∀ v w, w ∈ r v → P v w) : keepE P r = r := by
 funext v; rw [keepE, List.filter_eq_self]; intro w hw; simpa using h v w hw
theorem keepE_del (R : IsRot n r) {P : Nat → Nat → Prop} {v w : Nat} (hvw : v ≠ w) (h1 : ¬ P v w) (h2 : ¬ P w v) : keepE P (del r v w) = keepE P r := by
 funext x
 unfold keepE del
 split
 ·rename_i e; subst e
  rw [(R.nd x).erase_eq_filter, List.filter_filter]
  refine List.filter_congr fun y _ => ?_
  by_cases e : y = w
  ·subst e; simp [h1]
  ·simp [e]
 ·split
  ·rename_i e1 e; subst e
   rw [(R.nd x).erase_eq_filter, List.filter_filter]
   refine List.filter_congr fun y _ => ?_
   by_cases e : y = v
   ·subst e; simp [h2]
   ·simp [e]
  ·rfl
theorem flat_keep : ∀ (m : Nat) (r : Nat → List Nat), IsRot n r → (dl n r).length = m → Flat n r → ∀ {P : Nat → Nat → Prop}, (∀ v w, P v w → P w v) → Flat n (keepE P r) := by
 intro m
 induction m using Nat.strongRecOn with
 | _ m ih =>
  intro r R hm hf P hP
  by_cases hall : ∀ v w, w ∈ r v → P v w
  ·rw [keepE_all hall]; exact hf
  obtain ⟨v, w, hw, hn⟩ : ∃ v w, w ∈ r v ∧ ¬ P v w := Classical.byContradiction fun hc => hall fun v w hw => Classical.byContradiction fun hn => hc ⟨v, w, hw, hn⟩
  have hvw : v ≠ w := fun e => R.ir v (by rw [← e] at hw; exact hw)
  have hl := (dl_del R hw).length_eq
  simp only [List.length_cons] at hl
  rw [← keepE_del R hvw hn fun h => hn (hP _ _ h)]
  exact ih _ (by omega) _ (del_rot R hvw) rfl (flat_del R hw hf).1 hP
theorem Flat.keep (R : IsRot n r) (hf : Flat n r) {P : Nat → Nat → Prop} (hP : ∀ v w, P v w → P w v) : Flat n (keepE P r) := flat_keep _ r R rfl hf hP
end Go.Fw
namespace Go.Fw
set_option maxRecDepth 10000
attribute [local instance] Classical.propDecidable
section
variable {α : Type} {X : List α} {f : α → α}
noncomputable def ordr (f : α → α) (x : α) : Nat := if h : ∃ k, 0 < k ∧ it f k x = x then Classical.choose (least_of h) else 0
theorem ordr_spec (p : Pm X f) {x : α} (hx : x ∈ X) : 0 < ordr f x ∧ it f (ordr f x) x = x ∧ ∀ j, 0 < j → j < ordr f x → it f j x ≠ x := by
 have h := p.period hx
 unfold ordr
 rw [dif_pos h]
 have := Classical.choose_spec (least_of h)
 exact ⟨this.1.1, this.1.2, fun j h0 hj e => this.2 j hj ⟨h0, e⟩⟩
noncomputable def orbL (f : α → α) (x : α) : List α := (List.range (ordr f x)).map fun k => it f k x
theorem orbL_len (f : α → α) (x : α) : (orbL f x).length = ordr f x := by simp [orbL]
theorem it_mod (p : Pm X f) {x : α} (hx : x ∈ X) (k : Nat) : it f k x = it f (k % ordr f x) x := by
 have h := (ordr_spec p hx).2.1
 have e : k = k % ordr f x + (k / ordr f x) * ordr f x := by have := Nat.mod_add_div k (ordr f x); rw [Nat.mul_comm] at this; omega
 conv => lhs; rw [e, it_add, p.it_mul h]
theorem mem_orbL (p : Pm X f) {x : α} (hx : x ∈ X) {y : α} : y ∈ orbL f x ↔ Orb f x y := by
 unfold orbL
 rw [List.mem_map]
 constructor
 ·rintro ⟨k, _, rfl⟩; exact ⟨k, rfl⟩
 ·rintro ⟨k, rfl⟩
  exact ⟨k % ordr f x, List.mem_range.2 (Nat.mod_lt _ (ordr_spec p hx).1), (it_mod p hx k).symm⟩
theorem it_first (p : Pm X f) {x : α} (hx : x ∈ X) {i j : Nat} (hj : j < ordr f x) (hij : i < j) : it f i x ≠ it f j x := fun e => by
 have h : it f j x = it f i (it f (j - i) x) := by rw [← it_add]; congr 1; omega
 rw [h] at e
 have := p.it_inj hx (p.it_mem hx _) i e
 exact (ordr_spec p hx).2.2 (j - i) (by omega) (by omega) this.symm
theorem orbL_nodup (p : Pm X f) {x : α} (hx : x ∈ X) : (orbL f x).Nodup := by
 unfold orbL
 rw [List.nodup_iff_pairwise_ne, List.pairwise_map, List.pairwise_iff_getElem]
 intro i j hi hj hij
 rw [List.length_range] at hj
 simp only [List.getElem_range]
 exact it_first p hx hj hij
end
def ltD (a b : Dart) : Prop := a.1 < b.1 ∨ a.1 = b.1 ∧ a.2 < b.2
instance (a b : Dart) : Decidable (ltD a b) := by unfold ltD; infer_instance
theorem ltD_irr (a : Dart) : ¬ ltD a a := by unfold ltD; omega
theorem ltD_trans {a b c : Dart} (h : ltD a b) (g : ltD b c) : ltD a c := by unfold ltD at *; omega
theorem ltD_tri (a b : Dart) : ltD a b ∨ a = b ∨ ltD b a := by
 unfold ltD
 by_cases h : a = b
 ·exact .inr (.inl h)
 ·have : a.1 ≠ b.1 ∨ a.2 ≠ b.2 := Classical.byContradiction fun hc => h (Prod.ext (by omega) (by omega))
  omega
section
variable {n : Nat} {r : Nat → List Nat}
noncomputable def ddl (n : Nat) (r : Nat → List Nat) : List Dart := (List.range n).flatMap fun v => ((List.range n).filter fun w => decide (w ∈ r v)).map fun w => (v, w)
theorem mem_ddl (R : IsRot n r) {d : Dart} : d ∈ ddl n r ↔ d.2 ∈ r d.1 := by
 obtain ⟨v, w⟩ := d
 simp only [ddl, List.mem_flatMap, List.mem_range, List.mem_map, List.mem_filter, decide_eq_true_eq, Prod.mk.injEq]
 constructor
 ·rintro ⟨x, _, y, ⟨_, hy⟩, rfl, rfl⟩; exact hy
 ·intro h; exact ⟨v, R.lt v w h, w, ⟨R.lt w v (R.sy _ _ h), h⟩, rfl, rfl⟩
theorem ddl_asc (n : Nat) (r : Nat → List Nat) : (ddl n r).Pairwise ltD := by
 unfold ddl
 rw [List.pairwise_flatMap]
 constructor
 ·intro v _
  rw [List.pairwise_map]
  exact ((List.pairwise_lt_range (n := n)).filter _).imp fun h => .inr ⟨rfl, h⟩
 ·refine (List.pairwise_lt_range (n := n)).imp fun {a b} h x hx y hy => ?_
  obtain ⟨_, _, rfl⟩ := List.mem_map.1 hx
  obtain ⟨_, _, rfl⟩ := List.mem_map.1 hy
  exact .inl h
def Hd (r : Nat → List Nat) (d : Dart) : Prop := ∀ e, Orb (fph r) d e → ¬ ltD e d
noncomputable def hdsF (n : Nat) (r : Nat → List Nat) : List Dart := (ddl n r).filter fun d => decide (Hd r d)
noncomputable def faceF (r : Nat → List Nat) (d : Dart) : List Nat := (orbL (fph r) d).map (·.1)
noncomputable def facesF (n : Nat) (r : Nat → List Nat) : List (List Nat) := (hdsF n r).map (faceF r)
theorem mem_hdsF (R : IsRot n r) {d : Dart} : d ∈ hdsF n r ↔ d.2 ∈ r d.1 ∧ Hd r d := by
 rw [hdsF, List.mem_filter, mem_ddl R, decide_eq_true_eq]
theorem hd_uniq (R : IsRot n r) {d e : Dart} (hd : d ∈ hdsF n r) (he : e ∈ hdsF n r) (h : Orb (fph r) d e) : d = e := by
 rw [mem_hdsF R] at hd he
 have h1 := hd.2 e h
 have h2 := he.2 d ((phi_pm R).orb_symm ((mem_dl R).2 hd.1) h)
 rcases ltD_tri d e with q | q | q
 ·exact absurd q h2
 ·exact q
 ·exact absurd q h1
end
end Go.Fw
namespace Go.Fw
set_option maxRecDepth 10000
attribute [local instance] Classical.propDecidable
theorem asc_eq {α : Type} {lt : α → α → Prop} (irr : ∀ a, ¬ lt a a) (tr : ∀ a b c, lt a b → lt b c → lt a c) : ∀ (l m : List α), l.Pairwise lt → m.Pairwise lt → (∀ x, x ∈ l ↔ x ∈ m) → l = m
 | [], [], _, _, _ => rfl
 | [], y :: m, _, _, h => absurd ((h y).2 List.mem_cons_self) List.not_mem_nil
 | x :: l, [], _, _, h => absurd ((h x).1 List.mem_cons_self) List.not_mem_nil
 | x :: l, y :: m, hl, hm, h => by
  rw [List.pairwise_cons] at hl hm
  have e : x = y := by
   rcases List.mem_cons.1 ((h x).1 List.mem_cons_self) with e | e
   ·exact e
   ·rcases List.mem_cons.1 ((h y).2 List.mem_cons_self) with e2 | e2
    ·exact e2.symm
    ·exact absurd (tr _ _ _ (hl.1 y e2) (hm.1 x e)) (irr x)
  subst e
  congr 1
  refine asc_eq irr tr l m hl.2 hm.2 fun z => ?_
  have hz := h z
  simp only [List.mem_cons] at hz
  constructor
  ·intro g
   rcases hz.1 (.inr g) with e | e
   ·subst e; exact absurd (hl.1 z g) (irr z)
   ·exact e
  ·intro g
   rcases hz.2 (.inr g) with e | e
   ·subst e; exact absurd (hm.1 z g) (irr z)
   ·exact e
section
variable {n : Nat} {r : Nat → List Nat}
theorem ordr_eq {α : Type} {X : List α} {f : α → α} (p : Pm X f) {x : α} (hx : x ∈ X) {k : Nat} (h0 : 0 < k) (h1 : it f k x = x) (h2 : ∀ j, j < k → 0 < j → it f j x ≠ x) : ordr f x = k := by
 obtain ⟨a, b, c⟩ := ordr_spec p hx
 rcases Nat.lt_trichotomy (ordr f x) k with h | h | h
 ·exact absurd b (h2 _ h a)
 ·exact h
 ·exact absurd h1 (c k h0 h)
def Cert (n : Nat) (r : Nat → List Nat) (hs : List (Dart × Nat)) : Prop :=
 (∀ p ∈ hs, p.1.2 ∈ r p.1.1 ∧ 0 < p.2 ∧ it (fph r) p.2 p.1 = p.1 ∧ ∀ j, j < p.2 → (0 < j → it (fph r) j p.1 ≠ p.1) ∧ ¬ ltD (it (fph r) j p.1) p.1) ∧ (hs.map (·.1)).Pairwise ltD ∧ ∀ d ∈ dl n r, ∃ p ∈ hs, d ∈ (List.range p.2).map fun j => it (fph r) j p.1
theorem facesF_cert (R : IsRot n r) {hs : List (Dart × Nat)} (C : Cert n r hs) : facesF n r = hs.map fun p => (List.range p.2).map fun j => (it (fph r) j p.1).1 := by
 obtain ⟨h1, h2, h3⟩ := C
 have p := phi_pm R
 have ho : ∀ q ∈ hs, ordr (fph r) q.1 = q.2 := fun q hq => by
  obtain ⟨a, b, c, d⟩ := h1 q hq
  exact ordr_eq p ((mem_dl R).2 a) b c fun j hj h0 => (d j hj).1 h0
 have hhd : ∀ q ∈ hs, Hd r q.1 := fun q hq => by
  obtain ⟨a, b, c, d⟩ := h1 q hq
  rintro e ⟨k, rfl⟩
  rw [it_mod p ((mem_dl R).2 a) k, ho q hq]
  exact (d _ (Nat.mod_lt _ b)).2
 have e : hdsF n r = hs.map (·.1) := by
  refine asc_eq ltD_irr (fun _ _ _ => ltD_trans) _ _ ((ddl_asc n r).filter _) h2 fun x => ?_
  constructor
  ·intro hx
   obtain ⟨hx1, hx2⟩ := (mem_hdsF R).1 hx
   obtain ⟨q, hq, hm⟩ := h3 x ((mem_dl R).2 hx1)
   obtain ⟨j, _, ej⟩ := List.mem_map.1 hm
   have : q.1 ∈ hdsF n r := (mem_hdsF R).2 ⟨(h1 q hq).1, hhd q hq⟩
   have := hd_uniq R this hx ⟨j, ej⟩
   rw [← this]; exact List.mem_map.2 ⟨q, hq, rfl⟩
  ·intro hx
   obtain ⟨q, hq, rfl⟩ := List.mem_map.1 hx
   exact (mem_hdsF R).2 ⟨(h1 q hq).1, hhd q hq⟩
 rw [facesF, e, List.map_map]
 refine List.map_congr_left fun q hq => ?_
 simp only [Function.comp, faceF, orbL, ho q hq, List.map_map]
 rfl
end
end Go.Fw
namespace Go.Fw
set_option maxRecDepth 10000
attribute [local instance] Classical.propDecidable
def inv (d : Dart) : Dart := (d.2, d.1)
section
variable {n : Nat} {r : Nat → List Nat}
end
end Go.Fw
namespace Go.Fw
open Go.Proofs
set_option maxHeartbeats 1000000
set_option maxRecDepth 10000
theorem mixed : Try.prog.follows .mixedOrders = true := by kernel_rfl
theorem getElem?_of {α : Type} {l : List α} {i : Nat} (h : i < l.length) : l[i]? = some l[i] := List.getElem?_eq_getElem h
theorem getD_of {α : Type} {l : List α} {i : Nat} {d : α} (h : i < l.length) : l.getD i d = l[i] := by simp [List.getD, h]
def BoolIs (p : Prop) (v : Value) : Prop := ∃ b : Bool, v = .bool b ∧ (b = true ↔ p)
theorem BoolIs.t {p : Prop} (h : p) : BoolIs p (.bool true) := ⟨true, rfl, by simp [h]⟩
theorem BoolIs.f {p : Prop} (h : ¬ p) : BoolIs p (.bool false) := ⟨false, rfl, by simp [h]⟩
theorem lt_t {i n : Nat} (h : decide ((i : Int) < (n : Int)) = true) : i < n := by have := of_decide_eq_true h; omega
theorem lt_f {i n : Nat} (h : decide ((i : Int) < (n : Int)) = false) : n ≤ i := by have := of_decide_eq_false h; omega
theorem alloc_f {h : AHeap} (hw : WF h) (c : List Value) : ∃ h', h.alloc (.cells c) = h' ∧ Le h h' ∧ WF h' ∧ h'.own h.next = some (.cells c) := ⟨_, rfl, (Le.refl h).alloc hw _, hw.alloc _, AHeap.own_alloc_eq _ _⟩
theorem byOne2 {ι κ : Type} {F : ι → κ → Prop} {A : Prop} (Φ : ι → κ → Prop) (h1 : (∀ x y, F x y → Φ x y) → A) (h2 : ∀ x y, F x y → Φ x y) : A := h1 h2
theorem KN.gen2 {P : Program} {W0 : Base} {N : Nat} {ks : List Kt} {R : Exit → AFrame → AHeap → Prop} {fr : AFrame} {h : AHeap} (q : ∀ fr' h', fr' = fr → h' = h → KN P W0 N ks R fr' h') : KN P W0 N ks R fr h := q fr h rfl rfl
theorem GS.kept {k n : Nat} {h h' : AHeap} {v : Value} {cs : List Value} (g : GS k h v n cs) (hk : ∀ b o, blk v = some b → h.own b = some o → h'.own b = some o) : GS k h' v n cs := by
 obtain ⟨hl, q | ⟨i, c, cap, rfl, ho, rr⟩⟩ := g
 ·exact ⟨hl, .inl q⟩
 ·exact ⟨hl, .inr ⟨i, c, cap, rfl, hk i _ rfl ho, rr⟩⟩
theorem GS.put {k n : Nat} {h : AHeap} {v : Value} {cs : List Value} (g : GS k h v n cs) {id : Nat} (o : AObj) (hb : blk v ≠ some id) : GS k (h.put id o) v n cs :=
 g.kept fun b o' hv ho => by rw [AHeap.own_put_ne _ _ _ _ (fun e => hb (by rw [← e]; exact hv))]; exact ho
abbrev Pr := Int × Int
def cellsP (p : Pr) : List Value := [.int .i64 p.1, .int .i64 p.2]
def valP (p : Pr) : Value := .agg #[.int .i64 p.1, .int .i64 p.2]
def flatP (ps : List Pr) : List Value := ps.flatMap cellsP
theorem flatP_length (ps : List Pr) : (flatP ps).length = ps.length * 2 := by
 induction ps with
 | nil => rfl
 | cons p ps ih => simp [flatP, cellsP] at ih ⊢; omega
theorem flatP_one (ps : List Pr) : (flatP ps).all (·.oneCell') = true := by
 rw [List.all_eq_true]; intro x hx; rw [flatP, List.mem_flatMap] at hx
 obtain ⟨p, _, hx⟩ := hx
 simp [cellsP] at hx
 rcases hx with rfl | rfl <;> rfl
theorem flatP_append (a b : List Pr) : flatP (a ++ b) = flatP a ++ flatP b := by simp [flatP]
theorem flatP_get : ∀ (ps : List Pr) (i : Nat) (p : Pr), ps[i]? = some p → (flatP ps)[i * 2]? = some (.int .i64 p.1) ∧ (flatP ps)[i * 2 + 1]? = some (.int .i64 p.2)
 | [], i, p, h => by simp at h
 | q :: ps, 0, p, h => by simp at h; subst h; simp [flatP, cellsP]
 | q :: ps, i + 1, p, h => by
  have := flatP_get ps i p (by simpa using h)
  have e : flatP (q :: ps) = .int .i64 q.1 :: .int .i64 q.2 :: flatP ps := rfl
  rw [e, show (i + 1) * 2 = (i * 2 + 1) + 1 by omega]
  simpa using this
def PR (h : AHeap) (v : Value) (ps : List Pr) : Prop := CS 2 h v ps.length (flatP ps)
def pAddr (v : Value) (i : Nat) : Addr := elemAddr v (i * 2)
theorem PR.le {h h' : AHeap} {v : Value} {ps : List Pr} (r : PR h v ps) (e : Le h h') : PR h' v ps := CS.le r e
theorem PR.nil (h : AHeap) : PR h (.slice none 0 0) [] := CS.nil 2 h
theorem ts42 : tsize Try.prog 61 = 2 := by kernel_rfl
theorem ts3 : tsize Try.prog 3 = 1 := by kernel_rfl
theorem PR.len {h : AHeap} {v : Value} {ps : List Pr} (r : PR h v ps) (g : AHeap) : aLen Try.prog g 22 v = some (.int .i64 ps.length) := by
 obtain ⟨a, c, rfl, _⟩ := r.sl; simp [aLen, Try.underlying22]
theorem PR.addr {h : AHeap} {v : Value} {ps : List Pr} (r : PR h v ps) {k : IntKind} (i : Nat) (hi : i < ps.length) : aIndexAddr Try.prog 22 v (.int k i) = some (.pointer (some (pAddr v i))) := by
 obtain ⟨a, c, rfl, hs⟩ := r.sl
 obtain ⟨a, rfl⟩ := Option.isSome_iff_exists.1 (hs (by omega))
 have h1 : (i : Int) < (ps.length : Int) := by omega
 simp [aIndexAddr, Try.underlying22, Try.underlying61, h1, pAddr, elemAddr, ts42]
theorem pa0 (a : Addr) : aIndexAddr Try.prog 61 (.pointer (some a)) (.int .i64 0) = some (.pointer (some (aadd a 0))) := by
 simp [aIndexAddr, Try.underlying61, Try.underlying3]
theorem pa1 (a : Addr) : aIndexAddr Try.prog 61 (.pointer (some a)) (.int .i64 1) = some (.pointer (some (aadd a 1))) := by
 simp [aIndexAddr, Try.underlying61, Try.underlying3, ts3]
theorem PR.get {h : AHeap} {v : Value} {ps : List Pr} (r : PR h v ps) {i : Nat} {p : Pr} (hp : ps[i]? = some p) :
  h.read (aadd (pAddr v i) 0) = some (.int .i64 p.1) ∧ h.read (aadd (pAddr v i) 1) = some (.int .i64 p.2) := by
 obtain ⟨f1, f2⟩ := flatP_get ps i p hp
 have g1 := CS.get r _ _ f1
 have g2 := CS.get r _ _ f2
 obtain ⟨a, c, rfl, hs⟩ := r.sl
 have hi := (List.getElem?_eq_some_iff.1 hp).1
 obtain ⟨a, rfl⟩ := Option.isSome_iff_exists.1 (hs (by omega))
 simp only [pAddr, elemAddr_mk, aadd] at *
 exact ⟨by simpa using g1, by simpa [Nat.add_assoc] using g2⟩
theorem PR.load {h : AHeap} {v : Value} {ps : List Pr} (r : PR h v ps) {i : Nat} {p : Pr} (hp : ps[i]? = some p) : aload Try.prog h 61 (pAddr v i) = some (valP p) := by
 obtain ⟨g1, g2⟩ := r.get hp
 have hrd : readN h (pAddr v i) 2 = some [.int .i64 p.1, .int .i64 p.2] := by
  refine readN_get [.int .i64 p.1, .int .i64 p.2] _ fun j x hx => ?_
  match j with
  | 0 => simp at hx; subst hx; exact g1
  | 1 => simp at hx; subst hx; exact g2
  | j + 2 => simp at hx
 have hd : isAggD (.array 2 3) = true := rfl
 simp only [aload, Try.underlying61, hd, cond_true, ts42, hrd, valP]
theorem alloc42 (h : AHeap) : aAlloc Try.prog h 61 = some (.pointer (some ⟨h.next, 0, none⟩), h.alloc (.cells [.int .i64 0, .int .i64 0])) := rfl
theorem store42 {h : AHeap} {w : Nat} {x y : Value} {p : Pr} (ho : h.own w = some (.cells [x, y])) : aStore Try.prog h 61 (.pointer (some ⟨w, 0, none⟩)) (valP p) = some (h.put w (.cells (cellsP p))) := by
 simp [aStore, ho, valP, Value.cells, ts42, putCells, cellsP, Try.underlying61]
 exact ⟨rfl, rfl⟩
theorem box42 (h : AHeap) (p : Pr) : aBox h (valP p) = some (.pointer (some ⟨h.next, 0, none⟩), h.alloc (.cells (cellsP p))) := rfl
theorem own0 {h : AHeap} {w : Nat} {p : Pr} (ho : h.own w = some (.cells (cellsP p))) : aload Try.prog h 3 ⟨w, 0, none⟩ = some (.int .i64 p.1) := by rw [aload_one Try.underlying3 rfl ho]; rfl
theorem own1 {h : AHeap} {w : Nat} {p : Pr} (ho : h.own w = some (.cells (cellsP p))) : aload Try.prog h 3 ⟨w, 1, none⟩ = some (.int .i64 p.2) := by rw [aload_one Try.underlying3 rfl ho]; rfl
theorem own42 {h : AHeap} {w : Nat} {p : Pr} (ho : h.own w = some (.cells (cellsP p))) : aload Try.prog h 61 ⟨w, 0, none⟩ = some (valP p) := by
 rw [aload_own Try.underlying61 rfl ts42 ho (by simp [cellsP])]; rfl
theorem new42 {h : AHeap} (hw : WF h) (p : Pr) : ∃ h1 h2, aAlloc Try.prog h 61 = some (.pointer (some ⟨h.next, 0, none⟩), h1) ∧ aStore Try.prog h1 61 (.pointer (some ⟨h.next, 0, none⟩)) (valP p) = some h2 ∧ Le h h2 ∧ WF h2 ∧ h2.own h.next = some (.cells (cellsP p)) := by
 obtain ⟨h1, e1, l1, w1, o1⟩ := alloc_f hw [.int .i64 0, .int .i64 0]
 have nw : h.own h.next = none := (Le.refl h).next hw (Nat.le_refl _)
 exact ⟨h1, _, by rw [alloc42, e1], store42 o1, l1.put _ nw, w1.put _ (w1.lt o1), AHeap.own_put_eq _ _ _⟩
structure GM where
 n : Int
 es : List Pr
structure GR (h : AHeap) (v : Value) (G : GM) : Prop where
 ex : ∃ ev, v = .agg #[.int .i64 G.n, ev] ∧ PR h ev G.es
theorem GR.le {h h' : AHeap} {v : Value} {G : GM} (r : GR h v G) (e : Le h h') : GR h' v G := by
 obtain ⟨ev, e1, e2⟩ := r.ex; exact ⟨ev, e1, e2.le e⟩
theorem fg0 (a : Addr) : aField Try.prog 24 (.pointer (some a)) 0 = some (.pointer (some (aadd a 0))) := rfl
theorem fg1 (a : Addr) : aField Try.prog 24 (.pointer (some a)) 1 = some (.pointer (some (aadd a 1))) := rfl
theorem boxG {h : AHeap} (hwf : WF h) {n : Int} {ev : Value} {es : List Pr} (r : PR h ev es) :
  ∃ h1, aBox h (.agg #[.int .i64 n, ev]) = some (.pointer (some ⟨h.next, 0, none⟩), h1) ∧ Le h h1 ∧ WF h1 ∧ h1.own h.next = some (.cells [.int .i64 n, ev]) ∧
   ∀ g, Le h1 g → aload Try.prog g 24 ⟨h.next, 0, none⟩ = some (.agg #[.int .i64 n, ev]) ∧ aload Try.prog g 3 ⟨h.next, 0, none⟩ = some (.int .i64 n) ∧ aload Try.prog g 22 ⟨h.next, 1, none⟩ = some ev := by
 obtain ⟨h1, e1, l1, w1, o1⟩ := alloc_f hwf [.int .i64 n, ev]
 have h2 := r.sl.one
 refine ⟨h1, ?_, l1, w1, o1, fun g e => ⟨?_, aload_one Try.underlying3 rfl (e.own _ _ o1), aload_one Try.underlying22 rfl (e.own _ _ o1)⟩⟩
 ·rw [← e1]
  obtain ⟨_, _, rfl, _⟩ := r.sl
  rfl
 ·rw [aload_own Try.underlying24 rfl (by kernel_rfl : tsize Try.prog 24 = 2) (e.own _ _ o1) (by simp)]; rfl
theorem isSl.cells {v : Value} {n : Nat} (h : isSl v n) : v.cells = #[v] := by obtain ⟨a, c, rfl, _⟩ := h; rfl
end Go.Fw
