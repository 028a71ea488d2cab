/- A text of the proof. -/
import Derived.Test.YtmgcmoifdnkaoaaFwLC14
import Derived.Test.YtmgcmoifdnkaoaaFwLBR
import Derived.Test.YtmgcmoifdnkaoaaFwLC13
import Derived.Test.YtmgcmoifdnkaoaaFwLC4
set_option linter.unusedSimpArgs false
set_option linter.unusedVariables false
namespace Go.Fw
open Go.Proofs Go.ChangeShapes Go.WideShapes Go.RowKit Go.ChangeAt
open Go.Proofs.Ytmgcmoifdnkaoaa
set_option maxRecDepth 100000
section
variable {H : Type} {enc : TypeId × Value → H} {W : World}
def Wt (P : Program) (t : TypeId) (d : DataW H) : Prop := (DataW.weights P t d).all (· ≤ reachBytes) = true
theorem weightsAll_mem {P : Program} {e : TypeId} : ∀ {l : List (DataW H)} {d : DataW H}, d ∈ l → ∀ {p : Nat → Bool}, (DataW.weightsAll P e l).all p = true → (DataW.weights P e d).all p = true
 | [], _, h, _, _ => by cases h
 | x :: r, d, h, p, ha => by
  rw [DataW.weightsAll, List.all_append, Bool.and_eq_true] at ha
  rcases List.mem_cons.1 h with rfl | h
  ·exact ha.1
  ·exact weightsAll_mem h ha.2
theorem Wt.slice {P : Program} {t e : TypeId} (ht : P.underlying t = some (.slice e)) {l sp : List (DataW H)} (h : Wt P t (.slice l sp)) : l.length * P.bytesOf e ≤ reachBytes ∧ ∀ d ∈ l, Wt P e d := by
 unfold Wt at h
 rw [DataW.weights, ht] at h
 simp only [List.all_cons, List.all_append, Bool.and_eq_true, decide_eq_true_eq] at h
 obtain ⟨h1, h2, -⟩ := h
 exact ⟨Nat.le_trans (Nat.mul_le_mul_right _ (Nat.le_add_right _ _)) h1, fun d hd => weightsAll_mem hd h2⟩
theorem Wt.len {P : Program} {t e : TypeId} (ht : P.underlying t = some (.slice e)) {fuel : Nat} {v' : Value} {x : DataW H × List MemPlace} (h : DataW.trod enc P W 0 (fun _ => true) true fuel t [v'] = some x) (hw : Wt P t x.1)
    {b : Option Addr} {n c : Nat} (t0 : tag v' = some (.slice b n c)) : n * P.bytesOf e ≤ reachBytes := by
  rcases Go.Deep.open_slice ht h with ⟨e0, _⟩ | ⟨a', len, cap, m, k, D, Pl, e0, _, hl, hcap, hm, rfl, _⟩
  · injection e0 with e0; subst e0
    simp only [tag] at t0
    injection t0 with t0; injection t0 with _ t0 _; subst t0
    rw [Nat.zero_mul]; exact Nat.zero_le _
  · injection e0 with e0; subst e0
    have hn : n = len := by
      obtain ⟨bl, off, sp⟩ := a'
      cases sp with
      | none => simp only [tag] at t0; split at t0 <;> simp at t0; exact t0.2.1.symm
      | some k =>
        cases len with
        | zero => cases cap with
          | zero => simp only [tag] at t0; injection t0 with t0; injection t0 with _ t0 _; exact t0.symm
          | succ cap => simp [tag, flat] at t0
        | succ len => simp [tag, flat] at t0
    have := (Wt.slice ht hw).1
    rw [List.length_map, List.length_range] at this
    rw [hn]; exact this
structure TB (T : TM) : Prop where
 bs : T.bs.length ≤ 100000000000000
 b : ∀ p ∈ T.bs, p.length ≤ 8796093022208
 cs : T.cs.length ≤ 100000000000000
 ls : T.ls.length ≤ 8796093022208
end
end Go.Fw
namespace Go.Fw
open Go.Proofs
attribute [local irreducible] KO4 KO3 KO2 KO1 KO KN KX KE VK KCond KDraw KCall KLoop
set_option maxHeartbeats 8000000
set_option maxRecDepth 10000
theorem GS.old {k n T : Nat} {h : AHeap} {v : Value} {cs : List Value} (g : GS k h v n cs) (hT : h.own T = none) : blk v ≠ some T := by
 obtain ⟨_, ⟨rfl, _⟩ | ⟨id, c, cap, rfl, ho, _⟩⟩ := g
 ·intro e; cases e
 ·intro e; injection e with e; subst e; rw [hT] at ho; cases ho
structure OnT (b h : AHeap) (T : Nat) (cv lv v : Value) (cs : List Int) (ls : List Pr) (rows : List (List Pr)) (g : AHeap) : Prop where
 oT : h.own T = some (.cells [v, cv, lv])
 bg : Le b g
 gh : Le g h
 gT : g.own T = none
 ga : Apart g v
 vT : blk v ≠ some T
 rc : RL isI g cv cs
 rl : PR g lv ls
 us : ∃ us, GS 1 h v rows.length us ∧ ∀ (i : Nat) u r, us[i]? = some u → rows[i]? = some r → PR g u r
end Go.Fw
namespace Go.Fw
open Go.Proofs
attribute [local irreducible] KO4 KO3 KO2 KO1 KO KN KX KE VK KCond KDraw KCall KLoop
set_option maxHeartbeats 16000000
set_option maxRecDepth 10000
attribute [local irreducible] lowM bridgesM cutsM blocksM keyE treeM
theorem treeM_def (n : Nat) (es : List Pr) : treeM n es = ⟨blocksM n es, nat64 (cutsM n es), linksU (blocksM n es) (cutsM n es) (blocksM n es).length⟩ := by unfold treeM; rfl
end Go.Fw
namespace Go.Fw
open Go.Proofs
set_option maxHeartbeats 4000000
set_option maxRecDepth 10000
attribute [local irreducible] lowM bridgesM cutsM blocksM keyE
theorem fkM_nodup {key : Pr → Int} : ∀ (k : Nat) (es : List Pr), es.length = k → (es.map key).Nodup → fkM key es = es.map key
 | 0, es, h, _ => by obtain rfl := List.eq_nil_of_length_eq_zero h; rfl
 | k + 1, es, h, hn => by
  obtain ⟨l, p, rfl⟩ : ∃ l p, es = l ++ [p] := ⟨es.dropLast, es.getLast (fun e => by rw [e] at h; simp at h), (List.dropLast_concat_getLast _).symm⟩
  rw [List.length_append] at h
  simp only [List.length_cons, List.length_nil] at h
  rw [List.map_append, List.nodup_append] at hn
  obtain ⟨h1, _, h3⟩ := hn
  rw [fkM_snoc, fkM_nodup k l (by omega) h1, fkS]
  have : ¬ key p ∈ l.map key := fun hm => h3 _ hm _ (by simp) rfl
  rw [if_neg this]; simp
theorem blocks_single {n : Nat} {es : List Pr} (hR : RightG ⟨(n : Int), es⟩) (h : ∀ p ∈ es, Br es p) : blocksM n es = es.map fun p => [p] := by
 have sg : ∀ p ∈ es, (es.filter fun q => decide (keyE n es q = keyE n es p)) = [p] := fun p hp => by
  have h3 := (single_iff hR hp).2 (h p hp)
  obtain ⟨x, hx⟩ := List.length_eq_one_iff.1 h3
  have m1 : p ∈ es.filter fun q => decide (keyE n es q = keyE n es p) := List.mem_filter.2 ⟨hp, by simp⟩
  rw [hx, List.mem_singleton] at m1
  rw [hx, m1]
 have nd : (es.map (keyE n es)).Nodup := by
  rw [List.nodup_iff_pairwise_ne, List.pairwise_map]
  have := hR.nodup
  rw [List.nodup_iff_pairwise_ne] at this
  refine (this.imp_of_mem) fun {a b} ha hb hne e => hne ?_
  have m2 : b ∈ es.filter fun q => decide (keyE n es q = keyE n es a) := List.mem_filter.2 ⟨hb, by simp [e]⟩
  rw [sg a ha, List.mem_singleton] at m2
  exact m2.symm
 rw [blocksM_eq, fkM_nodup _ es rfl nd, List.map_map]
 exact List.map_congr_left fun p hp => sg p hp
def rowB (m : Nat) : List (List Pr) := (List.range (m + 1)).map fun (k : Nat) => [((k : Int), ((k + 1 : Nat) : Int))]
def rowC (m : Nat) : List Nat := (List.range m).map (· + 1)
theorem row_blocksM {m : Nat} (h : m + 2 ≤ 200) : blocksM (m + 2) (rowE (m + 2)) = rowB m := by
 rw [blocks_single (row_right h) fun p hp => row_br hp, rowB, rowE, List.map_map]; rfl
theorem range_mid' (m : Nat) : ((List.range (m + 2)).filter fun v => decide (0 < v ∧ v + 1 < m + 2)) = rowC m := by
 have e : List.range (m + 2) = 0 :: (List.range m).map (· + 1) ++ [m + 1] := by
  rw [List.range_succ, show m + 1 = Nat.succ m from rfl, List.range_succ_eq_map]
 rw [e, List.filter_append, List.filter_cons, List.filter_map]
 have e1 : (List.range m).filter ((fun v => decide (0 < v ∧ v + 1 < m + 2)) ∘ (· + 1)) = List.range m := by
  rw [List.filter_eq_self]; intro a ha; rw [List.mem_range] at ha; simp; omega
 rw [e1]; simp [rowC]
theorem row_cutsM (m : Nat) : cutsM (m + 2) (rowE (m + 2)) = rowC m := by
 rw [← range_mid' m, cutsM]
 refine List.filter_congr fun v hv => ?_
 rw [List.mem_range] at hv
 rw [Bool.eq_iff_iff, isCut_iff (row_in _) hv, row_cut hv, decide_eq_true_iff]
theorem at_row (v k : Nat) : atB (v : Int) [((k : Int), ((k + 1 : Nat) : Int))] = decide (v = k ∨ v = k + 1) := by
 rw [atB, Bool.eq_iff_iff, decide_eq_true_iff]
 simp only [List.any_cons, List.any_nil, Bool.or_false, incB, Bool.or_eq_true, decide_eq_true_eq]
 omega
theorem filt_row (i : Nat) : ∀ m, ((List.range m).filter fun j => decide (j + 1 = i ∨ j + 1 = i + 1)) = (if 1 ≤ i ∧ i ≤ m then [i - 1] else []) ++ (if i < m then [i] else [])
 | 0 => by
  rw [if_neg (by omega), if_neg (by omega)]; rfl
 | m + 1 => by
  rw [List.range_succ, List.filter_append, filt_row i m]
  by_cases a : i = m + 1
  ·subst a
   rw [if_neg (by omega), if_neg (by omega), if_pos (by omega), if_neg (by omega)]
   simp
  by_cases b : i = m
  ·subst b
   rw [if_neg (c := i < i) (by omega), if_pos (c := i < i + 1) (by omega)]
   by_cases c : 1 ≤ i
   ·rw [if_pos ⟨c, by omega⟩, if_pos ⟨c, by omega⟩]; simp
   ·rw [if_neg (by omega), if_neg (by omega)]; simp
  have e : ([m].filter fun j => decide (j + 1 = i ∨ j + 1 = i + 1)) = [] := by
   rw [List.filter_cons, if_neg (by simp; omega)]; rfl
  rw [e, List.append_nil]
  have c1 : (1 ≤ i ∧ i ≤ m) ↔ (1 ≤ i ∧ i ≤ m + 1) := by omega
  have c2 : i < m ↔ i < m + 1 := by omega
  simp only [c1, c2]
theorem lk_row {m i : Nat} (hi : i < m + 1) : lkU i ((rowB m).getD i []) (rowC m) (rowC m).length = (if 1 ≤ i ∧ i ≤ m then [((i : Int), ((i - 1 : Nat) : Int))] else []) ++ (if i < m then [((i : Int), (i : Int))] else []) := by
 have hb : (rowB m).getD i [] = [((i : Int), ((i + 1 : Nat) : Int))] := by rw [getD_of (by simp [rowB]; omega)]; simp [rowB]
 have hl : (rowC m).length = m := by simp [rowC]
 rw [hb, hl, lkU]
 have : (List.range m).filter (fun j => atB (((rowC m).getD j 0 : Nat) : Int) [((i : Int), ((i + 1 : Nat) : Int))]) = (List.range m).filter fun j => decide (j + 1 = i ∨ j + 1 = i + 1) := by
  refine List.filter_congr fun j hj => ?_
  rw [List.mem_range] at hj
  have : (rowC m).getD j 0 = j + 1 := by rw [getD_of (by rw [hl]; exact hj)]; simp [rowC]
  rw [this, at_row]
 rw [this, filt_row, List.map_append]
 congr 1
 ·split <;> rfl
 ·split <;> rfl
end Go.Fw
namespace Go.Fw
open Go.Proofs
set_option maxHeartbeats 4000000
set_option maxRecDepth 10000
attribute [local irreducible] lowM bridgesM cutsM blocksM keyE
def rowL (m : Nat) : List Pr := linksU (rowB m) (rowC m) (m + 1)
theorem rowL_len (m : Nat) : ∀ k, k ≤ m + 1 → (linksU (rowB m) (rowC m) k).length = (k - 1) + min k m
 | 0, _ => by simp [linksU]
 | k + 1, h => by
  rw [linksU_succ, List.length_append, rowL_len m k (by omega), lk_row (by omega), List.length_append]
  have a : (if 1 ≤ k ∧ k ≤ m then [((k : Int), ((k - 1 : Nat) : Int))] else []).length = if 1 ≤ k then 1 else 0 := by
   by_cases c : 1 ≤ k
   ·rw [if_pos ⟨c, by omega⟩, if_pos c]; rfl
   ·rw [if_neg (by omega), if_neg c]; rfl
  have b : (if k < m then [((k : Int), (k : Int))] else []).length = if k < m then 1 else 0 := by split <;> rfl
  rw [a, b]
  split <;> split <;> omega
theorem rowL_mem {m : Nat} {p : Pr} : p ∈ rowL m ↔ ∃ i j : Nat, p = ((i : Int), (j : Int)) ∧ i < m + 1 ∧ j < m ∧ (j + 1 = i ∨ j = i) := by
 rw [rowL, linksU, List.mem_flatMap]
 constructor
 ·rintro ⟨i, hi, hp⟩
  rw [List.mem_range] at hi
  rw [lk_row hi, List.mem_append] at hp
  rcases hp with hp | hp
  ·split at hp
   ·rename_i c; rw [List.mem_singleton] at hp; exact ⟨i, i - 1, hp, hi, by omega, by omega⟩
   ·cases hp
  ·split at hp
   ·rename_i c; rw [List.mem_singleton] at hp; exact ⟨i, i, hp, hi, c, by omega⟩
   ·cases hp
 ·rintro ⟨i, j, rfl, hi, hj, h⟩
  refine ⟨i, List.mem_range.2 hi, ?_⟩
  rw [lk_row hi, List.mem_append]
  rcases h with h | h
  ·left; rw [if_pos (by omega)]; rw [List.mem_singleton]; rw [show i - 1 = j by omega]
  ·right; subst h; rw [if_pos hj]; exact List.mem_singleton.2 rfl
theorem row_treeM {m : Nat} (h : m + 2 ≤ 200) : treeM (m + 2) (rowE (m + 2)) = ⟨rowB m, nat64 (rowC m), rowL m⟩ := by
 rw [treeM_def, row_blocksM h, row_cutsM, rowL]
 have : (rowB m).length = m + 1 := by simp [rowB]
 rw [this]
def posR (m v : Nat) : Nat := if v < m + 1 then 2 * v else 2 * (v - (m + 1)) + 1
theorem posR_lt {m v : Nat} (h : v < 2 * m + 1) : posR m v < 2 * m + 1 := by unfold posR; split <;> omega
theorem posR_inj {m v w : Nat} (hv : v < 2 * m + 1) (hw : w < 2 * m + 1) (h : posR m v = posR m w) : v = w := by
 unfold posR at h; split at h <;> split at h <;> omega
theorem posR_at {m p : Nat} (h : p < 2 * m + 1) : ∃ v, v < 2 * m + 1 ∧ posR m v = p := by
 by_cases c : p % 2 = 0
 ·exact ⟨p / 2, by omega, by rw [posR, if_pos (by omega)]; omega⟩
 ·exact ⟨(m + 1) + p / 2, by omega, by rw [posR, if_neg (by omega)]; omega⟩
theorem row_adj {m u w : Nat} (hu : u < 2 * m + 1) (hw : w < 2 * m + 1) : adj (edgesU (m + 1) (rowL m)) u w ↔ posR m u + 1 = posR m w ∨ posR m w + 1 = posR m u := by
 have mem : ∀ a b : Nat, ((a : Int), (b : Int)) ∈ edgesU (m + 1) (rowL m) ↔ ∃ j, a < m + 1 ∧ j < m ∧ b = m + 1 + j ∧ (j + 1 = a ∨ j = a) := fun a b => by
  rw [edgesU, List.mem_map]
  constructor
  ·rintro ⟨p, hp, e⟩
   obtain ⟨i, j, rfl, hi, hj, hk⟩ := rowL_mem.1 hp
   rw [Prod.mk.injEq] at e
   simp only at e
   exact ⟨j, by omega, hj, by omega, by omega⟩
  ·rintro ⟨j, h1, h2, h3, h4⟩
   refine ⟨((a : Int), (j : Int)), rowL_mem.2 ⟨a, j, rfl, h1, h2, h4⟩, ?_⟩
   rw [Prod.mk.injEq]; exact ⟨by simp, by simp only; omega⟩
 unfold adj
 rw [mem, mem]
 unfold posR
 constructor
 ·rintro (⟨j, h1, h2, h3, h4⟩ | ⟨j, h1, h2, h3, h4⟩)
  ·rw [if_pos h1, if_neg (by omega)]; omega
  ·rw [if_pos h1, if_neg (by omega)]; omega
 ·intro h
  by_cases a : u < m + 1
  ·by_cases b : w < m + 1
   ·rw [if_pos a, if_pos b] at h; omega
   ·rw [if_pos a, if_neg b] at h
    exact .inl ⟨w - (m + 1), a, by omega, by omega, by omega⟩
  ·by_cases b : w < m + 1
   ·rw [if_neg a, if_pos b] at h
    exact .inr ⟨u - (m + 1), b, by omega, by omega, by omega⟩
   ·rw [if_neg a, if_neg b] at h; omega
end Go.Fw
namespace Go.Fw
open Go.Proofs
set_option maxHeartbeats 4000000
set_option maxRecDepth 10000
attribute [local irreducible] lowM bridgesM cutsM blocksM keyE
theorem row_ok {m : Nat} : ∀ p ∈ rowL m, LinkOK (m + 1) (2 * m + 1) p := fun p hp => by
 obtain ⟨i, j, rfl, hi, hj, _⟩ := rowL_mem.1 hp
 exact ⟨by simp only; omega, by simp only; omega, by simp only; omega, by simp only; omega⟩
theorem row_lk (m : Nat) : Lk (m + 1) (2 * m + 1) (rowL m) := by
 refine ⟨by omega, ?_, row_ok, ?_⟩
 ·have := rowL_len m (m + 1) (Nat.le_refl _)
  rw [rowL, this]; omega
 ·have key : ∀ p v, v < 2 * m + 1 → posR m v = p → Con (edgesU (m + 1) (rowL m)) 0 v := by
   intro p
   induction p with
   | zero =>
    intro v hv h
    have : v = 0 := posR_inj hv (by omega) (by rw [h]; rw [posR, if_pos (by omega)])
    subst this; exact Con.refl _ _
   | succ p ih =>
    intro v hv h
    have hl := posR_lt hv
    obtain ⟨u, hu, hp⟩ := posR_at (m := m) (p := p) (by omega)
    exact con_of_adj (ih u hu hp) ((row_adj hu hv).2 (.inl (by omega)))
  exact fun v hv => key _ v hv rfl
theorem Ds.pos {n : Nat} {es : List Pr} {D : Nat → Nat → Nat} (T : Ds n es D) {pos : Nat → Nat} (ha : ∀ u w, u < n → w < n → (adj es u w ↔ pos u + 1 = pos w ∨ pos w + 1 = pos u)) (hi : ∀ u w, u < n → w < n → pos u = pos w → u = w)
  (hat : ∀ p, p < n → ∃ v, v < n ∧ pos v = p) (hlt : ∀ v, v < n → pos v < n) {v w : Nat} (hv : v < n) (hw : w < n) : D v w = (pos v - pos w) + (pos w - pos v) := by
 have lo : ∀ k w, w < n → D v w = k → (pos v - pos w) + (pos w - pos v) ≤ k := by
  intro k
  induction k with
  | zero => intro w hw h; have := T.z' v w hv hw h; subst this; omega
  | succ k ih =>
   intro w hw h
   have hne : v ≠ w := fun e => by subst e; rw [T.z v hv] at h; cases h
   obtain ⟨u, hu, a, e⟩ := T.pre v w hv hw hne
   have := ih u hu (by omega)
   have := (ha u w hu hw).1 a
   omega
 have up : ∀ k w, w < n → (pos v - pos w) + (pos w - pos v) = k → D v w ≤ k := by
  intro k
  induction k with
  | zero => intro w hw h; have := hi v w hv hw (by omega); subst this; rw [T.z v hv]; omega
  | succ k ih =>
   intro w hw h
   have l1 := hlt v hv
   have l2 := hlt w hw
   obtain ⟨u, hu, e⟩ := hat (if pos v < pos w then pos w - 1 else pos w + 1) (by split <;> omega)
   have a : adj es u w := (ha u w hu hw).2 (by split at e <;> omega)
   have := ih u hu (by split at e <;> omega)
   have := T.tri v u w hv a
   omega
 have := lo _ w hw rfl
 have := up _ w hw rfl
 omega
theorem row_dist {m v w : Nat} (hv : v < 2 * m + 1) (hw : w < 2 * m + 1) : distM (m + 1) (2 * m + 1) (rowL m) v w = (posR m v - posR m w) + (posR m w - posR m v) :=
 (row_lk m).tree.toDs.pos (fun _ _ => row_adj) (fun _ _ => posR_inj) (fun _ => posR_at) (fun _ => posR_lt) hv hw
theorem row_ecc {m v : Nat} (hv : v < 2 * m + 1) : (maxL (awayM (m + 1) (2 * m + 1) (rowL m) v)) = ((max (posR m v) (2 * m - posR m v) : Nat) : Int) := by
 obtain ⟨h0, hM⟩ := (row_lk m).ecc hv
 have hl := posR_lt hv
 obtain ⟨a, ha, ea⟩ := posR_at (m := m) (p := 0) (by omega)
 obtain ⟨b, hb, eb⟩ := posR_at (m := m) (p := 2 * m) (by omega)
 obtain ⟨x, hx, ex⟩ := hM.2
 have d1 := hM.1 a ha
 have d2 := hM.1 b hb
 rw [row_dist hv hx] at ex
 rw [row_dist hv ha] at d1
 rw [row_dist hv hb] at d2
 have lx := posR_lt hx
 omega
theorem row_cen {m c : Nat} (hc : c < 2 * m + 1) (h : posR m c = m) : cenM (m + 1) (2 * m + 1) (rowL m) = c := by
 refine minK_is hc fun v hv hne => ?_
 rw [depK_get hc, depK_get hv, row_ecc hc, row_ecc hv]
 have : posR m v ≠ m := fun e => hne (posR_inj hv hc (by rw [e, h]))
 have := posR_lt hv
 omega
theorem row_cen_even {m : Nat} (h : m % 2 = 0) : centV (m + 1) (cenM (m + 1) (2 * m + 1) (rowL m)) = .tuple #[.bool true, .int .i64 ((m / 2 : Nat) : Int)] := by
 rw [row_cen (c := m / 2) (by omega) (by rw [posR, if_pos (by omega)]; omega), centV, if_pos (by omega)]
theorem row_cen_odd {m : Nat} (h : m % 2 = 1) : centV (m + 1) (cenM (m + 1) (2 * m + 1) (rowL m)) = .tuple #[.bool false, .int .i64 ((m / 2 : Nat) : Int)] := by
 rw [row_cen (c := (m + 1) + m / 2) (by omega) (by rw [posR, if_neg (by omega)]; omega), centV, if_neg (by omega)]
 congr 3
 simp
 omega
end Go.Fw
