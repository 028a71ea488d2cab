/- A text of the proof. -/
import Derived.Test.YtnaahaldkpdjlaaFwLT5
import Derived.Test.YtnaahaldkpdjlaaFwLW8
import Derived.Test.YtnaahaldkpdjlaaFwLB3
import Derived.Test.YtnaahaldkpdjlaaFwLW4
import Derived.Test.YtnaahaldkpdjlaaFwLB12
set_option linter.unusedSimpArgs false
set_option linter.unusedVariables false
namespace Go.Fw
set_option maxRecDepth 10000
def fkS (key : Pr → Int) (ks : List Int) (p : Pr) : List Int := if key p ∈ ks then ks else ks ++ [key p]
def fkM (key : Pr → Int) (es : List Pr) : List Int := es.foldl (fkS key) []
theorem fkM_snoc (key : Pr → Int) (es : List Pr) (p : Pr) : fkM key (es ++ [p]) = fkS key (fkM key es) p := by simp [fkM]
theorem fk_ok (key : Pr → Int) : ∀ (k : Nat) (es : List Pr), es.length = k → (fkM key es).Nodup ∧ ∀ x, x ∈ fkM key es ↔ ∃ p ∈ es, key p = x := by
 intro k
 induction k with
 | zero => intro es h; obtain rfl := List.eq_nil_of_length_eq_zero h; simp [fkM]
 | succ k ih =>
  intro es h
  obtain ⟨es, p, rfl⟩ : ∃ es' p, es = es' ++ [p] := by
   rcases List.eq_nil_or_concat es with rfl | ⟨es', p, h'⟩
   ·simp at h
   ·exact ⟨es', p, by simpa using h'⟩
  obtain ⟨h1, h2⟩ := ih es (by simpa using h)
  rw [fkM_snoc]
  unfold fkS
  by_cases q : key p ∈ fkM key es
  ·rw [if_pos q]
   refine ⟨h1, fun x => ?_⟩
   rw [h2]
   constructor
   ·rintro ⟨r, hr, e⟩; exact ⟨r, by simp [hr], e⟩
   ·rintro ⟨r, hr, e⟩
    rw [List.mem_append, List.mem_singleton] at hr
    rcases hr with hr | rfl
    ·exact ⟨r, hr, e⟩
    ·rw [← e]; exact (h2 _).1 q
  ·rw [if_neg q]
   refine ⟨?_, fun x => ?_⟩
   ·rw [List.nodup_append]
    exact ⟨h1, by simp, fun a ha b hb e => by rw [List.mem_singleton] at hb; subst hb; subst e; exact q ha⟩
   ·rw [List.mem_append, List.mem_singleton, h2]
    constructor
    ·rintro (⟨r, hr, e⟩ | rfl)
     ·exact ⟨r, by simp [hr], e⟩
     ·exact ⟨p, by simp, rfl⟩
    ·rintro ⟨r, hr, e⟩
     rw [List.mem_append, List.mem_singleton] at hr
     rcases hr with hr | rfl
     ·exact .inl ⟨r, hr, e⟩
     ·exact .inr e.symm
theorem addG_map (F : Int → List Pr) (f : Int) (p : Pr) : ∀ (ks : List Int), ks.Nodup → addG (ks.map fun k => (k, F k)) f p = if f ∈ ks then ks.map (fun k => (k, if k = f then F k ++ [p] else F k)) else ks.map (fun k => (k, F k)) ++ [(f, [p])]
 | [], _ => by simp [addG]
 | k :: ks, hn => by
  rw [List.nodup_cons] at hn
  have ih := addG_map F f p ks hn.2
  simp only [List.map_cons, addG]
  by_cases c : k = f
  ·subst c
   rw [if_pos rfl, if_pos (by simp), if_pos rfl]
   congr 1
   refine List.map_congr_left fun x hx => ?_
   rw [if_neg (fun e => hn.1 (by rw [← e]; exact hx))]
  ·rw [if_neg c, ih]
   by_cases q : f ∈ ks
   ·rw [if_pos q, if_pos (List.mem_cons_of_mem _ q), if_neg c]
   ·rw [if_neg q, if_neg (by simp only [List.mem_cons, not_or]; exact ⟨fun e => c e.symm, q⟩)]; rfl
theorem grpsM_eq (key : Pr → Int) (es : List Pr) : ∀ m, m ≤ es.length → grpsM (fun p _ => key p) es [] m = (fkM key (es.take m)).map fun k => (k, (es.take m).filter fun p => decide (key p = k))
 | 0, _ => by simp [grpsM, fkM]
 | m + 1, h => by
  have hm : m < es.length := h
  have hp := getElem?_of hm
  have htk : es.take (m + 1) = es.take m ++ [es[m]] := List.take_succ_eq_append_getElem hm
  generalize es[m] = p at hp htk
  obtain ⟨h1, h2⟩ := fk_ok key _ (es.take m) rfl
  rw [grpsM_out hp (by simp), grpsM_eq key es m (by omega), addG_map _ _ _ _ h1, htk, fkM_snoc]
  unfold fkS
  by_cases q : key p ∈ fkM key (es.take m)
  ·rw [if_pos q, if_pos q]
   refine List.map_congr_left fun k _ => ?_
   rw [List.filter_append]
   by_cases c : k = key p
   ·subst c; simp
   ·rw [if_neg c]; simp [Ne.symm c]
  ·rw [if_neg q, if_neg q, List.map_append]
   congr 1
   ·refine List.map_congr_left fun k hk => ?_
    have c : ¬ key p = k := fun e => q (by rw [e]; exact hk)
    rw [List.filter_append]; simp [c]
   ·have : (es.take m).filter (fun r => decide (key r = key p)) = [] := by
     rw [List.filter_eq_nil_iff]
     intro r hr e
     exact q ((h2 _).2 ⟨r, hr, by simpa using e⟩)
    simp [List.filter_append, this]
theorem blocksM_eq (n : Nat) (es : List Pr) : blocksM n es = (fkM (keyE n es) es).map fun k => es.filter fun p => decide (keyE n es p = k) := by
 rw [blocksM, grpsM_eq _ _ _ (Nat.le_refl _), List.take_length, List.map_map]; rfl
theorem fk_first (key : Pr → Int) : ∀ (k : Nat) (es : List Pr), es.length = k → ∀ (i j : Nat) a b, i < j → (fkM key es)[i]? = some a → (fkM key es)[j]? = some b → ∃ (x : Nat) (p : Pr), es[x]? = some p ∧ key p = a ∧ ∀ (y : Nat) q, es[y]? = some q → key q = b → x < y := by
 intro k
 induction k with
 | zero => intro es h; obtain rfl := List.eq_nil_of_length_eq_zero h; intro i j a b _ h; simp [fkM] at h
 | succ k ih =>
  intro es h i j a b hij hi hj
  obtain ⟨es, p, rfl⟩ : ∃ es' p, es = es' ++ [p] := by
   rcases List.eq_nil_or_concat es with rfl | ⟨es', p, h'⟩
   ·simp at h
   ·exact ⟨es', p, by simpa using h'⟩
  have ih := ih es (by simpa using h)
  obtain ⟨h1, h2⟩ := fk_ok key _ es rfl
  rw [fkM_snoc] at hi hj
  have lift : ∀ a b, (∃ (x : Nat) (p : Pr), es[x]? = some p ∧ key p = a ∧ ∀ (y : Nat) q, es[y]? = some q → key q = b → x < y) → ∃ (x : Nat) (r : Pr), (es ++ [p])[x]? = some r ∧ key r = a ∧ ∀ (y : Nat) q, (es ++ [p])[y]? = some q → key q = b → x < y := by
   rintro a b ⟨x, r, e1, e2, e3⟩
   have hx := (List.getElem?_eq_some_iff.1 e1).1
   refine ⟨x, r, by rw [List.getElem?_append_left hx]; exact e1, e2, fun y q hy hq => ?_⟩
   by_cases c : y < es.length
   ·rw [List.getElem?_append_left c] at hy; exact e3 y q hy hq
   ·omega
  unfold fkS at hi hj
  by_cases q : key p ∈ fkM key es
  ·rw [if_pos q] at hi hj; exact lift a b (ih i j a b hij hi hj)
  ·rw [if_neg q] at hi hj
   rcases Nat.lt_or_ge j (fkM key es).length with c | c
   ·rw [List.getElem?_append_left c] at hj
    rw [List.getElem?_append_left (by omega)] at hi
    exact lift a b (ih i j a b hij hi hj)
   ·have hj2 := (List.getElem?_eq_some_iff.1 hj).1
    simp at hj2
    have : j = (fkM key es).length := by omega
    subst this
    rw [List.getElem?_append_right (Nat.le_refl _)] at hj
    simp at hj; subst hj
    rw [List.getElem?_append_left hij] at hi
    obtain ⟨r, hr, e⟩ := (h2 a).1 (List.mem_of_getElem? hi)
    obtain ⟨x, hx⟩ := List.mem_iff_getElem?.1 hr
    have hxl := (List.getElem?_eq_some_iff.1 hx).1
    refine ⟨x, r, by rw [List.getElem?_append_left hxl]; exact hx, e, fun y s hy hs => ?_⟩
    by_cases c : y < es.length
    ·rw [List.getElem?_append_left c] at hy
     exact absurd ((h2 _).2 ⟨s, List.mem_of_getElem? hy, hs⟩) q
    ·omega
open Classical in
theorem cnt_fold {n : Nat} {es : List Pr} {ls : List Lw} {o : List Nat} {num : Nat → Nat} {up : Nat → Option Nat} (S : SearchS n es ls o num up) (v : Nat) (hv : v < n) : ∀ (l : List Nat), (∀ x ∈ l, x < n) → ∀ c : List Int, c.length = n →
  (l.foldl (cntS ls) c).getD v 0 = c.getD v 0 + ((l.filter fun x => decide (up x = some v ∧ ¬ Bey es num up v x)).length : Int)
 | [], _, c, _ => by simp
 | w :: l, hl, c, hc => by
  have hwn := hl w (by simp)
  rw [List.foldl_cons, cnt_fold S v hv l (fun x hx => hl x (by simp [hx])) _ (by rw [cntS_length]; exact hc)]
  have key : (cntS ls c w).getD v 0 = c.getD v 0 + if up w = some v ∧ ¬ Bey es num up v w then 1 else 0 := by
   rcases up_of S hwn with ⟨h, u, hu, he⟩ | ⟨h, hu⟩
   ·have hb := low_lt S hwn hu
    have hun := ((S.fo.upa w u hwn hu).1.lt S.fo.rng).1
    unfold cntS
    by_cases q : Bey es num up u w
    ·rw [if_neg (by rw [he, Int.toNat_natCast]; intro k; have := hb.2 q; have := k.2; omega)]
     rw [if_neg (fun k => by rw [hu] at k; have := k.1; injection this with e; subst e; exact k.2 q)]; omega
    ·rw [if_pos (by rw [he, Int.toNat_natCast]; refine ⟨by omega, ?_⟩; have : ¬ (getL ls w).2.2 < (getL ls u).1 := fun k => q (hb.1 k); omega), he, Int.toNat_natCast, getD_set]
     by_cases e : u = v
     ·subst e; rw [if_pos ⟨rfl, by omega⟩, if_pos ⟨hu, q⟩]
     ·rw [if_neg (fun k => e k.1), if_neg (fun k => by rw [hu] at k; have := k.1; injection this with e'; exact e e')]; omega
   ·unfold cntS
    rw [if_neg (fun k => h k.1), if_neg (fun k => by rw [hu] at k; cases k.1)]; omega
  rw [key, List.filter_cons]
  by_cases q : up w = some v ∧ ¬ Bey es num up v w
  ·rw [if_pos q, if_pos (by simpa using q)]; simp only [List.length_cons]; omega
  ·rw [if_neg q, if_neg (by simpa using q)]; omega
theorem isCut_iff {n : Nat} {es : List Pr} (hr : InR n es) {v : Nat} (hv : v < n) : isCut (lowM n es).1 (cntM (lowM n es).1 (lowM n es).2 n) v = true ↔ Fo.Cut2 es v := by
 classical
 obtain ⟨num, up, S⟩ := lowM_S hr
 rw [S.fo.cut_iff v hv]
 have hc := cnt_fold S v hv (lowM n es).2 (fun x hx => (S.mem x).1 hx) (List.replicate n 0) (by simp)
 have h0 : (List.replicate n (0 : Int)).getD v 0 = 0 := by simp [List.getD_eq_getElem?_getD, List.getElem?_replicate, hv]
 rw [h0, Int.zero_add] at hc
 have hnd := S.nd.sublist (List.filter_sublist (p := fun x => decide (up x = some v ∧ ¬ Bey es num up v x)))
 have hmem : ∀ x, x ∈ (lowM n es).2.filter (fun x => decide (up x = some v ∧ ¬ Bey es num up v x)) ↔ x < n ∧ up x = some v ∧ ¬ Bey es num up v x := fun x => by
  rw [List.mem_filter, S.mem, decide_eq_true_eq]
 have hupv : (getL (lowM n es).1 v).2.1 ≥ 0 ↔ up v ≠ none := by
  rcases up_of S hv with ⟨h, u, hu, _⟩ | ⟨h, hu⟩
  ·simp [hu, h]
  ·simp [hu, h]
 have hcm : cntM (lowM n es).1 (lowM n es).2 n = (lowM n es).2.foldl (cntS (lowM n es).1) (List.replicate n 0) := rfl
 simp only [isCut, Bool.or_eq_true, Bool.and_eq_true, decide_eq_true_eq, hcm, hc, hupv]
 generalize (lowM n es).2.filter (fun x => decide (up x = some v ∧ ¬ Bey es num up v x)) = L at *
 constructor
 ·rintro (h | ⟨h1, h2⟩)
  ·match L, h, hnd, hmem with
   | [], h, _, _ => simp at h
   | [_], h, _, _ => simp at h
   | x :: y :: r, _, hnd, hmem =>
    obtain ⟨a1, a2, a3⟩ := (hmem x).1 (by simp)
    obtain ⟨b1, b2, b3⟩ := (hmem y).1 (by simp)
    refine .inl ⟨x, y, a1, b1, fun e => ?_, a2, b2, a3, b3⟩
    rw [List.nodup_cons] at hnd; exact hnd.1 (by rw [e]; simp)
  ·match L, h1, hmem with
   | [], h, _ => simp at h
   | x :: r, _, hmem =>
    obtain ⟨a1, a2, a3⟩ := (hmem x).1 (by simp)
    exact .inr ⟨x, a1, a2, a3, h2⟩
 ·rintro (⟨c, d, hcn, hdn, ne, hc1, hd1, hc2, hd2⟩ | ⟨c, hcn, hc1, hc2, hu⟩)
  ·have m1 := (hmem c).2 ⟨hcn, hc1, hc2⟩
   have m2 := (hmem d).2 ⟨hdn, hd1, hd2⟩
   left
   match L, m1, m2 with
   | [], m1, _ => simp at m1
   | [x], m1, m2 => simp at m1 m2; exact absurd (m1.trans m2.symm) ne
   | x :: y :: r, _, _ => simp only [List.length_cons]; omega
  ·have m1 := (hmem c).2 ⟨hcn, hc1, hc2⟩
   match L, m1 with
   | [], m1 => simp at m1
   | [x], _ => right; exact ⟨by simp, hu⟩
   | x :: y :: r, _ => left; simp only [List.length_cons]; omega
theorem cuts_mem {n : Nat} {es : List Pr} (hr : InR n es) (v : Nat) : v ∈ cutsM n es ↔ v < n ∧ Fo.Cut2 es v := by
 rw [cutsM, List.mem_filter, List.mem_range]
 constructor
 ·rintro ⟨h1, h2⟩; exact ⟨h1, (isCut_iff hr h1).1 h2⟩
 ·rintro ⟨h1, h2⟩; exact ⟨h1, (isCut_iff hr h1).2 h2⟩
theorem adj_mem' {n : Nat} {es : List Pr} (hr : InR n es) {a b : Nat} (h : adj es a b) : pairOf a b ∈ es := by
 unfold pairOf
 rcases h with h | h
 ·have := hr _ h; simp only at this
  rw [Int.min_eq_left (by omega), Int.max_eq_right (by omega)]; exact h
 ·have := hr _ h; simp only at this
  rw [Int.min_eq_right (by omega), Int.max_eq_left (by omega)]; exact h
end Go.Fw
namespace Go.Fw
open Go.Proofs
set_option maxHeartbeats 16000000
set_option maxRecDepth 10000
structure AtS (n : Int) (es : List Pr) (bs : List (List Pr)) : Prop where
 ne : ∀ b ∈ bs, b ≠ []
 right : ∀ b ∈ bs, RightG ⟨n, b⟩
 asc : ∀ (i : Nat) b b' p q, bs[i]? = some b → bs[i + 1]? = some b' → b[0]? = some p → b'[0]? = some q → p.1 < q.1 ∨ p.1 = q.1 ∧ p.2 < q.2
 mem : ∀ b ∈ bs, ∀ p ∈ b, p ∈ es
 dis : ∀ (i j : Nat) b b' p, bs[i]? = some b → bs[j]? = some b' → p ∈ b → p ∈ b' → i = j
 all : ∀ p ∈ es, ∃ b ∈ bs, p ∈ b
 len : bs.length ≤ 1000
def Met (bs : List (List Pr)) (i j : Nat) (p : Pr) (x : Int) : Prop := ∃ (k : Nat) (b : List Pr), bs[k]? = some b ∧ x = (k : Int) ∧ (k < i ∧ p ∈ b ∨ k = i ∧ p ∈ b.take j)
theorem RightG.nodup {n : Int} {es : List Pr} (h : RightG ⟨n, es⟩) : es.Nodup := by
 have hA := h.asc
 rw [List.Nodup, List.pairwise_iff_getElem]
 intro i j hi hj hij e
 have := hA.lt hij (List.getElem?_eq_getElem hi) (List.getElem?_eq_getElem hj)
 rw [e] at this; omega
end Go.Fw
namespace Go.Fw
set_option maxRecDepth 10000
theorem asc_pair {es : List Pr} : Asc es ↔ es.Pairwise fun x y => x.1 < y.1 ∨ x.1 = y.1 ∧ x.2 < y.2 := by
 rw [List.pairwise_iff_getElem]
 constructor
 ·intro ha i j hi hj hij; exact ha.lt hij (List.getElem?_eq_getElem hi) (List.getElem?_eq_getElem hj)
 ·intro h i j p q hij hi hj
  obtain ⟨a1, a2⟩ := List.getElem?_eq_some_iff.1 hi
  obtain ⟨b1, b2⟩ := List.getElem?_eq_some_iff.1 hj
  rw [cmpP_lt, ← a2, ← b2]; exact h i j a1 b1 hij
theorem RightG.of {n : Nat} {es : List Pr} (h200 : n ≤ 200) (hl : es.length ≤ 594) (hr : InR n es) (ha : Asc es) : RightG ⟨(n : Int), es⟩ :=
 ⟨by simp, by show (n : Int) ≤ 200; omega, hl, fun i hi p hp => ⟨hr p (List.mem_of_getElem? hp), fun q h0 hq => ha (i - 1) i q p (by omega) hq hp⟩⟩
theorem RightG.sub {n : Nat} {es fs : List Pr} (h : RightG ⟨(n : Int), es⟩) (hs : fs.Sublist es) : RightG ⟨(n : Int), fs⟩ :=
 RightG.of (by have : (n : Int) ≤ 200 := h.n1; omega) (Nat.le_trans hs.length_le h.len) (fun p hp => h.inR p (hs.subset hp)) (asc_pair.2 ((asc_pair.1 h.asc).sublist hs))
theorem blocks_get {n : Nat} {es : List Pr} {i : Nat} {b : List Pr} (h : (blocksM n es)[i]? = some b) : ∃ k, (fkM (keyE n es) es)[i]? = some k ∧ b = es.filter fun p => decide (keyE n es p = k) := by
 rw [blocksM_eq, List.getElem?_map] at h
 cases hk : (fkM (keyE n es) es)[i]? with
 | none => rw [hk] at h; cases h
 | some k => rw [hk] at h; simp at h; exact ⟨k, rfl, h.symm⟩
theorem blocks_in {n : Nat} {es : List Pr} {i : Nat} {b : List Pr} (h : (blocksM n es)[i]? = some b) {k : Int} (hk : (fkM (keyE n es) es)[i]? = some k) {p : Pr} : p ∈ b ↔ p ∈ es ∧ keyE n es p = k := by
 obtain ⟨k', h1, rfl⟩ := blocks_get h
 rw [hk] at h1; injection h1 with h1; subst h1
 rw [List.mem_filter, decide_eq_true_eq]
theorem blocks_AtS {n : Nat} {es : List Pr} (hr : RightG ⟨(n : Int), es⟩) : AtS (n : Int) es (blocksM n es) := by
 obtain ⟨nd, hmem⟩ := fk_ok (keyE n es) _ es rfl
 have hne : ∀ b ∈ blocksM n es, b ≠ [] := fun b hb => by
  obtain ⟨i, hi⟩ := List.mem_iff_getElem?.1 hb
  obtain ⟨k, hk, rfl⟩ := blocks_get hi
  obtain ⟨p, hp, e⟩ := (hmem k).1 (List.mem_of_getElem? hk)
  intro h
  have : p ∈ es.filter fun p => decide (keyE n es p = k) := List.mem_filter.2 ⟨hp, by simpa using e⟩
  rw [h] at this; cases this
 refine ⟨hne, fun b hb => ?_, fun i b b' p q hb hb' hp hq => ?_, fun b hb p hp => ?_, fun i j b b' p hb hb' hp hp' => ?_, fun p hp => ?_, ?_⟩
 ·obtain ⟨i, hi⟩ := List.mem_iff_getElem?.1 hb
  obtain ⟨k, hk, rfl⟩ := blocks_get hi
  exact hr.sub List.filter_sublist
 ·obtain ⟨k, hk, e⟩ := blocks_get hb
  obtain ⟨k', hk', e'⟩ := blocks_get hb'
  obtain ⟨x, r, h1, h2, h3⟩ := fk_first (keyE n es) _ es rfl i (i + 1) k k' (by omega) hk hk'
  have hq1 := (blocks_in hb' hk').1 (List.mem_of_getElem? hq)
  obtain ⟨y, hy⟩ := List.mem_iff_getElem?.1 hq1.1
  have hxy := h3 y q hy hq1.2
  have hrq := hr.asc.lt hxy h1 hy
  -- the first one of b is r or lies ahead of it
  have hrb : r ∈ b := (blocks_in hb hk).2 ⟨List.mem_of_getElem? h1, h2⟩
  have hbA : b.Pairwise fun x y => x.1 < y.1 ∨ x.1 = y.1 ∧ x.2 < y.2 := by rw [e]; exact (asc_pair.1 hr.asc).filter _
  cases b with
  | nil => cases hrb
  | cons z t =>
   simp at hp; subst hp
   rw [List.pairwise_cons] at hbA
   rw [List.mem_cons] at hrb
   rcases hrb with rfl | hrb
   ·exact hrq
   ·have := hbA.1 r hrb; omega
 ·obtain ⟨i, hi⟩ := List.mem_iff_getElem?.1 hb
  obtain ⟨k, hk, rfl⟩ := blocks_get hi
  exact (List.mem_filter.1 hp).1
 ·obtain ⟨k, hk, _⟩ := blocks_get hb
  obtain ⟨k', hk', _⟩ := blocks_get hb'
  have h1 := ((blocks_in hb hk).1 hp).2
  have h2 := ((blocks_in hb' hk').1 hp').2
  rw [h1] at h2; subst h2
  exact (List.getElem?_inj (List.getElem?_eq_some_iff.1 hk).1 nd).1 (hk.trans hk'.symm)
 ·obtain ⟨i, hi⟩ := List.mem_iff_getElem?.1 ((hmem _).2 ⟨p, hp, rfl⟩)
  have hbi : (blocksM n es)[i]? = some (es.filter fun q => decide (keyE n es q = keyE n es p)) := by
   rw [blocksM_eq, List.getElem?_map, hi]; rfl
  exact ⟨_, List.mem_of_getElem? hbi, List.mem_filter.2 ⟨hp, by simp⟩⟩
 ·rw [blocksM_eq, List.length_map]
  have h1 : (fkM (keyE n es) es).length ≤ (es.map (keyE n es)).length := nd.length_le_of_subset fun x hx => by
   obtain ⟨p, hp, e⟩ := (hmem x).1 hx; exact List.mem_map.2 ⟨p, hp, e⟩
  have h2 : es.length ≤ 594 := hr.len
  simp at h1; omega
theorem met_ex {n : Nat} {es : List Pr} (hr : RightG ⟨(n : Int), es⟩) {p : Pr} (hp : p ∈ es) : ∃ (k : Nat) (b : List Pr), (blocksM n es)[k]? = some b ∧ p ∈ b ∧ Met (blocksM n es) (blocksM n es).length 0 p (k : Int) := by
 obtain ⟨b, hb, hpb⟩ := (blocks_AtS hr).all p hp
 obtain ⟨k, hk⟩ := List.mem_iff_getElem?.1 hb
 exact ⟨k, b, hk, hpb, k, b, hk, rfl, .inl ⟨(List.getElem?_eq_some_iff.1 hk).1, hpb⟩⟩
def incB (v : Int) (p : Pr) : Bool := decide (p.1 = v) || decide (p.2 = v)
end Go.Fw
namespace Go.Fw
set_option maxRecDepth 10000
theorem ends {n : Nat} {es : List Pr} (hr : InR n es) {p : Pr} (hp : p ∈ es) : ∃ a c : Nat, p = ((a : Int), (c : Int)) ∧ a < c ∧ c < n ∧ adj es a c := by
 have hpos := hr p hp
 obtain ⟨x, y⟩ := p
 simp only at hpos
 obtain ⟨a, rfl⟩ := Int.eq_ofNat_of_zero_le hpos.1
 obtain ⟨c, rfl⟩ := Int.eq_ofNat_of_zero_le (show 0 ≤ y by omega)
 exact ⟨a, c, rfl, by omega, by omega, .inl hp⟩
end Go.Fw
namespace Go.Fw
open Go.Proofs
set_option maxHeartbeats 16000000
set_option maxRecDepth 10000
def cntP : List Int → Nat
 | [] => 0
 | x :: r => (if 0 ≤ x then 1 else 0) + cntP r
structure RA (n : Nat) (es : List Pr) (s : Nat) (L : List Int) : Prop where
 len : L.length = n
 con : ∀ (v : Nat) (x : Int), L[v]? = some x → -1 ≤ x ∧ (0 ≤ x → Con es s v)
 bd : ∀ (v : Nat) (x : Int), L[v]? = some x → x < (cntP L : Int)
 at_ : ∃ x, L[s]? = some x ∧ 0 ≤ x
end Go.Fw
namespace Go.Fw
open Go.Proofs
theorem adj_irr {n : Nat} {es : List Pr} (hr : InR n es) {a : Nat} (h : adj es a a) : False := by
 rcases h with h | h <;> have := (hr _ h).2.1 <;> simp at this
theorem split_len {α : Type} (p : α → Bool) : ∀ (l : List α), l.length = (l.filter p).length + (l.filter fun x => !p x).length
 | [] => rfl
 | x :: l => by
  have := split_len p l
  cases h : p x <;> simp [List.filter_cons, h, this] <;> omega
theorem one_len {l : List Nat} (nd : l.Nodup) {x : Nat} (hx : x ∈ l) (h : ∀ y ∈ l, y = x) : l.length = 1 := by
 cases l with
 | nil => cases hx
 | cons a l =>
  cases l with
  | nil => rfl
  | cons b l =>
   have h1 := h a (by simp)
   have h2 := h b (by simp)
   rw [h1, h2] at nd
   simp at nd
end Go.Fw
namespace Go.Fw
open Go.Proofs
def otherM (p : Pr) (v : Int) : Int := if p.1 = v then p.2 else if p.2 = v then p.1 else -1
theorem pairOf_mem {n : Nat} {es : List Pr} (hr : InR n es) {a b : Nat} (h : adj es a b) : pairOf a b ∈ es := adj_mem' hr h
theorem other_spec {n : Nat} {es : List Pr} (hr : InR n es) {p : Pr} (hp : p ∈ es) (v : Nat) :
  (∃ a : Nat, a < n ∧ otherM p (v : Int) = (a : Int) ∧ adj es v a ∧ p = pairOf v a) ∨ (otherM p (v : Int) = -1 ∧ ∀ a, p ≠ pairOf v a) := by
 obtain ⟨a, c, rfl, hac, hcn, hadj⟩ := ends hr hp
 unfold otherM
 by_cases h1 : a = v
 ·subst h1
  exact .inl ⟨c, hcn, by rw [if_pos rfl], hadj, by rw [pairOf_of, Prod.mk.injEq]; omega⟩
 ·by_cases h2 : c = v
  ·subst h2
   exact .inl ⟨a, by omega, by rw [if_neg (by simp only; omega), if_pos rfl], hadj.symm, by rw [pairOf_of, Prod.mk.injEq]; omega⟩
  ·refine .inr ⟨by rw [if_neg (by simp only; omega), if_neg (by simp only; omega)], fun b e => ?_⟩
   rw [pairOf_of, Prod.mk.injEq] at e; omega
def LK (es : List Pr) (v : Nat) (p q : Pr) : Prop := ∃ a b, adj es v a ∧ adj es v b ∧ p = pairOf v a ∧ q = pairOf v b ∧ Cn (wo v) es a b
structure OF (n : Nat) (es : List Pr) (f : Pr → Int) (v i k : Nat) : Prop where
 snd : ∀ p ∈ es, ∀ q ∈ es, f p = f q → keyE n es p = keyE n es q
 vs : ∀ v' < v, ∀ p ∈ es, ∀ q ∈ es, LK es v' p q → f p = f q
 is : ∀ (i' k' : Nat) p q, i' < i → k' < i' → es[i']? = some p → es[k']? = some q → LK es v p q → f p = f q
 ks : ∀ (k' : Nat) p q, k' < k → es[i]? = some p → es[k']? = some q → LK es v p q → f p = f q
end Go.Fw
namespace Go.Fw
open Go.Proofs
theorem two_len {α : Type} {l : List α} (nd : l.Nodup) : 1 < l.length ↔ ∃ x y, x ∈ l ∧ y ∈ l ∧ x ≠ y := by
 constructor
 ·intro h
  match l, h with
  | x :: y :: r, _ =>
   rw [List.nodup_cons] at nd
   exact ⟨x, y, by simp, by simp, fun e => nd.1 (by rw [e]; simp)⟩
 ·rintro ⟨x, y, hx, hy, hxy⟩
  match l with
  | [] => cases hx
  | [a] => rw [List.mem_singleton] at hx hy; exact absurd (hx.trans hy.symm) hxy
  | a :: b :: r => simp
def atB (v : Int) (b : List Pr) : Bool := b.any (incB v)
theorem inc_pair {n : Nat} {es : List Pr} (hr : InR n es) {p : Pr} (hp : p ∈ es) {v : Nat} (h : incB (v : Int) p = true) : ∃ a, adj es v a ∧ p = pairOf v a := by
 rcases other_spec hr hp v with ⟨a, _, _, h1, h2⟩ | ⟨h1, _⟩
 ·exact ⟨a, h1, h2⟩
 ·have := hr p hp
  unfold otherM at h1
  unfold incB at h
  rw [Bool.or_eq_true, decide_eq_true_eq, decide_eq_true_eq] at h
  split at h1
  ·omega
  ·split at h1 <;> omega
theorem pair_inc {v a : Nat} : incB (v : Int) (pairOf v a) = true := by
 unfold incB pairOf
 rw [Bool.or_eq_true, decide_eq_true_eq, decide_eq_true_eq]; simp only; omega
theorem at_iff {n : Nat} {es : List Pr} (hr : InR n es) {v : Nat} {k : Int} : atB (v : Int) (es.filter fun p => decide (keyE n es p = k)) = true ↔ ∃ a, adj es v a ∧ keyE n es (pairOf v a) = k := by
 unfold atB
 rw [List.any_eq_true]
 constructor
 ·rintro ⟨p, hp, hi⟩
  obtain ⟨h1, h2⟩ := List.mem_filter.1 hp
  obtain ⟨a, ha, rfl⟩ := inc_pair hr h1 hi
  exact ⟨a, ha, of_decide_eq_true h2⟩
 ·rintro ⟨a, ha, hk⟩
  exact ⟨_, List.mem_filter.2 ⟨pairOf_mem hr ha, decide_eq_true hk⟩, pair_inc⟩
def incN (n : Nat) (es : List Pr) (v : Nat) : Nat := ((blocksM n es).filter (atB (v : Int))).length
def keysAt (n : Nat) (es : List Pr) (v : Nat) : List Int := (fkM (keyE n es) es).filter fun k => atB (v : Int) (es.filter fun p => decide (keyE n es p = k))
theorem incN_keys (n : Nat) (es : List Pr) (v : Nat) : incN n es v = (keysAt n es v).length := by
 rw [incN, blocksM_eq, List.filter_map, List.length_map]; rfl
theorem keysAt_nd (n : Nat) (es : List Pr) (v : Nat) : (keysAt n es v).Nodup := (fk_ok (keyE n es) _ es rfl).1.sublist List.filter_sublist
theorem keysAt_mem {n : Nat} {es : List Pr} (hr : InR n es) {v : Nat} {k : Int} : k ∈ keysAt n es v ↔ ∃ a, adj es v a ∧ keyE n es (pairOf v a) = k := by
 rw [keysAt, List.mem_filter, at_iff hr]
 refine ⟨fun h => h.2, fun ⟨a, ha, hk⟩ => ⟨((fk_ok (keyE n es) _ es rfl).2 k).2 ⟨_, pairOf_mem hr ha, hk⟩, a, ha, hk⟩⟩
theorem inc_cut {n : Nat} {es : List Pr} (hr : InR n es) (v : Nat) : 1 < incN n es v ↔ Fo.Cut2 es v := by
 rw [incN_keys, two_len (keysAt_nd n es v)]
 constructor
 ·rintro ⟨x, y, hx, hy, hxy⟩
  obtain ⟨a, ha, rfl⟩ := (keysAt_mem hr).1 hx
  obtain ⟨b, hb, rfl⟩ := (keysAt_mem hr).1 hy
  exact ⟨a, b, ha, hb, fun c => hxy ((key_iff hr ha hb).2 c)⟩
 ·rintro ⟨a, b, ha, hb, hn⟩
  exact ⟨_, _, (keysAt_mem hr).2 ⟨a, ha, rfl⟩, (keysAt_mem hr).2 ⟨b, hb, rfl⟩, fun e => hn ((key_iff hr ha hb).1 e)⟩
end Go.Fw
