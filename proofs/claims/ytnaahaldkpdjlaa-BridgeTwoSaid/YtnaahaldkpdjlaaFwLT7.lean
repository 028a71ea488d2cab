/- A text of the proof. -/
import Derived.Test.YtnaahaldkpdjlaaFwLT4
import Derived.Test.YtnaahaldkpdjlaaFwLZ1
import Derived.Test.YtnaahaldkpdjlaaFwLB3
import Derived.Test.YtnaahaldkpdjlaaFwLW4
import Derived.Test.YtnaahaldkpdjlaaFwLW8
import Derived.Test.YtnaahaldkpdjlaaFwLB13
import Derived.Test.YtnaahaldkpdjlaaFwLZ6
import Derived.Test.YtnaahaldkpdjlaaFwLB9
import Derived.Test.YtnaahaldkpdjlaaFwLW3
set_option linter.unusedSimpArgs false
set_option linter.unusedVariables false
namespace Go.Fw
set_option maxRecDepth 10000
def fkS (key : Pr → Int) (ks : List Int) (p : Pr) : List Int := if key p ∈ ks then ks else ks ++ [key p]
def fkM (key : Pr → Int) (es : List Pr) : List Int := es.foldl (fkS key) []
theorem fkM_snoc (key : Pr → Int) (es : List Pr) (p : Pr) : fkM key (es ++ [p]) = fkS key (fkM key es) p := by simp [fkM]
theorem fk_ok (key : Pr → Int) : ∀ (k : Nat) (es : List Pr), es.length = k → (fkM key es).Nodup ∧ ∀ x, x ∈ fkM key es ↔ ∃ p ∈ es, key p = x := by
 intro k
 induction k with
 | zero => intro es h; obtain rfl := List.eq_nil_of_length_eq_zero h; simp [fkM]
 | succ k ih =>
  intro es h
  obtain ⟨es, p, rfl⟩ : ∃ es' p, es = es' ++ [p] := by
   rcases List.eq_nil_or_concat es with rfl | ⟨es', p, h'⟩
   ·simp at h
   ·exact ⟨es', p, by simpa using h'⟩
  obtain ⟨h1, h2⟩ := ih es (by simpa using h)
  rw [fkM_snoc]
  unfold fkS
  by_cases q : key p ∈ fkM key es
  ·rw [if_pos q]
   refine ⟨h1, fun x => ?_⟩
   rw [h2]
   constructor
   ·rintro ⟨r, hr, e⟩; exact ⟨r, by simp [hr], e⟩
   ·rintro ⟨r, hr, e⟩
    rw [List.mem_append, List.mem_singleton] at hr
    rcases hr with hr | rfl
    ·exact ⟨r, hr, e⟩
    ·rw [← e]; exact (h2 _).1 q
  ·rw [if_neg q]
   refine ⟨?_, fun x => ?_⟩
   ·rw [List.nodup_append]
    exact ⟨h1, by simp, fun a ha b hb e => by rw [List.mem_singleton] at hb; subst hb; subst e; exact q ha⟩
   ·rw [List.mem_append, List.mem_singleton, h2]
    constructor
    ·rintro (⟨r, hr, e⟩ | rfl)
     ·exact ⟨r, by simp [hr], e⟩
     ·exact ⟨p, by simp, rfl⟩
    ·rintro ⟨r, hr, e⟩
     rw [List.mem_append, List.mem_singleton] at hr
     rcases hr with hr | rfl
     ·exact .inl ⟨r, hr, e⟩
     ·exact .inr e.symm
theorem addG_map (F : Int → List Pr) (f : Int) (p : Pr) : ∀ (ks : List Int), ks.Nodup → addG (ks.map fun k => (k, F k)) f p = if f ∈ ks then ks.map (fun k => (k, if k = f then F k ++ [p] else F k)) else ks.map (fun k => (k, F k)) ++ [(f, [p])]
 | [], _ => by simp [addG]
 | k :: ks, hn => by
  rw [List.nodup_cons] at hn
  have ih := addG_map F f p ks hn.2
  simp only [List.map_cons, addG]
  by_cases c : k = f
  ·subst c
   rw [if_pos rfl, if_pos (by simp), if_pos rfl]
   congr 1
   refine List.map_congr_left fun x hx => ?_
   rw [if_neg (fun e => hn.1 (by rw [← e]; exact hx))]
  ·rw [if_neg c, ih]
   by_cases q : f ∈ ks
   ·rw [if_pos q, if_pos (List.mem_cons_of_mem _ q), if_neg c]
   ·rw [if_neg q, if_neg (by simp only [List.mem_cons, not_or]; exact ⟨fun e => c e.symm, q⟩)]; rfl
theorem grpsM_eq (key : Pr → Int) (es : List Pr) : ∀ m, m ≤ es.length → grpsM (fun p _ => key p) es [] m = (fkM key (es.take m)).map fun k => (k, (es.take m).filter fun p => decide (key p = k))
 | 0, _ => by simp [grpsM, fkM]
 | m + 1, h => by
  have hm : m < es.length := h
  have hp := getElem?_of hm
  have htk : es.take (m + 1) = es.take m ++ [es[m]] := List.take_succ_eq_append_getElem hm
  generalize es[m] = p at hp htk
  obtain ⟨h1, h2⟩ := fk_ok key _ (es.take m) rfl
  rw [grpsM_out hp (by simp), grpsM_eq key es m (by omega), addG_map _ _ _ _ h1, htk, fkM_snoc]
  unfold fkS
  by_cases q : key p ∈ fkM key (es.take m)
  ·rw [if_pos q, if_pos q]
   refine List.map_congr_left fun k _ => ?_
   rw [List.filter_append]
   by_cases c : k = key p
   ·subst c; simp
   ·rw [if_neg c]; simp [Ne.symm c]
  ·rw [if_neg q, if_neg q, List.map_append]
   congr 1
   ·refine List.map_congr_left fun k hk => ?_
    have c : ¬ key p = k := fun e => q (by rw [e]; exact hk)
    rw [List.filter_append]; simp [c]
   ·have : (es.take m).filter (fun r => decide (key r = key p)) = [] := by
     rw [List.filter_eq_nil_iff]
     intro r hr e
     exact q ((h2 _).2 ⟨r, hr, by simpa using e⟩)
    simp [List.filter_append, this]
theorem blocksM_eq (n : Nat) (es : List Pr) : blocksM n es = (fkM (keyE n es) es).map fun k => es.filter fun p => decide (keyE n es p = k) := by
 rw [blocksM, grpsM_eq _ _ _ (Nat.le_refl _), List.take_length, List.map_map]; rfl
theorem adj_mem' {n : Nat} {es : List Pr} (hr : InR n es) {a b : Nat} (h : adj es a b) : pairOf a b ∈ es := by
 unfold pairOf
 rcases h with h | h
 ·have := hr _ h; simp only at this
  rw [Int.min_eq_left (by omega), Int.max_eq_right (by omega)]; exact h
 ·have := hr _ h; simp only at this
  rw [Int.min_eq_right (by omega), Int.max_eq_left (by omega)]; exact h
end Go.Fw
namespace Go.Fw
open Go.Proofs
set_option maxHeartbeats 16000000
set_option maxRecDepth 10000
structure AtS (n : Int) (es : List Pr) (bs : List (List Pr)) : Prop where
 ne : ∀ b ∈ bs, b ≠ []
 right : ∀ b ∈ bs, RightG ⟨n, b⟩
 asc : ∀ (i : Nat) b b' p q, bs[i]? = some b → bs[i + 1]? = some b' → b[0]? = some p → b'[0]? = some q → p.1 < q.1 ∨ p.1 = q.1 ∧ p.2 < q.2
 mem : ∀ b ∈ bs, ∀ p ∈ b, p ∈ es
 dis : ∀ (i j : Nat) b b' p, bs[i]? = some b → bs[j]? = some b' → p ∈ b → p ∈ b' → i = j
 all : ∀ p ∈ es, ∃ b ∈ bs, p ∈ b
 len : bs.length ≤ 1000
theorem RightG.nodup {n : Int} {es : List Pr} (h : RightG ⟨n, es⟩) : es.Nodup := by
 have hA := h.asc
 rw [List.Nodup, List.pairwise_iff_getElem]
 intro i j hi hj hij e
 have := hA.lt hij (List.getElem?_eq_getElem hi) (List.getElem?_eq_getElem hj)
 rw [e] at this; omega
end Go.Fw
namespace Go.Fw
set_option maxRecDepth 10000
theorem asc_pair {es : List Pr} : Asc es ↔ es.Pairwise fun x y => x.1 < y.1 ∨ x.1 = y.1 ∧ x.2 < y.2 := by
 rw [List.pairwise_iff_getElem]
 constructor
 ·intro ha i j hi hj hij; exact ha.lt hij (List.getElem?_eq_getElem hi) (List.getElem?_eq_getElem hj)
 ·intro h i j p q hij hi hj
  obtain ⟨a1, a2⟩ := List.getElem?_eq_some_iff.1 hi
  obtain ⟨b1, b2⟩ := List.getElem?_eq_some_iff.1 hj
  rw [cmpP_lt, ← a2, ← b2]; exact h i j a1 b1 hij
theorem RightG.of {n : Nat} {es : List Pr} (h200 : n ≤ 200) (hl : es.length ≤ 594) (hr : InR n es) (ha : Asc es) : RightG ⟨(n : Int), es⟩ :=
 ⟨by simp, by show (n : Int) ≤ 200; omega, hl, fun i hi p hp => ⟨hr p (List.mem_of_getElem? hp), fun q h0 hq => ha (i - 1) i q p (by omega) hq hp⟩⟩
theorem RightG.sub {n : Nat} {es fs : List Pr} (h : RightG ⟨(n : Int), es⟩) (hs : fs.Sublist es) : RightG ⟨(n : Int), fs⟩ :=
 RightG.of (by have : (n : Int) ≤ 200 := h.n1; omega) (Nat.le_trans hs.length_le h.len) (fun p hp => h.inR p (hs.subset hp)) (asc_pair.2 ((asc_pair.1 h.asc).sublist hs))
def incB (v : Int) (p : Pr) : Bool := decide (p.1 = v) || decide (p.2 = v)
def woV (es : List Pr) (v : Nat) : List Pr := es.filter fun p => !incB (v : Int) p
theorem woV_adj {es : List Pr} {v x y : Nat} : adj (woV es v) x y ↔ adj es x y ∧ x ≠ v ∧ y ≠ v := by
 simp only [adj, woV, incB, List.mem_filter, Bool.not_eq_true', Bool.or_eq_false_iff, decide_eq_false_iff_not]
 constructor
 ·rintro (⟨h, k1, k2⟩ | ⟨h, k1, k2⟩)
  ·exact ⟨.inl h, fun e => k1 (by rw [e]), fun e => k2 (by rw [e])⟩
  ·exact ⟨.inr h, fun e => k2 (by rw [e]), fun e => k1 (by rw [e])⟩
 ·rintro ⟨h | h, k1, k2⟩
  ·exact .inl ⟨h, by omega, by omega⟩
  ·exact .inr ⟨h, by omega, by omega⟩
theorem woV_con {es : List Pr} {v a b : Nat} (ha : a ≠ v) : Con (woV es v) a b ↔ Cn (wo v) es a b := by
 constructor
 ·intro h
  induction h with
  | refl _ => exact .refl (wo_ne ha)
  | step _ a _ ih => exact ih.step (woV_adj.1 a).1 (wo_ne (woV_adj.1 a).2.2)
 ·intro h
  induction h with
  | refl _ => exact Con.refl _ _
  | step c a o ih => exact .step ih (woV_adj.2 ⟨a, by simpa [wo] using c.off2, by simpa [wo] using o⟩) rfl
end Go.Fw
namespace Go.Fw
set_option maxRecDepth 10000
theorem ends {n : Nat} {es : List Pr} (hr : InR n es) {p : Pr} (hp : p ∈ es) : ∃ a c : Nat, p = ((a : Int), (c : Int)) ∧ a < c ∧ c < n ∧ adj es a c := by
 have hpos := hr p hp
 obtain ⟨x, y⟩ := p
 simp only at hpos
 obtain ⟨a, rfl⟩ := Int.eq_ofNat_of_zero_le hpos.1
 obtain ⟨c, rfl⟩ := Int.eq_ofNat_of_zero_le (show 0 ≤ y by omega)
 exact ⟨a, c, rfl, by omega, by omega, .inl hp⟩
end Go.Fw
namespace Go.Fw
open Go.Proofs
set_option maxHeartbeats 16000000
set_option maxRecDepth 10000
def wgt (n : Nat) (x : Int) : Nat := if x < 0 then n else x.toNat
def phi (n : Nat) : List Int → Nat
 | [] => 0
 | x :: r => wgt n x + phi n r
def cntP : List Int → Nat
 | [] => 0
 | x :: r => (if 0 ≤ x then 1 else 0) + cntP r
theorem phi_set (n : Nat) : ∀ (L : List Int) (i : Nat) (x y : Int), L[i]? = some x → phi n (L.set i y) + wgt n x = phi n L + wgt n y
 | [], i, x, y, h => by simp at h
 | z :: r, 0, x, y, h => by simp at h; subst h; simp only [List.set_cons_zero, phi]; omega
 | z :: r, i + 1, x, y, h => by have := phi_set n r i x y (by simpa using h); simp only [List.set_cons_succ, phi]; omega
theorem cntP_set : ∀ (L : List Int) (i : Nat) (x y : Int), L[i]? = some x → cntP (L.set i y) + (if 0 ≤ x then 1 else 0) = cntP L + (if 0 ≤ y then 1 else 0)
 | [], i, x, y, h => by simp at h
 | z :: r, 0, x, y, h => by simp at h; subst h; simp only [List.set_cons_zero, cntP]; omega
 | z :: r, i + 1, x, y, h => by have := cntP_set r i x y (by simpa using h); simp only [List.set_cons_succ, cntP]; omega
theorem cntP_le : ∀ (L : List Int), cntP L ≤ L.length
 | [] => Nat.le_refl _
 | x :: r => by have := cntP_le r; simp only [cntP, List.length_cons]; split <;> omega
structure RA (n : Nat) (es : List Pr) (s : Nat) (L : List Int) : Prop where
 len : L.length = n
 con : ∀ (v : Nat) (x : Int), L[v]? = some x → -1 ≤ x ∧ (0 ≤ x → Con es s v)
 bd : ∀ (v : Nat) (x : Int), L[v]? = some x → x < (cntP L : Int)
 at_ : ∃ x, L[s]? = some x ∧ 0 ≤ x
def relax (L : List Int) (a b : Nat) : Bool := decide (L.getD a 0 ≥ 0) && (decide (L.getD b 0 < 0) || decide (L.getD b 0 > L.getD a 0 + 1))
theorem RA.step {n : Nat} {es : List Pr} {s : Nat} {L : List Int} (R : RA n es s L) {a b : Nat} (ha : adj es a b) (han : a < n) (hbn : b < n) (hr : relax L a b = true) : RA n es s (L.set b (L.getD a 0 + 1)) ∧ phi n (L.set b (L.getD a 0 + 1)) < phi n L := by
 have hla := getElem?_of (show a < L.length by rw [R.len]; exact han)
 have hlb := getElem?_of (show b < L.length by rw [R.len]; exact hbn)
 rw [relax, getD_of (by rw [R.len]; exact han), getD_of (by rw [R.len]; exact hbn)] at hr
 rw [getD_of (by rw [R.len]; exact han)]
 generalize L[a]'(by rw [R.len]; exact han) = x at *
 generalize L[b]'(by rw [R.len]; exact hbn) = y at *
 simp only [Bool.and_eq_true, Bool.or_eq_true, decide_eq_true_eq] at hr
 obtain ⟨h0, h1⟩ := hr
 have hc := cntP_set L b y (x + 1) hlb
 have hp := phi_set n L b y (x + 1) hlb
 have hx := R.bd a x hla
 have hy := R.con b y hlb
 have hcl := cntP_le L
 have hcl' := cntP_le (L.set b (x + 1))
 rw [List.length_set, R.len] at hcl'
 rw [R.len] at hcl
 have hbl : b < L.length := by rw [R.len]; exact hbn
 refine ⟨⟨by simp [R.len], fun v z hz => ?_, fun v z hz => ?_, ?_⟩, ?_⟩
 ·rw [List.getElem?_set] at hz
  by_cases e : b = v
  ·subst e
   rw [if_pos rfl, if_pos hbl] at hz; injection hz with hz; subst hz
   exact ⟨by omega, fun _ => ((R.con a x hla).2 h0).step ha rfl⟩
  ·rw [if_neg e] at hz; exact R.con v z hz
 ·rw [List.getElem?_set] at hz
  have hge : cntP L ≤ cntP (L.set b (x + 1)) := by
   split at hc <;> split at hc <;> omega
  by_cases e : b = v
  ·subst e
   rw [if_pos rfl, if_pos hbl] at hz; injection hz with hz; subst hz
   rcases h1 with h1 | h1
   ·rw [if_neg (by omega), if_pos (by omega)] at hc; omega
   ·have := R.bd b y hlb; omega
  ·rw [if_neg e] at hz; have := R.bd v z hz; omega
 ·obtain ⟨z, hz, hz0⟩ := R.at_
  by_cases e : b = s
  ·subst e; exact ⟨x + 1, by rw [List.getElem?_set, if_pos rfl, if_pos hbl], by omega⟩
  ·exact ⟨z, by rw [List.getElem?_set, if_neg e]; exact hz, hz0⟩
 ·unfold wgt at hp
  rcases h1 with h1 | h1
  ·rw [if_neg (by omega : ¬ x + 1 < 0), if_pos h1] at hp
   rw [if_neg (by omega), if_pos (by omega)] at hc
   omega
  ·rw [if_neg (by omega : ¬ x + 1 < 0), if_neg (by omega : ¬ y < 0)] at hp
   omega
end Go.Fw
namespace Go.Fw
open Go.Proofs
set_option maxHeartbeats 16000000
set_option maxRecDepth 10000
theorem flatP_take (ps : List Pr) (i : Nat) : flatP (ps.take i) = (flatP ps).take (i * 2) := by
 induction ps generalizing i with
 | nil => simp [flatP]
 | cons p ps ih =>
  cases i with
  | zero => simp [flatP]
  | succ i =>
   have e : flatP (p :: ps) = .int .i64 p.1 :: .int .i64 p.2 :: flatP ps := rfl
   have e' : flatP (p :: ps.take i) = .int .i64 p.1 :: .int .i64 p.2 :: flatP (ps.take i) := rfl
   rw [List.take_succ_cons, e', e, ih, show (i + 1) * 2 = i * 2 + 1 + 1 by omega, List.take_succ_cons, List.take_succ_cons]
theorem PR.take {h : AHeap} {a a' : Option Addr} {ps : List Pr} {cap cap' : Nat} (r : PR h (.slice a ps.length cap) ps) {i : Nat} (hi : i ≤ ps.length) (ha : 0 < i → ∀ x, a = some x → a' = some (aadd x 0)) : PR h (.slice a' i cap') (ps.take i) := by
 obtain ⟨_, _, e, hs⟩ := r.sl
 injection e with e1 e2 e3
 subst e1
 have hl : (ps.take i).length = i := by rw [List.length_take]; omega
 refine ⟨⟨a', cap', by rw [hl], fun h0 => ?_⟩, flatP_length _, fun j x hx => ?_⟩
 ·rw [hl] at h0
  obtain ⟨y, hy⟩ := Option.isSome_iff_exists.1 (hs (by omega))
  rw [ha h0 y hy]; rfl
 ·rw [flatP_take, List.getElem?_take] at hx
  split at hx
  ·obtain ⟨y, hy⟩ := Option.isSome_iff_exists.1 (hs (by omega))
   have := CS.get r j x hx
   subst hy
   rw [ha (by omega) y rfl, elemAddr_mk]
   simpa [elemAddr_mk, aadd] using this
  ·cases hx
end Go.Fw
namespace Go.Fw
open Go.Proofs
theorem adj_irr {n : Nat} {es : List Pr} (hr : InR n es) {a : Nat} (h : adj es a a) : False := by
 rcases h with h | h <;> have := (hr _ h).2.1 <;> simp at this
theorem woV_reach {es : List Pr} {v x : Nat} (h : Con es v x) (hx : x ≠ v) : ∃ a, adj es v a ∧ Con (woV es v) a x := by
 induction h with
 | refl _ => exact absurd rfl hx
 | @step w x c a _ ih =>
  by_cases e : w = v
  ·subst e; exact ⟨x, a, Con.refl _ _⟩
  ·obtain ⟨b, hb, hc⟩ := ih e
   exact ⟨b, hb, .step hc (woV_adj.2 ⟨a, e, hx⟩) rfl⟩
theorem split_len {α : Type} (p : α → Bool) : ∀ (l : List α), l.length = (l.filter p).length + (l.filter fun x => !p x).length
 | [] => rfl
 | x :: l => by
  have := split_len p l
  cases h : p x <;> simp [List.filter_cons, h, this] <;> omega
end Go.Fw
namespace Go.Fw
open Go.Proofs
def otherM (p : Pr) (v : Int) : Int := if p.1 = v then p.2 else if p.2 = v then p.1 else -1
theorem pairOf_mem {n : Nat} {es : List Pr} (hr : InR n es) {a b : Nat} (h : adj es a b) : pairOf a b ∈ es := adj_mem' hr h
theorem other_spec {n : Nat} {es : List Pr} (hr : InR n es) {p : Pr} (hp : p ∈ es) (v : Nat) :
  (∃ a : Nat, a < n ∧ otherM p (v : Int) = (a : Int) ∧ adj es v a ∧ p = pairOf v a) ∨ (otherM p (v : Int) = -1 ∧ ∀ a, p ≠ pairOf v a) := by
 obtain ⟨a, c, rfl, hac, hcn, hadj⟩ := ends hr hp
 unfold otherM
 by_cases h1 : a = v
 ·subst h1
  exact .inl ⟨c, hcn, by rw [if_pos rfl], hadj, by rw [pairOf_of, Prod.mk.injEq]; omega⟩
 ·by_cases h2 : c = v
  ·subst h2
   exact .inl ⟨a, by omega, by rw [if_neg (by simp only; omega), if_pos rfl], hadj.symm, by rw [pairOf_of, Prod.mk.injEq]; omega⟩
  ·refine .inr ⟨by rw [if_neg (by simp only; omega), if_neg (by simp only; omega)], fun b e => ?_⟩
   rw [pairOf_of, Prod.mk.injEq] at e; omega
def LK (es : List Pr) (v : Nat) (p q : Pr) : Prop := ∃ a b, adj es v a ∧ adj es v b ∧ p = pairOf v a ∧ q = pairOf v b ∧ Cn (wo v) es a b
theorem LK.symm {es : List Pr} {v : Nat} {p q : Pr} (h : LK es v p q) : LK es v q p := by
 obtain ⟨a, b, h1, h2, h3, h4, h5⟩ := h; exact ⟨b, a, h2, h1, h4, h3, h5.symm⟩
theorem LK.key {n : Nat} {es : List Pr} (hr : InR n es) {v : Nat} {p q : Pr} (h : LK es v p q) : keyE n es p = keyE n es q := by
 obtain ⟨a, b, h1, h2, rfl, rfl, h5⟩ := h; exact (key_iff hr h1 h2).2 h5
def oneF (f : Pr → Int) (a b : Int) (p : Pr) : Int := if f p = a then b else f p
structure OF (n : Nat) (es : List Pr) (f : Pr → Int) (v i k : Nat) : Prop where
 snd : ∀ p ∈ es, ∀ q ∈ es, f p = f q → keyE n es p = keyE n es q
 vs : ∀ v' < v, ∀ p ∈ es, ∀ q ∈ es, LK es v' p q → f p = f q
 is : ∀ (i' k' : Nat) p q, i' < i → k' < i' → es[i']? = some p → es[k']? = some q → LK es v p q → f p = f q
 ks : ∀ (k' : Nat) p q, k' < k → es[i]? = some p → es[k']? = some q → LK es v p q → f p = f q
theorem OF.start {n : Nat} {es : List Pr} {f : Pr → Int} (h : ∀ p ∈ es, ∀ q ∈ es, f p = f q → p = q) : OF n es f 0 0 0 :=
 ⟨fun p hp q hq e => by rw [h p hp q hq e], fun v' hv => by omega, fun i' k' p q h1 => by omega, fun k' p q h1 => by omega⟩
theorem oneF_eq {f : Pr → Int} {a b : Int} {p q : Pr} (h : f p = f q) : oneF f a b p = oneF f a b q := by unfold oneF; rw [h]
theorem OF.link {n : Nat} {es : List Pr} (hr : InR n es) {f : Pr → Int} {v i k : Nat} (o : OF n es f v i k) {p q : Pr} (hp : es[i]? = some p) (hq : es[k]? = some q) (h : LK es v p q) : OF n es (oneF f (f p) (f q)) v i (k + 1) := by
 have hpe := List.mem_of_getElem? hp
 have hqe := List.mem_of_getElem? hq
 have hk := h.key hr
 refine ⟨fun x hx y hy e => ?_, fun v' hv' x hx y hy l => oneF_eq (o.vs v' hv' x hx y hy l), fun i' k' x y h1 h2 hx hy l => oneF_eq (o.is i' k' x y h1 h2 hx hy l), fun k' p' q' h1 hp' hq' l => ?_⟩
 ·unfold oneF at e
  split at e
  ·rename_i h1
   have kx := o.snd x hx p hpe h1
   split at e
   ·rename_i h2
    rw [kx, o.snd y hy p hpe h2]
   ·rw [kx, hk]; exact o.snd q hqe y hy e
  ·split at e
   ·rename_i h2
    rw [o.snd y hy p hpe h2, hk]; exact o.snd x hx q hqe e
   ·exact o.snd x hx y hy e
 ·by_cases e : k' = k
  ·subst e; rw [hp] at hp'; rw [hq] at hq'; injection hp' with hp'; injection hq' with hq'; subst hp'; subst hq'
   unfold oneF; rw [if_pos rfl]; split <;> rfl
  ·exact oneF_eq (o.ks k' p' q' (by omega) hp' hq' l)
end Go.Fw
namespace Go.Fw
open Go.Proofs
theorem two_len {α : Type} {l : List α} (nd : l.Nodup) : 1 < l.length ↔ ∃ x y, x ∈ l ∧ y ∈ l ∧ x ≠ y := by
 constructor
 ·intro h
  match l, h with
  | x :: y :: r, _ =>
   rw [List.nodup_cons] at nd
   exact ⟨x, y, by simp, by simp, fun e => nd.1 (by rw [e]; simp)⟩
 ·rintro ⟨x, y, hx, hy, hxy⟩
  match l with
  | [] => cases hx
  | [a] => rw [List.mem_singleton] at hx hy; exact absurd (hx.trans hy.symm) hxy
  | a :: b :: r => simp
def atB (v : Int) (b : List Pr) : Bool := b.any (incB v)
theorem inc_pair {n : Nat} {es : List Pr} (hr : InR n es) {p : Pr} (hp : p ∈ es) {v : Nat} (h : incB (v : Int) p = true) : ∃ a, adj es v a ∧ p = pairOf v a := by
 rcases other_spec hr hp v with ⟨a, _, _, h1, h2⟩ | ⟨h1, _⟩
 ·exact ⟨a, h1, h2⟩
 ·have := hr p hp
  unfold otherM at h1
  unfold incB at h
  rw [Bool.or_eq_true, decide_eq_true_eq, decide_eq_true_eq] at h
  split at h1
  ·omega
  ·split at h1 <;> omega
theorem pair_inc {v a : Nat} : incB (v : Int) (pairOf v a) = true := by
 unfold incB pairOf
 rw [Bool.or_eq_true, decide_eq_true_eq, decide_eq_true_eq]; simp only; omega
theorem at_iff {n : Nat} {es : List Pr} (hr : InR n es) {v : Nat} {k : Int} : atB (v : Int) (es.filter fun p => decide (keyE n es p = k)) = true ↔ ∃ a, adj es v a ∧ keyE n es (pairOf v a) = k := by
 unfold atB
 rw [List.any_eq_true]
 constructor
 ·rintro ⟨p, hp, hi⟩
  obtain ⟨h1, h2⟩ := List.mem_filter.1 hp
  obtain ⟨a, ha, rfl⟩ := inc_pair hr h1 hi
  exact ⟨a, ha, of_decide_eq_true h2⟩
 ·rintro ⟨a, ha, hk⟩
  exact ⟨_, List.mem_filter.2 ⟨pairOf_mem hr ha, decide_eq_true hk⟩, pair_inc⟩
def incN (n : Nat) (es : List Pr) (v : Nat) : Nat := ((blocksM n es).filter (atB (v : Int))).length
def keysAt (n : Nat) (es : List Pr) (v : Nat) : List Int := (fkM (keyE n es) es).filter fun k => atB (v : Int) (es.filter fun p => decide (keyE n es p = k))
theorem incN_keys (n : Nat) (es : List Pr) (v : Nat) : incN n es v = (keysAt n es v).length := by
 rw [incN, blocksM_eq, List.filter_map, List.length_map]; rfl
theorem keysAt_nd (n : Nat) (es : List Pr) (v : Nat) : (keysAt n es v).Nodup := (fk_ok (keyE n es) _ es rfl).1.sublist List.filter_sublist
theorem keysAt_mem {n : Nat} {es : List Pr} (hr : InR n es) {v : Nat} {k : Int} : k ∈ keysAt n es v ↔ ∃ a, adj es v a ∧ keyE n es (pairOf v a) = k := by
 rw [keysAt, List.mem_filter, at_iff hr]
 refine ⟨fun h => h.2, fun ⟨a, ha, hk⟩ => ⟨((fk_ok (keyE n es) _ es rfl).2 k).2 ⟨_, pairOf_mem hr ha, hk⟩, a, ha, hk⟩⟩
theorem inc_cut {n : Nat} {es : List Pr} (hr : InR n es) (v : Nat) : 1 < incN n es v ↔ Fo.Cut2 es v := by
 rw [incN_keys, two_len (keysAt_nd n es v)]
 constructor
 ·rintro ⟨x, y, hx, hy, hxy⟩
  obtain ⟨a, ha, rfl⟩ := (keysAt_mem hr).1 hx
  obtain ⟨b, hb, rfl⟩ := (keysAt_mem hr).1 hy
  exact ⟨a, b, ha, hb, fun c => hxy ((key_iff hr ha hb).2 c)⟩
 ·rintro ⟨a, b, ha, hb, hn⟩
  exact ⟨_, _, (keysAt_mem hr).2 ⟨a, ha, rfl⟩, (keysAt_mem hr).2 ⟨b, hb, rfl⟩, fun e => hn ((key_iff hr ha hb).1 e)⟩
end Go.Fw
namespace Go.Fw
open Go.Proofs
attribute [local irreducible] KO4 KO3 KO2 KO1 KO KN KX KE VK KCond KDraw KCall KLoop
set_option maxHeartbeats 16000000
set_option maxRecDepth 10000
def normP (p : Pr) : Pr := (min p.1 p.2, max p.1 p.2)
structure NewOK (n : Int) (ps : List Pr) : Prop where
 n0 : 0 ≤ n
 n1 : n ≤ 200
 len : ps.length ≤ 594
 ok : ∀ p ∈ ps, 0 ≤ (normP p).1 ∧ (normP p).1 ≠ (normP p).2 ∧ (normP p).2 < n
 nd : (ps.map normP).Nodup
end Go.Fw
namespace Go.Fw
open Go.Proofs
attribute [local irreducible] KO4 KO3 KO2 KO1 KO KN KX KE VK KCond KDraw KCall KLoop
set_option maxHeartbeats 16000000
set_option maxRecDepth 10000
structure PermOK (ps : List Int) : Prop where
 len : ps.length ≤ 200
 rng : ∀ x ∈ ps, 0 ≤ x ∧ x < (ps.length : Int)
 nd : ps.Nodup
def permF (ps : List Int) (a : Nat) : Nat := (ps.getD a 0).toNat
theorem PermOK.get {ps : List Int} (k : PermOK ps) {a : Nat} (ha : a < ps.length) : ps.getD a 0 = (permF ps a : Int) ∧ permF ps a < ps.length := by
 have hg : ps.getD a 0 = ps[a] := getD_of ha
 obtain ⟨h1, h2⟩ := k.rng _ (List.getElem_mem ha)
 rw [permF, hg]; omega
theorem PermOK.inj {ps : List Int} (k : PermOK ps) {a b : Nat} (ha : a < ps.length) (hb : b < ps.length) (e : permF ps a = permF ps b) : a = b := by
 have h1 := (k.get ha).1
 have h2 := (k.get hb).1
 rw [getD_of ha] at h1
 rw [getD_of hb] at h2
 have nd := k.nd
 rw [List.Nodup, List.pairwise_iff_getElem] at nd
 rcases Nat.lt_trichotomy a b with h | h | h
 ·exact absurd (by rw [h1, h2, e]) (nd a b ha hb h)
 ·exact h
 ·exact absurd (by rw [h1, h2, e]) (nd b a hb ha h)
theorem PermOK.surj {ps : List Int} (k : PermOK ps) {x : Nat} (hx : x < ps.length) : ∃ a, a < ps.length ∧ permF ps a = x := by
 have hm : (x : Int) ∈ ps := Classical.byContradiction fun hn => by
  have nd : ((x : Int) :: ps).Nodup := List.nodup_cons.2 ⟨hn, k.nd⟩
  have hs : ((x : Int) :: ps) ⊆ (List.range ps.length).map fun (i : Nat) => (i : Int) := fun y hy => by
   rw [List.mem_map]
   rcases List.mem_cons.1 hy with rfl | hy
   ·exact ⟨x, List.mem_range.2 hx, rfl⟩
   ·have := k.rng y hy; exact ⟨y.toNat, List.mem_range.2 (by omega), by omega⟩
  have := nd.length_le_of_subset hs
  simp at this
  omega
 obtain ⟨a, ha, e⟩ := List.mem_iff_getElem.1 hm
 have := (k.get ha).1
 rw [getD_of ha, e] at this
 exact ⟨a, ha, by omega⟩
def appP (ps : List Int) (p : Pr) : Pr := (ps.getD p.1.toNat 0, ps.getD p.2.toNat 0)
def AppOK (G : GM) (ps : List Int) : Prop := RightG G ∧ PermOK ps ∧ (ps.length : Int) = G.n
theorem appP_nat {ps : List Int} (k : PermOK ps) {a b : Nat} (ha : a < ps.length) (hb : b < ps.length) : appP ps ((a : Int), (b : Int)) = ((permF ps a : Int), (permF ps b : Int)) := by
 simp only [appP, Int.toNat_natCast]; rw [(k.get ha).1, (k.get hb).1]
theorem AppOK.new {n : Nat} {es : List Pr} {ps : List Int} (A : AppOK ⟨(n : Int), es⟩ ps) : NewOK (n : Int) (es.map (appP ps)) := by
 obtain ⟨hr, k, hl⟩ := A
 have hln : ps.length = n := by simp only at hl; omega
 have nat : ∀ p ∈ es, ∃ a b : Nat, p = ((a : Int), (b : Int)) ∧ a < b ∧ b < n := fun p hp => by
  have := hr.inR p hp
  exact ⟨p.1.toNat, p.2.toNat, Prod.ext (by simp only; omega) (by simp only; omega), by omega, by omega⟩
 refine ⟨by omega, hr.n1, by rw [List.length_map]; exact hr.len, fun q hq => ?_, ?_⟩
 ·obtain ⟨p, hp, rfl⟩ := List.mem_map.1 hq
  obtain ⟨a, b, rfl, hab, hb⟩ := nat p hp
  have ha1 := (k.get (show a < ps.length by omega)).2
  have hb1 := (k.get (show b < ps.length by omega)).2
  have ne : permF ps a ≠ permF ps b := fun e => by have := k.inj (by omega) (by omega) e; omega
  rw [appP_nat k (by omega) (by omega)]
  simp only [normP]; omega
 ·rw [List.map_map, List.nodup_iff_pairwise_ne, List.pairwise_map]
  have nd := hr.nodup
  rw [List.nodup_iff_pairwise_ne] at nd
  refine nd.imp_of_mem fun {p q} hp hq hne e => hne ?_
  obtain ⟨a, b, rfl, hab, hb⟩ := nat p hp
  obtain ⟨c, d, rfl, hcd, hd⟩ := nat q hq
  simp only [Function.comp] at e
  rw [appP_nat k (by omega) (by omega), appP_nat k (by omega) (by omega)] at e
  simp only [normP, Prod.mk.injEq] at e
  have inj := fun {x y : Nat} (hx : x < n) (hy : y < n) => k.inj (show x < ps.length by omega) (show y < ps.length by omega)
  have i1 := fun h => inj (x := a) (y := c) (by omega) (by omega) h
  have i2 := fun h => inj (x := b) (y := d) (by omega) (by omega) h
  have i3 := fun h => inj (x := a) (y := d) (by omega) (by omega) h
  have i4 := fun h => inj (x := b) (y := c) (by omega) (by omega) h
  rcases (show (permF ps a = permF ps c ∧ permF ps b = permF ps d) ∨ (permF ps a = permF ps d ∧ permF ps b = permF ps c) by omega) with ⟨h1, h2⟩ | ⟨h1, h2⟩
  ·rw [i1 h1, i2 h2]
  ·have := i3 h1; have := i4 h2; omega
end Go.Fw
