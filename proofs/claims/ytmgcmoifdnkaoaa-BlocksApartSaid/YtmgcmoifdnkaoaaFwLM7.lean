/- A text of the proof. -/
import Derived.Test.YtmgcmoifdnkaoaaFwLT4
import Derived.Test.YtmgcmoifdnkaoaaFwLT6
import Derived.Test.YtmgcmoifdnkaoaaFwLW8
import Derived.Test.YtmgcmoifdnkaoaaFwLB3
import Derived.Test.YtmgcmoifdnkaoaaFwLW4
import Derived.Test.YtmgcmoifdnkaoaaFwLB12
set_option linter.unusedSimpArgs false
set_option linter.unusedVariables false
namespace Go.Fw
open Go.Proofs
attribute [local irreducible] KO4 KO3 KO2 KO1 KO KN KX KE VK KCond KDraw KCall KLoop
set_option maxHeartbeats 16000000
set_option maxRecDepth 10000
structure AtS (n : Int) (es : List Pr) (bs : List (List Pr)) : Prop where
 ne : ∀ b ∈ bs, b ≠ []
 right : ∀ b ∈ bs, RightG ⟨n, b⟩
 asc : ∀ (i : Nat) b b' p q, bs[i]? = some b → bs[i + 1]? = some b' → b[0]? = some p → b'[0]? = some q → p.1 < q.1 ∨ p.1 = q.1 ∧ p.2 < q.2
 mem : ∀ b ∈ bs, ∀ p ∈ b, p ∈ es
 dis : ∀ (i j : Nat) b b' p, bs[i]? = some b → bs[j]? = some b' → p ∈ b → p ∈ b' → i = j
 all : ∀ p ∈ es, ∃ b ∈ bs, p ∈ b
 len : bs.length ≤ 1000
def Met (bs : List (List Pr)) (i j : Nat) (p : Pr) (x : Int) : Prop := ∃ (k : Nat) (b : List Pr), bs[k]? = some b ∧ x = (k : Int) ∧ (k < i ∧ p ∈ b ∨ k = i ∧ p ∈ b.take j)
end Go.Fw
namespace Go.Fw
set_option maxRecDepth 10000
theorem asc_pair {es : List Pr} : Asc es ↔ es.Pairwise fun x y => x.1 < y.1 ∨ x.1 = y.1 ∧ x.2 < y.2 := by
 rw [List.pairwise_iff_getElem]
 constructor
 ·intro ha i j hi hj hij; exact ha.lt hij (List.getElem?_eq_getElem hi) (List.getElem?_eq_getElem hj)
 ·intro h i j p q hij hi hj
  obtain ⟨a1, a2⟩ := List.getElem?_eq_some_iff.1 hi
  obtain ⟨b1, b2⟩ := List.getElem?_eq_some_iff.1 hj
  rw [cmpP_lt, ← a2, ← b2]; exact h i j a1 b1 hij
theorem RightG.of {n : Nat} {es : List Pr} (h200 : n ≤ 200) (hl : es.length ≤ 594) (hr : InR n es) (ha : Asc es) : RightG ⟨(n : Int), es⟩ :=
 ⟨by simp, by show (n : Int) ≤ 200; omega, hl, fun i hi p hp => ⟨hr p (List.mem_of_getElem? hp), fun q h0 hq => ha (i - 1) i q p (by omega) hq hp⟩⟩
theorem RightG.sub {n : Nat} {es fs : List Pr} (h : RightG ⟨(n : Int), es⟩) (hs : fs.Sublist es) : RightG ⟨(n : Int), fs⟩ :=
 RightG.of (by have : (n : Int) ≤ 200 := h.n1; omega) (Nat.le_trans hs.length_le h.len) (fun p hp => h.inR p (hs.subset hp)) (asc_pair.2 ((asc_pair.1 h.asc).sublist hs))
theorem blocks_get {n : Nat} {es : List Pr} {i : Nat} {b : List Pr} (h : (blocksM n es)[i]? = some b) : ∃ k, (fkM (keyE n es) es)[i]? = some k ∧ b = es.filter fun p => decide (keyE n es p = k) := by
 rw [blocksM_eq, List.getElem?_map] at h
 cases hk : (fkM (keyE n es) es)[i]? with
 | none => rw [hk] at h; cases h
 | some k => rw [hk] at h; simp at h; exact ⟨k, rfl, h.symm⟩
theorem blocks_in {n : Nat} {es : List Pr} {i : Nat} {b : List Pr} (h : (blocksM n es)[i]? = some b) {k : Int} (hk : (fkM (keyE n es) es)[i]? = some k) {p : Pr} : p ∈ b ↔ p ∈ es ∧ keyE n es p = k := by
 obtain ⟨k', h1, rfl⟩ := blocks_get h
 rw [hk] at h1; injection h1 with h1; subst h1
 rw [List.mem_filter, decide_eq_true_eq]
theorem blocks_AtS {n : Nat} {es : List Pr} (hr : RightG ⟨(n : Int), es⟩) : AtS (n : Int) es (blocksM n es) := by
 obtain ⟨nd, hmem⟩ := fk_ok (keyE n es) _ es rfl
 have hne : ∀ b ∈ blocksM n es, b ≠ [] := fun b hb => by
  obtain ⟨i, hi⟩ := List.mem_iff_getElem?.1 hb
  obtain ⟨k, hk, rfl⟩ := blocks_get hi
  obtain ⟨p, hp, e⟩ := (hmem k).1 (List.mem_of_getElem? hk)
  intro h
  have : p ∈ es.filter fun p => decide (keyE n es p = k) := List.mem_filter.2 ⟨hp, by simpa using e⟩
  rw [h] at this; cases this
 refine ⟨hne, fun b hb => ?_, fun i b b' p q hb hb' hp hq => ?_, fun b hb p hp => ?_, fun i j b b' p hb hb' hp hp' => ?_, fun p hp => ?_, ?_⟩
 ·obtain ⟨i, hi⟩ := List.mem_iff_getElem?.1 hb
  obtain ⟨k, hk, rfl⟩ := blocks_get hi
  exact hr.sub List.filter_sublist
 ·obtain ⟨k, hk, e⟩ := blocks_get hb
  obtain ⟨k', hk', e'⟩ := blocks_get hb'
  obtain ⟨x, r, h1, h2, h3⟩ := fk_first (keyE n es) _ es rfl i (i + 1) k k' (by omega) hk hk'
  have hq1 := (blocks_in hb' hk').1 (List.mem_of_getElem? hq)
  obtain ⟨y, hy⟩ := List.mem_iff_getElem?.1 hq1.1
  have hxy := h3 y q hy hq1.2
  have hrq := hr.asc.lt hxy h1 hy
  -- the first one of b is r or lies ahead of it
  have hrb : r ∈ b := (blocks_in hb hk).2 ⟨List.mem_of_getElem? h1, h2⟩
  have hbA : b.Pairwise fun x y => x.1 < y.1 ∨ x.1 = y.1 ∧ x.2 < y.2 := by rw [e]; exact (asc_pair.1 hr.asc).filter _
  cases b with
  | nil => cases hrb
  | cons z t =>
   simp at hp; subst hp
   rw [List.pairwise_cons] at hbA
   rw [List.mem_cons] at hrb
   rcases hrb with rfl | hrb
   ·exact hrq
   ·have := hbA.1 r hrb; omega
 ·obtain ⟨i, hi⟩ := List.mem_iff_getElem?.1 hb
  obtain ⟨k, hk, rfl⟩ := blocks_get hi
  exact (List.mem_filter.1 hp).1
 ·obtain ⟨k, hk, _⟩ := blocks_get hb
  obtain ⟨k', hk', _⟩ := blocks_get hb'
  have h1 := ((blocks_in hb hk).1 hp).2
  have h2 := ((blocks_in hb' hk').1 hp').2
  rw [h1] at h2; subst h2
  exact (List.getElem?_inj (List.getElem?_eq_some_iff.1 hk).1 nd).1 (hk.trans hk'.symm)
 ·obtain ⟨i, hi⟩ := List.mem_iff_getElem?.1 ((hmem _).2 ⟨p, hp, rfl⟩)
  have hbi : (blocksM n es)[i]? = some (es.filter fun q => decide (keyE n es q = keyE n es p)) := by
   rw [blocksM_eq, List.getElem?_map, hi]; rfl
  exact ⟨_, List.mem_of_getElem? hbi, List.mem_filter.2 ⟨hp, by simp⟩⟩
 ·rw [blocksM_eq, List.length_map]
  have h1 : (fkM (keyE n es) es).length ≤ (es.map (keyE n es)).length := nd.length_le_of_subset fun x hx => by
   obtain ⟨p, hp, e⟩ := (hmem x).1 hx; exact List.mem_map.2 ⟨p, hp, e⟩
  have h2 : es.length ≤ 594 := hr.len
  simp at h1; omega
theorem met_ex {n : Nat} {es : List Pr} (hr : RightG ⟨(n : Int), es⟩) {p : Pr} (hp : p ∈ es) : ∃ (k : Nat) (b : List Pr), (blocksM n es)[k]? = some b ∧ p ∈ b ∧ Met (blocksM n es) (blocksM n es).length 0 p (k : Int) := by
 obtain ⟨b, hb, hpb⟩ := (blocks_AtS hr).all p hp
 obtain ⟨k, hk⟩ := List.mem_iff_getElem?.1 hb
 exact ⟨k, b, hk, hpb, k, b, hk, rfl, .inl ⟨(List.getElem?_eq_some_iff.1 hk).1, hpb⟩⟩
def incB (v : Int) (p : Pr) : Bool := decide (p.1 = v) || decide (p.2 = v)
end Go.Fw
namespace Go.Fw
set_option maxRecDepth 10000
theorem ends {n : Nat} {es : List Pr} (hr : InR n es) {p : Pr} (hp : p ∈ es) : ∃ a c : Nat, p = ((a : Int), (c : Int)) ∧ a < c ∧ c < n ∧ adj es a c := by
 have hpos := hr p hp
 obtain ⟨x, y⟩ := p
 simp only at hpos
 obtain ⟨a, rfl⟩ := Int.eq_ofNat_of_zero_le hpos.1
 obtain ⟨c, rfl⟩ := Int.eq_ofNat_of_zero_le (show 0 ≤ y by omega)
 exact ⟨a, c, rfl, by omega, by omega, .inl hp⟩
end Go.Fw
namespace Go.Fw
open Go.Proofs
set_option maxHeartbeats 16000000
set_option maxRecDepth 10000
def wgt (n : Nat) (x : Int) : Nat := if x < 0 then n else x.toNat
def phi (n : Nat) : List Int → Nat
 | [] => 0
 | x :: r => wgt n x + phi n r
def cntP : List Int → Nat
 | [] => 0
 | x :: r => (if 0 ≤ x then 1 else 0) + cntP r
theorem phi_set (n : Nat) : ∀ (L : List Int) (i : Nat) (x y : Int), L[i]? = some x → phi n (L.set i y) + wgt n x = phi n L + wgt n y
 | [], i, x, y, h => by simp at h
 | z :: r, 0, x, y, h => by simp at h; subst h; simp only [List.set_cons_zero, phi]; omega
 | z :: r, i + 1, x, y, h => by have := phi_set n r i x y (by simpa using h); simp only [List.set_cons_succ, phi]; omega
theorem cntP_set : ∀ (L : List Int) (i : Nat) (x y : Int), L[i]? = some x → cntP (L.set i y) + (if 0 ≤ x then 1 else 0) = cntP L + (if 0 ≤ y then 1 else 0)
 | [], i, x, y, h => by simp at h
 | z :: r, 0, x, y, h => by simp at h; subst h; simp only [List.set_cons_zero, cntP]; omega
 | z :: r, i + 1, x, y, h => by have := cntP_set r i x y (by simpa using h); simp only [List.set_cons_succ, cntP]; omega
theorem cntP_le : ∀ (L : List Int), cntP L ≤ L.length
 | [] => Nat.le_refl _
 | x :: r => by have := cntP_le r; simp only [cntP, List.length_cons]; split <;> omega
structure RA (n : Nat) (es : List Pr) (s : Nat) (L : List Int) : Prop where
 len : L.length = n
 con : ∀ (v : Nat) (x : Int), L[v]? = some x → -1 ≤ x ∧ (0 ≤ x → Con es s v)
 bd : ∀ (v : Nat) (x : Int), L[v]? = some x → x < (cntP L : Int)
 at_ : ∃ x, L[s]? = some x ∧ 0 ≤ x
def relax (L : List Int) (a b : Nat) : Bool := decide (L.getD a 0 ≥ 0) && (decide (L.getD b 0 < 0) || decide (L.getD b 0 > L.getD a 0 + 1))
theorem RA.step {n : Nat} {es : List Pr} {s : Nat} {L : List Int} (R : RA n es s L) {a b : Nat} (ha : adj es a b) (han : a < n) (hbn : b < n) (hr : relax L a b = true) : RA n es s (L.set b (L.getD a 0 + 1)) ∧ phi n (L.set b (L.getD a 0 + 1)) < phi n L := by
 have hla := getElem?_of (show a < L.length by rw [R.len]; exact han)
 have hlb := getElem?_of (show b < L.length by rw [R.len]; exact hbn)
 rw [relax, getD_of (by rw [R.len]; exact han), getD_of (by rw [R.len]; exact hbn)] at hr
 rw [getD_of (by rw [R.len]; exact han)]
 generalize L[a]'(by rw [R.len]; exact han) = x at *
 generalize L[b]'(by rw [R.len]; exact hbn) = y at *
 simp only [Bool.and_eq_true, Bool.or_eq_true, decide_eq_true_eq] at hr
 obtain ⟨h0, h1⟩ := hr
 have hc := cntP_set L b y (x + 1) hlb
 have hp := phi_set n L b y (x + 1) hlb
 have hx := R.bd a x hla
 have hy := R.con b y hlb
 have hcl := cntP_le L
 have hcl' := cntP_le (L.set b (x + 1))
 rw [List.length_set, R.len] at hcl'
 rw [R.len] at hcl
 have hbl : b < L.length := by rw [R.len]; exact hbn
 refine ⟨⟨by simp [R.len], fun v z hz => ?_, fun v z hz => ?_, ?_⟩, ?_⟩
 ·rw [List.getElem?_set] at hz
  by_cases e : b = v
  ·subst e
   rw [if_pos rfl, if_pos hbl] at hz; injection hz with hz; subst hz
   exact ⟨by omega, fun _ => ((R.con a x hla).2 h0).step ha rfl⟩
  ·rw [if_neg e] at hz; exact R.con v z hz
 ·rw [List.getElem?_set] at hz
  have hge : cntP L ≤ cntP (L.set b (x + 1)) := by
   split at hc <;> split at hc <;> omega
  by_cases e : b = v
  ·subst e
   rw [if_pos rfl, if_pos hbl] at hz; injection hz with hz; subst hz
   rcases h1 with h1 | h1
   ·rw [if_neg (by omega), if_pos (by omega)] at hc; omega
   ·have := R.bd b y hlb; omega
  ·rw [if_neg e] at hz; have := R.bd v z hz; omega
 ·obtain ⟨z, hz, hz0⟩ := R.at_
  by_cases e : b = s
  ·subst e; exact ⟨x + 1, by rw [List.getElem?_set, if_pos rfl, if_pos hbl], by omega⟩
  ·exact ⟨z, by rw [List.getElem?_set, if_neg e]; exact hz, hz0⟩
 ·unfold wgt at hp
  rcases h1 with h1 | h1
  ·rw [if_neg (by omega : ¬ x + 1 < 0), if_pos h1] at hp
   rw [if_neg (by omega), if_pos (by omega)] at hc
   omega
  ·rw [if_neg (by omega : ¬ x + 1 < 0), if_neg (by omega : ¬ y < 0)] at hp
   omega
end Go.Fw
namespace Go.Fw
open Go.Proofs
theorem adj_irr {n : Nat} {es : List Pr} (hr : InR n es) {a : Nat} (h : adj es a a) : False := by
 rcases h with h | h <;> have := (hr _ h).2.1 <;> simp at this
theorem split_len {α : Type} (p : α → Bool) : ∀ (l : List α), l.length = (l.filter p).length + (l.filter fun x => !p x).length
 | [] => rfl
 | x :: l => by
  have := split_len p l
  cases h : p x <;> simp [List.filter_cons, h, this] <;> omega
theorem one_len {l : List Nat} (nd : l.Nodup) {x : Nat} (hx : x ∈ l) (h : ∀ y ∈ l, y = x) : l.length = 1 := by
 cases l with
 | nil => cases hx
 | cons a l =>
  cases l with
  | nil => rfl
  | cons b l =>
   have h1 := h a (by simp)
   have h2 := h b (by simp)
   rw [h1, h2] at nd
   simp at nd
end Go.Fw
namespace Go.Fw
open Go.Proofs
theorem pairOf_mem {n : Nat} {es : List Pr} (hr : InR n es) {a b : Nat} (h : adj es a b) : pairOf a b ∈ es := adj_mem' hr h
def LK (es : List Pr) (v : Nat) (p q : Pr) : Prop := ∃ a b, adj es v a ∧ adj es v b ∧ p = pairOf v a ∧ q = pairOf v b ∧ Cn (wo v) es a b
theorem LK.symm {es : List Pr} {v : Nat} {p q : Pr} (h : LK es v p q) : LK es v q p := by
 obtain ⟨a, b, h1, h2, h3, h4, h5⟩ := h; exact ⟨b, a, h2, h1, h4, h3, h5.symm⟩
theorem LK.key {n : Nat} {es : List Pr} (hr : InR n es) {v : Nat} {p q : Pr} (h : LK es v p q) : keyE n es p = keyE n es q := by
 obtain ⟨a, b, h1, h2, rfl, rfl, h5⟩ := h; exact (key_iff hr h1 h2).2 h5
def oneF (f : Pr → Int) (a b : Int) (p : Pr) : Int := if f p = a then b else f p
structure OF (n : Nat) (es : List Pr) (f : Pr → Int) (v i k : Nat) : Prop where
 snd : ∀ p ∈ es, ∀ q ∈ es, f p = f q → keyE n es p = keyE n es q
 vs : ∀ v' < v, ∀ p ∈ es, ∀ q ∈ es, LK es v' p q → f p = f q
 is : ∀ (i' k' : Nat) p q, i' < i → k' < i' → es[i']? = some p → es[k']? = some q → LK es v p q → f p = f q
 ks : ∀ (k' : Nat) p q, k' < k → es[i]? = some p → es[k']? = some q → LK es v p q → f p = f q
theorem oneF_eq {f : Pr → Int} {a b : Int} {p q : Pr} (h : f p = f q) : oneF f a b p = oneF f a b q := by unfold oneF; rw [h]
theorem OF.link {n : Nat} {es : List Pr} (hr : InR n es) {f : Pr → Int} {v i k : Nat} (o : OF n es f v i k) {p q : Pr} (hp : es[i]? = some p) (hq : es[k]? = some q) (h : LK es v p q) : OF n es (oneF f (f p) (f q)) v i (k + 1) := by
 have hpe := List.mem_of_getElem? hp
 have hqe := List.mem_of_getElem? hq
 have hk := h.key hr
 refine ⟨fun x hx y hy e => ?_, fun v' hv' x hx y hy l => oneF_eq (o.vs v' hv' x hx y hy l), fun i' k' x y h1 h2 hx hy l => oneF_eq (o.is i' k' x y h1 h2 hx hy l), fun k' p' q' h1 hp' hq' l => ?_⟩
 ·unfold oneF at e
  split at e
  ·rename_i h1
   have kx := o.snd x hx p hpe h1
   split at e
   ·rename_i h2
    rw [kx, o.snd y hy p hpe h2]
   ·rw [kx, hk]; exact o.snd q hqe y hy e
  ·split at e
   ·rename_i h2
    rw [o.snd y hy p hpe h2, hk]; exact o.snd x hx q hqe e
   ·exact o.snd x hx y hy e
 ·by_cases e : k' = k
  ·subst e; rw [hp] at hp'; rw [hq] at hq'; injection hp' with hp'; injection hq' with hq'; subst hp'; subst hq'
   unfold oneF; rw [if_pos rfl]; split <;> rfl
  ·exact oneF_eq (o.ks k' p' q' (by omega) hp' hq' l)
end Go.Fw
namespace Go.Fw
open Go.Proofs
def atB (v : Int) (b : List Pr) : Bool := b.any (incB v)
end Go.Fw
namespace Go.Fw
open Go.Proofs
namespace Fo
variable {n : Nat} {es : List Pr} {num : Nat → Nat} {up : Nat → Option Nat} {hd : Nat → Nat}
def beg (n : Nat) (up : Nat → Option Nat) (hd : Nat → Nat) : List Nat := (List.range n).filter fun c => decide (up c ≠ none ∧ hd c = c)
theorem mem_beg {c : Nat} : c ∈ beg n up hd ↔ c < n ∧ up c ≠ none ∧ hd c = c := by simp [beg]
theorem beg_nd : (beg n up hd).Nodup := List.nodup_range.sublist List.filter_sublist
end Fo
theorem blocks_count {n : Nat} {es : List Pr} {num : Nat → Nat} {up : Nat → Option Nat} (S : SearchS n es (lowM n es).1 (lowM n es).2 num up) : (blocksM n es).length = (Fo.beg n up (hdN n es)).length := by
 have F := S.fo
 have H := (hdN_S S).1
 have hr := F.rng
 obtain ⟨nk, mk⟩ := fk_ok (keyE n es) _ es rfl
 have : (fkM (keyE n es) es).Perm (nat64 (Fo.beg n up (hdN n es))) := (List.perm_ext_iff_of_nodup nk (by rw [nat64, List.Nodup, List.pairwise_map]; exact Fo.beg_nd.imp fun h e => h (by omega))).2 fun k => by
  rw [mk, nat64, List.mem_map]
  constructor
  ·rintro ⟨p, hp, rfl⟩
   obtain ⟨a, c, rfl, hac, hcn, hadj⟩ := ends hr hp
   have hpa : ((a : Int), (c : Int)) = pairOf a c := by rw [pairOf_of, Prod.mk.injEq]; omega
   have hk := key_pair S hadj
   have hne := F.num_ne hadj
   have han := (hadj.lt hr).1
   have hln : Fo.lower num a c < n := by unfold Fo.lower; split <;> omega
   have hup : up (hdN n es (Fo.lower num a c)) ≠ none := by
    have key := fun x y hxy hlt => F.link H (fun _ _ => ()) (fun _ _ => rfl) (fun _ _ _ _ _ _ => rfl) (num x) x y (Nat.le_refl _) hxy hlt
    unfold Fo.lower
    split
    ·obtain ⟨u, hu, _⟩ := key a c hadj (by assumption); rw [hu]; simp
    ·obtain ⟨u, hu, _⟩ := key c a hadj.symm (by omega); rw [hu]; simp
   have hha := F.hd_anc H _ (Fo.lower num a c) (Nat.le_refl _) hln
   rw [hpa, hk]
   exact ⟨_, Fo.mem_beg.2 ⟨(F.num_le hha.1 hln).1, hup, hha.2⟩, rfl⟩
  ·rintro ⟨c, hc, rfl⟩
   obtain ⟨hcn, hu, hh⟩ := Fo.mem_beg.1 hc
   obtain ⟨u, hu⟩ := Option.ne_none_iff_exists'.1 hu
   obtain ⟨h1, h2⟩ := F.upa c u hcn hu
   refine ⟨pairOf c u, pairOf_mem hr h1.symm, ?_⟩
   rw [key_pair S h1.symm]
   unfold Fo.lower; rw [if_pos h2, hh]
 rw [blocksM_eq, List.length_map, this.length_eq, nat64_length]
end Go.Fw
