/- A text of the proof. -/
import Derived.Test.YtnaahaldkpdjlaaFwLT4
import Derived.Test.YtnaahaldkpdjlaaFwLW8
import Derived.Test.YtnaahaldkpdjlaaFwLB2
import Derived.Test.YtnaahaldkpdjlaaFwLW4
import Derived.Test.YtnaahaldkpdjlaaFwLB10
set_option linter.unusedSimpArgs false
set_option linter.unusedVariables false
namespace Go.Fw
set_option maxRecDepth 10000
theorem adj_mem' {n : Nat} {es : List Pr} (hr : InR n es) {a b : Nat} (h : adj es a b) : pairOf a b ∈ es := by
 unfold pairOf
 rcases h with h | h
 ·have := hr _ h; simp only at this
  rw [Int.min_eq_left (by omega), Int.max_eq_right (by omega)]; exact h
 ·have := hr _ h; simp only at this
  rw [Int.min_eq_right (by omega), Int.max_eq_left (by omega)]; exact h
theorem sortedP_eq : ∀ (a b : List Pr), a.Pairwise (fun x y => x.1 < y.1 ∨ x.1 = y.1 ∧ x.2 < y.2) → b.Pairwise (fun x y => x.1 < y.1 ∨ x.1 = y.1 ∧ x.2 < y.2) → (∀ x, x ∈ a ↔ x ∈ b) → a = b
 | [], [], _, _, _ => rfl
 | [], y :: b, _, _, h => by have := (h y).2 (by simp); simp at this
 | x :: a, [], _, _, h => by have := (h x).1 (by simp); simp at this
 | x :: a, y :: b, ha, hb, h => by
  rw [List.pairwise_cons] at ha hb
  have e : x = y := by
   have h1 := (h x).1 (by simp)
   have h2 := (h y).2 (by simp)
   rw [List.mem_cons] at h1 h2
   rcases h1 with h1 | h1
   ·exact h1
   ·rcases h2 with h2 | h2
    ·exact h2.symm
    ·have := hb.1 x h1; have := ha.1 y h2; omega
  subst e
  rw [sortedP_eq a b ha.2 hb.2 fun z => ?_]
  constructor
  ·intro hz
   have := (h z).1 (by simp [hz])
   rw [List.mem_cons] at this
   rcases this with rfl | h'
   ·have := ha.1 z hz; omega
   ·exact h'
  ·intro hz
   have := (h z).2 (by simp [hz])
   rw [List.mem_cons] at this
   rcases this with rfl | h'
   ·have := hb.1 z hz; omega
   ·exact h'
end Go.Fw
namespace Go.Fw
open Go.Proofs
set_option maxHeartbeats 16000000
set_option maxRecDepth 10000
structure AtS (n : Int) (es : List Pr) (bs : List (List Pr)) : Prop where
 ne : ∀ b ∈ bs, b ≠ []
 right : ∀ b ∈ bs, RightG ⟨n, b⟩
 asc : ∀ (i : Nat) b b' p q, bs[i]? = some b → bs[i + 1]? = some b' → b[0]? = some p → b'[0]? = some q → p.1 < q.1 ∨ p.1 = q.1 ∧ p.2 < q.2
 mem : ∀ b ∈ bs, ∀ p ∈ b, p ∈ es
 dis : ∀ (i j : Nat) b b' p, bs[i]? = some b → bs[j]? = some b' → p ∈ b → p ∈ b' → i = j
 all : ∀ p ∈ es, ∃ b ∈ bs, p ∈ b
 len : bs.length ≤ 1000
theorem RightG.nodup {n : Int} {es : List Pr} (h : RightG ⟨n, es⟩) : es.Nodup := by
 have hA := h.asc
 rw [List.Nodup, List.pairwise_iff_getElem]
 intro i j hi hj hij e
 have := hA.lt hij (List.getElem?_eq_getElem hi) (List.getElem?_eq_getElem hj)
 rw [e] at this; omega
end Go.Fw
namespace Go.Fw
set_option maxRecDepth 10000
theorem asc_pair {es : List Pr} : Asc es ↔ es.Pairwise fun x y => x.1 < y.1 ∨ x.1 = y.1 ∧ x.2 < y.2 := by
 rw [List.pairwise_iff_getElem]
 constructor
 ·intro ha i j hi hj hij; exact ha.lt hij (List.getElem?_eq_getElem hi) (List.getElem?_eq_getElem hj)
 ·intro h i j p q hij hi hj
  obtain ⟨a1, a2⟩ := List.getElem?_eq_some_iff.1 hi
  obtain ⟨b1, b2⟩ := List.getElem?_eq_some_iff.1 hj
  rw [cmpP_lt, ← a2, ← b2]; exact h i j a1 b1 hij
theorem RightG.of {n : Nat} {es : List Pr} (h200 : n ≤ 200) (hl : es.length ≤ 594) (hr : InR n es) (ha : Asc es) : RightG ⟨(n : Int), es⟩ :=
 ⟨by simp, by show (n : Int) ≤ 200; omega, hl, fun i hi p hp => ⟨hr p (List.mem_of_getElem? hp), fun q h0 hq => ha (i - 1) i q p (by omega) hq hp⟩⟩
theorem RightG.sub {n : Nat} {es fs : List Pr} (h : RightG ⟨(n : Int), es⟩) (hs : fs.Sublist es) : RightG ⟨(n : Int), fs⟩ :=
 RightG.of (by have : (n : Int) ≤ 200 := h.n1; omega) (Nat.le_trans hs.length_le h.len) (fun p hp => h.inR p (hs.subset hp)) (asc_pair.2 ((asc_pair.1 h.asc).sublist hs))
end Go.Fw
namespace Go.Fw
set_option maxRecDepth 10000
theorem ends {n : Nat} {es : List Pr} (hr : InR n es) {p : Pr} (hp : p ∈ es) : ∃ a c : Nat, p = ((a : Int), (c : Int)) ∧ a < c ∧ c < n ∧ adj es a c := by
 have hpos := hr p hp
 obtain ⟨x, y⟩ := p
 simp only at hpos
 obtain ⟨a, rfl⟩ := Int.eq_ofNat_of_zero_le hpos.1
 obtain ⟨c, rfl⟩ := Int.eq_ofNat_of_zero_le (show 0 ≤ y by omega)
 exact ⟨a, c, rfl, by omega, by omega, .inl hp⟩
end Go.Fw
namespace Go.Fw
open Go.Proofs
set_option maxHeartbeats 16000000
set_option maxRecDepth 10000
theorem GI.store {h : AHeap} {v : Value} {xs : List Int} (g : GI h v xs) (hwf : WF h) {i : Nat} (hi : i < xs.length) (x : Int) : ∃ h', aStore Try.prog h 3 (.pointer (some (elemAddr v i))) (.int .i64 x) = some h' ∧ GI h' v (xs.set i x) ∧ WF h' ∧ (∀ f, Le f h → Apart f v → Le f h') ∧ (∀ b o, h.own b = some o → blk v ≠ some b → h'.own b = some o) := by
 obtain ⟨hl, ⟨rfl, h0⟩ | ⟨id, c, cap, rfl, ho, ht, hc⟩⟩ := g
 ·omega
 ·have hl' : xs.length ≤ c.length := by have := congrArg List.length ht; rw [List.length_take, I64, List.length_map] at this; omega
  have st := aStore1 (P := Try.prog) (t := 3) (x := .int .i64 x) Try.underlying3 (by kernel_rfl) ho (off := i) (by omega) rfl rfl
  refine ⟨h.put id (.cells (c.set i (.int .i64 x))), ?_, ⟨by simp [I64], .inr ⟨id, _, cap, by simp, AHeap.own_put_eq _ _ _, ?_, by simpa using hc⟩⟩, hwf.put _ (hwf.lt ho), fun f lf af => lf.put _ (af id rfl), fun b o hb hne => ?_⟩
  ·simp only [elemAddr_mk, aadd, Nat.zero_add]; exact st
  ·rw [Nat.mul_one, List.length_set, List.take_set, ← I64_set, ← ht, Nat.mul_one]
  ·rw [AHeap.own_put_ne _ _ _ _ (fun e => hne (by rw [e]; rfl))]; exact hb
end Go.Fw
namespace Go.Fw
open Go.Proofs
set_option maxHeartbeats 16000000
set_option maxRecDepth 10000
def wgt (n : Nat) (x : Int) : Nat := if x < 0 then n else x.toNat
def phi (n : Nat) : List Int → Nat
 | [] => 0
 | x :: r => wgt n x + phi n r
def cntP : List Int → Nat
 | [] => 0
 | x :: r => (if 0 ≤ x then 1 else 0) + cntP r
theorem phi_set (n : Nat) : ∀ (L : List Int) (i : Nat) (x y : Int), L[i]? = some x → phi n (L.set i y) + wgt n x = phi n L + wgt n y
 | [], i, x, y, h => by simp at h
 | z :: r, 0, x, y, h => by simp at h; subst h; simp only [List.set_cons_zero, phi]; omega
 | z :: r, i + 1, x, y, h => by have := phi_set n r i x y (by simpa using h); simp only [List.set_cons_succ, phi]; omega
theorem cntP_set : ∀ (L : List Int) (i : Nat) (x y : Int), L[i]? = some x → cntP (L.set i y) + (if 0 ≤ x then 1 else 0) = cntP L + (if 0 ≤ y then 1 else 0)
 | [], i, x, y, h => by simp at h
 | z :: r, 0, x, y, h => by simp at h; subst h; simp only [List.set_cons_zero, cntP]; omega
 | z :: r, i + 1, x, y, h => by have := cntP_set r i x y (by simpa using h); simp only [List.set_cons_succ, cntP]; omega
theorem cntP_le : ∀ (L : List Int), cntP L ≤ L.length
 | [] => Nat.le_refl _
 | x :: r => by have := cntP_le r; simp only [cntP, List.length_cons]; split <;> omega
structure RA (n : Nat) (es : List Pr) (s : Nat) (L : List Int) : Prop where
 len : L.length = n
 con : ∀ (v : Nat) (x : Int), L[v]? = some x → -1 ≤ x ∧ (0 ≤ x → Con es s v)
 bd : ∀ (v : Nat) (x : Int), L[v]? = some x → x < (cntP L : Int)
 at_ : ∃ x, L[s]? = some x ∧ 0 ≤ x
def relax (L : List Int) (a b : Nat) : Bool := decide (L.getD a 0 ≥ 0) && (decide (L.getD b 0 < 0) || decide (L.getD b 0 > L.getD a 0 + 1))
theorem RA.step {n : Nat} {es : List Pr} {s : Nat} {L : List Int} (R : RA n es s L) {a b : Nat} (ha : adj es a b) (han : a < n) (hbn : b < n) (hr : relax L a b = true) : RA n es s (L.set b (L.getD a 0 + 1)) ∧ phi n (L.set b (L.getD a 0 + 1)) < phi n L := by
 have hla := getElem?_of (show a < L.length by rw [R.len]; exact han)
 have hlb := getElem?_of (show b < L.length by rw [R.len]; exact hbn)
 rw [relax, getD_of (by rw [R.len]; exact han), getD_of (by rw [R.len]; exact hbn)] at hr
 rw [getD_of (by rw [R.len]; exact han)]
 generalize L[a]'(by rw [R.len]; exact han) = x at *
 generalize L[b]'(by rw [R.len]; exact hbn) = y at *
 simp only [Bool.and_eq_true, Bool.or_eq_true, decide_eq_true_eq] at hr
 obtain ⟨h0, h1⟩ := hr
 have hc := cntP_set L b y (x + 1) hlb
 have hp := phi_set n L b y (x + 1) hlb
 have hx := R.bd a x hla
 have hy := R.con b y hlb
 have hcl := cntP_le L
 have hcl' := cntP_le (L.set b (x + 1))
 rw [List.length_set, R.len] at hcl'
 rw [R.len] at hcl
 have hbl : b < L.length := by rw [R.len]; exact hbn
 refine ⟨⟨by simp [R.len], fun v z hz => ?_, fun v z hz => ?_, ?_⟩, ?_⟩
 ·rw [List.getElem?_set] at hz
  by_cases e : b = v
  ·subst e
   rw [if_pos rfl, if_pos hbl] at hz; injection hz with hz; subst hz
   exact ⟨by omega, fun _ => ((R.con a x hla).2 h0).step ha rfl⟩
  ·rw [if_neg e] at hz; exact R.con v z hz
 ·rw [List.getElem?_set] at hz
  have hge : cntP L ≤ cntP (L.set b (x + 1)) := by
   split at hc <;> split at hc <;> omega
  by_cases e : b = v
  ·subst e
   rw [if_pos rfl, if_pos hbl] at hz; injection hz with hz; subst hz
   rcases h1 with h1 | h1
   ·rw [if_neg (by omega), if_pos (by omega)] at hc; omega
   ·have := R.bd b y hlb; omega
  ·rw [if_neg e] at hz; have := R.bd v z hz; omega
 ·obtain ⟨z, hz, hz0⟩ := R.at_
  by_cases e : b = s
  ·subst e; exact ⟨x + 1, by rw [List.getElem?_set, if_pos rfl, if_pos hbl], by omega⟩
  ·exact ⟨z, by rw [List.getElem?_set, if_neg e]; exact hz, hz0⟩
 ·unfold wgt at hp
  rcases h1 with h1 | h1
  ·rw [if_neg (by omega : ¬ x + 1 < 0), if_pos h1] at hp
   rw [if_neg (by omega), if_pos (by omega)] at hc
   omega
  ·rw [if_neg (by omega : ¬ x + 1 < 0), if_neg (by omega : ¬ y < 0)] at hp
   omega
end Go.Fw
namespace Go.Fw
open Go.Proofs
attribute [local irreducible] KO4 KO3 KO2 KO1 KO KN KX KE VK KCond KDraw KCall KLoop
set_option maxHeartbeats 16000000
set_option maxRecDepth 10000
theorem GI.join {h : AHeap} {v x : Value} {xs ys : List Int} (g : GI h v xs) (hwf : WF h) (hx : RL isI h x ys) (hn : xs.length + ys.length ≤ 1000000000) :
  ∃ v' h5, aAppend Try.prog h 38 38 v x = some (v', h5) ∧ GI h5 v' (xs ++ ys) ∧ WF h5 ∧
   (∀ f, Le f h → Apart f v → Le f h5 ∧ Apart f v') ∧ (∀ b o, h.own b = some o → blk v ≠ some b → h5.own b = some o ∧ blk v' ≠ some b) := by
 have hc : CS 1 h x ys.length (I64 ys) := by
  have := RS.cs hx.cellsI
  simpa [I64] using this
 obtain ⟨v', h5, e5, g5, hf⟩ := GS.append (P := Try.prog) (t := 38) (xt := 38) (k := 1) (by kernel_rfl) g (fun e he => CS.src he hc) (I64_one _) (I64_one _) (by simp [I64]) hn
 refine ⟨v', h5, e5, ?_, aAppend_wf hwf e5, fun f lf af => hf f hwf lf af, fun b o ho hb => keep_own hf hwf ho hb⟩
 have : I64 xs ++ I64 ys = I64 (xs ++ ys) := by simp [I64]
 rw [GI, ← this, List.length_append]; exact g5
end Go.Fw
namespace Go.Fw
open Go.Proofs
set_option maxHeartbeats 16000000
set_option maxRecDepth 10000
def Ct (v : Value) (n : Nat) : Prop := ∃ a cap, v = .slice a n cap ∧ ((cap < UNK ∧ n ≤ cap) ∨ (cap = UNK + 2 ∧ a.isSome))
theorem flatP_take (ps : List Pr) (i : Nat) : flatP (ps.take i) = (flatP ps).take (i * 2) := by
 induction ps generalizing i with
 | nil => simp [flatP]
 | cons p ps ih =>
  cases i with
  | zero => simp [flatP]
  | succ i =>
   have e : flatP (p :: ps) = .int .i64 p.1 :: .int .i64 p.2 :: flatP ps := rfl
   have e' : flatP (p :: ps.take i) = .int .i64 p.1 :: .int .i64 p.2 :: flatP (ps.take i) := rfl
   rw [List.take_succ_cons, e', e, ih, show (i + 1) * 2 = i * 2 + 1 + 1 by omega, List.take_succ_cons, List.take_succ_cons]
theorem flatP_drop (ps : List Pr) (i : Nat) : flatP (ps.drop i) = (flatP ps).drop (i * 2) := by
 induction ps generalizing i with
 | nil => simp [flatP]
 | cons p ps ih =>
  cases i with
  | zero => simp [flatP]
  | succ i =>
   have e : flatP (p :: ps) = .int .i64 p.1 :: .int .i64 p.2 :: flatP ps := rfl
   rw [List.drop_succ_cons, e, ih, show (i + 1) * 2 = i * 2 + 1 + 1 by omega, List.drop_succ_cons, List.drop_succ_cons]
theorem PR.take {h : AHeap} {a a' : Option Addr} {ps : List Pr} {cap cap' : Nat} (r : PR h (.slice a ps.length cap) ps) {i : Nat} (hi : i ≤ ps.length) (ha : 0 < i → ∀ x, a = some x → a' = some (aadd x 0)) : PR h (.slice a' i cap') (ps.take i) := by
 obtain ⟨_, _, e, hs⟩ := r.sl
 injection e with e1 e2 e3
 subst e1
 have hl : (ps.take i).length = i := by rw [List.length_take]; omega
 refine ⟨⟨a', cap', by rw [hl], fun h0 => ?_⟩, flatP_length _, fun j x hx => ?_⟩
 ·rw [hl] at h0
  obtain ⟨y, hy⟩ := Option.isSome_iff_exists.1 (hs (by omega))
  rw [ha h0 y hy]; rfl
 ·rw [flatP_take, List.getElem?_take] at hx
  split at hx
  ·obtain ⟨y, hy⟩ := Option.isSome_iff_exists.1 (hs (by omega))
   have := CS.get r j x hx
   subst hy
   rw [ha (by omega) y rfl, elemAddr_mk]
   simpa [elemAddr_mk, aadd] using this
  ·cases hx
theorem PR.drop {h : AHeap} {a a' : Option Addr} {ps : List Pr} {cap cap' : Nat} (r : PR h (.slice a ps.length cap) ps) {i m : Nat} (hi : i ≤ ps.length) (hm : m = ps.length - i) (ha : i < ps.length → ∀ x, a = some x → a' = some (aadd x (i * 2))) : PR h (.slice a' m cap') (ps.drop i) := by
 obtain ⟨_, _, e, hs⟩ := r.sl
 injection e with e1 e2 e3
 subst e1
 subst hm
 have hl : (ps.drop i).length = ps.length - i := List.length_drop
 refine ⟨⟨a', cap', by rw [hl], fun h0 => ?_⟩, flatP_length _, fun j x hx => ?_⟩
 ·rw [hl] at h0
  obtain ⟨y, hy⟩ := Option.isSome_iff_exists.1 (hs (by omega))
  rw [ha (by omega) y hy]; rfl
 ·rw [flatP_drop, List.getElem?_drop] at hx
  have hlt := (List.getElem?_eq_some_iff.1 hx).1
  rw [flatP_length] at hlt
  obtain ⟨y, hy⟩ := Option.isSome_iff_exists.1 (hs (by omega))
  have := CS.get r _ x hx
  subst hy
  rw [ha (by omega) y rfl, elemAddr_mk]
  simpa [elemAddr_mk, aadd, Nat.add_assoc] using this
theorem PR.up {h : AHeap} {v : Value} {ps : List Pr} (r : PR h v ps) (ct : Ct v ps.length) {i : Nat} (hi : i ≤ ps.length) : ∃ v', aSlice Try.prog 22 v (some (.int .i64 i)) none none = some v' ∧ PR h v' (ps.drop i) := by
 obtain ⟨a, cap, rfl, ⟨h1, h2⟩ | ⟨rfl, h1⟩⟩ := ct
 ·have n1 : (i : Int) ≤ ps.length := by omega
  have n0 : (0 : Int) ≤ i := by omega
  have hno : ¬ UNK ≤ cap := by omega
  have he : aSlice Try.prog 22 (.slice a ps.length cap) (some (.int .i64 i)) none none = some (.slice (if cap = i then a else a.map (fun a => aadd a (i * 2))) (ps.length - i) (cap - i)) := by
   simp [aSlice, Try.underlying22, Try.underlying61, ts42, aBounds, aBound, n0, n1, hno, h2]
  refine ⟨_, he, r.drop hi rfl fun h0 x hx => ?_⟩
  subst hx
  have : cap ≠ i := by omega
  simp [this]
 ·obtain ⟨a, rfl⟩ := Option.isSome_iff_exists.1 h1
  have n1 : (i : Int) ≤ ps.length := by omega
  have n0 : (0 : Int) ≤ i := by omega
  have he : aSlice Try.prog 22 (.slice (some a) ps.length (UNK + 2)) (some (.int .i64 i)) none none = some (.slice (some (aadd a (i * 2))) (ps.length - i) (UNK + 2)) := by
   simp [aSlice, Try.underlying22, Try.underlying61, ts42, aBounds, aBound, n0, n1]
  exact ⟨_, he, r.drop hi rfl fun h0 x hx => by injection hx with hx; rw [hx]⟩
theorem GX.join {h : AHeap} {X : Nat} {n : Int} {ev x : Value} {ps qs : List Pr} (g : GX h X n ev ps) (hw : WF h) (hx : PR h x qs) (hn : ps.length + qs.length ≤ 1000000000) :
  ∃ v' h5 h6, aAppend Try.prog h 22 22 ev x = some (v', h5) ∧ aStore Try.prog h5 22 (.pointer (some ⟨X, 1, none⟩)) v' = some h6 ∧
   GX h6 X n v' (ps ++ qs) ∧ WF h6 ∧ (∀ f, Le f h → f.own X = none → Apart f ev → Le f h6 ∧ Apart f v') ∧ (∀ f, Le f h → Apart f ev → Le f h5) ∧ h5.own X = some (.cells [.int .i64 n, ev]) := by
 obtain ⟨v', h5, e5, g5, w5, hf, hk⟩ := g.gp.join hw hx hn
 obtain ⟨ox5, nx5⟩ := hk X _ g.ox g.ne
 have one := g5.pr.sl.one
 have hc : v'.cells = #[v'] := by obtain ⟨_, _, rfl, _⟩ := g5.pr.sl; rfl
 have st := aStore1 (P := Try.prog) (t := 22) (x := v') Try.underlying22 (by kernel_rfl) ox5 (off := 1) (by simp) hc one
 refine ⟨v', h5, _, e5, st, ⟨AHeap.own_put_eq _ _ _, GS.put g5 _ nx5, nx5⟩, w5.put _ (w5.lt ox5), fun f lf nf af => ?_, fun f lf af => (hf f lf af).1, ox5⟩
 obtain ⟨l5, a5⟩ := hf f lf af
 exact ⟨l5.put _ nf, a5⟩
end Go.Fw
namespace Go.Fw
open Go.Proofs
theorem adj_irr {n : Nat} {es : List Pr} (hr : InR n es) {a : Nat} (h : adj es a a) : False := by
 rcases h with h | h <;> have := (hr _ h).2.1 <;> simp at this
theorem split_len {α : Type} (p : α → Bool) : ∀ (l : List α), l.length = (l.filter p).length + (l.filter fun x => !p x).length
 | [] => rfl
 | x :: l => by
  have := split_len p l
  cases h : p x <;> simp [List.filter_cons, h, this] <;> omega
end Go.Fw
namespace Go.Fw
open Go.Proofs
def LK (es : List Pr) (v : Nat) (p q : Pr) : Prop := ∃ a b, adj es v a ∧ adj es v b ∧ p = pairOf v a ∧ q = pairOf v b ∧ Cn (wo v) es a b
theorem LK.symm {es : List Pr} {v : Nat} {p q : Pr} (h : LK es v p q) : LK es v q p := by
 obtain ⟨a, b, h1, h2, h3, h4, h5⟩ := h; exact ⟨b, a, h2, h1, h4, h3, h5.symm⟩
theorem LK.key {n : Nat} {es : List Pr} (hr : InR n es) {v : Nat} {p q : Pr} (h : LK es v p q) : keyE n es p = keyE n es q := by
 obtain ⟨a, b, h1, h2, rfl, rfl, h5⟩ := h; exact (key_iff hr h1 h2).2 h5
def oneF (f : Pr → Int) (a b : Int) (p : Pr) : Int := if f p = a then b else f p
structure OF (n : Nat) (es : List Pr) (f : Pr → Int) (v i k : Nat) : Prop where
 snd : ∀ p ∈ es, ∀ q ∈ es, f p = f q → keyE n es p = keyE n es q
 vs : ∀ v' < v, ∀ p ∈ es, ∀ q ∈ es, LK es v' p q → f p = f q
 is : ∀ (i' k' : Nat) p q, i' < i → k' < i' → es[i']? = some p → es[k']? = some q → LK es v p q → f p = f q
 ks : ∀ (k' : Nat) p q, k' < k → es[i]? = some p → es[k']? = some q → LK es v p q → f p = f q
theorem OF.start {n : Nat} {es : List Pr} {f : Pr → Int} (h : ∀ p ∈ es, ∀ q ∈ es, f p = f q → p = q) : OF n es f 0 0 0 :=
 ⟨fun p hp q hq e => by rw [h p hp q hq e], fun v' hv => by omega, fun i' k' p q h1 => by omega, fun k' p q h1 => by omega⟩
theorem oneF_eq {f : Pr → Int} {a b : Int} {p q : Pr} (h : f p = f q) : oneF f a b p = oneF f a b q := by unfold oneF; rw [h]
theorem OF.link {n : Nat} {es : List Pr} (hr : InR n es) {f : Pr → Int} {v i k : Nat} (o : OF n es f v i k) {p q : Pr} (hp : es[i]? = some p) (hq : es[k]? = some q) (h : LK es v p q) : OF n es (oneF f (f p) (f q)) v i (k + 1) := by
 have hpe := List.mem_of_getElem? hp
 have hqe := List.mem_of_getElem? hq
 have hk := h.key hr
 refine ⟨fun x hx y hy e => ?_, fun v' hv' x hx y hy l => oneF_eq (o.vs v' hv' x hx y hy l), fun i' k' x y h1 h2 hx hy l => oneF_eq (o.is i' k' x y h1 h2 hx hy l), fun k' p' q' h1 hp' hq' l => ?_⟩
 ·unfold oneF at e
  split at e
  ·rename_i h1
   have kx := o.snd x hx p hpe h1
   split at e
   ·rename_i h2
    rw [kx, o.snd y hy p hpe h2]
   ·rw [kx, hk]; exact o.snd q hqe y hy e
  ·split at e
   ·rename_i h2
    rw [o.snd y hy p hpe h2, hk]; exact o.snd x hx q hqe e
   ·exact o.snd x hx y hy e
 ·by_cases e : k' = k
  ·subst e; rw [hp] at hp'; rw [hq] at hq'; injection hp' with hp'; injection hq' with hq'; subst hp'; subst hq'
   unfold oneF; rw [if_pos rfl]; split <;> rfl
  ·exact oneF_eq (o.ks k' p' q' (by omega) hp' hq' l)
end Go.Fw
