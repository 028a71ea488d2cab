/- A text of the proof. -/
import Derived.Test.YtnaahaldkpdjlaaFwLE1
import Derived.Test.YtnaahaldkpdjlaaFwLW8
import Derived.Test.YtnaahaldkpdjlaaFwLC13
import Derived.Test.YtnaahaldkpdjlaaFwLZ6
set_option linter.unusedSimpArgs false
set_option linter.unusedVariables false
namespace Go.Fw
set_option maxHeartbeats 4000000
set_option maxRecDepth 10000
attribute [local irreducible] lowM bridgesM cutsM blocksM keyE
attribute [local instance] Classical.propDecidable
namespace Tr
variable {n : Nat} {es : List Pr} {D : Nat → Nat → Nat}
theorem chain (T : Tr n es D) {x c m : Nat} (hx : x < n) (hc : c < n) (hm : m < n) (ha : adj es c m) (e : D x m = D x c + 1) : ∀ k w, w < n → D m w = k → D c w = k + 1 → D x w = D x m + k
 | 0, w, hw, h1, _ => by rw [T.z' m w hm hw h1]; rfl
 | k + 1, w, hw, h1, h2 => by
  have hne : m ≠ w := fun h => by subst h; rw [T.z m hm] at h1; omega
  obtain ⟨u, hu, au, eu⟩ := T.pre m w hm hw hne
  have h3 : D c u = k + 1 := by
   have t1 := T.tri c u w hc au
   have t2 := T.tri u m c hu ha.symm
   have s1 := T.symm hc hu
   have s2 := T.symm hu hm
   omega
  have ih := T.chain hx hc hm ha e k u hu (by omega) h3
  rcases T.lvl hx au with q | q
  ·omega
  ·exfalso
   cases k with
   | zero =>
    obtain rfl : m = u := T.z' m u hm hu (by omega)
    have := T.par_uniq hx ha au.symm e.symm q
    subst this
    rw [T.z _ hc] at h2; omega
   | succ k =>
    have hne2 : m ≠ u := fun h => by subst h; rw [T.z m hm] at eu; omega
    obtain ⟨u2, hu2, au2, eu2⟩ := T.pre m u hm hu hne2
    have h5 : D c u2 = k + 1 := by
     have t1 := T.tri c u2 u hc au2
     have t2 := T.tri u2 m c hu2 ha.symm
     have s1 := T.symm hc hu2
     have s2 := T.symm hu2 hm
     omega
    have ih2 := T.chain hx hc hm ha e k u2 hu2 (by omega) h5
    have := T.par_uniq hx au2 au.symm (by omega) q
    subst this
    omega
theorem step_lvl (T : Tr n es D) {x u v : Nat} (hx : x < n) (hu : u < n) (hv : v < n) (ha : adj es u v) : D u x + 1 = D v x ∨ D v x + 1 = D u x := by
 have s1 := T.symm hx hu
 have s2 := T.symm hx hv
 rcases T.lvl hx ha with q | q <;> omega
theorem par (T : Tr n es D) {side : Nat → Nat} (hs : ∀ u w, adj es u w → (side u + side w) % 2 = 1) {x : Nat} (hx : x < n) : ∀ k w, w < n → D x w = k → (side x + side w + k) % 2 = 0
 | 0, w, hw, h => by rw [← T.z' x w hx hw h]; omega
 | k + 1, w, hw, h => by
  have hne : x ≠ w := fun e => by subst e; rw [T.z x hx] at h; omega
  obtain ⟨u, hu, au, eu⟩ := T.pre x w hx hw hne
  have := T.par hs hx k u hu (by omega)
  have := hs u w au
  omega
theorem far_leaf (T : Tr n es D) {c x m : Nat} (hc : c < n) (hm : IsMax D (· < n) c m) (hx : x < n) (e : D c x = m) {u u' : Nat} (h1 : adj es u x) (h2 : adj es u' x) : u = u' := by
 have hu := (h1.lt T.rng).1
 have hu' := (h2.lt T.rng).1
 rcases T.lvl hc h1 with q | q
 ·rcases T.lvl hc h2 with q' | q'
  ·exact T.par_uniq hc h1 h2 q q'
  ·have := hm.1 u' hu'; omega
 ·have := hm.1 u hu; omega
theorem centre_uniq (T : Tr n es D) {side : Nat → Nat} (hs : ∀ u w, adj es u w → (side u + side w) % 2 = 1) (hl : ∀ v, v < n → side v % 2 = 1 → ∃ u u', adj es u v ∧ adj es u' v ∧ u ≠ u')
  {c w a b : Nat} (hc : c < n) (hw : w < n) (hne : c ≠ w) (ha : IsMax D (· < n) c a) (hb : IsMax D (· < n) w b) (hmin : ∀ v m, v < n → IsMax D (· < n) v m → a ≤ m) : a < b := by
 refine Classical.byContradiction fun hcon => ?_
 have hab : b = a := by have := hmin w b hw hb; omega
 subst hab
 obtain ⟨m, hm, am, em⟩ := T.pre w c hw hc (Ne.symm hne)
 have am' := am.symm
 obtain ⟨am1, hMx⟩ := max_ex (D := D) (S := (· < n)) (fun _ h => h) ⟨c, hc⟩ m
 have h0 := hmin m am1 hm hMx
 by_cases e : m = w
 ·subst e
  obtain ⟨x, hx, ex⟩ := ha.2
  obtain ⟨y, hy, ey⟩ := hb.2
  have b1 := hb.1 x hx
  have b2 := ha.1 y hy
  have l1 := T.step_lvl hx hc hw am'
  have l2 := T.step_lvl hy hc hw am'
  have b0 : 0 < b := by
   have := ha.1 m hw
   have s := T.symm hc hw
   rw [T.z m hw] at em; omega
  have sx : side x % 2 = 0 := Classical.byContradiction fun h => by
   obtain ⟨u, u', h1, h2, h3⟩ := hl x hx (by omega)
   exact h3 (T.far_leaf hc ha hx ex h1 h2)
  have sy : side y % 2 = 0 := Classical.byContradiction fun h => by
   obtain ⟨u, u', h1, h2, h3⟩ := hl y hy (by omega)
   exact h3 (T.far_leaf hw hb hy ey h1 h2)
  have p1 := T.par hs hc _ x hx ex
  have p2 := T.par hs hw _ y hy ey
  have p3 := hs _ _ am
  omega
 ·obtain ⟨x, hx, ex⟩ := hMx.2
  have hxm : x < n := hx
  have b1 := ha.1 x hx
  rcases T.step_lvl hx hc hm am' with q | q
  ·have s1 := T.symm hx hc
   have s2 := T.symm hx hm
   have s3 := T.symm hw hm
   have s4 := T.symm hw hc
   have h1 := T.chain hx hc hm am' (by omega) (D m w) w hw rfl (by omega)
   have s5 := T.symm hx hw
   have h2 := hb.1 x hx
   have : 0 < D m w := Nat.pos_of_ne_zero fun z => e (T.z' m w hm hw z)
   omega
  ·omega
theorem two_ways (T : Tr n es D) {c a : Nat} (hc : c < n) (h1 : 1 < n) (ha : IsMax D (· < n) c a) (hu : ∀ w b, w < n → w ≠ c → IsMax D (· < n) w b → a < b) :
  0 < a ∧ ∃ w w', w ≠ w' ∧ adj es c w ∧ adj es c w' ∧ (∃ v, v < n ∧ D c v = a ∧ D w v + 1 = a) ∧ ∃ v, v < n ∧ D c v = a ∧ D w' v + 1 = a := by
 have a0 : 0 < a := by
  obtain ⟨y, hy, hyc⟩ : ∃ y, y < n ∧ y ≠ c := by
   by_cases e : c = 0
   ·exact ⟨1, h1, by omega⟩
   ·exact ⟨0, by omega, fun h => e h.symm⟩
  have := ha.1 y hy
  have : 0 < D c y := Nat.pos_of_ne_zero fun z => hyc (T.z' c y hc hy z).symm
  omega
 refine ⟨a0, ?_⟩
 have near : ∀ v, v < n → D c v = a → ∃ w, adj es c w ∧ D w v + 1 = a := fun v hv hd => by
  have hne : v ≠ c := fun e => by subst e; rw [T.z v hc] at hd; omega
  obtain ⟨u, hu', au, eu⟩ := T.pre v c hv hc hne
  have s1 := T.symm hc hv
  have s2 := T.symm hu' hv
  exact ⟨u, au.symm, by omega⟩
 obtain ⟨x, hx, ex⟩ := ha.2
 obtain ⟨w, aw, ew⟩ := near x hx ex
 have hw := (aw.lt T.rng).2
 have hwc : w ≠ c := fun e => by subst e; omega
 refine Classical.byContradiction fun hno => ?_
 have all : ∀ v, v < n → D c v = a → D w v + 1 = a := fun v hv hd => by
  obtain ⟨w', aw', ew'⟩ := near v hv hd
  by_cases e : w = w'
  ·rw [e]; exact ew'
  ·exact absurd ⟨w, w', e, aw, aw', ⟨x, hx, ex, ew⟩, v, hv, hd, ew'⟩ hno
 obtain ⟨b, hb⟩ := max_ex (D := D) (S := (· < n)) (fun _ h => h) ⟨c, hc⟩ w
 have := hu w b hw hwc hb
 obtain ⟨y, hy, ey⟩ := hb.2
 have h2 := ha.1 y hy
 rcases T.step_lvl hy hc hw aw with q | q
 ·have := all y hy (by omega); omega
 ·omega
theorem far_is (T : Tr n es D) {fs : List Pr} {s : Nat} {L : List Int} (F : Far n fs s L) (ha : ∀ u w, adj fs u w ↔ adj es u w) (hcon : ∀ v, v < n → Con fs s v) (hs : s < n) {v : Nat} (hv : v < n) : L[v]? = some ((D s v : Nat) : Int) := by
 have get : ∀ v, v < n → ∃ k : Nat, L[v]? = some (k : Int) := fun v hv => by
  have hl : v < L.length := by rw [F.len]; exact hv
  have h1 : L[v]? = some L[v] := List.getElem?_eq_getElem hl
  have h0 := (F.pos v _ h1).2 (hcon v hv)
  exact ⟨L[v].toNat, by rw [h1]; congr 1; omega⟩
 have down : ∀ (k v q : Nat), v < n → L[v]? = some ((k : Nat) : Int) → adj fs v q → L[q]? = some ((k : Int) - 1) → 0 < k → D s q + 1 = D s v := by
  intro k
  induction k using Nat.strongRecOn with
  | _ k ih =>
   intro v q hv e a e2 h0
   have a' := (ha v q).1 a
   have hq := (a'.lt T.rng).2
   rcases T.lvl hs a' with z | z
   ·exfalso
    by_cases k1 : k = 1
    ·subst k1
     obtain rfl := F.zero q (by rw [e2]; rfl)
     rw [T.z _ hs] at z; omega
    ·obtain ⟨q2, a2, e3⟩ := F.pre q _ e2 (by omega)
     have a2' := (ha q q2).1 a2
     have := ih (k - 1) (by omega) q q2 hq (by rw [e2]; congr 1; omega) a2 (by rw [e3]; congr 1; omega) (by omega)
     have hv2 := T.par_uniq hs a' a2'.symm z this
     subst hv2
     rw [e] at e3; injection e3 with e3; omega
   ·exact z
 have key : ∀ (k v : Nat), v < n → L[v]? = some ((k : Nat) : Int) → D s v = k := by
  intro k
  induction k with
  | zero => intro v hv e; rw [F.zero v e, T.z s hs]
  | succ k ih =>
   intro v hv e
   obtain ⟨q, a, e2⟩ := F.pre v _ e (by omega)
   have hq := (((ha v q).1 a).lt T.rng).2
   have h1 := down (k + 1) v q hv e a e2 (by omega)
   have h2 := ih q hq (by rw [e2]; congr 1; omega)
   omega
 obtain ⟨k, hk⟩ := get v hv
 rw [key k v hv hk]; exact hk
end Tr
theorem adj_sides {b N : Nat} {ls : List Pr} (K : Lk b N ls) {u w : Nat} (h : adj (edgesU b ls) u w) : ((if u < b then 0 else 1) + (if w < b then 0 else 1)) % 2 = 1 := by
 obtain ⟨p, hp, h⟩ := adj_link K.ok h
 have L := linkOK_nat (K.ok p hp)
 rcases h with ⟨rfl, rfl⟩ | ⟨rfl, rfl⟩
 ·rw [if_pos L.2.2.2.2, if_neg (by omega)]
 ·rw [if_pos L.2.2.2.2, if_neg (by omega)]
theorem cut_links {n : Nat} {es : List Pr} (hr : InR n es) {v : Nat} (h : v < (blocksM n es).length + (cutsM n es).length) (hv : (blocksM n es).length ≤ v) :
  ∃ u u', adj (edgesU (blocksM n es).length (treeM n es).ls) u v ∧ adj (edgesU (blocksM n es).length (treeM n es).ls) u' v ∧ u ≠ u' := by
 obtain ⟨j, rfl⟩ : ∃ j, v = (blocksM n es).length + j := ⟨v - (blocksM n es).length, by omega⟩
 have hj : j < (cutsM n es).length := by omega
 have hc : (cutsM n es)[j]? = some (cutsM n es)[j] := List.getElem?_eq_getElem hj
 have h2 := (inc_cut hr _).2 ((cuts_mem hr _).1 (List.mem_of_getElem? hc)).2
 rw [incN_keys, two_len (keysAt_nd n es _)] at h2
 obtain ⟨x, y, hx, hy, hxy⟩ := h2
 have get : ∀ k, k ∈ keysAt n es (cutsM n es)[j] → ∃ i : Nat, (fkM (keyE n es) es)[i]? = some k ∧ adj (edgesU (blocksM n es).length (treeM n es).ls) i ((blocksM n es).length + j) := fun k hk => by
  rw [keysAt, List.mem_filter] at hk
  obtain ⟨i, hi⟩ := List.mem_iff_getElem?.1 hk.1
  refine ⟨i, hi, link_con (b := es.filter fun p => decide (keyE n es p = k)) ?_ hc hk.2⟩
  rw [blocksM_eq, List.getElem?_map, hi]; rfl
 obtain ⟨i, hi, ai⟩ := get x hx
 obtain ⟨i', hi', ai'⟩ := get y hy
 exact ⟨i, i', ai, ai', fun e => hxy (by subst e; rw [hi] at hi'; injection hi')⟩
theorem tree_centre {n : Nat} {es : List Pr} (hR : RightG ⟨(n : Int), es⟩) (K : Lk (blocksM n es).length ((blocksM n es).length + (cutsM n es).length) (treeM n es).ls) {N c : Nat} (hN : N = (blocksM n es).length + (cutsM n es).length)
  (hc : c = minK (depK (blocksM n es).length N (treeM n es).ls N) N) : c < N ∧ ∃ a, Tr.IsMax (distM (blocksM n es).length N (treeM n es).ls) (· < N) c a ∧ ∀ w b, w < N → w ≠ c → Tr.IsMax (distM (blocksM n es).length N (treeM n es).ls) (· < N) w b → a < b := by
 subst hN
 generalize hN : (blocksM n es).length + (cutsM n es).length = N at *
 have h0 : 0 < N := by have := K.n0; omega
 obtain ⟨h1, h2⟩ := minK_spec (depK (blocksM n es).length N (treeM n es).ls N) N h0
 rw [← hc] at h1 h2
 have T := K.tree
 obtain ⟨p0, hm⟩ := K.ecc h1
 refine ⟨h1, _, hm, fun w b hw hne hb => ?_⟩
 refine T.centre_uniq (side := fun u => if u < (blocksM n es).length then 0 else 1) (fun u w h => adj_sides K h) (fun v hv hs => cut_links hR.inR (by rw [hN]; exact hv) (by
  by_cases q : v < (blocksM n es).length
  ·simp only [if_pos q] at hs; omega
  ·omega)) h1 hw (Ne.symm hne) hm hb fun v m hv hvm => ?_
 have h3 := (h2 v hv).1
 rw [depK_get h1, depK_get hv] at h3
 obtain ⟨p1, hm1⟩ := K.ecc hv
 have := hm1.uniq hvm
 omega
end Go.Fw
namespace Go.Fw
open Go.Proofs
attribute [local irreducible] KO4 KO3 KO2 KO1 KO KN KX KE VK KCond KDraw KCall KLoop
set_option maxHeartbeats 16000000
set_option maxRecDepth 10000
attribute [local irreducible] lowM bridgesM cutsM blocksM keyE treeM
theorem Max_any (W0 : Base) (v : Value) (x : Int) (t : List Int) (h : AHeap) (hv : RL isI h v (x :: t)) (hn : t.length + 1 ≤ 1000) : AC Try.prog W0 90 [v] h fun y h' => y = .int .i64 (t.foldl max x) ∧ h' = h := by
 refine AC.vc (fn := Try.f90) (c := _) ⟨Try.func90, rfl, by decide⟩ Try.ntmps90 Try.results90 (by simp) fun hwf => ?_
 simp only [argFrame, argFrom, Nat.reduceAdd]
 have lv := fun g => hv.len (P := Try.prog) Try.underlying38 g
 rw [List.length_cons] at lv
 have d1 : decide (((t.length + 1 : Nat) : Int) < 1) = false := decide_eq_false (by omega)
 have a0 := hv.addr (P := Try.prog) Try.underlying38 Try.underlying3 (by kernel_rfl) (k := .i64) 0 (by simp)
 have l0 := hv.loadI (P := Try.prog) Try.underlying3 rfl 0 (by simp)
 rw [List.getElem_cons_zero] at l0
 rw [show ((0 : Nat) : Int) = 0 from rfl] at a0
 simp only [kS1, bLookup, bMapSet, wantA, isCall, stepOp, evalO, evalL, evalP, evalM, putDst, flat, kA, kB, Nat.reduceLT, ↓reduceIte, kC, Nat.reduceEqDiff, aBuiltin, abinG, guardFree, abin, aInt, aUn, aNilCheck, retQ, retQ1, aresults, aresultL, aresult, mkF, undefV, reduceCtorEq, kD, kE, kF, kG, kH, kI, kJ, kK, aExtract, calleeOf, lv, d1, a0, l0]
 refine KLoop.intro (fun k fr hq => ∃ (j : Nat), k = t.length - j ∧ j ≤ t.length ∧ hq = h ∧ fr = mkF [(0, v), (3, .int .i64 ((t.take j).foldl max x)), (4, .int .i64 (j + 1 : Nat))])
  t.length [(0, v), (3, .int .i64 x), (4, .int .i64 (0 + 1 : Nat))] (by simp only [hasAll, kS1, bLookup, bMapSet, wantA, isCall, stepOp, evalO, evalL, evalP, evalM, putDst, flat, kA, kB, Nat.reduceLT, ↓reduceIte, kC, Nat.reduceEqDiff, aBuiltin, abinG, guardFree, abin, aInt, aUn, aNilCheck, retQ, retQ1, aresults, aresultL, aresult, mkF, undefV, reduceCtorEq, kD, kE, kF, kG, kH, kI, kJ, kK, aExtract, calleeOf]; simp) ⟨0, rfl, Nat.zero_le _, rfl, rfl⟩ ?_
 rintro k fr hq hwq ⟨j, rfl, hj, rfl, rfl⟩
 simp only [kS1, bLookup, bMapSet, wantA, isCall, stepOp, evalO, evalL, evalP, evalM, putDst, flat, kA, kB, Nat.reduceLT, ↓reduceIte, kC, Nat.reduceEqDiff, aBuiltin, abinG, guardFree, abin, aInt, aUn, aNilCheck, retQ, retQ1, aresults, aresultL, aresult, mkF, undefV, reduceCtorEq, kD, kE, kF, kG, kH, kI, kJ, kK, aExtract, calleeOf, lv]
 refine KCond.intro (fun ht => ?_) (fun hf => ?_)
 ·have hlt : j < t.length := by have := lt_t ht; omega
  clear ht
  have ad := hv.addr (P := Try.prog) Try.underlying38 Try.underlying3 (by kernel_rfl) (k := .i64) (j + 1) (by simpa using hlt)
  have ld := hv.loadI (P := Try.prog) Try.underlying3 rfl (j + 1) (by simpa using hlt)
  rw [List.getElem_cons_succ] at ld
  have tk : t.take (j + 1) = t.take j ++ [t[j]] := List.take_succ_eq_append_getElem hlt
  have wr := awrap_succ (j + 1) (by omega)
  simp only [kS1, bLookup, bMapSet, wantA, isCall, stepOp, evalO, evalL, evalP, evalM, putDst, flat, kA, kB, Nat.reduceLT, ↓reduceIte, kC, Nat.reduceEqDiff, aBuiltin, abinG, guardFree, abin, aInt, aUn, aNilCheck, retQ, retQ1, aresults, aresultL, aresult, mkF, undefV, reduceCtorEq, kD, kE, kF, kG, kH, kI, kJ, kK, aExtract, calleeOf, ad, ld, amax_i, wr]
  exact loop_again (t.length - (j + 1)) [(0, v), (3, .int .i64 (max ((t.take j).foldl max x) t[j])), (4, .int .i64 (j + 1 + 1 : Nat))] (sub_step hlt) (by simp only [hasAll, kS1, bLookup, bMapSet, wantA, isCall, stepOp, evalO, evalL, evalP, evalM, putDst, flat, kA, kB, Nat.reduceLT, ↓reduceIte, kC, Nat.reduceEqDiff, aBuiltin, abinG, guardFree, abin, aInt, aUn, aNilCheck, retQ, retQ1, aresults, aresultL, aresult, mkF, undefV, reduceCtorEq, kD, kE, kF, kG, kH, kI, kJ, kK, aExtract, calleeOf]; simp)
   ⟨j + 1, rfl, hlt, rfl, by rw [tk, List.foldl_append]; rfl⟩
 ·have hge : t.length ≤ j := by have := lt_f hf; omega
  rw [List.take_of_length_le hge]
  simp only [kS1, bLookup, bMapSet, wantA, isCall, stepOp, evalO, evalL, evalP, evalM, putDst, flat, kA, kB, Nat.reduceLT, ↓reduceIte, kC, Nat.reduceEqDiff, aBuiltin, abinG, guardFree, abin, aInt, aUn, aNilCheck, retQ, retQ1, aresults, aresultL, aresult, mkF, undefV, reduceCtorEq, kD, kE, kF, kG, kH, kI, kJ, kK, aExtract, calleeOf]
  exact ⟨trivial, trivial⟩
theorem fold_max {x : Int} {t : List Int} {a : Int} (h : ∀ y ∈ x :: t, y ≤ a) (ha : a ∈ x :: t) : t.foldl max x = a := by
 obtain ⟨h1, h2, h3⟩ := maxL_all t x
 have le : t.foldl max x ≤ a := by
  rcases h3 with e | e
  ·rw [e]; exact h x (by simp)
  ·exact h _ (List.mem_cons_of_mem _ e)
 rcases List.mem_cons.1 ha with e | e
 ·rw [e] at le ⊢; omega
 ·have := h2 a e; omega
theorem deep_any (W0 : Base) (v : Value) (N : Nat) (fs es : List Pr) (D : Nat → Nat → Nat) (h : AHeap) (hg : GR h v ⟨(N : Int), fs⟩) (hr : RightG ⟨(N : Int), fs⟩) (T : Tr N es D) (ha : ∀ u w, adj fs u w ↔ adj es u w) (hcon : ∀ u w, u < N → w < N → Con fs u w)
  {s a : Nat} (hs : s < N) (hm : Tr.IsMax D (· < N) s a) : AC Try.prog W0 53 [v, .int .i64 (s : Int)] h fun x h' => x = .int .i64 (a : Int) ∧ Le h h' := by
 have hg0 := hg
 have hn200 : (N : Int) ≤ 200 := hr.n1
 obtain ⟨ev, rfl, hp⟩ := hg.open
 refine AC.vc (fn := Try.f53) (c := _) ⟨Try.func53, rfl, by decide⟩ Try.ntmps53 Try.results53 (by simp) fun hwf => ?_
 simp only [argFrame, argFrom, Nat.reduceAdd]
 obtain ⟨h1, b1, le1, wf1, -, lA⟩ := boxG (n := (N : Int)) hwf hp
 generalize h.next = B at *
 simp only [kS1, bLookup, bMapSet, wantA, isCall, stepOp, evalO, evalL, evalP, evalM, putDst, flat, kA, kB, Nat.reduceLT, ↓reduceIte, kC, Nat.reduceEqDiff, aBuiltin, abinG, guardFree, abin, aInt, aUn, aNilCheck, retQ, retQ1, aresults, aresultL, aresult, mkF, undefV, reduceCtorEq, kD, kE, kF, kG, kH, kI, kJ, kK, aExtract, calleeOf, b1, (lA h1 (Le.refl _)).1]
 refine KCall.intro (by simp only [kS1, bLookup, bMapSet, wantA, isCall, stepOp, evalO, evalL, evalP, evalM, putDst, flat, kA, kB, Nat.reduceLT, ↓reduceIte, kC, Nat.reduceEqDiff, aBuiltin, abinG, guardFree, abin, aInt, aUn, aNilCheck, retQ, retQ1, aresults, aresultL, aresult, mkF, undefV, reduceCtorEq, kD, kE, kF, kG, kH, kI, kJ, kK, aExtract, calleeOf] <;> rfl) ⟨Try.func54, rfl, by decide⟩ (Away_any W0 _ ⟨(N : Int), fs⟩ (s : Int) h1 (hg0.le le1)) ?_
 rintro x h2 w2 ⟨l2, lv, e, rfl, ⟨a1, _⟩ | ⟨_, a1, _⟩ | ⟨_, _, _, rfl, L, hL, hF⟩⟩
 ·exact absurd hr a1
 ·exact absurd ⟨by omega, by simp only; omega⟩ a1
 simp only [Int.toNat_natCast] at hF
 have at_ : ∀ v, v < N → L[v]? = some ((D s v : Nat) : Int) := fun v hv => T.far_is hF ha (fun u hu => hcon s u hs hu) hs hv
 have hlen := hF.len
 obtain ⟨x, t, rfl⟩ : ∃ x t, L = x :: t := by
  cases L with
  | nil => simp at hlen; omega
  | cons x t => exact ⟨x, t, rfl⟩
 have hmx : t.foldl max x = (a : Int) := by
  refine fold_max (fun y hy => ?_) ?_
  ·obtain ⟨i, hi⟩ := List.mem_iff_getElem?.1 hy
   have hiN : i < N := by rw [← hlen]; exact (List.getElem?_eq_some_iff.1 hi).1
   rw [at_ i hiN] at hi; injection hi with hi
   have := hm.1 i hiN; omega
  ·obtain ⟨w, hw, e⟩ := hm.2
   rw [← e]; exact List.mem_of_getElem? (at_ w hw)
 have ll := fun g => hL.len (P := Try.prog) Try.underlying38 g
 rw [List.length_cons] at ll
 have hl1 : t.length + 1 = N := by simpa using hlen
 have d0 : decide ((0 : Int) = 0) = true := by decide
 have d1 : decide (((t.length + 1 : Nat) : Int) = 0) = false := decide_eq_false (by omega)
 simp only [kS1, bLookup, bMapSet, wantA, isCall, stepOp, evalO, evalL, evalP, evalM, putDst, flat, kA, kB, Nat.reduceLT, ↓reduceIte, kC, Nat.reduceEqDiff, aBuiltin, abinG, guardFree, abin, aInt, aUn, aNilCheck, retQ, retQ1, aresults, aresultL, aresult, mkF, undefV, reduceCtorEq, kD, kE, kF, kG, kH, kI, kJ, kK, aExtract, calleeOf, d0, bne, ll, d1]
 refine KCall.intro (by simp only [kS1, bLookup, bMapSet, wantA, isCall, stepOp, evalO, evalL, evalP, evalM, putDst, flat, kA, kB, Nat.reduceLT, ↓reduceIte, kC, Nat.reduceEqDiff, aBuiltin, abinG, guardFree, abin, aInt, aUn, aNilCheck, retQ, retQ1, aresults, aresultL, aresult, mkF, undefV, reduceCtorEq, kD, kE, kF, kG, kH, kI, kJ, kK, aExtract, calleeOf] <;> rfl) ⟨Try.func90, rfl, by decide⟩ (Max_any W0 lv x t h2 hL (by omega)) ?_
 rintro y h3 w3 ⟨rfl, rfl⟩
 simp only [kS1, bLookup, bMapSet, wantA, isCall, stepOp, evalO, evalL, evalP, evalM, putDst, flat, kA, kB, Nat.reduceLT, ↓reduceIte, kC, Nat.reduceEqDiff, aBuiltin, abinG, guardFree, abin, aInt, aUn, aNilCheck, retQ, retQ1, aresults, aresultL, aresult, mkF, undefV, reduceCtorEq, kD, kE, kF, kG, kH, kI, kJ, kK, aExtract, calleeOf]
 exact ⟨by rw [hmx], le1.trans l2⟩
end Go.Fw
