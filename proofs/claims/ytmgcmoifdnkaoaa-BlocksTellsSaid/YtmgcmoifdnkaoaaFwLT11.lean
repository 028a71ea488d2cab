/- A text of the proof. -/
import Derived.Test.YtmgcmoifdnkaoaaFwLN9
set_option linter.unusedSimpArgs false
set_option linter.unusedVariables false
namespace Go.Fw
open Go.Proofs
def otherM (p : Pr) (v : Int) : Int := if p.1 = v then p.2 else if p.2 = v then p.1 else -1
theorem pairOf_inj {v a b : Nat} (h : pairOf v a = pairOf v b) : a = b := by
 rw [pairOf_of, pairOf_of, Prod.mk.injEq] at h; omega
theorem pairOf_mem {n : Nat} {es : List Pr} (hr : InR n es) {a b : Nat} (h : adj es a b) : pairOf a b ∈ es := adj_mem' hr h
theorem other_spec {n : Nat} {es : List Pr} (hr : InR n es) {p : Pr} (hp : p ∈ es) (v : Nat) :
  (∃ a : Nat, a < n ∧ otherM p (v : Int) = (a : Int) ∧ adj es v a ∧ p = pairOf v a) ∨ (otherM p (v : Int) = -1 ∧ ∀ a, p ≠ pairOf v a) := by
 obtain ⟨a, c, rfl, hac, hcn, hadj⟩ := ends hr hp
 unfold otherM
 by_cases h1 : a = v
 ·subst h1
  exact .inl ⟨c, hcn, by rw [if_pos rfl], hadj, by rw [pairOf_of, Prod.mk.injEq]; omega⟩
 ·by_cases h2 : c = v
  ·subst h2
   exact .inl ⟨a, by omega, by rw [if_neg (by simp only; omega), if_pos rfl], hadj.symm, by rw [pairOf_of, Prod.mk.injEq]; omega⟩
  ·refine .inr ⟨by rw [if_neg (by simp only; omega), if_neg (by simp only; omega)], fun b e => ?_⟩
   rw [pairOf_of, Prod.mk.injEq] at e; omega
def LK (es : List Pr) (v : Nat) (p q : Pr) : Prop := ∃ a b, adj es v a ∧ adj es v b ∧ p = pairOf v a ∧ q = pairOf v b ∧ Cn (wo v) es a b
theorem LK.symm {es : List Pr} {v : Nat} {p q : Pr} (h : LK es v p q) : LK es v q p := by
 obtain ⟨a, b, h1, h2, h3, h4, h5⟩ := h; exact ⟨b, a, h2, h1, h4, h3, h5.symm⟩
theorem LK.key {n : Nat} {es : List Pr} (hr : InR n es) {v : Nat} {p q : Pr} (h : LK es v p q) : keyE n es p = keyE n es q := by
 obtain ⟨a, b, h1, h2, rfl, rfl, h5⟩ := h; exact (key_iff hr h1 h2).2 h5
def oneF (f : Pr → Int) (a b : Int) (p : Pr) : Int := if f p = a then b else f p
structure OF (n : Nat) (es : List Pr) (f : Pr → Int) (v i k : Nat) : Prop where
 snd : ∀ p ∈ es, ∀ q ∈ es, f p = f q → keyE n es p = keyE n es q
 vs : ∀ v' < v, ∀ p ∈ es, ∀ q ∈ es, LK es v' p q → f p = f q
 is : ∀ (i' k' : Nat) p q, i' < i → k' < i' → es[i']? = some p → es[k']? = some q → LK es v p q → f p = f q
 ks : ∀ (k' : Nat) p q, k' < k → es[i]? = some p → es[k']? = some q → LK es v p q → f p = f q
theorem OF.start {n : Nat} {es : List Pr} {f : Pr → Int} (h : ∀ p ∈ es, ∀ q ∈ es, f p = f q → p = q) : OF n es f 0 0 0 :=
 ⟨fun p hp q hq e => by rw [h p hp q hq e], fun v' hv => by omega, fun i' k' p q h1 => by omega, fun k' p q h1 => by omega⟩
theorem OF.nextV {n : Nat} {es : List Pr} {f : Pr → Int} {v i : Nat} (o : OF n es f v i 0) (hi : es.length ≤ i) : OF n es f (v + 1) 0 0 := by
 refine ⟨o.snd, fun v' hv' p hp q hq l => ?_, fun i' k' p q h1 => by omega, fun k' p q h1 => by omega⟩
 by_cases e : v' = v
 ·subst e
  obtain ⟨x, hx⟩ := List.getElem?_of_mem hp
  obtain ⟨y, hy⟩ := List.getElem?_of_mem hq
  have lx := (List.getElem?_eq_some_iff.1 hx).1
  have ly := (List.getElem?_eq_some_iff.1 hy).1
  rcases Nat.lt_trichotomy x y with h | h | h
  ·exact (o.is y x q p (by omega) h hy hx l.symm).symm
  ·subst h; rw [hx] at hy; injection hy with hy; rw [hy]
  ·exact o.is x y p q (by omega) h hx hy l
 ·exact o.vs v' (by omega) p hp q hq l
theorem OF.nextI {n : Nat} {es : List Pr} {f : Pr → Int} {v i k : Nat} (o : OF n es f v i k) (hk : i ≤ k) : OF n es f v (i + 1) 0 := by
 refine ⟨o.snd, o.vs, fun i' k' p q h1 h2 hp hq l => ?_, fun k' p q h1 => by omega⟩
 by_cases e : i' = i
 ·subst e; exact o.ks k' p q (by omega) hp hq l
 ·exact o.is i' k' p q (by omega) h2 hp hq l
theorem OF.skipI {n : Nat} {es : List Pr} {f : Pr → Int} {v i : Nat} (o : OF n es f v i 0) {p : Pr} (hp : es[i]? = some p) (h : ∀ a, p ≠ pairOf v a) : OF n es f v (i + 1) 0 := by
 refine ⟨o.snd, o.vs, fun i' k' p' q h1 h2 hp' hq l => ?_, fun k' p q h1 => by omega⟩
 by_cases e : i' = i
 ·subst e; rw [hp] at hp'; injection hp' with hp'; subst hp'
  obtain ⟨a, b, _, _, h3, _⟩ := l
  exact absurd h3 (h a)
 ·exact o.is i' k' p' q (by omega) h2 hp' hq l
theorem OF.skipK {n : Nat} {es : List Pr} {f : Pr → Int} {v i k : Nat} (o : OF n es f v i k) {p q : Pr} (hp : es[i]? = some p) (hq : es[k]? = some q) (h : ¬ LK es v p q) : OF n es f v i (k + 1) := by
 refine ⟨o.snd, o.vs, o.is, fun k' p' q' h1 hp' hq' l => ?_⟩
 by_cases e : k' = k
 ·subst e; rw [hp] at hp'; rw [hq] at hq'; injection hp' with hp'; injection hq' with hq'; subst hp'; subst hq'; exact absurd l h
 ·exact o.ks k' p' q' (by omega) hp' hq' l
theorem oneF_eq {f : Pr → Int} {a b : Int} {p q : Pr} (h : f p = f q) : oneF f a b p = oneF f a b q := by unfold oneF; rw [h]
theorem OF.link {n : Nat} {es : List Pr} (hr : InR n es) {f : Pr → Int} {v i k : Nat} (o : OF n es f v i k) {p q : Pr} (hp : es[i]? = some p) (hq : es[k]? = some q) (h : LK es v p q) : OF n es (oneF f (f p) (f q)) v i (k + 1) := by
 have hpe := List.mem_of_getElem? hp
 have hqe := List.mem_of_getElem? hq
 have hk := h.key hr
 refine ⟨fun x hx y hy e => ?_, fun v' hv' x hx y hy l => oneF_eq (o.vs v' hv' x hx y hy l), fun i' k' x y h1 h2 hx hy l => oneF_eq (o.is i' k' x y h1 h2 hx hy l), fun k' p' q' h1 hp' hq' l => ?_⟩
 ·unfold oneF at e
  split at e
  ·rename_i h1
   have kx := o.snd x hx p hpe h1
   split at e
   ·rename_i h2
    rw [kx, o.snd y hy p hpe h2]
   ·rw [kx, hk]; exact o.snd q hqe y hy e
  ·split at e
   ·rename_i h2
    rw [o.snd y hy p hpe h2, hk]; exact o.snd x hx q hqe e
   ·exact o.snd x hx y hy e
 ·by_cases e : k' = k
  ·subst e; rw [hp] at hp'; rw [hq] at hq'; injection hp' with hp'; injection hq' with hq'; subst hp'; subst hq'
   unfold oneF; rw [if_pos rfl]; split <;> rfl
  ·exact oneF_eq (o.ks k' p' q' (by omega) hp' hq' l)
theorem OF.fin {n : Nat} {es : List Pr} (hr : InR n es) {f : Pr → Int} {v : Nat} (o : OF n es f v 0 0) (hv : n ≤ v) {p q : Pr} (hp : p ∈ es) (hq : q ∈ es) : f p = f q ↔ keyE n es p = keyE n es q := by
 refine ⟨o.snd p hp q hq, fun h => ?_⟩
 refine key_link hr f (fun v' a b ha hb hc => ?_) hp hq h
 exact o.vs v' (by have := (ha.lt hr).1; omega) _ (pairOf_mem hr ha) _ (pairOf_mem hr hb) ⟨a, b, ha, hb, rfl, rfl, hc⟩
theorem fk_reps {es : List Pr} {f g : Pr → Int} (h : ∀ p ∈ es, ∀ q ∈ es, f p = f q ↔ g p = g q) : ∀ (k : Nat), ∃ reps : List Pr, (∀ r ∈ reps, r ∈ es) ∧ fkM f (es.take k) = reps.map f ∧ fkM g (es.take k) = reps.map g := by
 intro k
 induction k with
 | zero => exact ⟨[], by simp, rfl, rfl⟩
 | succ k ih =>
  obtain ⟨reps, h1, h2, h3⟩ := ih
  by_cases hk : k < es.length
  ·have hm := List.getElem_mem hk
   rw [List.take_succ_eq_append_getElem hk, fkM_snoc, fkM_snoc, h2, h3]
   generalize es[k] = p at *
   have e : f p ∈ reps.map f ↔ g p ∈ reps.map g := by
    rw [List.mem_map, List.mem_map]
    exact ⟨fun ⟨r, hr, e⟩ => ⟨r, hr, (h r (h1 r hr) p hm).1 e⟩, fun ⟨r, hr, e⟩ => ⟨r, hr, (h r (h1 r hr) p hm).2 e⟩⟩
   unfold fkS
   by_cases c : f p ∈ reps.map f
   ·rw [if_pos c, if_pos (e.1 c)]; exact ⟨reps, h1, rfl, rfl⟩
   ·rw [if_neg c, if_neg (fun k => c (e.2 k))]
    refine ⟨reps ++ [p], fun r hr => ?_, by simp, by simp⟩
    rw [List.mem_append, List.mem_singleton] at hr
    rcases hr with hr | rfl
    ·exact h1 r hr
    ·exact hm
  ·rw [List.take_of_length_le (by omega)] at *
   exact ⟨reps, h1, h2, h3⟩
def rowsF (f : Pr → Int) (es : List Pr) (k : Nat) : List (List Pr) := (fkM f (es.take k)).map fun x => es.filter fun p => decide (f p = x)
theorem rowsF_blocks {n : Nat} {es : List Pr} {f : Pr → Int} (h : ∀ p ∈ es, ∀ q ∈ es, f p = f q ↔ keyE n es p = keyE n es q) : rowsF f es es.length = blocksM n es := by
 obtain ⟨reps, h1, h2, h3⟩ := fk_reps h es.length
 rw [blocksM_eq, rowsF, h2]
 rw [List.take_length] at h3
 rw [h3, List.map_map, List.map_map]
 refine List.map_congr_left fun r hr => ?_
 refine List.filter_congr fun p hp => ?_
 rw [Bool.eq_iff_iff, decide_eq_true_eq, decide_eq_true_eq]
 exact h p hp r (h1 r hr)
theorem rowsF_old {f : Pr → Int} {es : List Pr} {i : Nat} (hi : i < es.length) (h : f es[i] ∈ (es.map f).take i) : rowsF f es (i + 1) = rowsF f es i := by
 unfold rowsF
 rw [List.take_succ_eq_append_getElem hi, fkM_snoc, fkS, if_pos]
 rw [((fk_ok f _ (es.take i) rfl).2 _)]
 rw [← List.map_take, List.mem_map] at h
 exact h
theorem rowsF_new {f : Pr → Int} {es : List Pr} {i : Nat} (hi : i < es.length) (h : f es[i] ∉ (es.map f).take i) : rowsF f es (i + 1) = rowsF f es i ++ [(es.drop i).filter fun p => decide (f p = f es[i])] := by
 unfold rowsF
 rw [List.take_succ_eq_append_getElem hi, fkM_snoc, fkS, if_neg]
 ·rw [List.map_append, List.map_cons, List.map_nil]
  congr 2
  generalize f es[i] = y at *
  conv => lhs; rw [← List.take_append_drop i es]
  rw [List.filter_append]
  have : (es.take i).filter (fun p => decide (f p = y)) = [] := by
   rw [List.filter_eq_nil_iff]
   intro p hp e
   rw [decide_eq_true_eq] at e
   exact h (by rw [← List.map_take, List.mem_map]; exact ⟨p, hp, e⟩)
  rw [this, List.nil_append]
 ·rw [((fk_ok f _ (es.take i) rfl).2 _)]
  rw [← List.map_take, List.mem_map] at h
  exact h
end Go.Fw
namespace Go.Fw
open Go.Proofs
attribute [local irreducible] KO4 KO3 KO2 KO1 KO KN KX KE VK KCond KDraw KCall KLoop
set_option maxHeartbeats 16000000
set_option maxRecDepth 10000
theorem Rother_any (W0 : Base) (p : Pr) (v : Int) (h : AHeap) : AC Try.prog W0 67 [valP p, .int .i64 v] h fun x h' => x = .int .i64 (otherM p v) ∧ Le h h' := by
 refine AC.vc (fn := Try.f67) (c := _) ⟨Try.func67, rfl, by decide⟩ Try.ntmps67 Try.results67 (by simp) fun hwf => ?_
 simp only [argFrame, argFrom, Nat.reduceAdd]
 obtain ⟨h1, e1, l1, w1, o1⟩ := alloc_f hwf (cellsP p)
 have m0 := own0 o1
 have m1 := own1 o1
 by_cases c1 : p.1 = v
 ·have d1 : decide (p.1 = v) = true := decide_eq_true c1
  simp only [kS1, bLookup, bMapSet, wantA, isCall, stepOp, evalO, evalL, evalP, evalM, putDst, flat, kA, kB, Nat.reduceLT, ↓reduceIte, kC, Nat.reduceEqDiff, aBuiltin, abinG, guardFree, abin, aInt, aUn, aNilCheck, retQ, retQ1, aresults, aresultL, aresult, mkF, undefV, reduceCtorEq, kD, kE, kF, kG, kH, kI, kJ, kK, aExtract, calleeOf, box42, e1, pa0, pa1, aadd, Nat.zero_add, m0, m1, d1]
  exact ⟨by rw [otherM, if_pos c1], l1⟩
 have d1 : decide (p.1 = v) = false := decide_eq_false c1
 by_cases c2 : p.2 = v
 ·have d2 : decide (p.2 = v) = true := decide_eq_true c2
  simp only [kS1, bLookup, bMapSet, wantA, isCall, stepOp, evalO, evalL, evalP, evalM, putDst, flat, kA, kB, Nat.reduceLT, ↓reduceIte, kC, Nat.reduceEqDiff, aBuiltin, abinG, guardFree, abin, aInt, aUn, aNilCheck, retQ, retQ1, aresults, aresultL, aresult, mkF, undefV, reduceCtorEq, kD, kE, kF, kG, kH, kI, kJ, kK, aExtract, calleeOf, box42, e1, pa0, pa1, aadd, Nat.zero_add, m0, m1, d1, d2]
  exact ⟨by rw [otherM, if_neg c1, if_pos c2], l1⟩
 have d2 : decide (p.2 = v) = false := decide_eq_false c2
 simp only [kS1, bLookup, bMapSet, wantA, isCall, stepOp, evalO, evalL, evalP, evalM, putDst, flat, kA, kB, Nat.reduceLT, ↓reduceIte, kC, Nat.reduceEqDiff, aBuiltin, abinG, guardFree, abin, aInt, aUn, aNilCheck, retQ, retQ1, aresults, aresultL, aresult, mkF, undefV, reduceCtorEq, kD, kE, kF, kG, kH, kI, kJ, kK, aExtract, calleeOf, box42, e1, pa0, pa1, aadd, Nat.zero_add, m0, m1, d1, d2]
 exact ⟨by rw [otherM, if_neg c1, if_neg c2], l1⟩
theorem Rone_any (W0 : Base) (v : Value) (xs : List Int) (a b : Int) (h : AHeap) (hv : RL isI h v xs) (hn : xs.length ≤ 10000) :
  AC Try.prog W0 69 [v, .int .i64 a, .int .i64 b] h fun r h' => GI h' r (xs.map fun x => if x = a then b else x) ∧ Le h h' ∧ Apart h r := by
 refine AC.vc (fn := Try.f69) (c := _) ⟨Try.func69, rfl, by decide⟩ Try.ntmps69 Try.results69 (by simp) fun hwf => ?_
 simp only [argFrame, argFrom, Nat.reduceAdd]
 have lv := fun g => hv.len (P := Try.prog) Try.underlying35 g
 have ap0 : Apart h (.slice none 0 0) := fun b hb => by cases hb
 simp only [kS1, bLookup, bMapSet, wantA, isCall, stepOp, evalO, evalL, evalP, evalM, putDst, flat, kA, kB, Nat.reduceLT, ↓reduceIte, kC, Nat.reduceEqDiff, aBuiltin, abinG, guardFree, abin, aInt, aUn, aNilCheck, retQ, retQ1, aresults, aresultL, aresult, mkF, undefV, reduceCtorEq, kD, kE, kF, kG, kH, kI, kJ, kK, aExtract, calleeOf]
 refine KLoop.intro (fun k fr hq => ∃ (j : Nat) (ov : Value), k = xs.length - j ∧ j ≤ xs.length ∧ fr = mkF [(0, v), (1, .int .i64 a), (2, .int .i64 b), (7, ov), (8, .int .i64 j)] ∧ GI hq ov ((xs.take j).map fun x => if x = a then b else x) ∧ Le h hq ∧ Apart h ov)
  xs.length [(0, v), (1, .int .i64 a), (2, .int .i64 b), (7, .slice none 0 0), (8, .int .i64 (0 : Nat))] (by simp only [hasAll, kS1, bLookup, bMapSet, wantA, isCall, stepOp, evalO, evalL, evalP, evalM, putDst, flat, kA, kB, Nat.reduceLT, ↓reduceIte, kC, Nat.reduceEqDiff, aBuiltin, abinG, guardFree, abin, aInt, aUn, aNilCheck, retQ, retQ1, aresults, aresultL, aresult, mkF, undefV, reduceCtorEq, kD, kE, kF, kG, kH, kI, kJ, kK, aExtract, calleeOf]; simp) ⟨0, _, rfl, Nat.zero_le _, rfl, GI.nil _, Le.refl _, ap0⟩ ?_
 rintro k fr hq hwq ⟨j, ov, rfl, hj, rfl, go, leq, ao⟩
 simp only [kS1, bLookup, bMapSet, wantA, isCall, stepOp, evalO, evalL, evalP, evalM, putDst, flat, kA, kB, Nat.reduceLT, ↓reduceIte, kC, Nat.reduceEqDiff, aBuiltin, abinG, guardFree, abin, aInt, aUn, aNilCheck, retQ, retQ1, aresults, aresultL, aresult, mkF, undefV, reduceCtorEq, kD, kE, kF, kG, kH, kI, kJ, kK, aExtract, calleeOf, lv]
 refine KCond.intro (fun ht => ?_) (fun hf => ?_)
 ·have hlt : j < xs.length := lt_t ht
  clear ht
  have htk : xs.take (j + 1) = xs.take j ++ [xs[j]] := List.take_succ_eq_append_getElem hlt
  have ad := hv.addr (P := Try.prog) Try.underlying35 Try.underlying3 (by kernel_rfl) (k := .i64) j hlt
  have ld := (hv.le Stays.isI leq).loadI (P := Try.prog) Try.underlying3 rfl j hlt
  generalize xs[j] = y at htk ld
  by_cases c : y = a
  ·have d : decide (y = a) = true := decide_eq_true c
   obtain ⟨v', g1, g2, q1, q2, gp2, wg2, lg1, fg, kg⟩ := go.push hwq b (by simp; omega)
   obtain ⟨lx, ax⟩ := fg h leq ao
   simp only [kS1, bLookup, bMapSet, wantA, isCall, stepOp, evalO, evalL, evalP, evalM, putDst, flat, kA, kB, Nat.reduceLT, ↓reduceIte, kC, Nat.reduceEqDiff, aBuiltin, abinG, guardFree, abin, aInt, aUn, aNilCheck, retQ, retQ1, aresults, aresultL, aresult, mkF, undefV, reduceCtorEq, kD, kE, kF, kG, kH, kI, kJ, kK, aExtract, calleeOf, ad, ld, d, q1, q2, awrap_succ j (by omega)]
   exact loop_again (xs.length - (j + 1)) [(0, v), (1, .int .i64 a), (2, .int .i64 b), (7, v'), (8, .int .i64 (j + 1 : Nat))] (by omega) (by simp only [hasAll, kS1, bLookup, bMapSet, wantA, isCall, stepOp, evalO, evalL, evalP, evalM, putDst, flat, kA, kB, Nat.reduceLT, ↓reduceIte, kC, Nat.reduceEqDiff, aBuiltin, abinG, guardFree, abin, aInt, aUn, aNilCheck, retQ, retQ1, aresults, aresultL, aresult, mkF, undefV, reduceCtorEq, kD, kE, kF, kG, kH, kI, kJ, kK, aExtract, calleeOf]; simp) ⟨j + 1, v', rfl, hlt, rfl, by rw [htk, List.map_append]; simpa [c] using gp2, lx, ax⟩
  ·have d : decide (y = a) = false := decide_eq_false c
   obtain ⟨v', g1, g2, q1, q2, gp2, wg2, lg1, fg, kg⟩ := go.push hwq y (by simp; omega)
   obtain ⟨lx, ax⟩ := fg h leq ao
   simp only [kS1, bLookup, bMapSet, wantA, isCall, stepOp, evalO, evalL, evalP, evalM, putDst, flat, kA, kB, Nat.reduceLT, ↓reduceIte, kC, Nat.reduceEqDiff, aBuiltin, abinG, guardFree, abin, aInt, aUn, aNilCheck, retQ, retQ1, aresults, aresultL, aresult, mkF, undefV, reduceCtorEq, kD, kE, kF, kG, kH, kI, kJ, kK, aExtract, calleeOf, ad, ld, d, q1, q2, awrap_succ j (by omega)]
   exact loop_again (xs.length - (j + 1)) [(0, v), (1, .int .i64 a), (2, .int .i64 b), (7, v'), (8, .int .i64 (j + 1 : Nat))] (by omega) (by simp only [hasAll, kS1, bLookup, bMapSet, wantA, isCall, stepOp, evalO, evalL, evalP, evalM, putDst, flat, kA, kB, Nat.reduceLT, ↓reduceIte, kC, Nat.reduceEqDiff, aBuiltin, abinG, guardFree, abin, aInt, aUn, aNilCheck, retQ, retQ1, aresults, aresultL, aresult, mkF, undefV, reduceCtorEq, kD, kE, kF, kG, kH, kI, kJ, kK, aExtract, calleeOf]; simp) ⟨j + 1, v', rfl, hlt, rfl, by rw [htk, List.map_append]; simpa [c] using gp2, lx, ax⟩
 ·have hge : xs.length ≤ j := lt_f hf
  rw [List.take_of_length_le hge] at go
  simp only [kS1, bLookup, bMapSet, wantA, isCall, stepOp, evalO, evalL, evalP, evalM, putDst, flat, kA, kB, Nat.reduceLT, ↓reduceIte, kC, Nat.reduceEqDiff, aBuiltin, abinG, guardFree, abin, aInt, aUn, aNilCheck, retQ, retQ1, aresults, aresultL, aresult, mkF, undefV, reduceCtorEq, kD, kE, kF, kG, kH, kI, kJ, kK, aExtract, calleeOf]
  exact ⟨go, leq, ao⟩
theorem Rfirst_any (W0 : Base) (v : Value) (xs : List Int) (i : Nat) (h : AHeap) (hv : RL isI h v xs) (hn : xs.length ≤ 100000) (hi : i < xs.length) : AC Try.prog W0 70 [v, .int .i64 (i : Int)] h fun r h' => r = .bool (decide (xs[i] ∉ xs.take i)) ∧ h' = h := by
 refine AC.vc (fn := Try.f70) (c := _) ⟨Try.func70, rfl, by decide⟩ Try.ntmps70 Try.results70 (by simp) fun hwf => ?_
 simp only [argFrame, argFrom, Nat.reduceAdd]
 have adi := hv.addr (P := Try.prog) Try.underlying35 Try.underlying3 (by kernel_rfl) (k := .i64) i hi
 have ldi := hv.loadI (P := Try.prog) Try.underlying3 rfl i hi
 generalize xs[i] = x at *
 simp only [kS1, bLookup, bMapSet, wantA, isCall, stepOp, evalO, evalL, evalP, evalM, putDst, flat, kA, kB, Nat.reduceLT, ↓reduceIte, kC, Nat.reduceEqDiff, aBuiltin, abinG, guardFree, abin, aInt, aUn, aNilCheck, retQ, retQ1, aresults, aresultL, aresult, mkF, undefV, reduceCtorEq, kD, kE, kF, kG, kH, kI, kJ, kK, aExtract, calleeOf]
 refine KLoop.intro (fun k fr hq => ∃ j : Nat, k = i - j ∧ j ≤ i ∧ fr = mkF [(0, v), (1, .int .i64 i), (5, .int .i64 j)] ∧ hq = h ∧ x ∉ xs.take j)
  i [(0, v), (1, .int .i64 i), (5, .int .i64 (0 : Nat))] (by simp only [hasAll, kS1, bLookup, bMapSet, wantA, isCall, stepOp, evalO, evalL, evalP, evalM, putDst, flat, kA, kB, Nat.reduceLT, ↓reduceIte, kC, Nat.reduceEqDiff, aBuiltin, abinG, guardFree, abin, aInt, aUn, aNilCheck, retQ, retQ1, aresults, aresultL, aresult, mkF, undefV, reduceCtorEq, kD, kE, kF, kG, kH, kI, kJ, kK, aExtract, calleeOf]; simp) ⟨0, rfl, Nat.zero_le _, rfl, rfl, by simp⟩ ?_
 rintro k fr hq hwq ⟨j, rfl, hj, rfl, rfl, hno⟩
 simp only [kS1, bLookup, bMapSet, wantA, isCall, stepOp, evalO, evalL, evalP, evalM, putDst, flat, kA, kB, Nat.reduceLT, ↓reduceIte, kC, Nat.reduceEqDiff, aBuiltin, abinG, guardFree, abin, aInt, aUn, aNilCheck, retQ, retQ1, aresults, aresultL, aresult, mkF, undefV, reduceCtorEq, kD, kE, kF, kG, kH, kI, kJ, kK, aExtract, calleeOf]
 refine KCond.intro (fun ht => ?_) (fun hf => ?_)
 ·have hlt : j < i := lt_t ht
  clear ht
  have hjl : j < xs.length := by omega
  have htk : xs.take (j + 1) = xs.take j ++ [xs[j]] := List.take_succ_eq_append_getElem hjl
  have ad := hv.addr (P := Try.prog) Try.underlying35 Try.underlying3 (by kernel_rfl) (k := .i64) j hjl
  have ld := hv.loadI (P := Try.prog) Try.underlying3 rfl j hjl
  have hm : xs[j] ∈ xs.take i := by
   rw [List.mem_take_iff_getElem]; exact ⟨j, by omega, rfl⟩
  generalize xs[j] = y at htk ld hm
  simp only [kS1, bLookup, bMapSet, wantA, isCall, stepOp, evalO, evalL, evalP, evalM, putDst, flat, kA, kB, Nat.reduceLT, ↓reduceIte, kC, Nat.reduceEqDiff, aBuiltin, abinG, guardFree, abin, aInt, aUn, aNilCheck, retQ, retQ1, aresults, aresultL, aresult, mkF, undefV, reduceCtorEq, kD, kE, kF, kG, kH, kI, kJ, kK, aExtract, calleeOf]
  refine KDraw.intro mixed (.fl 0 (.fl 1 (.fl 2 (.fl 3 (.fl 4 (.fl 5 (.fl 6 (.fl 7 (.fl 8 (.done)))))))))) (by kernel_rfl) ?_
  by_cases c : y = x
  ·have d : decide (y = x) = true := decide_eq_true c
   simp only [kS1, bLookup, bMapSet, wantA, isCall, stepOp, evalO, evalL, evalP, evalM, putDst, flat, kA, kB, Nat.reduceLT, ↓reduceIte, kC, Nat.reduceEqDiff, aBuiltin, abinG, guardFree, abin, aInt, aUn, aNilCheck, retQ, retQ1, aresults, aresultL, aresult, mkF, undefV, reduceCtorEq, kD, kE, kF, kG, kH, kI, kJ, kK, aExtract, calleeOf, kD1, Nat.reduceBEq, HoldsAll, kL, kM, kN, kO, ad, ld, adi, ldi, d]
   rw [decide_eq_false (fun k => k (c ▸ hm))]
  ·have d : decide (y = x) = false := decide_eq_false c
   simp only [kS1, bLookup, bMapSet, wantA, isCall, stepOp, evalO, evalL, evalP, evalM, putDst, flat, kA, kB, Nat.reduceLT, ↓reduceIte, kC, Nat.reduceEqDiff, aBuiltin, abinG, guardFree, abin, aInt, aUn, aNilCheck, retQ, retQ1, aresults, aresultL, aresult, mkF, undefV, reduceCtorEq, kD, kE, kF, kG, kH, kI, kJ, kK, aExtract, calleeOf, kD1, Nat.reduceBEq, HoldsAll, kL, kM, kN, kO, ad, ld, adi, ldi, d, awrap_succ j (by omega)]
   exact loop_again (i - (j + 1)) [(0, v), (1, .int .i64 i), (5, .int .i64 (j + 1 : Nat))] (by omega) (by simp only [hasAll, kS1, bLookup, bMapSet, wantA, isCall, stepOp, evalO, evalL, evalP, evalM, putDst, flat, kA, kB, Nat.reduceLT, ↓reduceIte, kC, Nat.reduceEqDiff, aBuiltin, abinG, guardFree, abin, aInt, aUn, aNilCheck, retQ, retQ1, aresults, aresultL, aresult, mkF, undefV, reduceCtorEq, kD, kE, kF, kG, kH, kI, kJ, kK, aExtract, calleeOf]; simp) ⟨j + 1, rfl, hlt, rfl, rfl, by
    rw [htk, List.mem_append, List.mem_singleton]
    rintro (h | h)
    ·exact hno h
    ·exact c h.symm⟩
 ·have hge : i ≤ j := lt_f hf
  obtain rfl : i = j := by omega
  simp only [kS1, bLookup, bMapSet, wantA, isCall, stepOp, evalO, evalL, evalP, evalM, putDst, flat, kA, kB, Nat.reduceLT, ↓reduceIte, kC, Nat.reduceEqDiff, aBuiltin, abinG, guardFree, abin, aInt, aUn, aNilCheck, retQ, retQ1, aresults, aresultL, aresult, mkF, undefV, reduceCtorEq, kD, kE, kF, kG, kH, kI, kJ, kK, aExtract, calleeOf]
  exact ⟨by rw [decide_eq_true hno], trivial⟩
end Go.Fw
