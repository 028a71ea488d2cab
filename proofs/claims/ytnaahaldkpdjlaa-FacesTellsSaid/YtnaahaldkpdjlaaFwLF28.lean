/- A text of the proof. -/
import Derived.Test.YtnaahaldkpdjlaaFwLF14
import Derived.Test.YtnaahaldkpdjlaaFwLW1
import Derived.Test.YtnaahaldkpdjlaaFwLB11
import Derived.Test.YtnaahaldkpdjlaaFwLB3
import Derived.Test.YtnaahaldkpdjlaaFwFrame
set_option linter.unusedSimpArgs false
set_option linter.unusedVariables false
namespace Go.Fw
open Go.Proofs
attribute [local irreducible] KO4 KO3 KO2 KO1 KO KN KX KE VK KCond KDraw KCall KLoop
set_option maxHeartbeats 16000000
set_option maxRecDepth 10000
attribute [local instance] Classical.propDecidable
theorem Mirror_any (W0 : Base) (v : Value) (rs : List (List Int)) (h : AHeap) (hv : RL (RL isI) h v rs) (hn : rs.length ≤ 1000) (hl : ∀ l ∈ rs, l.length ≤ 100000) :
  AC Try.prog W0 42 [v] h fun x h' => RL (RL isI) h' x (rs.map List.reverse) ∧ Le h h' := by
 refine AC.vc (fn := Try.f42) (c := _) ⟨Try.func42, rfl, by decide⟩ Try.ntmps42 Try.results42 (by simp) fun hwf => ?_
 simp only [argFrame, argFrom, Nat.reduceAdd]
 have lr := fun g => hv.len (P := Try.prog) Try.underlying52 g
 have mk := aMakeSlice1 (P := Try.prog) (t := 52) (z := .slice none 0 0) h Try.underlying52 rfl rfl rfl rfl (by kernel_rfl) Try.underlying38 (by kernel_rfl) rs.length (by omega)
 obtain ⟨h1, e1, l1, w1, o1⟩ := alloc_f hwf (List.replicate rs.length (.slice none 0 0))
 rw [e1] at mk
 have nL : h.own h.next = none := (Le.refl h).next hwf (Nat.le_refl _)
 generalize h.next = L at *
 simp only [kS1, bLookup, bMapSet, wantA, isCall, stepOp, evalO, evalL, evalP, evalM, putDst, flat, kA, kB, Nat.reduceLT, ↓reduceIte, kC, Nat.reduceEqDiff, aBuiltin, abinG, guardFree, abin, aInt, aUn, aNilCheck, retQ, retQ1, aresults, aresultL, aresult, mkF, undefV, reduceCtorEq, kD, kE, kF, kG, kH, kI, kJ, kK, aExtract, calleeOf, lr, mk]
 refine KLoop.intro (fun k fr hq => ∃ (i : Nat) (us : List Value), k = rs.length - i ∧ i ≤ rs.length ∧ fr = mkF [(3, .slice (some ⟨L, 0, none⟩) rs.length rs.length), (9, v), (10, .int .i64 rs.length), (11, .int .i64 i)] ∧
   hq.own L = some (.cells us) ∧ us.length = rs.length ∧ Le h hq ∧ ∀ (j : Nat) u r, j < i → us[j]? = some u → rs[j]? = some r → RL isI (rem [L] hq) u r.reverse)
  rs.length [(3, .slice (some ⟨L, 0, none⟩) rs.length rs.length), (9, v), (10, .int .i64 rs.length), (11, .int .i64 (0 : Nat))] (by simp only [hasAll, kS1, bLookup, bMapSet, wantA, isCall, stepOp, evalO, evalL, evalP, evalM, putDst, flat, kA, kB, Nat.reduceLT, ↓reduceIte, kC, Nat.reduceEqDiff, aBuiltin, abinG, guardFree, abin, aInt, aUn, aNilCheck, retQ, retQ1, aresults, aresultL, aresult, mkF, undefV, reduceCtorEq, kD, kE, kF, kG, kH, kI, kJ, kK, aExtract, calleeOf]; simp)
  ⟨0, _, rfl, Nat.zero_le _, rfl, o1, by simp, l1, fun j u r hj => absurd hj (Nat.not_lt_zero _)⟩ ?_
 rintro k fr hq hwq ⟨i, us, rfl, hi, rfl, oL, ul, lq, hr⟩
 simp only [kS1, bLookup, bMapSet, wantA, isCall, stepOp, evalO, evalL, evalP, evalM, putDst, flat, kA, kB, Nat.reduceLT, ↓reduceIte, kC, Nat.reduceEqDiff, aBuiltin, abinG, guardFree, abin, aInt, aUn, aNilCheck, retQ, retQ1, aresults, aresultL, aresult, mkF, undefV, reduceCtorEq, kD, kE, kF, kG, kH, kI, kJ, kK, aExtract, calleeOf]
 refine KCond.intro (fun ht => ?_) (fun hf => ?_)
 rotate_left
 ·have hge : rs.length ≤ i := lt_f hf
  obtain rfl : i = rs.length := by omega
  simp only [kS1, bLookup, bMapSet, wantA, isCall, stepOp, evalO, evalL, evalP, evalM, putDst, flat, kA, kB, Nat.reduceLT, ↓reduceIte, kC, Nat.reduceEqDiff, aBuiltin, abinG, guardFree, abin, aInt, aUn, aNilCheck, retQ, retQ1, aresults, aresultL, aresult, mkF, undefV, reduceCtorEq, kD, kE, kF, kG, kH, kI, kJ, kK, aExtract, calleeOf]
  refine ⟨⟨us, RS.whole oL ul, by rw [List.length_map, ul], fun j x u hx hu => ?_⟩, lq⟩
  rw [List.getElem?_map] at hx
  cases e : rs[j]? with
  | none => rw [e] at hx; cases hx
  | some r =>
   rw [e] at hx; injection hx with hx; subst hx
   exact (hr j u r (List.getElem?_eq_some_iff.1 e).1 hu e).le Stays.isI (rem_le _ _)
 have hlt : i < rs.length := lt_t ht
 clear ht
 have hli := hl _ (List.getElem_mem hlt)
 have hri := getElem?_of hlt
 have ar := hv.addr (P := Try.prog) Try.underlying52 Try.underlying38 (by kernel_rfl) (k := .i64) i hlt
 obtain ⟨u, lu', hu⟩ := hv.load' (P := Try.prog) Try.underlying38 rfl i hlt
 have lu := lu' hq lq
 generalize rs[i] = r at *
 simp only [kS1, bLookup, bMapSet, wantA, isCall, stepOp, evalO, evalL, evalP, evalM, putDst, flat, kA, kB, Nat.reduceLT, ↓reduceIte, kC, Nat.reduceEqDiff, aBuiltin, abinG, guardFree, abin, aInt, aUn, aNilCheck, retQ, retQ1, aresults, aresultL, aresult, mkF, undefV, reduceCtorEq, kD, kE, kF, kG, kH, kI, kJ, kK, aExtract, calleeOf, ar, lu]
 refine KCall.intro (by simp only [kS1, bLookup, bMapSet, wantA, isCall, stepOp, evalO, evalL, evalP, evalM, putDst, flat, kA, kB, Nat.reduceLT, ↓reduceIte, kC, Nat.reduceEqDiff, aBuiltin, abinG, guardFree, abin, aInt, aUn, aNilCheck, retQ, retQ1, aresults, aresultL, aresult, mkF, undefV, reduceCtorEq, kD, kE, kF, kG, kH, kI, kJ, kK, aExtract, calleeOf] <;> rfl) ⟨Try.func82, rfl, by decide⟩ (CloneI_any W0 u r hq (hu.le Stays.isI lq) hli) ?_
 rintro cv h3 w3 ⟨gc, l3, ac⟩
 have oL3 := l3.own _ _ oL
 have ix : aIndexAddr Try.prog 52 (.slice (some ⟨L, 0, none⟩) rs.length rs.length) (.int .i64 (i : Int)) = some (.pointer (some ⟨L, i, none⟩)) := by rw [aIdx Try.underlying52 Try.underlying38 (by kernel_rfl) i hlt]; simp [aadd]
 have st := aStore1 (P := Try.prog) (t := 38) (x := cv) Try.underlying38 (by kernel_rfl) oL3 (off := i) (by omega) (by obtain ⟨_, _, rfl, _⟩ := gc.rl.sl; rfl) gc.rl.one
 have cL : blk cv ≠ some L := fun e => by have := ac _ e; rw [oL] at this; cases this
 have g4 := GS.put gc (.cells (us.set i cv)) cL
 have o4 := AHeap.own_put_eq h3 L (.cells (us.set i cv))
 have F0 : Le (rem [L] hq) (h3.put L (.cells (us.set i cv))) := ((rem_le _ _).trans l3).put _ (by rw [rem_own, if_pos (by simp)])
 have lq4 : Le h (h3.put L (.cells (us.set i cv))) := (lq.trans l3).put _ nL
 have w4 : WF (h3.put L (.cells (us.set i cv))) := w3.put _ (w3.lt oL3)
 generalize h3.put L (.cells (us.set i cv)) = h4 at *
 have ld : aload Try.prog h4 38 ⟨L, i, none⟩ = some cv := by rw [aload_one Try.underlying38 rfl o4, List.getElem?_set_self (by omega)]
 simp only [kS1, bLookup, bMapSet, wantA, isCall, stepOp, evalO, evalL, evalP, evalM, putDst, flat, kA, kB, Nat.reduceLT, ↓reduceIte, kC, Nat.reduceEqDiff, aBuiltin, abinG, guardFree, abin, aInt, aUn, aNilCheck, retQ, retQ1, aresults, aresultL, aresult, mkF, undefV, reduceCtorEq, kD, kE, kF, kG, kH, kI, kJ, kK, aExtract, calleeOf, ar, lu, ix, st, ld]
 refine KCall.intro (by simp only [kS1, bLookup, bMapSet, wantA, isCall, stepOp, evalO, evalL, evalP, evalM, putDst, flat, kA, kB, Nat.reduceLT, ↓reduceIte, kC, Nat.reduceEqDiff, aBuiltin, abinG, guardFree, abin, aInt, aUn, aNilCheck, retQ, retQ1, aresults, aresultL, aresult, mkF, undefV, reduceCtorEq, kD, kE, kF, kG, kH, kI, kJ, kK, aExtract, calleeOf] <;> rfl) ⟨Try.func83, rfl, by decide⟩ (ReverseI_any W0 cv r h4 g4 hli) ?_
 rintro x h5 w5 ⟨g5, f5, k5⟩
 have aq : Apart (rem [L] hq) cv := fun b hb => (rem_le [L] hq).none (ac b hb)
 have l5 := f5 _ F0 aq
 have lh5 := f5 _ lq4 fun b hb => lq.none (ac b hb)
 have o5 := k5 _ _ o4 cL
 have hwi := awrap_succ i (by omega)
 simp only [kS1, bLookup, bMapSet, wantA, isCall, stepOp, evalO, evalL, evalP, evalM, putDst, flat, kA, kB, Nat.reduceLT, ↓reduceIte, kC, Nat.reduceEqDiff, aBuiltin, abinG, guardFree, abin, aInt, aUn, aNilCheck, retQ, retQ1, aresults, aresultL, aresult, mkF, undefV, reduceCtorEq, kD, kE, kF, kG, kH, kI, kJ, kK, aExtract, calleeOf, hwi]
 refine loop_again (rs.length - (i + 1)) [(3, .slice (some ⟨L, 0, none⟩) rs.length rs.length), (9, v), (10, .int .i64 rs.length), (11, .int .i64 (i + 1 : Nat))] (stp hlt) (by simp only [hasAll, kS1, bLookup, bMapSet, wantA, isCall, stepOp, evalO, evalL, evalP, evalM, putDst, flat, kA, kB, Nat.reduceLT, ↓reduceIte, kC, Nat.reduceEqDiff, aBuiltin, abinG, guardFree, abin, aInt, aUn, aNilCheck, retQ, retQ1, aresults, aresultL, aresult, mkF, undefV, reduceCtorEq, kD, kE, kF, kG, kH, kI, kJ, kK, aExtract, calleeOf]; simp)
  ⟨i + 1, _, rfl, hlt, rfl, o5, by simp [ul], lh5, fun j u' r' hj hu' hr' => ?_⟩
 have l5r : Le (rem [L] hq) (rem [L] h5) := l5.of_none fun b hb => by rw [List.mem_singleton] at hb; subst hb; rw [rem_own, if_pos (by simp)]
 by_cases c : i = j
 ·subst c
  rw [List.getElem?_set_self (by omega)] at hu'
  injection hu' with hu'; subst hu'
  rw [hri] at hr'; injection hr' with hr'; subst hr'
  exact RL.ofI (GS.cs (GS.to_rem g5 fun b hb => by rw [List.mem_singleton]; rintro rfl; exact cL hb)).rs
 ·rw [List.getElem?_set_ne c] at hu'
  exact (hr j u' r' (by omega) hu' hr').le Stays.isI l5r
end Go.Fw
namespace Go.Fw
open Go.Proofs
attribute [local irreducible] KO4 KO3 KO2 KO1 KO KN KX KE VK KCond KDraw KCall KLoop
set_option maxHeartbeats 16000000
set_option maxRecDepth 10000
theorem stq {a j : Nat} (h : j < a) : a - (j + 1) < a - j := by omega
def Once (xs : List Int) (y : Int) (i : Nat) : Prop := xs[i]? = some y ∧ ∀ j : Nat, xs[j]? = some y → j = i
theorem place_any (W0 : Base) (v : Value) (xs : List Int) (y : Int) (h : AHeap) (hv : RL isI h v xs) (hn : xs.length ≤ 100000) : AC Try.prog W0 77 [v, .int .i64 y] h fun x h' => ((∃ i : Nat, i < xs.length ∧ Once xs y i ∧ x = .int .i64 i) ∨ (x = .int .i64 (-1) ∧ ∀ i, ¬ Once xs y i)) ∧ h' = h := by
 refine AC.vc (fn := Try.f77) (c := _) ⟨Try.func77, rfl, by decide⟩ Try.ntmps77 Try.results77 (by simp) fun hwf => ?_
 simp only [argFrame, argFrom, Nat.reduceAdd]
 have lv := fun g => hv.len (P := Try.prog) Try.underlying38 g
 simp only [kS1, bLookup, bMapSet, wantA, isCall, stepOp, evalO, evalL, evalP, evalM, putDst, flat, kA, kB, Nat.reduceLT, ↓reduceIte, kC, Nat.reduceEqDiff, aBuiltin, abinG, guardFree, abin, aInt, aUn, aNilCheck, retQ, retQ1, aresults, aresultL, aresult, mkF, undefV, reduceCtorEq, kD, kE, kF, kG, kH, kI, kJ, kK, aExtract, calleeOf]
 refine KLoop.intro (fun k fr hq => ∃ (i : Nat) (a : Int), k = xs.length - i ∧ i ≤ xs.length ∧ fr = mkF [(0, v), (1, .int .i64 y), (5, .int .i64 a), (6, .int .i64 i)] ∧ hq = h ∧ ((a = -1 ∧ ∀ j : Nat, j < i → xs[j]? ≠ some y) ∨ ∃ k : Nat, a = (k : Int) ∧ k < i ∧ xs[k]? = some y ∧ ∀ j : Nat, j < i → xs[j]? = some y → j = k))
  xs.length [(0, v), (1, .int .i64 y), (5, .int .i64 (-1)), (6, .int .i64 (0 : Nat))] (by simp only [hasAll, kS1, bLookup, bMapSet, wantA, isCall, stepOp, evalO, evalL, evalP, evalM, putDst, flat, kA, kB, Nat.reduceLT, ↓reduceIte, kC, Nat.reduceEqDiff, aBuiltin, abinG, guardFree, abin, aInt, aUn, aNilCheck, retQ, retQ1, aresults, aresultL, aresult, mkF, undefV, reduceCtorEq, kD, kE, kF, kG, kH, kI, kJ, kK, aExtract, calleeOf]; simp) ⟨0, -1, rfl, Nat.zero_le _, rfl, rfl, .inl ⟨rfl, fun j hj => absurd hj (Nat.not_lt_zero j)⟩⟩ ?_
 rintro k fr hq hwq ⟨i, a, rfl, hi, rfl, rfl, ha⟩
 simp only [kS1, bLookup, bMapSet, wantA, isCall, stepOp, evalO, evalL, evalP, evalM, putDst, flat, kA, kB, Nat.reduceLT, ↓reduceIte, kC, Nat.reduceEqDiff, aBuiltin, abinG, guardFree, abin, aInt, aUn, aNilCheck, retQ, retQ1, aresults, aresultL, aresult, mkF, undefV, reduceCtorEq, kD, kE, kF, kG, kH, kI, kJ, kK, aExtract, calleeOf, lv]
 refine KCond.intro (fun ht => ?_) (fun hf => ?_)
 ·have hlt : i < xs.length := lt_t ht
  clear ht
  have ad := hv.addr (P := Try.prog) Try.underlying38 Try.underlying3 (by kernel_rfl) (k := .i64) i hlt
  have ld := hv.loadI (P := Try.prog) Try.underlying3 rfl i hlt
  have hx := List.getElem?_eq_getElem hlt
  have hwi := awrap_succ i (by omega)
  generalize xs[i] = z at hx ld
  by_cases c : z = y
  ·have d : decide (z = y) = true := decide_eq_true c
   rw [c] at hx
   rcases ha with ⟨rfl, hno⟩ | ⟨k, rfl, hk, hk1, hk2⟩
   ·have d2 : decide ((-1 : Int) ≥ 0) = false := by decide
    simp only [kS1, bLookup, bMapSet, wantA, isCall, stepOp, evalO, evalL, evalP, evalM, putDst, flat, kA, kB, Nat.reduceLT, ↓reduceIte, kC, Nat.reduceEqDiff, aBuiltin, abinG, guardFree, abin, aInt, aUn, aNilCheck, retQ, retQ1, aresults, aresultL, aresult, mkF, undefV, reduceCtorEq, kD, kE, kF, kG, kH, kI, kJ, kK, aExtract, calleeOf, lv, ad, ld, d, d2, hwi]
    refine loop_again (xs.length - (i + 1)) [(0, v), (1, .int .i64 y), (5, .int .i64 i), (6, .int .i64 (i + 1 : Nat))] (stq hlt) (by simp only [hasAll, kS1, bLookup, bMapSet, wantA, isCall, stepOp, evalO, evalL, evalP, evalM, putDst, flat, kA, kB, Nat.reduceLT, ↓reduceIte, kC, Nat.reduceEqDiff, aBuiltin, abinG, guardFree, abin, aInt, aUn, aNilCheck, retQ, retQ1, aresults, aresultL, aresult, mkF, undefV, reduceCtorEq, kD, kE, kF, kG, kH, kI, kJ, kK, aExtract, calleeOf]; simp) ⟨i + 1, i, rfl, hlt, rfl, rfl, .inr ⟨i, rfl, Nat.lt_succ_self i, hx, fun j hj he => ?_⟩⟩
    by_cases e : j = i
    ·exact e
    ·exact absurd he (hno j (by omega))
   ·have d2 : decide ((k : Int) ≥ 0) = true := decide_eq_true (by omega)
    simp only [kS1, bLookup, bMapSet, wantA, isCall, stepOp, evalO, evalL, evalP, evalM, putDst, flat, kA, kB, Nat.reduceLT, ↓reduceIte, kC, Nat.reduceEqDiff, aBuiltin, abinG, guardFree, abin, aInt, aUn, aNilCheck, retQ, retQ1, aresults, aresultL, aresult, mkF, undefV, reduceCtorEq, kD, kE, kF, kG, kH, kI, kJ, kK, aExtract, calleeOf, lv, ad, ld, d, d2]
    refine ⟨.inr ⟨trivial, fun q hq => ?_⟩, trivial⟩
    have e1 := hq.2 i hx
    have e2 := hq.2 k hk1
    omega
  ·have d : decide (z = y) = false := decide_eq_false c
   simp only [kS1, bLookup, bMapSet, wantA, isCall, stepOp, evalO, evalL, evalP, evalM, putDst, flat, kA, kB, Nat.reduceLT, ↓reduceIte, kC, Nat.reduceEqDiff, aBuiltin, abinG, guardFree, abin, aInt, aUn, aNilCheck, retQ, retQ1, aresults, aresultL, aresult, mkF, undefV, reduceCtorEq, kD, kE, kF, kG, kH, kI, kJ, kK, aExtract, calleeOf, lv, ad, ld, d, hwi]
   refine loop_again (xs.length - (i + 1)) [(0, v), (1, .int .i64 y), (5, .int .i64 a), (6, .int .i64 (i + 1 : Nat))] (stq hlt) (by simp only [hasAll, kS1, bLookup, bMapSet, wantA, isCall, stepOp, evalO, evalL, evalP, evalM, putDst, flat, kA, kB, Nat.reduceLT, ↓reduceIte, kC, Nat.reduceEqDiff, aBuiltin, abinG, guardFree, abin, aInt, aUn, aNilCheck, retQ, retQ1, aresults, aresultL, aresult, mkF, undefV, reduceCtorEq, kD, kE, kF, kG, kH, kI, kJ, kK, aExtract, calleeOf]; simp) ⟨i + 1, a, rfl, hlt, rfl, rfl, ?_⟩
   have hne : xs[i]? ≠ some y := by rw [hx]; simpa using c
   rcases ha with ⟨rfl, hno⟩ | ⟨k, rfl, hk, hk1, hk2⟩
   ·refine .inl ⟨rfl, fun j hj => ?_⟩
    by_cases e : j = i
    ·subst e; exact hne
    ·exact hno j (by omega)
   ·refine .inr ⟨k, rfl, by omega, hk1, fun j hj he => ?_⟩
    by_cases e : j = i
    ·subst e; exact absurd he hne
    ·exact hk2 j (by omega) he
 ·have hge : xs.length ≤ i := lt_f hf
  simp only [kS1, bLookup, bMapSet, wantA, isCall, stepOp, evalO, evalL, evalP, evalM, putDst, flat, kA, kB, Nat.reduceLT, ↓reduceIte, kC, Nat.reduceEqDiff, aBuiltin, abinG, guardFree, abin, aInt, aUn, aNilCheck, retQ, retQ1, aresults, aresultL, aresult, mkF, undefV, reduceCtorEq, kD, kE, kF, kG, kH, kI, kJ, kK, aExtract, calleeOf]
  refine ⟨?_, trivial⟩
  have hin : ∀ j : Nat, xs[j]? = some y → j < i := fun j hj => by have := (List.getElem?_eq_some_iff.1 hj).1; omega
  rcases ha with ⟨rfl, hno⟩ | ⟨k, rfl, hk, hk1, hk2⟩
  ·exact .inr ⟨rfl, fun q hq => hno q (hin q hq.1) hq.1⟩
  ·exact .inl ⟨k, by omega, ⟨hk1, fun j hj => hk2 j (hin j hj) hj⟩, rfl⟩
end Go.Fw
namespace Go.Fw
open Go.Proofs
attribute [local irreducible] KO4 KO3 KO2 KO1 KO KN KX KE VK KCond KDraw KCall KLoop
set_option maxHeartbeats 16000000
set_option maxRecDepth 10000
theorem RBehind_any (W0 : Base) (v : Value) (rs : List (List Int)) (a : Int) (w i : Nat) (h : AHeap) (hv : RL (RL isI) h v rs) (hw : w < rs.length) (hn : rs[w].length ≤ 100000) (ho : Once rs[w] a i) :
  AC Try.prog W0 112 [v, .int .i64 a, .int .i64 w] h fun x h' => (∃ hm : (i + 1) % rs[w].length < rs[w].length, x = .int .i64 (rs[w][(i + 1) % rs[w].length])) ∧ h' = h := by
 refine AC.vc (fn := Try.f112) (c := _) ⟨Try.func112, rfl, by decide⟩ Try.ntmps112 Try.results112 (by simp) fun hwf => ?_
 simp only [argFrame, argFrom, Nat.reduceAdd]
 have ar := hv.addr (P := Try.prog) Try.underlying52 Try.underlying38 (by kernel_rfl) (k := .i64) w hw
 obtain ⟨u, lu, hu⟩ := hv.load (P := Try.prog) Try.underlying38 rfl w hw
 generalize rs[w] = r at *
 have lr := fun g => hu.len (P := Try.prog) Try.underlying38 g
 simp only [kS1, bLookup, bMapSet, wantA, isCall, stepOp, evalO, evalL, evalP, evalM, putDst, flat, kA, kB, Nat.reduceLT, ↓reduceIte, kC, Nat.reduceEqDiff, aBuiltin, abinG, guardFree, abin, aInt, aUn, aNilCheck, retQ, retQ1, aresults, aresultL, aresult, mkF, undefV, reduceCtorEq, kD, kE, kF, kG, kH, kI, kJ, kK, aExtract, calleeOf, ar, lu]
 refine KCall.intro (by simp only [kS1, bLookup, bMapSet, wantA, isCall, stepOp, evalO, evalL, evalP, evalM, putDst, flat, kA, kB, Nat.reduceLT, ↓reduceIte, kC, Nat.reduceEqDiff, aBuiltin, abinG, guardFree, abin, aInt, aUn, aNilCheck, retQ, retQ1, aresults, aresultL, aresult, mkF, undefV, reduceCtorEq, kD, kE, kF, kG, kH, kI, kJ, kK, aExtract, calleeOf] <;> rfl) ⟨Try.func77, rfl, by decide⟩ (place_any W0 u r a h hu hn) ?_
 rintro x h1 w1 ⟨⟨k, hk, hko, rfl⟩ | ⟨rfl, hno⟩, rfl⟩
 rotate_left
 ·exact absurd ho (hno i)
 obtain rfl := ho.2 k hko.1
 have hwk := awrap_succ k (by omega)
 by_cases c : k + 1 = r.length
 ·have d : decide ((((k + 1 : Nat) : Int)) = (r.length : Int)) = true := decide_eq_true (by omega)
  have hm : (k + 1) % r.length < r.length := Nat.mod_lt _ (by omega)
  have e : (k + 1) % r.length = 0 := by rw [c, Nat.mod_self]
  have ad := hu.addr (P := Try.prog) Try.underlying38 Try.underlying3 (by kernel_rfl) (k := .i64) 0 (by omega)
  have ld := hu.loadI (P := Try.prog) Try.underlying3 rfl 0 (by omega)
  simp only [Int.cast_ofNat_Int] at ad
  simp only [kS1, bLookup, bMapSet, wantA, isCall, stepOp, evalO, evalL, evalP, evalM, putDst, flat, kA, kB, Nat.reduceLT, ↓reduceIte, kC, Nat.reduceEqDiff, aBuiltin, abinG, guardFree, abin, aInt, aUn, aNilCheck, retQ, retQ1, aresults, aresultL, aresult, mkF, undefV, reduceCtorEq, kD, kE, kF, kG, kH, kI, kJ, kK, aExtract, calleeOf, hwk, ar, lu, lr, d, ad, ld]
  exact ⟨⟨hm, by simp only [e]⟩, trivial⟩
 ·have d : decide ((((k + 1 : Nat) : Int)) = (r.length : Int)) = false := decide_eq_false (by omega)
  have hm : (k + 1) % r.length < r.length := Nat.mod_lt _ (by omega)
  have e : (k + 1) % r.length = k + 1 := Nat.mod_eq_of_lt (by omega)
  have ad := hu.addr (P := Try.prog) Try.underlying38 Try.underlying3 (by kernel_rfl) (k := .i64) (k + 1) (by omega)
  have ld := hu.loadI (P := Try.prog) Try.underlying3 rfl (k + 1) (by omega)
  simp only [kS1, bLookup, bMapSet, wantA, isCall, stepOp, evalO, evalL, evalP, evalM, putDst, flat, kA, kB, Nat.reduceLT, ↓reduceIte, kC, Nat.reduceEqDiff, aBuiltin, abinG, guardFree, abin, aInt, aUn, aNilCheck, retQ, retQ1, aresults, aresultL, aresult, mkF, undefV, reduceCtorEq, kD, kE, kF, kG, kH, kI, kJ, kK, aExtract, calleeOf, hwk, ar, lu, lr, d, ad, ld]
  exact ⟨⟨hm, by simp only [e]⟩, trivial⟩
theorem rev_snoc {xs : List Int} {j : Nat} (hj : j < xs.length) : (xs.drop (j + 1)).reverse ++ [xs[j]] = (xs.drop j).reverse := by
 rw [List.drop_eq_getElem_cons hj, List.reverse_cons]
theorem mkR0 {h : AHeap} {u : Value} {n : Nat} (hs : isSl u n) : aBuildSlice Try.prog h 52 1 [(0, u)] = some (.slice (some ⟨h.next, 0, none⟩) 1 1, h.alloc (.cells [u])) := by
 obtain ⟨a, c, rfl, _⟩ := hs; kernel_rfl
theorem RMirror_any (W0 : Base) (v : Value) (rs : List (List Int)) (h : AHeap) (hv : RL (RL isI) h v rs) (hn : rs.length ≤ 100000) (hl : ∀ l ∈ rs, l.length ≤ 100000) : AC Try.prog W0 43 [v] h fun x h' => RL (RL isI) h' x (rs.map List.reverse) ∧ Le h h' := by
 refine AC.vc (fn := Try.f43) (c := _) ⟨Try.func43, rfl, by decide⟩ Try.ntmps43 Try.results43 (by simp) fun hwf => ?_
 simp only [argFrame, argFrom, Nat.reduceAdd]
 have lr := fun g => hv.len (P := Try.prog) Try.underlying52 g
 simp only [kS1, bLookup, bMapSet, wantA, isCall, stepOp, evalO, evalL, evalP, evalM, putDst, flat, kA, kB, Nat.reduceLT, ↓reduceIte, kC, Nat.reduceEqDiff, aBuiltin, abinG, guardFree, abin, aInt, aUn, aNilCheck, retQ, retQ1, aresults, aresultL, aresult, mkF, undefV, reduceCtorEq, kD, kE, kF, kG, kH, kI, kJ, kK, aExtract, calleeOf]
 refine KLoop.intro (fun k fr hq => ∃ (i : Nat) (ov : Value), k = rs.length - i ∧ i ≤ rs.length ∧ fr = mkF [(0, v), (3, ov), (4, .int .i64 i)] ∧ GRL (RL isI) hq ov ((rs.take i).map List.reverse) ∧ Le h hq ∧ Apart h ov)
  rs.length [(0, v), (3, .slice none 0 0), (4, .int .i64 (0 : Nat))] (by simp only [hasAll, kS1, bLookup, bMapSet, wantA, isCall, stepOp, evalO, evalL, evalP, evalM, putDst, flat, kA, kB, Nat.reduceLT, ↓reduceIte, kC, Nat.reduceEqDiff, aBuiltin, abinG, guardFree, abin, aInt, aUn, aNilCheck, retQ, retQ1, aresults, aresultL, aresult, mkF, undefV, reduceCtorEq, kD, kE, kF, kG, kH, kI, kJ, kK, aExtract, calleeOf]; simp) ⟨0, _, rfl, Nat.zero_le _, rfl, GRL.nil _ _, Le.refl _, fun b hb => by simp [blk] at hb⟩ ?_
 rintro k fr hq hwq ⟨i, ov, rfl, hi, rfl, go, lq, ao⟩
 simp only [kS1, bLookup, bMapSet, wantA, isCall, stepOp, evalO, evalL, evalP, evalM, putDst, flat, kA, kB, Nat.reduceLT, ↓reduceIte, kC, Nat.reduceEqDiff, aBuiltin, abinG, guardFree, abin, aInt, aUn, aNilCheck, retQ, retQ1, aresults, aresultL, aresult, mkF, undefV, reduceCtorEq, kD, kE, kF, kG, kH, kI, kJ, kK, aExtract, calleeOf, lr]
 refine KCond.intro (fun ht => ?_) (fun hf => ?_)
 rotate_left
 ·have hge : rs.length ≤ i := lt_f hf
  rw [List.take_of_length_le hge] at go
  simp only [kS1, bLookup, bMapSet, wantA, isCall, stepOp, evalO, evalL, evalP, evalM, putDst, flat, kA, kB, Nat.reduceLT, ↓reduceIte, kC, Nat.reduceEqDiff, aBuiltin, abinG, guardFree, abin, aInt, aUn, aNilCheck, retQ, retQ1, aresults, aresultL, aresult, mkF, undefV, reduceCtorEq, kD, kE, kF, kG, kH, kI, kJ, kK, aExtract, calleeOf]
  exact ⟨go.rl (Stays.RL Stays.isI), lq⟩
 have hlt : i < rs.length := lt_t ht
 clear ht
 have ar := hv.addr (P := Try.prog) Try.underlying52 Try.underlying38 (by kernel_rfl) (k := .i64) i hlt
 obtain ⟨u, lu', hu⟩ := hv.load' (P := Try.prog) Try.underlying38 rfl i hlt
 have lu := lu' hq lq
 have htk : (rs.take (i + 1)).map List.reverse = (rs.take i).map List.reverse ++ [(rs[i]).reverse] := by rw [List.take_succ_eq_append_getElem hlt, List.map_append]; rfl
 have hll := hl _ (List.getElem_mem hlt)
 generalize rs[i] = r at *
 have ll := fun g => hu.len (P := Try.prog) Try.underlying38 g
 have w0 : awrap .i64 ((r.length : Int) - 1) = (r.length : Int) - 1 - ((0 : Nat) : Int) := by rw [awrap_i64 _ (by omega) (by omega)]; omega
 simp only [kS1, bLookup, bMapSet, wantA, isCall, stepOp, evalO, evalL, evalP, evalM, putDst, flat, kA, kB, Nat.reduceLT, ↓reduceIte, kC, Nat.reduceEqDiff, aBuiltin, abinG, guardFree, abin, aInt, aUn, aNilCheck, retQ, retQ1, aresults, aresultL, aresult, mkF, undefV, reduceCtorEq, kD, kE, kF, kG, kH, kI, kJ, kK, aExtract, calleeOf, ar, lu, ll, w0]
 refine KLoop.intro (fun k fr hz => ∃ (j : Nat) (cv : Value), k = j ∧ j ≤ r.length ∧ fr = mkF [(0, v), (3, ov), (4, .int .i64 i), (5, cv), (6, .int .i64 ((j : Int) - 1))] ∧ GI hz cv (r.drop j).reverse ∧ Le hq hz ∧ Apart hq cv)
  r.length [(0, v), (3, ov), (4, .int .i64 i), (5, .slice none 0 0), (6, .int .i64 ((r.length : Int) - 1 - ((0 : Nat) : Int)))] (by simp only [hasAll, kS1, bLookup, bMapSet, wantA, isCall, stepOp, evalO, evalL, evalP, evalM, putDst, flat, kA, kB, Nat.reduceLT, ↓reduceIte, kC, Nat.reduceEqDiff, aBuiltin, abinG, guardFree, abin, aInt, aUn, aNilCheck, retQ, retQ1, aresults, aresultL, aresult, mkF, undefV, reduceCtorEq, kD, kE, kF, kG, kH, kI, kJ, kK, aExtract, calleeOf]; simp)
  ⟨r.length, .slice none 0 0, rfl, Nat.le_refl _, by rw [Int.ofNat_zero, Int.sub_zero], by rw [List.drop_length]; exact GI.nil _, Le.refl _, fun b hb => by simp [blk] at hb⟩ ?_
 rintro k fr hz hwz ⟨j, cv, rfl, hj, rfl, gc, lz, ac⟩
 cases k with
 | succ j =>
  have d : decide ((((j + 1 : Nat) : Int)) - 1 ≥ 0) = true := decide_eq_true (by omega)
  have ej : (((j + 1 : Nat) : Int)) - 1 = (j : Int) := by omega
  have ad := hu.addr (P := Try.prog) Try.underlying38 Try.underlying3 (by kernel_rfl) (k := .i64) j (by omega)
  have ld := (hu.le Stays.isI (lq.trans lz)).loadI (P := Try.prog) Try.underlying3 rfl j (by omega)
  have luz := lu' hz (lq.trans lz)
  obtain ⟨cv', h4, h5, e4, e5, g5, w5, l4, f5, k5⟩ := gc.push hwz r[j] (by rw [List.length_reverse, List.length_drop]; omega)
  obtain ⟨l5, a5⟩ := f5 _ lz ac
  rw [rev_snoc (by omega)] at g5
  have hw : awrap .i64 ((j : Int) - 1) = (j : Int) - 1 := awrap_i64 _ (by omega) (by omega)
  simp only [kS1, bLookup, bMapSet, wantA, isCall, stepOp, evalO, evalL, evalP, evalM, putDst, flat, kA, kB, Nat.reduceLT, ↓reduceIte, kC, Nat.reduceEqDiff, aBuiltin, abinG, guardFree, abin, aInt, aUn, aNilCheck, retQ, retQ1, aresults, aresultL, aresult, mkF, undefV, reduceCtorEq, kD, kE, kF, kG, kH, kI, kJ, kK, aExtract, calleeOf, d]
  simp only [ej, kS1, bLookup, bMapSet, wantA, isCall, stepOp, evalO, evalL, evalP, evalM, putDst, flat, kA, kB, Nat.reduceLT, ↓reduceIte, kC, Nat.reduceEqDiff, aBuiltin, abinG, guardFree, abin, aInt, aUn, aNilCheck, retQ, retQ1, aresults, aresultL, aresult, mkF, undefV, reduceCtorEq, kD, kE, kF, kG, kH, kI, kJ, kK, aExtract, calleeOf, ar, luz, ad, ld, e4, e5, hw]
  exact loop_again j [(0, v), (3, ov), (4, .int .i64 i), (5, cv'), (6, .int .i64 ((j : Int) - 1))] (by omega) (by simp only [hasAll, kS1, bLookup, bMapSet, wantA, isCall, stepOp, evalO, evalL, evalP, evalM, putDst, flat, kA, kB, Nat.reduceLT, ↓reduceIte, kC, Nat.reduceEqDiff, aBuiltin, abinG, guardFree, abin, aInt, aUn, aNilCheck, retQ, retQ1, aresults, aresultL, aresult, mkF, undefV, reduceCtorEq, kD, kE, kF, kG, kH, kI, kJ, kK, aExtract, calleeOf]; simp) ⟨j, cv', rfl, by omega, rfl, g5, l5, a5⟩
 | zero =>
  have d : decide ((((0 : Nat) : Int)) - 1 ≥ 0) = false := by decide
  rw [List.drop_zero] at gc
  simp only [kS1, bLookup, bMapSet, wantA, isCall, stepOp, evalO, evalL, evalP, evalM, putDst, flat, kA, kB, Nat.reduceLT, ↓reduceIte, kC, Nat.reduceEqDiff, aBuiltin, abinG, guardFree, abin, aInt, aUn, aNilCheck, retQ, retQ1, aresults, aresultL, aresult, mkF, undefV, reduceCtorEq, kD, kE, kF, kG, kH, kI, kJ, kK, aExtract, calleeOf, d]
  have go2 := go.le (Stays.RL Stays.isI) lz
  have hcb : ∀ b, blk cv = some b → b ∉ bl ov := fun b hb hm => by
   obtain ⟨us, g1, _⟩ := go
   exact GS.blk_own g1 (mem_bl.1 hm) (ac b hb)
  have gu : RL isI (rem (bl ov) hz) cv r.reverse := GI.rl (GS.to_rem gc hcb)
  obtain ⟨h4, pv', h5, e4, e5, gp, l5, w5, f5, k5⟩ := GRL.push (P := Try.prog) (t := 52) (Stays.RL Stays.isI) (by kernel_rfl) go2 hwz gu gu.sl.one (by rw [List.length_map, List.length_take]; omega)
  obtain ⟨l6, a6⟩ := f5 h (lq.trans lz) ao
  have hw := awrap_succ i (by omega)
  have bs : aBuildSlice Try.prog hz 52 1 [(0, cv)] = some (.slice (some ⟨hz.next, 0, none⟩) 1 1, h4) := by rw [mkR0 gu.sl, e4]
  simp only [kS1, bLookup, bMapSet, wantA, isCall, stepOp, evalO, evalL, evalP, evalM, putDst, flat, kA, kB, Nat.reduceLT, ↓reduceIte, kC, Nat.reduceEqDiff, aBuiltin, abinG, guardFree, abin, aInt, aUn, aNilCheck, retQ, retQ1, aresults, aresultL, aresult, mkF, undefV, reduceCtorEq, kD, kE, kF, kG, kH, kI, kJ, kK, aExtract, calleeOf, bs, e5, hw]
  exact loop_again (rs.length - (i + 1)) [(0, v), (3, pv'), (4, .int .i64 (i + 1 : Nat))] (stq hlt) (by simp only [hasAll, kS1, bLookup, bMapSet, wantA, isCall, stepOp, evalO, evalL, evalP, evalM, putDst, flat, kA, kB, Nat.reduceLT, ↓reduceIte, kC, Nat.reduceEqDiff, aBuiltin, abinG, guardFree, abin, aInt, aUn, aNilCheck, retQ, retQ1, aresults, aresultL, aresult, mkF, undefV, reduceCtorEq, kD, kE, kF, kG, kH, kI, kJ, kK, aExtract, calleeOf]; simp) ⟨i + 1, pv', rfl, hlt, rfl, by rw [htk]; exact gp, l6, a6⟩
end Go.Fw
