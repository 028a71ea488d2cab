/- A text of the proof. -/
import Derived.Test.YtnaahaldkpdjlaaFwLF9
import Derived.Test.YtnaahaldkpdjlaaFwLZ11
import Derived.Test.YtnaahaldkpdjlaaFwLB10
set_option linter.unusedSimpArgs false
set_option linter.unusedVariables false
namespace Go.Fw
open Go.Proofs
attribute [local irreducible] KO4 KO3 KO2 KO1 KO KN KX KE VK KCond KDraw KCall KLoop
set_option maxHeartbeats 16000000
set_option maxRecDepth 10000
attribute [local instance] Classical.propDecidable
theorem right7_any (W0 : Base) (v : Value) (G : GM) (h : AHeap) (hg : GR h v G) : AC Try.prog W0 26 [v] h fun x h' => BoolIs (RightG G ∧ G.n ≤ 30) x ∧ Le h h' := by
 have hg0 := hg
 obtain ⟨gn, es⟩ := G
 obtain ⟨ev, rfl, hp⟩ := hg.open
 refine AC.vc (fn := Try.f26) (c := _) ⟨Try.func26, rfl, by decide⟩ Try.ntmps26 Try.results26 (by simp) fun hwf => ?_
 simp only [argFrame, argFrom, Nat.reduceAdd]
 obtain ⟨h1, b1, le1, wf1, -, lA⟩ := boxG (n := gn) hwf hp
 generalize h.next = B at *
 have lA1 := lA h1 (Le.refl _)
 simp only [kS1, bLookup, bMapSet, wantA, isCall, stepOp, evalO, evalL, evalP, evalM, putDst, flat, kA, kB, Nat.reduceLT, ↓reduceIte, kC, Nat.reduceEqDiff, aBuiltin, abinG, guardFree, abin, aInt, aUn, aNilCheck, retQ, retQ1, aresults, aresultL, aresult, mkF, undefV, reduceCtorEq, kD, kE, kF, kG, kH, kI, kJ, kK, aExtract, calleeOf, b1, lA1.1]
 refine KCall.intro (by simp only [kS1, bLookup, bMapSet, wantA, isCall, stepOp, evalO, evalL, evalP, evalM, putDst, flat, kA, kB, Nat.reduceLT, ↓reduceIte, kC, Nat.reduceEqDiff, aBuiltin, abinG, guardFree, abin, aInt, aUn, aNilCheck, retQ, retQ1, aresults, aresultL, aresult, mkF, undefV, reduceCtorEq, kD, kE, kF, kG, kH, kI, kJ, kK, aExtract, calleeOf] <;> rfl) ⟨Try.func57, rfl, by decide⟩ (Right_any W0 _ _ h1 (hg0.le le1)) ?_
 rintro x h2 wf2 ⟨⟨bb, rfl, hbb⟩, le2⟩
 have lA2 := lA h2 le2
 cases bb with
 | false =>
  simp only [kS1, bLookup, bMapSet, wantA, isCall, stepOp, evalO, evalL, evalP, evalM, putDst, flat, kA, kB, Nat.reduceLT, ↓reduceIte, kC, Nat.reduceEqDiff, aBuiltin, abinG, guardFree, abin, aInt, aUn, aNilCheck, retQ, retQ1, aresults, aresultL, aresult, mkF, undefV, reduceCtorEq, kD, kE, kF, kG, kH, kI, kJ, kK, aExtract, calleeOf]
  exact ⟨BoolIs.f (fun h => by cases hbb.2 h.1), le1.trans le2⟩
 | true =>
  simp only [kS1, bLookup, bMapSet, wantA, isCall, stepOp, evalO, evalL, evalP, evalM, putDst, flat, kA, kB, Nat.reduceLT, ↓reduceIte, kC, Nat.reduceEqDiff, aBuiltin, abinG, guardFree, abin, aInt, aUn, aNilCheck, retQ, retQ1, aresults, aresultL, aresult, mkF, undefV, reduceCtorEq, kD, kE, kF, kG, kH, kI, kJ, kK, aExtract, calleeOf, fg0, aadd, Nat.zero_add, lA2.2.1]
  exact ⟨⟨_, rfl, by simp [hbb.1 rfl]⟩, le1.trans le2⟩
theorem SameLists_any (W0 : Base) (v w : Value) (xs ys : List (List Int)) (h : AHeap) (hv : RL (RL isI) h v xs) (hw : RL (RL isI) h w ys) (hn : xs.length ≤ 100000) (hl : ∀ l ∈ xs, l.length ≤ 100000) :
  AC Try.prog W0 32 [v, w] h fun x h' => x = .bool (decide (xs = ys)) ∧ h' = h := by
 refine AC.vc (fn := Try.f32) (c := _) ⟨Try.func32, rfl, by decide⟩ Try.ntmps32 Try.results32 (by simp) fun hwf => ?_
 simp only [argFrame, argFrom, Nat.reduceAdd]
 have lv := fun g => hv.len (P := Try.prog) Try.underlying32 g
 have lw := fun g => hw.len (P := Try.prog) Try.underlying32 g
 by_cases c0 : xs.length = ys.length
 rotate_left
 ·have d : decide ((xs.length : Int) = (ys.length : Int)) = false := decide_eq_false (by omega)
  have e : decide (xs = ys) = false := decide_eq_false (fun e => c0 (by rw [e]))
  simp only [kS1, bLookup, bMapSet, wantA, isCall, stepOp, evalO, evalL, evalP, evalM, putDst, flat, kA, kB, Nat.reduceLT, ↓reduceIte, kC, Nat.reduceEqDiff, aBuiltin, abinG, guardFree, abin, aInt, aUn, aNilCheck, retQ, retQ1, aresults, aresultL, aresult, mkF, undefV, reduceCtorEq, kD, kE, kF, kG, kH, kI, kJ, kK, aExtract, calleeOf, lv, lw, bne, d, e]
  exact ⟨trivial, trivial⟩
 have d : decide ((xs.length : Int) = (ys.length : Int)) = true := decide_eq_true (by omega)
 simp only [kS1, bLookup, bMapSet, wantA, isCall, stepOp, evalO, evalL, evalP, evalM, putDst, flat, kA, kB, Nat.reduceLT, ↓reduceIte, kC, Nat.reduceEqDiff, aBuiltin, abinG, guardFree, abin, aInt, aUn, aNilCheck, retQ, retQ1, aresults, aresultL, aresult, mkF, undefV, reduceCtorEq, kD, kE, kF, kG, kH, kI, kJ, kK, aExtract, calleeOf, lv, lw, bne, d]
 refine KLoop.intro (fun k fr hq => ∃ i, k = xs.length - i ∧ i ≤ xs.length ∧ fr = mkF [(0, v), (1, w), (5, .int .i64 i)] ∧ hq = h ∧ xs.take i = ys.take i)
  xs.length [(0, v), (1, w), (5, .int .i64 (0 : Nat))] (by simp only [hasAll, kS1, bLookup, bMapSet, wantA, isCall, stepOp, evalO, evalL, evalP, evalM, putDst, flat, kA, kB, Nat.reduceLT, ↓reduceIte, kC, Nat.reduceEqDiff, aBuiltin, abinG, guardFree, abin, aInt, aUn, aNilCheck, retQ, retQ1, aresults, aresultL, aresult, mkF, undefV, reduceCtorEq, kD, kE, kF, kG, kH, kI, kJ, kK, aExtract, calleeOf]; simp) ⟨0, rfl, Nat.zero_le _, rfl, rfl, rfl⟩ ?_
 rintro k fr hq hwq ⟨i, rfl, hi, rfl, rfl, he⟩
 simp only [kS1, bLookup, bMapSet, wantA, isCall, stepOp, evalO, evalL, evalP, evalM, putDst, flat, kA, kB, Nat.reduceLT, ↓reduceIte, kC, Nat.reduceEqDiff, aBuiltin, abinG, guardFree, abin, aInt, aUn, aNilCheck, retQ, retQ1, aresults, aresultL, aresult, mkF, undefV, reduceCtorEq, kD, kE, kF, kG, kH, kI, kJ, kK, aExtract, calleeOf, lv]
 refine KCond.intro (fun ht => ?_) (fun hf => ?_)
 ·have hlt : i < xs.length := lt_t ht
  clear ht
  have hlt2 : i < ys.length := by omega
  have ar := hv.addr (P := Try.prog) Try.underlying32 Try.underlying38 (by kernel_rfl) (k := .i64) i hlt
  obtain ⟨u, lu, hu⟩ := hv.load (P := Try.prog) Try.underlying38 rfl i hlt
  have ar2 := hw.addr (P := Try.prog) Try.underlying32 Try.underlying38 (by kernel_rfl) (k := .i64) i hlt2
  obtain ⟨u2, lu2, hu2⟩ := hw.load (P := Try.prog) Try.underlying38 rfl i hlt2
  have htk : xs.take (i + 1) = xs.take i ++ [xs[i]] := List.take_succ_eq_append_getElem hlt
  have htk2 : ys.take (i + 1) = ys.take i ++ [ys[i]] := List.take_succ_eq_append_getElem hlt2
  simp only [kS1, bLookup, bMapSet, wantA, isCall, stepOp, evalO, evalL, evalP, evalM, putDst, flat, kA, kB, Nat.reduceLT, ↓reduceIte, kC, Nat.reduceEqDiff, aBuiltin, abinG, guardFree, abin, aInt, aUn, aNilCheck, retQ, retQ1, aresults, aresultL, aresult, mkF, undefV, reduceCtorEq, kD, kE, kF, kG, kH, kI, kJ, kK, aExtract, calleeOf]
  refine KDraw.intro mixed (.fl 0 (.fl 1 (.fl 2 (.fl 3 (.fl 4 (.fl 5 (.fl 6 (.fl 7 (.ch 8 [3, 7] (.fl 9 (.done)) .no))))))))) (by kernel_rfl) ?_
  simp only [kS1, bLookup, bMapSet, wantA, isCall, stepOp, evalO, evalL, evalP, evalM, putDst, flat, kA, kB, Nat.reduceLT, ↓reduceIte, kC, Nat.reduceEqDiff, aBuiltin, abinG, guardFree, abin, aInt, aUn, aNilCheck, retQ, retQ1, aresults, aresultL, aresult, mkF, undefV, reduceCtorEq, kD, kE, kF, kG, kH, kI, kJ, kK, aExtract, calleeOf, kD1, Nat.reduceBEq, HoldsAll, kL, kM, kN, kO, ar, lu, ar2, lu2]
  refine KGCall.intro (by simp only [kS1, bLookup, bMapSet, wantA, isCall, stepOp, evalO, evalL, evalP, evalM, putDst, flat, kA, kB, Nat.reduceLT, ↓reduceIte, kC, Nat.reduceEqDiff, aBuiltin, abinG, guardFree, abin, aInt, aUn, aNilCheck, retQ, retQ1, aresults, aresultL, aresult, mkF, undefV, reduceCtorEq, kD, kE, kF, kG, kH, kI, kJ, kK, aExtract, calleeOf] <;> rfl) ⟨Try.func25, rfl, by decide⟩ (SameInts_any W0 u u2 xs[i] ys[i] hq hu hu2 (hl _ (List.getElem_mem hlt))) ?_
  rintro x h2 w2 ⟨rfl, rfl⟩
  have hw := awrap_succ i (by omega)
  by_cases c : xs[i] = ys[i]
  ·simp only [kS1, bLookup, bMapSet, wantA, isCall, stepOp, evalO, evalL, evalP, evalM, putDst, flat, kA, kB, Nat.reduceLT, ↓reduceIte, kC, Nat.reduceEqDiff, aBuiltin, abinG, guardFree, abin, aInt, aUn, aNilCheck, retQ, retQ1, aresults, aresultL, aresult, mkF, undefV, reduceCtorEq, kD, kE, kF, kG, kH, kI, kJ, kK, aExtract, calleeOf, kD1, Nat.reduceBEq, HoldsAll, kL, kM, kN, kO, ar, lu, ar2, lu2, decide_eq_true c, hw]
   exact loop_again (xs.length - (i + 1)) [(0, v), (1, w), (5, .int .i64 (i + 1 : Nat))] (stp hlt) (by simp only [hasAll, kS1, bLookup, bMapSet, wantA, isCall, stepOp, evalO, evalL, evalP, evalM, putDst, flat, kA, kB, Nat.reduceLT, ↓reduceIte, kC, Nat.reduceEqDiff, aBuiltin, abinG, guardFree, abin, aInt, aUn, aNilCheck, retQ, retQ1, aresults, aresultL, aresult, mkF, undefV, reduceCtorEq, kD, kE, kF, kG, kH, kI, kJ, kK, aExtract, calleeOf]; simp) ⟨i + 1, rfl, hlt, rfl, rfl, by rw [htk, htk2, he, c]⟩
  ·have e : decide (xs = ys) = false := decide_eq_false (fun e => c (by subst e; rfl))
   simp only [kS1, bLookup, bMapSet, wantA, isCall, stepOp, evalO, evalL, evalP, evalM, putDst, flat, kA, kB, Nat.reduceLT, ↓reduceIte, kC, Nat.reduceEqDiff, aBuiltin, abinG, guardFree, abin, aInt, aUn, aNilCheck, retQ, retQ1, aresults, aresultL, aresult, mkF, undefV, reduceCtorEq, kD, kE, kF, kG, kH, kI, kJ, kK, aExtract, calleeOf, kD1, Nat.reduceBEq, HoldsAll, kL, kM, kN, kO, ar, lu, ar2, lu2, decide_eq_false c, e]
 ·have hge : xs.length ≤ i := lt_f hf
  rw [List.take_of_length_le hge, List.take_of_length_le (by omega)] at he
  simp only [kS1, bLookup, bMapSet, wantA, isCall, stepOp, evalO, evalL, evalP, evalM, putDst, flat, kA, kB, Nat.reduceLT, ↓reduceIte, kC, Nat.reduceEqDiff, aBuiltin, abinG, guardFree, abin, aInt, aUn, aNilCheck, retQ, retQ1, aresults, aresultL, aresult, mkF, undefV, reduceCtorEq, kD, kE, kF, kG, kH, kI, kJ, kK, aExtract, calleeOf, decide_eq_true he]
  exact ⟨trivial, trivial⟩
theorem IndexI_any (W0 : Base) (v : Value) (xs : List Int) (y : Int) (h : AHeap) (hv : RL isI h v xs) (hn : xs.length ≤ 100000) : AC Try.prog W0 47 [v, .int .i64 y] h fun x h' => ((x = .int .i64 (-1) ∧ y ∉ xs) ∨ ∃ i, ∃ hi : i < xs.length, x = .int .i64 (i : Nat) ∧ xs[i] = y ∧ ∀ j (hj : j < i), xs[j] ≠ y) ∧ h' = h := by
 refine AC.vc (fn := Try.f47) (c := _) ⟨Try.func47, rfl, by decide⟩ Try.ntmps47 Try.results47 (by simp) fun hwf => ?_
 simp only [argFrame, argFrom, Nat.reduceAdd]
 have lv := fun g => hv.len (P := Try.prog) Try.underlying38 g
 simp only [kS1, bLookup, bMapSet, wantA, isCall, stepOp, evalO, evalL, evalP, evalM, putDst, flat, kA, kB, Nat.reduceLT, ↓reduceIte, kC, Nat.reduceEqDiff, aBuiltin, abinG, guardFree, abin, aInt, aUn, aNilCheck, retQ, retQ1, aresults, aresultL, aresult, mkF, undefV, reduceCtorEq, kD, kE, kF, kG, kH, kI, kJ, kK, aExtract, calleeOf, lv]
 refine KLoop.intro (fun k fr hq => ∃ i, k = xs.length - i ∧ i ≤ xs.length ∧ fr = mkF [(0, v), (1, .int .i64 y), (7, .int .i64 xs.length), (8, .int .i64 i)] ∧ hq = h ∧ ∀ j (hj : j < xs.length), j < i → xs[j] ≠ y)
  xs.length [(0, v), (1, .int .i64 y), (7, .int .i64 xs.length), (8, .int .i64 (0 : Nat))] (by simp only [hasAll, kS1, bLookup, bMapSet, wantA, isCall, stepOp, evalO, evalL, evalP, evalM, putDst, flat, kA, kB, Nat.reduceLT, ↓reduceIte, kC, Nat.reduceEqDiff, aBuiltin, abinG, guardFree, abin, aInt, aUn, aNilCheck, retQ, retQ1, aresults, aresultL, aresult, mkF, undefV, reduceCtorEq, kD, kE, kF, kG, kH, kI, kJ, kK, aExtract, calleeOf]; simp) ⟨0, rfl, Nat.zero_le _, rfl, rfl, fun j _ hj => absurd hj (Nat.not_lt_zero _)⟩ ?_
 rintro k fr hq hwq ⟨i, rfl, hi, rfl, rfl, hno⟩
 simp only [kS1, bLookup, bMapSet, wantA, isCall, stepOp, evalO, evalL, evalP, evalM, putDst, flat, kA, kB, Nat.reduceLT, ↓reduceIte, kC, Nat.reduceEqDiff, aBuiltin, abinG, guardFree, abin, aInt, aUn, aNilCheck, retQ, retQ1, aresults, aresultL, aresult, mkF, undefV, reduceCtorEq, kD, kE, kF, kG, kH, kI, kJ, kK, aExtract, calleeOf]
 refine KCond.intro (fun ht => ?_) (fun hf => ?_)
 ·have hlt : i < xs.length := lt_t ht
  clear ht
  have ad := hv.addr (P := Try.prog) Try.underlying38 Try.underlying3 (by kernel_rfl) (k := .i64) i hlt
  have ld := hv.loadI (P := Try.prog) Try.underlying3 rfl i hlt
  have hw := awrap_succ i (by omega)
  by_cases c : y = xs[i]
  ·simp only [kS1, bLookup, bMapSet, wantA, isCall, stepOp, evalO, evalL, evalP, evalM, putDst, flat, kA, kB, Nat.reduceLT, ↓reduceIte, kC, Nat.reduceEqDiff, aBuiltin, abinG, guardFree, abin, aInt, aUn, aNilCheck, retQ, retQ1, aresults, aresultL, aresult, mkF, undefV, reduceCtorEq, kD, kE, kF, kG, kH, kI, kJ, kK, aExtract, calleeOf, ad, ld, decide_eq_true c]
   exact ⟨.inr ⟨i, hlt, rfl, c.symm, fun j hj => hno j (by omega) hj⟩, trivial⟩
  ·simp only [kS1, bLookup, bMapSet, wantA, isCall, stepOp, evalO, evalL, evalP, evalM, putDst, flat, kA, kB, Nat.reduceLT, ↓reduceIte, kC, Nat.reduceEqDiff, aBuiltin, abinG, guardFree, abin, aInt, aUn, aNilCheck, retQ, retQ1, aresults, aresultL, aresult, mkF, undefV, reduceCtorEq, kD, kE, kF, kG, kH, kI, kJ, kK, aExtract, calleeOf, ad, ld, decide_eq_false c, hw]
   refine loop_again (xs.length - (i + 1)) [(0, v), (1, .int .i64 y), (7, .int .i64 xs.length), (8, .int .i64 (i + 1 : Nat))] (stp hlt) (by simp only [hasAll, kS1, bLookup, bMapSet, wantA, isCall, stepOp, evalO, evalL, evalP, evalM, putDst, flat, kA, kB, Nat.reduceLT, ↓reduceIte, kC, Nat.reduceEqDiff, aBuiltin, abinG, guardFree, abin, aInt, aUn, aNilCheck, retQ, retQ1, aresults, aresultL, aresult, mkF, undefV, reduceCtorEq, kD, kE, kF, kG, kH, kI, kJ, kK, aExtract, calleeOf]; simp) ⟨i + 1, rfl, hlt, rfl, rfl, fun j hj hji => ?_⟩
   by_cases e : j = i
   ·subst e; exact fun e => c e.symm
   ·exact hno j hj (lt_ne hji e)
 ·have hge : xs.length ≤ i := lt_f hf
  simp only [kS1, bLookup, bMapSet, wantA, isCall, stepOp, evalO, evalL, evalP, evalM, putDst, flat, kA, kB, Nat.reduceLT, ↓reduceIte, kC, Nat.reduceEqDiff, aBuiltin, abinG, guardFree, abin, aInt, aUn, aNilCheck, retQ, retQ1, aresults, aresultL, aresult, mkF, undefV, reduceCtorEq, kD, kE, kF, kG, kH, kI, kJ, kK, aExtract, calleeOf]
  refine ⟨.inl ⟨trivial, fun hm => ?_⟩, trivial⟩
  obtain ⟨j, hj, e⟩ := List.mem_iff_getElem.1 hm
  exact hno j hj (by omega) e
end Go.Fw
