/- One of the texts of the layer and the walks: it proves what its theorems say of the functions of the seat, with no condition beyond theirs. -/
import Derived.Test.YtmakcgajgepabaaFwW13
set_option linter.unusedSimpArgs false
set_option linter.unusedVariables false
namespace Go.Fw
open Go.Proofs
attribute [local irreducible] KO4 KO3 KO2 KO1 KO KN KX KE VK KCond KDraw KCall KLoop
set_option maxHeartbeats 8000000
set_option maxRecDepth 10000
theorem build42 (x y : Int) : aBuild Try.prog 42 [(0, .int .i64 x), (1, .int .i64 y)] = some (valP (x, y)) := by kernel_rfl
theorem Has_any (W0 : World) (v : Value) (G : GM) (a b : Int) (h : AHeap) (hg : GR h v G) : AC Try.prog W0 22 [v, .int .i64 a, .int .i64 b] h fun x h' => BoolIs (RightG G ∧ (min a b, max a b) ∈ G.es) x ∧ Le h h' := by
  have hg0 := hg
  obtain ⟨gn, es⟩ := G
  obtain ⟨ev, rfl, hp⟩ := hg.open
  refine AC.vc (fn := Try.f22) (c := _) ⟨Try.func22, rfl, by decide⟩ Try.ntmps22 Try.results22 (by simp) fun hwf => ?_
  simp only [argFrame, argFrom, Nat.reduceAdd]
  obtain ⟨h1, b1, le1, wf1, -, lA⟩ := boxG (n := gn) hwf hp
  generalize h.next = B at *
  have lA1 := lA h1 (Le.refl _)
  simp only [kS1, bLookup, bMapSet, wantA, isCall, stepOp, evalO, evalL, evalP, evalM, putDst, flat, kA, kB, Nat.reduceLT, ↓reduceIte, kC, Nat.reduceEqDiff, aBuiltin, abinG, guardFree, abin, aInt, aUn, aNilCheck, retQ, retQ1, aresults, aresultL, aresult, mkF, undefV, reduceCtorEq, kD, kE, kF, kG, kH, kI, kJ, kK, aExtract, calleeOf, b1, lA1.1]
  refine KCall.intro (by simp only [kS1, bLookup, bMapSet, wantA, isCall, stepOp, evalO, evalL, evalP, evalM, putDst, flat, kA, kB, Nat.reduceLT, ↓reduceIte, kC, Nat.reduceEqDiff, aBuiltin, abinG, guardFree, abin, aInt, aUn, aNilCheck, retQ, retQ1, aresults, aresultL, aresult, mkF, undefV, reduceCtorEq, kD, kE, kF, kG, kH, kI, kJ, kK, aExtract, calleeOf] <;> rfl) ⟨Try.func21, rfl, by decide⟩ (Right_any W0 _ _ h1 (hg0.le le1)) ?_
  rintro x h2 wf2 ⟨⟨bb, rfl, hbb⟩, le2⟩
  have lA2 := lA h2 le2
  cases bb with
  | false =>
    simp only [kS1, bLookup, bMapSet, wantA, isCall, stepOp, evalO, evalL, evalP, evalM, putDst, flat, kA, kB, Nat.reduceLT, ↓reduceIte, kC, Nat.reduceEqDiff, aBuiltin, abinG, guardFree, abin, aInt, aUn, aNilCheck, retQ, retQ1, aresults, aresultL, aresult, mkF, undefV, reduceCtorEq, kD, kE, kF, kG, kH, kI, kJ, kK, aExtract, calleeOf]
    exact ⟨BoolIs.f (fun h => by cases hbb.2 h.1), le1.trans le2⟩
  | true =>
    have hr := hbb.1 rfl
    have h594 : es.length ≤ 594 := hr.len
    have mn : aMin (.int .i64 a) [.int .i64 b] = some (.int .i64 (min a b)) := by
      simp only [aMin, if_true]; congr 2; rw [Int.min_def]; split <;> split <;> omega
    have mx : aMax (.int .i64 a) [.int .i64 b] = some (.int .i64 (max a b)) := by
      simp only [aMax, if_true]; congr 2; rw [Int.max_def]; split <;> split <;> omega
    simp only [kS1, bLookup, bMapSet, wantA, isCall, stepOp, evalO, evalL, evalP, evalM, putDst, flat, kA, kB, Nat.reduceLT, ↓reduceIte, kC, Nat.reduceEqDiff, aBuiltin, abinG, guardFree, abin, aInt, aUn, aNilCheck, retQ, retQ1, aresults, aresultL, aresult, mkF, undefV, reduceCtorEq, kD, kE, kF, kG, kH, kI, kJ, kK, aExtract, calleeOf, fg1, aadd, Nat.zero_add, lA2.2.2, mn, mx, build42]
    refine KCall.intro (by simp only [kS1, bLookup, bMapSet, wantA, isCall, stepOp, evalO, evalL, evalP, evalM, putDst, flat, kA, kB, Nat.reduceLT, ↓reduceIte, kC, Nat.reduceEqDiff, aBuiltin, abinG, guardFree, abin, aInt, aUn, aNilCheck, retQ, retQ1, aresults, aresultL, aresult, mkF, undefV, reduceCtorEq, kD, kE, kF, kG, kH, kI, kJ, kK, aExtract, calleeOf] <;> rfl) ⟨Try.func49, rfl, by decide⟩ (Search_any W0 48 Try.f48 _ ⟨Try.func48, rfl, by decide⟩ (fun p q h => compare_any W0 p q h) ev es (min a b, max a b) h2 (hp.le (le1.trans le2)) (by omega) hr.asc) ?_
    rintro x h3 wf3 ⟨⟨at', c, rfl, hbt, hbf⟩, le3⟩
    simp only [kS1, bLookup, bMapSet, wantA, isCall, stepOp, evalO, evalL, evalP, evalM, putDst, flat, kA, kB, Nat.reduceLT, ↓reduceIte, kC, Nat.reduceEqDiff, aBuiltin, abinG, guardFree, abin, aInt, aUn, aNilCheck, retQ, retQ1, aresults, aresultL, aresult, mkF, undefV, reduceCtorEq, kD, kE, kF, kG, kH, kI, kJ, kK, aExtract, calleeOf]
    refine ⟨⟨c, rfl, ?_⟩, (le1.trans le2).trans le3⟩
    cases c with
    | true => exact ⟨fun _ => ⟨hr, List.mem_of_getElem? (hbt rfl)⟩, fun _ => rfl⟩
    | false => exact ⟨(fun h => by cases h), fun h => absurd h.2 (hbf rfl)⟩
theorem Index_any (W0 : World) (wv : Value) (ps : List Pr) (p : Pr) (h : AHeap) (hw : PR h wv ps) (hn : ps.length ≤ 1000000) :
    AC Try.prog W0 50 [wv, valP p] h fun x h' => (∃ i : Int, x = .int .i64 i ∧ (0 ≤ i ↔ p ∈ ps)) ∧ Le h h' := by
  refine AC.vc (fn := Try.f50) (c := _) ⟨Try.func50, rfl, by decide⟩ Try.ntmps50 Try.results50 (by simp) fun hwf => ?_
  simp only [argFrame, argFrom, Nat.reduceAdd]
  have ll := fun g => hw.len g
  obtain ⟨h1, e1, l1, w1, o1⟩ := alloc_f hwf (cellsP p)
  have nE : h.own h.next = none := (Le.refl h).next hwf (Nat.le_refl _)
  simp only [kS1, bLookup, bMapSet, wantA, isCall, stepOp, evalO, evalL, evalP, evalM, putDst, flat, kA, kB, Nat.reduceLT, ↓reduceIte, kC, Nat.reduceEqDiff, aBuiltin, abinG, guardFree, abin, aInt, aUn, aNilCheck, retQ, retQ1, aresults, aresultL, aresult, mkF, undefV, reduceCtorEq, kD, kE, kF, kG, kH, kI, kJ, kK, aExtract, calleeOf, box42, e1, ll]
  generalize h.next = E at *
  refine KLoop.intro (fun k fr hq => ∃ i : Nat, k = ps.length - i ∧ i ≤ ps.length ∧ fr = mkF [(0, wv), (3, .pointer (some ⟨E, 0, none⟩)), (7, .int .i64 ps.length), (8, .int .i64 i)] ∧ hq = h1 ∧ p ∉ ps.take i)
    ps.length [(0, wv), (3, .pointer (some ⟨E, 0, none⟩)), (7, .int .i64 ps.length), (8, .int .i64 (0 : Nat))] (by simp only [hasAll, kS1, bLookup, bMapSet, wantA, isCall, stepOp, evalO, evalL, evalP, evalM, putDst, flat, kA, kB, Nat.reduceLT, ↓reduceIte, kC, Nat.reduceEqDiff, aBuiltin, abinG, guardFree, abin, aInt, aUn, aNilCheck, retQ, retQ1, aresults, aresultL, aresult, mkF, undefV, reduceCtorEq, kD, kE, kF, kG, kH, kI, kJ, kK, aExtract, calleeOf]; simp) ⟨0, rfl, Nat.zero_le _, rfl, rfl, by simp⟩ ?_
  rintro k fr hq hwq ⟨i, rfl, hi, rfl, rfl, hno⟩
  simp only [kS1, bLookup, bMapSet, wantA, isCall, stepOp, evalO, evalL, evalP, evalM, putDst, flat, kA, kB, Nat.reduceLT, ↓reduceIte, kC, Nat.reduceEqDiff, aBuiltin, abinG, guardFree, abin, aInt, aUn, aNilCheck, retQ, retQ1, aresults, aresultL, aresult, mkF, undefV, reduceCtorEq, kD, kE, kF, kG, kH, kI, kJ, kK, aExtract, calleeOf]
  refine KCond.intro (fun ht => ?_) (fun hf => ?_)
  rotate_left
  · have hge : ps.length ≤ i := lt_f hf
    rw [List.take_of_length_le hge] at hno
    simp only [kS1, bLookup, bMapSet, wantA, isCall, stepOp, evalO, evalL, evalP, evalM, putDst, flat, kA, kB, Nat.reduceLT, ↓reduceIte, kC, Nat.reduceEqDiff, aBuiltin, abinG, guardFree, abin, aInt, aUn, aNilCheck, retQ, retQ1, aresults, aresultL, aresult, mkF, undefV, reduceCtorEq, kD, kE, kF, kG, kH, kI, kJ, kK, aExtract, calleeOf]
    exact ⟨⟨-1, rfl, by simp [hno]⟩, l1⟩
  have hlt : i < ps.length := lt_t ht
  clear ht
  have hpi := getElem?_of hlt
  have htk : ps.take (i + 1) = ps.take i ++ [ps[i]] := List.take_succ_eq_append_getElem hlt
  generalize ps[i] = q at hpi htk
  have ad := hw.addr (k := .i64) i hlt
  have ld := (hw.le l1).load hpi
  have lE := own42 o1
  simp only [kS1, bLookup, bMapSet, wantA, isCall, stepOp, evalO, evalL, evalP, evalM, putDst, flat, kA, kB, Nat.reduceLT, ↓reduceIte, kC, Nat.reduceEqDiff, aBuiltin, abinG, guardFree, abin, aInt, aUn, aNilCheck, retQ, retQ1, aresults, aresultL, aresult, mkF, undefV, reduceCtorEq, kD, kE, kF, kG, kH, kI, kJ, kK, aExtract, calleeOf]
  refine KDraw.intro mixed (.fl 0 (.fl 1 (.fl 2 (.fl 3 (.fl 4 (.fl 5 (.done))))))) (by kernel_rfl) ?_
  have hv := (abinP p q).1
  by_cases c : p = q
  · have hd : decide (p = q) = true := by simpa using c
    rw [hd] at hv
    simp only [kS1, bLookup, bMapSet, wantA, isCall, stepOp, evalO, evalL, evalP, evalM, putDst, flat, kA, kB, Nat.reduceLT, ↓reduceIte, kC, Nat.reduceEqDiff, aBuiltin, abinG, guardFree, abin, aInt, aUn, aNilCheck, retQ, retQ1, aresults, aresultL, aresult, mkF, undefV, reduceCtorEq, kD, kE, kF, kG, kH, kI, kJ, kK, aExtract, calleeOf, kD1, Nat.reduceBEq, HoldsAll, kL, kM, kN, kO, ad, ld, lE, hv, -abinG]
    exact ⟨⟨i, rfl, by subst c; simp [List.mem_of_getElem? hpi]⟩, l1⟩
  · have hd : decide (p = q) = false := by simpa using c
    rw [hd] at hv
    simp only [kS1, bLookup, bMapSet, wantA, isCall, stepOp, evalO, evalL, evalP, evalM, putDst, flat, kA, kB, Nat.reduceLT, ↓reduceIte, kC, Nat.reduceEqDiff, aBuiltin, abinG, guardFree, abin, aInt, aUn, aNilCheck, retQ, retQ1, aresults, aresultL, aresult, mkF, undefV, reduceCtorEq, kD, kE, kF, kG, kH, kI, kJ, kK, aExtract, calleeOf, kD1, Nat.reduceBEq, HoldsAll, kL, kM, kN, kO, ad, ld, lE, hv, -abinG, awrap_succ i (by omega)]
    refine loop_again (ps.length - (i + 1)) [(0, wv), (3, .pointer (some ⟨E, 0, none⟩)), (7, .int .i64 ps.length), (8, .int .i64 (i + 1 : Nat))] (by omega) (by simp only [hasAll, kS1, bLookup, bMapSet, wantA, isCall, stepOp, evalO, evalL, evalP, evalM, putDst, flat, kA, kB, Nat.reduceLT, ↓reduceIte, kC, Nat.reduceEqDiff, aBuiltin, abinG, guardFree, abin, aInt, aUn, aNilCheck, retQ, retQ1, aresults, aresultL, aresult, mkF, undefV, reduceCtorEq, kD, kE, kF, kG, kH, kI, kJ, kK, aExtract, calleeOf]; simp) ⟨i + 1, rfl, hlt, rfl, rfl, ?_⟩
    rw [htk]; simp [hno, c]
theorem Contains_any (W0 : World) (wv : Value) (ps : List Pr) (p : Pr) (h : AHeap) (hw : PR h wv ps) (hn : ps.length ≤ 1000000) :
    AC Try.prog W0 23 [wv, valP p] h fun x h' => x = .bool (decide (p ∈ ps)) ∧ Le h h' := by
  refine AC.vc (fn := Try.f23) (c := _) ⟨Try.func23, rfl, by decide⟩ Try.ntmps23 Try.results23 (by simp) fun hwf => ?_
  simp only [argFrame, argFrom, Nat.reduceAdd]
  obtain ⟨h1, e1, l1, w1, o1⟩ := alloc_f hwf (cellsP p)
  have lE := own42 o1
  simp only [kS1, bLookup, bMapSet, wantA, isCall, stepOp, evalO, evalL, evalP, evalM, putDst, flat, kA, kB, Nat.reduceLT, ↓reduceIte, kC, Nat.reduceEqDiff, aBuiltin, abinG, guardFree, abin, aInt, aUn, aNilCheck, retQ, retQ1, aresults, aresultL, aresult, mkF, undefV, reduceCtorEq, kD, kE, kF, kG, kH, kI, kJ, kK, aExtract, calleeOf, box42, e1, lE]
  refine KCall.intro (by simp only [kS1, bLookup, bMapSet, wantA, isCall, stepOp, evalO, evalL, evalP, evalM, putDst, flat, kA, kB, Nat.reduceLT, ↓reduceIte, kC, Nat.reduceEqDiff, aBuiltin, abinG, guardFree, abin, aInt, aUn, aNilCheck, retQ, retQ1, aresults, aresultL, aresult, mkF, undefV, reduceCtorEq, kD, kE, kF, kG, kH, kI, kJ, kK, aExtract, calleeOf] <;> rfl) ⟨Try.func50, rfl, by decide⟩ (Index_any W0 wv ps p h1 (hw.le l1) hn) ?_
  rintro x h2 wf2 ⟨⟨i, rfl, hi⟩, le2⟩
  have : decide (i ≥ 0) = decide (p ∈ ps) := by simp only [decide_eq_decide]; exact hi
  simp only [kS1, bLookup, bMapSet, wantA, isCall, stepOp, evalO, evalL, evalP, evalM, putDst, flat, kA, kB, Nat.reduceLT, ↓reduceIte, kC, Nat.reduceEqDiff, aBuiltin, abinG, guardFree, abin, aInt, aUn, aNilCheck, retQ, retQ1, aresults, aresultL, aresult, mkF, undefV, reduceCtorEq, kD, kE, kF, kG, kH, kI, kJ, kK, aExtract, calleeOf, this]
  exact ⟨trivial, l1.trans le2⟩
end Go.Fw
