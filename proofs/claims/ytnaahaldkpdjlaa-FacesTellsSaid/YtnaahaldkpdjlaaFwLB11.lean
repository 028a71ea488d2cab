/- A text of the proof. -/
import Derived.Test.YtnaahaldkpdjlaaFwLB8
import Derived.Test.YtnaahaldkpdjlaaFwRep3
set_option linter.unusedSimpArgs false
set_option linter.unusedVariables false
namespace Go.Fw
open Go.Proofs
attribute [local irreducible] KO4 KO3 KO2 KO1 KO KN KX KE VK KCond KDraw KCall KLoop
set_option maxHeartbeats 4000000
set_option maxRecDepth 10000
def meetB (a b : Pr) (web : List Pr) : Bool := (endB b a.1 && !onE web a.1) || (endB b a.2 && !onE web a.2)
theorem SamePairs_any (W0 : Base) (v w : Value) (ps qs : List Pr) (h : AHeap) (hv : PR h v ps) (hw : PR h w qs) (hn : ps.length ≤ 100000) : AC Try.prog W0 24 [v, w] h fun x h' => x = .bool (decide (ps = qs)) ∧ h' = h := by
 refine AC.vc (fn := Try.f24) (c := _) ⟨Try.func24, rfl, by decide⟩ Try.ntmps24 Try.results24 (by simp) fun hwf => ?_
 simp only [argFrame, argFrom, Nat.reduceAdd]
 have lv := fun g => hv.len g
 have lw := fun g => hw.len g
 by_cases c : (ps.length : Int) = (qs.length : Int)
 rotate_left
 ·simp only [kS1, bLookup, bMapSet, wantA, isCall, stepOp, evalO, evalL, evalP, evalM, putDst, flat, kA, kB, Nat.reduceLT, ↓reduceIte, kC, Nat.reduceEqDiff, aBuiltin, abinG, guardFree, abin, aInt, aUn, aNilCheck, retQ, retQ1, aresults, aresultL, aresult, mkF, undefV, reduceCtorEq, kD, kE, kF, kG, kH, kI, kJ, kK, aExtract, calleeOf, lv, lw, bne, eq_false c]
  exact ⟨by rw [decide_eq_false (fun e => c (by rw [e]))], trivial⟩
 have c' : ps.length = qs.length := by omega
 simp only [kS1, bLookup, bMapSet, wantA, isCall, stepOp, evalO, evalL, evalP, evalM, putDst, flat, kA, kB, Nat.reduceLT, ↓reduceIte, kC, Nat.reduceEqDiff, aBuiltin, abinG, guardFree, abin, aInt, aUn, aNilCheck, retQ, retQ1, aresults, aresultL, aresult, mkF, undefV, reduceCtorEq, kD, kE, kF, kG, kH, kI, kJ, kK, aExtract, calleeOf, lv, lw, bne, eq_true c]
 refine KLoop.intro (fun k fr hh => ∃ i : Nat, k = ps.length - i ∧ i ≤ ps.length ∧ hh = h ∧ fr = mkF [(0, v), (1, w), (5, .int .i64 i)] ∧ ps.take i = qs.take i)
  ps.length [(0, v), (1, w), (5, .int .i64 (0 : Nat))] (by simp only [hasAll, kS1, bLookup, bMapSet, wantA, isCall, stepOp, evalO, evalL, evalP, evalM, putDst, flat, kA, kB, Nat.reduceLT, ↓reduceIte, kC, Nat.reduceEqDiff, aBuiltin, abinG, guardFree, abin, aInt, aUn, aNilCheck, retQ, retQ1, aresults, aresultL, aresult, mkF, undefV, reduceCtorEq, kD, kE, kF, kG, kH, kI, kJ, kK, aExtract, calleeOf]; simp) ⟨0, rfl, Nat.zero_le _, rfl, rfl, rfl⟩ ?_
 rintro k fr hh - ⟨i, rfl, hi, rfl, rfl, he⟩
 simp only [kS1, bLookup, bMapSet, wantA, isCall, stepOp, evalO, evalL, evalP, evalM, putDst, flat, kA, kB, Nat.reduceLT, ↓reduceIte, kC, Nat.reduceEqDiff, aBuiltin, abinG, guardFree, abin, aInt, aUn, aNilCheck, retQ, retQ1, aresults, aresultL, aresult, mkF, undefV, reduceCtorEq, kD, kE, kF, kG, kH, kI, kJ, kK, aExtract, calleeOf, lv]
 refine KCond.intro (fun ht => ?_) (fun hf => ?_)
 ·have hlt : i < ps.length := lt_t ht
  have hpi := getElem?_of hlt
  have hqi := getElem?_of (show i < qs.length by omega)
  have t1 : ps.take (i + 1) = ps.take i ++ [ps[i]] := List.take_succ_eq_append_getElem hlt
  have t2 : qs.take (i + 1) = qs.take i ++ [qs[i]'(by omega)] := List.take_succ_eq_append_getElem (by omega)
  generalize ps[i] = p at hpi t1
  generalize qs[i]'(by omega) = q at hqi t2
  have ad := hv.addr (k := .i64) i hlt
  have ld := hv.load hpi
  have ad2 := hw.addr (k := .i64) i (by omega)
  have ld2 := hw.load hqi
  have hab := (abinP p q).2
  simp only [kS1, bLookup, bMapSet, wantA, isCall, stepOp, evalO, evalL, evalP, evalM, putDst, flat, kA, kB, Nat.reduceLT, ↓reduceIte, kC, Nat.reduceEqDiff, aBuiltin, abinG, guardFree, abin, aInt, aUn, aNilCheck, retQ, retQ1, aresults, aresultL, aresult, mkF, undefV, reduceCtorEq, kD, kE, kF, kG, kH, kI, kJ, kK, aExtract, calleeOf]
  refine KDraw.intro mixed (.fl 0 (.fl 1 (.fl 2 (.fl 3 (.fl 4 (.fl 5 (.fl 6 (.fl 7 (.fl 8 (.done)))))))))) (by kernel_rfl) ?_
  cases hb : decide (p = q) with
  | true =>
   rw [hb] at hab
   have e := of_decide_eq_true hb
   simp only [kS1, bLookup, bMapSet, wantA, isCall, stepOp, evalO, evalL, evalP, evalM, putDst, flat, kA, kB, Nat.reduceLT, ↓reduceIte, kC, Nat.reduceEqDiff, aBuiltin, abinG, guardFree, abin, aInt, aUn, aNilCheck, retQ, retQ1, aresults, aresultL, aresult, mkF, undefV, reduceCtorEq, kD, kE, kF, kG, kH, kI, kJ, kK, aExtract, calleeOf, kD1, Nat.reduceBEq, HoldsAll, kL, kM, kN, kO, ad, ld, ad2, ld2, hab, -abinG, awrap_succ i (by omega)]
   exact loop_again (ps.length - (i + 1)) [(0, v), (1, w), (5, .int .i64 (i + 1 : Nat))] (by omega) (by simp only [hasAll, kS1, bLookup, bMapSet, wantA, isCall, stepOp, evalO, evalL, evalP, evalM, putDst, flat, kA, kB, Nat.reduceLT, ↓reduceIte, kC, Nat.reduceEqDiff, aBuiltin, abinG, guardFree, abin, aInt, aUn, aNilCheck, retQ, retQ1, aresults, aresultL, aresult, mkF, undefV, reduceCtorEq, kD, kE, kF, kG, kH, kI, kJ, kK, aExtract, calleeOf]; simp) ⟨i + 1, rfl, hlt, rfl, rfl, by rw [t1, t2, he, e]⟩
  | false =>
   rw [hb] at hab
   have e := of_decide_eq_false hb
   simp only [kS1, bLookup, bMapSet, wantA, isCall, stepOp, evalO, evalL, evalP, evalM, putDst, flat, kA, kB, Nat.reduceLT, ↓reduceIte, kC, Nat.reduceEqDiff, aBuiltin, abinG, guardFree, abin, aInt, aUn, aNilCheck, retQ, retQ1, aresults, aresultL, aresult, mkF, undefV, reduceCtorEq, kD, kE, kF, kG, kH, kI, kJ, kK, aExtract, calleeOf, kD1, Nat.reduceBEq, HoldsAll, kL, kM, kN, kO, ad, ld, ad2, ld2, hab, -abinG]
   exact by rw [decide_eq_false (fun e' => e (by subst e'; rw [hpi] at hqi; injection hqi))]
 ·have hge : ps.length ≤ i := lt_f hf
  rw [List.take_of_length_le hge, List.take_of_length_le (by omega)] at he
  simp only [kS1, bLookup, bMapSet, wantA, isCall, stepOp, evalO, evalL, evalP, evalM, putDst, flat, kA, kB, Nat.reduceLT, ↓reduceIte, kC, Nat.reduceEqDiff, aBuiltin, abinG, guardFree, abin, aInt, aUn, aNilCheck, retQ, retQ1, aresults, aresultL, aresult, mkF, undefV, reduceCtorEq, kD, kE, kF, kG, kH, kI, kJ, kK, aExtract, calleeOf]
  exact ⟨by rw [decide_eq_true he], trivial⟩
theorem SameInts_any (W0 : Base) (v w : Value) (xs ys : List Int) (h : AHeap) (hv : RL isI h v xs) (hw : RL isI h w ys) (hn : xs.length ≤ 100000) : AC Try.prog W0 25 [v, w] h fun x h' => x = .bool (decide (xs = ys)) ∧ h' = h := by
 refine AC.vc (fn := Try.f25) (c := _) ⟨Try.func25, rfl, by decide⟩ Try.ntmps25 Try.results25 (by simp) fun hwf => ?_
 simp only [argFrame, argFrom, Nat.reduceAdd]
 have lv := fun g => hv.len (P := Try.prog) Try.underlying38 g
 have lw := fun g => hw.len (P := Try.prog) Try.underlying38 g
 simp only [kS1, bLookup, bMapSet, wantA, isCall, stepOp, evalO, evalL, evalP, evalM, putDst, flat, kA, kB, Nat.reduceLT, ↓reduceIte, kC, Nat.reduceEqDiff, aBuiltin, abinG, guardFree, abin, aInt, aUn, aNilCheck, retQ, retQ1, aresults, aresultL, aresult, mkF, undefV, reduceCtorEq, kD, kE, kF, kG, kH, kI, kJ, kK, aExtract, calleeOf]
 refine KLoop.intro (fun k fr hh => ∃ i : Nat, k = xs.length - i ∧ i ≤ xs.length ∧ i ≤ ys.length ∧ hh = h ∧ fr = mkF [(0, v), (1, w), (5, .int .i64 i)] ∧ xs.take i = ys.take i)
  xs.length [(0, v), (1, w), (5, .int .i64 (0 : Nat))] (by simp only [hasAll, kS1, bLookup, bMapSet, wantA, isCall, stepOp, evalO, evalL, evalP, evalM, putDst, flat, kA, kB, Nat.reduceLT, ↓reduceIte, kC, Nat.reduceEqDiff, aBuiltin, abinG, guardFree, abin, aInt, aUn, aNilCheck, retQ, retQ1, aresults, aresultL, aresult, mkF, undefV, reduceCtorEq, kD, kE, kF, kG, kH, kI, kJ, kK, aExtract, calleeOf]; simp) ⟨0, rfl, Nat.zero_le _, Nat.zero_le _, rfl, rfl, rfl⟩ ?_
 rintro k fr hh - ⟨i, rfl, hi, hi2, rfl, rfl, he⟩
 have stop : ∀ b : Bool, (b = true ↔ xs.length = i ∧ ys.length = i) → (i < xs.length → i < ys.length → False ∨ xs[i]? ≠ ys[i]?) → b = decide (xs = ys) := fun b hb hne => by
  by_cases e : xs = ys
  ·rw [decide_eq_true e]
   rw [hb]
   subst e
   by_cases c : i < xs.length
   ·rcases hne c c with h | h
    ·exact h.elim
    ·exact absurd rfl h
   ·omega
  ·rw [decide_eq_false e]
   cases b with
   | false => rfl
   | true =>
    obtain ⟨h1, h2⟩ := hb.1 rfl
    rw [List.take_of_length_le (by omega), List.take_of_length_le (by omega)] at he
    exact absurd he e
 by_cases c1 : i < xs.length
 ·have z1 : ((i : Int) < (xs.length : Int)) = True := eq_true (by omega)
  have y1 : ((i : Int) = (xs.length : Int)) = False := eq_false (by omega)
  by_cases c2 : i < ys.length
  ·have z2 : ((i : Int) < (ys.length : Int)) = True := eq_true (by omega)
   have y2 : ((i : Int) = (ys.length : Int)) = False := eq_false (by omega)
   have ad := hv.addr (P := Try.prog) Try.underlying38 Try.underlying3 (by kernel_rfl) (k := .i64) i c1
   have ld := hv.loadI (P := Try.prog) Try.underlying3 rfl i c1
   have ad2 := hw.addr (P := Try.prog) Try.underlying38 Try.underlying3 (by kernel_rfl) (k := .i64) i c2
   have ld2 := hw.loadI (P := Try.prog) Try.underlying3 rfl i c2
   by_cases c3 : xs[i] = ys[i]
   ·simp only [kS1, bLookup, bMapSet, wantA, isCall, stepOp, evalO, evalL, evalP, evalM, putDst, flat, kA, kB, Nat.reduceLT, ↓reduceIte, kC, Nat.reduceEqDiff, aBuiltin, abinG, guardFree, abin, aInt, aUn, aNilCheck, retQ, retQ1, aresults, aresultL, aresult, mkF, undefV, reduceCtorEq, kD, kE, kF, kG, kH, kI, kJ, kK, aExtract, calleeOf]
    refine KDraw.intro mixed (.fl 0 (.fl 1 (.fl 2 (.fl 3 (.fl 4 (.fl 5 (.fl 6 (.fl 7 (.fl 8 (.fl 9 (.fl 10 (.fl 11 (.fl 12 (.fl 13 (.fl 14 (.fl 15 (.fl 16 (.fl 17 (.fl 18 (.fl 19 (.fl 20 (.done)))))))))))))))))))))) (by kernel_rfl) ?_
    simp only [kS1, bLookup, bMapSet, wantA, isCall, stepOp, evalO, evalL, evalP, evalM, putDst, flat, kA, kB, Nat.reduceLT, ↓reduceIte, kC, Nat.reduceEqDiff, aBuiltin, abinG, guardFree, abin, aInt, aUn, aNilCheck, retQ, retQ1, aresults, aresultL, aresult, mkF, undefV, reduceCtorEq, kD, kE, kF, kG, kH, kI, kJ, kK, aExtract, calleeOf, kD1, Nat.reduceBEq, HoldsAll, kL, kM, kN, kO, lv, lw, z1, z2, ad, ld, ad2, ld2, eq_true c3, awrap_succ i (by omega)]
    exact loop_again (xs.length - (i + 1)) [(0, v), (1, w), (5, .int .i64 (i + 1 : Nat))] (by omega) (by simp only [hasAll, kS1, bLookup, bMapSet, wantA, isCall, stepOp, evalO, evalL, evalP, evalM, putDst, flat, kA, kB, Nat.reduceLT, ↓reduceIte, kC, Nat.reduceEqDiff, aBuiltin, abinG, guardFree, abin, aInt, aUn, aNilCheck, retQ, retQ1, aresults, aresultL, aresult, mkF, undefV, reduceCtorEq, kD, kE, kF, kG, kH, kI, kJ, kK, aExtract, calleeOf]; simp) ⟨i + 1, rfl, c1, c2, rfl, rfl, by rw [List.take_succ_eq_append_getElem c1, List.take_succ_eq_append_getElem c2, he, c3]⟩
   ·simp only [kS1, bLookup, bMapSet, wantA, isCall, stepOp, evalO, evalL, evalP, evalM, putDst, flat, kA, kB, Nat.reduceLT, ↓reduceIte, kC, Nat.reduceEqDiff, aBuiltin, abinG, guardFree, abin, aInt, aUn, aNilCheck, retQ, retQ1, aresults, aresultL, aresult, mkF, undefV, reduceCtorEq, kD, kE, kF, kG, kH, kI, kJ, kK, aExtract, calleeOf]
    refine KDraw.intro mixed (.fl 0 (.fl 1 (.fl 2 (.fl 3 (.fl 4 (.fl 5 (.fl 6 (.fl 7 (.fl 8 (.fl 9 (.fl 10 (.fl 11 (.fl 12 (.fl 13 (.fl 14 (.fl 15 (.fl 16 (.fl 17 (.fl 18 (.fl 19 (.fl 20 (.done)))))))))))))))))))))) (by kernel_rfl) ?_
    simp only [kS1, bLookup, bMapSet, wantA, isCall, stepOp, evalO, evalL, evalP, evalM, putDst, flat, kA, kB, Nat.reduceLT, ↓reduceIte, kC, Nat.reduceEqDiff, aBuiltin, abinG, guardFree, abin, aInt, aUn, aNilCheck, retQ, retQ1, aresults, aresultL, aresult, mkF, undefV, reduceCtorEq, kD, kE, kF, kG, kH, kI, kJ, kK, aExtract, calleeOf, kD1, Nat.reduceBEq, HoldsAll, kL, kM, kN, kO, lv, lw, z1, z2, ad, ld, ad2, ld2, eq_false c3, y1, y2]
    exact by rw [← stop false ⟨(fun e => by cases e), fun e => by omega⟩ (fun _ _ => .inr (by rw [getElem?_of c1, getElem?_of c2]; simpa using c3))]
  ·have z2 : ((i : Int) < (ys.length : Int)) = False := eq_false (by omega)
   simp only [kS1, bLookup, bMapSet, wantA, isCall, stepOp, evalO, evalL, evalP, evalM, putDst, flat, kA, kB, Nat.reduceLT, ↓reduceIte, kC, Nat.reduceEqDiff, aBuiltin, abinG, guardFree, abin, aInt, aUn, aNilCheck, retQ, retQ1, aresults, aresultL, aresult, mkF, undefV, reduceCtorEq, kD, kE, kF, kG, kH, kI, kJ, kK, aExtract, calleeOf]
   refine KDraw.intro mixed (.fl 0 (.fl 1 (.fl 2 (.fl 3 (.fl 4 (.fl 5 (.fl 6 (.fl 7 (.fl 8 (.fl 9 (.fl 10 (.fl 11 (.fl 12 (.fl 13 (.fl 14 (.fl 15 (.fl 16 (.fl 17 (.fl 18 (.fl 19 (.fl 20 (.done)))))))))))))))))))))) (by kernel_rfl) ?_
   simp only [kS1, bLookup, bMapSet, wantA, isCall, stepOp, evalO, evalL, evalP, evalM, putDst, flat, kA, kB, Nat.reduceLT, ↓reduceIte, kC, Nat.reduceEqDiff, aBuiltin, abinG, guardFree, abin, aInt, aUn, aNilCheck, retQ, retQ1, aresults, aresultL, aresult, mkF, undefV, reduceCtorEq, kD, kE, kF, kG, kH, kI, kJ, kK, aExtract, calleeOf, kD1, Nat.reduceBEq, HoldsAll, kL, kM, kN, kO, lv, lw, z1, z2, y1]
   exact by rw [← stop false ⟨(fun e => by cases e), fun e => by omega⟩ (fun _ e => absurd e c2)]
 ·have z1 : ((i : Int) < (xs.length : Int)) = False := eq_false (by omega)
  have y1 : ((i : Int) = (xs.length : Int)) = True := eq_true (by omega)
  simp only [kS1, bLookup, bMapSet, wantA, isCall, stepOp, evalO, evalL, evalP, evalM, putDst, flat, kA, kB, Nat.reduceLT, ↓reduceIte, kC, Nat.reduceEqDiff, aBuiltin, abinG, guardFree, abin, aInt, aUn, aNilCheck, retQ, retQ1, aresults, aresultL, aresult, mkF, undefV, reduceCtorEq, kD, kE, kF, kG, kH, kI, kJ, kK, aExtract, calleeOf]
  refine KDraw.intro mixed (.fl 0 (.fl 1 (.fl 2 (.fl 3 (.fl 4 (.fl 5 (.fl 6 (.fl 7 (.fl 8 (.fl 9 (.fl 10 (.fl 11 (.fl 12 (.fl 13 (.fl 14 (.fl 15 (.fl 16 (.fl 17 (.fl 18 (.fl 19 (.fl 20 (.done)))))))))))))))))))))) (by kernel_rfl) ?_
  simp only [kS1, bLookup, bMapSet, wantA, isCall, stepOp, evalO, evalL, evalP, evalM, putDst, flat, kA, kB, Nat.reduceLT, ↓reduceIte, kC, Nat.reduceEqDiff, aBuiltin, abinG, guardFree, abin, aInt, aUn, aNilCheck, retQ, retQ1, aresults, aresultL, aresult, mkF, undefV, reduceCtorEq, kD, kE, kF, kG, kH, kI, kJ, kK, aExtract, calleeOf, kD1, Nat.reduceBEq, HoldsAll, kL, kM, kN, kO, lv, lw, z1, y1]
  exact by rw [← stop (decide ((i : Int) = (ys.length : Int))) (by rw [decide_eq_true_iff]; omega) (fun e => absurd e c1)]
theorem SameGraph_any (W0 : Base) (v w : Value) (G H : GM) (h : AHeap) (hv : GR h v G) (hw : GR h w H) (hn : G.es.length ≤ 100000) : AC Try.prog W0 44 [v, w] h fun x h' => x = .bool (decide (G.n = H.n ∧ G.es = H.es)) ∧ Le h h' := by
 obtain ⟨gn, gs⟩ := G
 obtain ⟨hn', hs⟩ := H
 obtain ⟨ev, rfl, hp⟩ := hv.open
 obtain ⟨fv, rfl, hq⟩ := hw.open
 refine AC.vc (fn := Try.f44) (c := _) ⟨Try.func44, rfl, by decide⟩ Try.ntmps44 Try.results44 (by simp) fun hwf => ?_
 simp only [argFrame, argFrom, Nat.reduceAdd]
 obtain ⟨h1, b1, le1, wf1, -, lA⟩ := boxG (n := gn) hwf hp
 obtain ⟨h2, b2, le2, wf2, -, lB⟩ := boxG (n := hn') wf1 (hq.le le1)
 generalize h.next = A at *
 generalize h1.next = B at *
 have lA2 := lA h2 le2
 have lB2 := lB h2 (Le.refl _)
 by_cases c : gn = hn'
 ·simp only [kS1, bLookup, bMapSet, wantA, isCall, stepOp, evalO, evalL, evalP, evalM, putDst, flat, kA, kB, Nat.reduceLT, ↓reduceIte, kC, Nat.reduceEqDiff, aBuiltin, abinG, guardFree, abin, aInt, aUn, aNilCheck, retQ, retQ1, aresults, aresultL, aresult, mkF, undefV, reduceCtorEq, kD, kE, kF, kG, kH, kI, kJ, kK, aExtract, calleeOf, b1, b2, fg0, fg1, aadd, Nat.zero_add, lA2.2.1, lB2.2.1, lA2.2.2, lB2.2.2, eq_true c]
  refine KCall.intro (by simp only [kS1, bLookup, bMapSet, wantA, isCall, stepOp, evalO, evalL, evalP, evalM, putDst, flat, kA, kB, Nat.reduceLT, ↓reduceIte, kC, Nat.reduceEqDiff, aBuiltin, abinG, guardFree, abin, aInt, aUn, aNilCheck, retQ, retQ1, aresults, aresultL, aresult, mkF, undefV, reduceCtorEq, kD, kE, kF, kG, kH, kI, kJ, kK, aExtract, calleeOf] <;> rfl) ⟨Try.func24, rfl, by decide⟩ (SamePairs_any W0 ev fv gs hs h2 ((hp.le le1).le le2) ((hq.le le1).le le2) hn) ?_
  rintro x h3 w3 ⟨rfl, rfl⟩
  simp only [kS1, bLookup, bMapSet, wantA, isCall, stepOp, evalO, evalL, evalP, evalM, putDst, flat, kA, kB, Nat.reduceLT, ↓reduceIte, kC, Nat.reduceEqDiff, aBuiltin, abinG, guardFree, abin, aInt, aUn, aNilCheck, retQ, retQ1, aresults, aresultL, aresult, mkF, undefV, reduceCtorEq, kD, kE, kF, kG, kH, kI, kJ, kK, aExtract, calleeOf]
  exact ⟨by simp [c], le1.trans le2⟩
 ·simp only [kS1, bLookup, bMapSet, wantA, isCall, stepOp, evalO, evalL, evalP, evalM, putDst, flat, kA, kB, Nat.reduceLT, ↓reduceIte, kC, Nat.reduceEqDiff, aBuiltin, abinG, guardFree, abin, aInt, aUn, aNilCheck, retQ, retQ1, aresults, aresultL, aresult, mkF, undefV, reduceCtorEq, kD, kE, kF, kG, kH, kI, kJ, kK, aExtract, calleeOf, b1, b2, fg0, fg1, aadd, Nat.zero_add, lA2.2.1, lB2.2.1, eq_false c]
  exact ⟨by simp [c], le1.trans le2⟩
end Go.Fw
namespace Go.Fw
open Go.Proofs
set_option maxHeartbeats 1000000
set_option maxRecDepth 10000
theorem getD_set {α : Type} (l : List α) (i j : Nat) (a d : α) : (l.set i a).getD j d = if i = j ∧ i < l.length then a else l.getD j d := by
 simp only [List.getD_eq_getElem?_getD, List.getElem?_set]
 by_cases h1 : i = j
 ·subst h1
  by_cases h2 : i < l.length
  ·simp [h2]
  ·simp [h2]
 ·simp [h1]
def InR (n : Nat) (es : List Pr) : Prop := ∀ p ∈ es, 0 ≤ p.1 ∧ p.1 < p.2 ∧ p.2 < (n : Int)
theorem RightG.inR {n : Nat} {es : List Pr} (hr : RightG ⟨(n : Int), es⟩) : InR n es := fun p hpm => by
 obtain ⟨i, hi⟩ := List.mem_iff_getElem?.1 hpm
 exact (hr.ok i (List.getElem?_eq_some_iff.1 hi).1 p hi).1
def adj (es : List Pr) (u w : Nat) : Prop := ((u : Int), (w : Int)) ∈ es ∨ ((w : Int), (u : Int)) ∈ es
theorem adj.symm {es : List Pr} {u w : Nat} (h : adj es u w) : adj es w u := Or.symm h
theorem adj.lt {n : Nat} {es : List Pr} (hr : InR n es) {u w : Nat} (h : adj es u w) : u < n ∧ w < n := by
 rcases h with h | h <;> have := hr _ h <;> simp only at this <;> omega
theorem bes_step (rows : List (List Int)) (p : Pr) (u : Nat) (x : Int) (h1 : p.1.toNat < rows.length) (h2 : p.2.toNat < rows.length) :
  x ∈ (besStep rows p).getD u [] ↔ x ∈ rows.getD u [] ∨ (p.1.toNat = u ∧ x = p.2) ∨ (p.2.toNat = u ∧ x = p.1) := by
 simp only [besStep, getD_set, List.length_set]
 by_cases e2 : p.2.toNat = u
 ·subst e2
  by_cases e1 : p.1.toNat = p.2.toNat
  ·simp [e1, h2, or_assoc]
  ·simp [e1, h2]
 ·by_cases e1 : p.1.toNat = u
  ·subst e1; simp [e2, h1]
  ·simp [e1, e2]
theorem bes_fold (n : Nat) : ∀ (es : List Pr) (rows : List (List Int)), rows.length = n → InR n es → ∀ (u : Nat) (x : Int), x ∈ (es.foldl besStep rows).getD u [] ↔ x ∈ rows.getD u [] ∨ ∃ p ∈ es, (p.1.toNat = u ∧ x = p.2) ∨ (p.2.toNat = u ∧ x = p.1)
 | [], rows, _, _, u, x => by simp
 | p :: es, rows, hl, hr, u, x => by
  have hp := hr p (by simp)
  rw [List.foldl_cons, bes_fold n es _ (by rw [besStep_length, hl]) (fun q hq => hr q (by simp [hq])) u x, bes_step rows p u x (by omega) (by omega)]
  simp only [List.mem_cons, exists_eq_or_imp]
  constructor
  ·rintro ((h | h) | h)
   ·exact .inl h
   ·exact .inr (.inl h)
   ·exact .inr (.inr h)
  ·rintro (h | h | h)
   ·exact .inl (.inl h)
   ·exact .inl (.inr h)
   ·exact .inr h
theorem besM_mem {n : Nat} {es : List Pr} (hr : InR n es) (u w : Nat) : (w : Int) ∈ (besM n es).getD u [] ↔ adj es u w := by
 have hnil : (List.replicate n ([] : List Int)).getD u [] = [] := by
  simp only [List.getD_eq_getElem?_getD, List.getElem?_replicate]; split <;> rfl
 rw [besM, bes_fold n es _ (by simp) hr, hnil]
 simp only [List.not_mem_nil, false_or, adj]
 constructor
 ·rintro ⟨⟨a, b⟩, hp, ⟨h1, h2⟩ | ⟨h1, h2⟩⟩
  ·have := hr _ hp; simp only at this h1 h2
   left; have : a = (u : Int) := by omega
   rw [← this, h2]; exact hp
  ·have := hr _ hp; simp only at this h1 h2
   right; have : b = (u : Int) := by omega
   rw [← this, h2]; exact hp
 ·rintro (h | h)
  ·exact ⟨_, h, .inl ⟨by simp, rfl⟩⟩
  ·exact ⟨_, h, .inr ⟨by simp, rfl⟩⟩
theorem besM_nat {n : Nat} {es : List Pr} (hr : InR n es) {u : Nat} {x : Int} (hx : x ∈ (besM n es).getD u []) : ∃ w : Nat, x = (w : Int) ∧ w < n := by
 have hnil : (List.replicate n ([] : List Int)).getD u [] = [] := by
  simp only [List.getD_eq_getElem?_getD, List.getElem?_replicate]; split <;> rfl
 rw [besM, bes_fold n es _ (by simp) hr, hnil] at hx
 simp only [List.not_mem_nil, false_or] at hx
 obtain ⟨p, hp, ⟨_, rfl⟩ | ⟨_, rfl⟩⟩ := hx
 ·have := hr _ hp; exact ⟨p.2.toNat, by omega, by omega⟩
 ·have := hr _ hp; exact ⟨p.1.toNat, by omega, by omega⟩
inductive Cn (on : Nat → Bool) (es : List Pr) : Nat → Nat → Prop
 | refl {u : Nat} : on u = false → Cn on es u u
 | step {u w x : Nat} : Cn on es u w → adj es w x → on x = false → Cn on es u x
theorem Cn.off2 {on : Nat → Bool} {es : List Pr} {u w : Nat} (h : Cn on es u w) : on w = false := by
 cases h with
 | refl h => exact h
 | step _ _ h => exact h
theorem Cn.trans {on : Nat → Bool} {es : List Pr} {u w x : Nat} (h : Cn on es u w) (k : Cn on es w x) : Cn on es u x := by
 induction k with
 | refl _ => exact h
 | step _ a o ih => exact ih.step a o
theorem Cn.symm {on : Nat → Bool} {es : List Pr} {u w : Nat} (h : Cn on es u w) : Cn on es w u := by
 induction h with
 | refl h => exact .refl h
 | step h a o ih => exact ((Cn.refl o).step a.symm h.off2).trans ih
structure TO (n : Nat) (on : Nat → Bool) (es : List Pr) (v : Nat) (L : List Int) : Prop where
 len : L.length = n
 val : ∀ (u : Nat) l, L[u]? = some l → l = -1 ∨ on u = false ∧ ∃ k : Nat, k < v ∧ l = (k : Int) ∧ Cn on es k u
 old : ∀ (u w : Nat) l, L[u]? = some l → 0 ≤ l → adj es u w → on w = false → L[w]? = some l
 low : ∀ u, u < v → u < n → on u = false → L[u]? ≠ some (-1)
structure TI (n : Nat) (on : Nat → Bool) (es : List Pr) (v : Nat) (L : List Int) (met : List Nat) (cl : Nat → Nat → Prop) : Prop where
 len : L.length = n
 val : ∀ (u : Nat) l, L[u]? = some l → l = -1 ∨ on u = false ∧ ∃ k : Nat, k ≤ v ∧ l = (k : Int) ∧ Cn on es k u
 old : ∀ (u w : Nat) l, L[u]? = some l → 0 ≤ l → l < (v : Int) → adj es u w → on w = false → L[w]? = some l
 low : ∀ u, u ≤ v → u < n → on u = false → L[u]? ≠ some (-1)
 mm : ∀ u, u ∈ met ↔ L[u]? = some (v : Int)
 nd : met.Nodup
 cl : ∀ u w, cl u w → L[w]? = some (v : Int)
theorem TO.start (n : Nat) (on : Nat → Bool) (es : List Pr) : TO n on es 0 (List.replicate n (-1)) :=
 ⟨by simp, fun u l h => .inl (List.eq_of_mem_replicate (List.mem_of_getElem? h)), fun u w l h h0 => by have := List.eq_of_mem_replicate (List.mem_of_getElem? h); omega, fun u h => by omega⟩
theorem TI.mono {n : Nat} {on : Nat → Bool} {es : List Pr} {v : Nat} {L : List Int} {met : List Nat} {cl cl' : Nat → Nat → Prop} (t : TI n on es v L met cl) (h : ∀ u w, cl' u w → cl u w) : TI n on es v L met cl' :=
 ⟨t.len, t.val, t.old, t.low, t.mm, t.nd, fun u w k => t.cl u w (h u w k)⟩
structure TogM (n : Nat) (on : Nat → Bool) (es : List Pr) (L : List Int) : Prop where
 len : L.length = n
 off : ∀ u, u < n → on u = false → ∃ k : Nat, k < n ∧ L[u]? = some (k : Int) ∧ Cn on es k u
 same : ∀ u w, u < n → w < n → on u = false → on w = false → (L[u]? = L[w]? ↔ Cn on es u w)
end Go.Fw
namespace Go.Fw
open Go.Proofs
attribute [local irreducible] KO4 KO3 KO2 KO1 KO KN KX KE VK KCond KDraw KCall KLoop
set_option maxHeartbeats 4000000
set_option maxRecDepth 10000
def GI (h : AHeap) (v : Value) (xs : List Int) : Prop := GS 1 h v xs.length (I64 xs)
theorem GI.le {h h' : AHeap} {v : Value} {xs : List Int} (g : GI h v xs) (e : Le h h') : GI h' v xs := GS.le g e
theorem GI.rl {h : AHeap} {v : Value} {xs : List Int} (g : GI h v xs) : RL isI h v xs := RL.ofI (GS.cs g).rs
theorem GI.nil (h : AHeap) : GI h (.slice none 0 0) [] := GS.nil 1 h
theorem GI.push {h : AHeap} {v : Value} {xs : List Int} (g : GI h v xs) (hwf : WF h) (x : Int) (hn : xs.length ≤ 100000) :
  ∃ v' h4 h5, aBuildSlice Try.prog h 38 1 [(0, .int .i64 x)] = some (.slice (some ⟨h.next, 0, none⟩) 1 1, h4) ∧ aAppend Try.prog h4 38 38 v (.slice (some ⟨h.next, 0, none⟩) 1 1) = some (v', h5) ∧ GI h5 v' (xs ++ [x]) ∧ WF h5 ∧ Le h h4 ∧
   (∀ f, Le f h → Apart f v → Le f h5 ∧ Apart f v') ∧ (∀ b o, h.own b = some o → blk v ≠ some b → h5.own b = some o ∧ blk v' ≠ some b) := by
 obtain ⟨h4, e4, l4, w4, o4⟩ := alloc_f hwf [.int .i64 x]
 obtain ⟨v', h5, e5, g5, hf⟩ := (GS.le g l4).push (P := Try.prog) (t := 38) (by kernel_rfl) o4 (I64_one _) rfl (by omega)
 refine ⟨v', h4, h5, by rw [mk1, e4], e5, ?_, aAppend_wf w4 e5, l4, fun f lf af => hf f w4 (lf.trans l4) af, fun b o ho hb => keep_own hf w4 (l4.own _ _ ho) hb⟩
 have : I64 xs ++ [.int .i64 x] = I64 (xs ++ [x]) := by simp [I64]
 rw [GI, ← this, List.length_append]; exact g5
def GP (h : AHeap) (v : Value) (ps : List Pr) : Prop := GS 2 h v ps.length (flatP ps)
theorem GP.le {h h' : AHeap} {v : Value} {ps : List Pr} (g : GP h v ps) (e : Le h h') : GP h' v ps := GS.le g e
theorem GP.pr {h : AHeap} {v : Value} {ps : List Pr} (g : GP h v ps) : PR h v ps := GS.cs g
theorem GP.nil (h : AHeap) : GP h (.slice none 0 0) [] := GS.nil 2 h
theorem GP.join {h : AHeap} {v x : Value} {ps qs : List Pr} (g : GP h v ps) (hwf : WF h) (hx : PR h x qs) (hn : ps.length + qs.length ≤ 1000000000) :
  ∃ v' h5, aAppend Try.prog h 22 22 v x = some (v', h5) ∧ GP h5 v' (ps ++ qs) ∧ WF h5 ∧
   (∀ f, Le f h → Apart f v → Le f h5 ∧ Apart f v') ∧ (∀ b o, h.own b = some o → blk v ≠ some b → h5.own b = some o ∧ blk v' ≠ some b) := by
 obtain ⟨v', h5, e5, g5, hf⟩ := GS.append (P := Try.prog) (t := 22) (xt := 22) (k := 2) (by kernel_rfl) g (fun e he => CS.src he hx) (flatP_one _) (flatP_one _) (flatP_length _) (by omega)
 refine ⟨v', h5, e5, ?_, aAppend_wf hwf e5, fun f lf af => hf f hwf lf af, fun b o ho hb => keep_own hf hwf ho hb⟩
 rw [GP, List.length_append, flatP_append]; exact g5
theorem mkP1 (h : AHeap) (p : Pr) : aBuildSlice Try.prog h 22 1 [(0, valP p)] = some (.slice (some ⟨h.next, 0, none⟩) 1 1, h.alloc (.cells (cellsP p))) := rfl
theorem GP.push {h : AHeap} {v : Value} {ps : List Pr} (g : GP h v ps) (hwf : WF h) (p : Pr) (hn : ps.length + 1 ≤ 100000) :
  ∃ v' h4 h5, aBuildSlice Try.prog h 22 1 [(0, valP p)] = some (.slice (some ⟨h.next, 0, none⟩) 1 1, h4) ∧ aAppend Try.prog h4 22 22 v (.slice (some ⟨h.next, 0, none⟩) 1 1) = some (v', h5) ∧ GP h5 v' (ps ++ [p]) ∧ WF h5 ∧ Le h h4 ∧
   (∀ f, Le f h → Apart f v → Le f h5 ∧ Apart f v') ∧ (∀ b o, h.own b = some o → blk v ≠ some b → h5.own b = some o ∧ blk v' ≠ some b) := by
 obtain ⟨h4, e4, l4, w4, o4⟩ := alloc_f hwf (cellsP p)
 have hx : PR h4 (.slice (some ⟨h.next, 0, none⟩) 1 1) [p] := by
  have := CS.own (k := 2) (off := 0) (n := 1) (cap := 1) o4 (by simp [cellsP])
  exact this
 obtain ⟨v', h5, e5, g5, w5, hf, hk⟩ := (g.le l4).join w4 hx (by simp; omega)
 exact ⟨v', h4, h5, by rw [mkP1, e4], e5, g5, w5, l4, fun f lf af => hf f (lf.trans l4) af, fun b o ho hb => hk b o (l4.own _ _ ho) hb⟩
theorem CopyPairs_any (W0 : Base) (v : Value) (ps : List Pr) (h : AHeap) (hv : PR h v ps) (hn : ps.length ≤ 100000) : AC Try.prog W0 38 [v] h fun x h' => GP h' x ps ∧ Le h h' ∧ Apart h x := by
 refine AC.vc (fn := Try.f38) (c := _) ⟨Try.func38, rfl, by decide⟩ Try.ntmps38 Try.results38 (by simp) fun hwf => ?_
 simp only [argFrame, argFrom, Nat.reduceAdd]
 obtain ⟨v', h5, e5, g5, w5, hf, -⟩ := (GP.nil h).join hwf hv (by simp; omega)
 obtain ⟨l, a⟩ := hf h (Le.refl h) (fun b hb => by simp [blk] at hb)
 simp only [kS1, bLookup, bMapSet, wantA, isCall, stepOp, evalO, evalL, evalP, evalM, putDst, flat, kA, kB, Nat.reduceLT, ↓reduceIte, kC, Nat.reduceEqDiff, aBuiltin, abinG, guardFree, abin, aInt, aUn, aNilCheck, retQ, retQ1, aresults, aresultL, aresult, mkF, undefV, reduceCtorEq, kD, kE, kF, kG, kH, kI, kJ, kK, aExtract, calleeOf, e5]
 exact ⟨g5, l, a⟩
theorem I64_set (L : List Int) (i : Nat) (x : Int) : (I64 L).set i (.int .i64 x) = I64 (L.set i x) := by simp [I64, List.map_set]
def nat64 (l : List Nat) : List Int := l.map fun (x : Nat) => (x : Int)
theorem nat64_length (l : List Nat) : (nat64 l).length = l.length := by simp [nat64]
theorem nat64_get {l : List Nat} {i : Nat} (hi : i < l.length) : (nat64 l)[i]'(by rw [nat64_length]; exact hi) = ((l[i] : Nat) : Int) := by simp [nat64]
end Go.Fw
namespace Go.Proofs
open Go.Shelf
def Try.lays189_ren : Go.Shelf.Ren := ⟨fun | 189 => 21 | 125 => 70 | 257 => 69 | 128 => 108 | 129 => 109 | 294 => 99 | 295 => 100 | 296 => 101 | 297 => 102 | 298 => 103 | 299 => 104 | 216 => 105 | 300 => 106 | 301 => 107 | 328 => 120 | 329 => 121 | 330 => 122 | 331 => 123 | 332 => 124 | 215 => 125 | 343 => 138 | n => n, fun | 28 => 38 | 3 => 3 | 46 => 108 | 0 => 0 | 51 => 152 | 53 => 154 | 4 => 4 | 183 => 145 | 182 => 144 | 131 => 71 | 5 => 5 | 9 => 9 | 218 => 162 | 222 => 166 | 228 => 179 | 229 => 180 | n => n, fun | n => n⟩
theorem Try.lays189 : Go.Proofs.Lays.n189 Try.prog Try.lays189_ren := {
 mixed := by kernel_rfl
 f125 := Try.func70.trans (congrArg some (by kernel_rfl))
 f128 := Try.func108.trans (congrArg some (by kernel_rfl))
 f129 := Try.func109.trans (congrArg some (by kernel_rfl))
 f189 := Try.func21.trans (congrArg some (by kernel_rfl))
 f215 := Try.func125.trans (congrArg some (by kernel_rfl))
 f216 := Try.func105.trans (congrArg some (by kernel_rfl))
 f257 := Try.func69.trans (congrArg some (by kernel_rfl))
 f294 := Try.func99.trans (congrArg some (by kernel_rfl))
 f295 := Try.func100.trans (congrArg some (by kernel_rfl))
 f296 := Try.func101.trans (congrArg some (by kernel_rfl))
 f297 := Try.func102.trans (congrArg some (by kernel_rfl))
 f298 := Try.func103.trans (congrArg some (by kernel_rfl))
 f299 := Try.func104.trans (congrArg some (by kernel_rfl))
 f300 := Try.func106.trans (congrArg some (by kernel_rfl))
 f301 := Try.func107.trans (congrArg some (by kernel_rfl))
 f328 := Try.func120.trans (congrArg some (by kernel_rfl))
 f329 := Try.func121.trans (congrArg some (by kernel_rfl))
 f330 := Try.func122.trans (congrArg some (by kernel_rfl))
 f331 := Try.func123.trans (congrArg some (by kernel_rfl))
 f332 := Try.func124.trans (congrArg some (by kernel_rfl))
 f343 := Try.func138.trans (congrArg some (by kernel_rfl))
 t0 := Try.underlying0
 a0 := Try.isAgg0
 z0 := Try.sizeOf0
 v0 := Try.zeroValue0
 t3 := Try.underlying3
 a3 := Try.isAgg3
 z3 := Try.sizeOf3
 v3 := Try.zeroValue3
 t4 := Try.underlying4
 a4 := Try.isAgg4
 z4 := Try.sizeOf4
 v4 := Try.zeroValue4
 t5 := Try.underlying5
 a5 := Try.isAgg5
 z5 := Try.sizeOf5
 v5 := Try.zeroValue5
 t9 := Try.underlying9
 a9 := Try.isAgg9
 z9 := Try.sizeOf9
 v9 := Try.zeroValue9
 t28 := Try.underlying38
 a28 := Try.isAgg38
 z28 := Try.sizeOf38
 v28 := Try.zeroValue38
 t46 := Try.underlying108
 a46 := Try.isAgg108
 z46 := Try.sizeOf108
 v46 := Try.zeroValue108
 t51 := Try.underlying152
 a51 := Try.isAgg152
 z51 := Try.sizeOf152
 v51 := Try.zeroValue152
 t53 := Try.underlying154
 a53 := Try.isAgg154
 z53 := Try.sizeOf154
 v53 := Try.zeroValue154
 t131 := Try.underlying71
 a131 := Try.isAgg71
 z131 := Try.sizeOf71
 v131 := Try.zeroValue71
 t182 := Try.underlying144
 a182 := Try.isAgg144
 z182 := Try.sizeOf144
 v182 := Try.zeroValue144
 t183 := Try.underlying145
 a183 := Try.isAgg145
 z183 := Try.sizeOf145
 v183 := Try.zeroValue145
 t218 := Try.underlying162
 a218 := Try.isAgg162
 z218 := Try.sizeOf162
 v218 := Try.zeroValue162
 t222 := Try.underlying166
 a222 := Try.isAgg166
 z222 := Try.sizeOf166
 v222 := Try.zeroValue166
 t228 := Try.underlying179
 a228 := Try.isAgg179
 z228 := Try.sizeOf179
 v228 := Try.zeroValue179
 t229 := Try.underlying180
 a229 := Try.isAgg180
 z229 := Try.sizeOf180
 v229 := Try.zeroValue180 }
end Go.Proofs
namespace Go.Fw
open Go.Proofs
set_option maxHeartbeats 1000000
set_option maxRecDepth 10000
def sortI (l : List Int) : List Int := l.mergeSort fun x y => decide (x ≤ y)
theorem GI.cases {h : AHeap} {v : Value} {xs : List Int} (g : GI h v xs) (hn : xs.length ≤ 100000) : (∃ a cap, v = .slice a 0 cap ∧ xs = []) ∨ ∃ id c cap, v = .slice (some ⟨id, 0, none⟩) xs.length cap ∧ h.own id = some (.cells c) ∧ c.take xs.length = i64s xs ∧ (cap = UNK + 1 ∨ cap = xs.length ∧ xs.length < 1000000000000) ∧ 0 < xs.length ∧ xs.length ≤ cap ∧ xs.length ≤ c.length := by
 obtain ⟨hl, ⟨rfl, h0⟩ | ⟨id, c, cap, rfl, ho, ht, hc⟩⟩ := g
 ·exact .inl ⟨none, 0, rfl, List.length_eq_zero_iff.1 h0⟩
 ·by_cases h0 : xs.length = 0
  ·rw [h0]; exact .inl ⟨_, _, rfl, List.length_eq_zero_iff.1 h0⟩
  ·rw [Nat.mul_one] at ht hl
   have hcl : xs.length ≤ c.length := by have := congrArg List.length ht; rw [List.length_take, hl] at this; omega
   refine .inr ⟨id, c, cap, rfl, ho, ht, hc, by omega, ?_, hcl⟩
   rcases hc with rfl | ⟨rfl, _⟩
   ·have : (100000 : Nat) ≤ UNK := by decide
    omega
   ·exact Nat.le_refl _
theorem AC.ofNone {P : Program} {W0 : Base} {h : AHeap} {f : FuncId} {a : Option Addr} {cap : Nat} {out : Value} (hout : out = .tuple #[] ∨ out = .slice a 0 cap)
  (hC : ∀ (a' : Option Addr) (cap' : Nat) (w : World), Calls P f #[.slice a' 0 cap'] w fun e w' => (∃ v, e = .returned v ∧ (out = .tuple #[] ∧ v = .tuple #[] ∨ out ≠ .tuple #[] ∧ v = .slice a' 0 cap')) ∧ w' = w) :
  AC P W0 f [.slice a 0 cap] h fun x h' => x = out ∧ h' = h := by
 intro ex m w args' R va
 obtain ⟨v0, hv0, hvr⟩ := va.get (i := 0) rfl
 have hargs : args' = [v0] := by
  have hl1 := va.1
  match args', hl1 with
  | [x], _ => simp at hv0; rw [hv0]
 obtain ⟨a', cap', rfl⟩ := vr_zero hvr
 rw [hargs]
 refine (hC a' cap' w).mono ?_
 rintro e w' ⟨⟨v, rfl, hv⟩, rfl⟩
 refine ⟨out, v, m, _, rfl, R, Agree.refl _ _, Nat.le_refl _, ?_, rfl, rfl⟩
 rcases hv with ⟨h1, rfl⟩ | ⟨h1, rfl⟩
 ·rw [h1]; exact .tuple rfl (fun i v v' e => by simp at e)
 ·rcases hout with h2 | h2
  ·exact absurd h2 h1
  ·rw [h2]; exact hvr
theorem sortI_length (l : List Int) : (sortI l).length = l.length := by simp [sortI]
theorem Sort_any (W0 : Base) {h : AHeap} {v : Value} {xs : List Int} (g : GI h v xs) (hn : xs.length ≤ 100000) : AC Try.prog W0 21 [v] h fun x h' => x = .tuple #[] ∧ GI h' v (sortI xs) ∧ ∀ f, Le f h → Apart f v → Le f h' := by
 rcases g.cases hn with ⟨a, cap, rfl, rfl⟩ | ⟨id, c, cap, rfl, ho, ht, hc, h0, hlc, hcl⟩
 ·refine (AC.ofNone (out := .tuple #[]) (.inl rfl) fun a' cap' w => (Any.slices_Sort_int_none Try.lays189 a' cap' w).mono ?_).mono ?_
  ·rintro e w' ⟨rfl, rfl⟩; exact ⟨⟨_, rfl, .inl ⟨rfl, rfl⟩⟩, rfl⟩
  ·rintro x h' ⟨rfl, rfl⟩; exact ⟨rfl, by simpa [sortI] using g, fun f lf _ => lf⟩
 ·refine (AC.ofRow (xs := xs) (ys := sortI xs) (out := .tuple #[]) (k := 0) ho ht rfl (sortI_length xs) hcl hlc h0 (Nat.zero_le _) (.inl rfl) fun blk off cap' w hH hb hcap => (Any.slices_Sort_int Try.lays189 blk off cap' xs w hH hb (by omega)).mono ?_).mono ?_
  ·rintro e w' ⟨rfl, q, os, rfl⟩; exact ⟨⟨_, rfl, .inl ⟨rfl, rfl⟩⟩, q, os, rfl⟩
  ·rintro x h' ⟨rfl, rfl⟩
   refine ⟨rfl, ⟨by simp [I64, sortI_length], .inr ⟨id, _, cap, by rw [sortI_length], AHeap.own_put_eq _ _ _, ?_, by rw [sortI_length]; exact hc⟩⟩, fun f lf af => lf.put _ (af id rfl)⟩
   rw [Nat.mul_one, List.take_append_of_le_length (by simp [i64s_length]), List.take_of_length_le (by simp [i64s_length])]; rfl
end Go.Fw
namespace Go.Fw
open Go.Proofs
set_option maxHeartbeats 2000000
set_option maxRecDepth 10000
abbrev Gr := Int × List Pr
def addG : List Gr → Int → Pr → List Gr
 | [], f, p => [(f, [p])]
 | (k, l) :: r, f, p => if k = f then (k, l ++ [p]) :: r else (k, l) :: addG r f p
def mapG (gs : List Gr) (us : List Value) : List (Value × Value) := (gs.zip us).map fun x => (.int .i64 x.1.1, x.2)
structure Grps (b0 h : AHeap) (M : Nat) (us : List Value) (gs : List Gr) : Prop where
 oM : h.own M = some (.map (mapG gs us))
 len : us.length = gs.length
 gp : ∀ (j : Nat) u g, us[j]? = some u → gs[j]? = some g → GP h u g.2
 nM : ∀ (j : Nat) u, us[j]? = some u → blk u ≠ some M
 dis : ∀ (j k : Nat) u u' b, j ≠ k → us[j]? = some u → us[k]? = some u' → blk u = some b → blk u' ≠ some b
 ap : ∀ (j : Nat) u, us[j]? = some u → Apart b0 u
 le : Le b0 h
 bM : b0.own M = none
theorem Grps.keep {b0 h h' : AHeap} {M : Nat} {us : List Value} {gs : List Gr} (R : Grps b0 h M us gs) (le : Le b0 h') (hk : ∀ b o, h.own b = some o → (b = M ∨ ∃ (j : Nat) (u : Value), us[j]? = some u ∧ blk u = some b) → h'.own b = some o) : Grps b0 h' M us gs :=
 ⟨hk _ _ R.oM (.inl rfl), R.len, fun j u g hu hg => GS.kept (R.gp j u g hu hg) fun b o hb ho => hk b o ho (.inr ⟨j, u, hu, hb⟩), R.nM, R.dis, R.ap, le, R.bM⟩
theorem Grps.up {b0 h h' : AHeap} {M : Nat} {us : List Value} {gs : List Gr} (R : Grps b0 h M us gs) (e : Le h h') : Grps b0 h' M us gs := R.keep (R.le.trans e) fun b o ho _ => e.own _ _ ho
end Go.Fw
namespace Go.Fw
open Go.Proofs
set_option maxHeartbeats 4000000
set_option maxRecDepth 10000
def grpsM (fr : Pr → Nat → Int) (es web : List Pr) : Nat → List Gr
  | 0 => []
  | i + 1 => match es[i]? with
    | some p => if p ∈ web then grpsM fr es web i else addG (grpsM fr es web i) (fr p i) p
    | none => grpsM fr es web i
structure FM where
 edges : List Pr
 feet : List Int
def FL (h : AHeap) (v : Value) (fs : List FM) : Prop := ∃ cs, CS 2 h v fs.length cs ∧ ∀ (i : Nat) f, fs[i]? = some f → ∃ a b, cs[i * 2]? = some a ∧ cs[i * 2 + 1]? = some b ∧ PR h a f.edges ∧ RL isI h b f.feet
theorem FL.le {h h' : AHeap} {v : Value} {fs : List FM} (r : FL h v fs) (e : Le h h') : FL h' v fs := by
 obtain ⟨cs, h1, h2⟩ := r
 exact ⟨cs, h1.le e, fun i f hf => by obtain ⟨a, b, q1, q2, q3, q4⟩ := h2 i f hf; exact ⟨a, b, q1, q2, q3.le e, q4.le Stays.isI e⟩⟩
theorem FL.nil (h : AHeap) : FL h (.slice none 0 0) [] := ⟨[], CS.nil 2 h, fun i f hf => by simp at hf⟩
end Go.Fw
