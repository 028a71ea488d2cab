/- One of the texts of the layer and the walks: it proves what its theorems say of the functions of the seat, with no condition beyond theirs. -/
import Derived.Test.YtmgcmoifdnkaoaaFwLN8
import Derived.Test.YtmgcmoifdnkaoaaFwLT10
set_option linter.unusedSimpArgs false
set_option linter.unusedVariables false
namespace Go.Fw
open Go.Proofs
attribute [local irreducible] KO4 KO3 KO2 KO1 KO KN KX KE VK KCond KDraw KCall KLoop
set_option maxHeartbeats 16000000
set_option maxRecDepth 10000
open Classical in
theorem cuts_filter {n : Nat} {es : List Pr} (hr : InR n es) : cutsM n es = (List.range n).filter fun v => decide (Fo.Cut2 es v) := by
  rw [cutsM]
  refine List.filter_congr fun v hv => ?_
  rw [List.mem_range] at hv
  rw [Bool.eq_iff_iff, decide_eq_true_eq]
  exact isCut_iff hr hv
open Classical in
theorem RCuts_any (W0 : Base) (v : Value) (G : GM) (h : AHeap) (hg : GR h v G) :
    AC Try.prog W0 24 [v] h fun x h' => Le h h' ∧ ((¬ RightG G ∧ x = .tuple #[.slice none 0 0, .int .i64 20]) ∨ (RightG G ∧ ∃ cv, x = .tuple #[cv, .int .i64 0] ∧ GI h' cv (nat64 (cutsM G.n.toNat G.es)) ∧ Apart h cv)) := by
  have hg0 := hg
  obtain ⟨gn, es⟩ := G
  obtain ⟨ev, rfl, hp⟩ := hg.open
  refine AC.vc (fn := Try.f24) (c := _) ⟨Try.func24, rfl, by decide⟩ Try.ntmps24 Try.results24 (by simp) fun hwf => ?_
  simp only [argFrame, argFrom, Nat.reduceAdd]
  obtain ⟨h1, b1, le1, wf1, -, lA⟩ := boxG (n := gn) hwf hp
  generalize h.next = B at *
  have lA1 := lA h1 (Le.refl _)
  simp only [kS1, bLookup, bMapSet, wantA, isCall, stepOp, evalO, evalL, evalP, evalM, putDst, flat, kA, kB, Nat.reduceLT, ↓reduceIte, kC, Nat.reduceEqDiff, aBuiltin, abinG, guardFree, abin, aInt, aUn, aNilCheck, retQ, retQ1, aresults, aresultL, aresult, mkF, undefV, reduceCtorEq, kD, kE, kF, kG, kH, kI, kJ, kK, aExtract, calleeOf, b1, lA1.1]
  refine KCall.intro (by simp only [kS1, bLookup, bMapSet, wantA, isCall, stepOp, evalO, evalL, evalP, evalM, putDst, flat, kA, kB, Nat.reduceLT, ↓reduceIte, kC, Nat.reduceEqDiff, aBuiltin, abinG, guardFree, abin, aInt, aUn, aNilCheck, retQ, retQ1, aresults, aresultL, aresult, mkF, undefV, reduceCtorEq, kD, kE, kF, kG, kH, kI, kJ, kK, aExtract, calleeOf] <;> rfl) ⟨Try.func56, rfl, by decide⟩ (RefRight_any W0 _ _ h1 (hg0.le le1)) ?_
  rintro x h2 w2 ⟨⟨bb, rfl, hbb⟩, l2⟩
  cases bb with
  | false =>
    simp only [kS1, bLookup, bMapSet, wantA, isCall, stepOp, evalO, evalL, evalP, evalM, putDst, flat, kA, kB, Nat.reduceLT, ↓reduceIte, kC, Nat.reduceEqDiff, aBuiltin, abinG, guardFree, abin, aInt, aUn, aNilCheck, retQ, retQ1, aresults, aresultL, aresult, mkF, undefV, reduceCtorEq, kD, kE, kF, kG, kH, kI, kJ, kK, aExtract, calleeOf]
    exact ⟨le1.trans l2, .inl ⟨(fun hr => by cases hbb.2 hr), trivial⟩⟩
  | true =>
  have hr := hbb.1 rfl
  have h0 : 0 ≤ gn := hr.n0
  obtain ⟨n, rfl⟩ := Int.eq_ofNat_of_zero_le h0
  have h200 : (n : Int) ≤ 200 := hr.n1
  have h594 : es.length ≤ 594 := hr.len
  have hR := hr.inR
  simp only [Int.toNat_natCast]
  have ap0 : Apart h1 (.slice none 0 0) := fun b hb => by cases hb
  simp only [kS1, bLookup, bMapSet, wantA, isCall, stepOp, evalO, evalL, evalP, evalM, putDst, flat, kA, kB, Nat.reduceLT, ↓reduceIte, kC, Nat.reduceEqDiff, aBuiltin, abinG, guardFree, abin, aInt, aUn, aNilCheck, retQ, retQ1, aresults, aresultL, aresult, mkF, undefV, reduceCtorEq, kD, kE, kF, kG, kH, kI, kJ, kK, aExtract, calleeOf]
  refine KLoop.intro (fun k fr hq => ∃ (i : Nat) (ov : Value), k = n - i ∧ i ≤ n ∧ fr = mkF [(1, .pointer (some ⟨B, 0, none⟩)), (4, ov), (5, .int .i64 i)] ∧
      GI hq ov (nat64 ((List.range i).filter fun v => decide (Fo.Cut2 es v))) ∧ Le h1 hq ∧ Apart h1 ov)
    n [(1, .pointer (some ⟨B, 0, none⟩)), (4, .slice none 0 0), (5, .int .i64 (0 : Nat))] (by simp only [hasAll, kS1, bLookup, bMapSet, wantA, isCall, stepOp, evalO, evalL, evalP, evalM, putDst, flat, kA, kB, Nat.reduceLT, ↓reduceIte, kC, Nat.reduceEqDiff, aBuiltin, abinG, guardFree, abin, aInt, aUn, aNilCheck, retQ, retQ1, aresults, aresultL, aresult, mkF, undefV, reduceCtorEq, kD, kE, kF, kG, kH, kI, kJ, kK, aExtract, calleeOf]; simp)
    ⟨0, _, rfl, Nat.zero_le _, rfl, GI.nil _, l2, ap0⟩ ?_
  rintro k fr hq hwq ⟨i, ov, rfl, hi, rfl, go, leq, ao⟩
  have lAq := lA hq leq
  simp only [kS1, bLookup, bMapSet, wantA, isCall, stepOp, evalO, evalL, evalP, evalM, putDst, flat, kA, kB, Nat.reduceLT, ↓reduceIte, kC, Nat.reduceEqDiff, aBuiltin, abinG, guardFree, abin, aInt, aUn, aNilCheck, retQ, retQ1, aresults, aresultL, aresult, mkF, undefV, reduceCtorEq, kD, kE, kF, kG, kH, kI, kJ, kK, aExtract, calleeOf, fg0, aadd, Nat.zero_add, lAq.2.1]
  refine KCond.intro (fun ht => ?_) (fun hf => ?_)
  rotate_left
  · have hge : n ≤ i := lt_f hf
    obtain rfl : i = n := by omega
    simp only [kS1, bLookup, bMapSet, wantA, isCall, stepOp, evalO, evalL, evalP, evalM, putDst, flat, kA, kB, Nat.reduceLT, ↓reduceIte, kC, Nat.reduceEqDiff, aBuiltin, abinG, guardFree, abin, aInt, aUn, aNilCheck, retQ, retQ1, aresults, aresultL, aresult, mkF, undefV, reduceCtorEq, kD, kE, kF, kG, kH, kI, kJ, kK, aExtract, calleeOf]
    refine ⟨le1.trans leq, .inr ⟨hr, ov, rfl, ?_, fun b hb => le1.none (ao b hb)⟩⟩
    rw [cuts_filter hR]; exact go
  have hlt : i < n := lt_t ht
  clear ht
  have hmore := cut_more hR hlt
  have hrs : List.range (i + 1) = List.range i ++ [i] := List.range_succ
  simp only [kS1, bLookup, bMapSet, wantA, isCall, stepOp, evalO, evalL, evalP, evalM, putDst, flat, kA, kB, Nat.reduceLT, ↓reduceIte, kC, Nat.reduceEqDiff, aBuiltin, abinG, guardFree, abin, aInt, aUn, aNilCheck, retQ, retQ1, aresults, aresultL, aresult, mkF, undefV, reduceCtorEq, kD, kE, kF, kG, kH, kI, kJ, kK, aExtract, calleeOf]
  refine KDraw.intro mixed (.fl 0 (.fl 1 (.fl 6 (.ch 2 [0, 1] (.ch 3 [2] (.fl 4 (.fl 5 (.ch 7 [3, 6] (.fl 8 (.fl 9 (.done))) .no))) .no) .no)))) (by kernel_rfl) ?_
  simp only [kS1, bLookup, bMapSet, wantA, isCall, stepOp, evalO, evalL, evalP, evalM, putDst, flat, kA, kB, Nat.reduceLT, ↓reduceIte, kC, Nat.reduceEqDiff, aBuiltin, abinG, guardFree, abin, aInt, aUn, aNilCheck, retQ, retQ1, aresults, aresultL, aresult, mkF, undefV, reduceCtorEq, kD, kE, kF, kG, kH, kI, kJ, kK, aExtract, calleeOf, kD1, Nat.reduceBEq, HoldsAll, kL, kM, kN, kO, lAq.1]
  refine KGCall.intro (by simp only [kS1, bLookup, bMapSet, wantA, isCall, stepOp, evalO, evalL, evalP, evalM, putDst, flat, kA, kB, Nat.reduceLT, ↓reduceIte, kC, Nat.reduceEqDiff, aBuiltin, abinG, guardFree, abin, aInt, aUn, aNilCheck, retQ, retQ1, aresults, aresultL, aresult, mkF, undefV, reduceCtorEq, kD, kE, kF, kG, kH, kI, kJ, kK, aExtract, calleeOf] <;> rfl) ⟨Try.func65, rfl, by decide⟩ (RWithout_any W0 (.agg #[.int .i64 (n : Int), ev]) n i es hq (hg0.le (le1.trans leq)) (by omega)) ?_
  rintro x h3 w3 ⟨xv, rfl, gp3, l3, a3⟩
  have lA3 := lA h3 (leq.trans l3)
  simp only [kS1, bLookup, bMapSet, wantA, isCall, stepOp, evalO, evalL, evalP, evalM, putDst, flat, kA, kB, Nat.reduceLT, ↓reduceIte, kC, Nat.reduceEqDiff, aBuiltin, abinG, guardFree, abin, aInt, aUn, aNilCheck, retQ, retQ1, aresults, aresultL, aresult, mkF, undefV, reduceCtorEq, kD, kE, kF, kG, kH, kI, kJ, kK, aExtract, calleeOf, kD1, Nat.reduceBEq, HoldsAll, kL, kM, kN, kO, lA3.1]
  have hr' : RightG ⟨(n : Int), woV es i⟩ := hr.sub List.filter_sublist
  refine KGCall.intro (by simp only [kS1, bLookup, bMapSet, wantA, isCall, stepOp, evalO, evalL, evalP, evalM, putDst, flat, kA, kB, Nat.reduceLT, ↓reduceIte, kC, Nat.reduceEqDiff, aBuiltin, abinG, guardFree, abin, aInt, aUn, aNilCheck, retQ, retQ1, aresults, aresultL, aresult, mkF, undefV, reduceCtorEq, kD, kE, kF, kG, kH, kI, kJ, kK, aExtract, calleeOf] <;> rfl) ⟨Try.func64, rfl, by decide⟩ (RParts_any W0 _ n (woV es i) h3 ⟨xv, rfl, gp3.pr⟩ hr') ?_
  rintro x h4 w4 ⟨len4, l4⟩
  have lA4 := lA h4 (leq.trans (l3.trans l4))
  simp only [kS1, bLookup, bMapSet, wantA, isCall, stepOp, evalO, evalL, evalP, evalM, putDst, flat, kA, kB, Nat.reduceLT, ↓reduceIte, kC, Nat.reduceEqDiff, aBuiltin, abinG, guardFree, abin, aInt, aUn, aNilCheck, retQ, retQ1, aresults, aresultL, aresult, mkF, undefV, reduceCtorEq, kD, kE, kF, kG, kH, kI, kJ, kK, aExtract, calleeOf, kD1, Nat.reduceBEq, HoldsAll, kL, kM, kN, kO, len4, lA4.1]
  refine KGCall.intro (by simp only [kS1, bLookup, bMapSet, wantA, isCall, stepOp, evalO, evalL, evalP, evalM, putDst, flat, kA, kB, Nat.reduceLT, ↓reduceIte, kC, Nat.reduceEqDiff, aBuiltin, abinG, guardFree, abin, aInt, aUn, aNilCheck, retQ, retQ1, aresults, aresultL, aresult, mkF, undefV, reduceCtorEq, kD, kE, kF, kG, kH, kI, kJ, kK, aExtract, calleeOf] <;> rfl) ⟨Try.func64, rfl, by decide⟩ (RParts_any W0 _ n es h4 (hg0.le (le1.trans (leq.trans (l3.trans l4)))) hr) ?_
  rintro x h5 w5 ⟨len5, l5⟩
  have le5 := l3.trans (l4.trans l5)
  have go5 := go.le le5
  have hl2 : (heads n (woV es i)).length ≤ n := heads_length _ _
  have hw : awrap .i64 (((heads n (woV es i)).length : Int) - 1) = ((heads n (woV es i)).length : Int) - 1 := awrap_i64 _ (by omega) (by omega)
  by_cases c : Fo.Cut2 es i
  · have d : decide (((heads n (woV es i)).length : Int) - 1 > ((heads n es).length : Int)) = true := decide_eq_true (by have := hmore.2 c; omega)
    have hfl : nat64 ((List.range (i + 1)).filter fun v => decide (Fo.Cut2 es v)) = nat64 ((List.range i).filter fun v => decide (Fo.Cut2 es v)) ++ [(i : Int)] := by rw [hrs, List.filter_append]; simp [c, nat64]
    have hpl : (nat64 ((List.range i).filter fun v => decide (Fo.Cut2 es v))).length ≤ i := by have := List.length_filter_le (fun v => decide (Fo.Cut2 es v)) (List.range i); simpa [nat64] using this
    obtain ⟨v', g1, g2, q1, q2, gp2, wg2, lg1, fg, kg⟩ := go5.push w5 (i : Int) (by omega)
    obtain ⟨lx, ax⟩ := fg h1 (leq.trans le5) ao
    simp only [kS1, bLookup, bMapSet, wantA, isCall, stepOp, evalO, evalL, evalP, evalM, putDst, flat, kA, kB, Nat.reduceLT, ↓reduceIte, kC, Nat.reduceEqDiff, aBuiltin, abinG, guardFree, abin, aInt, aUn, aNilCheck, retQ, retQ1, aresults, aresultL, aresult, mkF, undefV, reduceCtorEq, kD, kE, kF, kG, kH, kI, kJ, kK, aExtract, calleeOf, kD1, Nat.reduceBEq, HoldsAll, kL, kM, kN, kO, len4, len5, hw, d, q1, q2, awrap_succ i (by omega)]
    exact loop_again (n - (i + 1)) [(1, .pointer (some ⟨B, 0, none⟩)), (4, v'), (5, .int .i64 (i + 1 : Nat))] (by omega) (by simp only [hasAll, kS1, bLookup, bMapSet, wantA, isCall, stepOp, evalO, evalL, evalP, evalM, putDst, flat, kA, kB, Nat.reduceLT, ↓reduceIte, kC, Nat.reduceEqDiff, aBuiltin, abinG, guardFree, abin, aInt, aUn, aNilCheck, retQ, retQ1, aresults, aresultL, aresult, mkF, undefV, reduceCtorEq, kD, kE, kF, kG, kH, kI, kJ, kK, aExtract, calleeOf]; simp)
      ⟨i + 1, v', rfl, hlt, rfl, by rw [hfl]; exact gp2, lx, ax⟩
  · have d : decide (((heads n (woV es i)).length : Int) - 1 > ((heads n es).length : Int)) = false := decide_eq_false (fun e => c (hmore.1 (by omega)))
    have hfl : (List.range (i + 1)).filter (fun v => decide (Fo.Cut2 es v)) = (List.range i).filter (fun v => decide (Fo.Cut2 es v)) := by rw [hrs, List.filter_append]; simp [c]
    simp only [kS1, bLookup, bMapSet, wantA, isCall, stepOp, evalO, evalL, evalP, evalM, putDst, flat, kA, kB, Nat.reduceLT, ↓reduceIte, kC, Nat.reduceEqDiff, aBuiltin, abinG, guardFree, abin, aInt, aUn, aNilCheck, retQ, retQ1, aresults, aresultL, aresult, mkF, undefV, reduceCtorEq, kD, kE, kF, kG, kH, kI, kJ, kK, aExtract, calleeOf, kD1, Nat.reduceBEq, HoldsAll, kL, kM, kN, kO, len4, len5, hw, d, awrap_succ i (by omega)]
    exact loop_again (n - (i + 1)) [(1, .pointer (some ⟨B, 0, none⟩)), (4, ov), (5, .int .i64 (i + 1 : Nat))] (by omega) (by simp only [hasAll, kS1, bLookup, bMapSet, wantA, isCall, stepOp, evalO, evalL, evalP, evalM, putDst, flat, kA, kB, Nat.reduceLT, ↓reduceIte, kC, Nat.reduceEqDiff, aBuiltin, abinG, guardFree, abin, aInt, aUn, aNilCheck, retQ, retQ1, aresults, aresultL, aresult, mkF, undefV, reduceCtorEq, kD, kE, kF, kG, kH, kI, kJ, kK, aExtract, calleeOf]; simp)
      ⟨i + 1, ov, rfl, hlt, rfl, by rw [hfl]; exact go5, leq.trans le5, ao⟩
end Go.Fw
