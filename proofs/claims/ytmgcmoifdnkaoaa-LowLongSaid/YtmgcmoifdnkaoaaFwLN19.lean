/- One of the texts of the layer and the walks: it proves what its theorems say of the functions of the seat, with no condition beyond theirs. -/
import Derived.Test.YtmgcmoifdnkaoaaFwLT15
import Derived.Test.YtmgcmoifdnkaoaaFwLM10
import Derived.Test.YtmgcmoifdnkaoaaFwLN15
import Derived.Test.YtmgcmoifdnkaoaaFwLBR
set_option linter.unusedSimpArgs false
set_option linter.unusedVariables false
namespace Go.Fw
open Go.Proofs
attribute [local irreducible] KO4 KO3 KO2 KO1 KO KN KX KE VK KCond KDraw KCall KLoop
set_option maxHeartbeats 16000000
set_option maxRecDepth 10000
attribute [local irreducible] lowM bridgesM cutsM blocksM keyE rowE ringE
theorem rowE_get {n j : Nat} (h : j + 1 < n) : (rowE n).take (j + 1) = (rowE n).take j ++ [((j : Int), ((j + 1 : Nat) : Int))] := by
  have hl : j < (rowE n).length := by rw [rowE_length]; omega
  rw [List.take_succ_eq_append_getElem hl]
  congr 1
  simp [rowE]
theorem u8_range {x : Int} (h : (Go.Lit.int .u8 x).wf = true) : 0 ≤ x ∧ x ≤ 255 := by
  have h0 : IntKind.u8.min = 0 := by decide
  have h1 : IntKind.u8.max = 255 := by decide
  simp only [Go.Lit.wf, h0, h1, Bool.and_eq_true, decide_eq_true_eq] at h
  exact h
theorem bE (a b : Int) : aBuild Try.prog 45 [(0, .int .i64 a), (1, .int .i64 b)] = some (valP (a, b)) := by kernel_rfl
theorem LowLong_law (W0 : Base) (x : Int) (h : AHeap) (hx : (Go.Lit.int .u8 x).wf = true) : AC Try.prog W0 4 [.int .u8 x] h fun y h' => y = .bool true := by
  obtain ⟨x0, x1⟩ := u8_range hx
  clear hx
  obtain ⟨m, rfl⟩ := Int.eq_ofNat_of_zero_le x0
  clear x0
  refine AC.vc (fn := Try.f4) (c := _) ⟨Try.func4, rfl, by decide⟩ Try.ntmps4 Try.results4 (by simp) fun hwf => ?_
  simp only [argFrame, argFrom, Nat.reduceAdd]
  obtain ⟨n, hn⟩ : ∃ n, n = 3 + m % 198 := ⟨_, rfl⟩
  have h3 : 3 ≤ n := by omega
  have h200 : n ≤ 200 := by omega
  have hrem : awrap .i64 (3 + (awrap .i64 (m : Int)).tmod 198) = (n : Int) := by
    rw [awrap_i64 (m : Int) (by omega) (by omega), Int.tmod_eq_emod_of_nonneg (by omega), awrap_i64 _ (by omega) (by omega)]
    omega
  have hc : aConvert Try.prog h 5 3 (.int .u8 (m : Int)) = some (.int .i64 (awrap .i64 (m : Int)), h) := by
    simp only [aConvert, Try.underlying5, Try.underlying3]
  have c198 : ¬ ((198 : Int) = 0) := by decide
  obtain ⟨h1, h2, e1, e2, l2, w2, nX, gx2⟩ := GX.new hwf (n : Int)
  simp only [kS1, bLookup, bMapSet, wantA, isCall, stepOp, evalO, evalL, evalP, evalM, putDst, flat, kA, kB, Nat.reduceLT, ↓reduceIte, kC, Nat.reduceEqDiff, aBuiltin, abinG, guardFree, abin, aInt, aUn, aNilCheck, retQ, retQ1, aresults, aresultL, aresult, mkF, undefV, reduceCtorEq, kD, kE, kF, kG, kH, kI, kJ, kK, aExtract, calleeOf, hc, c198, hrem, build24e, e1, e2]
  generalize h.next = X at *
  refine KLoop.intro (fun k fr hq => ∃ (j : Nat) (ev : Value), k = n - 1 - j ∧ j ≤ n - 1 ∧ fr = mkF [(3, .int .i64 n), (4, .pointer (some ⟨X, 0, none⟩)), (5, .int .i64 (j + 1 : Nat))] ∧ GX hq X n ev ((rowE n).take j) ∧ Le h hq ∧ Apart h ev)
    (n - 1) [(3, .int .i64 n), (4, .pointer (some ⟨X, 0, none⟩)), (5, .int .i64 ((0 + 1 : Nat) : Int))] (by simp only [hasAll, kS1, bLookup, bMapSet, wantA, isCall, stepOp, evalO, evalL, evalP, evalM, putDst, flat, kA, kB, Nat.reduceLT, ↓reduceIte, kC, Nat.reduceEqDiff, aBuiltin, abinG, guardFree, abin, aInt, aUn, aNilCheck, retQ, retQ1, aresults, aresultL, aresult, mkF, undefV, reduceCtorEq, kD, kE, kF, kG, kH, kI, kJ, kK, aExtract, calleeOf]; simp)
    ⟨0, _, rfl, Nat.zero_le _, rfl, by simpa using gx2, l2, fun b hb => by cases hb⟩ ?_
  clear gx2 w2 l2 e2 e1
  clear h2 h1
  rintro k fr hq hwq ⟨j, ev, rfl, hj, rfl, gx, leq, aev⟩
  simp only [kS1, bLookup, bMapSet, wantA, isCall, stepOp, evalO, evalL, evalP, evalM, putDst, flat, kA, kB, Nat.reduceLT, ↓reduceIte, kC, Nat.reduceEqDiff, aBuiltin, abinG, guardFree, abin, aInt, aUn, aNilCheck, retQ, retQ1, aresults, aresultL, aresult, mkF, undefV, reduceCtorEq, kD, kE, kF, kG, kH, kI, kJ, kK, aExtract, calleeOf]
  refine KCond.intro (fun ht => ?_) (fun hf => ?_)
  · have hlt : j + 1 < n := lt_t ht
    clear ht
    have hw : awrap .i64 (((j + 1 : Nat) : Int) - 1) = (j : Int) := by rw [awrap_i64 _ (by omega) (by omega)]; omega
    have htl : ((rowE n).take j).length ≤ 200 := by rw [List.length_take]; omega
    obtain ⟨v', h4, h5, h6, q4, q5, q6, gx6, w6, lq4, f6, -⟩ := gx.push' hwq ((j : Int), ((j + 1 : Nat) : Int)) (by omega)
    obtain ⟨l6, a6⟩ := f6 h leq nX aev
    have gl := gx.ld
    rw [← rowE_get hlt] at gx6
    simp only [kS1, bLookup, bMapSet, wantA, isCall, stepOp, evalO, evalL, evalP, evalM, putDst, flat, kA, kB, Nat.reduceLT, ↓reduceIte, kC, Nat.reduceEqDiff, aBuiltin, abinG, guardFree, abin, aInt, aUn, aNilCheck, retQ, retQ1, aresults, aresultL, aresult, mkF, undefV, reduceCtorEq, kD, kE, kF, kG, kH, kI, kJ, kK, aExtract, calleeOf, fg1, aadd, Nat.zero_add, gl.2.2, hw, bE, q4, q5, q6, awrap_succ (j + 1) (by omega)]
    exact loop_again (n - 1 - (j + 1)) [(3, .int .i64 n), (4, .pointer (some ⟨X, 0, none⟩)), (5, .int .i64 (j + 1 + 1 : Nat))] (by omega) (by simp only [hasAll, kS1, bLookup, bMapSet, wantA, isCall, stepOp, evalO, evalL, evalP, evalM, putDst, flat, kA, kB, Nat.reduceLT, ↓reduceIte, kC, Nat.reduceEqDiff, aBuiltin, abinG, guardFree, abin, aInt, aUn, aNilCheck, retQ, retQ1, aresults, aresultL, aresult, mkF, undefV, reduceCtorEq, kD, kE, kF, kG, kH, kI, kJ, kK, aExtract, calleeOf]; simp)
      ⟨j + 1, v', rfl, by omega, rfl, gx6, l6, a6⟩
  have hge : n ≤ j + 1 := lt_f hf
  rw [List.take_of_length_le (by rw [rowE_length]; omega)] at gx
  clear hj hge hf
  have hr := row_right h200
  have lX := fun (g : AHeap) (l : Le hq g) => (gx.le l).ld
  simp only [kS1, bLookup, bMapSet, wantA, isCall, stepOp, evalO, evalL, evalP, evalM, putDst, flat, kA, kB, Nat.reduceLT, ↓reduceIte, kC, Nat.reduceEqDiff, aBuiltin, abinG, guardFree, abin, aInt, aUn, aNilCheck, retQ, retQ1, aresults, aresultL, aresult, mkF, undefV, reduceCtorEq, kD, kE, kF, kG, kH, kI, kJ, kK, aExtract, calleeOf, (lX hq (Le.refl _)).1]
  refine KCall.intro (by simp only [kS1, bLookup, bMapSet, wantA, isCall, stepOp, evalO, evalL, evalP, evalM, putDst, flat, kA, kB, Nat.reduceLT, ↓reduceIte, kC, Nat.reduceEqDiff, aBuiltin, abinG, guardFree, abin, aInt, aUn, aNilCheck, retQ, retQ1, aresults, aresultL, aresult, mkF, undefV, reduceCtorEq, kD, kE, kF, kG, kH, kI, kJ, kK, aExtract, calleeOf] <;> rfl) ⟨Try.func19, rfl, by decide⟩ (Bridges_any W0 _ _ hq gx.gr) ?_
  rintro y h2 w2 ⟨l2, ⟨hno, _⟩ | ⟨_, bv, rfl, gb, -⟩⟩
  · exact absurd hr hno
  simp only [Int.toNat_natCast, row_bridges h200] at gb
  simp only [kS1, bLookup, bMapSet, wantA, isCall, stepOp, evalO, evalL, evalP, evalM, putDst, flat, kA, kB, Nat.reduceLT, ↓reduceIte, kC, Nat.reduceEqDiff, aBuiltin, abinG, guardFree, abin, aInt, aUn, aNilCheck, retQ, retQ1, aresults, aresultL, aresult, mkF, undefV, reduceCtorEq, kD, kE, kF, kG, kH, kI, kJ, kK, aExtract, calleeOf, (lX h2 l2).1]
  refine KCall.intro (by simp only [kS1, bLookup, bMapSet, wantA, isCall, stepOp, evalO, evalL, evalP, evalM, putDst, flat, kA, kB, Nat.reduceLT, ↓reduceIte, kC, Nat.reduceEqDiff, aBuiltin, abinG, guardFree, abin, aInt, aUn, aNilCheck, retQ, retQ1, aresults, aresultL, aresult, mkF, undefV, reduceCtorEq, kD, kE, kF, kG, kH, kI, kJ, kK, aExtract, calleeOf] <;> rfl) ⟨Try.func23, rfl, by decide⟩ (Cuts_any W0 _ _ h2 (gx.le l2).gr) ?_
  rintro y h3' w3 ⟨l3, ⟨hno, _⟩ | ⟨_, cv, rfl, gc, -⟩⟩
  · exact absurd hr hno
  simp only [Int.toNat_natCast] at gc
  have l23 := l2.trans l3
  simp only [kS1, bLookup, bMapSet, wantA, isCall, stepOp, evalO, evalL, evalP, evalM, putDst, flat, kA, kB, Nat.reduceLT, ↓reduceIte, kC, Nat.reduceEqDiff, aBuiltin, abinG, guardFree, abin, aInt, aUn, aNilCheck, retQ, retQ1, aresults, aresultL, aresult, mkF, undefV, reduceCtorEq, kD, kE, kF, kG, kH, kI, kJ, kK, aExtract, calleeOf, (lX h3' l23).1]
  refine KCall.intro (by simp only [kS1, bLookup, bMapSet, wantA, isCall, stepOp, evalO, evalL, evalP, evalM, putDst, flat, kA, kB, Nat.reduceLT, ↓reduceIte, kC, Nat.reduceEqDiff, aBuiltin, abinG, guardFree, abin, aInt, aUn, aNilCheck, retQ, retQ1, aresults, aresultL, aresult, mkF, undefV, reduceCtorEq, kD, kE, kF, kG, kH, kI, kJ, kK, aExtract, calleeOf] <;> rfl) ⟨Try.func25, rfl, by decide⟩ (Blocks_any W0 _ _ h3' (gx.le l23).gr) ?_
  rintro y h4 w4 ⟨l4, ⟨hno, _⟩ | ⟨_, kv, rfl, gk⟩⟩
  · exact absurd hr hno
  simp only [Int.toNat_natCast] at gk
  have l24 := l23.trans l4
  have lc := fun g => gc.rl.len (P := Try.prog) Try.underlying35 g
  rw [nat64_length, row_cuts h3] at lc
  have lk := fun g => gk.len (P := Try.prog) Try.underlying38 g
  rw [row_blocks h200] at lk
  have gl4 := lX h4 l24
  have hlr : (rowE n).length ≤ 200 := by rw [rowE_length]; omega
  have d0 : decide ((0 : Int) = 0) = true := by decide
  have hw2 : awrap .i64 ((n : Int) - 2) = ((n - 2 : Nat) : Int) := by rw [awrap_i64 _ (by omega) (by omega)]; omega
  have hw1 : awrap .i64 ((n : Int) - 1) = ((n - 1 : Nat) : Int) := by rw [awrap_i64 _ (by omega) (by omega)]; omega
  have e2 : decide (((n - 2 : Nat) : Int) = ((n - 2 : Nat) : Int)) = true := by simp
  have e1 : decide (((n - 1 : Nat) : Int) = ((n - 1 : Nat) : Int)) = true := by simp
  simp only [kS1, bLookup, bMapSet, wantA, isCall, stepOp, evalO, evalL, evalP, evalM, putDst, flat, kA, kB, Nat.reduceLT, ↓reduceIte, kC, Nat.reduceEqDiff, aBuiltin, abinG, guardFree, abin, aInt, aUn, aNilCheck, retQ, retQ1, aresults, aresultL, aresult, mkF, undefV, reduceCtorEq, kD, kE, kF, kG, kH, kI, kJ, kK, aExtract, calleeOf, bne, wr0, fg1, aadd, Nat.zero_add, gl4.2.2]
  refine KCall.intro (by simp only [kS1, bLookup, bMapSet, wantA, isCall, stepOp, evalO, evalL, evalP, evalM, putDst, flat, kA, kB, Nat.reduceLT, ↓reduceIte, kC, Nat.reduceEqDiff, aBuiltin, abinG, guardFree, abin, aInt, aUn, aNilCheck, retQ, retQ1, aresults, aresultL, aresult, mkF, undefV, reduceCtorEq, kD, kE, kF, kG, kH, kI, kJ, kK, aExtract, calleeOf] <;> rfl) ⟨Try.func22, rfl, by decide⟩ (SamePairs_any W0 bv ev _ _ h4 ((gb.le l3).le l4).pr (gx.le l24).gp.pr (by omega)) ?_
  rintro y h5 w5 ⟨hy, rfl⟩
  obtain rfl : y = .bool true := by rw [hy]; simp
  simp only [kS1, bLookup, bMapSet, wantA, isCall, stepOp, evalO, evalL, evalP, evalM, putDst, flat, kA, kB, Nat.reduceLT, ↓reduceIte, kC, Nat.reduceEqDiff, aBuiltin, abinG, guardFree, abin, aInt, aUn, aNilCheck, retQ, retQ1, aresults, aresultL, aresult, mkF, undefV, reduceCtorEq, kD, kE, kF, kG, kH, kI, kJ, kK, aExtract, calleeOf, bne, wr0, lc, lk, hw2, hw1, e2, e1, fg1, aadd, Nat.zero_add, gl4.2.2]
  refine KCall.intro (by simp only [kS1, bLookup, bMapSet, wantA, isCall, stepOp, evalO, evalL, evalP, evalM, putDst, flat, kA, kB, Nat.reduceLT, ↓reduceIte, kC, Nat.reduceEqDiff, aBuiltin, abinG, guardFree, abin, aInt, aUn, aNilCheck, retQ, retQ1, aresults, aresultL, aresult, mkF, undefV, reduceCtorEq, kD, kE, kF, kG, kH, kI, kJ, kK, aExtract, calleeOf] <;> rfl) ⟨Try.func16, rfl, by decide⟩ (CopyPairs_any W0 ev (rowE n) h5 (gx.le l24).gp.pr (by omega)) ?_
  rintro c h6 w6 ⟨gc6, l6, a6⟩
  obtain ⟨v', h7, h8, q7, q8, g8, w8, lq, f8, -⟩ := gc6.push w6 (((n - 1 : Nat) : Int), 0) (by omega)
  obtain ⟨l8, -⟩ := f8 h5 l6 a6
  have hrl : rowE n ++ [(((n - 1 : Nat) : Int), (0 : Int))] = ringL n := rfl
  rw [hrl] at g8
  simp only [kS1, bLookup, bMapSet, wantA, isCall, stepOp, evalO, evalL, evalP, evalM, putDst, flat, kA, kB, Nat.reduceLT, ↓reduceIte, kC, Nat.reduceEqDiff, aBuiltin, abinG, guardFree, abin, aInt, aUn, aNilCheck, retQ, retQ1, aresults, aresultL, aresult, mkF, undefV, reduceCtorEq, kD, kE, kF, kG, kH, kI, kJ, kK, aExtract, calleeOf, hw1, bE, q7, q8]
  refine KCall.intro (by simp only [kS1, bLookup, bMapSet, wantA, isCall, stepOp, evalO, evalL, evalP, evalM, putDst, flat, kA, kB, Nat.reduceLT, ↓reduceIte, kC, Nat.reduceEqDiff, aBuiltin, abinG, guardFree, abin, aInt, aUn, aNilCheck, retQ, retQ1, aresults, aresultL, aresult, mkF, undefV, reduceCtorEq, kD, kE, kF, kG, kH, kI, kJ, kK, aExtract, calleeOf] <;> rfl) ⟨Try.func30, rfl, by decide⟩ (New_any W0 (n : Int) v' (ringL n) h8 g8.pr (by rw [ringL, List.length_append]; simp; omega)) ?_
  rintro y h9 w9 ⟨l9, ⟨hno, _⟩ | ⟨_, rv, rfl, gr, -⟩⟩
  · exact absurd (ring_ok h3 h200) hno
  have gr : GP h9 rv (ringE n) := by rw [ringE]; exact gr
  have hR := ring_right h3 h200
  obtain ⟨h10', h10, e10, e10s, l10, w10, lG⟩ := newG w9 (n := (n : Int)) gr.pr
  simp only [kS1, bLookup, bMapSet, wantA, isCall, stepOp, evalO, evalL, evalP, evalM, putDst, flat, kA, kB, Nat.reduceLT, ↓reduceIte, kC, Nat.reduceEqDiff, aBuiltin, abinG, guardFree, abin, aInt, aUn, aNilCheck, retQ, retQ1, aresults, aresultL, aresult, mkF, undefV, reduceCtorEq, kD, kE, kF, kG, kH, kI, kJ, kK, aExtract, calleeOf, e10, e10s]
  generalize h9.next = Y at *
  have gr10 := gr.le l10
  simp only [kS1, bLookup, bMapSet, wantA, isCall, stepOp, evalO, evalL, evalP, evalM, putDst, flat, kA, kB, Nat.reduceLT, ↓reduceIte, kC, Nat.reduceEqDiff, aBuiltin, abinG, guardFree, abin, aInt, aUn, aNilCheck, retQ, retQ1, aresults, aresultL, aresult, mkF, undefV, reduceCtorEq, kD, kE, kF, kG, kH, kI, kJ, kK, aExtract, calleeOf, (lG h10 (Le.refl _)).1]
  refine KCall.intro (by simp only [kS1, bLookup, bMapSet, wantA, isCall, stepOp, evalO, evalL, evalP, evalM, putDst, flat, kA, kB, Nat.reduceLT, ↓reduceIte, kC, Nat.reduceEqDiff, aBuiltin, abinG, guardFree, abin, aInt, aUn, aNilCheck, retQ, retQ1, aresults, aresultL, aresult, mkF, undefV, reduceCtorEq, kD, kE, kF, kG, kH, kI, kJ, kK, aExtract, calleeOf] <;> rfl) ⟨Try.func19, rfl, by decide⟩ (Bridges_any W0 _ ⟨(n : Int), ringE n⟩ h10 ⟨rv, rfl, gr10.pr⟩) ?_
  rintro y h11 w11 ⟨l11, ⟨hno, _⟩ | ⟨_, bv2, rfl, gb2, -⟩⟩
  · exact absurd hR hno
  simp only [Int.toNat_natCast, ring_bridges h3 h200] at gb2
  simp only [kS1, bLookup, bMapSet, wantA, isCall, stepOp, evalO, evalL, evalP, evalM, putDst, flat, kA, kB, Nat.reduceLT, ↓reduceIte, kC, Nat.reduceEqDiff, aBuiltin, abinG, guardFree, abin, aInt, aUn, aNilCheck, retQ, retQ1, aresults, aresultL, aresult, mkF, undefV, reduceCtorEq, kD, kE, kF, kG, kH, kI, kJ, kK, aExtract, calleeOf, (lG h11 l11).1]
  refine KCall.intro (by simp only [kS1, bLookup, bMapSet, wantA, isCall, stepOp, evalO, evalL, evalP, evalM, putDst, flat, kA, kB, Nat.reduceLT, ↓reduceIte, kC, Nat.reduceEqDiff, aBuiltin, abinG, guardFree, abin, aInt, aUn, aNilCheck, retQ, retQ1, aresults, aresultL, aresult, mkF, undefV, reduceCtorEq, kD, kE, kF, kG, kH, kI, kJ, kK, aExtract, calleeOf] <;> rfl) ⟨Try.func23, rfl, by decide⟩ (Cuts_any W0 _ ⟨(n : Int), ringE n⟩ h11 ⟨rv, rfl, (gr10.le l11).pr⟩) ?_
  rintro y h12 w12 ⟨l12, ⟨hno, _⟩ | ⟨_, cv2, rfl, gc2, -⟩⟩
  · exact absurd hR hno
  simp only [Int.toNat_natCast, ring_cuts h3 h200] at gc2
  have l112 := l11.trans l12
  simp only [kS1, bLookup, bMapSet, wantA, isCall, stepOp, evalO, evalL, evalP, evalM, putDst, flat, kA, kB, Nat.reduceLT, ↓reduceIte, kC, Nat.reduceEqDiff, aBuiltin, abinG, guardFree, abin, aInt, aUn, aNilCheck, retQ, retQ1, aresults, aresultL, aresult, mkF, undefV, reduceCtorEq, kD, kE, kF, kG, kH, kI, kJ, kK, aExtract, calleeOf, (lG h12 l112).1]
  refine KCall.intro (by simp only [kS1, bLookup, bMapSet, wantA, isCall, stepOp, evalO, evalL, evalP, evalM, putDst, flat, kA, kB, Nat.reduceLT, ↓reduceIte, kC, Nat.reduceEqDiff, aBuiltin, abinG, guardFree, abin, aInt, aUn, aNilCheck, retQ, retQ1, aresults, aresultL, aresult, mkF, undefV, reduceCtorEq, kD, kE, kF, kG, kH, kI, kJ, kK, aExtract, calleeOf] <;> rfl) ⟨Try.func25, rfl, by decide⟩ (Blocks_any W0 _ ⟨(n : Int), ringE n⟩ h12 ⟨rv, rfl, (gr10.le l112).pr⟩) ?_
  rintro y h13 w13 ⟨l13, ⟨hno, _⟩ | ⟨_, kv2, rfl, gk2⟩⟩
  · exact absurd hR hno
  simp only [Int.toNat_natCast, ring_blocks h3 h200] at gk2
  have lb2 := fun g => gb2.pr.len g
  have lc2 := fun g => gc2.rl.len (P := Try.prog) Try.underlying35 g
  have lk2 := fun g => gk2.len (P := Try.prog) Try.underlying38 g
  simp only [nat64, List.map_nil, List.length_nil, List.length_cons, Nat.zero_add] at lb2 lc2 lk2
  have ad := gk2.addr (P := Try.prog) Try.underlying38 Try.underlying22 (by kernel_rfl) (k := .i64) 0 (by simp)
  obtain ⟨u, ldu, hu⟩ := gk2.load (P := Try.prog) Try.underlying22 rfl 0 (by simp)
  simp only [List.getElem_cons_zero] at hu
  have lu := fun g => hu.len g
  rw [ring_length h3] at lu
  have dn : decide ((n : Int) = (n : Int)) = true := by simp
  have dz : decide (((1 : Nat) : Int) = 1) = true := by decide
  have da : decide (awrap .i64 (((0 : Nat) : Int) + ((0 : Nat) : Int)) = 0) = true := by decide
  rw [show ((0 : Nat) : Int) = 0 from rfl] at ad
  simp only [kS1, bLookup, bMapSet, wantA, isCall, stepOp, evalO, evalL, evalP, evalM, putDst, flat, kA, kB, Nat.reduceLT, ↓reduceIte, kC, Nat.reduceEqDiff, aBuiltin, abinG, guardFree, abin, aInt, aUn, aNilCheck, retQ, retQ1, aresults, aresultL, aresult, mkF, undefV, reduceCtorEq, kD, kE, kF, kG, kH, kI, kJ, kK, aExtract, calleeOf, wr0, lb2, lc2, lk2, da, dz, ad, ldu, lu, dn]
  refine KCall.intro (by simp only [kS1, bLookup, bMapSet, wantA, isCall, stepOp, evalO, evalL, evalP, evalM, putDst, flat, kA, kB, Nat.reduceLT, ↓reduceIte, kC, Nat.reduceEqDiff, aBuiltin, abinG, guardFree, abin, aInt, aUn, aNilCheck, retQ, retQ1, aresults, aresultL, aresult, mkF, undefV, reduceCtorEq, kD, kE, kF, kG, kH, kI, kJ, kK, aExtract, calleeOf] <;> rfl) ⟨Try.func15, rfl, by decide⟩ (awake_any W0 h13) ?_
  rintro y h14 w14 ⟨rfl, l14⟩
  simp only [kS1, bLookup, bMapSet, wantA, isCall, stepOp, evalO, evalL, evalP, evalM, putDst, flat, kA, kB, Nat.reduceLT, ↓reduceIte, kC, Nat.reduceEqDiff, aBuiltin, abinG, guardFree, abin, aInt, aUn, aNilCheck, retQ, retQ1, aresults, aresultL, aresult, mkF, undefV, reduceCtorEq, kD, kE, kF, kG, kH, kI, kJ, kK, aExtract, calleeOf]
end Go.Fw
