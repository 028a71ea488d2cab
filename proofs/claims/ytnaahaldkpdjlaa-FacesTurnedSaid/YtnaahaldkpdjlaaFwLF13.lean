/- A text of the proof. -/
import Derived.Test.YtnaahaldkpdjlaaFwLF10
import Derived.Test.YtnaahaldkpdjlaaFwLB18
set_option linter.unusedSimpArgs false
set_option linter.unusedVariables false
namespace Go.Fw
open Go.Proofs
attribute [local irreducible] KO4 KO3 KO2 KO1 KO KN KX KE VK KCond KDraw KCall KLoop
set_option maxHeartbeats 16000000
set_option maxRecDepth 10000
attribute [local irreducible] facesM PlaneM
theorem mkP6 (h : AHeap) (p0 p1 p2 p3 p4 p5 : Pr) : aBuildSlice Try.prog h 22 6 [(0, valP p0), (1, valP p1), (2, valP p2), (3, valP p3), (4, valP p4), (5, valP p5)] = some (.slice (some ⟨h.next, 0, none⟩) 6 6, h.alloc (.cells (flatP [p0, p1, p2, p3, p4, p5]))) := by kernel_rfl
theorem awake7_any (W0 : Base) (h : AHeap) : AC Try.prog W0 27 [] h fun x h' => x = .bool true ∧ Le h h' := by
 refine AC.vc (fn := Try.f27) (c := _) ⟨Try.func27, rfl, by decide⟩ Try.ntmps27 Try.results27 (by simp) fun hwf => ?_
 simp only [argFrame, argFrom, Nat.reduceAdd]
 obtain ⟨v0, h1, v1, h2, v2, h3, v, h4, e1, e2, e3, e4, l4, w4, rt⟩ := rot3 hwf 1 2 0 2 0 1
 simp only [kS1, bLookup, bMapSet, wantA, isCall, stepOp, evalO, evalL, evalP, evalM, putDst, flat, kA, kB, Nat.reduceLT, ↓reduceIte, kC, Nat.reduceEqDiff, aBuiltin, abinG, guardFree, abin, aInt, aUn, aNilCheck, retQ, retQ1, aresults, aresultL, aresult, mkF, undefV, reduceCtorEq, kD, kE, kF, kG, kH, kI, kJ, kK, aExtract, calleeOf, e1, e2, e3, e4]
 clear e1 e2 e3 e4
 clear h1 h2 h3
 refine KCall.intro (by simp only [kS1, bLookup, bMapSet, wantA, isCall, stepOp, evalO, evalL, evalP, evalM, putDst, flat, kA, kB, Nat.reduceLT, ↓reduceIte, kC, Nat.reduceEqDiff, aBuiltin, abinG, guardFree, abin, aInt, aUn, aNilCheck, retQ, retQ1, aresults, aresultL, aresult, mkF, undefV, reduceCtorEq, kD, kE, kF, kG, kH, kI, kJ, kK, aExtract, calleeOf] <;> rfl) ⟨Try.func30, rfl, by decide⟩ (Faces_any W0 v _ h4 rt) ?_
 rintro x h5 w5 ⟨l5, ⟨rfl, hno⟩ | ⟨es, fv, -, -, rfl, hf⟩⟩
 ·exact absurd ⟨triE, triERt, triG⟩ hno
 have hf1 : RL (RL isI) h5 fv [[0, 1, 2], [0, 2, 1]] := by rw [← tri_faces]; exact hf
 clear hf es rt
 have L5 := l4.trans l5
 obtain ⟨v0, h1, v1, h2, v, h6, e1, e2, e3, l6, w6, rt⟩ := rot2 w5 1
 simp only [kS1, bLookup, bMapSet, wantA, isCall, stepOp, evalO, evalL, evalP, evalM, putDst, flat, kA, kB, Nat.reduceLT, ↓reduceIte, kC, Nat.reduceEqDiff, aBuiltin, abinG, guardFree, abin, aInt, aUn, aNilCheck, retQ, retQ1, aresults, aresultL, aresult, mkF, undefV, reduceCtorEq, kD, kE, kF, kG, kH, kI, kJ, kK, aExtract, calleeOf, e1, e2, e3]
 clear e1 e2 e3
 clear h1 h2
 refine KCall.intro (by simp only [kS1, bLookup, bMapSet, wantA, isCall, stepOp, evalO, evalL, evalP, evalM, putDst, flat, kA, kB, Nat.reduceLT, ↓reduceIte, kC, Nat.reduceEqDiff, aBuiltin, abinG, guardFree, abin, aInt, aUn, aNilCheck, retQ, retQ1, aresults, aresultL, aresult, mkF, undefV, reduceCtorEq, kD, kE, kF, kG, kH, kI, kJ, kK, aExtract, calleeOf] <;> rfl) ⟨Try.func30, rfl, by decide⟩ (Faces_any W0 v _ h6 rt) ?_
 rintro x h7 w7 ⟨l7, ⟨rfl, -⟩ | ⟨es, fv2, hr, G, -, -⟩⟩
 rotate_left
 ·exact absurd ⟨es, hr, G⟩ one_not
 clear rt
 have L7 := l6.trans l7
 obtain ⟨h8, e8, l8, w8, o8⟩ := alloc_f w7 (flatP k4E)
 have pE : PR h8 (.slice (some ⟨h7.next, 0, none⟩) 6 6) k4E := PR.made o8 rfl
 have bE : aBuildSlice Try.prog h7 22 6 [(0, valP (0, 1)), (1, valP (0, 2)), (2, valP (0, 3)), (3, valP (1, 2)), (4, valP (1, 3)), (5, valP (2, 3))] = some (.slice (some ⟨h7.next, 0, none⟩) 6 6, h8) := by rw [mkP6]; exact congrArg (fun g => some (_, g)) e8
 have bG := build24 (n := 4) pE.sl
 obtain ⟨h9', h9, a9, s9, l9, w9, lG⟩ := newG (n := 4) w8 pE
 generalize h7.next = A at *
 generalize h8.next = B at *
 have gr : ∀ g, Le h9 g → GR g (.agg #[.int .i64 4, .slice (some ⟨A, 0, none⟩) 6 6]) ⟨4, k4E⟩ := fun g l => ⟨_, rfl, (pE.le l9).le l⟩
 generalize Value.slice (some ⟨A, 0, none⟩) 6 6 = ev at *
 have L9 := (L7.trans l8).trans l9
 simp only [kS1, bLookup, bMapSet, wantA, isCall, stepOp, evalO, evalL, evalP, evalM, putDst, flat, kA, kB, Nat.reduceLT, ↓reduceIte, kC, Nat.reduceEqDiff, aBuiltin, abinG, guardFree, abin, aInt, aUn, aNilCheck, retQ, retQ1, aresults, aresultL, aresult, mkF, undefV, reduceCtorEq, kD, kE, kF, kG, kH, kI, kJ, kK, aExtract, calleeOf, bP, bE, bG, a9, s9]
 clear bE bG a9 s9 o8 e8
 obtain ⟨v0, h1, v1, h2, v2, h3, v3, h4', nv, h10, e1, e2, e3, e4, e5, l10, w10, rn⟩ := rot4 w9 1 2 3 0 2 3 0 1 3 0 1 2
 simp only [kS1, bLookup, bMapSet, wantA, isCall, stepOp, evalO, evalL, evalP, evalM, putDst, flat, kA, kB, Nat.reduceLT, ↓reduceIte, kC, Nat.reduceEqDiff, aBuiltin, abinG, guardFree, abin, aInt, aUn, aNilCheck, retQ, retQ1, aresults, aresultL, aresult, mkF, undefV, reduceCtorEq, kD, kE, kF, kG, kH, kI, kJ, kK, aExtract, calleeOf, e1, e2, e3, e4, e5]
 clear e1 e2 e3 e4 e5
 clear h1 h2 h3 h4'
 obtain ⟨v0, h1, v1, h2, v2, h3, v3, h4', iv, h11, e1, e2, e3, e4, e5, l11, w11, ri⟩ := rot4 w10 1 2 3 0 3 2 0 1 3 0 2 1
 simp only [kS1, bLookup, bMapSet, wantA, isCall, stepOp, evalO, evalL, evalP, evalM, putDst, flat, kA, kB, Nat.reduceLT, ↓reduceIte, kC, Nat.reduceEqDiff, aBuiltin, abinG, guardFree, abin, aInt, aUn, aNilCheck, retQ, retQ1, aresults, aresultL, aresult, mkF, undefV, reduceCtorEq, kD, kE, kF, kG, kH, kI, kJ, kK, aExtract, calleeOf, e1, e2, e3, e4, e5]
 clear e1 e2 e3 e4 e5
 clear h1 h2 h3 h4'
 have rn11 := rn.le (Stays.RL Stays.isI) l11
 refine KCall.intro (by simp only [kS1, bLookup, bMapSet, wantA, isCall, stepOp, evalO, evalL, evalP, evalM, putDst, flat, kA, kB, Nat.reduceLT, ↓reduceIte, kC, Nat.reduceEqDiff, aBuiltin, abinG, guardFree, abin, aInt, aUn, aNilCheck, retQ, retQ1, aresults, aresultL, aresult, mkF, undefV, reduceCtorEq, kD, kE, kF, kG, kH, kI, kJ, kK, aExtract, calleeOf] <;> rfl) ⟨Try.func30, rfl, by decide⟩ (Faces_any W0 nv _ h11 rn11) ?_
 rintro x h12 w12 ⟨l12, ⟨rfl, hno⟩ | ⟨es, fn, -, -, rfl, hf⟩⟩
 ·exact absurd ⟨k4E, k4ERt, notG⟩ hno
 have hfn : RL (RL isI) h12 fn [[0, 1, 2, 3], [0, 2, 1, 3, 2, 0, 3, 1]] := by rw [← not_faces]; exact hf
 clear hf es
 simp only [kS1, bLookup, bMapSet, wantA, isCall, stepOp, evalO, evalL, evalP, evalM, putDst, flat, kA, kB, Nat.reduceLT, ↓reduceIte, kC, Nat.reduceEqDiff, aBuiltin, abinG, guardFree, abin, aInt, aUn, aNilCheck, retQ, retQ1, aresults, aresultL, aresult, mkF, undefV, reduceCtorEq, kD, kE, kF, kG, kH, kI, kJ, kK, aExtract, calleeOf]
 have ri12 := ri.le (Stays.RL Stays.isI) l12
 refine KCall.intro (by simp only [kS1, bLookup, bMapSet, wantA, isCall, stepOp, evalO, evalL, evalP, evalM, putDst, flat, kA, kB, Nat.reduceLT, ↓reduceIte, kC, Nat.reduceEqDiff, aBuiltin, abinG, guardFree, abin, aInt, aUn, aNilCheck, retQ, retQ1, aresults, aresultL, aresult, mkF, undefV, reduceCtorEq, kD, kE, kF, kG, kH, kI, kJ, kK, aExtract, calleeOf] <;> rfl) ⟨Try.func30, rfl, by decide⟩ (Faces_any W0 iv _ h12 ri12) ?_
 rintro x h13 w13 ⟨l13, ⟨rfl, hno⟩ | ⟨es, fi, -, -, rfl, hf⟩⟩
 ·exact absurd ⟨k4E, k4ERt, isG4⟩ hno
 have hfi : RL (RL isI) h13 fi (facesM 4 isR) := hf
 clear hf es
 have lfi := fun g => hfi.len (P := Try.prog) Try.underlying32 g
 rw [is_faces] at lfi
 have aw0 : awrap .i64 (0 + 0) = 0 := by decide
 have d0 : decide ((0 : Int) = 0) = true := by decide
 have d70 : decide ((70 : Int) = 70) = true := by decide
 have L13 := (l12.trans l13)
 obtain ⟨v0, h1, v1, h2, wv, h14, e1, e2, e3, l14, w14, rw1⟩ := lis2 w13 0 1 2 0 2 1
 simp only [kS1, bLookup, bMapSet, wantA, isCall, stepOp, evalO, evalL, evalP, evalM, putDst, flat, kA, kB, Nat.reduceLT, ↓reduceIte, kC, Nat.reduceEqDiff, aBuiltin, abinG, guardFree, abin, aInt, aUn, aNilCheck, retQ, retQ1, aresults, aresultL, aresult, mkF, undefV, reduceCtorEq, kD, kE, kF, kG, kH, kI, kJ, kK, aExtract, calleeOf, aw0, d0, d70, e1, e2, e3]
 clear e1 e2 e3
 clear h1 h2
 have L5_14 : Le h5 h14 := ((((L9.trans l10).trans l11).trans L13).trans l14)
 refine KCall.intro (by simp only [kS1, bLookup, bMapSet, wantA, isCall, stepOp, evalO, evalL, evalP, evalM, putDst, flat, kA, kB, Nat.reduceLT, ↓reduceIte, kC, Nat.reduceEqDiff, aBuiltin, abinG, guardFree, abin, aInt, aUn, aNilCheck, retQ, retQ1, aresults, aresultL, aresult, mkF, undefV, reduceCtorEq, kD, kE, kF, kG, kH, kI, kJ, kK, aExtract, calleeOf] <;> rfl) ⟨Try.func32, rfl, by decide⟩ (SameLists_any W0 fv wv _ _ h14 (hf1.le (Stays.RL Stays.isI) L5_14) rw1 (by decide) (by decide)) ?_
 rintro x h15 w15 ⟨rfl, rfl⟩
 have dd : decide (([[0, 1, 2], [0, 2, 1]] : List (List Int)) = [[0, 1, 2], [0, 2, 1]]) = true := by decide
 obtain ⟨v0, h1, v1, h2, wv2, h16, e1, e2, e3, l16, w16, rw2⟩ := lis12 w14 0 1 2 3 0 2 1 3 2 0 3 1
 simp only [kS1, bLookup, bMapSet, wantA, isCall, stepOp, evalO, evalL, evalP, evalM, putDst, flat, kA, kB, Nat.reduceLT, ↓reduceIte, kC, Nat.reduceEqDiff, aBuiltin, abinG, guardFree, abin, aInt, aUn, aNilCheck, retQ, retQ1, aresults, aresultL, aresult, mkF, undefV, reduceCtorEq, kD, kE, kF, kG, kH, kI, kJ, kK, aExtract, calleeOf, dd, e1, e2, e3]
 clear e1 e2 e3
 clear h1 h2
 have L12_16 : Le h12 h16 := (l13.trans l14).trans l16
 refine KCall.intro (by simp only [kS1, bLookup, bMapSet, wantA, isCall, stepOp, evalO, evalL, evalP, evalM, putDst, flat, kA, kB, Nat.reduceLT, ↓reduceIte, kC, Nat.reduceEqDiff, aBuiltin, abinG, guardFree, abin, aInt, aUn, aNilCheck, retQ, retQ1, aresults, aresultL, aresult, mkF, undefV, reduceCtorEq, kD, kE, kF, kG, kH, kI, kJ, kK, aExtract, calleeOf] <;> rfl) ⟨Try.func32, rfl, by decide⟩ (SameLists_any W0 fn wv2 _ _ h16 (hfn.le (Stays.RL Stays.isI) L12_16) rw2 (by decide) (by decide)) ?_
 rintro x h17 w17 ⟨rfl, rfl⟩
 have dd2 : decide (([[0, 1, 2, 3], [0, 2, 1, 3, 2, 0, 3, 1]] : List (List Int)) = [[0, 1, 2, 3], [0, 2, 1, 3, 2, 0, 3, 1]]) = true := by decide
 have d4 : decide (((4 : Nat) : Int) = 4) = true := by decide
 have L9_16 : Le h9 h17 := (((l10.trans l11).trans L13).trans l14).trans l16
 have G16 := lG h17 L9_16
 simp only [kS1, bLookup, bMapSet, wantA, isCall, stepOp, evalO, evalL, evalP, evalM, putDst, flat, kA, kB, Nat.reduceLT, ↓reduceIte, kC, Nat.reduceEqDiff, aBuiltin, abinG, guardFree, abin, aInt, aUn, aNilCheck, retQ, retQ1, aresults, aresultL, aresult, mkF, undefV, reduceCtorEq, kD, kE, kF, kG, kH, kI, kJ, kK, aExtract, calleeOf, dd2, lfi, d4, G16.1]
 refine KCall.intro (by simp only [kS1, bLookup, bMapSet, wantA, isCall, stepOp, evalO, evalL, evalP, evalM, putDst, flat, kA, kB, Nat.reduceLT, ↓reduceIte, kC, Nat.reduceEqDiff, aBuiltin, abinG, guardFree, abin, aInt, aUn, aNilCheck, retQ, retQ1, aresults, aresultL, aresult, mkF, undefV, reduceCtorEq, kD, kE, kF, kG, kH, kI, kJ, kK, aExtract, calleeOf] <;> rfl) ⟨Try.func33, rfl, by decide⟩ (Plane_any W0 _ nv ⟨4, k4E⟩ _ h17 (gr h17 L9_16) (rn11.le (Stays.RL Stays.isI) ((L13.trans l14).trans l16))) ?_
 rintro x h18 w18 ⟨⟨b, rfl, hb⟩, l18⟩
 obtain rfl : b = false := by
  cases b
  ·rfl
  ·exact absurd (hb.1 rfl).2.2 not_plane
 have G18 := lG h18 (L9_16.trans l18)
 simp only [kS1, bLookup, bMapSet, wantA, isCall, stepOp, evalO, evalL, evalP, evalM, putDst, flat, kA, kB, Nat.reduceLT, ↓reduceIte, kC, Nat.reduceEqDiff, aBuiltin, abinG, guardFree, abin, aInt, aUn, aNilCheck, retQ, retQ1, aresults, aresultL, aresult, mkF, undefV, reduceCtorEq, kD, kE, kF, kG, kH, kI, kJ, kK, aExtract, calleeOf, G18.1]
 refine KCall.intro (by simp only [kS1, bLookup, bMapSet, wantA, isCall, stepOp, evalO, evalL, evalP, evalM, putDst, flat, kA, kB, Nat.reduceLT, ↓reduceIte, kC, Nat.reduceEqDiff, aBuiltin, abinG, guardFree, abin, aInt, aUn, aNilCheck, retQ, retQ1, aresults, aresultL, aresult, mkF, undefV, reduceCtorEq, kD, kE, kF, kG, kH, kI, kJ, kK, aExtract, calleeOf] <;> rfl) ⟨Try.func33, rfl, by decide⟩ (Plane_any W0 _ iv ⟨4, k4E⟩ _ h18 (gr h18 (L9_16.trans l18)) (ri12.le (Stays.RL Stays.isI) (((l13.trans l14).trans l16).trans l18))) ?_
 rintro x h19 w19 ⟨⟨b, rfl, hb⟩, l19⟩
 obtain rfl : b = true := hb.2 ⟨k4ERt, isG4, is_plane⟩
 simp only [kS1, bLookup, bMapSet, wantA, isCall, stepOp, evalO, evalL, evalP, evalM, putDst, flat, kA, kB, Nat.reduceLT, ↓reduceIte, kC, Nat.reduceEqDiff, aBuiltin, abinG, guardFree, abin, aInt, aUn, aNilCheck, retQ, retQ1, aresults, aresultL, aresult, mkF, undefV, reduceCtorEq, kD, kE, kF, kG, kH, kI, kJ, kK, aExtract, calleeOf]
 exact ⟨trivial, ((((L5.trans L9).trans L9_16).trans l18).trans l19)⟩
end Go.Fw
namespace Go.Fw
open Go.Proofs
set_option maxHeartbeats 16000000
set_option maxRecDepth 10000
attribute [local instance] Classical.propDecidable
theorem GI.lo {h : AHeap} {v : Value} {xs : List Int} (g : GI h v xs) {i : Nat} (hi : i ≤ xs.length) : ∃ v', aSlice Try.prog 38 v none (some (.int .i64 i)) none = some v' ∧ RL isI h v' (xs.take i) := by
 have gc := GI.rl g
 obtain ⟨hl, ⟨rfl, hn⟩ | ⟨id, c, cap, rfl, ho, ht, hc⟩⟩ := g
 ·obtain rfl : xs = [] := List.eq_nil_of_length_eq_zero hn
  obtain rfl : i = 0 := by simpa using hi
  refine ⟨.slice none 0 0, ?_, by simpa using gc⟩
  have : ¬ UNK ≤ 0 := by decide
  simp [aSlice, Try.underlying38, Try.underlying3, this, aBounds, aBound]
 ·have n1 : (0 : Int) ≤ i := by omega
  have n2 : (i : Int) ≤ xs.length := by omega
  have rs := (RL.cellsI gc)
  have hp := rs.part (cap' := cap) (lo := 0) (hi := i) (Nat.zero_le _) hi (by simp)
  have hx : (((xs.map (Value.int .i64)).drop 0).take (i - 0)) = (xs.take i).map (Value.int .i64) := by simp [List.map_take]
  rw [hx] at hp
  have a0 : aadd ⟨id, 0, none⟩ 0 = ⟨id, 0, none⟩ := rfl
  rcases hc with rfl | ⟨rfl, hn⟩
  ·refine ⟨.slice (some (aadd ⟨id, 0, none⟩ 0)) (i - 0) (UNK + 1), ?_, RL.ofI hp⟩
   have ts : tsize Try.prog 3 = 1 := by kernel_rfl
   simp [aSlice, Try.underlying38, Try.underlying3, ts, aBounds, aBound, n1, n2]
  ·have hno : ¬ UNK ≤ xs.length := Nat.not_le.2 (Nat.lt_of_lt_of_le hn (by decide))
   refine ⟨.slice (some (aadd ⟨id, 0, none⟩ 0)) (i - 0) xs.length, ?_, RL.ofI hp⟩
   simp [aSlice, Try.underlying38, Try.underlying3, aBounds, aBound, n1, n2, hno, a0]
theorem GI.up {h : AHeap} {v : Value} {xs : List Int} (g : GI h v xs) {i : Nat} (hi : i ≤ xs.length) : ∃ v', aSlice Try.prog 38 v (some (.int .i64 i)) none none = some v' ∧ RL isI h v' (xs.drop i) := by
 have gc := GI.rl g
 obtain ⟨hl, ⟨rfl, hn⟩ | ⟨id, c, cap, rfl, ho, ht, hc⟩⟩ := g
 ·obtain rfl : xs = [] := List.eq_nil_of_length_eq_zero hn
  obtain rfl : i = 0 := by simpa using hi
  refine ⟨.slice none 0 0, ?_, by simpa using gc⟩
  have : ¬ UNK ≤ 0 := by decide
  simp [aSlice, Try.underlying38, Try.underlying3, this, aBounds, aBound]
 ·have n1 : (0 : Int) ≤ i := by omega
  have n2 : (i : Int) ≤ xs.length := by omega
  have ts : tsize Try.prog 3 = 1 := by kernel_rfl
  have rs := (RL.cellsI gc)
  have hx : (((xs.map (Value.int .i64)).drop i).take (xs.length - i)) = (xs.drop i).map (Value.int .i64) := by
   rw [← List.map_drop, List.take_of_length_le (by simp)]
  rcases hc with rfl | ⟨rfl, hn⟩
  ·have hp := rs.part (cap' := UNK + 1) (lo := i) (hi := xs.length) hi (Nat.le_refl _) (by simp)
   rw [hx] at hp
   refine ⟨.slice (some (aadd ⟨id, 0, none⟩ i)) (xs.length - i) (UNK + 1), ?_, RL.ofI hp⟩
   simp [aSlice, Try.underlying38, Try.underlying3, ts, aBounds, aBound, n1, n2]
  ·have hno : ¬ UNK ≤ xs.length := Nat.not_le.2 (Nat.lt_of_lt_of_le hn (by decide))
   have hp := rs.part (cap' := xs.length - i) (lo := i) (hi := xs.length) hi (Nat.le_refl _) (by simp)
   rw [hx] at hp
   by_cases c : xs.length = i
   ·refine ⟨.slice (some ⟨id, 0, none⟩) 0 0, ?_, ?_⟩
    ·simp [aSlice, Try.underlying38, Try.underlying3, aBounds, aBound, n1, n2, hno, c.symm]
    ·rw [List.drop_of_length_le (by omega)]; exact RL.ofI (RS.none' (a := none) (cap := 0) rfl)
   ·refine ⟨.slice (some (aadd ⟨id, 0, none⟩ i)) (xs.length - i) (xs.length - i), ?_, RL.ofI hp⟩
    simp [aSlice, Try.underlying38, Try.underlying3, ts, aBounds, aBound, n1, n2, hno, c]
def Turned (rs ts : List (List Int)) : Prop := ts.length = rs.length ∧ ∀ v, v < rs.length → ∃ k, k ≤ (rs.getD v []).length ∧ ts.getD v [] = (rs.getD v []).drop k ++ (rs.getD v []).take k
section
variable {n : Nat} {es : List Pr} {rs ts : List (List Int)}
theorem Turned.rotG (T : Turned rs ts) (G : RotG n es rs) : RotG n es ts := by
 refine ⟨by rw [T.1]; exact G.len, fun v hv => ?_⟩
 obtain ⟨k, _, e⟩ := T.2 v (by rw [G.len]; exact hv)
 rw [e]
 refine List.Perm.trans ?_ (G.perm v hv)
 refine List.perm_append_comm.trans ?_
 rw [List.take_append_drop]
theorem Turned.faces (T : Turned rs ts) (hr : InR n es) (ha : Asc es) (G : RotG n es rs) : facesM n ts = facesM n rs := by
 have G2 := T.rotG G
 rw [facesM, facesM, facesF_congr (G.isRot hr ha) (G2.isRot hr ha) (fun v w => by rw [G.mem hr, G2.mem hr]) fun v w hw => ?_]
 have hv : v < n := ((G.mem hr).1 hw).lt hr |>.1
 obtain ⟨k, _, e⟩ := T.2 v (by rw [G.len]; exact hv)
 have nd := (G.isRot hr ha).nd v
 have e1 : rotN ts v = (rotN rs v).drop k ++ (rotN rs v).take k := by
  unfold rotN; rw [e, List.map_append, List.map_drop, List.map_take]
 have e2 : rotN rs v = (rotN rs v).take k ++ (rotN rs v).drop k := (List.take_append_drop k _).symm
 rw [e1]
 have nd' : ((rotN rs v).take k ++ (rotN rs v).drop k).Nodup := by rw [← e2]; exact nd
 have := nx_rot nd' (y := w) (by rw [← e2]; exact hw)
 rw [← e2] at this
 exact this.symm
theorem Turned.plane (T : Turned rs ts) (hr : InR n es) (ha : Asc es) (G : RotG n es rs) : PlaneM n es ts ↔ PlaneM n es rs := by
 unfold PlaneM; rw [T.faces hr ha G]
end
end Go.Fw
