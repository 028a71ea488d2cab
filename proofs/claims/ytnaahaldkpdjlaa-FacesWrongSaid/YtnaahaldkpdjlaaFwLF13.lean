/- A text of the proof. -/
import Derived.Test.YtnaahaldkpdjlaaFwLF10
import Derived.Test.YtnaahaldkpdjlaaFwLB18
import Derived.Test.YtnaahaldkpdjlaaFwLBR
import Derived.Test.YtnaahaldkpdjlaaFwPla
set_option linter.unusedSimpArgs false
set_option linter.unusedVariables false
namespace Go.Fw
open Go.Proofs
attribute [local irreducible] KO4 KO3 KO2 KO1 KO KN KX KE VK KCond KDraw KCall KLoop
set_option maxHeartbeats 16000000
set_option maxRecDepth 10000
attribute [local irreducible] facesM PlaneM
theorem mkP6 (h : AHeap) (p0 p1 p2 p3 p4 p5 : Pr) : aBuildSlice Try.prog h 22 6 [(0, valP p0), (1, valP p1), (2, valP p2), (3, valP p3), (4, valP p4), (5, valP p5)] = some (.slice (some ⟨h.next, 0, none⟩) 6 6, h.alloc (.cells (flatP [p0, p1, p2, p3, p4, p5]))) := by kernel_rfl
theorem awake7_any (W0 : Base) (h : AHeap) : AC Try.prog W0 27 [] h fun x h' => x = .bool true ∧ Le h h' := by
 refine AC.vc (fn := Try.f27) (c := _) ⟨Try.func27, rfl, by decide⟩ Try.ntmps27 Try.results27 (by simp) fun hwf => ?_
 simp only [argFrame, argFrom, Nat.reduceAdd]
 obtain ⟨v0, h1, v1, h2, v2, h3, v, h4, e1, e2, e3, e4, l4, w4, rt⟩ := rot3 hwf 1 2 0 2 0 1
 simp only [kS1, bLookup, bMapSet, wantA, isCall, stepOp, evalO, evalL, evalP, evalM, putDst, flat, kA, kB, Nat.reduceLT, ↓reduceIte, kC, Nat.reduceEqDiff, aBuiltin, abinG, guardFree, abin, aInt, aUn, aNilCheck, retQ, retQ1, aresults, aresultL, aresult, mkF, undefV, reduceCtorEq, kD, kE, kF, kG, kH, kI, kJ, kK, aExtract, calleeOf, e1, e2, e3, e4]
 clear e1 e2 e3 e4
 clear h1 h2 h3
 refine KCall.intro (by simp only [kS1, bLookup, bMapSet, wantA, isCall, stepOp, evalO, evalL, evalP, evalM, putDst, flat, kA, kB, Nat.reduceLT, ↓reduceIte, kC, Nat.reduceEqDiff, aBuiltin, abinG, guardFree, abin, aInt, aUn, aNilCheck, retQ, retQ1, aresults, aresultL, aresult, mkF, undefV, reduceCtorEq, kD, kE, kF, kG, kH, kI, kJ, kK, aExtract, calleeOf] <;> rfl) ⟨Try.func30, rfl, by decide⟩ (Faces_any W0 v _ h4 rt) ?_
 rintro x h5 w5 ⟨l5, ⟨rfl, hno⟩ | ⟨es, fv, -, -, rfl, hf⟩⟩
 ·exact absurd ⟨triE, triERt, triG⟩ hno
 have hf1 : RL (RL isI) h5 fv [[0, 1, 2], [0, 2, 1]] := by rw [← tri_faces]; exact hf
 clear hf es rt
 have L5 := l4.trans l5
 obtain ⟨v0, h1, v1, h2, v, h6, e1, e2, e3, l6, w6, rt⟩ := rot2 w5 1
 simp only [kS1, bLookup, bMapSet, wantA, isCall, stepOp, evalO, evalL, evalP, evalM, putDst, flat, kA, kB, Nat.reduceLT, ↓reduceIte, kC, Nat.reduceEqDiff, aBuiltin, abinG, guardFree, abin, aInt, aUn, aNilCheck, retQ, retQ1, aresults, aresultL, aresult, mkF, undefV, reduceCtorEq, kD, kE, kF, kG, kH, kI, kJ, kK, aExtract, calleeOf, e1, e2, e3]
 clear e1 e2 e3
 clear h1 h2
 refine KCall.intro (by simp only [kS1, bLookup, bMapSet, wantA, isCall, stepOp, evalO, evalL, evalP, evalM, putDst, flat, kA, kB, Nat.reduceLT, ↓reduceIte, kC, Nat.reduceEqDiff, aBuiltin, abinG, guardFree, abin, aInt, aUn, aNilCheck, retQ, retQ1, aresults, aresultL, aresult, mkF, undefV, reduceCtorEq, kD, kE, kF, kG, kH, kI, kJ, kK, aExtract, calleeOf] <;> rfl) ⟨Try.func30, rfl, by decide⟩ (Faces_any W0 v _ h6 rt) ?_
 rintro x h7 w7 ⟨l7, ⟨rfl, -⟩ | ⟨es, fv2, hr, G, -, -⟩⟩
 rotate_left
 ·exact absurd ⟨es, hr, G⟩ one_not
 clear rt
 have L7 := l6.trans l7
 obtain ⟨h8, e8, l8, w8, o8⟩ := alloc_f w7 (flatP k4E)
 have pE : PR h8 (.slice (some ⟨h7.next, 0, none⟩) 6 6) k4E := PR.made o8 rfl
 have bE : aBuildSlice Try.prog h7 22 6 [(0, valP (0, 1)), (1, valP (0, 2)), (2, valP (0, 3)), (3, valP (1, 2)), (4, valP (1, 3)), (5, valP (2, 3))] = some (.slice (some ⟨h7.next, 0, none⟩) 6 6, h8) := by rw [mkP6]; exact congrArg (fun g => some (_, g)) e8
 have bG := build24 (n := 4) pE.sl
 obtain ⟨h9', h9, a9, s9, l9, w9, lG⟩ := newG (n := 4) w8 pE
 generalize h7.next = A at *
 generalize h8.next = B at *
 have gr : ∀ g, Le h9 g → GR g (.agg #[.int .i64 4, .slice (some ⟨A, 0, none⟩) 6 6]) ⟨4, k4E⟩ := fun g l => ⟨_, rfl, (pE.le l9).le l⟩
 generalize Value.slice (some ⟨A, 0, none⟩) 6 6 = ev at *
 have L9 := (L7.trans l8).trans l9
 simp only [kS1, bLookup, bMapSet, wantA, isCall, stepOp, evalO, evalL, evalP, evalM, putDst, flat, kA, kB, Nat.reduceLT, ↓reduceIte, kC, Nat.reduceEqDiff, aBuiltin, abinG, guardFree, abin, aInt, aUn, aNilCheck, retQ, retQ1, aresults, aresultL, aresult, mkF, undefV, reduceCtorEq, kD, kE, kF, kG, kH, kI, kJ, kK, aExtract, calleeOf, bP, bE, bG, a9, s9]
 clear bE bG a9 s9 o8 e8
 obtain ⟨v0, h1, v1, h2, v2, h3, v3, h4', nv, h10, e1, e2, e3, e4, e5, l10, w10, rn⟩ := rot4 w9 1 2 3 0 2 3 0 1 3 0 1 2
 simp only [kS1, bLookup, bMapSet, wantA, isCall, stepOp, evalO, evalL, evalP, evalM, putDst, flat, kA, kB, Nat.reduceLT, ↓reduceIte, kC, Nat.reduceEqDiff, aBuiltin, abinG, guardFree, abin, aInt, aUn, aNilCheck, retQ, retQ1, aresults, aresultL, aresult, mkF, undefV, reduceCtorEq, kD, kE, kF, kG, kH, kI, kJ, kK, aExtract, calleeOf, e1, e2, e3, e4, e5]
 clear e1 e2 e3 e4 e5
 clear h1 h2 h3 h4'
 obtain ⟨v0, h1, v1, h2, v2, h3, v3, h4', iv, h11, e1, e2, e3, e4, e5, l11, w11, ri⟩ := rot4 w10 1 2 3 0 3 2 0 1 3 0 2 1
 simp only [kS1, bLookup, bMapSet, wantA, isCall, stepOp, evalO, evalL, evalP, evalM, putDst, flat, kA, kB, Nat.reduceLT, ↓reduceIte, kC, Nat.reduceEqDiff, aBuiltin, abinG, guardFree, abin, aInt, aUn, aNilCheck, retQ, retQ1, aresults, aresultL, aresult, mkF, undefV, reduceCtorEq, kD, kE, kF, kG, kH, kI, kJ, kK, aExtract, calleeOf, e1, e2, e3, e4, e5]
 clear e1 e2 e3 e4 e5
 clear h1 h2 h3 h4'
 have rn11 := rn.le (Stays.RL Stays.isI) l11
 refine KCall.intro (by simp only [kS1, bLookup, bMapSet, wantA, isCall, stepOp, evalO, evalL, evalP, evalM, putDst, flat, kA, kB, Nat.reduceLT, ↓reduceIte, kC, Nat.reduceEqDiff, aBuiltin, abinG, guardFree, abin, aInt, aUn, aNilCheck, retQ, retQ1, aresults, aresultL, aresult, mkF, undefV, reduceCtorEq, kD, kE, kF, kG, kH, kI, kJ, kK, aExtract, calleeOf] <;> rfl) ⟨Try.func30, rfl, by decide⟩ (Faces_any W0 nv _ h11 rn11) ?_
 rintro x h12 w12 ⟨l12, ⟨rfl, hno⟩ | ⟨es, fn, -, -, rfl, hf⟩⟩
 ·exact absurd ⟨k4E, k4ERt, notG⟩ hno
 have hfn : RL (RL isI) h12 fn [[0, 1, 2, 3], [0, 2, 1, 3, 2, 0, 3, 1]] := by rw [← not_faces]; exact hf
 clear hf es
 simp only [kS1, bLookup, bMapSet, wantA, isCall, stepOp, evalO, evalL, evalP, evalM, putDst, flat, kA, kB, Nat.reduceLT, ↓reduceIte, kC, Nat.reduceEqDiff, aBuiltin, abinG, guardFree, abin, aInt, aUn, aNilCheck, retQ, retQ1, aresults, aresultL, aresult, mkF, undefV, reduceCtorEq, kD, kE, kF, kG, kH, kI, kJ, kK, aExtract, calleeOf]
 have ri12 := ri.le (Stays.RL Stays.isI) l12
 refine KCall.intro (by simp only [kS1, bLookup, bMapSet, wantA, isCall, stepOp, evalO, evalL, evalP, evalM, putDst, flat, kA, kB, Nat.reduceLT, ↓reduceIte, kC, Nat.reduceEqDiff, aBuiltin, abinG, guardFree, abin, aInt, aUn, aNilCheck, retQ, retQ1, aresults, aresultL, aresult, mkF, undefV, reduceCtorEq, kD, kE, kF, kG, kH, kI, kJ, kK, aExtract, calleeOf] <;> rfl) ⟨Try.func30, rfl, by decide⟩ (Faces_any W0 iv _ h12 ri12) ?_
 rintro x h13 w13 ⟨l13, ⟨rfl, hno⟩ | ⟨es, fi, -, -, rfl, hf⟩⟩
 ·exact absurd ⟨k4E, k4ERt, isG4⟩ hno
 have hfi : RL (RL isI) h13 fi (facesM 4 isR) := hf
 clear hf es
 have lfi := fun g => hfi.len (P := Try.prog) Try.underlying32 g
 rw [is_faces] at lfi
 have aw0 : awrap .i64 (0 + 0) = 0 := by decide
 have d0 : decide ((0 : Int) = 0) = true := by decide
 have d70 : decide ((70 : Int) = 70) = true := by decide
 have L13 := (l12.trans l13)
 obtain ⟨v0, h1, v1, h2, wv, h14, e1, e2, e3, l14, w14, rw1⟩ := lis2 w13 0 1 2 0 2 1
 simp only [kS1, bLookup, bMapSet, wantA, isCall, stepOp, evalO, evalL, evalP, evalM, putDst, flat, kA, kB, Nat.reduceLT, ↓reduceIte, kC, Nat.reduceEqDiff, aBuiltin, abinG, guardFree, abin, aInt, aUn, aNilCheck, retQ, retQ1, aresults, aresultL, aresult, mkF, undefV, reduceCtorEq, kD, kE, kF, kG, kH, kI, kJ, kK, aExtract, calleeOf, aw0, d0, d70, e1, e2, e3]
 clear e1 e2 e3
 clear h1 h2
 have L5_14 : Le h5 h14 := ((((L9.trans l10).trans l11).trans L13).trans l14)
 refine KCall.intro (by simp only [kS1, bLookup, bMapSet, wantA, isCall, stepOp, evalO, evalL, evalP, evalM, putDst, flat, kA, kB, Nat.reduceLT, ↓reduceIte, kC, Nat.reduceEqDiff, aBuiltin, abinG, guardFree, abin, aInt, aUn, aNilCheck, retQ, retQ1, aresults, aresultL, aresult, mkF, undefV, reduceCtorEq, kD, kE, kF, kG, kH, kI, kJ, kK, aExtract, calleeOf] <;> rfl) ⟨Try.func32, rfl, by decide⟩ (SameLists_any W0 fv wv _ _ h14 (hf1.le (Stays.RL Stays.isI) L5_14) rw1 (by decide) (by decide)) ?_
 rintro x h15 w15 ⟨rfl, rfl⟩
 have dd : decide (([[0, 1, 2], [0, 2, 1]] : List (List Int)) = [[0, 1, 2], [0, 2, 1]]) = true := by decide
 obtain ⟨v0, h1, v1, h2, wv2, h16, e1, e2, e3, l16, w16, rw2⟩ := lis12 w14 0 1 2 3 0 2 1 3 2 0 3 1
 simp only [kS1, bLookup, bMapSet, wantA, isCall, stepOp, evalO, evalL, evalP, evalM, putDst, flat, kA, kB, Nat.reduceLT, ↓reduceIte, kC, Nat.reduceEqDiff, aBuiltin, abinG, guardFree, abin, aInt, aUn, aNilCheck, retQ, retQ1, aresults, aresultL, aresult, mkF, undefV, reduceCtorEq, kD, kE, kF, kG, kH, kI, kJ, kK, aExtract, calleeOf, dd, e1, e2, e3]
 clear e1 e2 e3
 clear h1 h2
 have L12_16 : Le h12 h16 := (l13.trans l14).trans l16
 refine KCall.intro (by simp only [kS1, bLookup, bMapSet, wantA, isCall, stepOp, evalO, evalL, evalP, evalM, putDst, flat, kA, kB, Nat.reduceLT, ↓reduceIte, kC, Nat.reduceEqDiff, aBuiltin, abinG, guardFree, abin, aInt, aUn, aNilCheck, retQ, retQ1, aresults, aresultL, aresult, mkF, undefV, reduceCtorEq, kD, kE, kF, kG, kH, kI, kJ, kK, aExtract, calleeOf] <;> rfl) ⟨Try.func32, rfl, by decide⟩ (SameLists_any W0 fn wv2 _ _ h16 (hfn.le (Stays.RL Stays.isI) L12_16) rw2 (by decide) (by decide)) ?_
 rintro x h17 w17 ⟨rfl, rfl⟩
 have dd2 : decide (([[0, 1, 2, 3], [0, 2, 1, 3, 2, 0, 3, 1]] : List (List Int)) = [[0, 1, 2, 3], [0, 2, 1, 3, 2, 0, 3, 1]]) = true := by decide
 have d4 : decide (((4 : Nat) : Int) = 4) = true := by decide
 have L9_16 : Le h9 h17 := (((l10.trans l11).trans L13).trans l14).trans l16
 have G16 := lG h17 L9_16
 simp only [kS1, bLookup, bMapSet, wantA, isCall, stepOp, evalO, evalL, evalP, evalM, putDst, flat, kA, kB, Nat.reduceLT, ↓reduceIte, kC, Nat.reduceEqDiff, aBuiltin, abinG, guardFree, abin, aInt, aUn, aNilCheck, retQ, retQ1, aresults, aresultL, aresult, mkF, undefV, reduceCtorEq, kD, kE, kF, kG, kH, kI, kJ, kK, aExtract, calleeOf, dd2, lfi, d4, G16.1]
 refine KCall.intro (by simp only [kS1, bLookup, bMapSet, wantA, isCall, stepOp, evalO, evalL, evalP, evalM, putDst, flat, kA, kB, Nat.reduceLT, ↓reduceIte, kC, Nat.reduceEqDiff, aBuiltin, abinG, guardFree, abin, aInt, aUn, aNilCheck, retQ, retQ1, aresults, aresultL, aresult, mkF, undefV, reduceCtorEq, kD, kE, kF, kG, kH, kI, kJ, kK, aExtract, calleeOf] <;> rfl) ⟨Try.func33, rfl, by decide⟩ (Plane_any W0 _ nv ⟨4, k4E⟩ _ h17 (gr h17 L9_16) (rn11.le (Stays.RL Stays.isI) ((L13.trans l14).trans l16))) ?_
 rintro x h18 w18 ⟨⟨b, rfl, hb⟩, l18⟩
 obtain rfl : b = false := by
  cases b
  ·rfl
  ·exact absurd (hb.1 rfl).2.2 not_plane
 have G18 := lG h18 (L9_16.trans l18)
 simp only [kS1, bLookup, bMapSet, wantA, isCall, stepOp, evalO, evalL, evalP, evalM, putDst, flat, kA, kB, Nat.reduceLT, ↓reduceIte, kC, Nat.reduceEqDiff, aBuiltin, abinG, guardFree, abin, aInt, aUn, aNilCheck, retQ, retQ1, aresults, aresultL, aresult, mkF, undefV, reduceCtorEq, kD, kE, kF, kG, kH, kI, kJ, kK, aExtract, calleeOf, G18.1]
 refine KCall.intro (by simp only [kS1, bLookup, bMapSet, wantA, isCall, stepOp, evalO, evalL, evalP, evalM, putDst, flat, kA, kB, Nat.reduceLT, ↓reduceIte, kC, Nat.reduceEqDiff, aBuiltin, abinG, guardFree, abin, aInt, aUn, aNilCheck, retQ, retQ1, aresults, aresultL, aresult, mkF, undefV, reduceCtorEq, kD, kE, kF, kG, kH, kI, kJ, kK, aExtract, calleeOf] <;> rfl) ⟨Try.func33, rfl, by decide⟩ (Plane_any W0 _ iv ⟨4, k4E⟩ _ h18 (gr h18 (L9_16.trans l18)) (ri12.le (Stays.RL Stays.isI) (((l13.trans l14).trans l16).trans l18))) ?_
 rintro x h19 w19 ⟨⟨b, rfl, hb⟩, l19⟩
 obtain rfl : b = true := hb.2 ⟨k4ERt, isG4, is_plane⟩
 simp only [kS1, bLookup, bMapSet, wantA, isCall, stepOp, evalO, evalL, evalP, evalM, putDst, flat, kA, kB, Nat.reduceLT, ↓reduceIte, kC, Nat.reduceEqDiff, aBuiltin, abinG, guardFree, abin, aInt, aUn, aNilCheck, retQ, retQ1, aresults, aresultL, aresult, mkF, undefV, reduceCtorEq, kD, kE, kF, kG, kH, kI, kJ, kK, aExtract, calleeOf]
 exact ⟨trivial, ((((L5.trans L9).trans L9_16).trans l18).trans l19)⟩
end Go.Fw
namespace Go.Fw
open Go.Proofs
set_option maxHeartbeats 16000000
set_option maxRecDepth 10000
attribute [local instance] Classical.propDecidable
theorem GI.up {h : AHeap} {v : Value} {xs : List Int} (g : GI h v xs) {i : Nat} (hi : i ≤ xs.length) : ∃ v', aSlice Try.prog 38 v (some (.int .i64 i)) none none = some v' ∧ RL isI h v' (xs.drop i) := by
 have gc := GI.rl g
 obtain ⟨hl, ⟨rfl, hn⟩ | ⟨id, c, cap, rfl, ho, ht, hc⟩⟩ := g
 ·obtain rfl : xs = [] := List.eq_nil_of_length_eq_zero hn
  obtain rfl : i = 0 := by simpa using hi
  refine ⟨.slice none 0 0, ?_, by simpa using gc⟩
  have : ¬ UNK ≤ 0 := by decide
  simp [aSlice, Try.underlying38, Try.underlying3, this, aBounds, aBound]
 ·have n1 : (0 : Int) ≤ i := by omega
  have n2 : (i : Int) ≤ xs.length := by omega
  have ts : tsize Try.prog 3 = 1 := by kernel_rfl
  have rs := (RL.cellsI gc)
  have hx : (((xs.map (Value.int .i64)).drop i).take (xs.length - i)) = (xs.drop i).map (Value.int .i64) := by
   rw [← List.map_drop, List.take_of_length_le (by simp)]
  rcases hc with rfl | ⟨rfl, hn⟩
  ·have hp := rs.part (cap' := UNK + 1) (lo := i) (hi := xs.length) hi (Nat.le_refl _) (by simp)
   rw [hx] at hp
   refine ⟨.slice (some (aadd ⟨id, 0, none⟩ i)) (xs.length - i) (UNK + 1), ?_, RL.ofI hp⟩
   simp [aSlice, Try.underlying38, Try.underlying3, ts, aBounds, aBound, n1, n2]
  ·have hno : ¬ UNK ≤ xs.length := Nat.not_le.2 (Nat.lt_of_lt_of_le hn (by decide))
   have hp := rs.part (cap' := xs.length - i) (lo := i) (hi := xs.length) hi (Nat.le_refl _) (by simp)
   rw [hx] at hp
   by_cases c : xs.length = i
   ·refine ⟨.slice (some ⟨id, 0, none⟩) 0 0, ?_, ?_⟩
    ·simp [aSlice, Try.underlying38, Try.underlying3, aBounds, aBound, n1, n2, hno, c.symm]
    ·rw [List.drop_of_length_le (by omega)]; exact RL.ofI (RS.none' (a := none) (cap := 0) rfl)
   ·refine ⟨.slice (some (aadd ⟨id, 0, none⟩ i)) (xs.length - i) (xs.length - i), ?_, RL.ofI hp⟩
    simp [aSlice, Try.underlying38, Try.underlying3, ts, aBounds, aBound, n1, n2, hno, c]
section
variable {n : Nat} {es : List Pr} {rs ts : List (List Int)}
end
end Go.Fw
namespace Go.Fw
open Go.Proofs
attribute [local irreducible] KO4 KO3 KO2 KO1 KO KN KX KE VK KCond KDraw KCall KLoop
set_option maxHeartbeats 16000000
set_option maxRecDepth 10000
attribute [local instance] Classical.propDecidable
attribute [local irreducible] facesM PlaneM besM
theorem rlG_rl {h : AHeap} {v : Value} {rs : List (List Int)} (r : RL isG h v rs) : RL (RL isI) h v rs := r.map fun _ _ g => g.rl
end Go.Fw
namespace Go.Fw
open Go.Proofs Go.ChangeShapes Go.WideShapes Go.RowKit
set_option maxRecDepth 100000
section
variable {H : Type} {enc : TypeId × Value → H} {W : World}
theorem rd_u16 {P : Program} {t : TypeId} (ht : P.underlying t = some (.int .u16)) : Rd enc P W t isH := by
 intro fuel cs x h
 obtain ⟨n, rfl, _, hw⟩ := DataW.trod_int ht h
 refine ⟨_, .int .u16 n, n, rfl, rfl, rfl, ?_⟩
 simp [Lit.wf, IntKind.min, IntKind.max, IntKind.signed, IntKind.bits] at hw
 omega
theorem open_u16s {v : Value} {d : DataW H} {ps : List MemPlace} {b0 : Nat} (hval : Value.okWide Try.prog W .any b0 50 v) (h : DataW.Trod enc Try.prog W 0 (fun _ => true) true 50 v d ps) (m : CMap) :
  ∃ u xs, VR 0 m u v ∧ RL isH (ext0 W) u xs := by
 obtain ⟨fuel, h⟩ := h
 obtain ⟨a, len, cap, rfl⟩ := okWide_slice Try.underlying50 hval
 obtain ⟨r', r, R, e0, t0, q0⟩ := rd_slice Try.underlying50 (by kernel_rfl) (rd_u16 Try.underlying110) _ _ _ h
 simp [Value.cells] at e0
 subst e0
 exact ⟨r, R, VR.of_tag t0, q0⟩
end
end Go.Fw
namespace Go.Fw
open Go.Proofs
set_option maxHeartbeats 16000000
set_option maxRecDepth 10000
attribute [local instance] Classical.propDecidable
def RevK (xs ys : List Int) (i : Nat) : Prop := ys.length = xs.length ∧ ∀ p, p < xs.length → ys[p]? = if p < i ∨ xs.length - i ≤ p then xs[xs.length - 1 - p]? else xs[p]?
theorem RevK.zero (xs : List Int) : RevK xs xs 0 := ⟨rfl, fun p hp => by rw [if_neg (by omega)]⟩
theorem RevK.step {xs ys : List Int} {i : Nat} (R : RevK xs ys i) (h : 2 * i + 1 < xs.length) (h1 : i < ys.length) (h2 : xs.length - 1 - i < ys.length) :
  RevK xs ((ys.set i ys[xs.length - 1 - i]).set (xs.length - 1 - i) ys[i]) (i + 1) := by
 refine ⟨by simp [R.1], fun p hp => ?_⟩
 have e1 : ys[xs.length - 1 - i]? = xs[xs.length - 1 - i]? := by rw [R.2 _ (by omega), if_neg (by omega)]
 have e2 : ys[i]? = xs[i]? := by rw [R.2 _ (by omega), if_neg (by omega)]
 rw [List.getElem?_eq_getElem h2] at e1
 rw [List.getElem?_eq_getElem h1] at e2
 by_cases c1 : p = xs.length - 1 - i
 ·subst c1
  rw [List.getElem?_set_self (by simp; omega), if_pos (by omega), e2]; congr 1; omega
 ·rw [List.getElem?_set_ne (Ne.symm c1)]
  by_cases c2 : p = i
  ·subst c2
   rw [List.getElem?_set_self h1, if_pos (by omega), e1]
  ·rw [List.getElem?_set_ne (Ne.symm c2), R.2 p hp]
   by_cases c3 : p < i ∨ xs.length - i ≤ p
   ·rw [if_pos c3, if_pos (by omega)]
   ·rw [if_neg c3, if_neg (by omega)]
end Go.Fw
namespace Go.Fw
open Go.Proofs
set_option maxHeartbeats 4000000
set_option maxRecDepth 10000
attribute [local instance] Classical.propDecidable
section
variable {n : Nat} {es : List Pr} {rs : List (List Int)}
theorem hds_asc (n : Nat) (r : Nat → List Nat) : (hdsF n r).Pairwise ltD := (ddl_asc n r).filter _
theorem hds_uniq {r : Nat → List Nat} (R : IsRot n r) {p q : Nat} {d e x : Dart} (hp : (hdsF n r)[p]? = some d) (hq : (hdsF n r)[q]? = some e) (h1 : Orb (fph r) d x) (h2 : Orb (fph r) e x) : p = q := by
 have hd := List.mem_of_getElem? hp
 have he := List.mem_of_getElem? hq
 have hem : e ∈ dl n r := (mem_dl R).2 ((mem_hdsF R).1 he).1
 obtain rfl := hd_uniq R hd he (h1.trans ((phi_pm R).orb_symm hem h2))
 obtain ⟨a1, b1⟩ := List.getElem?_eq_some_iff.1 hp
 obtain ⟨a2, b2⟩ := List.getElem?_eq_some_iff.1 hq
 have nd := (List.nodup_iff_pairwise_ne).2 ((hds_asc n r).imp fun h e => by subst e; exact ltD_irr _ h)
 rw [List.nodup_iff_pairwise_ne, List.pairwise_iff_getElem] at nd
 rcases Nat.lt_trichotomy p q with c | c | c
 ·exact absurd (b1.trans b2.symm) (nd p q a1 a2 c)
 ·exact c
 ·exact absurd (b2.trans b1.symm) (nd q p a2 a1 c)
end
end Go.Fw
namespace Go.Fw
open Go.Proofs
attribute [local irreducible] KO4 KO3 KO2 KO1 KO KN KX KE VK KCond KDraw KCall KLoop
set_option maxHeartbeats 16000000
set_option maxRecDepth 10000
attribute [local instance] Classical.propDecidable
attribute [local irreducible] facesM PlaneM besM
def OfP (n : Nat) (r : Nat → List Nat) (m : List (Pr × Int)) (i : Nat) : Prop := ∀ (t : Nat) (d : Dart), t < i → (hdsF n r)[t]? = some d → ∀ e, Orb (fph r) d e → lookK m (castD e) = some (t : Int)
theorem OfP.zero (n : Nat) (r : Nat → List Nat) : OfP n r [] 0 := fun t _ h => absurd h (Nat.not_lt_zero t)
theorem OfP.put {n : Nat} {r : Nat → List Nat} (R : IsRot n r) {m : List (Pr × Int)} {i : Nat} (O : OfP n r m i) {d : Dart} (hi : (hdsF n r)[i]? = some d) (j : Nat) (v : Int) : OfP n r (setK m (castD (it (fph r) j d)) v) i := fun t e ht he x hx => by
 rw [lookK_set, if_neg]
 ·exact O t e ht he x hx
 ·intro q
  have := castD_inj q
  have := hds_uniq R hi he ⟨j, this⟩ hx
  omega
theorem OfP.next {n : Nat} {r : Nat → List Nat} (R : IsRot n r) {m : List (Pr × Int)} {i : Nat} (O : OfP n r m i) {d : Dart} (hi : (hdsF n r)[i]? = some d) (hj : ∀ s, s < ordr (fph r) d → lookK m (castD (it (fph r) s d)) = some (i : Int)) : OfP n r m (i + 1) := fun t e ht he x hx => by
 by_cases c : t = i
 ·subst c
  rw [hi] at he; injection he with he; subst he
  have hdm : d ∈ dl n r := (mem_dl R).2 ((mem_hdsF R).1 (List.mem_of_getElem? hi)).1
  obtain ⟨s, rfl⟩ := hx
  rw [it_mod (phi_pm R) hdm]
  exact hj _ (Nat.mod_lt _ (ordr_spec (phi_pm R) hdm).1)
 ·exact O t e (by omega) he x hx
end Go.Fw
