/- A text of the proof. -/
import Derived.Test.YtnaahaldkpdjlaaFwLF10
import Derived.Test.YtnaahaldkpdjlaaFwLB18
import Derived.Test.YtnaahaldkpdjlaaFwLBR
set_option linter.unusedSimpArgs false
set_option linter.unusedVariables false
namespace Go.Fw
open Go.Proofs
attribute [local irreducible] KO4 KO3 KO2 KO1 KO KN KX KE VK KCond KDraw KCall KLoop
set_option maxHeartbeats 16000000
set_option maxRecDepth 10000
attribute [local irreducible] facesM PlaneM
theorem mkP6 (h : AHeap) (p0 p1 p2 p3 p4 p5 : Pr) : aBuildSlice Try.prog h 22 6 [(0, valP p0), (1, valP p1), (2, valP p2), (3, valP p3), (4, valP p4), (5, valP p5)] = some (.slice (some ⟨h.next, 0, none⟩) 6 6, h.alloc (.cells (flatP [p0, p1, p2, p3, p4, p5]))) := by kernel_rfl
theorem awake7_any (W0 : Base) (h : AHeap) : AC Try.prog W0 27 [] h fun x h' => x = .bool true ∧ Le h h' := by
 refine AC.vc (fn := Try.f27) (c := _) ⟨Try.func27, rfl, by decide⟩ Try.ntmps27 Try.results27 (by simp) fun hwf => ?_
 simp only [argFrame, argFrom, Nat.reduceAdd]
 obtain ⟨v0, h1, v1, h2, v2, h3, v, h4, e1, e2, e3, e4, l4, w4, rt⟩ := rot3 hwf 1 2 0 2 0 1
 simp only [kS1, bLookup, bMapSet, wantA, isCall, stepOp, evalO, evalL, evalP, evalM, putDst, flat, kA, kB, Nat.reduceLT, ↓reduceIte, kC, Nat.reduceEqDiff, aBuiltin, abinG, guardFree, abin, aInt, aUn, aNilCheck, retQ, retQ1, aresults, aresultL, aresult, mkF, undefV, reduceCtorEq, kD, kE, kF, kG, kH, kI, kJ, kK, aExtract, calleeOf, e1, e2, e3, e4]
 clear e1 e2 e3 e4
 clear h1 h2 h3
 refine KCall.intro (by simp only [kS1, bLookup, bMapSet, wantA, isCall, stepOp, evalO, evalL, evalP, evalM, putDst, flat, kA, kB, Nat.reduceLT, ↓reduceIte, kC, Nat.reduceEqDiff, aBuiltin, abinG, guardFree, abin, aInt, aUn, aNilCheck, retQ, retQ1, aresults, aresultL, aresult, mkF, undefV, reduceCtorEq, kD, kE, kF, kG, kH, kI, kJ, kK, aExtract, calleeOf] <;> rfl) ⟨Try.func30, rfl, by decide⟩ (Faces_any W0 v _ h4 rt) ?_
 rintro x h5 w5 ⟨l5, ⟨rfl, hno⟩ | ⟨es, fv, -, -, rfl, hf⟩⟩
 ·exact absurd ⟨triE, triERt, triG⟩ hno
 have hf1 : RL (RL isI) h5 fv [[0, 1, 2], [0, 2, 1]] := by rw [← tri_faces]; exact hf
 clear hf es rt
 have L5 := l4.trans l5
 obtain ⟨v0, h1, v1, h2, v, h6, e1, e2, e3, l6, w6, rt⟩ := rot2 w5 1
 simp only [kS1, bLookup, bMapSet, wantA, isCall, stepOp, evalO, evalL, evalP, evalM, putDst, flat, kA, kB, Nat.reduceLT, ↓reduceIte, kC, Nat.reduceEqDiff, aBuiltin, abinG, guardFree, abin, aInt, aUn, aNilCheck, retQ, retQ1, aresults, aresultL, aresult, mkF, undefV, reduceCtorEq, kD, kE, kF, kG, kH, kI, kJ, kK, aExtract, calleeOf, e1, e2, e3]
 clear e1 e2 e3
 clear h1 h2
 refine KCall.intro (by simp only [kS1, bLookup, bMapSet, wantA, isCall, stepOp, evalO, evalL, evalP, evalM, putDst, flat, kA, kB, Nat.reduceLT, ↓reduceIte, kC, Nat.reduceEqDiff, aBuiltin, abinG, guardFree, abin, aInt, aUn, aNilCheck, retQ, retQ1, aresults, aresultL, aresult, mkF, undefV, reduceCtorEq, kD, kE, kF, kG, kH, kI, kJ, kK, aExtract, calleeOf] <;> rfl) ⟨Try.func30, rfl, by decide⟩ (Faces_any W0 v _ h6 rt) ?_
 rintro x h7 w7 ⟨l7, ⟨rfl, -⟩ | ⟨es, fv2, hr, G, -, -⟩⟩
 rotate_left
 ·exact absurd ⟨es, hr, G⟩ one_not
 clear rt
 have L7 := l6.trans l7
 obtain ⟨h8, e8, l8, w8, o8⟩ := alloc_f w7 (flatP k4E)
 have pE : PR h8 (.slice (some ⟨h7.next, 0, none⟩) 6 6) k4E := PR.made o8 rfl
 have bE : aBuildSlice Try.prog h7 22 6 [(0, valP (0, 1)), (1, valP (0, 2)), (2, valP (0, 3)), (3, valP (1, 2)), (4, valP (1, 3)), (5, valP (2, 3))] = some (.slice (some ⟨h7.next, 0, none⟩) 6 6, h8) := by rw [mkP6]; exact congrArg (fun g => some (_, g)) e8
 have bG := build24 (n := 4) pE.sl
 obtain ⟨h9', h9, a9, s9, l9, w9, lG⟩ := newG (n := 4) w8 pE
 generalize h7.next = A at *
 generalize h8.next = B at *
 have gr : ∀ g, Le h9 g → GR g (.agg #[.int .i64 4, .slice (some ⟨A, 0, none⟩) 6 6]) ⟨4, k4E⟩ := fun g l => ⟨_, rfl, (pE.le l9).le l⟩
 generalize Value.slice (some ⟨A, 0, none⟩) 6 6 = ev at *
 have L9 := (L7.trans l8).trans l9
 simp only [kS1, bLookup, bMapSet, wantA, isCall, stepOp, evalO, evalL, evalP, evalM, putDst, flat, kA, kB, Nat.reduceLT, ↓reduceIte, kC, Nat.reduceEqDiff, aBuiltin, abinG, guardFree, abin, aInt, aUn, aNilCheck, retQ, retQ1, aresults, aresultL, aresult, mkF, undefV, reduceCtorEq, kD, kE, kF, kG, kH, kI, kJ, kK, aExtract, calleeOf, bP, bE, bG, a9, s9]
 clear bE bG a9 s9 o8 e8
 obtain ⟨v0, h1, v1, h2, v2, h3, v3, h4', nv, h10, e1, e2, e3, e4, e5, l10, w10, rn⟩ := rot4 w9 1 2 3 0 2 3 0 1 3 0 1 2
 simp only [kS1, bLookup, bMapSet, wantA, isCall, stepOp, evalO, evalL, evalP, evalM, putDst, flat, kA, kB, Nat.reduceLT, ↓reduceIte, kC, Nat.reduceEqDiff, aBuiltin, abinG, guardFree, abin, aInt, aUn, aNilCheck, retQ, retQ1, aresults, aresultL, aresult, mkF, undefV, reduceCtorEq, kD, kE, kF, kG, kH, kI, kJ, kK, aExtract, calleeOf, e1, e2, e3, e4, e5]
 clear e1 e2 e3 e4 e5
 clear h1 h2 h3 h4'
 obtain ⟨v0, h1, v1, h2, v2, h3, v3, h4', iv, h11, e1, e2, e3, e4, e5, l11, w11, ri⟩ := rot4 w10 1 2 3 0 3 2 0 1 3 0 2 1
 simp only [kS1, bLookup, bMapSet, wantA, isCall, stepOp, evalO, evalL, evalP, evalM, putDst, flat, kA, kB, Nat.reduceLT, ↓reduceIte, kC, Nat.reduceEqDiff, aBuiltin, abinG, guardFree, abin, aInt, aUn, aNilCheck, retQ, retQ1, aresults, aresultL, aresult, mkF, undefV, reduceCtorEq, kD, kE, kF, kG, kH, kI, kJ, kK, aExtract, calleeOf, e1, e2, e3, e4, e5]
 clear e1 e2 e3 e4 e5
 clear h1 h2 h3 h4'
 have rn11 := rn.le (Stays.RL Stays.isI) l11
 refine KCall.intro (by simp only [kS1, bLookup, bMapSet, wantA, isCall, stepOp, evalO, evalL, evalP, evalM, putDst, flat, kA, kB, Nat.reduceLT, ↓reduceIte, kC, Nat.reduceEqDiff, aBuiltin, abinG, guardFree, abin, aInt, aUn, aNilCheck, retQ, retQ1, aresults, aresultL, aresult, mkF, undefV, reduceCtorEq, kD, kE, kF, kG, kH, kI, kJ, kK, aExtract, calleeOf] <;> rfl) ⟨Try.func30, rfl, by decide⟩ (Faces_any W0 nv _ h11 rn11) ?_
 rintro x h12 w12 ⟨l12, ⟨rfl, hno⟩ | ⟨es, fn, -, -, rfl, hf⟩⟩
 ·exact absurd ⟨k4E, k4ERt, notG⟩ hno
 have hfn : RL (RL isI) h12 fn [[0, 1, 2, 3], [0, 2, 1, 3, 2, 0, 3, 1]] := by rw [← not_faces]; exact hf
 clear hf es
 simp only [kS1, bLookup, bMapSet, wantA, isCall, stepOp, evalO, evalL, evalP, evalM, putDst, flat, kA, kB, Nat.reduceLT, ↓reduceIte, kC, Nat.reduceEqDiff, aBuiltin, abinG, guardFree, abin, aInt, aUn, aNilCheck, retQ, retQ1, aresults, aresultL, aresult, mkF, undefV, reduceCtorEq, kD, kE, kF, kG, kH, kI, kJ, kK, aExtract, calleeOf]
 have ri12 := ri.le (Stays.RL Stays.isI) l12
 refine KCall.intro (by simp only [kS1, bLookup, bMapSet, wantA, isCall, stepOp, evalO, evalL, evalP, evalM, putDst, flat, kA, kB, Nat.reduceLT, ↓reduceIte, kC, Nat.reduceEqDiff, aBuiltin, abinG, guardFree, abin, aInt, aUn, aNilCheck, retQ, retQ1, aresults, aresultL, aresult, mkF, undefV, reduceCtorEq, kD, kE, kF, kG, kH, kI, kJ, kK, aExtract, calleeOf] <;> rfl) ⟨Try.func30, rfl, by decide⟩ (Faces_any W0 iv _ h12 ri12) ?_
 rintro x h13 w13 ⟨l13, ⟨rfl, hno⟩ | ⟨es, fi, -, -, rfl, hf⟩⟩
 ·exact absurd ⟨k4E, k4ERt, isG4⟩ hno
 have hfi : RL (RL isI) h13 fi (facesM 4 isR) := hf
 clear hf es
 have lfi := fun g => hfi.len (P := Try.prog) Try.underlying32 g
 rw [is_faces] at lfi
 have aw0 : awrap .i64 (0 + 0) = 0 := by decide
 have d0 : decide ((0 : Int) = 0) = true := by decide
 have d70 : decide ((70 : Int) = 70) = true := by decide
 have L13 := (l12.trans l13)
 obtain ⟨v0, h1, v1, h2, wv, h14, e1, e2, e3, l14, w14, rw1⟩ := lis2 w13 0 1 2 0 2 1
 simp only [kS1, bLookup, bMapSet, wantA, isCall, stepOp, evalO, evalL, evalP, evalM, putDst, flat, kA, kB, Nat.reduceLT, ↓reduceIte, kC, Nat.reduceEqDiff, aBuiltin, abinG, guardFree, abin, aInt, aUn, aNilCheck, retQ, retQ1, aresults, aresultL, aresult, mkF, undefV, reduceCtorEq, kD, kE, kF, kG, kH, kI, kJ, kK, aExtract, calleeOf, aw0, d0, d70, e1, e2, e3]
 clear e1 e2 e3
 clear h1 h2
 have L5_14 : Le h5 h14 := ((((L9.trans l10).trans l11).trans L13).trans l14)
 refine KCall.intro (by simp only [kS1, bLookup, bMapSet, wantA, isCall, stepOp, evalO, evalL, evalP, evalM, putDst, flat, kA, kB, Nat.reduceLT, ↓reduceIte, kC, Nat.reduceEqDiff, aBuiltin, abinG, guardFree, abin, aInt, aUn, aNilCheck, retQ, retQ1, aresults, aresultL, aresult, mkF, undefV, reduceCtorEq, kD, kE, kF, kG, kH, kI, kJ, kK, aExtract, calleeOf] <;> rfl) ⟨Try.func32, rfl, by decide⟩ (SameLists_any W0 fv wv _ _ h14 (hf1.le (Stays.RL Stays.isI) L5_14) rw1 (by decide) (by decide)) ?_
 rintro x h15 w15 ⟨rfl, rfl⟩
 have dd : decide (([[0, 1, 2], [0, 2, 1]] : List (List Int)) = [[0, 1, 2], [0, 2, 1]]) = true := by decide
 obtain ⟨v0, h1, v1, h2, wv2, h16, e1, e2, e3, l16, w16, rw2⟩ := lis12 w14 0 1 2 3 0 2 1 3 2 0 3 1
 simp only [kS1, bLookup, bMapSet, wantA, isCall, stepOp, evalO, evalL, evalP, evalM, putDst, flat, kA, kB, Nat.reduceLT, ↓reduceIte, kC, Nat.reduceEqDiff, aBuiltin, abinG, guardFree, abin, aInt, aUn, aNilCheck, retQ, retQ1, aresults, aresultL, aresult, mkF, undefV, reduceCtorEq, kD, kE, kF, kG, kH, kI, kJ, kK, aExtract, calleeOf, dd, e1, e2, e3]
 clear e1 e2 e3
 clear h1 h2
 have L12_16 : Le h12 h16 := (l13.trans l14).trans l16
 refine KCall.intro (by simp only [kS1, bLookup, bMapSet, wantA, isCall, stepOp, evalO, evalL, evalP, evalM, putDst, flat, kA, kB, Nat.reduceLT, ↓reduceIte, kC, Nat.reduceEqDiff, aBuiltin, abinG, guardFree, abin, aInt, aUn, aNilCheck, retQ, retQ1, aresults, aresultL, aresult, mkF, undefV, reduceCtorEq, kD, kE, kF, kG, kH, kI, kJ, kK, aExtract, calleeOf] <;> rfl) ⟨Try.func32, rfl, by decide⟩ (SameLists_any W0 fn wv2 _ _ h16 (hfn.le (Stays.RL Stays.isI) L12_16) rw2 (by decide) (by decide)) ?_
 rintro x h17 w17 ⟨rfl, rfl⟩
 have dd2 : decide (([[0, 1, 2, 3], [0, 2, 1, 3, 2, 0, 3, 1]] : List (List Int)) = [[0, 1, 2, 3], [0, 2, 1, 3, 2, 0, 3, 1]]) = true := by decide
 have d4 : decide (((4 : Nat) : Int) = 4) = true := by decide
 have L9_16 : Le h9 h17 := (((l10.trans l11).trans L13).trans l14).trans l16
 have G16 := lG h17 L9_16
 simp only [kS1, bLookup, bMapSet, wantA, isCall, stepOp, evalO, evalL, evalP, evalM, putDst, flat, kA, kB, Nat.reduceLT, ↓reduceIte, kC, Nat.reduceEqDiff, aBuiltin, abinG, guardFree, abin, aInt, aUn, aNilCheck, retQ, retQ1, aresults, aresultL, aresult, mkF, undefV, reduceCtorEq, kD, kE, kF, kG, kH, kI, kJ, kK, aExtract, calleeOf, dd2, lfi, d4, G16.1]
 refine KCall.intro (by simp only [kS1, bLookup, bMapSet, wantA, isCall, stepOp, evalO, evalL, evalP, evalM, putDst, flat, kA, kB, Nat.reduceLT, ↓reduceIte, kC, Nat.reduceEqDiff, aBuiltin, abinG, guardFree, abin, aInt, aUn, aNilCheck, retQ, retQ1, aresults, aresultL, aresult, mkF, undefV, reduceCtorEq, kD, kE, kF, kG, kH, kI, kJ, kK, aExtract, calleeOf] <;> rfl) ⟨Try.func33, rfl, by decide⟩ (Plane_any W0 _ nv ⟨4, k4E⟩ _ h17 (gr h17 L9_16) (rn11.le (Stays.RL Stays.isI) ((L13.trans l14).trans l16))) ?_
 rintro x h18 w18 ⟨⟨b, rfl, hb⟩, l18⟩
 obtain rfl : b = false := by
  cases b
  ·rfl
  ·exact absurd (hb.1 rfl).2.2 not_plane
 have G18 := lG h18 (L9_16.trans l18)
 simp only [kS1, bLookup, bMapSet, wantA, isCall, stepOp, evalO, evalL, evalP, evalM, putDst, flat, kA, kB, Nat.reduceLT, ↓reduceIte, kC, Nat.reduceEqDiff, aBuiltin, abinG, guardFree, abin, aInt, aUn, aNilCheck, retQ, retQ1, aresults, aresultL, aresult, mkF, undefV, reduceCtorEq, kD, kE, kF, kG, kH, kI, kJ, kK, aExtract, calleeOf, G18.1]
 refine KCall.intro (by simp only [kS1, bLookup, bMapSet, wantA, isCall, stepOp, evalO, evalL, evalP, evalM, putDst, flat, kA, kB, Nat.reduceLT, ↓reduceIte, kC, Nat.reduceEqDiff, aBuiltin, abinG, guardFree, abin, aInt, aUn, aNilCheck, retQ, retQ1, aresults, aresultL, aresult, mkF, undefV, reduceCtorEq, kD, kE, kF, kG, kH, kI, kJ, kK, aExtract, calleeOf] <;> rfl) ⟨Try.func33, rfl, by decide⟩ (Plane_any W0 _ iv ⟨4, k4E⟩ _ h18 (gr h18 (L9_16.trans l18)) (ri12.le (Stays.RL Stays.isI) (((l13.trans l14).trans l16).trans l18))) ?_
 rintro x h19 w19 ⟨⟨b, rfl, hb⟩, l19⟩
 obtain rfl : b = true := hb.2 ⟨k4ERt, isG4, is_plane⟩
 simp only [kS1, bLookup, bMapSet, wantA, isCall, stepOp, evalO, evalL, evalP, evalM, putDst, flat, kA, kB, Nat.reduceLT, ↓reduceIte, kC, Nat.reduceEqDiff, aBuiltin, abinG, guardFree, abin, aInt, aUn, aNilCheck, retQ, retQ1, aresults, aresultL, aresult, mkF, undefV, reduceCtorEq, kD, kE, kF, kG, kH, kI, kJ, kK, aExtract, calleeOf]
 exact ⟨trivial, ((((L5.trans L9).trans L9_16).trans l18).trans l19)⟩
end Go.Fw
namespace Go.Fw
open Go.Proofs
set_option maxHeartbeats 16000000
set_option maxRecDepth 10000
attribute [local instance] Classical.propDecidable
theorem GI.up {h : AHeap} {v : Value} {xs : List Int} (g : GI h v xs) {i : Nat} (hi : i ≤ xs.length) : ∃ v', aSlice Try.prog 38 v (some (.int .i64 i)) none none = some v' ∧ RL isI h v' (xs.drop i) := by
 have gc := GI.rl g
 obtain ⟨hl, ⟨rfl, hn⟩ | ⟨id, c, cap, rfl, ho, ht, hc⟩⟩ := g
 ·obtain rfl : xs = [] := List.eq_nil_of_length_eq_zero hn
  obtain rfl : i = 0 := by simpa using hi
  refine ⟨.slice none 0 0, ?_, by simpa using gc⟩
  have : ¬ UNK ≤ 0 := by decide
  simp [aSlice, Try.underlying38, Try.underlying3, this, aBounds, aBound]
 ·have n1 : (0 : Int) ≤ i := by omega
  have n2 : (i : Int) ≤ xs.length := by omega
  have ts : tsize Try.prog 3 = 1 := by kernel_rfl
  have rs := (RL.cellsI gc)
  have hx : (((xs.map (Value.int .i64)).drop i).take (xs.length - i)) = (xs.drop i).map (Value.int .i64) := by
   rw [← List.map_drop, List.take_of_length_le (by simp)]
  rcases hc with rfl | ⟨rfl, hn⟩
  ·have hp := rs.part (cap' := UNK + 1) (lo := i) (hi := xs.length) hi (Nat.le_refl _) (by simp)
   rw [hx] at hp
   refine ⟨.slice (some (aadd ⟨id, 0, none⟩ i)) (xs.length - i) (UNK + 1), ?_, RL.ofI hp⟩
   simp [aSlice, Try.underlying38, Try.underlying3, ts, aBounds, aBound, n1, n2]
  ·have hno : ¬ UNK ≤ xs.length := Nat.not_le.2 (Nat.lt_of_lt_of_le hn (by decide))
   have hp := rs.part (cap' := xs.length - i) (lo := i) (hi := xs.length) hi (Nat.le_refl _) (by simp)
   rw [hx] at hp
   by_cases c : xs.length = i
   ·refine ⟨.slice (some ⟨id, 0, none⟩) 0 0, ?_, ?_⟩
    ·simp [aSlice, Try.underlying38, Try.underlying3, aBounds, aBound, n1, n2, hno, c.symm]
    ·rw [List.drop_of_length_le (by omega)]; exact RL.ofI (RS.none' (a := none) (cap := 0) rfl)
   ·refine ⟨.slice (some (aadd ⟨id, 0, none⟩ i)) (xs.length - i) (xs.length - i), ?_, RL.ofI hp⟩
    simp [aSlice, Try.underlying38, Try.underlying3, ts, aBounds, aBound, n1, n2, hno, c]
section
variable {n : Nat} {es : List Pr} {rs ts : List (List Int)}
end
end Go.Fw
namespace Go.Fw
open Go.Proofs
attribute [local irreducible] KO4 KO3 KO2 KO1 KO KN KX KE VK KCond KDraw KCall KLoop
set_option maxHeartbeats 16000000
set_option maxRecDepth 10000
attribute [local instance] Classical.propDecidable
attribute [local irreducible] facesM PlaneM besM
theorem rlG_rl {h : AHeap} {v : Value} {rs : List (List Int)} (r : RL isG h v rs) : RL (RL isI) h v rs := r.map fun _ _ g => g.rl
theorem dart_len {n : Nat} {es : List Pr} {rs : List (List Int)} (hr : RightG ⟨(n : Int), es⟩) (G : RotG n es rs) : (facesM n rs).length ≤ 40000 ∧ ∀ f ∈ facesM n rs, f.length ≤ 40000 := by
 have h200 : (n : Int) ≤ 200 := hr.n1
 refine ⟨facesM_len (n := n) (es := es) (by omega), fun f hf => ?_⟩
 have R := G.isRot hr.inR hr.asc
 unfold facesM at hf
 rw [List.mem_map] at hf
 obtain ⟨g, hg, rfl⟩ := hf
 rw [facesF, List.mem_map] at hg
 obtain ⟨d, hd, rfl⟩ := hg
 have hd1 := (mem_hdsF R).1 hd
 have hdm : d ∈ dl n (rotN rs) := (mem_dl R).2 hd1.1
 have h1 := sub_len (orbL_nodup (phi_pm R) hdm) (B := ddl n (rotN rs)) fun z hz => (mem_ddl R).2 ((mem_dl R).1 ((phi_pm R).orb_mem hdm ((mem_orbL (phi_pm R) hdm).1 hz)))
 have h2 := rowsD_len n (rotN rs) n
 rw [rowsD_all] at h2
 have h3 : n * n ≤ 200 * 200 := Nat.mul_le_mul (by omega) (by omega)
 have h4 : (nat64 (faceF (rotN rs) d)).length = (orbL (fph (rotN rs)) d).length := by rw [nat64_length, faceF, List.length_map]
 omega
end Go.Fw
namespace Go.Fw
open Go.Proofs Go.ChangeShapes Go.WideShapes Go.RowKit
set_option maxRecDepth 100000
section
variable {H : Type} {enc : TypeId × Value → H} {W : World}
theorem rd_u16 {P : Program} {t : TypeId} (ht : P.underlying t = some (.int .u16)) : Rd enc P W t isH := by
 intro fuel cs x h
 obtain ⟨n, rfl, _, hw⟩ := DataW.trod_int ht h
 refine ⟨_, .int .u16 n, n, rfl, rfl, rfl, ?_⟩
 simp [Lit.wf, IntKind.min, IntKind.max, IntKind.signed, IntKind.bits] at hw
 omega
theorem open_u16s {v : Value} {d : DataW H} {ps : List MemPlace} {b0 : Nat} (hval : Value.okWide Try.prog W .any b0 50 v) (h : DataW.Trod enc Try.prog W 0 (fun _ => true) true 50 v d ps) (m : CMap) :
  ∃ u xs, VR 0 m u v ∧ RL isH (ext0 W) u xs := by
 obtain ⟨fuel, h⟩ := h
 obtain ⟨a, len, cap, rfl⟩ := okWide_slice Try.underlying50 hval
 obtain ⟨r', r, R, e0, t0, q0⟩ := rd_slice Try.underlying50 (by kernel_rfl) (rd_u16 Try.underlying110) _ _ _ h
 simp [Value.cells] at e0
 subst e0
 exact ⟨r, R, VR.of_tag t0, q0⟩
end
end Go.Fw
namespace Go.Fw
set_option maxHeartbeats 4000000
set_option maxRecDepth 10000
attribute [local instance] Classical.propDecidable
theorem cnt_or {α : Type} {p q : α → Bool} : ∀ (l : List α), (∀ v ∈ l, p v = true ∨ q v = true) → (l.filter p).length + (l.filter q).length = l.length + (l.filter fun v => p v && q v).length
 | [], _ => rfl
 | x :: l, h => by
  have ih := cnt_or l fun v hv => h v (List.mem_cons_of_mem _ hv)
  have hx := h x List.mem_cons_self
  simp only [List.filter_cons]
  cases c1 : p x <;> cases c2 : q x <;> simp_all <;> omega
theorem keepE_row {P : Nat → Nat → Prop} {r : Nat → List Nat} {v : Nat} (h : ∀ w ∈ r v, P v w) : keepE P r v = r v := by
 rw [keepE, List.filter_eq_self]; intro w hw; simpa using h w hw
theorem dl_len {n : Nat} {s : Nat → List Nat} (S : IsRot n s) {l : List Pr} (nd : l.Nodup) (hl : InR n l) (h : ∀ v w, w ∈ s v ↔ adj l v w) : (dl n s).length = 2 * l.length := by
 have key : ∀ l : List Pr, (l.flatMap fun p => [(p.1.toNat, p.2.toNat), (p.2.toNat, p.1.toNat)]).length = 2 * l.length := by
  intro l
  induction l with
  | nil => rfl
  | cons p l ih => rw [List.flatMap_cons, List.length_append, ih]; simp; omega
 rw [← key l]
 refine (perm_of_mem (dl_nodup S) ?_ fun d => ?_).length_eq
 ·rw [List.nodup_iff_pairwise_ne, List.pairwise_flatMap]
  refine ⟨fun p hp => ?_, ?_⟩
  ·have := hl p hp
   simp only [List.pairwise_cons, List.mem_singleton, forall_eq, List.not_mem_nil, false_implies, implies_true, List.Pairwise.nil, and_true]
   intro e; injection e with e1 e2; omega
  ·rw [List.nodup_iff_pairwise_ne] at nd
   refine List.Pairwise.imp_of_mem (fun {p q} hp hq hne => ?_) nd
   have h1 := hl p hp
   have h2 := hl q hq
   have hne' : p.1 ≠ q.1 ∨ p.2 ≠ q.2 := Classical.byContradiction fun hc => hne (Prod.ext (by omega) (by omega))
   intro x hx y hy e
   subst e
   simp only [List.mem_cons, List.not_mem_nil, or_false] at hx hy
   rcases hx with rfl | rfl <;> rcases hy with e | e <;> (injection e with e1 e2; omega)
 ·rw [mem_dl S, h, List.mem_flatMap]
  obtain ⟨v, w⟩ := d
  simp only [adj, List.mem_cons, List.not_mem_nil, or_false, Prod.mk.injEq]
  constructor
  ·rintro (h | h)
   ·exact ⟨_, h, .inl ⟨by simp, by simp⟩⟩
   ·exact ⟨_, h, .inr ⟨by simp, by simp⟩⟩
  ·rintro ⟨p, hp, ⟨rfl, rfl⟩ | ⟨rfl, rfl⟩⟩
   ·have := hl p hp
    left
    rw [Int.toNat_of_nonneg (by omega), Int.toNat_of_nonneg (by omega)]; exact hp
   ·have := hl p hp
    right
    rw [Int.toNat_of_nonneg (by omega), Int.toNat_of_nonneg (by omega)]; exact hp
section
variable {n : Nat} {es : List Pr} {rs : List (List Int)} {a : Nat}
theorem part_euler (hr : InR n es) (ha : Asc es) (G : RotG n es rs) (hm : a ∈ heads n es) (he : 0 < edK es es a) : ∃ g, (compL n es a).length + faK es (facesM n rs) a + 2 * g = edK es es a + 2 := by
 obtain ⟨han, hah⟩ := mem_heads.1 hm
 have R := G.isRot hr ha
 generalize hrn : rotN rs = r at R
 have hadj : ∀ v w, w ∈ r v ↔ adj es v w := fun v w => by rw [← hrn]; exact G.mem hr
 have S : IsRot n (keepE (fun v w => Con es a v ∧ Con es a w) r) := keepE_rot R fun v w h => ⟨h.2, h.1⟩
 generalize hs : keepE (fun v w => Con es a v ∧ Con es a w) r = s at S
 have hms : ∀ v w, w ∈ s v ↔ adj es v w ∧ Con es a v := fun v w => by
  rw [← hs, mem_keepE, hadj]
  exact ⟨fun h => ⟨h.1, h.2.1⟩, fun h => ⟨h.1, h.2, h.2.step h.1 rfl⟩⟩
 have row : ∀ v, Con es a v → s v = r v := fun v hv => by
  rw [← hs]
  exact keepE_row fun w hw => ⟨hv, hv.step ((hadj v w).1 hw) rfl⟩
 -- components
 have cr1 : ∀ v y, Cr s v y → v = y ∨ (Con es a v ∧ Con es a y) := fun v y h => by
  induction h with
  | refl => exact .inl rfl
  | @step b c _ hc ih =>
   obtain ⟨h1, h2⟩ := (hms _ _).1 hc
   right
   rcases ih with rfl | ⟨h3, _⟩
   ·exact ⟨h2, h2.step h1 rfl⟩
   ·exact ⟨h3, h2.step h1 rfl⟩
 have cr2 : ∀ y, Con es a y → Cr s a y := fun y h => by
  induction h with
  | refl => exact .refl _
  | step h1 h2 _ ih => exact ih.step ((hms _ _).2 ⟨h2, h1⟩)
 have hcm : cmps n s + (compL n es a).length = n + 1 := by
  have e1 : cmps n s = ((List.range n).filter fun v => decide (v = a ∨ ¬ Con es a v)).length := by
   rw [cmps, cls_perm (List.reverse_perm _).symm (Cr.eqv S _), cls_heads (lt := fun a b => a < b) (fun a b h g => absurd h (Nat.lt_asymm g)) _ _ rfl (range_asc n)]
   congr 1
   refine List.filter_congr fun v hv => ?_
   rw [decide_eq_decide]
   constructor
   ·intro h
    by_cases c : Con es a v
    ·left
     have h1 : ¬ a < v := h a (List.mem_range.2 han) ((cr2 v c).symm S)
     have h2 : ¬ v < a := fun q => hah v q c.symm
     omega
    ·exact .inr c
   ·rintro (rfl | c) y _ hy
    ·rcases cr1 _ _ hy with rfl | ⟨_, h2⟩
     ·exact Nat.lt_irrefl _
     ·exact fun q => hah y q h2.symm
    ·rcases cr1 _ _ hy with rfl | ⟨h1, _⟩
     ·exact Nat.lt_irrefl _
     ·exact absurd h1 c
  have e2 := cnt_or (p := fun v => decide (v = a ∨ ¬ Con es a v)) (q := fun v => decide (Con es a v)) (List.range n) fun v _ => by
   simp only [decide_eq_true_eq]
   by_cases c : Con es a v
   ·exact .inr c
   ·exact .inl (.inr c)
  have e3 : ((List.range n).filter fun v => decide (v = a ∨ ¬ Con es a v) && decide (Con es a v)).length = 1 := by
   refine one_len ?_ (x := a) ?_ ?_
   ·exact List.nodup_range.sublist List.filter_sublist
   ·rw [List.mem_filter, List.mem_range, Bool.and_eq_true, decide_eq_true_eq, decide_eq_true_eq]
    exact ⟨han, .inl rfl, Con.refl es a⟩
   ·intro b hb
    rw [List.mem_filter, Bool.and_eq_true, decide_eq_true_eq, decide_eq_true_eq] at hb
    rcases hb.2.1 with h | h
    ·exact h
    ·exact absurd hb.2.2 h
  rw [e1]
  unfold compL
  rw [e3, List.length_range] at e2
  exact e2
 -- those by themselves
 have nb : ∀ v, Con es a v → ∃ w, adj es v w := fun v hv => by
  unfold edK cntK at he
  obtain ⟨e, hel⟩ := List.exists_mem_of_length_pos he
  rw [List.mem_filter, decide_eq_true_eq] at hel
  have hr1 := hr e hel.1
  by_cases c : v = e.1.toNat
  ·refine ⟨e.2.toNat, .inl ?_⟩
   rw [c, Int.toNat_of_nonneg (by omega), Int.toNat_of_nonneg (by omega)]; exact hel.1
  ·exact (con_first (hv.symm.trans hel.2) c).1
 have hiso : ((List.range n).filter fun v => decide (s v = [])).length + (compL n es a).length = n := by
  have e2 := cnt_or (p := fun v => decide (s v = [])) (q := fun v => decide (Con es a v)) (List.range n) fun v _ => by
   simp only [decide_eq_true_eq]
   by_cases c : Con es a v
   ·exact .inr c
   ·left
    rw [List.eq_nil_iff_forall_not_mem]
    exact fun w hw => c ((hms _ _).1 hw).2
  have e3 : ((List.range n).filter fun v => decide (s v = []) && decide (Con es a v)) = [] := by
   rw [List.filter_eq_nil_iff]
   intro v _
   rw [Bool.and_eq_true, decide_eq_true_eq, decide_eq_true_eq]
   rintro ⟨h1, h2⟩
   obtain ⟨w, hw⟩ := nb v h2
   have := (hms v w).2 ⟨hw, h2⟩
   rw [h1] at this; cases this
  rw [e3, List.length_range] at e2
  unfold compL
  simpa using e2
 -- darts
 have hdl : (dl n s).length = 2 * edK es es a := by
  unfold edK cntK
  refine dl_len S (ha.nodup.sublist List.filter_sublist) (fun p hp => hr p (List.mem_filter.1 hp).1) fun v w => ?_
  rw [hms]
  simp only [adj, List.mem_filter, decide_eq_true_eq, Int.toNat_natCast]
  constructor
  ·rintro ⟨h1 | h1, h2⟩
   ·exact .inl ⟨h1, h2⟩
   ·exact .inr ⟨h1, h2.step (.inr h1) rfl⟩
  ·rintro (⟨h1, h2⟩ | ⟨h1, h2⟩)
   ·exact ⟨.inl h1, h2⟩
   ·exact ⟨.inr h1, h2.step (.inl h1) rfl⟩
 -- faces
 have p := phi_pm R
 have q := phi_pm S
 have hph : ∀ d : Dart, Con es a d.2 → fph s d = fph r d := fun d hd => by
  show (d.2, nx (s d.2) d.1) = (d.2, nx (r d.2) d.1)
  rw [row _ hd]
 have hin : ∀ d : Dart, d.2 ∈ s d.1 → Con es a d.2 := fun d hd => by
  obtain ⟨h1, h2⟩ := (hms _ _).1 hd
  exact h2.step h1 rfl
 have hit : ∀ (k : Nat) (d : Dart), d.2 ∈ s d.1 → it (fph s) k d = it (fph r) k d := fun k d hd => by
  induction k with
  | zero => rfl
  | succ k ih =>
   show fph s (it (fph s) k d) = fph r (it (fph r) k d)
   have hmm := q.it_mem ((mem_dl S).2 hd) k
   rw [← ih, hph _ (hin _ ((mem_dl S).1 hmm))]
 have hfa : faK es (facesM n rs) a = (hdsF n s).length := by
  have e1 : hdsF n s = (hdsF n r).filter fun d => decide (Con es a d.1) := by
   refine asc_eq ltD_irr (fun _ _ _ => ltD_trans) _ _ ((ddl_asc n s).filter _) (((ddl_asc n r).filter _).filter _) fun d => ?_
   rw [List.mem_filter, decide_eq_true_eq]
   show d ∈ hdsF n s ↔ d ∈ hdsF n r ∧ _
   rw [mem_hdsF S, mem_hdsF R, hms, hadj]
   constructor
   ·rintro ⟨⟨h1, h2⟩, h3⟩
    refine ⟨⟨h1, ?_⟩, h2⟩
    rintro e ⟨k, rfl⟩
    rw [← hit k d ((hms _ _).2 ⟨h1, h2⟩)]
    exact h3 _ ⟨k, rfl⟩
   ·rintro ⟨⟨h1, h3⟩, h2⟩
    refine ⟨⟨h1, h2⟩, ?_⟩
    rintro e ⟨k, rfl⟩
    rw [hit k d ((hms _ _).2 ⟨h1, h2⟩)]
    exact h3 _ ⟨k, rfl⟩
  rw [e1, faK, cntK, facesM, hrn, facesF, List.map_map, List.filter_map, List.length_map]
  congr 1
  refine List.filter_congr fun (d : Dart) hd => ?_
  have hd1 := ((mem_hdsF R).1 hd).1
  simp only [Function.comp]
  rw [decide_eq_decide, (faceF_head R ((mem_dl R).2 hd1)).1, Int.toNat_natCast]
 obtain ⟨g, hg⟩ := genus S
 rw [fcs, ← hdsF_len S, ← hfa, hdl] at hg
 exact ⟨g, by omega⟩
end
end Go.Fw
