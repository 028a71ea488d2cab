/- One of the texts of the layer and the walks: it proves what its theorems say of the functions of the seat, with no condition beyond theirs. -/
import Derived.Test.YtmakcgajgepabaaFwB25
set_option linter.unusedSimpArgs false
set_option linter.unusedVariables false
namespace Go.Fw
open Go.Proofs
attribute [local irreducible] KO4 KO3 KO2 KO1 KO KN KX KE VK KCond KDraw KCall KLoop
set_option maxHeartbeats 8000000
set_option maxRecDepth 10000
theorem awake_any (W0 : World) (h : AHeap) : AC Try.prog W0 10 [] h fun x h' => x = .bool true ∧ Le h h' := by
  refine AC.vc (fn := Try.f10) (c := _) ⟨Try.func10, rfl, by decide⟩ Try.ntmps10 Try.results10 (by simp) fun hwf => ?_
  simp only [argFrame, argFrom, Nat.reduceAdd]
  obtain ⟨h1, e1, l1, w1, o1⟩ := alloc_f hwf (flatP awE)
  have pE : PR h1 (.slice (some ⟨h.next, 0, none⟩) 8 8) awE := PR.made o1 rfl
  have bE : aBuildSlice Try.prog h 22 8 [(0, valP (0, 1)), (1, valP (0, 2)), (2, valP (0, 3)), (3, valP (0, 4)), (4, valP (1, 2)), (5, valP (1, 4)), (6, valP (2, 3)), (7, valP (3, 4))] = some (.slice (some ⟨h.next, 0, none⟩) 8 8, h1) := by rw [mkP8]; exact congrArg (fun g => some (_, g)) e1
  have bG := build24 (n := 5) pE.sl
  obtain ⟨h2', h2, a2, s2, l2, w2, lG⟩ := newG (n := 5) w1 pE
  generalize h.next = A at *
  generalize h1.next = B at *
  have gr : ∀ g, Le h2 g → GR g (.agg #[.int .i64 5, .slice (some ⟨A, 0, none⟩) 8 8]) ⟨5, awE⟩ := fun g l => ⟨_, rfl, (pE.le l2).le l⟩
  generalize Value.slice (some ⟨A, 0, none⟩) 8 8 = ev at *
  -- the first
  obtain ⟨h3, e3, l3, w3, o3⟩ := alloc_f w2 (flatP awW)
  have pW : PR h3 (.slice (some ⟨h2.next, 0, none⟩) 4 4) awW := PR.made o3 rfl
  have bW : aBuildSlice Try.prog h2 22 4 [(0, valP (0, 1)), (1, valP (0, 3)), (2, valP (1, 2)), (3, valP (2, 3))] = some (.slice (some ⟨h2.next, 0, none⟩) 4 4, h3) := by rw [mkP4]; exact congrArg (fun g => some (_, g)) e3
  have L2 := lG h2 (Le.refl _)
  simp only [kS1, bLookup, bMapSet, wantA, isCall, stepOp, evalO, evalL, evalP, evalM, putDst, flat, kA, kB, Nat.reduceLT, ↓reduceIte, kC, Nat.reduceEqDiff, aBuiltin, abinG, guardFree, abin, aInt, aUn, aNilCheck, retQ, retQ1, aresults, aresultL, aresult, mkF, undefV, reduceCtorEq, kD, kE, kF, kG, kH, kI, kJ, kK, aExtract, calleeOf, bP, bE, bG, a2, s2, L2.1, bW]
  generalize Value.slice (some ⟨h2.next, 0, none⟩) 4 4 = wv at *
  refine KCall.intro (by simp only [kS1, bLookup, bMapSet, wantA, isCall, stepOp, evalO, evalL, evalP, evalM, putDst, flat, kA, kB, Nat.reduceLT, ↓reduceIte, kC, Nat.reduceEqDiff, aBuiltin, abinG, guardFree, abin, aInt, aUn, aNilCheck, retQ, retQ1, aresults, aresultL, aresult, mkF, undefV, reduceCtorEq, kD, kE, kF, kG, kH, kI, kJ, kK, aExtract, calleeOf] <;> rfl) ⟨Try.func12, rfl, by decide⟩ (Fragments_any W0 _ wv ⟨5, awE⟩ awW h3 (gr h3 l3) pW (by decide)) ?_
  rintro x h4 w4 ⟨l4, lv, e, rfl, hc⟩
  obtain ⟨-, -, rfl, L, hT, fl⟩ : RightG ⟨5, awE⟩ ∧ WebOK awE awW ∧ e = 0 ∧ ∃ L, TogM 5 (onF 5 awW) awE L ∧ FL h4 lv (FragsM 5 awE awW L) := by
    rcases hc with ⟨h, _⟩ | ⟨_, h, _⟩ | h
    · exact absurd awR h
    · exact absurd awW1 h
    · exact h
  rw [awF1 hT] at fl
  clear hT L hc
  have le4 := l3.trans l4
  have L4 := lG h4 le4
  simp only [kS1, bLookup, bMapSet, wantA, isCall, stepOp, evalO, evalL, evalP, evalM, putDst, flat, kA, kB, Nat.reduceLT, ↓reduceIte, kC, Nat.reduceEqDiff, aBuiltin, abinG, guardFree, abin, aInt, aUn, aNilCheck, retQ, retQ1, aresults, aresultL, aresult, mkF, undefV, reduceCtorEq, kD, kE, kF, kG, kH, kI, kJ, kK, aExtract, calleeOf, L4.1]
  -- the second
  refine KCall.intro (by simp only [kS1, bLookup, bMapSet, wantA, isCall, stepOp, evalO, evalL, evalP, evalM, putDst, flat, kA, kB, Nat.reduceLT, ↓reduceIte, kC, Nat.reduceEqDiff, aBuiltin, abinG, guardFree, abin, aInt, aUn, aNilCheck, retQ, retQ1, aresults, aresultL, aresult, mkF, undefV, reduceCtorEq, kD, kE, kF, kG, kH, kI, kJ, kK, aExtract, calleeOf] <;> rfl) ⟨Try.func12, rfl, by decide⟩ (Fragments_any W0 _ (.slice none 0 0) ⟨5, awE⟩ [] h4 (gr h4 le4) (PR.nil h4) (by decide)) ?_
  rintro x h5 w5 ⟨l5, lv2, e, rfl, hc⟩
  obtain ⟨-, -, rfl, L, hT, fl2⟩ : RightG ⟨5, awE⟩ ∧ WebOK awE [] ∧ e = 0 ∧ ∃ L, TogM 5 (onF 5 []) awE L ∧ FL h5 lv2 (FragsM 5 awE [] L) := by
    rcases hc with ⟨h, _⟩ | ⟨_, h, _⟩ | h
    · exact absurd awR h
    · exact absurd awW2 h
    · exact h
  rw [awF2 hT] at fl2
  clear hT L hc
  have le5 := le4.trans l5
  have L5 := lG h5 le5
  simp only [kS1, bLookup, bMapSet, wantA, isCall, stepOp, evalO, evalL, evalP, evalM, putDst, flat, kA, kB, Nat.reduceLT, ↓reduceIte, kC, Nat.reduceEqDiff, aBuiltin, abinG, guardFree, abin, aInt, aUn, aNilCheck, retQ, retQ1, aresults, aresultL, aresult, mkF, undefV, reduceCtorEq, kD, kE, kF, kG, kH, kI, kJ, kK, aExtract, calleeOf, L5.1, fg1, aadd, Nat.zero_add, L5.2.2]
  -- the third
  have pE5 := pE.le (l2.trans le5)
  refine KCall.intro (by simp only [kS1, bLookup, bMapSet, wantA, isCall, stepOp, evalO, evalL, evalP, evalM, putDst, flat, kA, kB, Nat.reduceLT, ↓reduceIte, kC, Nat.reduceEqDiff, aBuiltin, abinG, guardFree, abin, aInt, aUn, aNilCheck, retQ, retQ1, aresults, aresultL, aresult, mkF, undefV, reduceCtorEq, kD, kE, kF, kG, kH, kI, kJ, kK, aExtract, calleeOf] <;> rfl) ⟨Try.func12, rfl, by decide⟩ (Fragments_any W0 _ ev ⟨5, awE⟩ awE h5 (gr h5 le5) pE5 (by decide)) ?_
  rintro x h6 w6 ⟨l6, lv3, e, rfl, hc⟩
  obtain ⟨-, -, rfl, L, hT, fl3⟩ : RightG ⟨5, awE⟩ ∧ WebOK awE awE ∧ e = 0 ∧ ∃ L, TogM 5 (onF 5 awE) awE L ∧ FL h6 lv3 (FragsM 5 awE awE L) := by
    rcases hc with ⟨h, _⟩ | ⟨_, h, _⟩ | h
    · exact absurd awR h
    · exact absurd awW3 h
    · exact h
  rw [awF3] at fl3
  clear hT L hc
  have le6 := le5.trans l6
  have L6 := lG h6 le6
  obtain ⟨h7, e7, l7, w7, o7⟩ := alloc_f w6 (flatP [((1 : Int), (2 : Int)), (0, 1)])
  have pX : PR h7 (.slice (some ⟨h6.next, 0, none⟩) 2 2) [((1 : Int), (2 : Int)), (0, 1)] := PR.made o7 rfl
  have bX : aBuildSlice Try.prog h6 22 2 [(0, valP (1, 2)), (1, valP (0, 1))] = some (.slice (some ⟨h6.next, 0, none⟩) 2 2, h7) := by rw [mkP2]; exact congrArg (fun g => some (_, g)) e7
  simp only [kS1, bLookup, bMapSet, wantA, isCall, stepOp, evalO, evalL, evalP, evalM, putDst, flat, kA, kB, Nat.reduceLT, ↓reduceIte, kC, Nat.reduceEqDiff, aBuiltin, abinG, guardFree, abin, aInt, aUn, aNilCheck, retQ, retQ1, aresults, aresultL, aresult, mkF, undefV, reduceCtorEq, kD, kE, kF, kG, kH, kI, kJ, kK, aExtract, calleeOf, L6.1, bP, bX]
  generalize Value.slice (some ⟨h6.next, 0, none⟩) 2 2 = xv at *
  refine KCall.intro (by simp only [kS1, bLookup, bMapSet, wantA, isCall, stepOp, evalO, evalL, evalP, evalM, putDst, flat, kA, kB, Nat.reduceLT, ↓reduceIte, kC, Nat.reduceEqDiff, aBuiltin, abinG, guardFree, abin, aInt, aUn, aNilCheck, retQ, retQ1, aresults, aresultL, aresult, mkF, undefV, reduceCtorEq, kD, kE, kF, kG, kH, kI, kJ, kK, aExtract, calleeOf] <;> rfl) ⟨Try.func12, rfl, by decide⟩ (Fragments_any W0 _ xv ⟨5, awE⟩ [(1, 2), (0, 1)] h7 (gr h7 (le6.trans l7)) pX (by decide)) ?_
  rintro x h8 w8 ⟨l8, lv4, e, rfl, hc⟩
  obtain rfl : e = 2 := by
    rcases hc with ⟨h, _⟩ | ⟨_, _, _, h⟩ | ⟨_, h, _⟩
    · exact absurd awR h
    · exact h
    · exact absurd h awW4
  clear hc
  -- what is wanted
  obtain ⟨k1, q1, m1, v1, u1⟩ := alloc_f w8 (flatP [((0 : Int), (2 : Int))])
  have b1 : aBuildSlice Try.prog h8 22 1 [(0, valP (0, 2))] = some (.slice (some ⟨h8.next, 0, none⟩) 1 1, k1) := by rw [mkP1']; exact congrArg (fun g => some (_, g)) q1
  obtain ⟨k2, q2, m2, v2, u2⟩ := alloc_f v1 [.int .i64 0, .int .i64 2]
  have b2 : aBuildSlice Try.prog k1 39 2 [(0, .int .i64 0), (1, .int .i64 2)] = some (.slice (some ⟨k1.next, 0, none⟩) 2 2, k2) := by rw [mk2]; exact congrArg (fun g => some (_, g)) q2
  obtain ⟨k3, q3, m3, v3, u3⟩ := alloc_f v2 (flatP [((0 : Int), (4 : Int)), (1, 4), (3, 4)])
  have b3 : aBuildSlice Try.prog k2 22 3 [(0, valP (0, 4)), (1, valP (1, 4)), (2, valP (3, 4))] = some (.slice (some ⟨k2.next, 0, none⟩) 3 3, k3) := by rw [mkP3]; exact congrArg (fun g => some (_, g)) q3
  obtain ⟨k4, q4, m4, v4, u4⟩ := alloc_f v3 [.int .i64 0, .int .i64 1, .int .i64 3]
  have b4 : aBuildSlice Try.prog k3 39 3 [(0, .int .i64 0), (1, .int .i64 1), (2, .int .i64 3)] = some (.slice (some ⟨k3.next, 0, none⟩) 3 3, k4) := by rw [mkI3]; exact congrArg (fun g => some (_, g)) q4
  have r1 : PR k1 (.slice (some ⟨h8.next, 0, none⟩) 1 1) [((0 : Int), (2 : Int))] := PR.made u1 rfl
  have r2 : RL isI k2 (.slice (some ⟨k1.next, 0, none⟩) 2 2) [0, 2] := RL.ofI (RS.whole u2 rfl)
  have r3 : PR k3 (.slice (some ⟨k2.next, 0, none⟩) 3 3) [((0 : Int), (4 : Int)), (1, 4), (3, 4)] := PR.made u3 rfl
  have r4 : RL isI k4 (.slice (some ⟨k3.next, 0, none⟩) 3 3) [0, 1, 3] := RL.ofI (RS.whole u4 rfl)
  generalize Value.slice (some ⟨h8.next, 0, none⟩) 1 1 = x1 at *
  generalize Value.slice (some ⟨k1.next, 0, none⟩) 2 2 = x2 at *
  generalize Value.slice (some ⟨k2.next, 0, none⟩) 3 3 = x3 at *
  generalize Value.slice (some ⟨k3.next, 0, none⟩) 3 3 = x4 at *
  have c1 := build41 r1.sl r2.sl
  have c2 := build41 r3.sl r4.sl
  obtain ⟨k5, q5, m5, v5, u5⟩ := alloc_f v4 [x1, x2, x3, x4]
  have b5 : aBuildSlice Try.prog k4 27 2 [(0, .agg #[x1, x2]), (1, .agg #[x3, x4])] = some (.slice (some ⟨k4.next, 0, none⟩) 2 2, k5) := by rw [mkF2 k4 r1.sl r2.sl r3.sl r4.sl]; exact congrArg (fun g => some (_, g)) q5
  have want : FL k5 (.slice (some ⟨k4.next, 0, none⟩) 2 2) [⟨[(0, 2)], [0, 2]⟩, ⟨[(0, 4), (1, 4), (3, 4)], [0, 1, 3]⟩] := by
    refine ⟨[x1, x2, x3, x4], ?_, fun i f hf => ?_⟩
    · exact CS.own (k := 2) (off := 0) (n := 2) (cap := 2) u5 (by simp)
    · match i with
      | 0 => simp at hf; subst hf; exact ⟨x1, x2, rfl, rfl, r1.le (((m2.trans m3).trans m4).trans m5), r2.le Stays.isI ((m3.trans m4).trans m5)⟩
      | 1 => simp at hf; subst hf; exact ⟨x3, x4, rfl, rfl, r3.le (m4.trans m5), r4.le Stays.isI m5⟩
      | i + 2 => simp at hf
  generalize Value.slice (some ⟨k4.next, 0, none⟩) 2 2 = want' at *
  have lk : Le h8 k5 := (((m1.trans m2).trans m3).trans m4).trans m5
  have le68 := (l7.trans l8).trans lk
  have fl' := fl.le ((l5.trans l6).trans le68)
  have fl2' := fl2.le (l6.trans le68)
  have fl3' := fl3.le le68
  have ll2 : ∀ g, aLen Try.prog g 27 lv2 = some (.int .i64 1) := fun g => fl2.len g
  have ll3 : ∀ g, aLen Try.prog g 27 lv3 = some (.int .i64 0) := fun g => fl3.len g
  have aw0 : awrap .i64 (0 + 0) = 0 := by decide
  simp only [kS1, bLookup, bMapSet, wantA, isCall, stepOp, evalO, evalL, evalP, evalM, putDst, flat, kA, kB, Nat.reduceLT, ↓reduceIte, kC, Nat.reduceEqDiff, aBuiltin, abinG, guardFree, abin, aInt, aUn, aNilCheck, retQ, retQ1, aresults, aresultL, aresult, mkF, undefV, reduceCtorEq, kD, kE, kF, kG, kH, kI, kJ, kK, aExtract, calleeOf, bP, b1, b2, b3, b4, c1, c2, b5, aw0]
  refine KCall.intro (by simp only [kS1, bLookup, bMapSet, wantA, isCall, stepOp, evalO, evalL, evalP, evalM, putDst, flat, kA, kB, Nat.reduceLT, ↓reduceIte, kC, Nat.reduceEqDiff, aBuiltin, abinG, guardFree, abin, aInt, aUn, aNilCheck, retQ, retQ1, aresults, aresultL, aresult, mkF, undefV, reduceCtorEq, kD, kE, kF, kG, kH, kI, kJ, kK, aExtract, calleeOf] <;> rfl) ⟨Try.func14, rfl, by decide⟩ (Same_any W0 lv want' _ _ k5 fl' want (by decide) (by decide)) ?_
  rintro x h9 w9 ⟨⟨b, rfl, hb⟩, l9⟩
  obtain rfl : b = true := hb.2 rfl
  obtain ⟨y1, y2, hy, py, py2⟩ := fl2'.get (i := 0) rfl
  have ad : aIndexAddr Try.prog 27 lv2 (.int .i64 0) = some (.pointer (some (fAddr lv2 0))) := fl2'.addr (k := .i64) 0 (by decide)
  have hy9 := hy h9 l9
  have lpy : ∀ g, aLen Try.prog g 22 y1 = some (.int .i64 8) := fun g => py.len g
  have lpy2 : ∀ g, aLen Try.prog g 39 y2 = some (.int .i64 0) := fun g => py2.len (P := Try.prog) Try.underlying39 g
  simp only [kS1, bLookup, bMapSet, wantA, isCall, stepOp, evalO, evalL, evalP, evalM, putDst, flat, kA, kB, Nat.reduceLT, ↓reduceIte, kC, Nat.reduceEqDiff, aBuiltin, abinG, guardFree, abin, aInt, aUn, aNilCheck, retQ, retQ1, aresults, aresultL, aresult, mkF, undefV, reduceCtorEq, kD, kE, kF, kG, kH, kI, kJ, kK, aExtract, calleeOf, ll2, ll3, ad, ff0, ff1, hy9.1, hy9.2, lpy, lpy2, eq_self]
  have leA : Le h h2 := l1.trans l2
  exact ⟨trivial, (((leA.trans le6).trans le68).trans l9)⟩
end Go.Fw
