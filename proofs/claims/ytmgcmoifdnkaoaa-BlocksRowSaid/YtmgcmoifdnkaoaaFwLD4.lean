/- A text of the proof. -/
import Derived.Test.YtmgcmoifdnkaoaaFwLC16
import Derived.Test.YtmgcmoifdnkaoaaFwLT10
import Derived.Test.YtmgcmoifdnkaoaaFwLBR
set_option linter.unusedSimpArgs false
set_option linter.unusedVariables false
namespace Go.Fw
open Go.Proofs
attribute [local irreducible] KO4 KO3 KO2 KO1 KO KN KX KE VK KCond KDraw KCall KLoop
set_option maxHeartbeats 16000000
set_option maxRecDepth 10000
attribute [local irreducible] lowM bridgesM cutsM blocksM keyE rowE treeM rowL cenM
theorem rowL_length (m : Nat) : (rowL m).length = 2 * m := by
 have := rowL_len m (m + 1) (Nat.le_refl _)
 unfold rowL
 rw [this]; omega
theorem BlocksRow_law (W0 : Base) (x : Int) (h : AHeap) (hx : (Go.Lit.int .u8 x).wf = true) : AC Try.prog W0 10 [.int .u8 x] h fun y h' => y = .bool true ∧ True := by
 obtain ⟨x0, x1⟩ := u8_range hx
 clear hx
 obtain ⟨y0, rfl⟩ := Int.eq_ofNat_of_zero_le x0
 clear x0
 refine AC.vc (fn := Try.f10) (c := _) ⟨Try.func10, rfl, by decide⟩ Try.ntmps10 Try.results10 (by simp) fun hwf => ?_
 simp only [argFrame, argFrom, Nat.reduceAdd]
 obtain ⟨m, hm⟩ : ∃ m, m = y0 % 199 := ⟨_, rfl⟩
 obtain ⟨n, hn⟩ : ∃ n, n = m + 2 := ⟨_, rfl⟩
 have h200 : n ≤ 200 := by omega
 have hrem : awrap .i64 (2 + (awrap .i64 (y0 : Int)).tmod 199) = (n : Int) := by
  rw [awrap_i64 (y0 : Int) (by omega) (by omega), Int.tmod_eq_emod_of_nonneg (by omega), awrap_i64 _ (by omega) (by omega)]
  omega
 have hc : aConvert Try.prog h 5 3 (.int .u8 (y0 : Int)) = some (.int .i64 (awrap .i64 (y0 : Int)), h) := by
  simp only [aConvert, Try.underlying5, Try.underlying3]
 have c199 : ¬ ((199 : Int) = 0) := by decide
 obtain ⟨h1, h2, e1, e2, l2, w2, nX, gx2⟩ := GX.new hwf (n : Int)
 simp only [kS1, bLookup, bMapSet, wantA, isCall, stepOp, evalO, evalL, evalP, evalM, putDst, flat, kA, kB, Nat.reduceLT, ↓reduceIte, kC, Nat.reduceEqDiff, aBuiltin, abinG, guardFree, abin, aInt, aUn, aNilCheck, retQ, retQ1, aresults, aresultL, aresult, mkF, undefV, reduceCtorEq, kD, kE, kF, kG, kH, kI, kJ, kK, aExtract, calleeOf, hc, c199, hrem, build24e, e1, e2]
 generalize h.next = X at *
 refine KLoop.intro (fun k fr hq => ∃ (j : Nat) (ev : Value), k = n - 1 - j ∧ j ≤ n - 1 ∧ fr = mkF [(3, .int .i64 n), (4, .pointer (some ⟨X, 0, none⟩)), (5, .int .i64 (j + 1 : Nat))] ∧ GX hq X n ev ((rowE n).take j) ∧ Le h hq ∧ Apart h ev)
  (n - 1) [(3, .int .i64 n), (4, .pointer (some ⟨X, 0, none⟩)), (5, .int .i64 ((0 + 1 : Nat) : Int))] (by simp only [hasAll, kS1, bLookup, bMapSet, wantA, isCall, stepOp, evalO, evalL, evalP, evalM, putDst, flat, kA, kB, Nat.reduceLT, ↓reduceIte, kC, Nat.reduceEqDiff, aBuiltin, abinG, guardFree, abin, aInt, aUn, aNilCheck, retQ, retQ1, aresults, aresultL, aresult, mkF, undefV, reduceCtorEq, kD, kE, kF, kG, kH, kI, kJ, kK, aExtract, calleeOf]; simp)
  ⟨0, _, rfl, Nat.zero_le _, rfl, by simpa using gx2, l2, fun b hb => by cases hb⟩ ?_
 clear gx2 w2 l2 e2 e1
 clear h2 h1
 rintro k fr hq hwq ⟨j, ev, rfl, hj, rfl, gx, leq, aev⟩
 simp only [kS1, bLookup, bMapSet, wantA, isCall, stepOp, evalO, evalL, evalP, evalM, putDst, flat, kA, kB, Nat.reduceLT, ↓reduceIte, kC, Nat.reduceEqDiff, aBuiltin, abinG, guardFree, abin, aInt, aUn, aNilCheck, retQ, retQ1, aresults, aresultL, aresult, mkF, undefV, reduceCtorEq, kD, kE, kF, kG, kH, kI, kJ, kK, aExtract, calleeOf]
 refine KCond.intro (fun ht => ?_) (fun hf => ?_)
 ·have hlt : j + 1 < n := lt_t ht
  clear ht
  have hw : awrap .i64 (((j + 1 : Nat) : Int) - 1) = (j : Int) := by rw [awrap_i64 _ (by omega) (by omega)]; omega
  have htl : ((rowE n).take j).length ≤ 200 := by rw [List.length_take]; omega
  obtain ⟨v', h4, h5, h6, q4, q5, q6, gx6, w6, lq4, f6, -⟩ := gx.push' hwq ((j : Int), ((j + 1 : Nat) : Int)) (by omega)
  obtain ⟨l6, a6⟩ := f6 h leq nX aev
  have gl := gx.ld
  rw [← rowE_get hlt] at gx6
  simp only [kS1, bLookup, bMapSet, wantA, isCall, stepOp, evalO, evalL, evalP, evalM, putDst, flat, kA, kB, Nat.reduceLT, ↓reduceIte, kC, Nat.reduceEqDiff, aBuiltin, abinG, guardFree, abin, aInt, aUn, aNilCheck, retQ, retQ1, aresults, aresultL, aresult, mkF, undefV, reduceCtorEq, kD, kE, kF, kG, kH, kI, kJ, kK, aExtract, calleeOf, fg1, aadd, Nat.zero_add, gl.2.2, hw, bE, q4, q5, q6, awrap_succ (j + 1) (by omega)]
  exact loop_again (n - 1 - (j + 1)) [(3, .int .i64 n), (4, .pointer (some ⟨X, 0, none⟩)), (5, .int .i64 (j + 1 + 1 : Nat))] (by omega) (by simp only [hasAll, kS1, bLookup, bMapSet, wantA, isCall, stepOp, evalO, evalL, evalP, evalM, putDst, flat, kA, kB, Nat.reduceLT, ↓reduceIte, kC, Nat.reduceEqDiff, aBuiltin, abinG, guardFree, abin, aInt, aUn, aNilCheck, retQ, retQ1, aresults, aresultL, aresult, mkF, undefV, reduceCtorEq, kD, kE, kF, kG, kH, kI, kJ, kK, aExtract, calleeOf]; simp)
   ⟨j + 1, v', rfl, by omega, rfl, gx6, l6, a6⟩
 have hge : n ≤ j + 1 := lt_f hf
 rw [List.take_of_length_le (by rw [rowE_length]; omega)] at gx
 clear hj hge hf
 have hr := row_right h200
 have hjo := row_join (n := n) (by omega)
 have lX := fun (g : AHeap) (l : Le hq g) => (gx.le l).ld
 simp only [kS1, bLookup, bMapSet, wantA, isCall, stepOp, evalO, evalL, evalP, evalM, putDst, flat, kA, kB, Nat.reduceLT, ↓reduceIte, kC, Nat.reduceEqDiff, aBuiltin, abinG, guardFree, abin, aInt, aUn, aNilCheck, retQ, retQ1, aresults, aresultL, aresult, mkF, undefV, reduceCtorEq, kD, kE, kF, kG, kH, kI, kJ, kK, aExtract, calleeOf, (lX hq (Le.refl _)).1]
 refine KCall.intro (by simp only [kS1, bLookup, bMapSet, wantA, isCall, stepOp, evalO, evalL, evalP, evalM, putDst, flat, kA, kB, Nat.reduceLT, ↓reduceIte, kC, Nat.reduceEqDiff, aBuiltin, abinG, guardFree, abin, aInt, aUn, aNilCheck, retQ, retQ1, aresults, aresultL, aresult, mkF, undefV, reduceCtorEq, kD, kE, kF, kG, kH, kI, kJ, kK, aExtract, calleeOf] <;> rfl) ⟨Try.func43, rfl, by decide⟩ (Tree_any W0 _ _ hq gx.gr) ?_
 rintro y h2 w2 ⟨l2, ⟨hno, _⟩ | ⟨_, hno, _⟩ | ⟨_, _, tv, rfl, ht⟩⟩
 ·exact absurd hr hno
 ·exact absurd hjo hno
 have ht : TR h2 tv ⟨rowB m, nat64 (rowC m), rowL m⟩ := by rw [← row_treeM (by omega : m + 2 ≤ 200), ← hn]; exact ht
 have ht0 := ht
 obtain ⟨kv, cv, lv, rfl, hk, hcv, hl⟩ := ht
 obtain ⟨h3', h3, a3, s3, l3, w3, lT⟩ := newT (T := ⟨rowB m, nat64 (rowC m), rowL m⟩) w2 hk hcv hl
 simp only [kS1, bLookup, bMapSet, wantA, isCall, stepOp, evalO, evalL, evalP, evalM, putDst, flat, kA, kB, Nat.reduceLT, ↓reduceIte, kC, Nat.reduceEqDiff, aBuiltin, abinG, guardFree, abin, aInt, aUn, aNilCheck, retQ, retQ1, aresults, aresultL, aresult, mkF, undefV, reduceCtorEq, kD, kE, kF, kG, kH, kI, kJ, kK, aExtract, calleeOf, a3, s3, (lT h3 (Le.refl _)).1]
 generalize h2.next = Y at *
 have bl : (rowB m).length = m + 1 := by simp [rowB]
 have cl : (nat64 (rowC m)).length = m := by simp [rowC, nat64]
 have ll := rowL_length m
 refine KCall.intro (by simp only [kS1, bLookup, bMapSet, wantA, isCall, stepOp, evalO, evalL, evalP, evalM, putDst, flat, kA, kB, Nat.reduceLT, ↓reduceIte, kC, Nat.reduceEqDiff, aBuiltin, abinG, guardFree, abin, aInt, aUn, aNilCheck, retQ, retQ1, aresults, aresultL, aresult, mkF, undefV, reduceCtorEq, kD, kE, kF, kG, kH, kI, kJ, kK, aExtract, calleeOf] <;> rfl) ⟨Try.func45, rfl, by decide⟩ (Centre_any W0 _ _ h3 (ht0.le l3) (2 * m + 1) (by simp only [bl, cl]; omega) (by omega) (by simp only [ll]; omega)) ?_
 rintro y h4 w4 ⟨l4, hcs⟩
 simp only [bl] at hcs
 obtain ⟨bo, hbo, hy⟩ : ∃ bo : Bool, (bo = true ↔ m % 2 = 0) ∧ y = .tuple #[.bool bo, .int .i64 ((m / 2 : Nat) : Int)] := by
  rcases hcs with ⟨hno, _⟩ | ⟨_, e⟩
  ·exact absurd (row_lk m) hno
  by_cases c : m % 2 = 0
  ·exact ⟨true, by simp [c], by rw [e, row_cen_even c]⟩
  ·exact ⟨false, by simp [c], by rw [e, row_cen_odd (by omega)]⟩
 subst hy
 clear hcs
 have F := lT h4 l4
 have lk := fun g => hk.len (P := Try.prog) Try.underlying38 g
 have lc := fun g => hcv.len (P := Try.prog) Try.underlying35 g
 have l2' := fun g => hl.len g
 simp only [bl] at lk
 simp only [cl] at lc
 simp only [ll] at l2'
 have hw1 : awrap .i64 ((n : Int) - 1) = ((m + 1 : Nat) : Int) := by rw [awrap_i64 _ (by omega) (by omega)]; omega
 have hw2 : awrap .i64 ((n : Int) - 2) = ((m : Nat) : Int) := by rw [awrap_i64 _ (by omega) (by omega)]; omega
 have hw3 : awrap .i64 (awrap .i64 (2 * (n : Int)) - 4) = ((2 * m : Nat) : Int) := by rw [awrap_i64 (2 * (n : Int)) (by omega) (by omega), awrap_i64 _ (by omega) (by omega)]; omega
 have d0 : decide ((0 : Int) = 0) = true := by decide
 have z1 : decide (((m + 1 : Nat) : Int) = ((m + 1 : Nat) : Int)) = true := by simp
 have z2 : decide (((m : Nat) : Int) = ((m : Nat) : Int)) = true := by simp
 have z3 : decide (((2 * m : Nat) : Int) = ((2 * m : Nat) : Int)) = true := by simp
 have z4 : decide (((m / 2 : Nat) : Int) < 0) = false := decide_eq_false (by omega)
 have c2 : ¬ ((2 : Int) = 0) := by decide
 have hmod : (n : Int).tmod 2 = ((m % 2 : Nat) : Int) := by
  rw [Int.tmod_eq_emod_of_nonneg (by omega)]; omega
 have hdiv : awrap .i64 ((n : Int).tdiv 2) = ((m / 2 + 1 : Nat) : Int) := by
  rw [Int.tdiv_eq_ediv_of_nonneg (by omega), awrap_i64 _ (by omega) (by omega)]; omega
 have hdm : awrap .i64 (((m / 2 + 1 : Nat) : Int) - 1) = ((m / 2 : Nat) : Int) := by rw [awrap_i64 _ (by omega) (by omega)]; omega
 simp only [kS1, bLookup, bMapSet, wantA, isCall, stepOp, evalO, evalL, evalP, evalM, putDst, flat, kA, kB, Nat.reduceLT, ↓reduceIte, kC, Nat.reduceEqDiff, aBuiltin, abinG, guardFree, abin, aInt, aUn, aNilCheck, retQ, retQ1, aresults, aresultL, aresult, mkF, undefV, reduceCtorEq, kD, kE, kF, kG, kH, kI, kJ, kK, aExtract, calleeOf, bne, wr0, d0, tf0, tf1, tf2, aadd, Nat.zero_add, F.2.1, F.2.2.1, F.2.2.2, lk, lc, l2', hw1, hw2, hw3, z1, z2, z3, z4, c2]
 by_cases c : m % 2 = 0
 ·obtain rfl : bo = true := hbo.2 c
  have dm : decide ((n : Int).tmod 2 = 0) = true := decide_eq_true (by rw [hmod]; omega)
  have z5 : decide (((m / 2 : Nat) : Int) < ((m + 1 : Nat) : Int)) = true := decide_eq_true (by omega)
  have hi : m / 2 < (rowB m).length := by rw [bl]; omega
  have ad := hk.addr (P := Try.prog) Try.underlying38 Try.underlying22 (by kernel_rfl) (k := .i64) (m / 2) hi
  obtain ⟨u, ld, hu⟩ := (hk.le Stays.PR (l3.trans l4)).load (P := Try.prog) Try.underlying22 rfl (m / 2) hi
  have hb : (rowB m)[m / 2] = [(((m / 2 : Nat) : Int), ((m / 2 + 1 : Nat) : Int))] := by simp [rowB]
  rw [hb] at hu
  obtain ⟨h5, e5, l5, w5, o5⟩ := alloc_f w4 (flatP [(((m / 2 : Nat) : Int), ((m / 2 + 1 : Nat) : Int))])
  have mk : aBuildSlice Try.prog h4 22 1 [(0, valP (((m / 2 : Nat) : Int), ((m / 2 + 1 : Nat) : Int)))] = some (.slice (some ⟨h4.next, 0, none⟩) 1 1, h5) := by rw [mkP1', ← e5]
  have r5 : PR h5 (.slice (some ⟨h4.next, 0, none⟩) 1 1) [(((m / 2 : Nat) : Int), ((m / 2 + 1 : Nat) : Int))] := PR.made o5 rfl
  simp only [kS1, bLookup, bMapSet, wantA, isCall, stepOp, evalO, evalL, evalP, evalM, putDst, flat, kA, kB, Nat.reduceLT, ↓reduceIte, kC, Nat.reduceEqDiff, aBuiltin, abinG, guardFree, abin, aInt, aUn, aNilCheck, retQ, retQ1, aresults, aresultL, aresult, mkF, undefV, reduceCtorEq, kD, kE, kF, kG, kH, kI, kJ, kK, aExtract, calleeOf, dm, tf0, aadd, Nat.zero_add, F.2.1, lk, z5, ad, ld, c2, hdiv, hdm, bE, mk]
  refine KCall.intro (by simp only [kS1, bLookup, bMapSet, wantA, isCall, stepOp, evalO, evalL, evalP, evalM, putDst, flat, kA, kB, Nat.reduceLT, ↓reduceIte, kC, Nat.reduceEqDiff, aBuiltin, abinG, guardFree, abin, aInt, aUn, aNilCheck, retQ, retQ1, aresults, aresultL, aresult, mkF, undefV, reduceCtorEq, kD, kE, kF, kG, kH, kI, kJ, kK, aExtract, calleeOf] <;> rfl) ⟨Try.func22, rfl, by decide⟩ (SamePairs_any W0 u _ _ _ h5 (hu.le l5) r5 (by simp)) ?_
  rintro y h6 w6 ⟨hy, rfl⟩
  obtain rfl : y = .bool true := by rw [hy]; simp
  simp only [kS1, bLookup, bMapSet, wantA, isCall, stepOp, evalO, evalL, evalP, evalM, putDst, flat, kA, kB, Nat.reduceLT, ↓reduceIte, kC, Nat.reduceEqDiff, aBuiltin, abinG, guardFree, abin, aInt, aUn, aNilCheck, retQ, retQ1, aresults, aresultL, aresult, mkF, undefV, reduceCtorEq, kD, kE, kF, kG, kH, kI, kJ, kK, aExtract, calleeOf]
  refine KCall.intro (by simp only [kS1, bLookup, bMapSet, wantA, isCall, stepOp, evalO, evalL, evalP, evalM, putDst, flat, kA, kB, Nat.reduceLT, ↓reduceIte, kC, Nat.reduceEqDiff, aBuiltin, abinG, guardFree, abin, aInt, aUn, aNilCheck, retQ, retQ1, aresults, aresultL, aresult, mkF, undefV, reduceCtorEq, kD, kE, kF, kG, kH, kI, kJ, kK, aExtract, calleeOf] <;> rfl) ⟨Try.func41, rfl, by decide⟩ (awake6_any W0 h6) ?_
  rintro y h7 w7 ⟨rfl, l7⟩
  simp only [kS1, bLookup, bMapSet, wantA, isCall, stepOp, evalO, evalL, evalP, evalM, putDst, flat, kA, kB, Nat.reduceLT, ↓reduceIte, kC, Nat.reduceEqDiff, aBuiltin, abinG, guardFree, abin, aInt, aUn, aNilCheck, retQ, retQ1, aresults, aresultL, aresult, mkF, undefV, reduceCtorEq, kD, kE, kF, kG, kH, kI, kJ, kK, aExtract, calleeOf]
  all_goals exact ⟨trivial, trivial⟩
 ·obtain rfl : bo = false := by
   cases bo with
   | false => rfl
   | true => exact absurd (hbo.1 rfl) c
  have dm : decide ((n : Int).tmod 2 = 0) = false := decide_eq_false (by rw [hmod]; omega)
  have z5 : decide (((m / 2 : Nat) : Int) < ((m : Nat) : Int)) = true := decide_eq_true (by omega)
  have z6 : decide (((m / 2 + 1 : Nat) : Int) = ((m / 2 + 1 : Nat) : Int)) = true := by simp
  have hi : m / 2 < (nat64 (rowC m)).length := by rw [cl]; omega
  have ad := hcv.addr (P := Try.prog) Try.underlying35 Try.underlying3 (by kernel_rfl) (k := .i64) (m / 2) hi
  have ld := (hcv.le Stays.isI (l3.trans l4)).loadI (P := Try.prog) Try.underlying3 rfl (m / 2) hi
  have hb : (nat64 (rowC m))[m / 2] = ((m / 2 + 1 : Nat) : Int) := by simp [rowC, nat64]
  rw [hb] at ld
  simp only [kS1, bLookup, bMapSet, wantA, isCall, stepOp, evalO, evalL, evalP, evalM, putDst, flat, kA, kB, Nat.reduceLT, ↓reduceIte, kC, Nat.reduceEqDiff, aBuiltin, abinG, guardFree, abin, aInt, aUn, aNilCheck, retQ, retQ1, aresults, aresultL, aresult, mkF, undefV, reduceCtorEq, kD, kE, kF, kG, kH, kI, kJ, kK, aExtract, calleeOf, dm, tf1, aadd, Nat.zero_add, F.2.2.1, lc, z5, ad, ld, c2, hdiv, z6]
  refine KCall.intro (by simp only [kS1, bLookup, bMapSet, wantA, isCall, stepOp, evalO, evalL, evalP, evalM, putDst, flat, kA, kB, Nat.reduceLT, ↓reduceIte, kC, Nat.reduceEqDiff, aBuiltin, abinG, guardFree, abin, aInt, aUn, aNilCheck, retQ, retQ1, aresults, aresultL, aresult, mkF, undefV, reduceCtorEq, kD, kE, kF, kG, kH, kI, kJ, kK, aExtract, calleeOf] <;> rfl) ⟨Try.func41, rfl, by decide⟩ (awake6_any W0 h4) ?_
  rintro y h7 w7 ⟨rfl, l7⟩
  simp only [kS1, bLookup, bMapSet, wantA, isCall, stepOp, evalO, evalL, evalP, evalM, putDst, flat, kA, kB, Nat.reduceLT, ↓reduceIte, kC, Nat.reduceEqDiff, aBuiltin, abinG, guardFree, abin, aInt, aUn, aNilCheck, retQ, retQ1, aresults, aresultL, aresult, mkF, undefV, reduceCtorEq, kD, kE, kF, kG, kH, kI, kJ, kK, aExtract, calleeOf]
  all_goals exact ⟨trivial, trivial⟩
end Go.Fw
namespace Go.Fw
open Go.Proofs Go.ChangeShapes Go.WideShapes Go.RowKit Go.ChangeAt
open Go.Proofs.Ytmgcmoifdnkaoaa
set_option maxRecDepth 100000
theorem blocksRow_lifted (os : Os) (started : os.Started) (H : Type) (enc : TypeId × Value → H) :
  ReturnsInHanded {} Try.checked os 10 .any (Rows.blocksRowSpec.pre6 enc Try.prog Try.f10 Rows.blocksRowRow.domain false) (Rows.blocksRowSpec.post enc Try.prog Try.f10 false true false false) := by
 have own : ownKnob Try.prog.godebug = Option.none := by kernel_rfl
 have laidOut : laidOutB Try.prog = true := by kernel_rfl
 refine returnsInHanded_of_change (C := Try.checked) own started (by kernel_rfl) Try.func10
  (ChangeSpec.witness6 (enc := enc) (C := Try.checked) false ⟨#[], #[.int .u8 0], []⟩ 8 (by kernel_rfl) (by kernel_rfl) (by kernel_rfl) (by kernel_rfl)) ?_
 intro W base args ds gs before hval0 hW hcnd _
 have hval : ∀ (j : Nat) t v, Try.f10.params[j]? = some t → args[j]? = some v → Value.okWide Try.prog W .any base t v := hval0
 have hW' := hW
 obtain ⟨p, q, hA0, hV, rfl, hfz, hnd⟩ := hW
 have hA : DataW.TrodAll enc Try.prog W 0 (fun _ => true) true Try.f10.params.toList args.toList ds p := hA0
 rw [Try.params10] at hA hval
 obtain ⟨v0, w0, d0, e0, p0, q0, hargs, rfl, rfl, h0, hA⟩ := trodAll_cons hA
 obtain ⟨rfl, rfl, rfl⟩ := trodAll_nil hA
 obtain rfl : args = #[v0] := by cases args; simp_all
 obtain ⟨rfl, rfl⟩ := trodVars_none hV
 obtain ⟨x0, rfl, rfl, rfl, hw0⟩ := open_int Try.underlying5 (hval 0 5 v0 rfl rfl) h0
 refine (BlocksRow_law (Base.of W)  x0 (ext0 W) hw0 [] (fun _ => ⟨0, 0, 0⟩) W [.int .u8 x0] (Rel.start W _) ?_).mono ?_
 ·exact .cons (.flat rfl) ((.nil _ _))
 ·rintro e W' ⟨x, x', m', h', rfl, R, -, -, hx, rfl, -⟩
  obtain rfl := hx.bool_inv
  have hb := R.below
  have hbool : DataW.Trod enc Try.prog W' W.heap.size (fun _ => false) false 4 (.bool true) (.lit (.bool true)) [] := ⟨1, by simp [DataW.trod, Value.cells, Try.underlying4]⟩
  have hargs :=
   tcons (Below.trod laidOut (by kernel_rfl) (of_decide_eq_true (by kernel_rfl)) h0 hb (by simp)) (trodAll_mk0)
  try simp only [List.append_nil, List.nil_append] at hargs
  exact ⟨_, rfl, _, _, _, [], _, [], hW', trodAll_mk1 hbool, hargs, rfl, hb.frame _, fun e => by cases e⟩
theorem blocksRow_said : Rows.BlocksRowSaid :=
 OpenClaim.holds_of_wide 10 Try.f10 rfl rfl rfl rfl rfl rfl rfl ⟨rfl, rfl, rfl, rfl, rfl⟩ rfl rfl rfl rfl rfl (by kernel_rfl) Try.func10 (by kernel_rfl)
  (of_decide_eq_true (by kernel_rfl)) (by unfold Func.isWrapper; first | (rw [if_pos (by decide +kernel)]; kernel_rfl) | (rw [if_neg (by decide +kernel)]; exact ⟨rfl, rfl⟩))
  (fun os started H enc _ => blocksRow_lifted os started H enc)
end Go.Fw
