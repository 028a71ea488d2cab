/- A text of the proof. -/
import Derived.Test.YtmgcmoifdnkaoaaFwLC14
import Derived.Test.YtmgcmoifdnkaoaaFwLB8
set_option linter.unusedSimpArgs false
set_option linter.unusedVariables false
namespace Go.Fw
open Go.Proofs
attribute [local irreducible] KO4 KO3 KO2 KO1 KO KN KX KE VK KCond KDraw KCall KLoop
set_option maxHeartbeats 16000000
set_option maxRecDepth 10000
attribute [local irreducible] lowM bridgesM cutsM blocksM keyE treeM
theorem blocks_pos {n : Nat} {es : List Pr} (hr : RightG ⟨(n : Int), es⟩) (he : es ≠ []) : 0 < (blocksM n es).length := by
 obtain ⟨p, l, rfl⟩ := List.exists_cons_of_ne_nil he
 obtain ⟨k, b, hk, _⟩ := met_ex hr (List.mem_cons_self (a := p) (l := l))
 have := (List.getElem?_eq_some_iff.1 hk).1
 omega
theorem BlocksApart_law (W0 : Base) (v : Value) (G : GM) (h : AHeap) (hg : GR h v G) : AC Try.prog W0 9 [v] h fun x h' => x = .bool true ∧ True := by
 have hg0 := hg
 obtain ⟨gn, es⟩ := G
 obtain ⟨ev, rfl, hp⟩ := hg.open
 refine AC.vc (fn := Try.f9) (c := _) ⟨Try.func9, rfl, by decide⟩ Try.ntmps9 Try.results9 (by simp) fun hwf => ?_
 simp only [argFrame, argFrom, Nat.reduceAdd]
 obtain ⟨h1, b1, le1, wf1, -, lA⟩ := boxG (n := gn) hwf hp
 generalize h.next = B at *
 have lA1 := lA h1 (Le.refl _)
 have ll := fun g => hp.len g
 by_cases c1 : gn > 40
 ·have d1 : decide (gn > 40) = true := decide_eq_true c1
  simp only [kS1, bLookup, bMapSet, wantA, isCall, stepOp, evalO, evalL, evalP, evalM, putDst, flat, kA, kB, Nat.reduceLT, ↓reduceIte, kC, Nat.reduceEqDiff, aBuiltin, abinG, guardFree, abin, aInt, aUn, aNilCheck, retQ, retQ1, aresults, aresultL, aresult, mkF, undefV, reduceCtorEq, kD, kE, kF, kG, kH, kI, kJ, kK, aExtract, calleeOf, b1, fg0, fg1, aadd, Nat.zero_add, lA1.2.1, d1]
  refine KCall.intro (by simp only [kS1, bLookup, bMapSet, wantA, isCall, stepOp, evalO, evalL, evalP, evalM, putDst, flat, kA, kB, Nat.reduceLT, ↓reduceIte, kC, Nat.reduceEqDiff, aBuiltin, abinG, guardFree, abin, aInt, aUn, aNilCheck, retQ, retQ1, aresults, aresultL, aresult, mkF, undefV, reduceCtorEq, kD, kE, kF, kG, kH, kI, kJ, kK, aExtract, calleeOf] <;> rfl) ⟨Try.func41, rfl, by decide⟩ (awake6_any W0 h1) ?_
  rintro x h2 w2 ⟨rfl, l2⟩
  simp only [kS1, bLookup, bMapSet, wantA, isCall, stepOp, evalO, evalL, evalP, evalM, putDst, flat, kA, kB, Nat.reduceLT, ↓reduceIte, kC, Nat.reduceEqDiff, aBuiltin, abinG, guardFree, abin, aInt, aUn, aNilCheck, retQ, retQ1, aresults, aresultL, aresult, mkF, undefV, reduceCtorEq, kD, kE, kF, kG, kH, kI, kJ, kK, aExtract, calleeOf]
  all_goals exact ⟨trivial, trivial⟩
 have d1 : decide (gn > 40) = false := decide_eq_false c1
 by_cases c2 : (es.length : Int) > 700
 ·have d2 : decide ((es.length : Int) > 700) = true := decide_eq_true c2
  simp only [kS1, bLookup, bMapSet, wantA, isCall, stepOp, evalO, evalL, evalP, evalM, putDst, flat, kA, kB, Nat.reduceLT, ↓reduceIte, kC, Nat.reduceEqDiff, aBuiltin, abinG, guardFree, abin, aInt, aUn, aNilCheck, retQ, retQ1, aresults, aresultL, aresult, mkF, undefV, reduceCtorEq, kD, kE, kF, kG, kH, kI, kJ, kK, aExtract, calleeOf, b1, fg0, fg1, aadd, Nat.zero_add, lA1.2.1, lA1.2.2, ll, d1, d2]
  refine KCall.intro (by simp only [kS1, bLookup, bMapSet, wantA, isCall, stepOp, evalO, evalL, evalP, evalM, putDst, flat, kA, kB, Nat.reduceLT, ↓reduceIte, kC, Nat.reduceEqDiff, aBuiltin, abinG, guardFree, abin, aInt, aUn, aNilCheck, retQ, retQ1, aresults, aresultL, aresult, mkF, undefV, reduceCtorEq, kD, kE, kF, kG, kH, kI, kJ, kK, aExtract, calleeOf] <;> rfl) ⟨Try.func41, rfl, by decide⟩ (awake6_any W0 h1) ?_
  rintro x h2 w2 ⟨rfl, l2⟩
  simp only [kS1, bLookup, bMapSet, wantA, isCall, stepOp, evalO, evalL, evalP, evalM, putDst, flat, kA, kB, Nat.reduceLT, ↓reduceIte, kC, Nat.reduceEqDiff, aBuiltin, abinG, guardFree, abin, aInt, aUn, aNilCheck, retQ, retQ1, aresults, aresultL, aresult, mkF, undefV, reduceCtorEq, kD, kE, kF, kG, kH, kI, kJ, kK, aExtract, calleeOf]
  all_goals exact ⟨trivial, trivial⟩
 have d2 : decide ((es.length : Int) > 700) = false := decide_eq_false c2
 simp only [kS1, bLookup, bMapSet, wantA, isCall, stepOp, evalO, evalL, evalP, evalM, putDst, flat, kA, kB, Nat.reduceLT, ↓reduceIte, kC, Nat.reduceEqDiff, aBuiltin, abinG, guardFree, abin, aInt, aUn, aNilCheck, retQ, retQ1, aresults, aresultL, aresult, mkF, undefV, reduceCtorEq, kD, kE, kF, kG, kH, kI, kJ, kK, aExtract, calleeOf, b1, fg0, fg1, aadd, Nat.zero_add, lA1.2.1, lA1.2.2, ll, d1, d2, lA1.1]
 refine KCall.intro (by simp only [kS1, bLookup, bMapSet, wantA, isCall, stepOp, evalO, evalL, evalP, evalM, putDst, flat, kA, kB, Nat.reduceLT, ↓reduceIte, kC, Nat.reduceEqDiff, aBuiltin, abinG, guardFree, abin, aInt, aUn, aNilCheck, retQ, retQ1, aresults, aresultL, aresult, mkF, undefV, reduceCtorEq, kD, kE, kF, kG, kH, kI, kJ, kK, aExtract, calleeOf] <;> rfl) ⟨Try.func43, rfl, by decide⟩ (Tree_any W0 _ ⟨gn, es⟩ h1 (hg0.le le1)) ?_
 rintro x h2 w2 ⟨l2, hcs⟩
 obtain ⟨tv, E, T, rfl, ht, hE⟩ : ∃ tv E T, x = .tuple #[tv, .int .i64 E] ∧ TR h2 tv T ∧ ((¬ RightG ⟨gn, es⟩ ∧ E = 20 ∧ T = ⟨[], [], []⟩) ∨ (RightG ⟨gn, es⟩ ∧ ¬ JoinG gn.toNat es ∧ E = 60 ∧ T = ⟨[], [], []⟩) ∨ (RightG ⟨gn, es⟩ ∧ JoinG gn.toNat es ∧ E = 0 ∧ T = treeM gn.toNat es)) := by
  rcases hcs with ⟨a, rfl⟩ | ⟨a, b, rfl⟩ | ⟨a, b, tv, rfl, c⟩
  ·exact ⟨_, _, _, rfl, TR.empty _, .inl ⟨a, rfl, rfl⟩⟩
  ·exact ⟨_, _, _, rfl, TR.empty _, .inr (.inl ⟨a, b, rfl, rfl⟩)⟩
  ·exact ⟨_, _, _, rfl, c, .inr (.inr ⟨a, b, rfl, rfl⟩)⟩
 clear hcs
 have ht0 := ht
 obtain ⟨x1, x2, x3, rfl, r1, r2, r3⟩ := ht
 obtain ⟨h3', h3, a3, s3, l3, w3, L3⟩ := newT w2 r1 r2 r3
 have le3 := l2.trans l3
 have A3 := lA h3 le3
 have ht3 := ht0.le l3
 have lb := fun g => r1.len (P := Try.prog) Try.underlying38 g
 simp only [kS1, bLookup, bMapSet, wantA, isCall, stepOp, evalO, evalL, evalP, evalM, putDst, flat, kA, kB, Nat.reduceLT, ↓reduceIte, kC, Nat.reduceEqDiff, aBuiltin, abinG, guardFree, abin, aInt, aUn, aNilCheck, retQ, retQ1, aresults, aresultL, aresult, mkF, undefV, reduceCtorEq, kD, kE, kF, kG, kH, kI, kJ, kK, aExtract, calleeOf, a3, s3, A3.1]
 generalize h2.next = P1 at *
 refine KCall.intro (by simp only [kS1, bLookup, bMapSet, wantA, isCall, stepOp, evalO, evalL, evalP, evalM, putDst, flat, kA, kB, Nat.reduceLT, ↓reduceIte, kC, Nat.reduceEqDiff, aBuiltin, abinG, guardFree, abin, aInt, aUn, aNilCheck, retQ, retQ1, aresults, aresultL, aresult, mkF, undefV, reduceCtorEq, kD, kE, kF, kG, kH, kI, kJ, kK, aExtract, calleeOf] <;> rfl) ⟨Try.func48, rfl, by decide⟩ (Right_any W0 _ ⟨gn, es⟩ h3 (hg0.le (le1.trans le3))) ?_
 rintro x h4 w4 ⟨⟨bb, rfl, hbb⟩, l4⟩
 have le4 := le3.trans l4
 have A4 := lA h4 le4
 have F4 := L3 h4 l4
 cases bb with
 | false =>
  have hn : ¬ RightG ⟨gn, es⟩ := fun A => Bool.noConfusion (hbb.2 A)
  rcases hE with ⟨_, rfl, rfl⟩ | ⟨a, _⟩ | ⟨a, _⟩
  rotate_left
  ·exact absurd a hn
  ·exact absurd a hn
  have dd : decide ((20 : Int) = 20) = true := by decide
  simp only [kS1, bLookup, bMapSet, wantA, isCall, stepOp, evalO, evalL, evalP, evalM, putDst, flat, kA, kB, Nat.reduceLT, ↓reduceIte, kC, Nat.reduceEqDiff, aBuiltin, abinG, guardFree, abin, aInt, aUn, aNilCheck, retQ, retQ1, aresults, aresultL, aresult, mkF, undefV, reduceCtorEq, kD, kE, kF, kG, kH, kI, kJ, kK, aExtract, calleeOf, dd, F4.1, build66e]
  refine KCall.intro (by simp only [kS1, bLookup, bMapSet, wantA, isCall, stepOp, evalO, evalL, evalP, evalM, putDst, flat, kA, kB, Nat.reduceLT, ↓reduceIte, kC, Nat.reduceEqDiff, aBuiltin, abinG, guardFree, abin, aInt, aUn, aNilCheck, retQ, retQ1, aresults, aresultL, aresult, mkF, undefV, reduceCtorEq, kD, kE, kF, kG, kH, kI, kJ, kK, aExtract, calleeOf] <;> rfl) ⟨Try.func47, rfl, by decide⟩ (SameTree_any W0 _ _ ⟨[], [], []⟩ ⟨[], [], []⟩ h4 (ht3.le l4) (TR.empty _) (by simp) (by simp) (by simp) (by simp)) ?_
  rintro x h5 w5 ⟨hx, l5⟩
  obtain rfl : x = .bool true := by rw [hx]; simp
  simp only [kS1, bLookup, bMapSet, wantA, isCall, stepOp, evalO, evalL, evalP, evalM, putDst, flat, kA, kB, Nat.reduceLT, ↓reduceIte, kC, Nat.reduceEqDiff, aBuiltin, abinG, guardFree, abin, aInt, aUn, aNilCheck, retQ, retQ1, aresults, aresultL, aresult, mkF, undefV, reduceCtorEq, kD, kE, kF, kG, kH, kI, kJ, kK, aExtract, calleeOf]
  refine KCall.intro (by simp only [kS1, bLookup, bMapSet, wantA, isCall, stepOp, evalO, evalL, evalP, evalM, putDst, flat, kA, kB, Nat.reduceLT, ↓reduceIte, kC, Nat.reduceEqDiff, aBuiltin, abinG, guardFree, abin, aInt, aUn, aNilCheck, retQ, retQ1, aresults, aresultL, aresult, mkF, undefV, reduceCtorEq, kD, kE, kF, kG, kH, kI, kJ, kK, aExtract, calleeOf] <;> rfl) ⟨Try.func41, rfl, by decide⟩ (awake6_any W0 h5) ?_
  rintro x h6 w6 ⟨rfl, l6⟩
  simp only [kS1, bLookup, bMapSet, wantA, isCall, stepOp, evalO, evalL, evalP, evalM, putDst, flat, kA, kB, Nat.reduceLT, ↓reduceIte, kC, Nat.reduceEqDiff, aBuiltin, abinG, guardFree, abin, aInt, aUn, aNilCheck, retQ, retQ1, aresults, aresultL, aresult, mkF, undefV, reduceCtorEq, kD, kE, kF, kG, kH, kI, kJ, kK, aExtract, calleeOf]
  all_goals exact ⟨trivial, trivial⟩
 | true =>
 have hr : RightG ⟨gn, es⟩ := hbb.1 rfl
 clear hbb
 simp only [kS1, bLookup, bMapSet, wantA, isCall, stepOp, evalO, evalL, evalP, evalM, putDst, flat, kA, kB, Nat.reduceLT, ↓reduceIte, kC, Nat.reduceEqDiff, aBuiltin, abinG, guardFree, abin, aInt, aUn, aNilCheck, retQ, retQ1, aresults, aresultL, aresult, mkF, undefV, reduceCtorEq, kD, kE, kF, kG, kH, kI, kJ, kK, aExtract, calleeOf, A4.1]
 refine KCall.intro (by simp only [kS1, bLookup, bMapSet, wantA, isCall, stepOp, evalO, evalL, evalP, evalM, putDst, flat, kA, kB, Nat.reduceLT, ↓reduceIte, kC, Nat.reduceEqDiff, aBuiltin, abinG, guardFree, abin, aInt, aUn, aNilCheck, retQ, retQ1, aresults, aresultL, aresult, mkF, undefV, reduceCtorEq, kD, kE, kF, kG, kH, kI, kJ, kK, aExtract, calleeOf] <;> rfl) ⟨Try.func49, rfl, by decide⟩ (joined_any W0 _ ⟨gn, es⟩ h4 (hg0.le (le1.trans le4))) ?_
 rintro x h5 w5 ⟨⟨bb, rfl, hbb⟩, l5⟩
 have F5 := L3 h5 (l4.trans l5)
 cases bb with
 | false =>
  have hn : ¬ JoinG gn.toNat es := fun A => Bool.noConfusion (hbb.2 ⟨hr, by show gn ≤ 40; omega, A⟩)
  rcases hE with ⟨a, _⟩ | ⟨_, _, rfl, rfl⟩ | ⟨_, a, _⟩
  ·exact absurd hr a
  rotate_left
  ·exact absurd a hn
  have dd : decide ((60 : Int) = 60) = true := by decide
  simp only [kS1, bLookup, bMapSet, wantA, isCall, stepOp, evalO, evalL, evalP, evalM, putDst, flat, kA, kB, Nat.reduceLT, ↓reduceIte, kC, Nat.reduceEqDiff, aBuiltin, abinG, guardFree, abin, aInt, aUn, aNilCheck, retQ, retQ1, aresults, aresultL, aresult, mkF, undefV, reduceCtorEq, kD, kE, kF, kG, kH, kI, kJ, kK, aExtract, calleeOf, dd, F5.1, build66e]
  refine KCall.intro (by simp only [kS1, bLookup, bMapSet, wantA, isCall, stepOp, evalO, evalL, evalP, evalM, putDst, flat, kA, kB, Nat.reduceLT, ↓reduceIte, kC, Nat.reduceEqDiff, aBuiltin, abinG, guardFree, abin, aInt, aUn, aNilCheck, retQ, retQ1, aresults, aresultL, aresult, mkF, undefV, reduceCtorEq, kD, kE, kF, kG, kH, kI, kJ, kK, aExtract, calleeOf] <;> rfl) ⟨Try.func47, rfl, by decide⟩ (SameTree_any W0 _ _ ⟨[], [], []⟩ ⟨[], [], []⟩ h5 (ht3.le (l4.trans l5)) (TR.empty _) (by simp) (by simp) (by simp) (by simp)) ?_
  rintro x h6 w6 ⟨hx, l6⟩
  obtain rfl : x = .bool true := by rw [hx]; simp
  simp only [kS1, bLookup, bMapSet, wantA, isCall, stepOp, evalO, evalL, evalP, evalM, putDst, flat, kA, kB, Nat.reduceLT, ↓reduceIte, kC, Nat.reduceEqDiff, aBuiltin, abinG, guardFree, abin, aInt, aUn, aNilCheck, retQ, retQ1, aresults, aresultL, aresult, mkF, undefV, reduceCtorEq, kD, kE, kF, kG, kH, kI, kJ, kK, aExtract, calleeOf]
  refine KCall.intro (by simp only [kS1, bLookup, bMapSet, wantA, isCall, stepOp, evalO, evalL, evalP, evalM, putDst, flat, kA, kB, Nat.reduceLT, ↓reduceIte, kC, Nat.reduceEqDiff, aBuiltin, abinG, guardFree, abin, aInt, aUn, aNilCheck, retQ, retQ1, aresults, aresultL, aresult, mkF, undefV, reduceCtorEq, kD, kE, kF, kG, kH, kI, kJ, kK, aExtract, calleeOf] <;> rfl) ⟨Try.func41, rfl, by decide⟩ (awake6_any W0 h6) ?_
  rintro x h7 w7 ⟨rfl, l7⟩
  simp only [kS1, bLookup, bMapSet, wantA, isCall, stepOp, evalO, evalL, evalP, evalM, putDst, flat, kA, kB, Nat.reduceLT, ↓reduceIte, kC, Nat.reduceEqDiff, aBuiltin, abinG, guardFree, abin, aInt, aUn, aNilCheck, retQ, retQ1, aresults, aresultL, aresult, mkF, undefV, reduceCtorEq, kD, kE, kF, kG, kH, kI, kJ, kK, aExtract, calleeOf]
  all_goals exact ⟨trivial, trivial⟩
 | true =>
 have hj : JoinG gn.toNat es := (hbb.1 rfl).2.2
 rcases hE with ⟨a, _⟩ | ⟨_, a, _⟩ | ⟨_, _, rfl, rfl⟩
 ·exact absurd hr a
 ·exact absurd hj a
 have h0 : 0 ≤ gn := hr.n0
 obtain ⟨n, rfl⟩ := Int.eq_ofNat_of_zero_le h0
 have hpos := blocks_pos hr hj.1
 have dd : decide ((0 : Int) = 0) = true := by decide
 have hbl : ((treeM (n : Int).toNat es).bs.length : Int) > 0 := by rw [treeM_def, Int.toNat_natCast]; show ((blocksM n es).length : Int) > 0; omega
 have d3 : decide (((treeM (n : Int).toNat es).bs.length : Int) > 0) = true := decide_eq_true hbl
 simp only [kS1, bLookup, bMapSet, wantA, isCall, stepOp, evalO, evalL, evalP, evalM, putDst, flat, kA, kB, Nat.reduceLT, ↓reduceIte, kC, Nat.reduceEqDiff, aBuiltin, abinG, guardFree, abin, aInt, aUn, aNilCheck, retQ, retQ1, aresults, aresultL, aresult, mkF, undefV, reduceCtorEq, kD, kE, kF, kG, kH, kI, kJ, kK, aExtract, calleeOf, dd, tf0, aadd, Nat.zero_add, F5.2.1, lb, d3]
 refine KCall.intro (by simp only [kS1, bLookup, bMapSet, wantA, isCall, stepOp, evalO, evalL, evalP, evalM, putDst, flat, kA, kB, Nat.reduceLT, ↓reduceIte, kC, Nat.reduceEqDiff, aBuiltin, abinG, guardFree, abin, aInt, aUn, aNilCheck, retQ, retQ1, aresults, aresultL, aresult, mkF, undefV, reduceCtorEq, kD, kE, kF, kG, kH, kI, kJ, kK, aExtract, calleeOf] <;> rfl) ⟨Try.func41, rfl, by decide⟩ (awake6_any W0 h5) ?_
 rintro x h6 w6 ⟨rfl, l6⟩
 simp only [kS1, bLookup, bMapSet, wantA, isCall, stepOp, evalO, evalL, evalP, evalM, putDst, flat, kA, kB, Nat.reduceLT, ↓reduceIte, kC, Nat.reduceEqDiff, aBuiltin, abinG, guardFree, abin, aInt, aUn, aNilCheck, retQ, retQ1, aresults, aresultL, aresult, mkF, undefV, reduceCtorEq, kD, kE, kF, kG, kH, kI, kJ, kK, aExtract, calleeOf]
 all_goals exact ⟨trivial, trivial⟩
end Go.Fw
namespace Go.Fw
open Go.Proofs Go.ChangeShapes Go.WideShapes Go.RowKit Go.ChangeAt
open Go.Proofs.Ytmgcmoifdnkaoaa
set_option maxRecDepth 100000
theorem blocksApart_lifted (os : Os) (started : os.Started) (H : Type) (enc : TypeId × Value → H) :
  ReturnsInHanded {} Try.checked os 9 .any (Rows.blocksApartSpec.pre6 enc Try.prog Try.f9 Rows.blocksApartRow.domain false) (Rows.blocksApartSpec.post enc Try.prog Try.f9 false true false false) := by
 have own : ownKnob Try.prog.godebug = Option.none := by kernel_rfl
 have laidOut : laidOutB Try.prog = true := by kernel_rfl
 refine returnsInHanded_of_change (C := Try.checked) own started (by kernel_rfl) Try.func9
  (ChangeSpec.witness6 (enc := enc) (C := Try.checked) false ⟨#[], #[.agg #[.int .i64 0, .slice Option.none 0 0]], []⟩ 8 (by kernel_rfl) (by kernel_rfl) (by kernel_rfl) (by kernel_rfl)) ?_
 intro W base args ds gs before hval0 hW hcnd _
 have hval : ∀ (j : Nat) t v, Try.f9.params[j]? = some t → args[j]? = some v → Value.okWide Try.prog W .any base t v := hval0
 have hW' := hW
 obtain ⟨p, q, hA0, hV, rfl, hfz, hnd⟩ := hW
 have hA : DataW.TrodAll enc Try.prog W 0 (fun _ => true) true Try.f9.params.toList args.toList ds p := hA0
 rw [Try.params9] at hA hval
 obtain ⟨v0, w0, d0, e0, p0, q0, hargs, rfl, rfl, h0, hA⟩ := trodAll_cons hA
 obtain ⟨rfl, rfl, rfl⟩ := trodAll_nil hA
 obtain rfl : args = #[v0] := by cases args; simp_all
 obtain ⟨rfl, rfl⟩ := trodVars_none hV
 obtain ⟨u0, x0, hv0, hx0⟩ := open_graph (hval 0 24 v0 rfl rfl) h0 (fun _ => ⟨0, 0, 0⟩)
 refine (BlocksApart_law (Base.of W) u0 x0 (ext0 W) hx0 [] (fun _ => ⟨0, 0, 0⟩) W [v0] (Rel.start W _) ?_).mono ?_
 ·exact .cons hv0 ((.nil _ _))
 ·rintro e W' ⟨x, x', m', h', rfl, R, -, -, hx, rfl, -⟩
  obtain rfl := hx.bool_inv
  have hb := R.below
  have hlt0 : ∀ y ∈ p0, y.block < W.heap.size := fun y hy => hW'.lt y (by simp [hy])
  have hbool : DataW.Trod enc Try.prog W' W.heap.size (fun _ => false) false 4 (.bool true) (.lit (.bool true)) [] := ⟨1, by simp [DataW.trod, Value.cells, Try.underlying4]⟩
  have hargs :=
   tcons (Below.trod laidOut (by kernel_rfl) (of_decide_eq_true (by kernel_rfl)) h0 hb hlt0) (trodAll_mk0)
  try simp only [List.append_nil, List.nil_append] at hargs
  exact ⟨_, rfl, _, _, _, [], _, [], hW', trodAll_mk1 hbool, hargs, rfl, hb.frame _, fun e => by cases e⟩
theorem blocksApart_said : Rows.BlocksApartSaid :=
 OpenClaim.holds_of_wide 9 Try.f9 rfl rfl rfl rfl rfl rfl rfl ⟨rfl, rfl, rfl, rfl, rfl⟩ rfl rfl rfl rfl rfl (by kernel_rfl) Try.func9 (by kernel_rfl)
  (of_decide_eq_true (by kernel_rfl)) (by unfold Func.isWrapper; first | (rw [if_pos (by decide +kernel)]; kernel_rfl) | (rw [if_neg (by decide +kernel)]; exact ⟨rfl, rfl⟩))
  (fun os started H enc _ => blocksApart_lifted os started H enc)
end Go.Fw
