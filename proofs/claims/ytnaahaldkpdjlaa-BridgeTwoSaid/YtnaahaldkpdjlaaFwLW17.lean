/- A text of the proof. -/
import Derived.Test.YtnaahaldkpdjlaaFwLW6
import Derived.Test.YtnaahaldkpdjlaaFwLB8
set_option linter.unusedSimpArgs false
set_option linter.unusedVariables false
namespace Go.Fw
open Go.Proofs
attribute [local irreducible] KO4 KO3 KO2 KO1 KO KN KX KE VK KCond KDraw KCall KLoop
set_option maxHeartbeats 16000000
set_option maxRecDepth 10000
attribute [local irreducible] lowM bridgesM cutsM blocksM keyE
theorem BridgeTwo_law (W0 : Base) (v bv : Value) (G : GM) (bs : List Bool) (h : AHeap) (hg : GR h v G) (hb : RL isBo h bv bs) : AC Try.prog W0 3 [v, bv] h fun x h' => x = .bool true ∧ True := by
 have hg0 := hg
 obtain ⟨gn, es⟩ := G
 obtain ⟨ev, rfl, hp⟩ := hg.open
 refine AC.vc (fn := Try.f3) (c := _) ⟨Try.func3, rfl, by decide⟩ Try.ntmps3 Try.results3 (by simp) fun hwf => ?_
 simp only [argFrame, argFrom, Nat.reduceAdd]
 obtain ⟨h1, b1, le1, wf1, -, lA⟩ := boxG (n := gn) hwf hp
 generalize h.next = B at *
 have lA1 := lA h1 (Le.refl _)
 have ll := fun g => hp.len g
 simp only [kS1, bLookup, bMapSet, wantA, isCall, stepOp, evalO, evalL, evalP, evalM, putDst, flat, kA, kB, Nat.reduceLT, ↓reduceIte, kC, Nat.reduceEqDiff, aBuiltin, abinG, guardFree, abin, aInt, aUn, aNilCheck, retQ, retQ1, aresults, aresultL, aresult, mkF, undefV, reduceCtorEq, kD, kE, kF, kG, kH, kI, kJ, kK, aExtract, calleeOf, b1, lA1.1]
 refine KCall.intro (by simp only [kS1, bLookup, bMapSet, wantA, isCall, stepOp, evalO, evalL, evalP, evalM, putDst, flat, kA, kB, Nat.reduceLT, ↓reduceIte, kC, Nat.reduceEqDiff, aBuiltin, abinG, guardFree, abin, aInt, aUn, aNilCheck, retQ, retQ1, aresults, aresultL, aresult, mkF, undefV, reduceCtorEq, kD, kE, kF, kG, kH, kI, kJ, kK, aExtract, calleeOf] <;> rfl) ⟨Try.func14, rfl, by decide⟩ (right17_any W0 _ _ h1 (hg0.le le1)) ?_
 rintro x h2 wf2 ⟨⟨bb, rfl, hbb⟩, le2⟩
 have lA2 := lA h2 le2
 cases bb with
 | false =>
  simp only [kS1, bLookup, bMapSet, wantA, isCall, stepOp, evalO, evalL, evalP, evalM, putDst, flat, kA, kB, Nat.reduceLT, ↓reduceIte, kC, Nat.reduceEqDiff, aBuiltin, abinG, guardFree, abin, aInt, aUn, aNilCheck, retQ, retQ1, aresults, aresultL, aresult, mkF, undefV, reduceCtorEq, kD, kE, kF, kG, kH, kI, kJ, kK, aExtract, calleeOf]
  refine KCall.intro (by simp only [kS1, bLookup, bMapSet, wantA, isCall, stepOp, evalO, evalL, evalP, evalM, putDst, flat, kA, kB, Nat.reduceLT, ↓reduceIte, kC, Nat.reduceEqDiff, aBuiltin, abinG, guardFree, abin, aInt, aUn, aNilCheck, retQ, retQ1, aresults, aresultL, aresult, mkF, undefV, reduceCtorEq, kD, kE, kF, kG, kH, kI, kJ, kK, aExtract, calleeOf] <;> rfl) ⟨Try.func15, rfl, by decide⟩ (awake8_any W0 h2) ?_
  rintro x h3 w3 ⟨rfl, l3⟩
  simp only [kS1, bLookup, bMapSet, wantA, isCall, stepOp, evalO, evalL, evalP, evalM, putDst, flat, kA, kB, Nat.reduceLT, ↓reduceIte, kC, Nat.reduceEqDiff, aBuiltin, abinG, guardFree, abin, aInt, aUn, aNilCheck, retQ, retQ1, aresults, aresultL, aresult, mkF, undefV, reduceCtorEq, kD, kE, kF, kG, kH, kI, kJ, kK, aExtract, calleeOf]
  all_goals exact ⟨trivial, trivial⟩
 | true =>
 obtain ⟨hr, h30⟩ := hbb.1 rfl
 clear hbb
 have h0 : 0 ≤ gn := hr.n0
 obtain ⟨n, rfl⟩ := Int.eq_ofNat_of_zero_le h0
 have h594 : es.length ≤ 594 := hr.len
 simp only at h30
 have hR := hr.inR
 have hA := hr.asc
 by_cases c1 : (n : Int) < 3
 ·have d1 : decide ((n : Int) < 3) = true := decide_eq_true c1
  simp only [kS1, bLookup, bMapSet, wantA, isCall, stepOp, evalO, evalL, evalP, evalM, putDst, flat, kA, kB, Nat.reduceLT, ↓reduceIte, kC, Nat.reduceEqDiff, aBuiltin, abinG, guardFree, abin, aInt, aUn, aNilCheck, retQ, retQ1, aresults, aresultL, aresult, mkF, undefV, reduceCtorEq, kD, kE, kF, kG, kH, kI, kJ, kK, aExtract, calleeOf, fg0, aadd, Nat.zero_add, lA2.2.1, d1]
  refine KCall.intro (by simp only [kS1, bLookup, bMapSet, wantA, isCall, stepOp, evalO, evalL, evalP, evalM, putDst, flat, kA, kB, Nat.reduceLT, ↓reduceIte, kC, Nat.reduceEqDiff, aBuiltin, abinG, guardFree, abin, aInt, aUn, aNilCheck, retQ, retQ1, aresults, aresultL, aresult, mkF, undefV, reduceCtorEq, kD, kE, kF, kG, kH, kI, kJ, kK, aExtract, calleeOf] <;> rfl) ⟨Try.func15, rfl, by decide⟩ (awake8_any W0 h2) ?_
  rintro x h3 w3 ⟨rfl, l3⟩
  simp only [kS1, bLookup, bMapSet, wantA, isCall, stepOp, evalO, evalL, evalP, evalM, putDst, flat, kA, kB, Nat.reduceLT, ↓reduceIte, kC, Nat.reduceEqDiff, aBuiltin, abinG, guardFree, abin, aInt, aUn, aNilCheck, retQ, retQ1, aresults, aresultL, aresult, mkF, undefV, reduceCtorEq, kD, kE, kF, kG, kH, kI, kJ, kK, aExtract, calleeOf]
  all_goals exact ⟨trivial, trivial⟩
 have d1 : decide ((n : Int) < 3) = false := decide_eq_false c1
 by_cases c2 : (es.length : Int) = 0
 ·have d2 : decide ((es.length : Int) = 0) = true := decide_eq_true c2
  simp only [kS1, bLookup, bMapSet, wantA, isCall, stepOp, evalO, evalL, evalP, evalM, putDst, flat, kA, kB, Nat.reduceLT, ↓reduceIte, kC, Nat.reduceEqDiff, aBuiltin, abinG, guardFree, abin, aInt, aUn, aNilCheck, retQ, retQ1, aresults, aresultL, aresult, mkF, undefV, reduceCtorEq, kD, kE, kF, kG, kH, kI, kJ, kK, aExtract, calleeOf, fg0, fg1, aadd, Nat.zero_add, lA2.2.1, lA2.2.2, ll, d1, d2]
  refine KCall.intro (by simp only [kS1, bLookup, bMapSet, wantA, isCall, stepOp, evalO, evalL, evalP, evalM, putDst, flat, kA, kB, Nat.reduceLT, ↓reduceIte, kC, Nat.reduceEqDiff, aBuiltin, abinG, guardFree, abin, aInt, aUn, aNilCheck, retQ, retQ1, aresults, aresultL, aresult, mkF, undefV, reduceCtorEq, kD, kE, kF, kG, kH, kI, kJ, kK, aExtract, calleeOf] <;> rfl) ⟨Try.func15, rfl, by decide⟩ (awake8_any W0 h2) ?_
  rintro x h3 w3 ⟨rfl, l3⟩
  simp only [kS1, bLookup, bMapSet, wantA, isCall, stepOp, evalO, evalL, evalP, evalM, putDst, flat, kA, kB, Nat.reduceLT, ↓reduceIte, kC, Nat.reduceEqDiff, aBuiltin, abinG, guardFree, abin, aInt, aUn, aNilCheck, retQ, retQ1, aresults, aresultL, aresult, mkF, undefV, reduceCtorEq, kD, kE, kF, kG, kH, kI, kJ, kK, aExtract, calleeOf]
  all_goals exact ⟨trivial, trivial⟩
 have d2 : decide ((es.length : Int) = 0) = false := decide_eq_false c2
 simp only [kS1, bLookup, bMapSet, wantA, isCall, stepOp, evalO, evalL, evalP, evalM, putDst, flat, kA, kB, Nat.reduceLT, ↓reduceIte, kC, Nat.reduceEqDiff, aBuiltin, abinG, guardFree, abin, aInt, aUn, aNilCheck, retQ, retQ1, aresults, aresultL, aresult, mkF, undefV, reduceCtorEq, kD, kE, kF, kG, kH, kI, kJ, kK, aExtract, calleeOf, fg0, fg1, aadd, Nat.zero_add, lA2.2.1, lA2.2.2, ll, d1, d2, lA2.1]
 refine KCall.intro (by simp only [kS1, bLookup, bMapSet, wantA, isCall, stepOp, evalO, evalL, evalP, evalM, putDst, flat, kA, kB, Nat.reduceLT, ↓reduceIte, kC, Nat.reduceEqDiff, aBuiltin, abinG, guardFree, abin, aInt, aUn, aNilCheck, retQ, retQ1, aresults, aresultL, aresult, mkF, undefV, reduceCtorEq, kD, kE, kF, kG, kH, kI, kJ, kK, aExtract, calleeOf] <;> rfl) ⟨Try.func16, rfl, by decide⟩ (Blocks_any W0 _ ⟨(n : Int), es⟩ h2 (hg0.le (le1.trans le2))) ?_
 rintro x h3 w3 ⟨l3, ⟨a, _⟩ | ⟨_, kv, rfl, hk⟩⟩
 ·exact absurd hr a
 simp only [Int.toNat_natCast] at hk
 have lk := fun g => hk.len (P := Try.prog) Try.underlying28 g
 have le3 := le2.trans l3
 simp only [kS1, bLookup, bMapSet, wantA, isCall, stepOp, evalO, evalL, evalP, evalM, putDst, flat, kA, kB, Nat.reduceLT, ↓reduceIte, kC, Nat.reduceEqDiff, aBuiltin, abinG, guardFree, abin, aInt, aUn, aNilCheck, retQ, retQ1, aresults, aresultL, aresult, mkF, undefV, reduceCtorEq, kD, kE, kF, kG, kH, kI, kJ, kK, aExtract, calleeOf, (lA h3 le3).1]
 refine KCall.intro (by simp only [kS1, bLookup, bMapSet, wantA, isCall, stepOp, evalO, evalL, evalP, evalM, putDst, flat, kA, kB, Nat.reduceLT, ↓reduceIte, kC, Nat.reduceEqDiff, aBuiltin, abinG, guardFree, abin, aInt, aUn, aNilCheck, retQ, retQ1, aresults, aresultL, aresult, mkF, undefV, reduceCtorEq, kD, kE, kF, kG, kH, kI, kJ, kK, aExtract, calleeOf] <;> rfl) ⟨Try.func17, rfl, by decide⟩ (Parts_any W0 _ ⟨(n : Int), es⟩ h3 (hg0.le (le1.trans le3)) hr) ?_
 rintro pv h4 w4 ⟨gp, l4, -⟩
 have rp := gp.rl (Stays.RL Stays.isI)
 have lp := fun g => rp.len (P := Try.prog) Try.underlying32 g
 have hpl : ((partsN (n : Int).toNat es (n : Int).toNat).map nat64).length = (heads n es).length := by simp [partsN]
 rw [hpl] at lp
 have le4 := le3.trans l4
 simp only [kS1, bLookup, bMapSet, wantA, isCall, stepOp, evalO, evalL, evalP, evalM, putDst, flat, kA, kB, Nat.reduceLT, ↓reduceIte, kC, Nat.reduceEqDiff, aBuiltin, abinG, guardFree, abin, aInt, aUn, aNilCheck, retQ, retQ1, aresults, aresultL, aresult, mkF, undefV, reduceCtorEq, kD, kE, kF, kG, kH, kI, kJ, kK, aExtract, calleeOf, (lA h4 le4).1]
 refine KCall.intro (by simp only [kS1, bLookup, bMapSet, wantA, isCall, stepOp, evalO, evalL, evalP, evalM, putDst, flat, kA, kB, Nat.reduceLT, ↓reduceIte, kC, Nat.reduceEqDiff, aBuiltin, abinG, guardFree, abin, aInt, aUn, aNilCheck, retQ, retQ1, aresults, aresultL, aresult, mkF, undefV, reduceCtorEq, kD, kE, kF, kG, kH, kI, kJ, kK, aExtract, calleeOf] <;> rfl) ⟨Try.func18, rfl, by decide⟩ (Chosen_any W0 _ bv ⟨(n : Int), es⟩ bs h4 (hg0.le (le1.trans le4)) (hb.le Stays.isBo (le1.trans le4)) (by simp; omega)) ?_
 rintro wv h5 w5 ⟨gw, l5, -⟩
 simp only at gw
 have le5 := le4.trans l5
 have hweb := sel_web hA bs es.length
 have hwl := selM_length es bs es.length
 have hwR : InR n (selM es bs es.length) := fun p hp => hR p (hweb.mem p hp)
 generalize selM es bs es.length = web at gw hweb hwl hwR
 have pw := gw.pr
 clear gw
 have lw := fun g => pw.len g
 have d0 : decide ((0 : Int) = 0) = true := by decide
 by_cases c3 : ((blocksM n es).length : Int) = 1
 rotate_left
 ·have d3 : decide (((blocksM n es).length : Int) = 1) = false := decide_eq_false c3
  simp only [kS1, bLookup, bMapSet, wantA, isCall, stepOp, evalO, evalL, evalP, evalM, putDst, flat, kA, kB, Nat.reduceLT, ↓reduceIte, kC, Nat.reduceEqDiff, aBuiltin, abinG, guardFree, abin, aInt, aUn, aNilCheck, retQ, retQ1, aresults, aresultL, aresult, mkF, undefV, reduceCtorEq, kD, kE, kF, kG, kH, kI, kJ, kK, aExtract, calleeOf, d0, bne, lk, d3]
  refine KCall.intro (by simp only [kS1, bLookup, bMapSet, wantA, isCall, stepOp, evalO, evalL, evalP, evalM, putDst, flat, kA, kB, Nat.reduceLT, ↓reduceIte, kC, Nat.reduceEqDiff, aBuiltin, abinG, guardFree, abin, aInt, aUn, aNilCheck, retQ, retQ1, aresults, aresultL, aresult, mkF, undefV, reduceCtorEq, kD, kE, kF, kG, kH, kI, kJ, kK, aExtract, calleeOf] <;> rfl) ⟨Try.func15, rfl, by decide⟩ (awake8_any W0 h5) ?_
  rintro x h6 w6 ⟨rfl, l6⟩
  simp only [kS1, bLookup, bMapSet, wantA, isCall, stepOp, evalO, evalL, evalP, evalM, putDst, flat, kA, kB, Nat.reduceLT, ↓reduceIte, kC, Nat.reduceEqDiff, aBuiltin, abinG, guardFree, abin, aInt, aUn, aNilCheck, retQ, retQ1, aresults, aresultL, aresult, mkF, undefV, reduceCtorEq, kD, kE, kF, kG, kH, kI, kJ, kK, aExtract, calleeOf]
  all_goals exact ⟨trivial, trivial⟩
 have d3 : decide (((blocksM n es).length : Int) = 1) = true := decide_eq_true c3
 by_cases c4 : ((heads n es).length : Int) = 1
 rotate_left
 ·have d4 : decide (((heads n es).length : Int) = 1) = false := decide_eq_false c4
  simp only [kS1, bLookup, bMapSet, wantA, isCall, stepOp, evalO, evalL, evalP, evalM, putDst, flat, kA, kB, Nat.reduceLT, ↓reduceIte, kC, Nat.reduceEqDiff, aBuiltin, abinG, guardFree, abin, aInt, aUn, aNilCheck, retQ, retQ1, aresults, aresultL, aresult, mkF, undefV, reduceCtorEq, kD, kE, kF, kG, kH, kI, kJ, kK, aExtract, calleeOf, d0, bne, lk, d3, lp, d4]
  refine KCall.intro (by simp only [kS1, bLookup, bMapSet, wantA, isCall, stepOp, evalO, evalL, evalP, evalM, putDst, flat, kA, kB, Nat.reduceLT, ↓reduceIte, kC, Nat.reduceEqDiff, aBuiltin, abinG, guardFree, abin, aInt, aUn, aNilCheck, retQ, retQ1, aresults, aresultL, aresult, mkF, undefV, reduceCtorEq, kD, kE, kF, kG, kH, kI, kJ, kK, aExtract, calleeOf] <;> rfl) ⟨Try.func15, rfl, by decide⟩ (awake8_any W0 h5) ?_
  rintro x h6 w6 ⟨rfl, l6⟩
  simp only [kS1, bLookup, bMapSet, wantA, isCall, stepOp, evalO, evalL, evalP, evalM, putDst, flat, kA, kB, Nat.reduceLT, ↓reduceIte, kC, Nat.reduceEqDiff, aBuiltin, abinG, guardFree, abin, aInt, aUn, aNilCheck, retQ, retQ1, aresults, aresultL, aresult, mkF, undefV, reduceCtorEq, kD, kE, kF, kG, kH, kI, kJ, kK, aExtract, calleeOf]
  all_goals exact ⟨trivial, trivial⟩
 have d4 : decide (((heads n es).length : Int) = 1) = true := decide_eq_true c4
 by_cases c5 : (web.length : Int) = 0
 ·have d5 : decide ((web.length : Int) = 0) = true := decide_eq_true c5
  simp only [kS1, bLookup, bMapSet, wantA, isCall, stepOp, evalO, evalL, evalP, evalM, putDst, flat, kA, kB, Nat.reduceLT, ↓reduceIte, kC, Nat.reduceEqDiff, aBuiltin, abinG, guardFree, abin, aInt, aUn, aNilCheck, retQ, retQ1, aresults, aresultL, aresult, mkF, undefV, reduceCtorEq, kD, kE, kF, kG, kH, kI, kJ, kK, aExtract, calleeOf, d0, bne, lk, d3, lp, d4, lw, d5]
  refine KCall.intro (by simp only [kS1, bLookup, bMapSet, wantA, isCall, stepOp, evalO, evalL, evalP, evalM, putDst, flat, kA, kB, Nat.reduceLT, ↓reduceIte, kC, Nat.reduceEqDiff, aBuiltin, abinG, guardFree, abin, aInt, aUn, aNilCheck, retQ, retQ1, aresults, aresultL, aresult, mkF, undefV, reduceCtorEq, kD, kE, kF, kG, kH, kI, kJ, kK, aExtract, calleeOf] <;> rfl) ⟨Try.func15, rfl, by decide⟩ (awake8_any W0 h5) ?_
  rintro x h6 w6 ⟨rfl, l6⟩
  simp only [kS1, bLookup, bMapSet, wantA, isCall, stepOp, evalO, evalL, evalP, evalM, putDst, flat, kA, kB, Nat.reduceLT, ↓reduceIte, kC, Nat.reduceEqDiff, aBuiltin, abinG, guardFree, abin, aInt, aUn, aNilCheck, retQ, retQ1, aresults, aresultL, aresult, mkF, undefV, reduceCtorEq, kD, kE, kF, kG, kH, kI, kJ, kK, aExtract, calleeOf]
  all_goals exact ⟨trivial, trivial⟩
 have d5 : decide ((web.length : Int) = 0) = false := decide_eq_false c5
 simp only [kS1, bLookup, bMapSet, wantA, isCall, stepOp, evalO, evalL, evalP, evalM, putDst, flat, kA, kB, Nat.reduceLT, ↓reduceIte, kC, Nat.reduceEqDiff, aBuiltin, abinG, guardFree, abin, aInt, aUn, aNilCheck, retQ, retQ1, aresults, aresultL, aresult, mkF, undefV, reduceCtorEq, kD, kE, kF, kG, kH, kI, kJ, kK, aExtract, calleeOf, d0, bne, lk, d3, lp, d4, lw, d5, (lA h5 le5).1]
 refine KCall.intro (by simp only [kS1, bLookup, bMapSet, wantA, isCall, stepOp, evalO, evalL, evalP, evalM, putDst, flat, kA, kB, Nat.reduceLT, ↓reduceIte, kC, Nat.reduceEqDiff, aBuiltin, abinG, guardFree, abin, aInt, aUn, aNilCheck, retQ, retQ1, aresults, aresultL, aresult, mkF, undefV, reduceCtorEq, kD, kE, kF, kG, kH, kI, kJ, kK, aExtract, calleeOf] <;> rfl) ⟨Try.func19, rfl, by decide⟩ (Fragments_any W0 _ wv ⟨(n : Int), es⟩ web h5 (hg0.le (le1.trans le5)) pw (by omega)) ?_
 intro x h6 w6 hx
 obtain ⟨l6, lv, e, rfl, hc⟩ := hx
 obtain ⟨rfl, L, hT, fl⟩ : e = 0 ∧ ∃ L, TogM n (onF n web) es L ∧ FL h6 lv (FragsM n es web L) := by
  rcases hc with ⟨h, _⟩ | ⟨_, h, _⟩ | ⟨_, _, h, h'⟩
  ·exact absurd hr h
  ·exact absurd hweb h
  ·exact ⟨h, by simp only [Int.toNat_natCast] at h'; exact h'⟩
 clear hc
 obtain ⟨ks, -, -, hks, -⟩ := frags_is (web := web) (L := L) hR
 have hfb : (FragsM n es web L).length ≤ 594 := by
  have := (grpsM_ok (fragM n (fun u => (onM n web).getD u false) L) es web es.length).2.2.2.1
  rw [FragsM, List.length_map]; omega
 have hfeet : ∀ f ∈ FragsM n es web L, 2 ≤ f.feet.length ∧ f.feet.length ≤ n := fun f hf => by
  obtain ⟨i, hi⟩ := List.mem_iff_getElem?.1 hf
  obtain ⟨k, _, hF⟩ := hks i f hi
  exact ⟨frag_two hr hT hF (by omega) (by omega) (fun z => c5 (by rw [z]; rfl)) hweb.mem, by rw [hF.feet, nat64_length]; exact rfeet_length _ _ _⟩
 generalize FragsM n es web L = fs at fl hfeet hfb
 have lf := fun g => fl.len g
 simp only [kS1, bLookup, bMapSet, wantA, isCall, stepOp, evalO, evalL, evalP, evalM, putDst, flat, kA, kB, Nat.reduceLT, ↓reduceIte, kC, Nat.reduceEqDiff, aBuiltin, abinG, guardFree, abin, aInt, aUn, aNilCheck, retQ, retQ1, aresults, aresultL, aresult, mkF, undefV, reduceCtorEq, kD, kE, kF, kG, kH, kI, kJ, kK, aExtract, calleeOf, lf]
 refine KLoop.intro (fun k fr hq => ∃ i : Nat, k = fs.length - i ∧ i ≤ fs.length ∧ fr = mkF [(6, .int .i64 0), (65, lv), (66, .int .i64 fs.length), (67, .int .i64 i)] ∧ Le h6 hq)
  fs.length [(6, .int .i64 0), (65, lv), (66, .int .i64 fs.length), (67, .int .i64 (0 : Nat))] (by simp only [hasAll, kS1, bLookup, bMapSet, wantA, isCall, stepOp, evalO, evalL, evalP, evalM, putDst, flat, kA, kB, Nat.reduceLT, ↓reduceIte, kC, Nat.reduceEqDiff, aBuiltin, abinG, guardFree, abin, aInt, aUn, aNilCheck, retQ, retQ1, aresults, aresultL, aresult, mkF, undefV, reduceCtorEq, kD, kE, kF, kG, kH, kI, kJ, kK, aExtract, calleeOf]; simp) ⟨0, rfl, Nat.zero_le _, rfl, Le.refl _⟩ ?_
 rintro k fr hq hwq ⟨i, rfl, hi, rfl, leq⟩
 simp only [kS1, bLookup, bMapSet, wantA, isCall, stepOp, evalO, evalL, evalP, evalM, putDst, flat, kA, kB, Nat.reduceLT, ↓reduceIte, kC, Nat.reduceEqDiff, aBuiltin, abinG, guardFree, abin, aInt, aUn, aNilCheck, retQ, retQ1, aresults, aresultL, aresult, mkF, undefV, reduceCtorEq, kD, kE, kF, kG, kH, kI, kJ, kK, aExtract, calleeOf]
 refine KCond.intro (fun ht => ?_) (fun hf => ?_)
 rotate_left
 ·simp only [kS1, bLookup, bMapSet, wantA, isCall, stepOp, evalO, evalL, evalP, evalM, putDst, flat, kA, kB, Nat.reduceLT, ↓reduceIte, kC, Nat.reduceEqDiff, aBuiltin, abinG, guardFree, abin, aInt, aUn, aNilCheck, retQ, retQ1, aresults, aresultL, aresult, mkF, undefV, reduceCtorEq, kD, kE, kF, kG, kH, kI, kJ, kK, aExtract, calleeOf, d0]
  refine KCall.intro (by simp only [kS1, bLookup, bMapSet, wantA, isCall, stepOp, evalO, evalL, evalP, evalM, putDst, flat, kA, kB, Nat.reduceLT, ↓reduceIte, kC, Nat.reduceEqDiff, aBuiltin, abinG, guardFree, abin, aInt, aUn, aNilCheck, retQ, retQ1, aresults, aresultL, aresult, mkF, undefV, reduceCtorEq, kD, kE, kF, kG, kH, kI, kJ, kK, aExtract, calleeOf] <;> rfl) ⟨Try.func15, rfl, by decide⟩ (awake8_any W0 hq) ?_
  rintro x h9 w9 ⟨rfl, l9⟩
  simp only [kS1, bLookup, bMapSet, wantA, isCall, stepOp, evalO, evalL, evalP, evalM, putDst, flat, kA, kB, Nat.reduceLT, ↓reduceIte, kC, Nat.reduceEqDiff, aBuiltin, abinG, guardFree, abin, aInt, aUn, aNilCheck, retQ, retQ1, aresults, aresultL, aresult, mkF, undefV, reduceCtorEq, kD, kE, kF, kG, kH, kI, kJ, kK, aExtract, calleeOf]
  all_goals exact ⟨trivial, trivial⟩
 have hlt : i < fs.length := lt_t ht
 clear ht
 have hfi := getElem?_of hlt
 have hft := hfeet _ (List.mem_of_getElem? hfi)
 generalize fs[i] = f at hfi hft
 obtain ⟨ea, eb, hld, pa, pb⟩ := fl.load hfi
 have adf := fl.addr (k := .i64) i hlt
 obtain ⟨g1, g2, a2, s2, l2, w2, lG⟩ := new41 hwq pa.sl pb.sl
 generalize hq.next = C at *
 have lG2 := lG g2 (Le.refl _)
 have lfe := fun g => pb.len (P := Try.prog) Try.underlying38 g
 have d6 : decide ((f.feet.length : Int) < 2) = false := decide_eq_false (by omega)
 have hwi := awrap_succ i (by omega)
 simp only [kS1, bLookup, bMapSet, wantA, isCall, stepOp, evalO, evalL, evalP, evalM, putDst, flat, kA, kB, Nat.reduceLT, ↓reduceIte, kC, Nat.reduceEqDiff, aBuiltin, abinG, guardFree, abin, aInt, aUn, aNilCheck, retQ, retQ1, aresults, aresultL, aresult, mkF, undefV, reduceCtorEq, kD, kE, kF, kG, kH, kI, kJ, kK, aExtract, calleeOf, adf, hld hq leq, a2, s2, ff1, aadd, Nat.zero_add, lG2.2.2, lfe, d6, hwi]
 exact loop_again (fs.length - (i + 1)) [(6, .int .i64 0), (65, lv), (66, .int .i64 fs.length), (67, .int .i64 (i + 1 : Nat))] (sub_step hlt) (by simp only [hasAll, kS1, bLookup, bMapSet, wantA, isCall, stepOp, evalO, evalL, evalP, evalM, putDst, flat, kA, kB, Nat.reduceLT, ↓reduceIte, kC, Nat.reduceEqDiff, aBuiltin, abinG, guardFree, abin, aInt, aUn, aNilCheck, retQ, retQ1, aresults, aresultL, aresult, mkF, undefV, reduceCtorEq, kD, kE, kF, kG, kH, kI, kJ, kK, aExtract, calleeOf]; simp) ⟨i + 1, rfl, hlt, rfl, leq.trans l2⟩
end Go.Fw
namespace Go.Fw
open Go.Proofs Go.ChangeShapes Go.WideShapes Go.RowKit Go.ChangeAt
open Go.Proofs.Ytnaahaldkpdjlaa
set_option maxRecDepth 100000
theorem bridgeTwo_lifted (os : Os) (started : os.Started) (H : Type) (enc : TypeId × Value → H) :
  ReturnsInHanded {} Try.checked os 3 .any (Rows.bridgeTwoSpec.pre6 enc Try.prog Try.f3 Rows.bridgeTwoRow.domain false) (Rows.bridgeTwoSpec.post enc Try.prog Try.f3 false true false false) := by
 have own : ownKnob Try.prog.godebug = Option.none := by kernel_rfl
 have laidOut : laidOutB Try.prog = true := by kernel_rfl
 refine returnsInHanded_of_change (C := Try.checked) own started (by kernel_rfl) Try.func3
  (ChangeSpec.witness6 (enc := enc) (C := Try.checked) false ⟨#[], #[.agg #[.int .i64 0, .slice Option.none 0 0], .slice Option.none 0 0], []⟩ 8 (by kernel_rfl) (by kernel_rfl) (by kernel_rfl) (by kernel_rfl)) ?_
 intro W base args ds gs before hval0 hW hcnd _
 have hval : ∀ (j : Nat) t v, Try.f3.params[j]? = some t → args[j]? = some v → Value.okWide Try.prog W .any base t v := hval0
 have hW' := hW
 obtain ⟨p, q, hA0, hV, rfl, hfz, hnd⟩ := hW
 have hA : DataW.TrodAll enc Try.prog W 0 (fun _ => true) true Try.f3.params.toList args.toList ds p := hA0
 rw [Try.params3] at hA hval
 obtain ⟨v0, w0, d0, e0, p0, q0, hargs, rfl, rfl, h0, hA⟩ := trodAll_cons hA
 obtain ⟨v1, w1, d1, e1, p1, q1, rfl, rfl, rfl, h1, hA⟩ := trodAll_cons hA
 obtain ⟨rfl, rfl, rfl⟩ := trodAll_nil hA
 obtain rfl : args = #[v0, v1] := by cases args; simp_all
 obtain ⟨rfl, rfl⟩ := trodVars_none hV
 obtain ⟨u0, x0, hv0, hx0⟩ := open_graph (hval 0 24 v0 rfl rfl) h0 (fun _ => ⟨0, 0, 0⟩)
 obtain ⟨u1, x1, hv1, hx1⟩ := open_bools (hval 1 25 v1 rfl rfl) h1 (fun _ => ⟨0, 0, 0⟩)
 refine (BridgeTwo_law (Base.of W) u0 u1 x0 x1 (ext0 W) hx0 hx1 [] (fun _ => ⟨0, 0, 0⟩) W [v0, v1] (Rel.start W _) ?_).mono ?_
 ·exact .cons hv0 (.cons hv1 ((.nil _ _)))
 ·rintro e W' ⟨x, x', m', h', rfl, R, -, -, hx, rfl, -⟩
  obtain rfl := hx.bool_inv
  have hb := R.below
  have hlt0 : ∀ y ∈ p0, y.block < W.heap.size := fun y hy => hW'.lt y (by simp [hy])
  have hlt1 : ∀ y ∈ p1, y.block < W.heap.size := fun y hy => hW'.lt y (by simp [hy])
  have hbool : DataW.Trod enc Try.prog W' W.heap.size (fun _ => false) false 4 (.bool true) (.lit (.bool true)) [] := ⟨1, by simp [DataW.trod, Value.cells, Try.underlying4]⟩
  have hargs :=
   tcons (Below.trod laidOut (by kernel_rfl) (of_decide_eq_true (by kernel_rfl)) h0 hb hlt0) (tcons (Below.trod laidOut (by kernel_rfl) (of_decide_eq_true (by kernel_rfl)) h1 hb hlt1) (trodAll_mk0))
  try simp only [List.append_nil, List.nil_append] at hargs
  exact ⟨_, rfl, _, _, _, [], _, [], hW', trodAll_mk1 hbool, hargs, rfl, hb.frame _, fun e => by cases e⟩
theorem bridgeTwo_said : Rows.BridgeTwoSaid :=
 OpenClaim.holds_of_wide 3 Try.f3 rfl rfl rfl rfl rfl rfl rfl ⟨rfl, rfl, rfl, rfl, rfl⟩ rfl rfl rfl rfl rfl (by kernel_rfl) Try.func3 (by kernel_rfl)
  (of_decide_eq_true (by kernel_rfl)) (by unfold Func.isWrapper; first | (rw [if_pos (by decide +kernel)]; kernel_rfl) | (rw [if_neg (by decide +kernel)]; exact ⟨rfl, rfl⟩))
  (fun os started H enc _ => bridgeTwo_lifted os started H enc)
end Go.Fw
