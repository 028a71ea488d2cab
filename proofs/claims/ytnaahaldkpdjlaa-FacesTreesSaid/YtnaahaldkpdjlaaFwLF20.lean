/- A text of the proof. -/
import Derived.Test.YtnaahaldkpdjlaaFwLF19
import Derived.Test.YtnaahaldkpdjlaaFwLF13
set_option linter.unusedSimpArgs false
set_option linter.unusedVariables false
namespace Go.Fw
open Go.Proofs
attribute [local irreducible] KO4 KO3 KO2 KO1 KO KN KX KE VK KCond KDraw KCall KLoop
set_option maxHeartbeats 16000000
set_option maxRecDepth 10000
attribute [local instance] Classical.propDecidable
attribute [local irreducible] facesM PlaneM besM heads compL partsN
theorem add_ok {a b : Nat} (h : a ≤ 40000) (g : b ≤ 40000) : awrap .i64 ((a : Int) + (b : Int)) = ((a + b : Nat) : Int) := by rw [awrap_i64 _ (by omega) (by omega)]; omega
theorem mul_ok {a : Nat} (h : a ≤ 40000) : awrap .i64 ((2 : Int) * (a : Int)) = ((2 * a : Nat) : Int) := by rw [awrap_i64 _ (by omega) (by omega)]; omega
theorem add_ok3 {a b : Nat} (h : a ≤ 4000000000) (g : b ≤ 40000) : awrap .i64 ((a : Int) + (b : Int)) = ((a + b : Nat) : Int) := by rw [awrap_i64 _ (by omega) (by omega)]; omega
theorem sum_le {l : List (List Int)} (h : ∀ f ∈ l, f.length ≤ 40000) : (l.map List.length).sum ≤ l.length * 40000 := by
 induction l with
 | nil => simp
 | cons x l ih =>
  have h1 := h x List.mem_cons_self
  have h2 := ih fun f hf => h f (List.mem_cons_of_mem _ hf)
  simp only [List.map_cons, List.sum_cons, List.length_cons]; omega
theorem lt_big {j m : Nat} (h : j < m) (h2 : m ≤ 40000) : j < 4611686018427387904 := by omega
theorem sum_b {a b c : Nat} (h : a ≤ b * 40000) (h1 : b ≤ c) (h2 : c ≤ 40000) : a ≤ 4000000000 := by omega
theorem many_snoc {l : List Nat} {f : Nat → Nat} {j : Nat} (h : j < l.length) : ((l.take (j + 1)).filter fun a => decide (1 < f a)).length = ((l.take j).filter fun a => decide (1 < f a)).length + if 1 < f l[j] then 1 else 0 := by
 rw [List.take_succ_eq_append_getElem h, List.filter_append, List.length_append]
 congr 1
 by_cases c : 1 < f l[j] <;> simp [c]
theorem Trees_law (W0 : Base) (v ov : Value) (G : GM) (os : List Int) (h : AHeap) (hg : GR h v G) (ho : RL isH h ov os) :
  AC Try.prog W0 6 [v, ov] h fun x h' => x = .bool true ∧ True := by
 have hg0 := hg
 obtain ⟨gn, es⟩ := G
 obtain ⟨ev, rfl, hp⟩ := hg.open
 refine AC.vc (fn := Try.f6) (c := _) ⟨Try.func6, rfl, by decide⟩ Try.ntmps6 Try.results6 (by simp) fun hwf => ?_
 simp only [argFrame, argFrom, Nat.reduceAdd]
 obtain ⟨h1, b1, le1, wf1, -, lA⟩ := boxG (n := gn) hwf hp
 generalize h.next = B at *
 have lA1 := lA h1 (Le.refl _)
 simp only [kS1, bLookup, bMapSet, wantA, isCall, stepOp, evalO, evalL, evalP, evalM, putDst, flat, kA, kB, Nat.reduceLT, ↓reduceIte, kC, Nat.reduceEqDiff, aBuiltin, abinG, guardFree, abin, aInt, aUn, aNilCheck, retQ, retQ1, aresults, aresultL, aresult, mkF, undefV, reduceCtorEq, kD, kE, kF, kG, kH, kI, kJ, kK, aExtract, calleeOf, b1]
 refine KDraw.intro mixed (.fl 0 (.ch 1 [0] (.fl 2 (.fl 3 (.fl 4 (.fl 5 (.fl 6 (.fl 7 (.fl 11 (.fl 12 (.ch 8 [3, 7] (.fl 9 (.fl 10 (.fl 13 (.fl 14 (.done))))) .no))))))))) .no)) (by kernel_rfl) ?_
 simp only [kS1, bLookup, bMapSet, wantA, isCall, stepOp, evalO, evalL, evalP, evalM, putDst, flat, kA, kB, Nat.reduceLT, ↓reduceIte, kC, Nat.reduceEqDiff, aBuiltin, abinG, guardFree, abin, aInt, aUn, aNilCheck, retQ, retQ1, aresults, aresultL, aresult, mkF, undefV, reduceCtorEq, kD, kE, kF, kG, kH, kI, kJ, kK, aExtract, calleeOf, kD1, Nat.reduceBEq, HoldsAll, kL, kM, kN, kO, lA1.1]
 refine KGCall.intro (by simp only [kS1, bLookup, bMapSet, wantA, isCall, stepOp, evalO, evalL, evalP, evalM, putDst, flat, kA, kB, Nat.reduceLT, ↓reduceIte, kC, Nat.reduceEqDiff, aBuiltin, abinG, guardFree, abin, aInt, aUn, aNilCheck, retQ, retQ1, aresults, aresultL, aresult, mkF, undefV, reduceCtorEq, kD, kE, kF, kG, kH, kI, kJ, kK, aExtract, calleeOf] <;> rfl) ⟨Try.func26, rfl, by decide⟩ (right7_any W0 _ _ h1 (hg0.le le1)) ?_
 rintro x h2 w2 ⟨⟨b, rfl, hbb⟩, l2⟩
 have lA2 := lA h2 l2
 cases b with
 | false =>
  simp only [kS1, bLookup, bMapSet, wantA, isCall, stepOp, evalO, evalL, evalP, evalM, putDst, flat, kA, kB, Nat.reduceLT, ↓reduceIte, kC, Nat.reduceEqDiff, aBuiltin, abinG, guardFree, abin, aInt, aUn, aNilCheck, retQ, retQ1, aresults, aresultL, aresult, mkF, undefV, reduceCtorEq, kD, kE, kF, kG, kH, kI, kJ, kK, aExtract, calleeOf, kD1, Nat.reduceBEq, HoldsAll, kL, kM, kN, kO, lA1.1]
  refine KCall.intro (by simp only [kS1, bLookup, bMapSet, wantA, isCall, stepOp, evalO, evalL, evalP, evalM, putDst, flat, kA, kB, Nat.reduceLT, ↓reduceIte, kC, Nat.reduceEqDiff, aBuiltin, abinG, guardFree, abin, aInt, aUn, aNilCheck, retQ, retQ1, aresults, aresultL, aresult, mkF, undefV, reduceCtorEq, kD, kE, kF, kG, kH, kI, kJ, kK, aExtract, calleeOf] <;> rfl) ⟨Try.func27, rfl, by decide⟩ (awake7_any W0 h2) ?_
  rintro x h3 w3 ⟨rfl, l3⟩
  simp only [kS1, bLookup, bMapSet, wantA, isCall, stepOp, evalO, evalL, evalP, evalM, putDst, flat, kA, kB, Nat.reduceLT, ↓reduceIte, kC, Nat.reduceEqDiff, aBuiltin, abinG, guardFree, abin, aInt, aUn, aNilCheck, retQ, retQ1, aresults, aresultL, aresult, mkF, undefV, reduceCtorEq, kD, kE, kF, kG, kH, kI, kJ, kK, aExtract, calleeOf]
  all_goals exact ⟨trivial, trivial⟩
 | true =>
 obtain ⟨hr, h30⟩ := hbb.1 rfl
 clear hbb
 have h0 : 0 ≤ gn := hr.n0
 obtain ⟨n, rfl⟩ := Int.eq_ofNat_of_zero_le h0
 have hR := hr.inR
 have hA := hr.asc
 have h594 : es.length ≤ 594 := hr.len
 have h200 : (n : Int) ≤ 200 := hr.n1
 have le_ := fun g => hp.len g
 simp only [kS1, bLookup, bMapSet, wantA, isCall, stepOp, evalO, evalL, evalP, evalM, putDst, flat, kA, kB, Nat.reduceLT, ↓reduceIte, kC, Nat.reduceEqDiff, aBuiltin, abinG, guardFree, abin, aInt, aUn, aNilCheck, retQ, retQ1, aresults, aresultL, aresult, mkF, undefV, reduceCtorEq, kD, kE, kF, kG, kH, kI, kJ, kK, aExtract, calleeOf, kD1, Nat.reduceBEq, HoldsAll, kL, kM, kN, kO, lA1.1, fg0, fg1, aadd, Nat.zero_add, lA2.1, lA2.2.1, lA2.2.2, le_]
 refine KGCall.intro (by simp only [kS1, bLookup, bMapSet, wantA, isCall, stepOp, evalO, evalL, evalP, evalM, putDst, flat, kA, kB, Nat.reduceLT, ↓reduceIte, kC, Nat.reduceEqDiff, aBuiltin, abinG, guardFree, abin, aInt, aUn, aNilCheck, retQ, retQ1, aresults, aresultL, aresult, mkF, undefV, reduceCtorEq, kD, kE, kF, kG, kH, kI, kJ, kK, aExtract, calleeOf] <;> rfl) ⟨Try.func17, rfl, by decide⟩ (Parts_any W0 _ ⟨(n : Int), es⟩ h2 (hg0.le (le1.trans l2)) hr) ?_
 rintro pv h3 w3 ⟨gp, l3, -⟩
 simp only [Int.toNat_natCast] at gp
 have rp := gp.rl (Stays.RL Stays.isI)
 have lp := fun g => rp.len (P := Try.prog) Try.underlying32 g
 have hpl : ((partsN n es n).map nat64).length = (heads n es).length := by rw [List.length_map, partsN_length]
 rw [hpl] at lp
 have hhl : (heads n es).length ≤ n := heads_length _ _
 have L3 := l2.trans l3
 have lA3 := lA h3 L3
 have ad := add_ok (a := es.length) (b := (heads n es).length) (by omega) (by omega)
 by_cases c : es.length + (heads n es).length = n
 rotate_left
 ·have d : decide (((es.length + (heads n es).length : Nat) : Int) = (n : Int)) = false := decide_eq_false (by omega)
  simp only [kS1, bLookup, bMapSet, wantA, isCall, stepOp, evalO, evalL, evalP, evalM, putDst, flat, kA, kB, Nat.reduceLT, ↓reduceIte, kC, Nat.reduceEqDiff, aBuiltin, abinG, guardFree, abin, aInt, aUn, aNilCheck, retQ, retQ1, aresults, aresultL, aresult, mkF, undefV, reduceCtorEq, kD, kE, kF, kG, kH, kI, kJ, kK, aExtract, calleeOf, kD1, Nat.reduceBEq, HoldsAll, kL, kM, kN, kO, lA1.1, fg0, fg1, aadd, Nat.zero_add, lA2.1, lA2.2.1, lA2.2.2, le_, lp, ad, d, bne, lA3.1, lA3.2.1, lA3.2.2]
  refine KCall.intro (by simp only [kS1, bLookup, bMapSet, wantA, isCall, stepOp, evalO, evalL, evalP, evalM, putDst, flat, kA, kB, Nat.reduceLT, ↓reduceIte, kC, Nat.reduceEqDiff, aBuiltin, abinG, guardFree, abin, aInt, aUn, aNilCheck, retQ, retQ1, aresults, aresultL, aresult, mkF, undefV, reduceCtorEq, kD, kE, kF, kG, kH, kI, kJ, kK, aExtract, calleeOf] <;> rfl) ⟨Try.func27, rfl, by decide⟩ (awake7_any W0 h3) ?_
  rintro x h4 w4 ⟨rfl, l4⟩
  simp only [kS1, bLookup, bMapSet, wantA, isCall, stepOp, evalO, evalL, evalP, evalM, putDst, flat, kA, kB, Nat.reduceLT, ↓reduceIte, kC, Nat.reduceEqDiff, aBuiltin, abinG, guardFree, abin, aInt, aUn, aNilCheck, retQ, retQ1, aresults, aresultL, aresult, mkF, undefV, reduceCtorEq, kD, kE, kF, kG, kH, kI, kJ, kK, aExtract, calleeOf]
  all_goals exact ⟨trivial, trivial⟩
 have d : decide (((es.length + (heads n es).length : Nat) : Int) = (n : Int)) = true := decide_eq_true (by omega)
 simp only [kS1, bLookup, bMapSet, wantA, isCall, stepOp, evalO, evalL, evalP, evalM, putDst, flat, kA, kB, Nat.reduceLT, ↓reduceIte, kC, Nat.reduceEqDiff, aBuiltin, abinG, guardFree, abin, aInt, aUn, aNilCheck, retQ, retQ1, aresults, aresultL, aresult, mkF, undefV, reduceCtorEq, kD, kE, kF, kG, kH, kI, kJ, kK, aExtract, calleeOf, kD1, Nat.reduceBEq, HoldsAll, kL, kM, kN, kO, lA1.1, fg0, fg1, aadd, Nat.zero_add, lA2.1, lA2.2.1, lA2.2.2, le_, lp, ad, d, bne, lA3.1, lA3.2.1, lA3.2.2]
 refine KCall.intro (by simp only [kS1, bLookup, bMapSet, wantA, isCall, stepOp, evalO, evalL, evalP, evalM, putDst, flat, kA, kB, Nat.reduceLT, ↓reduceIte, kC, Nat.reduceEqDiff, aBuiltin, abinG, guardFree, abin, aInt, aUn, aNilCheck, retQ, retQ1, aresults, aresultL, aresult, mkF, undefV, reduceCtorEq, kD, kE, kF, kG, kH, kI, kJ, kK, aExtract, calleeOf] <;> rfl) ⟨Try.func28, rfl, by decide⟩ (Around_any W0 _ ov n es os h3 (hg0.le (le1.trans L3)) (ho.le Stays.isH (le1.trans L3)) hr) ?_
 rintro rv h4 w4 ⟨rs, G, rg, l4⟩
 have rr := rlG_rl rg
 simp only [kS1, bLookup, bMapSet, wantA, isCall, stepOp, evalO, evalL, evalP, evalM, putDst, flat, kA, kB, Nat.reduceLT, ↓reduceIte, kC, Nat.reduceEqDiff, aBuiltin, abinG, guardFree, abin, aInt, aUn, aNilCheck, retQ, retQ1, aresults, aresultL, aresult, mkF, undefV, reduceCtorEq, kD, kE, kF, kG, kH, kI, kJ, kK, aExtract, calleeOf]
 refine KCall.intro (by simp only [kS1, bLookup, bMapSet, wantA, isCall, stepOp, evalO, evalL, evalP, evalM, putDst, flat, kA, kB, Nat.reduceLT, ↓reduceIte, kC, Nat.reduceEqDiff, aBuiltin, abinG, guardFree, abin, aInt, aUn, aNilCheck, retQ, retQ1, aresults, aresultL, aresult, mkF, undefV, reduceCtorEq, kD, kE, kF, kG, kH, kI, kJ, kK, aExtract, calleeOf] <;> rfl) ⟨Try.func30, rfl, by decide⟩ (Faces_any W0 rv rs h4 rr) ?_
 rintro x h5 w5 ⟨l5, ⟨rfl, hno⟩ | ⟨es1, f1, -, -, rfl, hf1⟩⟩
 ·exact absurd ⟨es, by rw [G.len]; exact hr, by rw [G.len]; exact G⟩ hno
 rw [G.len] at hf1
 have L5 := (L3.trans l4).trans l5
 have lA5 := lA h5 L5
 obtain ⟨tp, tf⟩ := tree_parts hR hA G c
 obtain ⟨dl1, dl2⟩ := dart_len hr G
 simp only [kS1, bLookup, bMapSet, wantA, isCall, stepOp, evalO, evalL, evalP, evalM, putDst, flat, kA, kB, Nat.reduceLT, ↓reduceIte, kC, Nat.reduceEqDiff, aBuiltin, abinG, guardFree, abin, aInt, aUn, aNilCheck, retQ, retQ1, aresults, aresultL, aresult, mkF, undefV, reduceCtorEq, kD, kE, kF, kG, kH, kI, kJ, kK, aExtract, calleeOf, lA5.1]
 refine KCall.intro (by simp only [kS1, bLookup, bMapSet, wantA, isCall, stepOp, evalO, evalL, evalP, evalM, putDst, flat, kA, kB, Nat.reduceLT, ↓reduceIte, kC, Nat.reduceEqDiff, aBuiltin, abinG, guardFree, abin, aInt, aUn, aNilCheck, retQ, retQ1, aresults, aresultL, aresult, mkF, undefV, reduceCtorEq, kD, kE, kF, kG, kH, kI, kJ, kK, aExtract, calleeOf] <;> rfl) ⟨Try.func17, rfl, by decide⟩ (Parts_any W0 _ ⟨(n : Int), es⟩ h5 (hg0.le (le1.trans L5)) hr) ?_
 rintro qv h6 w6 ⟨gq, l6, -⟩
 simp only [Int.toNat_natCast] at gq
 have rq := gq.rl (Stays.RL Stays.isI)
 have lq := fun g => rq.len (P := Try.prog) Try.underlying32 g
 rw [hpl] at lq
 simp only [kS1, bLookup, bMapSet, wantA, isCall, stepOp, evalO, evalL, evalP, evalM, putDst, flat, kA, kB, Nat.reduceLT, ↓reduceIte, kC, Nat.reduceEqDiff, aBuiltin, abinG, guardFree, abin, aInt, aUn, aNilCheck, retQ, retQ1, aresults, aresultL, aresult, mkF, undefV, reduceCtorEq, kD, kE, kF, kG, kH, kI, kJ, kK, aExtract, calleeOf, lq]
 refine KLoop.intro (fun k fr hz => ∃ (j : Nat), k = (heads n es).length - j ∧ j ≤ (heads n es).length ∧ fr = mkF [(2, .pointer (some ⟨B, 0, none⟩)), (5, rv), (6, f1), (7, .int .i64 0), (8, .int .i64 (((heads n es).take j).filter fun a => decide (1 < (compL n es a).length)).length), (39, qv), (40, .int .i64 (heads n es).length), (41, .int .i64 j)] ∧ hz = h6)
  (heads n es).length [(2, .pointer (some ⟨B, 0, none⟩)), (5, rv), (6, f1), (7, .int .i64 0), (8, .int .i64 (0 : Nat)), (39, qv), (40, .int .i64 (heads n es).length), (41, .int .i64 (0 : Nat))] (by simp only [hasAll, kS1, bLookup, bMapSet, wantA, isCall, stepOp, evalO, evalL, evalP, evalM, putDst, flat, kA, kB, Nat.reduceLT, ↓reduceIte, kC, Nat.reduceEqDiff, aBuiltin, abinG, guardFree, abin, aInt, aUn, aNilCheck, retQ, retQ1, aresults, aresultL, aresult, mkF, undefV, reduceCtorEq, kD, kE, kF, kG, kH, kI, kJ, kK, aExtract, calleeOf]; simp)
  ⟨0, rfl, Nat.zero_le _, rfl, rfl⟩ ?_
 rintro k fr hz - ⟨j, rfl, hj, rfl, rfl⟩
 simp only [kS1, bLookup, bMapSet, wantA, isCall, stepOp, evalO, evalL, evalP, evalM, putDst, flat, kA, kB, Nat.reduceLT, ↓reduceIte, kC, Nat.reduceEqDiff, aBuiltin, abinG, guardFree, abin, aInt, aUn, aNilCheck, retQ, retQ1, aresults, aresultL, aresult, mkF, undefV, reduceCtorEq, kD, kE, kF, kG, kH, kI, kJ, kK, aExtract, calleeOf]
 refine KCond.intro (fun ht => ?_) (fun hf => ?_)
 ·have hlt : j < (heads n es).length := lt_t ht
  clear ht
  have hm : j < ((partsN n es n).map nat64).length := by rw [hpl]; exact hlt
  have adp := rq.addr (P := Try.prog) Try.underlying32 Try.underlying38 (by kernel_rfl) (k := .i64) j hm
  obtain ⟨u, ldu, hu'⟩ := rq.load (P := Try.prog) Try.underlying38 rfl j hm
  have hpj : ((partsN n es n).map nat64)[j] = nat64 (compL n es (heads n es)[j]) := by rw [List.getElem_map, partsN_at]
  rw [hpj] at hu'
  have lu := fun g => hu'.len (P := Try.prog) Try.underlying38 g
  rw [nat64_length] at lu
  have hms := many_snoc (f := fun a => (compL n es a).length) hlt
  have hcb : (((heads n es).take j).filter fun a => decide (1 < (compL n es a).length)).length ≤ 40000 := Nat.le_trans (List.length_filter_le _ _) (by rw [List.length_take]; omega)
  generalize (((heads n es).take j).filter fun a => decide (1 < (compL n es a).length)).length = T at *
  have hwj := awrap_succ j (by omega)
  have hwT := awrap_succ T (by omega)
  by_cases c1 : 1 < (compL n es (heads n es)[j]).length
  ·have d1 : decide ((((compL n es (heads n es)[j]).length : Nat) : Int) > 1) = true := decide_eq_true (by omega)
   rw [if_pos c1] at hms
   simp only [kS1, bLookup, bMapSet, wantA, isCall, stepOp, evalO, evalL, evalP, evalM, putDst, flat, kA, kB, Nat.reduceLT, ↓reduceIte, kC, Nat.reduceEqDiff, aBuiltin, abinG, guardFree, abin, aInt, aUn, aNilCheck, retQ, retQ1, aresults, aresultL, aresult, mkF, undefV, reduceCtorEq, kD, kE, kF, kG, kH, kI, kJ, kK, aExtract, calleeOf, adp, ldu, lu, d1, hwj, hwT]
   exact loop_again ((heads n es).length - (j + 1)) [(2, .pointer (some ⟨B, 0, none⟩)), (5, rv), (6, f1), (7, .int .i64 0), (8, .int .i64 (T + 1 : Nat)), (39, qv), (40, .int .i64 (heads n es).length), (41, .int .i64 (j + 1 : Nat))] (stp hlt) (by simp only [hasAll, kS1, bLookup, bMapSet, wantA, isCall, stepOp, evalO, evalL, evalP, evalM, putDst, flat, kA, kB, Nat.reduceLT, ↓reduceIte, kC, Nat.reduceEqDiff, aBuiltin, abinG, guardFree, abin, aInt, aUn, aNilCheck, retQ, retQ1, aresults, aresultL, aresult, mkF, undefV, reduceCtorEq, kD, kE, kF, kG, kH, kI, kJ, kK, aExtract, calleeOf]; simp) ⟨j + 1, rfl, hlt, by rw [hms]; rfl, rfl⟩
  ·have d1 : decide ((((compL n es (heads n es)[j]).length : Nat) : Int) > 1) = false := decide_eq_false (by omega)
   rw [if_neg c1, Nat.add_zero] at hms
   simp only [kS1, bLookup, bMapSet, wantA, isCall, stepOp, evalO, evalL, evalP, evalM, putDst, flat, kA, kB, Nat.reduceLT, ↓reduceIte, kC, Nat.reduceEqDiff, aBuiltin, abinG, guardFree, abin, aInt, aUn, aNilCheck, retQ, retQ1, aresults, aresultL, aresult, mkF, undefV, reduceCtorEq, kD, kE, kF, kG, kH, kI, kJ, kK, aExtract, calleeOf, adp, ldu, lu, d1, hwj, hwT]
   exact loop_again ((heads n es).length - (j + 1)) [(2, .pointer (some ⟨B, 0, none⟩)), (5, rv), (6, f1), (7, .int .i64 0), (8, .int .i64 (T : Nat)), (39, qv), (40, .int .i64 (heads n es).length), (41, .int .i64 (j + 1 : Nat))] (stp hlt) (by simp only [hasAll, kS1, bLookup, bMapSet, wantA, isCall, stepOp, evalO, evalL, evalP, evalM, putDst, flat, kA, kB, Nat.reduceLT, ↓reduceIte, kC, Nat.reduceEqDiff, aBuiltin, abinG, guardFree, abin, aInt, aUn, aNilCheck, retQ, retQ1, aresults, aresultL, aresult, mkF, undefV, reduceCtorEq, kD, kE, kF, kG, kH, kI, kJ, kK, aExtract, calleeOf]; simp) ⟨j + 1, rfl, hlt, by rw [hms]; rfl, rfl⟩
 have hge : (heads n es).length ≤ j := lt_f hf
 rw [List.take_of_length_le hge, ← tf]
 clear hge hf hj
 have lf1 := fun g => hf1.len (P := Try.prog) Try.underlying32 g
 have hS := faces_sum (G.isRot hR hA)
 rw [dl_len (G.isRot hR hA) hA.nodup hR (fun v w => G.mem hR)] at hS
 have hf16 := hf1.le (Stays.RL Stays.isI) l6
 simp only [kS1, bLookup, bMapSet, wantA, isCall, stepOp, evalO, evalL, evalP, evalM, putDst, flat, kA, kB, Nat.reduceLT, ↓reduceIte, kC, Nat.reduceEqDiff, aBuiltin, abinG, guardFree, abin, aInt, aUn, aNilCheck, retQ, retQ1, aresults, aresultL, aresult, mkF, undefV, reduceCtorEq, kD, kE, kF, kG, kH, kI, kJ, kK, aExtract, calleeOf, lf1]
 generalize hF : facesM n rs = Fs at *
 refine KLoop.intro (fun k fr hx => ∃ (j : Nat), k = Fs.length - j ∧ j ≤ Fs.length ∧ fr = mkF [(2, .pointer (some ⟨B, 0, none⟩)), (5, rv), (6, f1), (7, .int .i64 0), (8, .int .i64 Fs.length), (11, .int .i64 (((Fs.take j).map List.length).sum : Nat)), (51, f1), (52, .int .i64 Fs.length), (53, .int .i64 j)] ∧ hx = hz)
  Fs.length [(2, .pointer (some ⟨B, 0, none⟩)), (5, rv), (6, f1), (7, .int .i64 0), (8, .int .i64 Fs.length), (11, .int .i64 (0 : Nat)), (51, f1), (52, .int .i64 Fs.length), (53, .int .i64 (0 : Nat))] (by simp only [hasAll, kS1, bLookup, bMapSet, wantA, isCall, stepOp, evalO, evalL, evalP, evalM, putDst, flat, kA, kB, Nat.reduceLT, ↓reduceIte, kC, Nat.reduceEqDiff, aBuiltin, abinG, guardFree, abin, aInt, aUn, aNilCheck, retQ, retQ1, aresults, aresultL, aresult, mkF, undefV, reduceCtorEq, kD, kE, kF, kG, kH, kI, kJ, kK, aExtract, calleeOf]; simp)
  ⟨0, rfl, Nat.zero_le _, rfl, rfl⟩ ?_
 rintro k fr hx - ⟨j, rfl, hj, rfl, rfl⟩
 simp only [kS1, bLookup, bMapSet, wantA, isCall, stepOp, evalO, evalL, evalP, evalM, putDst, flat, kA, kB, Nat.reduceLT, ↓reduceIte, kC, Nat.reduceEqDiff, aBuiltin, abinG, guardFree, abin, aInt, aUn, aNilCheck, retQ, retQ1, aresults, aresultL, aresult, mkF, undefV, reduceCtorEq, kD, kE, kF, kG, kH, kI, kJ, kK, aExtract, calleeOf]
 refine KCond.intro (fun ht => ?_) (fun hf => ?_)
 ·have hlt : j < Fs.length := lt_t ht
  clear ht
  have adp := hf16.addr (P := Try.prog) Try.underlying32 Try.underlying38 (by kernel_rfl) (k := .i64) j hlt
  obtain ⟨u, ldu, hu'⟩ := hf16.load (P := Try.prog) Try.underlying38 rfl j hlt
  have lu := fun g => hu'.len (P := Try.prog) Try.underlying38 g
  have hwj := awrap_succ j (lt_big hlt dl1)
  have hfl := dl2 _ (List.getElem_mem hlt)
  have hts : ((Fs.take (j + 1)).map List.length).sum = ((Fs.take j).map List.length).sum + (Fs[j]).length := by
   rw [List.take_succ_eq_append_getElem hlt, List.map_append, List.sum_append]; simp
  have hsl := sum_le (l := Fs.take j) fun f hf => dl2 f (List.mem_of_mem_take hf)
  have hsl2 : ((Fs.take j).map List.length).sum ≤ 4000000000 := by
   exact sum_b hsl (List.length_take_le' j Fs) dl1
  generalize ((Fs.take j).map List.length).sum = T at *
  have hwT := add_ok3 hsl2 hfl
  simp only [kS1, bLookup, bMapSet, wantA, isCall, stepOp, evalO, evalL, evalP, evalM, putDst, flat, kA, kB, Nat.reduceLT, ↓reduceIte, kC, Nat.reduceEqDiff, aBuiltin, abinG, guardFree, abin, aInt, aUn, aNilCheck, retQ, retQ1, aresults, aresultL, aresult, mkF, undefV, reduceCtorEq, kD, kE, kF, kG, kH, kI, kJ, kK, aExtract, calleeOf, adp, ldu, lu, hwj, hwT]
  exact loop_again (Fs.length - (j + 1)) [(2, .pointer (some ⟨B, 0, none⟩)), (5, rv), (6, f1), (7, .int .i64 0), (8, .int .i64 Fs.length), (11, .int .i64 (T + (Fs[j]).length : Nat)), (51, f1), (52, .int .i64 Fs.length), (53, .int .i64 (j + 1 : Nat))] (stp hlt) (by simp only [hasAll, kS1, bLookup, bMapSet, wantA, isCall, stepOp, evalO, evalL, evalP, evalM, putDst, flat, kA, kB, Nat.reduceLT, ↓reduceIte, kC, Nat.reduceEqDiff, aBuiltin, abinG, guardFree, abin, aInt, aUn, aNilCheck, retQ, retQ1, aresults, aresultL, aresult, mkF, undefV, reduceCtorEq, kD, kE, kF, kG, kH, kI, kJ, kK, aExtract, calleeOf]; simp) ⟨j + 1, rfl, hlt, by rw [hts]; rfl, rfl⟩
 have hge : Fs.length ≤ j := lt_f hf
 rw [List.take_of_length_le hge, hS]
 clear hge hf hj
 have A6 := lA hx (L5.trans l6)
 have hm2 := mul_ok (a := es.length) (by omega)
 have d0 : decide ((0 : Int) = 0) = true := by decide
 have d1 : decide (((Fs.length : Nat) : Int) = ((Fs.length : Nat) : Int)) = true := decide_eq_true rfl
 have d2 : decide (((2 * es.length : Nat) : Int) = ((2 * es.length : Nat) : Int)) = true := decide_eq_true rfl
 simp only [kS1, bLookup, bMapSet, wantA, isCall, stepOp, evalO, evalL, evalP, evalM, putDst, flat, kA, kB, Nat.reduceLT, ↓reduceIte, kC, Nat.reduceEqDiff, aBuiltin, abinG, guardFree, abin, aInt, aUn, aNilCheck, retQ, retQ1, aresults, aresultL, aresult, mkF, undefV, reduceCtorEq, kD, kE, kF, kG, kH, kI, kJ, kK, aExtract, calleeOf, d0, lf1, d1, fg1, aadd, Nat.zero_add, A6.2.2, le_, hm2, d2, A6.1]
 refine KCall.intro (by simp only [kS1, bLookup, bMapSet, wantA, isCall, stepOp, evalO, evalL, evalP, evalM, putDst, flat, kA, kB, Nat.reduceLT, ↓reduceIte, kC, Nat.reduceEqDiff, aBuiltin, abinG, guardFree, abin, aInt, aUn, aNilCheck, retQ, retQ1, aresults, aresultL, aresult, mkF, undefV, reduceCtorEq, kD, kE, kF, kG, kH, kI, kJ, kK, aExtract, calleeOf] <;> rfl) ⟨Try.func33, rfl, by decide⟩ (Plane_any W0 _ rv ⟨(n : Int), es⟩ rs hx (hg0.le (le1.trans (L5.trans l6))) (rr.le (Stays.RL Stays.isI) (l5.trans l6))) ?_
 rintro x h8 w8 ⟨⟨b1', rfl, hb1⟩, l8⟩
 obtain rfl : b1' = true := hb1.2 ⟨hr, G, tp⟩
 simp only [kS1, bLookup, bMapSet, wantA, isCall, stepOp, evalO, evalL, evalP, evalM, putDst, flat, kA, kB, Nat.reduceLT, ↓reduceIte, kC, Nat.reduceEqDiff, aBuiltin, abinG, guardFree, abin, aInt, aUn, aNilCheck, retQ, retQ1, aresults, aresultL, aresult, mkF, undefV, reduceCtorEq, kD, kE, kF, kG, kH, kI, kJ, kK, aExtract, calleeOf]
 refine KCall.intro (by simp only [kS1, bLookup, bMapSet, wantA, isCall, stepOp, evalO, evalL, evalP, evalM, putDst, flat, kA, kB, Nat.reduceLT, ↓reduceIte, kC, Nat.reduceEqDiff, aBuiltin, abinG, guardFree, abin, aInt, aUn, aNilCheck, retQ, retQ1, aresults, aresultL, aresult, mkF, undefV, reduceCtorEq, kD, kE, kF, kG, kH, kI, kJ, kK, aExtract, calleeOf] <;> rfl) ⟨Try.func27, rfl, by decide⟩ (awake7_any W0 h8) ?_
 rintro x h9 w9 ⟨rfl, l9⟩
 simp only [kS1, bLookup, bMapSet, wantA, isCall, stepOp, evalO, evalL, evalP, evalM, putDst, flat, kA, kB, Nat.reduceLT, ↓reduceIte, kC, Nat.reduceEqDiff, aBuiltin, abinG, guardFree, abin, aInt, aUn, aNilCheck, retQ, retQ1, aresults, aresultL, aresult, mkF, undefV, reduceCtorEq, kD, kE, kF, kG, kH, kI, kJ, kK, aExtract, calleeOf]
 all_goals exact ⟨trivial, trivial⟩
end Go.Fw
namespace Go.Fw
open Go.Proofs Go.ChangeShapes Go.WideShapes Go.RowKit Go.ChangeAt
open Go.Proofs.Ytnaahaldkpdjlaa
set_option maxRecDepth 100000
theorem facesTrees_lifted (os : Os) (started : os.Started) (H : Type) (enc : TypeId × Value → H) :
  ReturnsInHanded {} Try.checked os 6 .any (Rows.facesTreesSpec.pre6 enc Try.prog Try.f6 Rows.facesTreesRow.domain false) (Rows.facesTreesSpec.post enc Try.prog Try.f6 false true false false) := by
 have own : ownKnob Try.prog.godebug = Option.none := by kernel_rfl
 have laidOut : laidOutB Try.prog = true := by kernel_rfl
 refine returnsInHanded_of_change (C := Try.checked) own started (by kernel_rfl) Try.func6
  (ChangeSpec.witness6 (enc := enc) (C := Try.checked) false ⟨#[], #[.agg #[.int .i64 0, .slice Option.none 0 0], .slice Option.none 0 0], []⟩ 8 (by kernel_rfl) (by kernel_rfl) (by kernel_rfl) (by kernel_rfl)) ?_
 intro W base args ds gs before hval0 hW hcnd _
 have hval : ∀ (j : Nat) t v, Try.f6.params[j]? = some t → args[j]? = some v → Value.okWide Try.prog W .any base t v := hval0
 have hW' := hW
 obtain ⟨p, q, hA0, hV, rfl, hfz, hnd⟩ := hW
 have hA : DataW.TrodAll enc Try.prog W 0 (fun _ => true) true Try.f6.params.toList args.toList ds p := hA0
 rw [Try.params6] at hA hval
 obtain ⟨v0, w0, d0, e0, p0, q0, hargs, rfl, rfl, h0, hA⟩ := trodAll_cons hA
 obtain ⟨v1, w1, d1, e1, p1, q1, rfl, rfl, rfl, h1, hA⟩ := trodAll_cons hA
 obtain ⟨rfl, rfl, rfl⟩ := trodAll_nil hA
 obtain rfl : args = #[v0, v1] := by cases args; simp_all
 obtain ⟨rfl, rfl⟩ := trodVars_none hV
 obtain ⟨u0, x0, hv0, hx0⟩ := open_graph (hval 0 24 v0 rfl rfl) h0 (fun _ => ⟨0, 0, 0⟩)
 obtain ⟨u1, x1, hv1, hx1⟩ := open_u16s (hval 1 50 v1 rfl rfl) h1 (fun _ => ⟨0, 0, 0⟩)
 refine (Trees_law (Base.of W) u0 u1 x0 x1 (ext0 W) hx0 hx1 [] (fun _ => ⟨0, 0, 0⟩) W [v0, v1] (Rel.start W _) ?_).mono ?_
 ·exact .cons hv0 (.cons hv1 ((.nil _ _)))
 ·rintro e W' ⟨x, x', m', h', rfl, R, -, -, hx, rfl, -⟩
  obtain rfl := hx.bool_inv
  have hb := R.below
  have hlt0 : ∀ y ∈ p0, y.block < W.heap.size := fun y hy => hW'.lt y (by simp [hy])
  have hlt1 : ∀ y ∈ p1, y.block < W.heap.size := fun y hy => hW'.lt y (by simp [hy])
  have hbool : DataW.Trod enc Try.prog W' W.heap.size (fun _ => false) false 4 (.bool true) (.lit (.bool true)) [] := ⟨1, by simp [DataW.trod, Value.cells, Try.underlying4]⟩
  have hargs :=
   tcons (Below.trod laidOut (by kernel_rfl) (of_decide_eq_true (by kernel_rfl)) h0 hb hlt0) (tcons (Below.trod laidOut (by kernel_rfl) (of_decide_eq_true (by kernel_rfl)) h1 hb hlt1) (trodAll_mk0))
  try simp only [List.append_nil, List.nil_append] at hargs
  exact ⟨_, rfl, _, _, _, [], _, [], hW', trodAll_mk1 hbool, hargs, rfl, hb.frame _, fun e => by cases e⟩
theorem facesTrees_said : Rows.FacesTreesSaid :=
 OpenClaim.holds_of_wide 6 Try.f6 rfl rfl rfl rfl rfl rfl rfl ⟨rfl, rfl, rfl, rfl, rfl⟩ rfl rfl rfl rfl rfl (by kernel_rfl) Try.func6 (by kernel_rfl)
  (of_decide_eq_true (by kernel_rfl)) (by unfold Func.isWrapper; first | (rw [if_pos (by decide +kernel)]; kernel_rfl) | (rw [if_neg (by decide +kernel)]; exact ⟨rfl, rfl⟩))
  (fun os started H enc _ => facesTrees_lifted os started H enc)
end Go.Fw
