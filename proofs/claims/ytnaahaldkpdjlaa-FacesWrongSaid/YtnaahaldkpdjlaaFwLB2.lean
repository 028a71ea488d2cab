/- A text of the proof. -/
import Derived.Test.YtnaahaldkpdjlaaFwPla
set_option linter.unusedSimpArgs false
set_option linter.unusedVariables false
namespace Go.Fw
open Go.Proofs
attribute [local irreducible] KO4 KO3 KO2 KO1 KO KN KX KE VK KCond KDraw KCall KLoop
set_option maxHeartbeats 2000000
set_option maxRecDepth 10000
theorem isNaN_any (W0 : Base) (a : Int) (h : AHeap) : AC Try.prog W0 125 [.int .i64 a] h fun v h' => v = .bool false ∧ h' = h := by
 refine AC.vc (fn := Try.f125) (c := _) ⟨Try.func125, rfl, by decide⟩ Try.ntmps125 Try.results125 (by simp) fun hwf => ?_
 simp only [argFrame, argFrom, Nat.reduceAdd]
 simp only [kS1, bLookup, bMapSet, wantA, isCall, stepOp, evalO, evalL, evalP, evalM, putDst, flat, kA, kB, Nat.reduceLT, ↓reduceIte, kC, Nat.reduceEqDiff, aBuiltin, abinG, guardFree, abin, aInt, aUn, aNilCheck, retQ, retQ1, aresults, aresultL, aresult, mkF, undefV, reduceCtorEq, kD, kE, kF, kG, kH, kI, kJ, kK, aExtract, calleeOf, bne, eq_self]
 exact ⟨trivial, trivial⟩
def cmpI (a b : Int) : Int := if a < b then -1 else if a > b then 1 else 0
theorem Compare_any (W0 : Base) (a b : Int) (h : AHeap) : AC Try.prog W0 116 [.int .i64 a, .int .i64 b] h fun v h' => v = .int .i64 (cmpI a b) ∧ h' = h := by
 refine AC.vc (fn := Try.f116) (c := _) ⟨Try.func116, rfl, by decide⟩ Try.ntmps116 Try.results116 (by simp) fun hwf => ?_
 simp only [argFrame, argFrom, Nat.reduceAdd]
 simp only [kS1, bLookup, bMapSet, wantA, isCall, stepOp, evalO, evalL, evalP, evalM, putDst, flat, kA, kB, Nat.reduceLT, ↓reduceIte, kC, Nat.reduceEqDiff, aBuiltin, abinG, guardFree, abin, aInt, aUn, aNilCheck, retQ, retQ1, aresults, aresultL, aresult, mkF, undefV, reduceCtorEq, kD, kE, kF, kG, kH, kI, kJ, kK, aExtract, calleeOf]
 refine KCall.intro (by simp only [kS1, bLookup, bMapSet, wantA, isCall, stepOp, evalO, evalL, evalP, evalM, putDst, flat, kA, kB, Nat.reduceLT, ↓reduceIte, kC, Nat.reduceEqDiff, aBuiltin, abinG, guardFree, abin, aInt, aUn, aNilCheck, retQ, retQ1, aresults, aresultL, aresult, mkF, undefV, reduceCtorEq, kD, kE, kF, kG, kH, kI, kJ, kK, aExtract, calleeOf] <;> rfl) ⟨Try.func125, rfl, by decide⟩ (isNaN_any W0 a h) ?_
 rintro x h1 w1 ⟨rfl, rfl⟩
 simp only [kS1, bLookup, bMapSet, wantA, isCall, stepOp, evalO, evalL, evalP, evalM, putDst, flat, kA, kB, Nat.reduceLT, ↓reduceIte, kC, Nat.reduceEqDiff, aBuiltin, abinG, guardFree, abin, aInt, aUn, aNilCheck, retQ, retQ1, aresults, aresultL, aresult, mkF, undefV, reduceCtorEq, kD, kE, kF, kG, kH, kI, kJ, kK, aExtract, calleeOf]
 refine KCall.intro (by simp only [kS1, bLookup, bMapSet, wantA, isCall, stepOp, evalO, evalL, evalP, evalM, putDst, flat, kA, kB, Nat.reduceLT, ↓reduceIte, kC, Nat.reduceEqDiff, aBuiltin, abinG, guardFree, abin, aInt, aUn, aNilCheck, retQ, retQ1, aresults, aresultL, aresult, mkF, undefV, reduceCtorEq, kD, kE, kF, kG, kH, kI, kJ, kK, aExtract, calleeOf] <;> rfl) ⟨Try.func125, rfl, by decide⟩ (isNaN_any W0 b h1) ?_
 rintro x h2 w2 ⟨rfl, rfl⟩
 unfold cmpI
 by_cases c : a < b
 ·simp only [kS1, bLookup, bMapSet, wantA, isCall, stepOp, evalO, evalL, evalP, evalM, putDst, flat, kA, kB, Nat.reduceLT, ↓reduceIte, kC, Nat.reduceEqDiff, aBuiltin, abinG, guardFree, abin, aInt, aUn, aNilCheck, retQ, retQ1, aresults, aresultL, aresult, mkF, undefV, reduceCtorEq, kD, kE, kF, kG, kH, kI, kJ, kK, aExtract, calleeOf, c]; exact ⟨trivial, trivial⟩
 ·by_cases c2 : a > b
  ·simp only [kS1, bLookup, bMapSet, wantA, isCall, stepOp, evalO, evalL, evalP, evalM, putDst, flat, kA, kB, Nat.reduceLT, ↓reduceIte, kC, Nat.reduceEqDiff, aBuiltin, abinG, guardFree, abin, aInt, aUn, aNilCheck, retQ, retQ1, aresults, aresultL, aresult, mkF, undefV, reduceCtorEq, kD, kE, kF, kG, kH, kI, kJ, kK, aExtract, calleeOf, c, c2]; exact ⟨trivial, trivial⟩
  ·simp only [kS1, bLookup, bMapSet, wantA, isCall, stepOp, evalO, evalL, evalP, evalM, putDst, flat, kA, kB, Nat.reduceLT, ↓reduceIte, kC, Nat.reduceEqDiff, aBuiltin, abinG, guardFree, abin, aInt, aUn, aNilCheck, retQ, retQ1, aresults, aresultL, aresult, mkF, undefV, reduceCtorEq, kD, kE, kF, kG, kH, kI, kJ, kK, aExtract, calleeOf, c, c2]; exact ⟨trivial, trivial⟩
def orM : List Int → Int
 | [] => 0
 | x :: r => if x = 0 then orM r else x
theorem Or_any (W0 : Base) (v : Value) (xs : List Int) (h : AHeap) (hv : RL isI h v xs) (hn : xs.length ≤ 1000) : AC Try.prog W0 115 [v] h fun x h' => x = .int .i64 (orM xs) ∧ h' = h := by
 refine AC.vc (fn := Try.f115) (c := _) ⟨Try.func115, rfl, by decide⟩ Try.ntmps115 Try.results115 (by simp) fun hwf => ?_
 simp only [argFrame, argFrom, Nat.reduceAdd]
 have ll := hv.len (P := Try.prog) Try.underlying38 h
 simp only [kS1, bLookup, bMapSet, wantA, isCall, stepOp, evalO, evalL, evalP, evalM, putDst, flat, kA, kB, Nat.reduceLT, ↓reduceIte, kC, Nat.reduceEqDiff, aBuiltin, abinG, guardFree, abin, aInt, aUn, aNilCheck, retQ, retQ1, aresults, aresultL, aresult, mkF, undefV, reduceCtorEq, kD, kE, kF, kG, kH, kI, kJ, kK, aExtract, calleeOf, ll]
 refine KLoop.intro (fun k fr hh => ∃ i : Nat, k = xs.length - i ∧ i ≤ xs.length ∧ hh = h ∧ fr = mkF [(3, .int .i64 0), (6, v), (7, .int .i64 xs.length), (8, .int .i64 i)] ∧ orM xs = orM (xs.drop i))
  xs.length [(3, .int .i64 0), (6, v), (7, .int .i64 xs.length), (8, .int .i64 (0 : Nat))] (by simp only [hasAll, kS1, bLookup, bMapSet, wantA, isCall, stepOp, evalO, evalL, evalP, evalM, putDst, flat, kA, kB, Nat.reduceLT, ↓reduceIte, kC, Nat.reduceEqDiff, aBuiltin, abinG, guardFree, abin, aInt, aUn, aNilCheck, retQ, retQ1, aresults, aresultL, aresult, mkF, undefV, reduceCtorEq, kD, kE, kF, kG, kH, kI, kJ, kK, aExtract, calleeOf]; simp) ⟨0, rfl, Nat.zero_le _, rfl, rfl, rfl⟩ ?_
 rintro k fr hh - ⟨i, rfl, hi, rfl, rfl, ho⟩
 simp only [kS1, bLookup, bMapSet, wantA, isCall, stepOp, evalO, evalL, evalP, evalM, putDst, flat, kA, kB, Nat.reduceLT, ↓reduceIte, kC, Nat.reduceEqDiff, aBuiltin, abinG, guardFree, abin, aInt, aUn, aNilCheck, retQ, retQ1, aresults, aresultL, aresult, mkF, undefV, reduceCtorEq, kD, kE, kF, kG, kH, kI, kJ, kK, aExtract, calleeOf]
 refine KCond.intro (fun ht => ?_) (fun hf => ?_)
 ·have hlt : i < xs.length := lt_t ht
  have ad := hv.addr (P := Try.prog) Try.underlying38 Try.underlying3 (by kernel_rfl) (k := .i64) i hlt
  have ld := hv.loadI (P := Try.prog) Try.underlying3 rfl i hlt
  rw [List.drop_eq_getElem_cons hlt, orM] at ho
  by_cases c : xs[i] = 0
  ·rw [if_pos c] at ho
   simp only [kS1, bLookup, bMapSet, wantA, isCall, stepOp, evalO, evalL, evalP, evalM, putDst, flat, kA, kB, Nat.reduceLT, ↓reduceIte, kC, Nat.reduceEqDiff, aBuiltin, abinG, guardFree, abin, aInt, aUn, aNilCheck, retQ, retQ1, aresults, aresultL, aresult, mkF, undefV, reduceCtorEq, kD, kE, kF, kG, kH, kI, kJ, kK, aExtract, calleeOf, ad, ld, bne, eq_true c, awrap_succ i (by omega)]
   exact loop_again (xs.length - (i + 1)) [(3, .int .i64 0), (6, v), (7, .int .i64 xs.length), (8, .int .i64 (i + 1 : Nat))] (by omega) (by simp only [hasAll, kS1, bLookup, bMapSet, wantA, isCall, stepOp, evalO, evalL, evalP, evalM, putDst, flat, kA, kB, Nat.reduceLT, ↓reduceIte, kC, Nat.reduceEqDiff, aBuiltin, abinG, guardFree, abin, aInt, aUn, aNilCheck, retQ, retQ1, aresults, aresultL, aresult, mkF, undefV, reduceCtorEq, kD, kE, kF, kG, kH, kI, kJ, kK, aExtract, calleeOf]; simp) ⟨i + 1, rfl, hlt, rfl, rfl, ho⟩
  ·rw [if_neg c] at ho
   simp only [kS1, bLookup, bMapSet, wantA, isCall, stepOp, evalO, evalL, evalP, evalM, putDst, flat, kA, kB, Nat.reduceLT, ↓reduceIte, kC, Nat.reduceEqDiff, aBuiltin, abinG, guardFree, abin, aInt, aUn, aNilCheck, retQ, retQ1, aresults, aresultL, aresult, mkF, undefV, reduceCtorEq, kD, kE, kF, kG, kH, kI, kJ, kK, aExtract, calleeOf, ad, ld, bne, eq_false c]
   exact ⟨by rw [ho], trivial⟩
 ·have hge : xs.length ≤ i := lt_f hf
  rw [List.drop_eq_nil_of_le hge, orM] at ho
  simp only [kS1, bLookup, bMapSet, wantA, isCall, stepOp, evalO, evalL, evalP, evalM, putDst, flat, kA, kB, Nat.reduceLT, ↓reduceIte, kC, Nat.reduceEqDiff, aBuiltin, abinG, guardFree, abin, aInt, aUn, aNilCheck, retQ, retQ1, aresults, aresultL, aresult, mkF, undefV, reduceCtorEq, kD, kE, kF, kG, kH, kI, kJ, kK, aExtract, calleeOf]
  exact ⟨by rw [ho], trivial⟩
def cmpP (p q : Pr) : Int := orM [cmpI p.1 q.1, cmpI p.2 q.2]
theorem cmpP_lt (p q : Pr) : cmpP p q < 0 ↔ p.1 < q.1 ∨ p.1 = q.1 ∧ p.2 < q.2 := by
 unfold cmpP orM orM orM cmpI
 repeat' split
 all_goals omega
theorem cmpP_eq (p q : Pr) : cmpP p q = 0 ↔ p = q := by
 have : p = q ↔ p.1 = q.1 ∧ p.2 = q.2 := Prod.ext_iff
 rw [this]
 unfold cmpP orM orM orM cmpI
 repeat' split
 all_goals omega
theorem mk2 (h : AHeap) (a b : Int) : aBuildSlice Try.prog h 38 2 [(0, .int .i64 a), (1, .int .i64 b)] = some (.slice (some ⟨h.next, 0, none⟩) 2 2, h.alloc (.cells [.int .i64 a, .int .i64 b])) := rfl
theorem compare_any (W0 : Base) (p q : Pr) (h : AHeap) : AC Try.prog W0 85 [valP p, valP q] h fun v h' => v = .int .i64 (cmpP p q) ∧ Le h h' := by
 refine AC.vc (fn := Try.f85) (c := _) ⟨Try.func85, rfl, by decide⟩ Try.ntmps85 Try.results85 (by simp) fun hwf => ?_
 simp only [argFrame, argFrom, Nat.reduceAdd]
 obtain ⟨h1, e1, l1, w1, o1⟩ := alloc_f hwf (cellsP p)
 obtain ⟨h2, e2, l2, w2, o2⟩ := alloc_f w1 (cellsP q)
 simp only [kS1, bLookup, bMapSet, wantA, isCall, stepOp, evalO, evalL, evalP, evalM, putDst, flat, kA, kB, Nat.reduceLT, ↓reduceIte, kC, Nat.reduceEqDiff, aBuiltin, abinG, guardFree, abin, aInt, aUn, aNilCheck, retQ, retQ1, aresults, aresultL, aresult, mkF, undefV, reduceCtorEq, kD, kE, kF, kG, kH, kI, kJ, kK, aExtract, calleeOf, box42, e1, e2]
 have o12 := l2.own _ _ o1
 generalize h.next = a at *
 generalize h1.next = b at *
 refine KDraw.intro mixed (.fl 0 (.fl 1 (.fl 2 (.fl 3 (.fl 5 (.fl 6 (.fl 7 (.fl 8 (.ch 4 [1, 3] (.ch 9 [4, 6, 8] (.ch 10 [4, 9] (.ch 11 [9, 10] (.fl 12 (.done)) .no) .no) .no) .no))))))))) (by kernel_rfl) ?_
 simp only [kS1, bLookup, bMapSet, wantA, isCall, stepOp, evalO, evalL, evalP, evalM, putDst, flat, kA, kB, Nat.reduceLT, ↓reduceIte, kC, Nat.reduceEqDiff, aBuiltin, abinG, guardFree, abin, aInt, aUn, aNilCheck, retQ, retQ1, aresults, aresultL, aresult, mkF, undefV, reduceCtorEq, kD, kE, kF, kG, kH, kI, kJ, kK, aExtract, calleeOf, kD1, Nat.reduceBEq, HoldsAll, kL, kM, kN, kO, pa0, pa1, aadd, Nat.zero_add, own0 o12, own1 o12, own0 o2, own1 o2]
 refine KGCall.intro (by simp only [kS1, bLookup, bMapSet, wantA, isCall, stepOp, evalO, evalL, evalP, evalM, putDst, flat, kA, kB, Nat.reduceLT, ↓reduceIte, kC, Nat.reduceEqDiff, aBuiltin, abinG, guardFree, abin, aInt, aUn, aNilCheck, retQ, retQ1, aresults, aresultL, aresult, mkF, undefV, reduceCtorEq, kD, kE, kF, kG, kH, kI, kJ, kK, aExtract, calleeOf] <;> rfl) ⟨Try.func116, rfl, by decide⟩ (Compare_any W0 p.1 q.1 h2) ?_
 rintro x h3 w3 ⟨rfl, rfl⟩
 simp only [kS1, bLookup, bMapSet, wantA, isCall, stepOp, evalO, evalL, evalP, evalM, putDst, flat, kA, kB, Nat.reduceLT, ↓reduceIte, kC, Nat.reduceEqDiff, aBuiltin, abinG, guardFree, abin, aInt, aUn, aNilCheck, retQ, retQ1, aresults, aresultL, aresult, mkF, undefV, reduceCtorEq, kD, kE, kF, kG, kH, kI, kJ, kK, aExtract, calleeOf, kD1, Nat.reduceBEq, HoldsAll, kL, kM, kN, kO, pa0, pa1, aadd, Nat.zero_add, own0 o12, own1 o12, own0 o2, own1 o2]
 refine KGCall.intro (by simp only [kS1, bLookup, bMapSet, wantA, isCall, stepOp, evalO, evalL, evalP, evalM, putDst, flat, kA, kB, Nat.reduceLT, ↓reduceIte, kC, Nat.reduceEqDiff, aBuiltin, abinG, guardFree, abin, aInt, aUn, aNilCheck, retQ, retQ1, aresults, aresultL, aresult, mkF, undefV, reduceCtorEq, kD, kE, kF, kG, kH, kI, kJ, kK, aExtract, calleeOf] <;> rfl) ⟨Try.func116, rfl, by decide⟩ (Compare_any W0 p.2 q.2 h3) ?_
 rintro x h4 w4 ⟨rfl, rfl⟩
 obtain ⟨h5, e5, l5, w5, o5⟩ := alloc_f w4 [.int .i64 (cmpI p.1 q.1), .int .i64 (cmpI p.2 q.2)]
 have o52 := l5.own _ _ o12
 have o53 := l5.own _ _ o2
 simp only [kS1, bLookup, bMapSet, wantA, isCall, stepOp, evalO, evalL, evalP, evalM, putDst, flat, kA, kB, Nat.reduceLT, ↓reduceIte, kC, Nat.reduceEqDiff, aBuiltin, abinG, guardFree, abin, aInt, aUn, aNilCheck, retQ, retQ1, aresults, aresultL, aresult, mkF, undefV, reduceCtorEq, kD, kE, kF, kG, kH, kI, kJ, kK, aExtract, calleeOf, kD1, Nat.reduceBEq, HoldsAll, kL, kM, kN, kO, pa0, pa1, aadd, Nat.zero_add, own0 o12, own1 o12, own0 o2, own1 o2, mk2, e5, own0 o52, own1 o52, own0 o53, own1 o53]
 refine KGCall.intro (by simp only [kS1, bLookup, bMapSet, wantA, isCall, stepOp, evalO, evalL, evalP, evalM, putDst, flat, kA, kB, Nat.reduceLT, ↓reduceIte, kC, Nat.reduceEqDiff, aBuiltin, abinG, guardFree, abin, aInt, aUn, aNilCheck, retQ, retQ1, aresults, aresultL, aresult, mkF, undefV, reduceCtorEq, kD, kE, kF, kG, kH, kI, kJ, kK, aExtract, calleeOf] <;> rfl) ⟨Try.func115, rfl, by decide⟩ (Or_any W0 _ [cmpI p.1 q.1, cmpI p.2 q.2] h5 (RL.ofI (RS.whole o5 rfl)) (by simp)) ?_
 rintro x h6 w6 ⟨rfl, rfl⟩
 simp only [kS1, bLookup, bMapSet, wantA, isCall, stepOp, evalO, evalL, evalP, evalM, putDst, flat, kA, kB, Nat.reduceLT, ↓reduceIte, kC, Nat.reduceEqDiff, aBuiltin, abinG, guardFree, abin, aInt, aUn, aNilCheck, retQ, retQ1, aresults, aresultL, aresult, mkF, undefV, reduceCtorEq, kD, kE, kF, kG, kH, kI, kJ, kK, aExtract, calleeOf, kD1, Nat.reduceBEq, HoldsAll, kL, kM, kN, kO, pa0, pa1, aadd, Nat.zero_add, own0 o52, own1 o52, own0 o53, own1 o53]
 exact ⟨rfl, (l1.trans l2).trans l5⟩
end Go.Fw
namespace Go.Fw
open Go.Proofs
attribute [local irreducible] KO4 KO3 KO2 KO1 KO KN KX KE VK KCond KDraw KCall KLoop
set_option maxHeartbeats 4000000
set_option maxRecDepth 10000
def EdgeOK (G : GM) (i : Nat) : Prop := ∀ p, G.es[i]? = some p → (0 ≤ p.1 ∧ p.1 < p.2 ∧ p.2 < G.n) ∧ ∀ q, 0 < i → G.es[i - 1]? = some q → cmpP q p < 0
structure RightG (G : GM) : Prop where
 n0 : 0 ≤ G.n
 n1 : G.n ≤ 200
 len : G.es.length ≤ 594
 ok : ∀ i, i < G.es.length → EdgeOK G i
theorem Right_any (W0 : Base) (v : Value) (G : GM) (h : AHeap) (hg : GR h v G) : AC Try.prog W0 57 [v] h fun x h' => BoolIs (RightG G) x ∧ Le h h' := by
 obtain ⟨ev, rfl, hp⟩ := hg.ex
 refine AC.vc (fn := Try.f57) (c := _) ⟨Try.func57, rfl, by decide⟩ Try.ntmps57 Try.results57 (by simp) fun hwf => ?_
 simp only [argFrame, argFrom, Nat.reduceAdd]
 obtain ⟨h1, b1, le1, wf1, -, lA⟩ := boxG (n := G.n) hwf hp
 generalize h.next = B at *
 have ll := fun g => hp.len g
 have lA1 := lA h1 (Le.refl _)
 by_cases c0 : G.n < 0
 ·simp only [kS1, bLookup, bMapSet, wantA, isCall, stepOp, evalO, evalL, evalP, evalM, putDst, flat, kA, kB, Nat.reduceLT, ↓reduceIte, kC, Nat.reduceEqDiff, aBuiltin, abinG, guardFree, abin, aInt, aUn, aNilCheck, retQ, retQ1, aresults, aresultL, aresult, mkF, undefV, reduceCtorEq, kD, kE, kF, kG, kH, kI, kJ, kK, aExtract, calleeOf, b1, fg0, aadd, Nat.zero_add, lA1.2.1, c0]
  exact ⟨.f fun q => by have := q.n0; omega, le1⟩
 by_cases c1 : G.n > 200
 ·simp only [kS1, bLookup, bMapSet, wantA, isCall, stepOp, evalO, evalL, evalP, evalM, putDst, flat, kA, kB, Nat.reduceLT, ↓reduceIte, kC, Nat.reduceEqDiff, aBuiltin, abinG, guardFree, abin, aInt, aUn, aNilCheck, retQ, retQ1, aresults, aresultL, aresult, mkF, undefV, reduceCtorEq, kD, kE, kF, kG, kH, kI, kJ, kK, aExtract, calleeOf, b1, fg0, aadd, Nat.zero_add, lA1.2.1, c0, c1]
  exact ⟨.f fun q => by have := q.n1; omega, le1⟩
 by_cases c2 : (G.es.length : Int) > 594
 ·simp only [kS1, bLookup, bMapSet, wantA, isCall, stepOp, evalO, evalL, evalP, evalM, putDst, flat, kA, kB, Nat.reduceLT, ↓reduceIte, kC, Nat.reduceEqDiff, aBuiltin, abinG, guardFree, abin, aInt, aUn, aNilCheck, retQ, retQ1, aresults, aresultL, aresult, mkF, undefV, reduceCtorEq, kD, kE, kF, kG, kH, kI, kJ, kK, aExtract, calleeOf, b1, fg0, fg1, aadd, Nat.zero_add, lA1.2.1, lA1.2.2, ll, c0, c1, c2]
  exact ⟨.f fun q => by have := q.len; omega, le1⟩
 simp only [kS1, bLookup, bMapSet, wantA, isCall, stepOp, evalO, evalL, evalP, evalM, putDst, flat, kA, kB, Nat.reduceLT, ↓reduceIte, kC, Nat.reduceEqDiff, aBuiltin, abinG, guardFree, abin, aInt, aUn, aNilCheck, retQ, retQ1, aresults, aresultL, aresult, mkF, undefV, reduceCtorEq, kD, kE, kF, kG, kH, kI, kJ, kK, aExtract, calleeOf, b1, fg0, fg1, aadd, Nat.zero_add, lA1.2.1, lA1.2.2, ll, c0, c1, c2]
 refine KLoop.intro (fun k fr hh => ∃ i : Nat, k = G.es.length - i ∧ i ≤ G.es.length ∧ fr = mkF [(1, .pointer (some ⟨B, 0, none⟩)), (20, ev), (21, .int .i64 G.es.length), (22, .int .i64 i)] ∧ Le h1 hh ∧ ∀ j, j < i → EdgeOK G j)
  G.es.length [(1, .pointer (some ⟨B, 0, none⟩)), (20, ev), (21, .int .i64 G.es.length), (22, .int .i64 (0 : Nat))] (by simp only [hasAll, kS1, bLookup, bMapSet, wantA, isCall, stepOp, evalO, evalL, evalP, evalM, putDst, flat, kA, kB, Nat.reduceLT, ↓reduceIte, kC, Nat.reduceEqDiff, aBuiltin, abinG, guardFree, abin, aInt, aUn, aNilCheck, retQ, retQ1, aresults, aresultL, aresult, mkF, undefV, reduceCtorEq, kD, kE, kF, kG, kH, kI, kJ, kK, aExtract, calleeOf]; simp) ⟨0, rfl, Nat.zero_le _, rfl, Le.refl _, by omega⟩ ?_
 rintro k fr hh hwh ⟨i, rfl, hi, rfl, leh, hall⟩
 simp only [kS1, bLookup, bMapSet, wantA, isCall, stepOp, evalO, evalL, evalP, evalM, putDst, flat, kA, kB, Nat.reduceLT, ↓reduceIte, kC, Nat.reduceEqDiff, aBuiltin, abinG, guardFree, abin, aInt, aUn, aNilCheck, retQ, retQ1, aresults, aresultL, aresult, mkF, undefV, reduceCtorEq, kD, kE, kF, kG, kH, kI, kJ, kK, aExtract, calleeOf]
 refine KCond.intro (fun ht => ?_) (fun hf => ?_)
 rotate_left
 ·have hge : G.es.length ≤ i := lt_f hf
  simp only [kS1, bLookup, bMapSet, wantA, isCall, stepOp, evalO, evalL, evalP, evalM, putDst, flat, kA, kB, Nat.reduceLT, ↓reduceIte, kC, Nat.reduceEqDiff, aBuiltin, abinG, guardFree, abin, aInt, aUn, aNilCheck, retQ, retQ1, aresults, aresultL, aresult, mkF, undefV, reduceCtorEq, kD, kE, kF, kG, kH, kI, kJ, kK, aExtract, calleeOf]
  exact ⟨.t ⟨by omega, by omega, by omega, fun j hj => hall j (by omega)⟩, le1.trans leh⟩
 have hlt : i < G.es.length := lt_t ht
 clear ht
 have hpi := getElem?_of hlt
 generalize G.es[i] = p at hpi
 have hph := hp.le (le1.trans leh)
 have ad := hp.addr (k := .i64) i hlt
 have ld := hph.load hpi
 obtain ⟨h2, h3, e2, e3, le3, wf3, o3⟩ := new42 hwh p
 have L0 := own0 o3
 have L1 := own1 o3
 have LP := own42 o3
 have lA3 := lA h3 (leh.trans le3)
 have bad : ¬ EdgeOK G i → ¬ RightG G := fun hn q => hn (q.ok i hlt)
 have lef := (le1.trans leh).trans le3
 generalize hh.next = E at *
 by_cases d0 : p.1 < 0
 ·simp only [kS1, bLookup, bMapSet, wantA, isCall, stepOp, evalO, evalL, evalP, evalM, putDst, flat, kA, kB, Nat.reduceLT, ↓reduceIte, kC, Nat.reduceEqDiff, aBuiltin, abinG, guardFree, abin, aInt, aUn, aNilCheck, retQ, retQ1, aresults, aresultL, aresult, mkF, undefV, reduceCtorEq, kD, kE, kF, kG, kH, kI, kJ, kK, aExtract, calleeOf, ad, ld, e2, e3, pa0, pa1, aadd, Nat.zero_add, L0, L1, d0]
  exact ⟨.f (bad fun q => by have := (q p hpi).1.1; omega), lef⟩
 by_cases d1 : p.1 ≥ p.2
 ·simp only [kS1, bLookup, bMapSet, wantA, isCall, stepOp, evalO, evalL, evalP, evalM, putDst, flat, kA, kB, Nat.reduceLT, ↓reduceIte, kC, Nat.reduceEqDiff, aBuiltin, abinG, guardFree, abin, aInt, aUn, aNilCheck, retQ, retQ1, aresults, aresultL, aresult, mkF, undefV, reduceCtorEq, kD, kE, kF, kG, kH, kI, kJ, kK, aExtract, calleeOf, ad, ld, e2, e3, pa0, pa1, aadd, Nat.zero_add, L0, L1, d0, d1]
  exact ⟨.f (bad fun q => by have := (q p hpi).1.2.1; omega), lef⟩
 by_cases d2 : p.2 ≥ G.n
 ·simp only [kS1, bLookup, bMapSet, wantA, isCall, stepOp, evalO, evalL, evalP, evalM, putDst, flat, kA, kB, Nat.reduceLT, ↓reduceIte, kC, Nat.reduceEqDiff, aBuiltin, abinG, guardFree, abin, aInt, aUn, aNilCheck, retQ, retQ1, aresults, aresultL, aresult, mkF, undefV, reduceCtorEq, kD, kE, kF, kG, kH, kI, kJ, kK, aExtract, calleeOf, ad, ld, e2, e3, pa0, pa1, fg0, aadd, Nat.zero_add, L0, L1, lA3.2.1, d0, d1, d2]
  exact ⟨.f (bad fun q => by have := (q p hpi).1.2.2; omega), lef⟩
 simp only [kS1, bLookup, bMapSet, wantA, isCall, stepOp, evalO, evalL, evalP, evalM, putDst, flat, kA, kB, Nat.reduceLT, ↓reduceIte, kC, Nat.reduceEqDiff, aBuiltin, abinG, guardFree, abin, aInt, aUn, aNilCheck, retQ, retQ1, aresults, aresultL, aresult, mkF, undefV, reduceCtorEq, kD, kE, kF, kG, kH, kI, kJ, kK, aExtract, calleeOf, ad, ld, e2, e3, pa0, pa1, fg0, aadd, Nat.zero_add, L0, L1, lA3.2.1, d0, d1, d2]
 by_cases i0 : i = 0
 ·subst i0
  have z : ((0 : Int) < ((0 : Nat) : Int)) = False := eq_false (by omega)
  refine KDraw.intro mixed (.fl 0 (.fl 1 (.fl 2 (.fl 3 (.fl 4 (.fl 5 (.fl 6 (.fl 7 (.fl 8 (.fl 9 (.ch 10 [2, 8, 9] (.fl 11 (.fl 12 (.done))) .no))))))))))) (by kernel_rfl) ?_
  simp only [kS1, bLookup, bMapSet, wantA, isCall, stepOp, evalO, evalL, evalP, evalM, putDst, flat, kA, kB, Nat.reduceLT, ↓reduceIte, kC, Nat.reduceEqDiff, aBuiltin, abinG, guardFree, abin, aInt, aUn, aNilCheck, retQ, retQ1, aresults, aresultL, aresult, mkF, undefV, reduceCtorEq, kD, kE, kF, kG, kH, kI, kJ, kK, aExtract, calleeOf, kD1, Nat.reduceBEq, HoldsAll, kL, kM, kN, kO, gt_iff_lt, z, awrap_succ 0 (by omega)]
  refine loop_again (G.es.length - (0 + 1)) [(1, .pointer (some ⟨B, 0, none⟩)), (20, ev), (21, .int .i64 G.es.length), (22, .int .i64 (0 + 1 : Nat))] (by omega) (by simp only [hasAll, kS1, bLookup, bMapSet, wantA, isCall, stepOp, evalO, evalL, evalP, evalM, putDst, flat, kA, kB, Nat.reduceLT, ↓reduceIte, kC, Nat.reduceEqDiff, aBuiltin, abinG, guardFree, abin, aInt, aUn, aNilCheck, retQ, retQ1, aresults, aresultL, aresult, mkF, undefV, reduceCtorEq, kD, kE, kF, kG, kH, kI, kJ, kK, aExtract, calleeOf]; simp) ⟨0 + 1, rfl, hlt, rfl, leh.trans le3, fun j hj => ?_⟩
  have : j = 0 := by omega
  subst this
  intro p' hp'
  rw [hpi] at hp'; injection hp' with hp'; subst hp'
  exact ⟨⟨by omega, by omega, by omega⟩, fun q hq => absurd hq (by omega)⟩
 ·have z : ((0 : Int) < (i : Int)) = True := eq_true (by omega)
  have hqi := getElem?_of (show i - 1 < G.es.length by omega)
  generalize G.es[i - 1]'(by omega) = q at hqi
  have wsub : awrap .i64 ((i : Int) - 1) = ((i - 1 : Nat) : Int) := by rw [awrap_in _ (by omega) (by omega)]; omega
  have adq := hp.addr (k := .i64) (i - 1) (by omega)
  have ldq := (hph.le le3).load hqi
  refine KDraw.intro mixed (.fl 0 (.fl 1 (.fl 2 (.fl 3 (.fl 4 (.fl 5 (.fl 6 (.fl 7 (.fl 8 (.fl 9 (.ch 10 [2, 8, 9] (.fl 11 (.fl 12 (.done))) .no))))))))))) (by kernel_rfl) ?_
  simp only [kS1, bLookup, bMapSet, wantA, isCall, stepOp, evalO, evalL, evalP, evalM, putDst, flat, kA, kB, Nat.reduceLT, ↓reduceIte, kC, Nat.reduceEqDiff, aBuiltin, abinG, guardFree, abin, aInt, aUn, aNilCheck, retQ, retQ1, aresults, aresultL, aresult, mkF, undefV, reduceCtorEq, kD, kE, kF, kG, kH, kI, kJ, kK, aExtract, calleeOf, kD1, Nat.reduceBEq, HoldsAll, kL, kM, kN, kO, gt_iff_lt, z, wsub, fg1, aadd, Nat.zero_add, lA3.2.2, adq, ldq, LP]
  refine KGCall.intro (by simp only [kS1, bLookup, bMapSet, wantA, isCall, stepOp, evalO, evalL, evalP, evalM, putDst, flat, kA, kB, Nat.reduceLT, ↓reduceIte, kC, Nat.reduceEqDiff, aBuiltin, abinG, guardFree, abin, aInt, aUn, aNilCheck, retQ, retQ1, aresults, aresultL, aresult, mkF, undefV, reduceCtorEq, kD, kE, kF, kG, kH, kI, kJ, kK, aExtract, calleeOf] <;> rfl) ⟨Try.func85, rfl, by decide⟩ (compare_any W0 q p h3) ?_
  rintro x h4 wf4 ⟨rfl, le4⟩
  have lA4 := lA h4 ((leh.trans le3).trans le4)
  have ldq4 := ldq
  have LP4 := own42 (le4.own _ _ o3)
  have ldq4 := ((hph.le le3).le le4).load hqi
  by_cases d3 : cmpP q p ≥ 0
  ·simp only [kS1, bLookup, bMapSet, wantA, isCall, stepOp, evalO, evalL, evalP, evalM, putDst, flat, kA, kB, Nat.reduceLT, ↓reduceIte, kC, Nat.reduceEqDiff, aBuiltin, abinG, guardFree, abin, aInt, aUn, aNilCheck, retQ, retQ1, aresults, aresultL, aresult, mkF, undefV, reduceCtorEq, kD, kE, kF, kG, kH, kI, kJ, kK, aExtract, calleeOf, kD1, Nat.reduceBEq, HoldsAll, kL, kM, kN, kO, z, wsub, fg1, aadd, Nat.zero_add, lA4.2.2, adq, ldq4, LP4, d3]
   exact ⟨.f (bad fun k => by have := (k p hpi).2 q (by omega) hqi; omega), lef.trans le4⟩
  ·simp only [kS1, bLookup, bMapSet, wantA, isCall, stepOp, evalO, evalL, evalP, evalM, putDst, flat, kA, kB, Nat.reduceLT, ↓reduceIte, kC, Nat.reduceEqDiff, aBuiltin, abinG, guardFree, abin, aInt, aUn, aNilCheck, retQ, retQ1, aresults, aresultL, aresult, mkF, undefV, reduceCtorEq, kD, kE, kF, kG, kH, kI, kJ, kK, aExtract, calleeOf, kD1, Nat.reduceBEq, HoldsAll, kL, kM, kN, kO, z, wsub, fg1, aadd, Nat.zero_add, lA4.2.2, adq, ldq4, LP4, d3, awrap_succ i (by omega)]
   refine loop_again (G.es.length - (i + 1)) [(1, .pointer (some ⟨B, 0, none⟩)), (20, ev), (21, .int .i64 G.es.length), (22, .int .i64 (i + 1 : Nat))] (by omega) (by simp only [hasAll, kS1, bLookup, bMapSet, wantA, isCall, stepOp, evalO, evalL, evalP, evalM, putDst, flat, kA, kB, Nat.reduceLT, ↓reduceIte, kC, Nat.reduceEqDiff, aBuiltin, abinG, guardFree, abin, aInt, aUn, aNilCheck, retQ, retQ1, aresults, aresultL, aresult, mkF, undefV, reduceCtorEq, kD, kE, kF, kG, kH, kI, kJ, kK, aExtract, calleeOf]; simp) ⟨i + 1, rfl, hlt, rfl, (leh.trans le3).trans le4, fun j hj => ?_⟩
   by_cases e : j = i
   ·subst e
    intro p' hp'
    rw [hpi] at hp'; injection hp' with hp'; subst hp'
    refine ⟨⟨by omega, by omega, by omega⟩, fun q' _ hq' => ?_⟩
    rw [hqi] at hq'; injection hq' with hq'; subst hq'; omega
   ·exact hall j (by omega)
end Go.Fw
namespace Go.Fw
open Go.Proofs
attribute [local irreducible] KO4 KO3 KO2 KO1 KO KN KX KE VK KCond KDraw KCall KLoop
set_option maxHeartbeats 4000000
set_option maxRecDepth 10000
def Asc (es : List Pr) : Prop := ∀ (i j : Nat) p q, i < j → es[i]? = some p → es[j]? = some q → cmpP p q < 0
theorem RightG.asc {G : GM} (r : RightG G) : Asc G.es := by
 have step : ∀ (d i : Nat) p q, G.es[i]? = some p → G.es[i + (d + 1)]? = some q → cmpP p q < 0 := by
  intro d
  induction d with
  | zero =>
   intro i p q hp hq
   have hl := (List.getElem?_eq_some_iff.1 hq).1
   exact (r.ok (i + 1) hl q hq).2 p (by omega) (by simpa using hp)
  | succ d ih =>
   intro i p q hp hq
   have hl := (List.getElem?_eq_some_iff.1 hq).1
   have hm := getElem?_of (show i + (d + 1) < G.es.length by omega)
   have h1 := ih i p _ hp hm
   have h2 := (r.ok (i + (d + 1 + 1)) hl q hq).2 _ (by omega) (by rw [show i + (d + 1 + 1) - 1 = i + (d + 1) by omega]; exact hm)
   rw [cmpP_lt] at *
   omega
 intro i j p q hij hp hq
 have := step (j - i - 1) i p q hp (by rw [show i + (j - i - 1 + 1) = j by omega]; exact hq)
 exact this
theorem Asc.uniq {es : List Pr} (a : Asc es) {i j : Nat} {p : Pr} (hi : es[i]? = some p) (hj : es[j]? = some p) : i = j := by
 rcases Nat.lt_trichotomy i j with h | h | h
 ·have := a i j p p h hi hj
  have h0 := (cmpP_eq p p).2 rfl
  omega
 ·exact h
 ·have := a j i p p h hj hi
  have h0 := (cmpP_eq p p).2 rfl
  omega
theorem Asc.nodup {l : List Pr} (a : Asc l) : l.Nodup := by
 rw [List.nodup_iff_pairwise_ne, List.pairwise_iff_getElem]
 intro i j hi hj hij e
 have := a i j _ _ hij (getElem?_of hi) (getElem?_of hj)
 have := (cmpP_eq l[i] l[j]).2 e
 omega
end Go.Fw
namespace Go.Fw
open Go.Proofs
attribute [local irreducible] KO4 KO3 KO2 KO1 KO KN KX KE VK KCond KDraw KCall KLoop
set_option maxHeartbeats 4000000
set_option maxRecDepth 10000
def onW (web : List Pr) (v : Nat) : Prop := ∃ e ∈ web, e.1 = (v : Int) ∨ e.2 = (v : Int)
instance (web : List Pr) (v : Nat) : Decidable (onW web v) := inferInstanceAs (Decidable (∃ e ∈ web, e.1 = (v : Int) ∨ e.2 = (v : Int)))
def onM (n : Nat) (web : List Pr) : List Bool := (List.range n).map fun v => decide (onW web v)
structure WebOK (es web : List Pr) : Prop where
 asc : ∀ (i : Nat) p q, web[i]? = some p → web[i + 1]? = some q → cmpP p q < 0
 mem : ∀ p ∈ web, p ∈ es
structure New2 (h h' : AHeap) (A B : Nat) (x y : List Value) : Prop where
 le : Le h h'
 wf : WF h'
 oA : h'.own A = some (.cells x)
 oB : h'.own B = some (.cells y)
 nA : h.own A = none
 nB : h.own B = none
 ne : A ≠ B
theorem GR.open {h : AHeap} {v : Value} {n : Int} {es : List Pr} (r : GR h v ⟨n, es⟩) : ∃ ev, v = .agg #[.int .i64 n, ev] ∧ PR h ev es := r.ex
end Go.Fw
