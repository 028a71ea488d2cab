/- A text of the proof. -/
import Derived.Test.YtnaahaldkpdjlaaFwLB2
set_option linter.unusedSimpArgs false
set_option linter.unusedVariables false
namespace Go.Fw
open Go.Proofs
attribute [local irreducible] KO4 KO3 KO2 KO1 KO KN KX KE VK KCond KDraw KCall KLoop
set_option maxHeartbeats 4000000
set_option maxRecDepth 10000
def EdgeOK (G : GM) (i : Nat) : Prop := ∀ p, G.es[i]? = some p → (0 ≤ p.1 ∧ p.1 < p.2 ∧ p.2 < G.n) ∧ ∀ q, 0 < i → G.es[i - 1]? = some q → cmpP q p < 0
structure RightG (G : GM) : Prop where
 n0 : 0 ≤ G.n
 n1 : G.n ≤ 200
 len : G.es.length ≤ 594
 ok : ∀ i, i < G.es.length → EdgeOK G i
theorem Right_any (W0 : Base) (v : Value) (G : GM) (h : AHeap) (hg : GR h v G) : AC Try.prog W0 57 [v] h fun x h' => BoolIs (RightG G) x ∧ Le h h' := by
 obtain ⟨ev, rfl, hp⟩ := hg.ex
 refine AC.vc (fn := Try.f57) (c := _) ⟨Try.func57, rfl, by decide⟩ Try.ntmps57 Try.results57 (by simp) fun hwf => ?_
 simp only [argFrame, argFrom, Nat.reduceAdd]
 obtain ⟨h1, b1, le1, wf1, -, lA⟩ := boxG (n := G.n) hwf hp
 generalize h.next = B at *
 have ll := fun g => hp.len g
 have lA1 := lA h1 (Le.refl _)
 by_cases c0 : G.n < 0
 ·simp only [kS1, bLookup, bMapSet, wantA, isCall, stepOp, evalO, evalL, evalP, evalM, putDst, flat, kA, kB, Nat.reduceLT, ↓reduceIte, kC, Nat.reduceEqDiff, aBuiltin, abinG, guardFree, abin, aInt, aUn, aNilCheck, retQ, retQ1, aresults, aresultL, aresult, mkF, undefV, reduceCtorEq, kD, kE, kF, kG, kH, kI, kJ, kK, aExtract, calleeOf, b1, fg0, aadd, Nat.zero_add, lA1.2.1, c0]
  exact ⟨.f fun q => by have := q.n0; omega, le1⟩
 by_cases c1 : G.n > 200
 ·simp only [kS1, bLookup, bMapSet, wantA, isCall, stepOp, evalO, evalL, evalP, evalM, putDst, flat, kA, kB, Nat.reduceLT, ↓reduceIte, kC, Nat.reduceEqDiff, aBuiltin, abinG, guardFree, abin, aInt, aUn, aNilCheck, retQ, retQ1, aresults, aresultL, aresult, mkF, undefV, reduceCtorEq, kD, kE, kF, kG, kH, kI, kJ, kK, aExtract, calleeOf, b1, fg0, aadd, Nat.zero_add, lA1.2.1, c0, c1]
  exact ⟨.f fun q => by have := q.n1; omega, le1⟩
 by_cases c2 : (G.es.length : Int) > 594
 ·simp only [kS1, bLookup, bMapSet, wantA, isCall, stepOp, evalO, evalL, evalP, evalM, putDst, flat, kA, kB, Nat.reduceLT, ↓reduceIte, kC, Nat.reduceEqDiff, aBuiltin, abinG, guardFree, abin, aInt, aUn, aNilCheck, retQ, retQ1, aresults, aresultL, aresult, mkF, undefV, reduceCtorEq, kD, kE, kF, kG, kH, kI, kJ, kK, aExtract, calleeOf, b1, fg0, fg1, aadd, Nat.zero_add, lA1.2.1, lA1.2.2, ll, c0, c1, c2]
  exact ⟨.f fun q => by have := q.len; omega, le1⟩
 simp only [kS1, bLookup, bMapSet, wantA, isCall, stepOp, evalO, evalL, evalP, evalM, putDst, flat, kA, kB, Nat.reduceLT, ↓reduceIte, kC, Nat.reduceEqDiff, aBuiltin, abinG, guardFree, abin, aInt, aUn, aNilCheck, retQ, retQ1, aresults, aresultL, aresult, mkF, undefV, reduceCtorEq, kD, kE, kF, kG, kH, kI, kJ, kK, aExtract, calleeOf, b1, fg0, fg1, aadd, Nat.zero_add, lA1.2.1, lA1.2.2, ll, c0, c1, c2]
 refine KLoop.intro (fun k fr hh => ∃ i : Nat, k = G.es.length - i ∧ i ≤ G.es.length ∧ fr = mkF [(1, .pointer (some ⟨B, 0, none⟩)), (20, ev), (21, .int .i64 G.es.length), (22, .int .i64 i)] ∧ Le h1 hh ∧ ∀ j, j < i → EdgeOK G j)
  G.es.length [(1, .pointer (some ⟨B, 0, none⟩)), (20, ev), (21, .int .i64 G.es.length), (22, .int .i64 (0 : Nat))] (by simp only [hasAll, kS1, bLookup, bMapSet, wantA, isCall, stepOp, evalO, evalL, evalP, evalM, putDst, flat, kA, kB, Nat.reduceLT, ↓reduceIte, kC, Nat.reduceEqDiff, aBuiltin, abinG, guardFree, abin, aInt, aUn, aNilCheck, retQ, retQ1, aresults, aresultL, aresult, mkF, undefV, reduceCtorEq, kD, kE, kF, kG, kH, kI, kJ, kK, aExtract, calleeOf]; simp) ⟨0, rfl, Nat.zero_le _, rfl, Le.refl _, by omega⟩ ?_
 rintro k fr hh hwh ⟨i, rfl, hi, rfl, leh, hall⟩
 simp only [kS1, bLookup, bMapSet, wantA, isCall, stepOp, evalO, evalL, evalP, evalM, putDst, flat, kA, kB, Nat.reduceLT, ↓reduceIte, kC, Nat.reduceEqDiff, aBuiltin, abinG, guardFree, abin, aInt, aUn, aNilCheck, retQ, retQ1, aresults, aresultL, aresult, mkF, undefV, reduceCtorEq, kD, kE, kF, kG, kH, kI, kJ, kK, aExtract, calleeOf]
 refine KCond.intro (fun ht => ?_) (fun hf => ?_)
 rotate_left
 ·have hge : G.es.length ≤ i := lt_f hf
  simp only [kS1, bLookup, bMapSet, wantA, isCall, stepOp, evalO, evalL, evalP, evalM, putDst, flat, kA, kB, Nat.reduceLT, ↓reduceIte, kC, Nat.reduceEqDiff, aBuiltin, abinG, guardFree, abin, aInt, aUn, aNilCheck, retQ, retQ1, aresults, aresultL, aresult, mkF, undefV, reduceCtorEq, kD, kE, kF, kG, kH, kI, kJ, kK, aExtract, calleeOf]
  exact ⟨.t ⟨by omega, by omega, by omega, fun j hj => hall j (by omega)⟩, le1.trans leh⟩
 have hlt : i < G.es.length := lt_t ht
 clear ht
 have hpi := getElem?_of hlt
 generalize G.es[i] = p at hpi
 have hph := hp.le (le1.trans leh)
 have ad := hp.addr (k := .i64) i hlt
 have ld := hph.load hpi
 obtain ⟨h2, h3, e2, e3, le3, wf3, o3⟩ := new42 hwh p
 have L0 := own0 o3
 have L1 := own1 o3
 have LP := own42 o3
 have lA3 := lA h3 (leh.trans le3)
 have bad : ¬ EdgeOK G i → ¬ RightG G := fun hn q => hn (q.ok i hlt)
 have lef := (le1.trans leh).trans le3
 generalize hh.next = E at *
 by_cases d0 : p.1 < 0
 ·simp only [kS1, bLookup, bMapSet, wantA, isCall, stepOp, evalO, evalL, evalP, evalM, putDst, flat, kA, kB, Nat.reduceLT, ↓reduceIte, kC, Nat.reduceEqDiff, aBuiltin, abinG, guardFree, abin, aInt, aUn, aNilCheck, retQ, retQ1, aresults, aresultL, aresult, mkF, undefV, reduceCtorEq, kD, kE, kF, kG, kH, kI, kJ, kK, aExtract, calleeOf, ad, ld, e2, e3, pa0, pa1, aadd, Nat.zero_add, L0, L1, d0]
  exact ⟨.f (bad fun q => by have := (q p hpi).1.1; omega), lef⟩
 by_cases d1 : p.1 ≥ p.2
 ·simp only [kS1, bLookup, bMapSet, wantA, isCall, stepOp, evalO, evalL, evalP, evalM, putDst, flat, kA, kB, Nat.reduceLT, ↓reduceIte, kC, Nat.reduceEqDiff, aBuiltin, abinG, guardFree, abin, aInt, aUn, aNilCheck, retQ, retQ1, aresults, aresultL, aresult, mkF, undefV, reduceCtorEq, kD, kE, kF, kG, kH, kI, kJ, kK, aExtract, calleeOf, ad, ld, e2, e3, pa0, pa1, aadd, Nat.zero_add, L0, L1, d0, d1]
  exact ⟨.f (bad fun q => by have := (q p hpi).1.2.1; omega), lef⟩
 by_cases d2 : p.2 ≥ G.n
 ·simp only [kS1, bLookup, bMapSet, wantA, isCall, stepOp, evalO, evalL, evalP, evalM, putDst, flat, kA, kB, Nat.reduceLT, ↓reduceIte, kC, Nat.reduceEqDiff, aBuiltin, abinG, guardFree, abin, aInt, aUn, aNilCheck, retQ, retQ1, aresults, aresultL, aresult, mkF, undefV, reduceCtorEq, kD, kE, kF, kG, kH, kI, kJ, kK, aExtract, calleeOf, ad, ld, e2, e3, pa0, pa1, fg0, aadd, Nat.zero_add, L0, L1, lA3.2.1, d0, d1, d2]
  exact ⟨.f (bad fun q => by have := (q p hpi).1.2.2; omega), lef⟩
 simp only [kS1, bLookup, bMapSet, wantA, isCall, stepOp, evalO, evalL, evalP, evalM, putDst, flat, kA, kB, Nat.reduceLT, ↓reduceIte, kC, Nat.reduceEqDiff, aBuiltin, abinG, guardFree, abin, aInt, aUn, aNilCheck, retQ, retQ1, aresults, aresultL, aresult, mkF, undefV, reduceCtorEq, kD, kE, kF, kG, kH, kI, kJ, kK, aExtract, calleeOf, ad, ld, e2, e3, pa0, pa1, fg0, aadd, Nat.zero_add, L0, L1, lA3.2.1, d0, d1, d2]
 by_cases i0 : i = 0
 ·subst i0
  have z : ((0 : Int) < ((0 : Nat) : Int)) = False := eq_false (by omega)
  refine KDraw.intro mixed (.fl 0 (.fl 1 (.fl 2 (.fl 3 (.fl 4 (.fl 5 (.fl 6 (.fl 7 (.fl 8 (.fl 9 (.ch 10 [2, 8, 9] (.fl 11 (.fl 12 (.done))) .no))))))))))) (by kernel_rfl) ?_
  simp only [kS1, bLookup, bMapSet, wantA, isCall, stepOp, evalO, evalL, evalP, evalM, putDst, flat, kA, kB, Nat.reduceLT, ↓reduceIte, kC, Nat.reduceEqDiff, aBuiltin, abinG, guardFree, abin, aInt, aUn, aNilCheck, retQ, retQ1, aresults, aresultL, aresult, mkF, undefV, reduceCtorEq, kD, kE, kF, kG, kH, kI, kJ, kK, aExtract, calleeOf, kD1, Nat.reduceBEq, HoldsAll, kL, kM, kN, kO, gt_iff_lt, z, awrap_succ 0 (by omega)]
  refine loop_again (G.es.length - (0 + 1)) [(1, .pointer (some ⟨B, 0, none⟩)), (20, ev), (21, .int .i64 G.es.length), (22, .int .i64 (0 + 1 : Nat))] (by omega) (by simp only [hasAll, kS1, bLookup, bMapSet, wantA, isCall, stepOp, evalO, evalL, evalP, evalM, putDst, flat, kA, kB, Nat.reduceLT, ↓reduceIte, kC, Nat.reduceEqDiff, aBuiltin, abinG, guardFree, abin, aInt, aUn, aNilCheck, retQ, retQ1, aresults, aresultL, aresult, mkF, undefV, reduceCtorEq, kD, kE, kF, kG, kH, kI, kJ, kK, aExtract, calleeOf]; simp) ⟨0 + 1, rfl, hlt, rfl, leh.trans le3, fun j hj => ?_⟩
  have : j = 0 := by omega
  subst this
  intro p' hp'
  rw [hpi] at hp'; injection hp' with hp'; subst hp'
  exact ⟨⟨by omega, by omega, by omega⟩, fun q hq => absurd hq (by omega)⟩
 ·have z : ((0 : Int) < (i : Int)) = True := eq_true (by omega)
  have hqi := getElem?_of (show i - 1 < G.es.length by omega)
  generalize G.es[i - 1]'(by omega) = q at hqi
  have wsub : awrap .i64 ((i : Int) - 1) = ((i - 1 : Nat) : Int) := by rw [awrap_in _ (by omega) (by omega)]; omega
  have adq := hp.addr (k := .i64) (i - 1) (by omega)
  have ldq := (hph.le le3).load hqi
  refine KDraw.intro mixed (.fl 0 (.fl 1 (.fl 2 (.fl 3 (.fl 4 (.fl 5 (.fl 6 (.fl 7 (.fl 8 (.fl 9 (.ch 10 [2, 8, 9] (.fl 11 (.fl 12 (.done))) .no))))))))))) (by kernel_rfl) ?_
  simp only [kS1, bLookup, bMapSet, wantA, isCall, stepOp, evalO, evalL, evalP, evalM, putDst, flat, kA, kB, Nat.reduceLT, ↓reduceIte, kC, Nat.reduceEqDiff, aBuiltin, abinG, guardFree, abin, aInt, aUn, aNilCheck, retQ, retQ1, aresults, aresultL, aresult, mkF, undefV, reduceCtorEq, kD, kE, kF, kG, kH, kI, kJ, kK, aExtract, calleeOf, kD1, Nat.reduceBEq, HoldsAll, kL, kM, kN, kO, gt_iff_lt, z, wsub, fg1, aadd, Nat.zero_add, lA3.2.2, adq, ldq, LP]
  refine KGCall.intro (by simp only [kS1, bLookup, bMapSet, wantA, isCall, stepOp, evalO, evalL, evalP, evalM, putDst, flat, kA, kB, Nat.reduceLT, ↓reduceIte, kC, Nat.reduceEqDiff, aBuiltin, abinG, guardFree, abin, aInt, aUn, aNilCheck, retQ, retQ1, aresults, aresultL, aresult, mkF, undefV, reduceCtorEq, kD, kE, kF, kG, kH, kI, kJ, kK, aExtract, calleeOf] <;> rfl) ⟨Try.func85, rfl, by decide⟩ (compare_any W0 q p h3) ?_
  rintro x h4 wf4 ⟨rfl, le4⟩
  have lA4 := lA h4 ((leh.trans le3).trans le4)
  have ldq4 := ldq
  have LP4 := own42 (le4.own _ _ o3)
  have ldq4 := ((hph.le le3).le le4).load hqi
  by_cases d3 : cmpP q p ≥ 0
  ·simp only [kS1, bLookup, bMapSet, wantA, isCall, stepOp, evalO, evalL, evalP, evalM, putDst, flat, kA, kB, Nat.reduceLT, ↓reduceIte, kC, Nat.reduceEqDiff, aBuiltin, abinG, guardFree, abin, aInt, aUn, aNilCheck, retQ, retQ1, aresults, aresultL, aresult, mkF, undefV, reduceCtorEq, kD, kE, kF, kG, kH, kI, kJ, kK, aExtract, calleeOf, kD1, Nat.reduceBEq, HoldsAll, kL, kM, kN, kO, z, wsub, fg1, aadd, Nat.zero_add, lA4.2.2, adq, ldq4, LP4, d3]
   exact ⟨.f (bad fun k => by have := (k p hpi).2 q (by omega) hqi; omega), lef.trans le4⟩
  ·simp only [kS1, bLookup, bMapSet, wantA, isCall, stepOp, evalO, evalL, evalP, evalM, putDst, flat, kA, kB, Nat.reduceLT, ↓reduceIte, kC, Nat.reduceEqDiff, aBuiltin, abinG, guardFree, abin, aInt, aUn, aNilCheck, retQ, retQ1, aresults, aresultL, aresult, mkF, undefV, reduceCtorEq, kD, kE, kF, kG, kH, kI, kJ, kK, aExtract, calleeOf, kD1, Nat.reduceBEq, HoldsAll, kL, kM, kN, kO, z, wsub, fg1, aadd, Nat.zero_add, lA4.2.2, adq, ldq4, LP4, d3, awrap_succ i (by omega)]
   refine loop_again (G.es.length - (i + 1)) [(1, .pointer (some ⟨B, 0, none⟩)), (20, ev), (21, .int .i64 G.es.length), (22, .int .i64 (i + 1 : Nat))] (by omega) (by simp only [hasAll, kS1, bLookup, bMapSet, wantA, isCall, stepOp, evalO, evalL, evalP, evalM, putDst, flat, kA, kB, Nat.reduceLT, ↓reduceIte, kC, Nat.reduceEqDiff, aBuiltin, abinG, guardFree, abin, aInt, aUn, aNilCheck, retQ, retQ1, aresults, aresultL, aresult, mkF, undefV, reduceCtorEq, kD, kE, kF, kG, kH, kI, kJ, kK, aExtract, calleeOf]; simp) ⟨i + 1, rfl, hlt, rfl, (leh.trans le3).trans le4, fun j hj => ?_⟩
   by_cases e : j = i
   ·subst e
    intro p' hp'
    rw [hpi] at hp'; injection hp' with hp'; subst hp'
    refine ⟨⟨by omega, by omega, by omega⟩, fun q' _ hq' => ?_⟩
    rw [hqi] at hq'; injection hq' with hq'; subst hq'; omega
   ·exact hall j (by omega)
end Go.Fw
namespace Go.Fw
open Go.Proofs
attribute [local irreducible] KO4 KO3 KO2 KO1 KO KN KX KE VK KCond KDraw KCall KLoop
set_option maxHeartbeats 4000000
set_option maxRecDepth 10000
def Asc (es : List Pr) : Prop := ∀ (i j : Nat) p q, i < j → es[i]? = some p → es[j]? = some q → cmpP p q < 0
theorem RightG.asc {G : GM} (r : RightG G) : Asc G.es := by
 have step : ∀ (d i : Nat) p q, G.es[i]? = some p → G.es[i + (d + 1)]? = some q → cmpP p q < 0 := by
  intro d
  induction d with
  | zero =>
   intro i p q hp hq
   have hl := (List.getElem?_eq_some_iff.1 hq).1
   exact (r.ok (i + 1) hl q hq).2 p (by omega) (by simpa using hp)
  | succ d ih =>
   intro i p q hp hq
   have hl := (List.getElem?_eq_some_iff.1 hq).1
   have hm := getElem?_of (show i + (d + 1) < G.es.length by omega)
   have h1 := ih i p _ hp hm
   have h2 := (r.ok (i + (d + 1 + 1)) hl q hq).2 _ (by omega) (by rw [show i + (d + 1 + 1) - 1 = i + (d + 1) by omega]; exact hm)
   rw [cmpP_lt] at *
   omega
 intro i j p q hij hp hq
 have := step (j - i - 1) i p q hp (by rw [show i + (j - i - 1 + 1) = j by omega]; exact hq)
 exact this
theorem Asc.nodup {l : List Pr} (a : Asc l) : l.Nodup := by
 rw [List.nodup_iff_pairwise_ne, List.pairwise_iff_getElem]
 intro i j hi hj hij e
 have := a i j _ _ hij (getElem?_of hi) (getElem?_of hj)
 have := (cmpP_eq l[i] l[j]).2 e
 omega
end Go.Fw
namespace Go.Fw
open Go.Proofs
attribute [local irreducible] KO4 KO3 KO2 KO1 KO KN KX KE VK KCond KDraw KCall KLoop
set_option maxHeartbeats 4000000
set_option maxRecDepth 10000
def onW (web : List Pr) (v : Nat) : Prop := ∃ e ∈ web, e.1 = (v : Int) ∨ e.2 = (v : Int)
instance (web : List Pr) (v : Nat) : Decidable (onW web v) := inferInstanceAs (Decidable (∃ e ∈ web, e.1 = (v : Int) ∨ e.2 = (v : Int)))
structure WebOK (es web : List Pr) : Prop where
 asc : ∀ (i : Nat) p q, web[i]? = some p → web[i + 1]? = some q → cmpP p q < 0
 mem : ∀ p ∈ web, p ∈ es
structure New2 (h h' : AHeap) (A B : Nat) (x y : List Value) : Prop where
 le : Le h h'
 wf : WF h'
 oA : h'.own A = some (.cells x)
 oB : h'.own B = some (.cells y)
 nA : h.own A = none
 nB : h.own B = none
 ne : A ≠ B
theorem GR.open {h : AHeap} {v : Value} {n : Int} {es : List Pr} (r : GR h v ⟨n, es⟩) : ∃ ev, v = .agg #[.int .i64 n, ev] ∧ PR h ev es := r.ex
end Go.Fw
namespace Go.Fw
open Go.Proofs
attribute [local irreducible] KO4 KO3 KO2 KO1 KO KN KX KE VK KCond KDraw KCall KLoop
set_option maxHeartbeats 400000
set_option maxRecDepth 10000
theorem and_u64 : ∀ n : Nat, n ≤ 300 → IntKind.u64.wrap ((BitVec.ofInt IntKind.u64.bits (n : Int) &&& BitVec.ofInt IntKind.u64.bits 4294967295).toNat : Nat) = (n : Int) := by
 intro n hn
 have : ∀ k : Fin 301, IntKind.u64.wrap ((BitVec.ofInt IntKind.u64.bits ((k : Nat) : Int) &&& BitVec.ofInt IntKind.u64.bits 4294967295).toNat : Nat) = ((k : Nat) : Int) := by decide +kernel
 exact this ⟨n, by omega⟩
theorem shr32_u64 (n : Nat) (hn : n ≤ 300) : aShift .shr .u64 (n : Int) 32 = some (.int .u64 0) := by
 simp [aShift, IntKind.bits]
 rw [Int.fdiv_eq_ediv_of_nonneg _ (by decide)]
 omega
theorem awrap_u64 (n : Nat) (hn : n ≤ 300) : awrap .u64 (n : Int) = n := by
 have h1 : (0 : Int) ≤ n := by omega
 have h2 : (n : Int) ≤ 18446744073709551615 := by omega
 simp [awrap, h1, h2]
theorem Mul64_any (W0 : Base) (n : Nat) (hn : n ≤ 300) (h : AHeap) : AC Try.prog W0 129 [.int .u64 1, .int .u64 n] h fun x h' => x = .tuple #[.int .u64 0, .int .u64 n] ∧ h' = h := by
 refine AC.vc (fn := Try.f129) (c := _) ⟨Try.func129, rfl, by decide⟩ Try.ntmps129 Try.results129 (by simp) fun hwf => ?_
 simp only [argFrame, argFrom, Nat.reduceAdd]
 have a1 : IntKind.u64.wrap ((BitVec.ofInt IntKind.u64.bits 1 &&& BitVec.ofInt IntKind.u64.bits 4294967295).toNat : Nat) = 1 := and_u64 1 (by decide)
 have a2 : aShift .shr .u64 1 32 = some (.int .u64 0) := shr32_u64 1 (by decide)
 have a3 : IntKind.u64.wrap ((BitVec.ofInt IntKind.u64.bits 0 &&& BitVec.ofInt IntKind.u64.bits 4294967295).toNat : Nat) = 0 := and_u64 0 (by decide)
 have a4 : aShift .shr .u64 0 32 = some (.int .u64 0) := shr32_u64 0 (by decide)
 have a5 := and_u64 n hn
 have a6 := shr32_u64 n hn
 have a7 : awrap .u64 0 = 0 := by decide
 have a8 := awrap_u64 n hn
 simp only [kS1, bLookup, bMapSet, wantA, isCall, stepOp, evalO, evalL, evalP, evalM, putDst, flat, kA, kB, Nat.reduceLT, ↓reduceIte, kC, Nat.reduceEqDiff, aBuiltin, abinG, guardFree, abin, aInt, aUn, aNilCheck, retQ, retQ1, aresults, aresultL, aresult, mkF, undefV, reduceCtorEq, kD, kE, kF, kG, kH, kI, kJ, kK, aExtract, calleeOf, a1, a2, a3, a4, a5, a6, a7, a8, Int.mul_one, Int.one_mul, Int.mul_zero, Int.zero_mul, Int.add_zero, Int.zero_add]
 exact ⟨trivial, trivial⟩
theorem Mul_any (W0 : Base) (n : Nat) (hn : n ≤ 300) (h : AHeap) : AC Try.prog W0 118 [.int .u64 1, .int .u64 n] h fun x h' => x = .tuple #[.int .u64 0, .int .u64 n] ∧ h' = h := by
 refine AC.vc (fn := Try.f118) (c := _) ⟨Try.func118, rfl, by decide⟩ Try.ntmps118 Try.results118 (by simp) fun hwf => ?_
 simp only [argFrame, argFrom, Nat.reduceAdd]
 simp only [kS1, bLookup, bMapSet, wantA, isCall, stepOp, evalO, evalL, evalP, evalM, putDst, flat, kA, kB, Nat.reduceLT, ↓reduceIte, kC, Nat.reduceEqDiff, aBuiltin, abinG, guardFree, abin, aInt, aUn, aNilCheck, retQ, retQ1, aresults, aresultL, aresult, mkF, undefV, reduceCtorEq, kD, kE, kF, kG, kH, kI, kJ, kK, aExtract, calleeOf]
 refine KCall.intro (by simp only [kS1, bLookup, bMapSet, wantA, isCall, stepOp, evalO, evalL, evalP, evalM, putDst, flat, kA, kB, Nat.reduceLT, ↓reduceIte, kC, Nat.reduceEqDiff, aBuiltin, abinG, guardFree, abin, aInt, aUn, aNilCheck, retQ, retQ1, aresults, aresultL, aresult, mkF, undefV, reduceCtorEq, kD, kE, kF, kG, kH, kI, kJ, kK, aExtract, calleeOf] <;> rfl) ⟨Try.func129, rfl, by decide⟩ (Mul64_any W0 n hn h) ?_
 rintro v h' - ⟨rfl, rfl⟩
 simp only [kS1, bLookup, bMapSet, wantA, isCall, stepOp, evalO, evalL, evalP, evalM, putDst, flat, kA, kB, Nat.reduceLT, ↓reduceIte, kC, Nat.reduceEqDiff, aBuiltin, abinG, guardFree, abin, aInt, aUn, aNilCheck, retQ, retQ1, aresults, aresultL, aresult, mkF, undefV, reduceCtorEq, kD, kE, kF, kG, kH, kI, kJ, kK, aExtract, calleeOf]
 exact ⟨trivial, trivial⟩
theorem rep_grow {α : Type} (a b : α) (i n m : Nat) (hm : min i (n - i) = m) : List.take i (List.replicate i a ++ List.replicate (n - i) b) ++ List.take (m * 1) (List.replicate i a) ++ List.drop (i + m * 1) (List.replicate i a ++ List.replicate (n - i) b) = List.replicate (i + m) a ++ List.replicate (n - (i + m)) b := by
 have e1 : List.take i (List.replicate i a ++ List.replicate (n - i) b) = List.replicate i a := by simp [List.take_append]
 have e2 : List.take (m * 1) (List.replicate i a) = List.replicate m a := by rw [Nat.mul_one, List.take_replicate]; congr 1; omega
 have e3 : List.drop (i + m * 1) (List.replicate i a ++ List.replicate (n - i) b) = List.replicate (n - (i + m)) b := by
  rw [Nat.mul_one, List.drop_append, List.drop_replicate, List.drop_replicate]
  simp; omega
 rw [e1, e2, e3, List.replicate_append_replicate]
theorem Repeat_any (W0 : Base) (l : Value) (n : Nat) (hn : n ≤ 300) (h : AHeap) (hl : RL isI h l [-1]) : AC Try.prog W0 95 [l, .int .i64 n] h fun v h' => ∃ id, v = .slice (some ⟨id, 0, none⟩) n n ∧ h.next ≤ id ∧ h'.own id = some (.cells (List.replicate n (.int .i64 (-1)))) ∧ Le h h' := by
 refine AC.vc (fn := Try.f95) (c := _) ⟨Try.func95, rfl, by decide⟩ Try.ntmps95 Try.results95 (by simp) fun hwf => ?_
 simp only [argFrame, argFrom, Nat.reduceAdd]
 have z0 : ¬ ((n : Int) < 0) := by omega
 have ll : aLen Try.prog h 38 l = some (.int .i64 (1 : Int)) := hl.len (P := Try.prog) Try.underlying38 h
 have w1 : awrap .u64 1 = 1 := by decide
 simp only [kS1, bLookup, bMapSet, wantA, isCall, stepOp, evalO, evalL, evalP, evalM, putDst, flat, kA, kB, Nat.reduceLT, ↓reduceIte, kC, Nat.reduceEqDiff, aBuiltin, abinG, guardFree, abin, aInt, aUn, aNilCheck, retQ, retQ1, aresults, aresultL, aresult, mkF, undefV, reduceCtorEq, kD, kE, kF, kG, kH, kI, kJ, kK, aExtract, calleeOf, z0, ll, aConvert, Try.underlying3, Try.underlying108, awrap_u64 n hn, w1]
 refine KCall.intro (by simp only [kS1, bLookup, bMapSet, wantA, isCall, stepOp, evalO, evalL, evalP, evalM, putDst, flat, kA, kB, Nat.reduceLT, ↓reduceIte, kC, Nat.reduceEqDiff, aBuiltin, abinG, guardFree, abin, aInt, aUn, aNilCheck, retQ, retQ1, aresults, aresultL, aresult, mkF, undefV, reduceCtorEq, kD, kE, kF, kG, kH, kI, kJ, kK, aExtract, calleeOf] <;> rfl) ⟨Try.func118, rfl, by decide⟩ (Mul_any W0 n hn h) ?_
 rintro v h' - ⟨rfl, rfl⟩
 have z1 : ¬ ((0 : Int) < (0 : Int)) := by decide
 have z2 : ¬ ((9223372036854775807 : Int) < (n : Int)) := by omega
 have mk := aMakeSlice1 (P := Try.prog) (t := 38) h' Try.underlying38 rfl rfl rfl rfl (by kernel_rfl) Try.underlying3 (by kernel_rfl) n (by omega)
 simp only [kS1, bLookup, bMapSet, wantA, isCall, stepOp, evalO, evalL, evalP, evalM, putDst, flat, kA, kB, Nat.reduceLT, ↓reduceIte, kC, Nat.reduceEqDiff, aBuiltin, abinG, guardFree, abin, aInt, aUn, aNilCheck, retQ, retQ1, aresults, aresultL, aresult, mkF, undefV, reduceCtorEq, kD, kE, kF, kG, kH, kI, kJ, kK, aExtract, calleeOf, z1, z2, aConvert, Try.underlying3, Try.underlying108, awrap_i64 n (by omega) (by omega), mk]
 have ho : (h'.alloc (.cells (List.replicate n (.int .i64 0)))).own h'.next = some (.cells (List.replicate n (.int .i64 0))) := AHeap.own_alloc_eq _ _
 have hle : Le h' (h'.alloc (.cells (List.replicate n (.int .i64 0)))) := (Le.refl _).alloc hwf _
 have hno : h'.own h'.next = none := (Le.refl h').next hwf (Nat.le_refl _)
 generalize h'.alloc (.cells (List.replicate n (.int .i64 0))) = h1 at *
 -- the first copy
 have hcopy : ∃ m h2, aCopy Try.prog h1 38 (.slice (some ⟨h'.next, 0, none⟩) n n) l = some (.int .i64 (m : Nat), h2) ∧ (n = 0 ∧ m = 0 ∨ 1 ≤ m ∧ m ≤ n) ∧ h2.own h'.next = some (.cells (List.replicate m (.int .i64 (-1)) ++ List.replicate (n - m) (.int .i64 0))) ∧ Le h' h2 := by
  by_cases h0 : n = 0
  ·subst h0
   exact ⟨0, h1, aCopy_zero Try.underlying38 Try.underlying3 (by decide) hl.sl (by simp), .inl ⟨rfl, rfl⟩, by simpa using ho, hle⟩
  ·obtain ⟨vs, hr, hlen, hg⟩ := hl
   have hvs : vs = [.int .i64 (-1)] := by
    match vs, hlen with
    | [x], _ => rw [hg 0 (-1) x rfl rfl]
   subst hvs
   refine ⟨1, _, aCopy_own (k := 1) Try.underlying38 Try.underlying3 rfl ho (hr.le hle).cs (by rfl) 1 (by simp; omega) (by decide) (by simp; omega), .inr ⟨by omega, by omega⟩, ?_, hle.put _ hno⟩
   rw [AHeap.own_put_eq]
   simp
 obtain ⟨m, h2, hc, hm, ho2, hle2⟩ := hcopy
 simp only [kS1, bLookup, bMapSet, wantA, isCall, stepOp, evalO, evalL, evalP, evalM, putDst, flat, kA, kB, Nat.reduceLT, ↓reduceIte, kC, Nat.reduceEqDiff, aBuiltin, abinG, guardFree, abin, aInt, aUn, aNilCheck, retQ, retQ1, aresults, aresultL, aresult, mkF, undefV, reduceCtorEq, kD, kE, kF, kG, kH, kI, kJ, kK, aExtract, calleeOf, hc]
 refine KLoop.intro (fun k fr hh => ∃ i : Nat, k = n - i ∧ (n = 0 ∧ i = 0 ∨ 1 ≤ i ∧ i ≤ n) ∧ fr = mkF [(7, .slice (some ⟨h'.next, 0, none⟩) n n), (8, .int .i64 i)] ∧ hh.own h'.next = some (.cells (List.replicate i (.int .i64 (-1)) ++ List.replicate (n - i) (.int .i64 0))) ∧ Le h' hh) (n - m) [(7, .slice (some ⟨h'.next, 0, none⟩) n n), (8, .int .i64 m)] (by simp only [hasAll, kS1, bLookup, bMapSet, wantA, isCall, stepOp, evalO, evalL, evalP, evalM, putDst, flat, kA, kB, Nat.reduceLT, ↓reduceIte, kC, Nat.reduceEqDiff, aBuiltin, abinG, guardFree, abin, aInt, aUn, aNilCheck, retQ, retQ1, aresults, aresultL, aresult, mkF, undefV, reduceCtorEq, kD, kE, kF, kG, kH, kI, kJ, kK, aExtract, calleeOf]; simp) ⟨m, rfl, hm, rfl, ho2, hle2⟩ ?_
 rintro k fr hh - ⟨i, rfl, hi, rfl, ho, hle⟩
 simp only [kS1, bLookup, bMapSet, wantA, isCall, stepOp, evalO, evalL, evalP, evalM, putDst, flat, kA, kB, Nat.reduceLT, ↓reduceIte, kC, Nat.reduceEqDiff, aBuiltin, abinG, guardFree, abin, aInt, aUn, aNilCheck, retQ, retQ1, aresults, aresultL, aresult, mkF, undefV, reduceCtorEq, kD, kE, kF, kG, kH, kI, kJ, kK, aExtract, calleeOf, show aLen Try.prog hh 38 (.slice (some ⟨h'.next, 0, none⟩) n n) = some (.int .i64 n) from rfl]
 refine KCond.intro (fun ht => ?_) (fun hf => ?_)
 ·have hlt : i < n := lt_t ht
  simp only [kS1, bLookup, bMapSet, wantA, isCall, stepOp, evalO, evalL, evalP, evalM, putDst, flat, kA, kB, Nat.reduceLT, ↓reduceIte, kC, Nat.reduceEqDiff, aBuiltin, abinG, guardFree, abin, aInt, aUn, aNilCheck, retQ, retQ1, aresults, aresultL, aresult, mkF, undefV, reduceCtorEq, kD, kE, kF, kG, kH, kI, kJ, kK, aExtract, calleeOf]
  refine KDraw.intro mixed (.fl 0 (.fl 1 (.fl 2 (.fl 3 (.fl 4 (.fl 5 (.fl 6 (.ch 7 [3, 6] (.fl 8 (.ch 9 [0, 1, 2, 3, 4, 5, 6, 7, 8] (.done) .no)) .no)))))))) (by kernel_rfl) ?_
  have hunk : n < UNK := Nat.lt_of_le_of_lt hn (by decide)
  have s1 := aSlice_lo (P := Try.prog) (t := 38) (a := some ⟨h'.next, 0, none⟩) (n := n) (cap := n) (k := .i64) Try.underlying38 Try.underlying3 rfl i (by omega) (.inr hlt) (Nat.le_refl _) hunk
  have s2 := aSlice_hi (P := Try.prog) (t := 38) (a := ⟨h'.next, 0, none⟩) (n := n) (cap := n) (k := .i64) Try.underlying38 Try.underlying3 i (by omega) (Nat.le_refl _) hunk
  simp only [Option.map_some, aadd, Nat.zero_add] at s1
  have hsrc : CS 1 hh (.slice (some ⟨h'.next, 0, none⟩) i n) i (List.replicate i (.int .i64 (-1))) := by
   have := CS.own (k := 1) (off := 0) (n := i) (cap := n) ho (by simp)
   simpa using this
  have hcp := aCopy_own (P := Try.prog) (t := 38) (k := 1) (n := i) (off := i) (dl := n - i) (dc := n - i) (e := 3) Try.underlying38 Try.underlying3 rfl ho hsrc (all_rep rfl i) (min i (n - i)) rfl (by omega) (by simp; omega)
  simp only [kS1, bLookup, bMapSet, wantA, isCall, stepOp, evalO, evalL, evalP, evalM, putDst, flat, kA, kB, Nat.reduceLT, ↓reduceIte, kC, Nat.reduceEqDiff, aBuiltin, abinG, guardFree, abin, aInt, aUn, aNilCheck, retQ, retQ1, aresults, aresultL, aresult, mkF, undefV, reduceCtorEq, kD, kE, kF, kG, kH, kI, kJ, kK, aExtract, calleeOf, kD1, Nat.reduceBEq, HoldsAll, kL, kM, kN, kO, s1, s2, hcp, awrap_i64 ((i : Int) + ((min i (n - i) : Nat) : Int)) (by omega) (by omega)]
  refine loop_again (n - (i + min i (n - i))) [(7, .slice (some ⟨h'.next, 0, none⟩) n n), (8, .int .i64 (i + min i (n - i) : Nat))] (by omega) (by simp only [hasAll, kS1, bLookup, bMapSet, wantA, isCall, stepOp, evalO, evalL, evalP, evalM, putDst, flat, kA, kB, Nat.reduceLT, ↓reduceIte, kC, Nat.reduceEqDiff, aBuiltin, abinG, guardFree, abin, aInt, aUn, aNilCheck, retQ, retQ1, aresults, aresultL, aresult, mkF, undefV, reduceCtorEq, kD, kE, kF, kG, kH, kI, kJ, kK, aExtract, calleeOf]; simp) ⟨i + min i (n - i), rfl, by omega, rfl, ?_, hle.put _ hno⟩
  rw [AHeap.own_put_eq]
  rw [rep_grow _ _ i n _ rfl]
 ·have hge : n ≤ i := lt_f hf
  have : i = n := by omega
  subst this
  simp only [kS1, bLookup, bMapSet, wantA, isCall, stepOp, evalO, evalL, evalP, evalM, putDst, flat, kA, kB, Nat.reduceLT, ↓reduceIte, kC, Nat.reduceEqDiff, aBuiltin, abinG, guardFree, abin, aInt, aUn, aNilCheck, retQ, retQ1, aresults, aresultL, aresult, mkF, undefV, reduceCtorEq, kD, kE, kF, kG, kH, kI, kJ, kK, aExtract, calleeOf]
  exact ⟨_, rfl, Nat.le_refl _, by simpa using ho, hle⟩
end Go.Fw
