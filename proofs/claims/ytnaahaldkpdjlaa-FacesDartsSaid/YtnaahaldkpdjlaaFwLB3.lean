/- A text of the proof. -/
import Derived.Test.YtnaahaldkpdjlaaFwLB1
set_option linter.unusedSimpArgs false
set_option linter.unusedVariables false
namespace Go.Fw
open Go.Proofs
attribute [local irreducible] KO4 KO3 KO2 KO1 KO KN KX KE VK KCond KDraw KCall KLoop
set_option maxHeartbeats 4000000
set_option maxRecDepth 10000
def EdgeOK (G : GM) (i : Nat) : Prop := ∀ p, G.es[i]? = some p → (0 ≤ p.1 ∧ p.1 < p.2 ∧ p.2 < G.n) ∧ ∀ q, 0 < i → G.es[i - 1]? = some q → cmpP q p < 0
structure RightG (G : GM) : Prop where
 n0 : 0 ≤ G.n
 n1 : G.n ≤ 200
 len : G.es.length ≤ 594
 ok : ∀ i, i < G.es.length → EdgeOK G i
theorem Right_any (W0 : Base) (v : Value) (G : GM) (h : AHeap) (hg : GR h v G) : AC Try.prog W0 57 [v] h fun x h' => BoolIs (RightG G) x ∧ Le h h' := by
 obtain ⟨ev, rfl, hp⟩ := hg.ex
 refine AC.vc (fn := Try.f57) (c := _) ⟨Try.func57, rfl, by decide⟩ Try.ntmps57 Try.results57 (by simp) fun hwf => ?_
 simp only [argFrame, argFrom, Nat.reduceAdd]
 obtain ⟨h1, b1, le1, wf1, -, lA⟩ := boxG (n := G.n) hwf hp
 generalize h.next = B at *
 have ll := fun g => hp.len g
 have lA1 := lA h1 (Le.refl _)
 by_cases c0 : G.n < 0
 ·simp only [kS1, bLookup, bMapSet, wantA, isCall, stepOp, evalO, evalL, evalP, evalM, putDst, flat, kA, kB, Nat.reduceLT, ↓reduceIte, kC, Nat.reduceEqDiff, aBuiltin, abinG, guardFree, abin, aInt, aUn, aNilCheck, retQ, retQ1, aresults, aresultL, aresult, mkF, undefV, reduceCtorEq, kD, kE, kF, kG, kH, kI, kJ, kK, aExtract, calleeOf, b1, fg0, aadd, Nat.zero_add, lA1.2.1, c0]
  exact ⟨.f fun q => by have := q.n0; omega, le1⟩
 by_cases c1 : G.n > 200
 ·simp only [kS1, bLookup, bMapSet, wantA, isCall, stepOp, evalO, evalL, evalP, evalM, putDst, flat, kA, kB, Nat.reduceLT, ↓reduceIte, kC, Nat.reduceEqDiff, aBuiltin, abinG, guardFree, abin, aInt, aUn, aNilCheck, retQ, retQ1, aresults, aresultL, aresult, mkF, undefV, reduceCtorEq, kD, kE, kF, kG, kH, kI, kJ, kK, aExtract, calleeOf, b1, fg0, aadd, Nat.zero_add, lA1.2.1, c0, c1]
  exact ⟨.f fun q => by have := q.n1; omega, le1⟩
 by_cases c2 : (G.es.length : Int) > 594
 ·simp only [kS1, bLookup, bMapSet, wantA, isCall, stepOp, evalO, evalL, evalP, evalM, putDst, flat, kA, kB, Nat.reduceLT, ↓reduceIte, kC, Nat.reduceEqDiff, aBuiltin, abinG, guardFree, abin, aInt, aUn, aNilCheck, retQ, retQ1, aresults, aresultL, aresult, mkF, undefV, reduceCtorEq, kD, kE, kF, kG, kH, kI, kJ, kK, aExtract, calleeOf, b1, fg0, fg1, aadd, Nat.zero_add, lA1.2.1, lA1.2.2, ll, c0, c1, c2]
  exact ⟨.f fun q => by have := q.len; omega, le1⟩
 simp only [kS1, bLookup, bMapSet, wantA, isCall, stepOp, evalO, evalL, evalP, evalM, putDst, flat, kA, kB, Nat.reduceLT, ↓reduceIte, kC, Nat.reduceEqDiff, aBuiltin, abinG, guardFree, abin, aInt, aUn, aNilCheck, retQ, retQ1, aresults, aresultL, aresult, mkF, undefV, reduceCtorEq, kD, kE, kF, kG, kH, kI, kJ, kK, aExtract, calleeOf, b1, fg0, fg1, aadd, Nat.zero_add, lA1.2.1, lA1.2.2, ll, c0, c1, c2]
 refine KLoop.intro (fun k fr hh => ∃ i : Nat, k = G.es.length - i ∧ i ≤ G.es.length ∧ fr = mkF [(1, .pointer (some ⟨B, 0, none⟩)), (20, ev), (21, .int .i64 G.es.length), (22, .int .i64 i)] ∧ Le h1 hh ∧ ∀ j, j < i → EdgeOK G j)
  G.es.length [(1, .pointer (some ⟨B, 0, none⟩)), (20, ev), (21, .int .i64 G.es.length), (22, .int .i64 (0 : Nat))] (by simp only [hasAll, kS1, bLookup, bMapSet, wantA, isCall, stepOp, evalO, evalL, evalP, evalM, putDst, flat, kA, kB, Nat.reduceLT, ↓reduceIte, kC, Nat.reduceEqDiff, aBuiltin, abinG, guardFree, abin, aInt, aUn, aNilCheck, retQ, retQ1, aresults, aresultL, aresult, mkF, undefV, reduceCtorEq, kD, kE, kF, kG, kH, kI, kJ, kK, aExtract, calleeOf]; simp) ⟨0, rfl, Nat.zero_le _, rfl, Le.refl _, by omega⟩ ?_
 rintro k fr hh hwh ⟨i, rfl, hi, rfl, leh, hall⟩
 simp only [kS1, bLookup, bMapSet, wantA, isCall, stepOp, evalO, evalL, evalP, evalM, putDst, flat, kA, kB, Nat.reduceLT, ↓reduceIte, kC, Nat.reduceEqDiff, aBuiltin, abinG, guardFree, abin, aInt, aUn, aNilCheck, retQ, retQ1, aresults, aresultL, aresult, mkF, undefV, reduceCtorEq, kD, kE, kF, kG, kH, kI, kJ, kK, aExtract, calleeOf]
 refine KCond.intro (fun ht => ?_) (fun hf => ?_)
 rotate_left
 ·have hge : G.es.length ≤ i := lt_f hf
  simp only [kS1, bLookup, bMapSet, wantA, isCall, stepOp, evalO, evalL, evalP, evalM, putDst, flat, kA, kB, Nat.reduceLT, ↓reduceIte, kC, Nat.reduceEqDiff, aBuiltin, abinG, guardFree, abin, aInt, aUn, aNilCheck, retQ, retQ1, aresults, aresultL, aresult, mkF, undefV, reduceCtorEq, kD, kE, kF, kG, kH, kI, kJ, kK, aExtract, calleeOf]
  exact ⟨.t ⟨by omega, by omega, by omega, fun j hj => hall j (by omega)⟩, le1.trans leh⟩
 have hlt : i < G.es.length := lt_t ht
 clear ht
 have hpi := getElem?_of hlt
 generalize G.es[i] = p at hpi
 have hph := hp.le (le1.trans leh)
 have ad := hp.addr (k := .i64) i hlt
 have ld := hph.load hpi
 obtain ⟨h2, h3, e2, e3, le3, wf3, o3⟩ := new42 hwh p
 have L0 := own0 o3
 have L1 := own1 o3
 have LP := own42 o3
 have lA3 := lA h3 (leh.trans le3)
 have bad : ¬ EdgeOK G i → ¬ RightG G := fun hn q => hn (q.ok i hlt)
 have lef := (le1.trans leh).trans le3
 generalize hh.next = E at *
 by_cases d0 : p.1 < 0
 ·simp only [kS1, bLookup, bMapSet, wantA, isCall, stepOp, evalO, evalL, evalP, evalM, putDst, flat, kA, kB, Nat.reduceLT, ↓reduceIte, kC, Nat.reduceEqDiff, aBuiltin, abinG, guardFree, abin, aInt, aUn, aNilCheck, retQ, retQ1, aresults, aresultL, aresult, mkF, undefV, reduceCtorEq, kD, kE, kF, kG, kH, kI, kJ, kK, aExtract, calleeOf, ad, ld, e2, e3, pa0, pa1, aadd, Nat.zero_add, L0, L1, d0]
  exact ⟨.f (bad fun q => by have := (q p hpi).1.1; omega), lef⟩
 by_cases d1 : p.1 ≥ p.2
 ·simp only [kS1, bLookup, bMapSet, wantA, isCall, stepOp, evalO, evalL, evalP, evalM, putDst, flat, kA, kB, Nat.reduceLT, ↓reduceIte, kC, Nat.reduceEqDiff, aBuiltin, abinG, guardFree, abin, aInt, aUn, aNilCheck, retQ, retQ1, aresults, aresultL, aresult, mkF, undefV, reduceCtorEq, kD, kE, kF, kG, kH, kI, kJ, kK, aExtract, calleeOf, ad, ld, e2, e3, pa0, pa1, aadd, Nat.zero_add, L0, L1, d0, d1]
  exact ⟨.f (bad fun q => by have := (q p hpi).1.2.1; omega), lef⟩
 by_cases d2 : p.2 ≥ G.n
 ·simp only [kS1, bLookup, bMapSet, wantA, isCall, stepOp, evalO, evalL, evalP, evalM, putDst, flat, kA, kB, Nat.reduceLT, ↓reduceIte, kC, Nat.reduceEqDiff, aBuiltin, abinG, guardFree, abin, aInt, aUn, aNilCheck, retQ, retQ1, aresults, aresultL, aresult, mkF, undefV, reduceCtorEq, kD, kE, kF, kG, kH, kI, kJ, kK, aExtract, calleeOf, ad, ld, e2, e3, pa0, pa1, fg0, aadd, Nat.zero_add, L0, L1, lA3.2.1, d0, d1, d2]
  exact ⟨.f (bad fun q => by have := (q p hpi).1.2.2; omega), lef⟩
 simp only [kS1, bLookup, bMapSet, wantA, isCall, stepOp, evalO, evalL, evalP, evalM, putDst, flat, kA, kB, Nat.reduceLT, ↓reduceIte, kC, Nat.reduceEqDiff, aBuiltin, abinG, guardFree, abin, aInt, aUn, aNilCheck, retQ, retQ1, aresults, aresultL, aresult, mkF, undefV, reduceCtorEq, kD, kE, kF, kG, kH, kI, kJ, kK, aExtract, calleeOf, ad, ld, e2, e3, pa0, pa1, fg0, aadd, Nat.zero_add, L0, L1, lA3.2.1, d0, d1, d2]
 by_cases i0 : i = 0
 ·subst i0
  have z : ((0 : Int) < ((0 : Nat) : Int)) = False := eq_false (by omega)
  refine KDraw.intro mixed (.fl 0 (.fl 1 (.fl 2 (.fl 3 (.fl 4 (.fl 5 (.fl 6 (.fl 7 (.fl 8 (.fl 9 (.ch 10 [2, 8, 9] (.fl 11 (.fl 12 (.done))) .no))))))))))) (by kernel_rfl) ?_
  simp only [kS1, bLookup, bMapSet, wantA, isCall, stepOp, evalO, evalL, evalP, evalM, putDst, flat, kA, kB, Nat.reduceLT, ↓reduceIte, kC, Nat.reduceEqDiff, aBuiltin, abinG, guardFree, abin, aInt, aUn, aNilCheck, retQ, retQ1, aresults, aresultL, aresult, mkF, undefV, reduceCtorEq, kD, kE, kF, kG, kH, kI, kJ, kK, aExtract, calleeOf, kD1, Nat.reduceBEq, HoldsAll, kL, kM, kN, kO, gt_iff_lt, z, awrap_succ 0 (by omega)]
  refine loop_again (G.es.length - (0 + 1)) [(1, .pointer (some ⟨B, 0, none⟩)), (20, ev), (21, .int .i64 G.es.length), (22, .int .i64 (0 + 1 : Nat))] (by omega) (by simp only [hasAll, kS1, bLookup, bMapSet, wantA, isCall, stepOp, evalO, evalL, evalP, evalM, putDst, flat, kA, kB, Nat.reduceLT, ↓reduceIte, kC, Nat.reduceEqDiff, aBuiltin, abinG, guardFree, abin, aInt, aUn, aNilCheck, retQ, retQ1, aresults, aresultL, aresult, mkF, undefV, reduceCtorEq, kD, kE, kF, kG, kH, kI, kJ, kK, aExtract, calleeOf]; simp) ⟨0 + 1, rfl, hlt, rfl, leh.trans le3, fun j hj => ?_⟩
  have : j = 0 := by omega
  subst this
  intro p' hp'
  rw [hpi] at hp'; injection hp' with hp'; subst hp'
  exact ⟨⟨by omega, by omega, by omega⟩, fun q hq => absurd hq (by omega)⟩
 ·have z : ((0 : Int) < (i : Int)) = True := eq_true (by omega)
  have hqi := getElem?_of (show i - 1 < G.es.length by omega)
  generalize G.es[i - 1]'(by omega) = q at hqi
  have wsub : awrap .i64 ((i : Int) - 1) = ((i - 1 : Nat) : Int) := by rw [awrap_in _ (by omega) (by omega)]; omega
  have adq := hp.addr (k := .i64) (i - 1) (by omega)
  have ldq := (hph.le le3).load hqi
  refine KDraw.intro mixed (.fl 0 (.fl 1 (.fl 2 (.fl 3 (.fl 4 (.fl 5 (.fl 6 (.fl 7 (.fl 8 (.fl 9 (.ch 10 [2, 8, 9] (.fl 11 (.fl 12 (.done))) .no))))))))))) (by kernel_rfl) ?_
  simp only [kS1, bLookup, bMapSet, wantA, isCall, stepOp, evalO, evalL, evalP, evalM, putDst, flat, kA, kB, Nat.reduceLT, ↓reduceIte, kC, Nat.reduceEqDiff, aBuiltin, abinG, guardFree, abin, aInt, aUn, aNilCheck, retQ, retQ1, aresults, aresultL, aresult, mkF, undefV, reduceCtorEq, kD, kE, kF, kG, kH, kI, kJ, kK, aExtract, calleeOf, kD1, Nat.reduceBEq, HoldsAll, kL, kM, kN, kO, gt_iff_lt, z, wsub, fg1, aadd, Nat.zero_add, lA3.2.2, adq, ldq, LP]
  refine KGCall.intro (by simp only [kS1, bLookup, bMapSet, wantA, isCall, stepOp, evalO, evalL, evalP, evalM, putDst, flat, kA, kB, Nat.reduceLT, ↓reduceIte, kC, Nat.reduceEqDiff, aBuiltin, abinG, guardFree, abin, aInt, aUn, aNilCheck, retQ, retQ1, aresults, aresultL, aresult, mkF, undefV, reduceCtorEq, kD, kE, kF, kG, kH, kI, kJ, kK, aExtract, calleeOf] <;> rfl) ⟨Try.func85, rfl, by decide⟩ (compare_any W0 q p h3) ?_
  rintro x h4 wf4 ⟨rfl, le4⟩
  have lA4 := lA h4 ((leh.trans le3).trans le4)
  have ldq4 := ldq
  have LP4 := own42 (le4.own _ _ o3)
  have ldq4 := ((hph.le le3).le le4).load hqi
  by_cases d3 : cmpP q p ≥ 0
  ·simp only [kS1, bLookup, bMapSet, wantA, isCall, stepOp, evalO, evalL, evalP, evalM, putDst, flat, kA, kB, Nat.reduceLT, ↓reduceIte, kC, Nat.reduceEqDiff, aBuiltin, abinG, guardFree, abin, aInt, aUn, aNilCheck, retQ, retQ1, aresults, aresultL, aresult, mkF, undefV, reduceCtorEq, kD, kE, kF, kG, kH, kI, kJ, kK, aExtract, calleeOf, kD1, Nat.reduceBEq, HoldsAll, kL, kM, kN, kO, z, wsub, fg1, aadd, Nat.zero_add, lA4.2.2, adq, ldq4, LP4, d3]
   exact ⟨.f (bad fun k => by have := (k p hpi).2 q (by omega) hqi; omega), lef.trans le4⟩
  ·simp only [kS1, bLookup, bMapSet, wantA, isCall, stepOp, evalO, evalL, evalP, evalM, putDst, flat, kA, kB, Nat.reduceLT, ↓reduceIte, kC, Nat.reduceEqDiff, aBuiltin, abinG, guardFree, abin, aInt, aUn, aNilCheck, retQ, retQ1, aresults, aresultL, aresult, mkF, undefV, reduceCtorEq, kD, kE, kF, kG, kH, kI, kJ, kK, aExtract, calleeOf, kD1, Nat.reduceBEq, HoldsAll, kL, kM, kN, kO, z, wsub, fg1, aadd, Nat.zero_add, lA4.2.2, adq, ldq4, LP4, d3, awrap_succ i (by omega)]
   refine loop_again (G.es.length - (i + 1)) [(1, .pointer (some ⟨B, 0, none⟩)), (20, ev), (21, .int .i64 G.es.length), (22, .int .i64 (i + 1 : Nat))] (by omega) (by simp only [hasAll, kS1, bLookup, bMapSet, wantA, isCall, stepOp, evalO, evalL, evalP, evalM, putDst, flat, kA, kB, Nat.reduceLT, ↓reduceIte, kC, Nat.reduceEqDiff, aBuiltin, abinG, guardFree, abin, aInt, aUn, aNilCheck, retQ, retQ1, aresults, aresultL, aresult, mkF, undefV, reduceCtorEq, kD, kE, kF, kG, kH, kI, kJ, kK, aExtract, calleeOf]; simp) ⟨i + 1, rfl, hlt, rfl, (leh.trans le3).trans le4, fun j hj => ?_⟩
   by_cases e : j = i
   ·subst e
    intro p' hp'
    rw [hpi] at hp'; injection hp' with hp'; subst hp'
    refine ⟨⟨by omega, by omega, by omega⟩, fun q' _ hq' => ?_⟩
    rw [hqi] at hq'; injection hq' with hq'; subst hq'; omega
   ·exact hall j (by omega)
end Go.Fw
namespace Go.Fw
open Go.Proofs
attribute [local irreducible] KO4 KO3 KO2 KO1 KO KN KX KE VK KCond KDraw KCall KLoop
set_option maxHeartbeats 4000000
set_option maxRecDepth 10000
def Asc (es : List Pr) : Prop := ∀ (i j : Nat) p q, i < j → es[i]? = some p → es[j]? = some q → cmpP p q < 0
theorem RightG.asc {G : GM} (r : RightG G) : Asc G.es := by
 have step : ∀ (d i : Nat) p q, G.es[i]? = some p → G.es[i + (d + 1)]? = some q → cmpP p q < 0 := by
  intro d
  induction d with
  | zero =>
   intro i p q hp hq
   have hl := (List.getElem?_eq_some_iff.1 hq).1
   exact (r.ok (i + 1) hl q hq).2 p (by omega) (by simpa using hp)
  | succ d ih =>
   intro i p q hp hq
   have hl := (List.getElem?_eq_some_iff.1 hq).1
   have hm := getElem?_of (show i + (d + 1) < G.es.length by omega)
   have h1 := ih i p _ hp hm
   have h2 := (r.ok (i + (d + 1 + 1)) hl q hq).2 _ (by omega) (by rw [show i + (d + 1 + 1) - 1 = i + (d + 1) by omega]; exact hm)
   rw [cmpP_lt] at *
   omega
 intro i j p q hij hp hq
 have := step (j - i - 1) i p q hp (by rw [show i + (j - i - 1 + 1) = j by omega]; exact hq)
 exact this
theorem Asc.uniq {es : List Pr} (a : Asc es) {i j : Nat} {p : Pr} (hi : es[i]? = some p) (hj : es[j]? = some p) : i = j := by
 rcases Nat.lt_trichotomy i j with h | h | h
 ·have := a i j p p h hi hj
  have h0 := (cmpP_eq p p).2 rfl
  omega
 ·exact h
 ·have := a j i p p h hj hi
  have h0 := (cmpP_eq p p).2 rfl
  omega
theorem aw_u64 (n : Nat) (h : n < 18446744073709551616) : awrap .u64 (n : Int) = (n : Int) := by
 unfold awrap; simp; omega
theorem shr_u64 (n : Nat) (h : n < 18446744073709551616) : aShift .shr .u64 (n : Int) 1 = some (.int .u64 ((n / 2 : Nat) : Int)) := by
 have e : ((n : Int)).fdiv (2 ^ min 1 IntKind.u64.bits) = ((n / 2 : Nat) : Int) := by
  rw [show min 1 IntKind.u64.bits = 1 from rfl, Int.fdiv_eq_ediv_of_nonneg _ (by decide)]; simp
 simp [aShift, e]
theorem cv3u (h : AHeap) (x : Int) : aConvert Try.prog h 3 108 (.int .i64 x) = some (.int .u64 (awrap .u64 x), h) := by
 simp [aConvert, Try.underlying108, Try.underlying3]
theorem cvu3 (h : AHeap) (x : Int) : aConvert Try.prog h 108 3 (.int .u64 x) = some (.int .i64 (awrap .i64 x), h) := by
 simp [aConvert, Try.underlying108, Try.underlying3]
theorem Search_any (W0 : Base) (F : FuncId) (fn : Func) (c : Code) (hF : Good Try.prog F fn c) (hcmp : ∀ (p q : Pr) (h : AHeap), AC Try.prog W0 F [valP p, valP q] h fun v h' => v = .int .i64 (cmpP p q) ∧ Le h h')
  (v : Value) (es : List Pr) (p : Pr) (h : AHeap) (hv : PR h v es) (hn : es.length ≤ 1000) (ha : Asc es) :
  AC Try.prog W0 84 [v, valP p, .func (.func F) #[] #[]] h fun x h' => (∃ (i : Nat) (b : Bool), x = .tuple #[.int .i64 i, .bool b] ∧ (b = true → es[i]? = some p) ∧ (b = false → p ∉ es)) ∧ Le h h' := by
 refine AC.vc (fn := Try.f84) (c := _) ⟨Try.func84, rfl, by decide⟩ Try.ntmps84 Try.results84 (by simp) fun hwf => ?_
 simp only [argFrame, argFrom, Nat.reduceAdd]
 obtain ⟨h1, e1, l1, w1, o1⟩ := alloc_f hwf (cellsP p)
 have ll := fun g => hv.len g
 simp only [kS1, bLookup, bMapSet, wantA, isCall, stepOp, evalO, evalL, evalP, evalM, putDst, flat, kA, kB, Nat.reduceLT, ↓reduceIte, kC, Nat.reduceEqDiff, aBuiltin, abinG, guardFree, abin, aInt, aUn, aNilCheck, retQ, retQ1, aresults, aresultL, aresult, mkF, undefV, reduceCtorEq, kD, kE, kF, kG, kH, kI, kJ, kK, aExtract, calleeOf, box42, e1, ll]
 generalize h.next = B at *
 refine KLoop.intro (fun k fr hh => ∃ lo hi : Nat, k = hi - lo ∧ lo ≤ hi ∧ hi ≤ es.length ∧ fr = mkF [(0, v), (2, .func (.func F) #[] #[]), (4, .pointer (some ⟨B, 0, none⟩)), (8, .int .i64 es.length), (9, .int .i64 lo), (10, .int .i64 hi)] ∧ Le h1 hh ∧
   (∀ (k : Nat) q, k < lo → es[k]? = some q → cmpP q p < 0) ∧ ∀ (k : Nat) q, hi ≤ k → es[k]? = some q → ¬ cmpP q p < 0)
  es.length [(0, v), (2, .func (.func F) #[] #[]), (4, .pointer (some ⟨B, 0, none⟩)), (8, .int .i64 es.length), (9, .int .i64 (0 : Nat)), (10, .int .i64 es.length)] (by simp only [hasAll, kS1, bLookup, bMapSet, wantA, isCall, stepOp, evalO, evalL, evalP, evalM, putDst, flat, kA, kB, Nat.reduceLT, ↓reduceIte, kC, Nat.reduceEqDiff, aBuiltin, abinG, guardFree, abin, aInt, aUn, aNilCheck, retQ, retQ1, aresults, aresultL, aresult, mkF, undefV, reduceCtorEq, kD, kE, kF, kG, kH, kI, kJ, kK, aExtract, calleeOf]; simp)
  ⟨0, es.length, rfl, Nat.zero_le _, Nat.le_refl _, rfl, Le.refl _, by omega, fun k q hk hq => by have := (List.getElem?_eq_some_iff.1 hq).1; omega⟩ ?_
 rintro k fr hh hwh ⟨lo, hi, rfl, hlh, hhi, rfl, leh, hlo, hup⟩
 have LP := own42 (leh.own _ _ o1)
 have hvh := hv.le (l1.trans leh)
 simp only [kS1, bLookup, bMapSet, wantA, isCall, stepOp, evalO, evalL, evalP, evalM, putDst, flat, kA, kB, Nat.reduceLT, ↓reduceIte, kC, Nat.reduceEqDiff, aBuiltin, abinG, guardFree, abin, aInt, aUn, aNilCheck, retQ, retQ1, aresults, aresultL, aresult, mkF, undefV, reduceCtorEq, kD, kE, kF, kG, kH, kI, kJ, kK, aExtract, calleeOf]
 refine KCond.intro (fun ht => ?_) (fun hf => ?_)
 ·have hlt : lo < hi := lt_t ht
  clear ht
  have a1 : awrap .i64 ((lo : Int) + (hi : Int)) = ((lo + hi : Nat) : Int) := by rw [awrap_in _ (by omega) (by omega)]; omega
  have a2 := aw_u64 (lo + hi) (by omega)
  have a3 := shr_u64 (lo + hi) (by omega)
  have a4 : awrap .i64 (((lo + hi) / 2 : Nat) : Int) = (((lo + hi) / 2 : Nat) : Int) := awrap_in _ (by omega) (by omega)
  have hm : (lo + hi) / 2 < hi := by omega
  have hml : lo ≤ (lo + hi) / 2 := by omega
  simp only [kS1, bLookup, bMapSet, wantA, isCall, stepOp, evalO, evalL, evalP, evalM, putDst, flat, kA, kB, Nat.reduceLT, ↓reduceIte, kC, Nat.reduceEqDiff, aBuiltin, abinG, guardFree, abin, aInt, aUn, aNilCheck, retQ, retQ1, aresults, aresultL, aresult, mkF, undefV, reduceCtorEq, kD, kE, kF, kG, kH, kI, kJ, kK, aExtract, calleeOf, a1, cv3u, a2, a3, cvu3, a4]
  generalize (lo + hi) / 2 = m at *
  have hq := getElem?_of (show m < es.length by omega)
  generalize es[m]'(by omega) = q at hq
  have ad := hv.addr (k := .i64) m (by omega)
  have ld := hvh.load hq
  refine KDraw.intro mixed (.fl 0 (.fl 1 (.fl 2 (.fl 3 (.fl 4 (.fl 5 (.ch 6 [0, 4, 5] (.fl 7 (.done)) .no))))))) (by kernel_rfl) ?_
  simp only [kS1, bLookup, bMapSet, wantA, isCall, stepOp, evalO, evalL, evalP, evalM, putDst, flat, kA, kB, Nat.reduceLT, ↓reduceIte, kC, Nat.reduceEqDiff, aBuiltin, abinG, guardFree, abin, aInt, aUn, aNilCheck, retQ, retQ1, aresults, aresultL, aresult, mkF, undefV, reduceCtorEq, kD, kE, kF, kG, kH, kI, kJ, kK, aExtract, calleeOf, kD1, Nat.reduceBEq, HoldsAll, kL, kM, kN, kO, ad, ld, LP]
  refine KGCall.intro (by simp only [kS1, bLookup, bMapSet, wantA, isCall, stepOp, evalO, evalL, evalP, evalM, putDst, flat, kA, kB, Nat.reduceLT, ↓reduceIte, kC, Nat.reduceEqDiff, aBuiltin, abinG, guardFree, abin, aInt, aUn, aNilCheck, retQ, retQ1, aresults, aresultL, aresult, mkF, undefV, reduceCtorEq, kD, kE, kF, kG, kH, kI, kJ, kK, aExtract, calleeOf] <;> rfl) hF (hcmp q p hh) ?_
  rintro x h3 w3 ⟨rfl, l3⟩
  have LP3 := own42 ((leh.trans l3).own _ _ o1)
  have ld3 := (hvh.le l3).load hq
  by_cases c0 : cmpP q p < 0
  ·simp only [kS1, bLookup, bMapSet, wantA, isCall, stepOp, evalO, evalL, evalP, evalM, putDst, flat, kA, kB, Nat.reduceLT, ↓reduceIte, kC, Nat.reduceEqDiff, aBuiltin, abinG, guardFree, abin, aInt, aUn, aNilCheck, retQ, retQ1, aresults, aresultL, aresult, mkF, undefV, reduceCtorEq, kD, kE, kF, kG, kH, kI, kJ, kK, aExtract, calleeOf, kD1, Nat.reduceBEq, HoldsAll, kL, kM, kN, kO, ad, ld3, LP3, c0, awrap_succ m (by omega)]
   refine loop_again (hi - (m + 1)) [(0, v), (2, .func (.func F) #[] #[]), (4, .pointer (some ⟨B, 0, none⟩)), (8, .int .i64 es.length), (9, .int .i64 (m + 1 : Nat)), (10, .int .i64 hi)] (by omega) (by simp only [hasAll, kS1, bLookup, bMapSet, wantA, isCall, stepOp, evalO, evalL, evalP, evalM, putDst, flat, kA, kB, Nat.reduceLT, ↓reduceIte, kC, Nat.reduceEqDiff, aBuiltin, abinG, guardFree, abin, aInt, aUn, aNilCheck, retQ, retQ1, aresults, aresultL, aresult, mkF, undefV, reduceCtorEq, kD, kE, kF, kG, kH, kI, kJ, kK, aExtract, calleeOf]; simp) ⟨m + 1, hi, rfl, hm, hhi, rfl, leh.trans l3, fun k q' hk hq' => ?_, hup⟩
   by_cases e : k = m
   ·subst e; rw [hq] at hq'; injection hq' with hq'; subst hq'; exact c0
   ·have := ha k m q' q (by omega) hq' hq
    rw [cmpP_lt] at *; omega
  ·simp only [kS1, bLookup, bMapSet, wantA, isCall, stepOp, evalO, evalL, evalP, evalM, putDst, flat, kA, kB, Nat.reduceLT, ↓reduceIte, kC, Nat.reduceEqDiff, aBuiltin, abinG, guardFree, abin, aInt, aUn, aNilCheck, retQ, retQ1, aresults, aresultL, aresult, mkF, undefV, reduceCtorEq, kD, kE, kF, kG, kH, kI, kJ, kK, aExtract, calleeOf, kD1, Nat.reduceBEq, HoldsAll, kL, kM, kN, kO, ad, ld3, LP3, c0]
   refine loop_again (m - lo) [(0, v), (2, .func (.func F) #[] #[]), (4, .pointer (some ⟨B, 0, none⟩)), (8, .int .i64 es.length), (9, .int .i64 lo), (10, .int .i64 m)] (by omega) (by simp only [hasAll, kS1, bLookup, bMapSet, wantA, isCall, stepOp, evalO, evalL, evalP, evalM, putDst, flat, kA, kB, Nat.reduceLT, ↓reduceIte, kC, Nat.reduceEqDiff, aBuiltin, abinG, guardFree, abin, aInt, aUn, aNilCheck, retQ, retQ1, aresults, aresultL, aresult, mkF, undefV, reduceCtorEq, kD, kE, kF, kG, kH, kI, kJ, kK, aExtract, calleeOf]; simp) ⟨lo, m, rfl, hml, by omega, rfl, leh.trans l3, hlo, fun k q' hk hq' => ?_⟩
   by_cases e : k = m
   ·subst e; rw [hq] at hq'; injection hq' with hq'; subst hq'; exact c0
   ·have := ha m k q q' (by omega) hq hq'
    rw [cmpP_lt] at *; omega
 have hge : hi ≤ lo := lt_f hf
 obtain rfl : lo = hi := by omega
 clear hf
 by_cases c1 : lo < es.length
 ·have z : ((lo : Int) < (es.length : Int)) = True := eq_true (by omega)
  have hq := getElem?_of c1
  generalize es[lo] = q at hq
  have ad := hv.addr (k := .i64) lo c1
  have ld := hvh.load hq
  simp only [kS1, bLookup, bMapSet, wantA, isCall, stepOp, evalO, evalL, evalP, evalM, putDst, flat, kA, kB, Nat.reduceLT, ↓reduceIte, kC, Nat.reduceEqDiff, aBuiltin, abinG, guardFree, abin, aInt, aUn, aNilCheck, retQ, retQ1, aresults, aresultL, aresult, mkF, undefV, reduceCtorEq, kD, kE, kF, kG, kH, kI, kJ, kK, aExtract, calleeOf]
  refine KDraw.intro mixed (.fl 0 (.fl 1 (.fl 2 (.fl 3 (.fl 4 (.fl 5 (.fl 6 (.fl 7 (.fl 8 (.fl 9 (.fl 10 (.ch 11 [4, 5, 9, 10] (.fl 12 (.fl 13 (.fl 14 (.fl 15 (.done))))) .no)))))))))))) (by kernel_rfl) ?_
  simp only [kS1, bLookup, bMapSet, wantA, isCall, stepOp, evalO, evalL, evalP, evalM, putDst, flat, kA, kB, Nat.reduceLT, ↓reduceIte, kC, Nat.reduceEqDiff, aBuiltin, abinG, guardFree, abin, aInt, aUn, aNilCheck, retQ, retQ1, aresults, aresultL, aresult, mkF, undefV, reduceCtorEq, kD, kE, kF, kG, kH, kI, kJ, kK, aExtract, calleeOf, kD1, Nat.reduceBEq, HoldsAll, kL, kM, kN, kO, z, ad, ld, LP]
  refine KGCall.intro (by simp only [kS1, bLookup, bMapSet, wantA, isCall, stepOp, evalO, evalL, evalP, evalM, putDst, flat, kA, kB, Nat.reduceLT, ↓reduceIte, kC, Nat.reduceEqDiff, aBuiltin, abinG, guardFree, abin, aInt, aUn, aNilCheck, retQ, retQ1, aresults, aresultL, aresult, mkF, undefV, reduceCtorEq, kD, kE, kF, kG, kH, kI, kJ, kK, aExtract, calleeOf] <;> rfl) hF (hcmp q p hh) ?_
  rintro x h3 w3 ⟨rfl, l3⟩
  have LP3 := own42 ((leh.trans l3).own _ _ o1)
  have ld3 := (hvh.le l3).load hq
  simp only [kS1, bLookup, bMapSet, wantA, isCall, stepOp, evalO, evalL, evalP, evalM, putDst, flat, kA, kB, Nat.reduceLT, ↓reduceIte, kC, Nat.reduceEqDiff, aBuiltin, abinG, guardFree, abin, aInt, aUn, aNilCheck, retQ, retQ1, aresults, aresultL, aresult, mkF, undefV, reduceCtorEq, kD, kE, kF, kG, kH, kI, kJ, kK, aExtract, calleeOf, kD1, Nat.reduceBEq, HoldsAll, kL, kM, kN, kO, z, ad, ld3, LP3]
  refine ⟨⟨lo, decide (cmpP q p = 0), rfl, fun e => ?_, fun e => ?_⟩, (l1.trans leh).trans l3⟩
  ·have := (cmpP_eq q p).1 (of_decide_eq_true e); subst this; exact hq
  ·have hne := of_decide_eq_false e
   intro hm
   obtain ⟨k, hk⟩ := List.mem_iff_getElem?.1 hm
   have h0 := (cmpP_eq p p).2 rfl
   rcases Nat.lt_trichotomy k lo with h | h | h
   ·have := hlo k p h hk; omega
   ·subst h; rw [hq] at hk; injection hk with hk; subst hk; omega
   ·have := ha lo k q p h hq hk
    exact hup lo q (Nat.le_refl _) hq this
 ·have z : ((lo : Int) < (es.length : Int)) = False := eq_false (by omega)
  simp only [kS1, bLookup, bMapSet, wantA, isCall, stepOp, evalO, evalL, evalP, evalM, putDst, flat, kA, kB, Nat.reduceLT, ↓reduceIte, kC, Nat.reduceEqDiff, aBuiltin, abinG, guardFree, abin, aInt, aUn, aNilCheck, retQ, retQ1, aresults, aresultL, aresult, mkF, undefV, reduceCtorEq, kD, kE, kF, kG, kH, kI, kJ, kK, aExtract, calleeOf]
  refine KDraw.intro mixed (.fl 0 (.fl 1 (.fl 2 (.fl 3 (.fl 4 (.fl 5 (.fl 6 (.fl 7 (.fl 8 (.fl 9 (.fl 10 (.ch 11 [4, 5, 9, 10] (.fl 12 (.fl 13 (.fl 14 (.fl 15 (.done))))) .no)))))))))))) (by kernel_rfl) ?_
  simp only [kS1, bLookup, bMapSet, wantA, isCall, stepOp, evalO, evalL, evalP, evalM, putDst, flat, kA, kB, Nat.reduceLT, ↓reduceIte, kC, Nat.reduceEqDiff, aBuiltin, abinG, guardFree, abin, aInt, aUn, aNilCheck, retQ, retQ1, aresults, aresultL, aresult, mkF, undefV, reduceCtorEq, kD, kE, kF, kG, kH, kI, kJ, kK, aExtract, calleeOf, kD1, Nat.reduceBEq, HoldsAll, kL, kM, kN, kO, z]
  refine ⟨⟨lo, false, rfl, (by simp), fun _ hm => ?_⟩, l1.trans leh⟩
  obtain ⟨k, hk⟩ := List.mem_iff_getElem?.1 hm
  have h0 := (cmpP_eq p p).2 rfl
  have hkl := (List.getElem?_eq_some_iff.1 hk).1
  have := hlo k p (by omega) hk
  omega
theorem Asc.nodup {l : List Pr} (a : Asc l) : l.Nodup := by
 rw [List.nodup_iff_pairwise_ne, List.pairwise_iff_getElem]
 intro i j hi hj hij e
 have := a i j _ _ hij (getElem?_of hi) (getElem?_of hj)
 have := (cmpP_eq l[i] l[j]).2 e
 omega
end Go.Fw
