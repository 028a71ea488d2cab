/- One of the texts of the layer and the walks: it proves what its theorems say of the functions of the seat, with no condition beyond theirs. -/
import Derived.Test.YtmgcmoifdnkaoaaFwLZ1
import Derived.Test.YtmgcmoifdnkaoaaFwLB1
import Derived.Test.YtmgcmoifdnkaoaaFwLP1
import Derived.Test.YtmgcmoifdnkaoaaFwLY1
import Derived.Test.YtmgcmoifdnkaoaaFwLB12
set_option linter.unusedSimpArgs false
set_option linter.unusedVariables false
namespace Go.Fw
open Go.Proofs
attribute [local irreducible] KO4 KO3 KO2 KO1 KO KN KX KE VK KCond KDraw KCall KLoop
set_option maxHeartbeats 16000000
set_option maxRecDepth 10000
def mtB (p : Pr) (a b : Int) : Bool := (decide (p.1 = a) && decide (p.2 = b)) || (decide (p.1 = b) && decide (p.2 = a))
theorem mtB_iff (p : Pr) (a b : Int) : mtB p a b = true ↔ p = (a, b) ∨ p = (b, a) := by
  have e : ∀ x y : Int, p = (x, y) ↔ p.1 = x ∧ p.2 = y := fun x y => Prod.ext_iff
  simp [mtB, e]
theorem RHas_any (W0 : Base) (v : Value) (n a b : Nat) (es : List Pr) (h : AHeap) (hg : GR h v ⟨(n : Int), es⟩) (hr : RightG ⟨(n : Int), es⟩) : AC Try.prog W0 59 [v, .int .i64 (a : Int), .int .i64 (b : Int)] h fun x h' => x = .bool (decide (adj es a b)) ∧ Le h h' := by
  have hg0 := hg
  obtain ⟨ev, rfl, hp⟩ := hg.open
  have h594 : es.length ≤ 594 := hr.len
  refine AC.vc (fn := Try.f59) (c := _) ⟨Try.func59, rfl, by decide⟩ Try.ntmps59 Try.results59 (by simp) fun hwf => ?_
  simp only [argFrame, argFrom, Nat.reduceAdd]
  obtain ⟨h1, b1, le1, wf1, -, lA⟩ := boxG (n := (n : Int)) hwf hp
  generalize h.next = B at *
  simp only [kS1, bLookup, bMapSet, wantA, isCall, stepOp, evalO, evalL, evalP, evalM, putDst, flat, kA, kB, Nat.reduceLT, ↓reduceIte, kC, Nat.reduceEqDiff, aBuiltin, abinG, guardFree, abin, aInt, aUn, aNilCheck, retQ, retQ1, aresults, aresultL, aresult, mkF, undefV, reduceCtorEq, kD, kE, kF, kG, kH, kI, kJ, kK, aExtract, calleeOf, b1]
  refine KLoop.intro (fun k fr hq => ∃ j : Nat, k = es.length - j ∧ j ≤ es.length ∧ fr = mkF [(1, .int .i64 (a : Int)), (2, .int .i64 (b : Int)), (3, .pointer (some ⟨B, 0, none⟩)), (7, .int .i64 j)] ∧ Le h1 hq ∧ ∀ p ∈ es.take j, mtB p a b = false)
    es.length [(1, .int .i64 (a : Int)), (2, .int .i64 (b : Int)), (3, .pointer (some ⟨B, 0, none⟩)), (7, .int .i64 (0 : Nat))] (by simp only [hasAll, kS1, bLookup, bMapSet, wantA, isCall, stepOp, evalO, evalL, evalP, evalM, putDst, flat, kA, kB, Nat.reduceLT, ↓reduceIte, kC, Nat.reduceEqDiff, aBuiltin, abinG, guardFree, abin, aInt, aUn, aNilCheck, retQ, retQ1, aresults, aresultL, aresult, mkF, undefV, reduceCtorEq, kD, kE, kF, kG, kH, kI, kJ, kK, aExtract, calleeOf]; simp) ⟨0, rfl, Nat.zero_le _, rfl, Le.refl _, by simp⟩ ?_
  rintro k fr hq hwq ⟨j, rfl, hj, rfl, leq, hno⟩
  have lAq := lA hq leq
  have hlen := fun g => hp.len g
  simp only [kS1, bLookup, bMapSet, wantA, isCall, stepOp, evalO, evalL, evalP, evalM, putDst, flat, kA, kB, Nat.reduceLT, ↓reduceIte, kC, Nat.reduceEqDiff, aBuiltin, abinG, guardFree, abin, aInt, aUn, aNilCheck, retQ, retQ1, aresults, aresultL, aresult, mkF, undefV, reduceCtorEq, kD, kE, kF, kG, kH, kI, kJ, kK, aExtract, calleeOf, fg1, aadd, Nat.zero_add, lAq.2.2, hlen]
  refine KCond.intro (fun ht => ?_) (fun hf => ?_)
  · have hlt : j < es.length := lt_t ht
    clear ht
    have hpj := getElem?_of hlt
    have htk : es.take (j + 1) = es.take j ++ [es[j]] := List.take_succ_eq_append_getElem hlt
    generalize es[j] = p at hpj htk
    have ad := hp.addr (k := .i64) j hlt
    have ld := (hp.le (le1.trans leq)).load hpj
    obtain ⟨h4', h4, e4, e4s, le4, wf4, o4⟩ := new42 hwq p
    generalize hq.next = E at *
    have ma := own0 o4
    have mb := own1 o4
    have lA4 := lA h4 (leq.trans le4)
    have leq4 := leq.trans le4
    cases d1 : decide (p.1 = (a : Int)) <;> cases d2 : decide (p.2 = (b : Int)) <;> cases d3 : decide (p.1 = (b : Int)) <;> cases d4 : decide (p.2 = (a : Int))
    all_goals
      simp only [kS1, bLookup, bMapSet, wantA, isCall, stepOp, evalO, evalL, evalP, evalM, putDst, flat, kA, kB, Nat.reduceLT, ↓reduceIte, kC, Nat.reduceEqDiff, aBuiltin, abinG, guardFree, abin, aInt, aUn, aNilCheck, retQ, retQ1, aresults, aresultL, aresult, mkF, undefV, reduceCtorEq, kD, kE, kF, kG, kH, kI, kJ, kK, aExtract, calleeOf, fg1, aadd, Nat.zero_add, lAq.2.2, ad, ld, e4, e4s, pa0, pa1, ma, mb, d1, d2, d3, d4, awrap_succ j (by omega)]
      first
        | have hm : mtB p a b = false := by simp only [mtB, d1, d2, d3, d4]; rfl
          exact loop_again (es.length - (j + 1)) [(1, .int .i64 (a : Int)), (2, .int .i64 (b : Int)), (3, .pointer (some ⟨B, 0, none⟩)), (7, .int .i64 (j + 1 : Nat))] (by omega) (by simp only [hasAll, kS1, bLookup, bMapSet, wantA, isCall, stepOp, evalO, evalL, evalP, evalM, putDst, flat, kA, kB, Nat.reduceLT, ↓reduceIte, kC, Nat.reduceEqDiff, aBuiltin, abinG, guardFree, abin, aInt, aUn, aNilCheck, retQ, retQ1, aresults, aresultL, aresult, mkF, undefV, reduceCtorEq, kD, kE, kF, kG, kH, kI, kJ, kK, aExtract, calleeOf]; simp) ⟨j + 1, rfl, hlt, rfl, leq4, fun q hq => by
            rw [htk, List.mem_append, List.mem_singleton] at hq
            rcases hq with hq | rfl
            · exact hno q hq
            · exact hm⟩
        | have hm : mtB p a b = true := by simp only [mtB, d1, d2, d3, d4]; rfl
          simp only [kS1, bLookup, bMapSet, wantA, isCall, stepOp, evalO, evalL, evalP, evalM, putDst, flat, kA, kB, Nat.reduceLT, ↓reduceIte, kC, Nat.reduceEqDiff, aBuiltin, abinG, guardFree, abin, aInt, aUn, aNilCheck, retQ, retQ1, aresults, aresultL, aresult, mkF, undefV, reduceCtorEq, kD, kE, kF, kG, kH, kI, kJ, kK, aExtract, calleeOf, lA4.1]
          refine KCall.intro (by simp only [kS1, bLookup, bMapSet, wantA, isCall, stepOp, evalO, evalL, evalP, evalM, putDst, flat, kA, kB, Nat.reduceLT, ↓reduceIte, kC, Nat.reduceEqDiff, aBuiltin, abinG, guardFree, abin, aInt, aUn, aNilCheck, retQ, retQ1, aresults, aresultL, aresult, mkF, undefV, reduceCtorEq, kD, kE, kF, kG, kH, kI, kJ, kK, aExtract, calleeOf] <;> rfl) ⟨Try.func56, rfl, by decide⟩ (RefRight_any W0 (.agg #[.int .i64 (n : Int), ev]) ⟨(n : Int), es⟩ h4 (hg0.le (le1.trans leq4))) ?_
          rintro x h5 w5 ⟨⟨bb, rfl, hbb⟩, l5⟩
          obtain rfl : bb = true := hbb.2 hr
          simp only [kS1, bLookup, bMapSet, wantA, isCall, stepOp, evalO, evalL, evalP, evalM, putDst, flat, kA, kB, Nat.reduceLT, ↓reduceIte, kC, Nat.reduceEqDiff, aBuiltin, abinG, guardFree, abin, aInt, aUn, aNilCheck, retQ, retQ1, aresults, aresultL, aresult, mkF, undefV, reduceCtorEq, kD, kE, kF, kG, kH, kI, kJ, kK, aExtract, calleeOf]
          have hadj : adj es a b := by
            rcases (mtB_iff p a b).1 hm with e | e
            · exact .inl (e ▸ List.mem_of_getElem? hpj)
            · exact .inr (e ▸ List.mem_of_getElem? hpj)
          exact ⟨by rw [decide_eq_true hadj], (le1.trans leq4).trans l5⟩
  · have hge : es.length ≤ j := lt_f hf
    rw [List.take_of_length_le hge] at hno
    simp only [kS1, bLookup, bMapSet, wantA, isCall, stepOp, evalO, evalL, evalP, evalM, putDst, flat, kA, kB, Nat.reduceLT, ↓reduceIte, kC, Nat.reduceEqDiff, aBuiltin, abinG, guardFree, abin, aInt, aUn, aNilCheck, retQ, retQ1, aresults, aresultL, aresult, mkF, undefV, reduceCtorEq, kD, kE, kF, kG, kH, kI, kJ, kK, aExtract, calleeOf]
    refine ⟨?_, le1.trans leq⟩
    rw [decide_eq_false]
    rintro (h | h)
    · have := hno _ h; rw [(mtB_iff _ _ _).2 (.inl rfl)] at this; cases this
    · have := hno _ h; rw [(mtB_iff _ _ _).2 (.inr rfl)] at this; cases this
theorem Rhas_any (W0 : Base) (v : Value) (xs : List Int) (x : Int) (h : AHeap) (hv : RL isI h v xs) (hn : xs.length ≤ 100000) : AC Try.prog W0 92 [v, .int .i64 x] h fun r h' => r = .bool (decide (x ∈ xs)) ∧ h' = h := by
  refine AC.vc (fn := Try.f92) (c := _) ⟨Try.func92, rfl, by decide⟩ Try.ntmps92 Try.results92 (by simp) fun hwf => ?_
  simp only [argFrame, argFrom, Nat.reduceAdd]
  have lv := fun g => hv.len (P := Try.prog) Try.underlying35 g
  simp only [kS1, bLookup, bMapSet, wantA, isCall, stepOp, evalO, evalL, evalP, evalM, putDst, flat, kA, kB, Nat.reduceLT, ↓reduceIte, kC, Nat.reduceEqDiff, aBuiltin, abinG, guardFree, abin, aInt, aUn, aNilCheck, retQ, retQ1, aresults, aresultL, aresult, mkF, undefV, reduceCtorEq, kD, kE, kF, kG, kH, kI, kJ, kK, aExtract, calleeOf]
  refine KLoop.intro (fun k fr hq => ∃ j : Nat, k = xs.length - j ∧ j ≤ xs.length ∧ fr = mkF [(0, v), (1, .int .i64 x), (5, .int .i64 j)] ∧ hq = h ∧ x ∉ xs.take j)
    xs.length [(0, v), (1, .int .i64 x), (5, .int .i64 (0 : Nat))] (by simp only [hasAll, kS1, bLookup, bMapSet, wantA, isCall, stepOp, evalO, evalL, evalP, evalM, putDst, flat, kA, kB, Nat.reduceLT, ↓reduceIte, kC, Nat.reduceEqDiff, aBuiltin, abinG, guardFree, abin, aInt, aUn, aNilCheck, retQ, retQ1, aresults, aresultL, aresult, mkF, undefV, reduceCtorEq, kD, kE, kF, kG, kH, kI, kJ, kK, aExtract, calleeOf]; simp) ⟨0, rfl, Nat.zero_le _, rfl, rfl, by simp⟩ ?_
  rintro k fr hq hwq ⟨j, rfl, hj, rfl, rfl, hno⟩
  simp only [kS1, bLookup, bMapSet, wantA, isCall, stepOp, evalO, evalL, evalP, evalM, putDst, flat, kA, kB, Nat.reduceLT, ↓reduceIte, kC, Nat.reduceEqDiff, aBuiltin, abinG, guardFree, abin, aInt, aUn, aNilCheck, retQ, retQ1, aresults, aresultL, aresult, mkF, undefV, reduceCtorEq, kD, kE, kF, kG, kH, kI, kJ, kK, aExtract, calleeOf, lv]
  refine KCond.intro (fun ht => ?_) (fun hf => ?_)
  · have hlt : j < xs.length := lt_t ht
    clear ht
    have htk : xs.take (j + 1) = xs.take j ++ [xs[j]] := List.take_succ_eq_append_getElem hlt
    have ad := hv.addr (P := Try.prog) Try.underlying35 Try.underlying3 (by kernel_rfl) (k := .i64) j hlt
    have ld := hv.loadI (P := Try.prog) Try.underlying3 rfl j hlt
    have hm := List.getElem_mem hlt
    generalize xs[j] = y at htk ld hm
    by_cases c : y = x
    · have d : decide (y = x) = true := decide_eq_true c
      simp only [kS1, bLookup, bMapSet, wantA, isCall, stepOp, evalO, evalL, evalP, evalM, putDst, flat, kA, kB, Nat.reduceLT, ↓reduceIte, kC, Nat.reduceEqDiff, aBuiltin, abinG, guardFree, abin, aInt, aUn, aNilCheck, retQ, retQ1, aresults, aresultL, aresult, mkF, undefV, reduceCtorEq, kD, kE, kF, kG, kH, kI, kJ, kK, aExtract, calleeOf, ad, ld, d]
      exact ⟨by rw [decide_eq_true (c ▸ hm)], trivial⟩
    · have d : decide (y = x) = false := decide_eq_false c
      simp only [kS1, bLookup, bMapSet, wantA, isCall, stepOp, evalO, evalL, evalP, evalM, putDst, flat, kA, kB, Nat.reduceLT, ↓reduceIte, kC, Nat.reduceEqDiff, aBuiltin, abinG, guardFree, abin, aInt, aUn, aNilCheck, retQ, retQ1, aresults, aresultL, aresult, mkF, undefV, reduceCtorEq, kD, kE, kF, kG, kH, kI, kJ, kK, aExtract, calleeOf, ad, ld, d, awrap_succ j (by omega)]
      exact loop_again (xs.length - (j + 1)) [(0, v), (1, .int .i64 x), (5, .int .i64 (j + 1 : Nat))] (by omega) (by simp only [hasAll, kS1, bLookup, bMapSet, wantA, isCall, stepOp, evalO, evalL, evalP, evalM, putDst, flat, kA, kB, Nat.reduceLT, ↓reduceIte, kC, Nat.reduceEqDiff, aBuiltin, abinG, guardFree, abin, aInt, aUn, aNilCheck, retQ, retQ1, aresults, aresultL, aresult, mkF, undefV, reduceCtorEq, kD, kE, kF, kG, kH, kI, kJ, kK, aExtract, calleeOf]; simp) ⟨j + 1, rfl, hlt, rfl, rfl, by
        rw [htk, List.mem_append, List.mem_singleton]
        rintro (h | h)
        · exact hno h
        · exact c h.symm⟩
  · have hge : xs.length ≤ j := lt_f hf
    rw [List.take_of_length_le hge] at hno
    simp only [kS1, bLookup, bMapSet, wantA, isCall, stepOp, evalO, evalL, evalP, evalM, putDst, flat, kA, kB, Nat.reduceLT, ↓reduceIte, kC, Nat.reduceEqDiff, aBuiltin, abinG, guardFree, abin, aInt, aUn, aNilCheck, retQ, retQ1, aresults, aresultL, aresult, mkF, undefV, reduceCtorEq, kD, kE, kF, kG, kH, kI, kJ, kK, aExtract, calleeOf]
    exact ⟨by rw [decide_eq_false hno], trivial⟩
def nxtI (o : Option Nat) : Int := match o with | some w => (w : Int) | none => -1
theorem Rnext_any (W0 : Base) (v mv : Value) (n u : Nat) (es : List Pr) (o : List Nat) (h : AHeap) (hg : GR h v ⟨(n : Int), es⟩) (hr : RightG ⟨(n : Int), es⟩) (hm : RL isI h mv (nat64 o)) (ho : o.length ≤ 100000) :
    AC Try.prog W0 88 [v, .int .i64 (u : Int), mv] h fun x h' => x = .int .i64 (nxtI (nxtF n es o u)) ∧ Le h h' := by
  have hg0 := hg
  obtain ⟨ev, rfl, hp⟩ := hg.open
  have h200 : (n : Int) ≤ 200 := hr.n1
  refine AC.vc (fn := Try.f88) (c := _) ⟨Try.func88, rfl, by decide⟩ Try.ntmps88 Try.results88 (by simp) fun hwf => ?_
  simp only [argFrame, argFrom, Nat.reduceAdd]
  obtain ⟨h1, b1, le1, wf1, -, lA⟩ := boxG (n := (n : Int)) hwf hp
  generalize h.next = B at *
  simp only [kS1, bLookup, bMapSet, wantA, isCall, stepOp, evalO, evalL, evalP, evalM, putDst, flat, kA, kB, Nat.reduceLT, ↓reduceIte, kC, Nat.reduceEqDiff, aBuiltin, abinG, guardFree, abin, aInt, aUn, aNilCheck, retQ, retQ1, aresults, aresultL, aresult, mkF, undefV, reduceCtorEq, kD, kE, kF, kG, kH, kI, kJ, kK, aExtract, calleeOf, b1]
  refine KLoop.intro (fun k fr hq => ∃ j : Nat, k = n - j ∧ j ≤ n ∧ fr = mkF [(1, .int .i64 (u : Int)), (2, mv), (3, .pointer (some ⟨B, 0, none⟩)), (7, .int .i64 j)] ∧ Le h1 hq ∧ ∀ w, w < j → ¬ (adj es u w ∧ w ∉ o))
    n [(1, .int .i64 (u : Int)), (2, mv), (3, .pointer (some ⟨B, 0, none⟩)), (7, .int .i64 (0 : Nat))] (by simp only [hasAll, kS1, bLookup, bMapSet, wantA, isCall, stepOp, evalO, evalL, evalP, evalM, putDst, flat, kA, kB, Nat.reduceLT, ↓reduceIte, kC, Nat.reduceEqDiff, aBuiltin, abinG, guardFree, abin, aInt, aUn, aNilCheck, retQ, retQ1, aresults, aresultL, aresult, mkF, undefV, reduceCtorEq, kD, kE, kF, kG, kH, kI, kJ, kK, aExtract, calleeOf]; simp) ⟨0, rfl, Nat.zero_le _, rfl, Le.refl _, fun w hw => by omega⟩ ?_
  rintro k fr hq hwq ⟨j, rfl, hj, rfl, leq, hno⟩
  have lAq := lA hq leq
  simp only [kS1, bLookup, bMapSet, wantA, isCall, stepOp, evalO, evalL, evalP, evalM, putDst, flat, kA, kB, Nat.reduceLT, ↓reduceIte, kC, Nat.reduceEqDiff, aBuiltin, abinG, guardFree, abin, aInt, aUn, aNilCheck, retQ, retQ1, aresults, aresultL, aresult, mkF, undefV, reduceCtorEq, kD, kE, kF, kG, kH, kI, kJ, kK, aExtract, calleeOf, fg0, aadd, Nat.zero_add, lAq.2.1]
  refine KCond.intro (fun ht => ?_) (fun hf => ?_)
  · have hlt : j < n := lt_t ht
    clear ht
    simp only [kS1, bLookup, bMapSet, wantA, isCall, stepOp, evalO, evalL, evalP, evalM, putDst, flat, kA, kB, Nat.reduceLT, ↓reduceIte, kC, Nat.reduceEqDiff, aBuiltin, abinG, guardFree, abin, aInt, aUn, aNilCheck, retQ, retQ1, aresults, aresultL, aresult, mkF, undefV, reduceCtorEq, kD, kE, kF, kG, kH, kI, kJ, kK, aExtract, calleeOf, lAq.1]
    refine KCall.intro (by simp only [kS1, bLookup, bMapSet, wantA, isCall, stepOp, evalO, evalL, evalP, evalM, putDst, flat, kA, kB, Nat.reduceLT, ↓reduceIte, kC, Nat.reduceEqDiff, aBuiltin, abinG, guardFree, abin, aInt, aUn, aNilCheck, retQ, retQ1, aresults, aresultL, aresult, mkF, undefV, reduceCtorEq, kD, kE, kF, kG, kH, kI, kJ, kK, aExtract, calleeOf] <;> rfl) ⟨Try.func59, rfl, by decide⟩ (RHas_any W0 (.agg #[.int .i64 (n : Int), ev]) n u j es hq (hg0.le (le1.trans leq)) hr) ?_
    rintro x h2 w2 ⟨rfl, l2⟩
    have leq2 := leq.trans l2
    by_cases c : adj es u j
    · have d : decide (adj es u j) = true := decide_eq_true c
      simp only [kS1, bLookup, bMapSet, wantA, isCall, stepOp, evalO, evalL, evalP, evalM, putDst, flat, kA, kB, Nat.reduceLT, ↓reduceIte, kC, Nat.reduceEqDiff, aBuiltin, abinG, guardFree, abin, aInt, aUn, aNilCheck, retQ, retQ1, aresults, aresultL, aresult, mkF, undefV, reduceCtorEq, kD, kE, kF, kG, kH, kI, kJ, kK, aExtract, calleeOf, d]
      refine KCall.intro (by simp only [kS1, bLookup, bMapSet, wantA, isCall, stepOp, evalO, evalL, evalP, evalM, putDst, flat, kA, kB, Nat.reduceLT, ↓reduceIte, kC, Nat.reduceEqDiff, aBuiltin, abinG, guardFree, abin, aInt, aUn, aNilCheck, retQ, retQ1, aresults, aresultL, aresult, mkF, undefV, reduceCtorEq, kD, kE, kF, kG, kH, kI, kJ, kK, aExtract, calleeOf] <;> rfl) ⟨Try.func92, rfl, by decide⟩ (Rhas_any W0 mv (nat64 o) (j : Int) h2 (hm.le Stays.isI (le1.trans leq2)) (by rw [nat64_length]; exact ho)) ?_
      rintro x h3 w3 ⟨rfl, rfl⟩
      by_cases c2 : j ∈ o
      · have d2 : decide ((j : Int) ∈ nat64 o) = true := decide_eq_true (List.mem_map.2 ⟨j, c2, rfl⟩)
        simp only [kS1, bLookup, bMapSet, wantA, isCall, stepOp, evalO, evalL, evalP, evalM, putDst, flat, kA, kB, Nat.reduceLT, ↓reduceIte, kC, Nat.reduceEqDiff, aBuiltin, abinG, guardFree, abin, aInt, aUn, aNilCheck, retQ, retQ1, aresults, aresultL, aresult, mkF, undefV, reduceCtorEq, kD, kE, kF, kG, kH, kI, kJ, kK, aExtract, calleeOf, d2, awrap_succ j (by omega)]
        exact loop_again (n - (j + 1)) [(1, .int .i64 (u : Int)), (2, mv), (3, .pointer (some ⟨B, 0, none⟩)), (7, .int .i64 (j + 1 : Nat))] (by omega) (by simp only [hasAll, kS1, bLookup, bMapSet, wantA, isCall, stepOp, evalO, evalL, evalP, evalM, putDst, flat, kA, kB, Nat.reduceLT, ↓reduceIte, kC, Nat.reduceEqDiff, aBuiltin, abinG, guardFree, abin, aInt, aUn, aNilCheck, retQ, retQ1, aresults, aresultL, aresult, mkF, undefV, reduceCtorEq, kD, kE, kF, kG, kH, kI, kJ, kK, aExtract, calleeOf]; simp) ⟨j + 1, rfl, hlt, rfl, leq2, fun w hw => by
          by_cases e : w = j
          · subst e; exact fun k => k.2 c2
          · exact hno w (by omega)⟩
      · have d2 : decide ((j : Int) ∈ nat64 o) = false := decide_eq_false fun hm => by
          obtain ⟨w, hw, e⟩ := List.mem_map.1 hm
          have : w = j := by omega
          subst this; exact c2 hw
        have hx : nxtF n es o u = some j := by
          unfold nxtF
          rw [List.find?_range_eq_some]
          refine ⟨by simp [c, c2], List.mem_range.2 hlt, fun w hw => ?_⟩
          have := hno w hw
          by_cases k : adj es u w
          · have : w ∈ o := Classical.byContradiction fun k' => this ⟨k, k'⟩
            simp [k, this]
          · simp [k]
        simp only [kS1, bLookup, bMapSet, wantA, isCall, stepOp, evalO, evalL, evalP, evalM, putDst, flat, kA, kB, Nat.reduceLT, ↓reduceIte, kC, Nat.reduceEqDiff, aBuiltin, abinG, guardFree, abin, aInt, aUn, aNilCheck, retQ, retQ1, aresults, aresultL, aresult, mkF, undefV, reduceCtorEq, kD, kE, kF, kG, kH, kI, kJ, kK, aExtract, calleeOf, d2]
        exact ⟨by rw [hx]; rfl, le1.trans leq2⟩
    · have d : decide (adj es u j) = false := decide_eq_false c
      simp only [kS1, bLookup, bMapSet, wantA, isCall, stepOp, evalO, evalL, evalP, evalM, putDst, flat, kA, kB, Nat.reduceLT, ↓reduceIte, kC, Nat.reduceEqDiff, aBuiltin, abinG, guardFree, abin, aInt, aUn, aNilCheck, retQ, retQ1, aresults, aresultL, aresult, mkF, undefV, reduceCtorEq, kD, kE, kF, kG, kH, kI, kJ, kK, aExtract, calleeOf, d, awrap_succ j (by omega)]
      exact loop_again (n - (j + 1)) [(1, .int .i64 (u : Int)), (2, mv), (3, .pointer (some ⟨B, 0, none⟩)), (7, .int .i64 (j + 1 : Nat))] (by omega) (by simp only [hasAll, kS1, bLookup, bMapSet, wantA, isCall, stepOp, evalO, evalL, evalP, evalM, putDst, flat, kA, kB, Nat.reduceLT, ↓reduceIte, kC, Nat.reduceEqDiff, aBuiltin, abinG, guardFree, abin, aInt, aUn, aNilCheck, retQ, retQ1, aresults, aresultL, aresult, mkF, undefV, reduceCtorEq, kD, kE, kF, kG, kH, kI, kJ, kK, aExtract, calleeOf]; simp) ⟨j + 1, rfl, hlt, rfl, leq2, fun w hw => by
        by_cases e : w = j
        · subst e; exact fun k => c k.1
        · exact hno w (by omega)⟩
  · have hge : n ≤ j := lt_f hf
    have hx : nxtF n es o u = none := by
      unfold nxtF
      rw [List.find?_eq_none]
      intro w hw
      have := hno w (by have := List.mem_range.1 hw; omega)
      by_cases k : adj es u w
      · have : w ∈ o := Classical.byContradiction fun k' => this ⟨k, k'⟩
        simp [k, this]
      · simp [k]
    simp only [kS1, bLookup, bMapSet, wantA, isCall, stepOp, evalO, evalL, evalP, evalM, putDst, flat, kA, kB, Nat.reduceLT, ↓reduceIte, kC, Nat.reduceEqDiff, aBuiltin, abinG, guardFree, abin, aInt, aUn, aNilCheck, retQ, retQ1, aresults, aresultL, aresult, mkF, undefV, reduceCtorEq, kD, kE, kF, kG, kH, kI, kJ, kK, aExtract, calleeOf]
    exact ⟨by rw [hx]; rfl, le1.trans leq⟩
theorem Rasked_any (W0 : Base) (v : Value) (n s : Nat) (es : List Pr) (h : AHeap) (hg : GR h v ⟨(n : Int), es⟩) (hr : RightG ⟨(n : Int), es⟩) (hs : s < n) : AC Try.prog W0 87 [v, .int .i64 (s : Int)] h fun x h' => x = .int .i64 0 ∧ Le h h' := by
  have hg0 := hg
  obtain ⟨ev, rfl, hp⟩ := hg.open
  refine AC.vc (fn := Try.f87) (c := _) ⟨Try.func87, rfl, by decide⟩ Try.ntmps87 Try.results87 (by simp) fun hwf => ?_
  simp only [argFrame, argFrom, Nat.reduceAdd]
  obtain ⟨h1, b1, le1, wf1, -, lA⟩ := boxG (n := (n : Int)) hwf hp
  generalize h.next = B at *
  have lA1 := lA h1 (Le.refl _)
  simp only [kS1, bLookup, bMapSet, wantA, isCall, stepOp, evalO, evalL, evalP, evalM, putDst, flat, kA, kB, Nat.reduceLT, ↓reduceIte, kC, Nat.reduceEqDiff, aBuiltin, abinG, guardFree, abin, aInt, aUn, aNilCheck, retQ, retQ1, aresults, aresultL, aresult, mkF, undefV, reduceCtorEq, kD, kE, kF, kG, kH, kI, kJ, kK, aExtract, calleeOf, b1, lA1.1]
  refine KCall.intro (by simp only [kS1, bLookup, bMapSet, wantA, isCall, stepOp, evalO, evalL, evalP, evalM, putDst, flat, kA, kB, Nat.reduceLT, ↓reduceIte, kC, Nat.reduceEqDiff, aBuiltin, abinG, guardFree, abin, aInt, aUn, aNilCheck, retQ, retQ1, aresults, aresultL, aresult, mkF, undefV, reduceCtorEq, kD, kE, kF, kG, kH, kI, kJ, kK, aExtract, calleeOf] <;> rfl) ⟨Try.func56, rfl, by decide⟩ (RefRight_any W0 _ _ h1 (hg0.le le1)) ?_
  rintro x h2 w2 ⟨⟨bb, rfl, hbb⟩, l2⟩
  obtain rfl : bb = true := hbb.2 hr
  have lA2 := lA h2 l2
  have d1 : decide ((s : Int) < 0) = false := decide_eq_false (by omega)
  have d2 : decide ((s : Int) ≥ (n : Int)) = false := decide_eq_false (by omega)
  simp only [kS1, bLookup, bMapSet, wantA, isCall, stepOp, evalO, evalL, evalP, evalM, putDst, flat, kA, kB, Nat.reduceLT, ↓reduceIte, kC, Nat.reduceEqDiff, aBuiltin, abinG, guardFree, abin, aInt, aUn, aNilCheck, retQ, retQ1, aresults, aresultL, aresult, mkF, undefV, reduceCtorEq, kD, kE, kF, kG, kH, kI, kJ, kK, aExtract, calleeOf, fg0, aadd, Nat.zero_add, lA2.2.1, d1, d2]
  exact ⟨trivial, le1.trans l2⟩
end Go.Fw
namespace Go.Fw
open Go.Proofs
attribute [local irreducible] KO4 KO3 KO2 KO1 KO KN KX KE VK KCond KDraw KCall KLoop
set_option maxHeartbeats 16000000
set_option maxRecDepth 10000
theorem GI.store {h : AHeap} {v : Value} {xs : List Int} (g : GI h v xs) (hwf : WF h) {i : Nat} (hi : i < xs.length) (x : Int) : ∃ h', aStore Try.prog h 3 (.pointer (some (elemAddr v i))) (.int .i64 x) = some h' ∧ GI h' v (xs.set i x) ∧ WF h' ∧ (∀ f, Le f h → Apart f v → Le f h') ∧ (∀ b o, h.own b = some o → blk v ≠ some b → h'.own b = some o) := by
  obtain ⟨hl, ⟨rfl, h0⟩ | ⟨id, c, cap, rfl, ho, ht, hc⟩⟩ := g
  · omega
  · have hl' : xs.length ≤ c.length := by have := congrArg List.length ht; rw [List.length_take, I64, List.length_map] at this; omega
    have st := aStore1 (P := Try.prog) (t := 3) (x := .int .i64 x) Try.underlying3 (by kernel_rfl) ho (off := i) (by omega) rfl rfl
    refine ⟨h.put id (.cells (c.set i (.int .i64 x))), ?_, ⟨by simp [I64], .inr ⟨id, _, cap, by simp, AHeap.own_put_eq _ _ _, ?_, by simpa using hc⟩⟩, hwf.put _ (hwf.lt ho), fun f lf af => lf.put _ (af id rfl), fun b o hb hne => ?_⟩
    · simp only [elemAddr_mk, aadd, Nat.zero_add]; exact st
    · rw [Nat.mul_one, List.length_set, List.take_set, ← I64_set, ← ht, Nat.mul_one]
    · rw [AHeap.own_put_ne _ _ _ _ (fun e => hne (by rw [e]; rfl))]; exact hb
theorem RWalk_any (W0 : Base) (v : Value) (n s : Nat) (es : List Pr) (h : AHeap) (hg : GR h v ⟨(n : Int), es⟩) (hr : RightG ⟨(n : Int), es⟩) (hs : s < n) :
    AC Try.prog W0 57 [v, .int .i64 (s : Int)] h fun x h' => ∃ ov uv o up, x = .tuple #[ov, uv, .int .i64 0] ∧ GI h' ov (nat64 o) ∧ GI h' uv up ∧ DfsFin n es s o up ∧ Le h h' ∧ Apart h ov ∧ Apart h uv := by
  have hg0 := hg
  obtain ⟨ev, rfl, hp⟩ := hg.open
  have h200 : (n : Int) ≤ 200 := hr.n1
  have hR := hr.inR
  refine AC.vc (fn := Try.f57) (c := _) ⟨Try.func57, rfl, by decide⟩ Try.ntmps57 Try.results57 (by simp) fun hwf => ?_
  simp only [argFrame, argFrom, Nat.reduceAdd]
  obtain ⟨h1, b1, le1, wf1, -, lA⟩ := boxG (n := (n : Int)) hwf hp
  generalize h.next = B at *
  have lA1 := lA h1 (Le.refl _)
  simp only [kS1, bLookup, bMapSet, wantA, isCall, stepOp, evalO, evalL, evalP, evalM, putDst, flat, kA, kB, Nat.reduceLT, ↓reduceIte, kC, Nat.reduceEqDiff, aBuiltin, abinG, guardFree, abin, aInt, aUn, aNilCheck, retQ, retQ1, aresults, aresultL, aresult, mkF, undefV, reduceCtorEq, kD, kE, kF, kG, kH, kI, kJ, kK, aExtract, calleeOf, b1, lA1.1]
  refine KCall.intro (by simp only [kS1, bLookup, bMapSet, wantA, isCall, stepOp, evalO, evalL, evalP, evalM, putDst, flat, kA, kB, Nat.reduceLT, ↓reduceIte, kC, Nat.reduceEqDiff, aBuiltin, abinG, guardFree, abin, aInt, aUn, aNilCheck, retQ, retQ1, aresults, aresultL, aresult, mkF, undefV, reduceCtorEq, kD, kE, kF, kG, kH, kI, kJ, kK, aExtract, calleeOf] <;> rfl) ⟨Try.func87, rfl, by decide⟩ (Rasked_any W0 _ n s es h1 (hg0.le le1) hr hs) ?_
  rintro x h2 w2 ⟨rfl, l2⟩
  have ap0 : Apart h1 (.slice none 0 0) := fun b hb => by cases hb
  simp only [kS1, bLookup, bMapSet, wantA, isCall, stepOp, evalO, evalL, evalP, evalM, putDst, flat, kA, kB, Nat.reduceLT, ↓reduceIte, kC, Nat.reduceEqDiff, aBuiltin, abinG, guardFree, abin, aInt, aUn, aNilCheck, retQ, retQ1, aresults, aresultL, aresult, mkF, undefV, reduceCtorEq, kD, kE, kF, kG, kH, kI, kJ, kK, aExtract, calleeOf, bne]
  refine KLoop.intro (fun k fr hq => ∃ (j : Nat) (uv : Value), k = n - j ∧ j ≤ n ∧ fr = mkF [(1, .int .i64 (s : Int)), (2, .pointer (some ⟨B, 0, none⟩)), (8, uv), (9, .int .i64 j)] ∧ GI hq uv (List.replicate j (-1)) ∧ Le h1 hq ∧ Apart h1 uv)
    n [(1, .int .i64 (s : Int)), (2, .pointer (some ⟨B, 0, none⟩)), (8, .slice none 0 0), (9, .int .i64 (0 : Nat))] (by simp only [hasAll, kS1, bLookup, bMapSet, wantA, isCall, stepOp, evalO, evalL, evalP, evalM, putDst, flat, kA, kB, Nat.reduceLT, ↓reduceIte, kC, Nat.reduceEqDiff, aBuiltin, abinG, guardFree, abin, aInt, aUn, aNilCheck, retQ, retQ1, aresults, aresultL, aresult, mkF, undefV, reduceCtorEq, kD, kE, kF, kG, kH, kI, kJ, kK, aExtract, calleeOf]; simp) ⟨0, _, rfl, Nat.zero_le _, rfl, GI.nil _, l2, ap0⟩ ?_
  rintro k fr hq hwq ⟨j, uv, rfl, hj, rfl, gu, leq, au⟩
  have lAq := lA hq leq
  simp only [kS1, bLookup, bMapSet, wantA, isCall, stepOp, evalO, evalL, evalP, evalM, putDst, flat, kA, kB, Nat.reduceLT, ↓reduceIte, kC, Nat.reduceEqDiff, aBuiltin, abinG, guardFree, abin, aInt, aUn, aNilCheck, retQ, retQ1, aresults, aresultL, aresult, mkF, undefV, reduceCtorEq, kD, kE, kF, kG, kH, kI, kJ, kK, aExtract, calleeOf, fg0, aadd, Nat.zero_add, lAq.2.1]
  refine KCond.intro (fun ht => ?_) (fun hf => ?_)
  · have hlt : j < n := lt_t ht
    clear ht
    obtain ⟨v', h4, h5, e4, e5, g5, w5, l4, f5, k5⟩ := gu.push hwq (-1) (by simp; omega)
    obtain ⟨l5, a5⟩ := f5 h1 leq au
    simp only [kS1, bLookup, bMapSet, wantA, isCall, stepOp, evalO, evalL, evalP, evalM, putDst, flat, kA, kB, Nat.reduceLT, ↓reduceIte, kC, Nat.reduceEqDiff, aBuiltin, abinG, guardFree, abin, aInt, aUn, aNilCheck, retQ, retQ1, aresults, aresultL, aresult, mkF, undefV, reduceCtorEq, kD, kE, kF, kG, kH, kI, kJ, kK, aExtract, calleeOf, e4, e5, awrap_succ j (by omega)]
    exact loop_again (n - (j + 1)) [(1, .int .i64 (s : Int)), (2, .pointer (some ⟨B, 0, none⟩)), (8, v'), (9, .int .i64 (j + 1 : Nat))] (by omega) (by simp only [hasAll, kS1, bLookup, bMapSet, wantA, isCall, stepOp, evalO, evalL, evalP, evalM, putDst, flat, kA, kB, Nat.reduceLT, ↓reduceIte, kC, Nat.reduceEqDiff, aBuiltin, abinG, guardFree, abin, aInt, aUn, aNilCheck, retQ, retQ1, aresults, aresultL, aresult, mkF, undefV, reduceCtorEq, kD, kE, kF, kG, kH, kI, kJ, kK, aExtract, calleeOf]; simp) ⟨j + 1, v', rfl, hlt, rfl, by rw [List.replicate_succ']; exact g5, l5, a5⟩
  have hge : n ≤ j := lt_f hf
  obtain rfl : j = n := by omega
  clear hge hf hj
  obtain ⟨h4, e4, l4, w4, o4⟩ := alloc_f hwq [.int .i64 (s : Int)]
  have nO : hq.own hq.next = none := (Le.refl hq).next hwq (Nat.le_refl _)
  have go4 : GI h4 (.slice (some ⟨hq.next, 0, none⟩) 1 1) (nat64 [s]) := GS.full o4 rfl (show 1 < 1000000000000 by decide)
  have gu4 := gu.le l4
  have ao4 : Apart h1 (.slice (some ⟨hq.next, 0, none⟩) 1 1) := fun b hb => by injection hb with hb; subst hb; exact leq.none nO
  have dj4 : ∀ b, blk (.slice (some ⟨hq.next, 0, none⟩) 1 1) = some b → blk uv ≠ some b := fun b hb e => by
    injection hb with hb; subst hb; exact GS.blk_own gu e nO
  have w11 : awrap .i64 ((1 : Int) - 1) = 0 := by decide
  simp only [kS1, bLookup, bMapSet, wantA, isCall, stepOp, evalO, evalL, evalP, evalM, putDst, flat, kA, kB, Nat.reduceLT, ↓reduceIte, kC, Nat.reduceEqDiff, aBuiltin, abinG, guardFree, abin, aInt, aUn, aNilCheck, retQ, retQ1, aresults, aresultL, aresult, mkF, undefV, reduceCtorEq, kD, kE, kF, kG, kH, kI, kJ, kK, aExtract, calleeOf, mk1, e4, aLenS Try.underlying35, Int.cast_ofNat_Int, w11]
  generalize Value.slice (some ⟨hq.next, 0, none⟩) 1 1 = ov0 at *
  refine KLoop.intro (fun k fr hz => ∃ (i : Nat) (ov uv : Value) (o : List Nat) (up : List Int), k = (j - o.length) * (j + 1) + i ∧ i ≤ o.length ∧ fr = mkF [(2, .pointer (some ⟨B, 0, none⟩)), (8, uv), (10, ov), (11, .int .i64 ((i : Int) - 1))] ∧
      GI hz ov (nat64 o) ∧ GI hz uv up ∧ (∀ b, blk ov = some b → blk uv ≠ some b) ∧ Le h1 hz ∧ Apart h1 ov ∧ Apart h1 uv ∧ Dfs j es s o up ∧ ∀ (q x : Nat), i ≤ q → o[q]? = some x → Full es o x)
    ((j - 1) * (j + 1) + 1) [(2, .pointer (some ⟨B, 0, none⟩)), (8, uv), (10, ov0), (11, .int .i64 (((1 : Nat) : Int) - 1))] (by simp only [hasAll, kS1, bLookup, bMapSet, wantA, isCall, stepOp, evalO, evalL, evalP, evalM, putDst, flat, kA, kB, Nat.reduceLT, ↓reduceIte, kC, Nat.reduceEqDiff, aBuiltin, abinG, guardFree, abin, aInt, aUn, aNilCheck, retQ, retQ1, aresults, aresultL, aresult, mkF, undefV, reduceCtorEq, kD, kE, kF, kG, kH, kI, kJ, kK, aExtract, calleeOf]; simp)
    ⟨1, ov0, uv, [s], _, rfl, Nat.le_refl _, rfl, go4, gu4, dj4, leq.trans l4, ao4, au, .start, fun q x hq hx => by have := (List.getElem?_eq_some_iff.1 hx).1; simp at this; omega⟩ ?_
  clear go4 gu4 ao4 dj4 w11 nO o4 w4 l4 e4 au gu lAq leq hwq
  clear h4 ov0 uv hq
  rintro k fr hz hwz ⟨i, ov, uv, o, up, rfl, hi, rfl, go, gu, dj, lez, ao, au, D, hfull⟩
  have hol := D.boundF hR hs
  have hul := D.len.2
  simp only [kS1, bLookup, bMapSet, wantA, isCall, stepOp, evalO, evalL, evalP, evalM, putDst, flat, kA, kB, Nat.reduceLT, ↓reduceIte, kC, Nat.reduceEqDiff, aBuiltin, abinG, guardFree, abin, aInt, aUn, aNilCheck, retQ, retQ1, aresults, aresultL, aresult, mkF, undefV, reduceCtorEq, kD, kE, kF, kG, kH, kI, kJ, kK, aExtract, calleeOf]
  refine KCond.intro (fun ht => ?_) (fun hf => ?_)
  · obtain ⟨i, rfl⟩ : ∃ i', i = i' + 1 := ⟨i - 1, by simp at ht; omega⟩
    clear ht
    have hil : i < o.length := by omega
    have ei : (((i + 1 : Nat) : Int) - 1) = (i : Int) := by omega
    have hoi := getElem?_of hil
    have hgi := nat64_get hil
    have lAz := lA hz lez
    have ad := go.rl.addr (P := Try.prog) Try.underlying35 Try.underlying3 (by kernel_rfl) (k := .i64) i (by rw [nat64_length]; exact hil)
    have ld := fun g (l : Le hz g) => (go.le l).rl.loadI (P := Try.prog) Try.underlying3 rfl i (by rw [nat64_length]; exact hil)
    rw [hgi] at ld
    generalize o[i] = u at hoi ld
    clear hgi
    have ld0 := ld hz (Le.refl _)
    simp only [kS1, bLookup, bMapSet, wantA, isCall, stepOp, evalO, evalL, evalP, evalM, putDst, flat, kA, kB, Nat.reduceLT, ↓reduceIte, kC, Nat.reduceEqDiff, aBuiltin, abinG, guardFree, abin, aInt, aUn, aNilCheck, retQ, retQ1, aresults, aresultL, aresult, mkF, undefV, reduceCtorEq, kD, kE, kF, kG, kH, kI, kJ, kK, aExtract, calleeOf, ei]
    refine KDraw.intro mixed (.fl 0 (.fl 1 (.fl 2 (.fl 3 (.fl 4 (.fl 5 (.ch 6 [0, 4, 5] (.fl 7 (.done)) .no))))))) (by kernel_rfl) ?_
    simp only [kS1, bLookup, bMapSet, wantA, isCall, stepOp, evalO, evalL, evalP, evalM, putDst, flat, kA, kB, Nat.reduceLT, ↓reduceIte, kC, Nat.reduceEqDiff, aBuiltin, abinG, guardFree, abin, aInt, aUn, aNilCheck, retQ, retQ1, aresults, aresultL, aresult, mkF, undefV, reduceCtorEq, kD, kE, kF, kG, kH, kI, kJ, kK, aExtract, calleeOf, kD1, Nat.reduceBEq, HoldsAll, kL, kM, kN, kO, ad, ld0, lAz.1]
    refine KGCall.intro (by simp only [kS1, bLookup, bMapSet, wantA, isCall, stepOp, evalO, evalL, evalP, evalM, putDst, flat, kA, kB, Nat.reduceLT, ↓reduceIte, kC, Nat.reduceEqDiff, aBuiltin, abinG, guardFree, abin, aInt, aUn, aNilCheck, retQ, retQ1, aresults, aresultL, aresult, mkF, undefV, reduceCtorEq, kD, kE, kF, kG, kH, kI, kJ, kK, aExtract, calleeOf] <;> rfl) ⟨Try.func88, rfl, by decide⟩ (Rnext_any W0 (.agg #[.int .i64 (j : Int), ev]) ov j u es o hz (hg0.le (le1.trans lez)) hr go.rl (by omega)) ?_
    rintro x h5 w5 ⟨rfl, l5⟩
    have lA5 := lA h5 (lez.trans l5)
    have ld5 := ld h5 l5
    cases hx : nxtF j es o u with
    | none =>
      have d : decide ((-1 : Int) ≥ 0) = false := by decide
      have wi : awrap .i64 ((i : Int) - 1) = (i : Int) - 1 := awrap_i64 _ (by omega) (by omega)
      simp only [nxtI, kS1, bLookup, bMapSet, wantA, isCall, stepOp, evalO, evalL, evalP, evalM, putDst, flat, kA, kB, Nat.reduceLT, ↓reduceIte, kC, Nat.reduceEqDiff, aBuiltin, abinG, guardFree, abin, aInt, aUn, aNilCheck, retQ, retQ1, aresults, aresultL, aresult, mkF, undefV, reduceCtorEq, kD, kE, kF, kG, kH, kI, kJ, kK, aExtract, calleeOf, kD1, Nat.reduceBEq, HoldsAll, kL, kM, kN, kO, ad, ld0, ld5, lAz.1, lA5.1, d, wi]
      refine loop_again ((j - o.length) * (j + 1) + i) [(2, .pointer (some ⟨B, 0, none⟩)), (8, uv), (10, ov), (11, .int .i64 ((i : Int) - 1))] (by omega) (by simp only [hasAll, kS1, bLookup, bMapSet, wantA, isCall, stepOp, evalO, evalL, evalP, evalM, putDst, flat, kA, kB, Nat.reduceLT, ↓reduceIte, kC, Nat.reduceEqDiff, aBuiltin, abinG, guardFree, abin, aInt, aUn, aNilCheck, retQ, retQ1, aresults, aresultL, aresult, mkF, undefV, reduceCtorEq, kD, kE, kF, kG, kH, kI, kJ, kK, aExtract, calleeOf]; simp)
        ⟨i, ov, uv, o, up, rfl, by omega, rfl, go.le l5, gu.le l5, dj, lez.trans l5, ao, au, D, fun q y hq hy => ?_⟩
      by_cases e : q = i
      · subst e; rw [hoi] at hy; injection hy with hy; subst hy; exact nxtF_none hR hx
      · exact hfull q y (by omega) hy
    | some w =>
      obtain ⟨q1, q2, q3⟩ := nxtF_some hR hx
      have hwj := (q1.lt hR).2
      have d : decide ((w : Int) ≥ 0) = true := decide_eq_true (by omega)
      have adU := (gu.le l5).rl.addr (P := Try.prog) Try.underlying35 Try.underlying3 (by kernel_rfl) (k := .i64) w (by rw [hul]; exact hwj)
      obtain ⟨h6, st, gu6, w6, f6, k6⟩ := (gu.le l5).store w5 (i := w) (by rw [hul]; exact hwj) (u : Int)
      have go6 : GI h6 ov (nat64 o) := GS.kept (go.le l5) fun b o' hb ho => k6 b o' ho (dj b hb)
      have le6 := f6 h1 (lez.trans l5) au
      obtain ⟨v', h7, h8, e7, e8, g8, w8, l7, f8, k8⟩ := go6.push w6 (w : Int) (by rw [nat64_length]; omega)
      obtain ⟨l8, a8⟩ := f8 h1 le6 ao
      have gu8 : GI h8 uv (up.set w (u : Int)) := GS.kept gu6 fun b o' hb ho => (k8 b o' ho (fun e => dj b e hb)).1
      have dj8 : ∀ b, blk v' = some b → blk uv ≠ some b := fun b hb e => by
        have := GS.blk_own gu6 e
        cases ho : h6.own b with
        | none => exact this ho
        | some o' => exact (k8 b o' ho (fun e' => dj b e' e)).2 hb
      have g8' : GI h8 v' (nat64 (o ++ [w])) := by simpa [nat64] using g8
      have ll := fun g => g8'.rl.len (P := Try.prog) Try.underlying35 g
      simp only [nat64_length, List.length_append, List.length_singleton] at ll
      have wl : awrap .i64 (((o.length + 1 : Nat) : Int) - 1) = ((o.length + 1 : Nat) : Int) - 1 := awrap_i64 _ (by omega) (by omega)
      simp only [nxtI, kS1, bLookup, bMapSet, wantA, isCall, stepOp, evalO, evalL, evalP, evalM, putDst, flat, kA, kB, Nat.reduceLT, ↓reduceIte, kC, Nat.reduceEqDiff, aBuiltin, abinG, guardFree, abin, aInt, aUn, aNilCheck, retQ, retQ1, aresults, aresultL, aresult, mkF, undefV, reduceCtorEq, kD, kE, kF, kG, kH, kI, kJ, kK, aExtract, calleeOf, kD1, Nat.reduceBEq, HoldsAll, kL, kM, kN, kO, ad, ld0, ld5, lAz.1, lA5.1, d, adU, st, e7, e8, ll, wl]
      have D' : Dfs j es s (o ++ [w]) (up.set w (u : Int)) := .step D hoi q1 q2 q3 fun q y hq hy => hfull q y (by omega) hy
      have hol' := D'.boundF hR hs
      simp at hol'
      refine loop_again ((j - (o ++ [w]).length) * (j + 1) + (o.length + 1)) [(2, .pointer (some ⟨B, 0, none⟩)), (8, uv), (10, v'), (11, .int .i64 (((o.length + 1 : Nat) : Int) - 1))] ?_ (by simp only [hasAll, kS1, bLookup, bMapSet, wantA, isCall, stepOp, evalO, evalL, evalP, evalM, putDst, flat, kA, kB, Nat.reduceLT, ↓reduceIte, kC, Nat.reduceEqDiff, aBuiltin, abinG, guardFree, abin, aInt, aUn, aNilCheck, retQ, retQ1, aresults, aresultL, aresult, mkF, undefV, reduceCtorEq, kD, kE, kF, kG, kH, kI, kJ, kK, aExtract, calleeOf]; simp)
        ⟨o.length + 1, v', uv, o ++ [w], up.set w (u : Int), rfl, by simp, rfl, g8', gu8, dj8, l8, a8, au, D', fun q y hq hy => by have := (List.getElem?_eq_some_iff.1 hy).1; simp at this; omega⟩
      have e1 : j - o.length = (j - (o ++ [w]).length) + 1 := by simp; omega
      rw [e1, Nat.add_mul]; omega
  · obtain rfl : i = 0 := by simp at hf; omega
    simp only [kS1, bLookup, bMapSet, wantA, isCall, stepOp, evalO, evalL, evalP, evalM, putDst, flat, kA, kB, Nat.reduceLT, ↓reduceIte, kC, Nat.reduceEqDiff, aBuiltin, abinG, guardFree, abin, aInt, aUn, aNilCheck, retQ, retQ1, aresults, aresultL, aresult, mkF, undefV, reduceCtorEq, kD, kE, kF, kG, kH, kI, kJ, kK, aExtract, calleeOf]
    exact ⟨ov, uv, o, up, rfl, go, gu, ⟨D, fun x hx => by
      obtain ⟨q, hq⟩ := List.mem_iff_getElem?.1 hx; exact hfull q x (Nat.zero_le _) hq⟩, le1.trans lez, fun b hb => le1.none (ao b hb), fun b hb => le1.none (au b hb)⟩
end Go.Fw
