/- A text of the proof. -/
import Derived.Test.YtnaahaldkpdjlaaFwLW8
import Derived.Test.YtnaahaldkpdjlaaFwLB3
import Derived.Test.YtnaahaldkpdjlaaFwLW4
import Derived.Test.YtnaahaldkpdjlaaFwLB11
set_option linter.unusedSimpArgs false
set_option linter.unusedVariables false
namespace Go.Fw
open Go.Proofs
attribute [local irreducible] KO4 KO3 KO2 KO1 KO KN KX KE VK KCond KDraw KCall KLoop
set_option maxHeartbeats 16000000
set_option maxRecDepth 10000
def mtB (p : Pr) (a b : Int) : Bool := (decide (p.1 = a) && decide (p.2 = b)) || (decide (p.1 = b) && decide (p.2 = a))
theorem mtB_iff (p : Pr) (a b : Int) : mtB p a b = true ↔ p = (a, b) ∨ p = (b, a) := by
 have e : ∀ x y : Int, p = (x, y) ↔ p.1 = x ∧ p.2 = y := fun x y => Prod.ext_iff
 simp [mtB, e]
theorem RHas_any (W0 : Base) (v : Value) (n a b : Nat) (es : List Pr) (h : AHeap) (hg : GR h v ⟨(n : Int), es⟩) (hr : RightG ⟨(n : Int), es⟩) : AC Try.prog W0 80 [v, .int .i64 (a : Int), .int .i64 (b : Int)] h fun x h' => x = .bool (decide (adj es a b)) ∧ Le h h' := by
  have hg0 := hg
  obtain ⟨ev, rfl, hp⟩ := hg.open
  have h594 : es.length ≤ 594 := hr.len
  refine AC.vc (fn := Try.f80) (c := _) ⟨Try.func80, rfl, by decide⟩ Try.ntmps80 Try.results80 (by simp) fun hwf => ?_
  simp only [argFrame, argFrom, Nat.reduceAdd]
  obtain ⟨h1, b1, le1, wf1, -, lA⟩ := boxG (n := (n : Int)) hwf hp
  generalize h.next = B at *
  simp only [kS1, bLookup, bMapSet, wantA, isCall, stepOp, evalO, evalL, evalP, evalM, putDst, flat, kA, kB, Nat.reduceLT, ↓reduceIte, kC, Nat.reduceEqDiff, aBuiltin, abinG, guardFree, abin, aInt, aUn, aNilCheck, retQ, retQ1, aresults, aresultL, aresult, mkF, undefV, reduceCtorEq, kD, kE, kF, kG, kH, kI, kJ, kK, aExtract, calleeOf, b1]
  refine KLoop.intro (fun k fr hq => ∃ j : Nat, k = es.length - j ∧ j ≤ es.length ∧ fr = mkF [(1, .int .i64 (a : Int)), (2, .int .i64 (b : Int)), (3, .pointer (some ⟨B, 0, none⟩)), (7, .int .i64 j)] ∧ Le h1 hq ∧ ∀ p ∈ es.take j, mtB p a b = false)
    es.length [(1, .int .i64 (a : Int)), (2, .int .i64 (b : Int)), (3, .pointer (some ⟨B, 0, none⟩)), (7, .int .i64 (0 : Nat))] (by simp only [hasAll, kS1, bLookup, bMapSet, wantA, isCall, stepOp, evalO, evalL, evalP, evalM, putDst, flat, kA, kB, Nat.reduceLT, ↓reduceIte, kC, Nat.reduceEqDiff, aBuiltin, abinG, guardFree, abin, aInt, aUn, aNilCheck, retQ, retQ1, aresults, aresultL, aresult, mkF, undefV, reduceCtorEq, kD, kE, kF, kG, kH, kI, kJ, kK, aExtract, calleeOf]; simp) ⟨0, rfl, Nat.zero_le _, rfl, Le.refl _, by simp⟩ ?_
  rintro k fr hq hwq ⟨j, rfl, hj, rfl, leq, hno⟩
  have lAq := lA hq leq
  have hlen := fun g => hp.len g
  simp only [kS1, bLookup, bMapSet, wantA, isCall, stepOp, evalO, evalL, evalP, evalM, putDst, flat, kA, kB, Nat.reduceLT, ↓reduceIte, kC, Nat.reduceEqDiff, aBuiltin, abinG, guardFree, abin, aInt, aUn, aNilCheck, retQ, retQ1, aresults, aresultL, aresult, mkF, undefV, reduceCtorEq, kD, kE, kF, kG, kH, kI, kJ, kK, aExtract, calleeOf, fg1, aadd, Nat.zero_add, lAq.2.2, hlen]
  refine KCond.intro (fun ht => ?_) (fun hf => ?_)
  · have hlt : j < es.length := lt_t ht
    clear ht
    have hpj := getElem?_of hlt
    have htk : es.take (j + 1) = es.take j ++ [es[j]] := List.take_succ_eq_append_getElem hlt
    generalize es[j] = p at hpj htk
    have ad := hp.addr (k := .i64) j hlt
    have ld := (hp.le (le1.trans leq)).load hpj
    obtain ⟨h4', h4, e4, e4s, le4, wf4, o4⟩ := new42 hwq p
    generalize hq.next = E at *
    have ma := own0 o4
    have mb := own1 o4
    have lA4 := lA h4 (leq.trans le4)
    have leq4 := leq.trans le4
    cases d1 : decide (p.1 = (a : Int)) <;> cases d2 : decide (p.2 = (b : Int)) <;> cases d3 : decide (p.1 = (b : Int)) <;> cases d4 : decide (p.2 = (a : Int))
    all_goals
      simp only [kS1, bLookup, bMapSet, wantA, isCall, stepOp, evalO, evalL, evalP, evalM, putDst, flat, kA, kB, Nat.reduceLT, ↓reduceIte, kC, Nat.reduceEqDiff, aBuiltin, abinG, guardFree, abin, aInt, aUn, aNilCheck, retQ, retQ1, aresults, aresultL, aresult, mkF, undefV, reduceCtorEq, kD, kE, kF, kG, kH, kI, kJ, kK, aExtract, calleeOf, fg1, aadd, Nat.zero_add, lAq.2.2, ad, ld, e4, e4s, pa0, pa1, ma, mb, d1, d2, d3, d4, awrap_succ j (by omega)]
      first
        | have hm : mtB p a b = false := by simp only [mtB, d1, d2, d3, d4]; rfl
          exact loop_again (es.length - (j + 1)) [(1, .int .i64 (a : Int)), (2, .int .i64 (b : Int)), (3, .pointer (some ⟨B, 0, none⟩)), (7, .int .i64 (j + 1 : Nat))] (by omega) (by simp only [hasAll, kS1, bLookup, bMapSet, wantA, isCall, stepOp, evalO, evalL, evalP, evalM, putDst, flat, kA, kB, Nat.reduceLT, ↓reduceIte, kC, Nat.reduceEqDiff, aBuiltin, abinG, guardFree, abin, aInt, aUn, aNilCheck, retQ, retQ1, aresults, aresultL, aresult, mkF, undefV, reduceCtorEq, kD, kE, kF, kG, kH, kI, kJ, kK, aExtract, calleeOf]; simp) ⟨j + 1, rfl, hlt, rfl, leq4, fun q hq => by
            rw [htk, List.mem_append, List.mem_singleton] at hq
            rcases hq with hq | rfl
            · exact hno q hq
            · exact hm⟩
        | have hm : mtB p a b = true := by simp only [mtB, d1, d2, d3, d4]; rfl
          simp only [kS1, bLookup, bMapSet, wantA, isCall, stepOp, evalO, evalL, evalP, evalM, putDst, flat, kA, kB, Nat.reduceLT, ↓reduceIte, kC, Nat.reduceEqDiff, aBuiltin, abinG, guardFree, abin, aInt, aUn, aNilCheck, retQ, retQ1, aresults, aresultL, aresult, mkF, undefV, reduceCtorEq, kD, kE, kF, kG, kH, kI, kJ, kK, aExtract, calleeOf, lA4.1]
          refine KCall.intro (by simp only [kS1, bLookup, bMapSet, wantA, isCall, stepOp, evalO, evalL, evalP, evalM, putDst, flat, kA, kB, Nat.reduceLT, ↓reduceIte, kC, Nat.reduceEqDiff, aBuiltin, abinG, guardFree, abin, aInt, aUn, aNilCheck, retQ, retQ1, aresults, aresultL, aresult, mkF, undefV, reduceCtorEq, kD, kE, kF, kG, kH, kI, kJ, kK, aExtract, calleeOf] <;> rfl) ⟨Try.func79, rfl, by decide⟩ (RefRight_any W0 (.agg #[.int .i64 (n : Int), ev]) ⟨(n : Int), es⟩ h4 (hg0.le (le1.trans leq4))) ?_
          rintro x h5 w5 ⟨⟨bb, rfl, hbb⟩, l5⟩
          obtain rfl : bb = true := hbb.2 hr
          simp only [kS1, bLookup, bMapSet, wantA, isCall, stepOp, evalO, evalL, evalP, evalM, putDst, flat, kA, kB, Nat.reduceLT, ↓reduceIte, kC, Nat.reduceEqDiff, aBuiltin, abinG, guardFree, abin, aInt, aUn, aNilCheck, retQ, retQ1, aresults, aresultL, aresult, mkF, undefV, reduceCtorEq, kD, kE, kF, kG, kH, kI, kJ, kK, aExtract, calleeOf]
          have hadj : adj es a b := by
            rcases (mtB_iff p a b).1 hm with e | e
            · exact .inl (e ▸ List.mem_of_getElem? hpj)
            · exact .inr (e ▸ List.mem_of_getElem? hpj)
          exact ⟨by rw [decide_eq_true hadj], (le1.trans leq4).trans l5⟩
  · have hge : es.length ≤ j := lt_f hf
    rw [List.take_of_length_le hge] at hno
    simp only [kS1, bLookup, bMapSet, wantA, isCall, stepOp, evalO, evalL, evalP, evalM, putDst, flat, kA, kB, Nat.reduceLT, ↓reduceIte, kC, Nat.reduceEqDiff, aBuiltin, abinG, guardFree, abin, aInt, aUn, aNilCheck, retQ, retQ1, aresults, aresultL, aresult, mkF, undefV, reduceCtorEq, kD, kE, kF, kG, kH, kI, kJ, kK, aExtract, calleeOf]
    refine ⟨?_, le1.trans leq⟩
    rw [decide_eq_false]
    rintro (h | h)
    · have := hno _ h; rw [(mtB_iff _ _ _).2 (.inl rfl)] at this; cases this
    · have := hno _ h; rw [(mtB_iff _ _ _).2 (.inr rfl)] at this; cases this
theorem Rhas_any (W0 : Base) (v : Value) (xs : List Int) (x : Int) (h : AHeap) (hv : RL isI h v xs) (hn : xs.length ≤ 100000) : AC Try.prog W0 113 [v, .int .i64 x] h fun r h' => r = .bool (decide (x ∈ xs)) ∧ h' = h := by
 refine AC.vc (fn := Try.f113) (c := _) ⟨Try.func113, rfl, by decide⟩ Try.ntmps113 Try.results113 (by simp) fun hwf => ?_
 simp only [argFrame, argFrom, Nat.reduceAdd]
 have lv := fun g => hv.len (P := Try.prog) Try.underlying38 g
 simp only [kS1, bLookup, bMapSet, wantA, isCall, stepOp, evalO, evalL, evalP, evalM, putDst, flat, kA, kB, Nat.reduceLT, ↓reduceIte, kC, Nat.reduceEqDiff, aBuiltin, abinG, guardFree, abin, aInt, aUn, aNilCheck, retQ, retQ1, aresults, aresultL, aresult, mkF, undefV, reduceCtorEq, kD, kE, kF, kG, kH, kI, kJ, kK, aExtract, calleeOf]
 refine KLoop.intro (fun k fr hq => ∃ j : Nat, k = xs.length - j ∧ j ≤ xs.length ∧ fr = mkF [(0, v), (1, .int .i64 x), (5, .int .i64 j)] ∧ hq = h ∧ x ∉ xs.take j)
  xs.length [(0, v), (1, .int .i64 x), (5, .int .i64 (0 : Nat))] (by simp only [hasAll, kS1, bLookup, bMapSet, wantA, isCall, stepOp, evalO, evalL, evalP, evalM, putDst, flat, kA, kB, Nat.reduceLT, ↓reduceIte, kC, Nat.reduceEqDiff, aBuiltin, abinG, guardFree, abin, aInt, aUn, aNilCheck, retQ, retQ1, aresults, aresultL, aresult, mkF, undefV, reduceCtorEq, kD, kE, kF, kG, kH, kI, kJ, kK, aExtract, calleeOf]; simp) ⟨0, rfl, Nat.zero_le _, rfl, rfl, by simp⟩ ?_
 rintro k fr hq hwq ⟨j, rfl, hj, rfl, rfl, hno⟩
 simp only [kS1, bLookup, bMapSet, wantA, isCall, stepOp, evalO, evalL, evalP, evalM, putDst, flat, kA, kB, Nat.reduceLT, ↓reduceIte, kC, Nat.reduceEqDiff, aBuiltin, abinG, guardFree, abin, aInt, aUn, aNilCheck, retQ, retQ1, aresults, aresultL, aresult, mkF, undefV, reduceCtorEq, kD, kE, kF, kG, kH, kI, kJ, kK, aExtract, calleeOf, lv]
 refine KCond.intro (fun ht => ?_) (fun hf => ?_)
 ·have hlt : j < xs.length := lt_t ht
  clear ht
  have htk : xs.take (j + 1) = xs.take j ++ [xs[j]] := List.take_succ_eq_append_getElem hlt
  have ad := hv.addr (P := Try.prog) Try.underlying38 Try.underlying3 (by kernel_rfl) (k := .i64) j hlt
  have ld := hv.loadI (P := Try.prog) Try.underlying3 rfl j hlt
  have hm := List.getElem_mem hlt
  generalize xs[j] = y at htk ld hm
  by_cases c : y = x
  ·have d : decide (y = x) = true := decide_eq_true c
   simp only [kS1, bLookup, bMapSet, wantA, isCall, stepOp, evalO, evalL, evalP, evalM, putDst, flat, kA, kB, Nat.reduceLT, ↓reduceIte, kC, Nat.reduceEqDiff, aBuiltin, abinG, guardFree, abin, aInt, aUn, aNilCheck, retQ, retQ1, aresults, aresultL, aresult, mkF, undefV, reduceCtorEq, kD, kE, kF, kG, kH, kI, kJ, kK, aExtract, calleeOf, ad, ld, d]
   exact ⟨by rw [decide_eq_true (c ▸ hm)], trivial⟩
  ·have d : decide (y = x) = false := decide_eq_false c
   simp only [kS1, bLookup, bMapSet, wantA, isCall, stepOp, evalO, evalL, evalP, evalM, putDst, flat, kA, kB, Nat.reduceLT, ↓reduceIte, kC, Nat.reduceEqDiff, aBuiltin, abinG, guardFree, abin, aInt, aUn, aNilCheck, retQ, retQ1, aresults, aresultL, aresult, mkF, undefV, reduceCtorEq, kD, kE, kF, kG, kH, kI, kJ, kK, aExtract, calleeOf, ad, ld, d, awrap_succ j (by omega)]
   exact loop_again (xs.length - (j + 1)) [(0, v), (1, .int .i64 x), (5, .int .i64 (j + 1 : Nat))] (by omega) (by simp only [hasAll, kS1, bLookup, bMapSet, wantA, isCall, stepOp, evalO, evalL, evalP, evalM, putDst, flat, kA, kB, Nat.reduceLT, ↓reduceIte, kC, Nat.reduceEqDiff, aBuiltin, abinG, guardFree, abin, aInt, aUn, aNilCheck, retQ, retQ1, aresults, aresultL, aresult, mkF, undefV, reduceCtorEq, kD, kE, kF, kG, kH, kI, kJ, kK, aExtract, calleeOf]; simp) ⟨j + 1, rfl, hlt, rfl, rfl, by
    rw [htk, List.mem_append, List.mem_singleton]
    rintro (h | h)
    ·exact hno h
    ·exact c h.symm⟩
 ·have hge : xs.length ≤ j := lt_f hf
  rw [List.take_of_length_le hge] at hno
  simp only [kS1, bLookup, bMapSet, wantA, isCall, stepOp, evalO, evalL, evalP, evalM, putDst, flat, kA, kB, Nat.reduceLT, ↓reduceIte, kC, Nat.reduceEqDiff, aBuiltin, abinG, guardFree, abin, aInt, aUn, aNilCheck, retQ, retQ1, aresults, aresultL, aresult, mkF, undefV, reduceCtorEq, kD, kE, kF, kG, kH, kI, kJ, kK, aExtract, calleeOf]
  exact ⟨by rw [decide_eq_false hno], trivial⟩
theorem Rasked_any (W0 : Base) (v : Value) (n s : Nat) (es : List Pr) (h : AHeap) (hg : GR h v ⟨(n : Int), es⟩) (hr : RightG ⟨(n : Int), es⟩) (hs : s < n) : AC Try.prog W0 127 [v, .int .i64 (s : Int)] h fun x h' => x = .int .i64 0 ∧ Le h h' := by
 have hg0 := hg
 obtain ⟨ev, rfl, hp⟩ := hg.open
 refine AC.vc (fn := Try.f127) (c := _) ⟨Try.func127, rfl, by decide⟩ Try.ntmps127 Try.results127 (by simp) fun hwf => ?_
 simp only [argFrame, argFrom, Nat.reduceAdd]
 obtain ⟨h1, b1, le1, wf1, -, lA⟩ := boxG (n := (n : Int)) hwf hp
 generalize h.next = B at *
 have lA1 := lA h1 (Le.refl _)
 simp only [kS1, bLookup, bMapSet, wantA, isCall, stepOp, evalO, evalL, evalP, evalM, putDst, flat, kA, kB, Nat.reduceLT, ↓reduceIte, kC, Nat.reduceEqDiff, aBuiltin, abinG, guardFree, abin, aInt, aUn, aNilCheck, retQ, retQ1, aresults, aresultL, aresult, mkF, undefV, reduceCtorEq, kD, kE, kF, kG, kH, kI, kJ, kK, aExtract, calleeOf, b1, lA1.1]
 refine KCall.intro (by simp only [kS1, bLookup, bMapSet, wantA, isCall, stepOp, evalO, evalL, evalP, evalM, putDst, flat, kA, kB, Nat.reduceLT, ↓reduceIte, kC, Nat.reduceEqDiff, aBuiltin, abinG, guardFree, abin, aInt, aUn, aNilCheck, retQ, retQ1, aresults, aresultL, aresult, mkF, undefV, reduceCtorEq, kD, kE, kF, kG, kH, kI, kJ, kK, aExtract, calleeOf] <;> rfl) ⟨Try.func79, rfl, by decide⟩ (RefRight_any W0 _ _ h1 (hg0.le le1)) ?_
 rintro x h2 w2 ⟨⟨bb, rfl, hbb⟩, l2⟩
 obtain rfl : bb = true := hbb.2 hr
 have lA2 := lA h2 l2
 have d1 : decide ((s : Int) < 0) = false := decide_eq_false (by omega)
 have d2 : decide ((s : Int) ≥ (n : Int)) = false := decide_eq_false (by omega)
 simp only [kS1, bLookup, bMapSet, wantA, isCall, stepOp, evalO, evalL, evalP, evalM, putDst, flat, kA, kB, Nat.reduceLT, ↓reduceIte, kC, Nat.reduceEqDiff, aBuiltin, abinG, guardFree, abin, aInt, aUn, aNilCheck, retQ, retQ1, aresults, aresultL, aresult, mkF, undefV, reduceCtorEq, kD, kE, kF, kG, kH, kI, kJ, kK, aExtract, calleeOf, fg0, aadd, Nat.zero_add, lA2.2.1, d1, d2]
 exact ⟨trivial, le1.trans l2⟩
end Go.Fw
namespace Go.Fw
open Go.Proofs
set_option maxHeartbeats 16000000
set_option maxRecDepth 10000
theorem GI.store {h : AHeap} {v : Value} {xs : List Int} (g : GI h v xs) (hwf : WF h) {i : Nat} (hi : i < xs.length) (x : Int) : ∃ h', aStore Try.prog h 3 (.pointer (some (elemAddr v i))) (.int .i64 x) = some h' ∧ GI h' v (xs.set i x) ∧ WF h' ∧ (∀ f, Le f h → Apart f v → Le f h') ∧ (∀ b o, h.own b = some o → blk v ≠ some b → h'.own b = some o) := by
 obtain ⟨hl, ⟨rfl, h0⟩ | ⟨id, c, cap, rfl, ho, ht, hc⟩⟩ := g
 ·omega
 ·have hl' : xs.length ≤ c.length := by have := congrArg List.length ht; rw [List.length_take, I64, List.length_map] at this; omega
  have st := aStore1 (P := Try.prog) (t := 3) (x := .int .i64 x) Try.underlying3 (by kernel_rfl) ho (off := i) (by omega) rfl rfl
  refine ⟨h.put id (.cells (c.set i (.int .i64 x))), ?_, ⟨by simp [I64], .inr ⟨id, _, cap, by simp, AHeap.own_put_eq _ _ _, ?_, by simpa using hc⟩⟩, hwf.put _ (hwf.lt ho), fun f lf af => lf.put _ (af id rfl), fun b o hb hne => ?_⟩
  ·simp only [elemAddr_mk, aadd, Nat.zero_add]; exact st
  ·rw [Nat.mul_one, List.length_set, List.take_set, ← I64_set, ← ht, Nat.mul_one]
  ·rw [AHeap.own_put_ne _ _ _ _ (fun e => hne (by rw [e]; rfl))]; exact hb
end Go.Fw
namespace Go.Fw
open Go.Proofs
set_option maxHeartbeats 16000000
set_option maxRecDepth 10000
def wgt (n : Nat) (x : Int) : Nat := if x < 0 then n else x.toNat
def phi (n : Nat) : List Int → Nat
 | [] => 0
 | x :: r => wgt n x + phi n r
def cntP : List Int → Nat
 | [] => 0
 | x :: r => (if 0 ≤ x then 1 else 0) + cntP r
theorem phi_set (n : Nat) : ∀ (L : List Int) (i : Nat) (x y : Int), L[i]? = some x → phi n (L.set i y) + wgt n x = phi n L + wgt n y
 | [], i, x, y, h => by simp at h
 | z :: r, 0, x, y, h => by simp at h; subst h; simp only [List.set_cons_zero, phi]; omega
 | z :: r, i + 1, x, y, h => by have := phi_set n r i x y (by simpa using h); simp only [List.set_cons_succ, phi]; omega
theorem cntP_set : ∀ (L : List Int) (i : Nat) (x y : Int), L[i]? = some x → cntP (L.set i y) + (if 0 ≤ x then 1 else 0) = cntP L + (if 0 ≤ y then 1 else 0)
 | [], i, x, y, h => by simp at h
 | z :: r, 0, x, y, h => by simp at h; subst h; simp only [List.set_cons_zero, cntP]; omega
 | z :: r, i + 1, x, y, h => by have := cntP_set r i x y (by simpa using h); simp only [List.set_cons_succ, cntP]; omega
theorem cntP_le : ∀ (L : List Int), cntP L ≤ L.length
 | [] => Nat.le_refl _
 | x :: r => by have := cntP_le r; simp only [cntP, List.length_cons]; split <;> omega
structure RA (n : Nat) (es : List Pr) (s : Nat) (L : List Int) : Prop where
 len : L.length = n
 con : ∀ (v : Nat) (x : Int), L[v]? = some x → -1 ≤ x ∧ (0 ≤ x → Con es s v)
 bd : ∀ (v : Nat) (x : Int), L[v]? = some x → x < (cntP L : Int)
 at_ : ∃ x, L[s]? = some x ∧ 0 ≤ x
def relax (L : List Int) (a b : Nat) : Bool := decide (L.getD a 0 ≥ 0) && (decide (L.getD b 0 < 0) || decide (L.getD b 0 > L.getD a 0 + 1))
theorem RA.step {n : Nat} {es : List Pr} {s : Nat} {L : List Int} (R : RA n es s L) {a b : Nat} (ha : adj es a b) (han : a < n) (hbn : b < n) (hr : relax L a b = true) : RA n es s (L.set b (L.getD a 0 + 1)) ∧ phi n (L.set b (L.getD a 0 + 1)) < phi n L := by
 have hla := getElem?_of (show a < L.length by rw [R.len]; exact han)
 have hlb := getElem?_of (show b < L.length by rw [R.len]; exact hbn)
 rw [relax, getD_of (by rw [R.len]; exact han), getD_of (by rw [R.len]; exact hbn)] at hr
 rw [getD_of (by rw [R.len]; exact han)]
 generalize L[a]'(by rw [R.len]; exact han) = x at *
 generalize L[b]'(by rw [R.len]; exact hbn) = y at *
 simp only [Bool.and_eq_true, Bool.or_eq_true, decide_eq_true_eq] at hr
 obtain ⟨h0, h1⟩ := hr
 have hc := cntP_set L b y (x + 1) hlb
 have hp := phi_set n L b y (x + 1) hlb
 have hx := R.bd a x hla
 have hy := R.con b y hlb
 have hcl := cntP_le L
 have hcl' := cntP_le (L.set b (x + 1))
 rw [List.length_set, R.len] at hcl'
 rw [R.len] at hcl
 have hbl : b < L.length := by rw [R.len]; exact hbn
 refine ⟨⟨by simp [R.len], fun v z hz => ?_, fun v z hz => ?_, ?_⟩, ?_⟩
 ·rw [List.getElem?_set] at hz
  by_cases e : b = v
  ·subst e
   rw [if_pos rfl, if_pos hbl] at hz; injection hz with hz; subst hz
   exact ⟨by omega, fun _ => ((R.con a x hla).2 h0).step ha rfl⟩
  ·rw [if_neg e] at hz; exact R.con v z hz
 ·rw [List.getElem?_set] at hz
  have hge : cntP L ≤ cntP (L.set b (x + 1)) := by
   split at hc <;> split at hc <;> omega
  by_cases e : b = v
  ·subst e
   rw [if_pos rfl, if_pos hbl] at hz; injection hz with hz; subst hz
   rcases h1 with h1 | h1
   ·rw [if_neg (by omega), if_pos (by omega)] at hc; omega
   ·have := R.bd b y hlb; omega
  ·rw [if_neg e] at hz; have := R.bd v z hz; omega
 ·obtain ⟨z, hz, hz0⟩ := R.at_
  by_cases e : b = s
  ·subst e; exact ⟨x + 1, by rw [List.getElem?_set, if_pos rfl, if_pos hbl], by omega⟩
  ·exact ⟨z, by rw [List.getElem?_set, if_neg e]; exact hz, hz0⟩
 ·unfold wgt at hp
  rcases h1 with h1 | h1
  ·rw [if_neg (by omega : ¬ x + 1 < 0), if_pos h1] at hp
   rw [if_neg (by omega), if_pos (by omega)] at hc
   omega
  ·rw [if_neg (by omega : ¬ x + 1 < 0), if_neg (by omega : ¬ y < 0)] at hp
   omega
def Closed (L : List Int) (p : Pr) : Prop := relax L p.1.toNat p.2.toNat = false ∧ relax L p.2.toNat p.1.toNat = false
theorem RA.fin {n : Nat} {es : List Pr} {s : Nat} {L : List Int} (hr : InR n es) (R : RA n es s L) (hc : ∀ p ∈ es, Closed L p) (v : Nat) (x : Int) (hx : L[v]? = some x) : 0 ≤ x ↔ Con es s v := by
 refine ⟨(R.con v x hx).2, fun h => ?_⟩
 have key : ∀ w, Con es s w → 0 ≤ L.getD w 0 := by
  intro w h
  induction h with
  | refl _ => obtain ⟨z, hz, h0⟩ := R.at_; rw [List.getD_eq_getElem?_getD, hz]; exact h0
  | @step u w _ ha _ ih =>
   have hun := (ha.lt hr).1
   have hrel : relax L u w = false := by
    rcases ha with ha | ha
    ·have := (hc _ ha).1; simpa using this
    ·have := (hc _ ha).2; simpa using this
   simp only [relax, Bool.and_eq_false_iff, Bool.or_eq_false_iff, decide_eq_false_iff_not] at hrel
   rcases hrel with h | h
   ·exact absurd ih h
   ·omega
 have := key v h
 rw [List.getD_eq_getElem?_getD, hx] at this; exact this
end Go.Fw
