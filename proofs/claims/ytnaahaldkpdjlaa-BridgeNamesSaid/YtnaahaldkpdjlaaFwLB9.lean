/- A text of the proof. -/
import Derived.Test.YtnaahaldkpdjlaaFwLB8
set_option linter.unusedSimpArgs false
set_option linter.unusedVariables false
namespace Go.Fw
open Go.Proofs
attribute [local irreducible] KO4 KO3 KO2 KO1 KO KN KX KE VK KCond KDraw KCall KLoop
set_option maxHeartbeats 4000000
set_option maxRecDepth 10000
theorem Beside_g (W0 : Base) (v : Value) (n : Nat) (es : List Pr) (h : AHeap) (hg : GR h v ⟨(n : Int), es⟩) (hr : RightG ⟨(n : Int), es⟩) : AC Try.prog W0 55 [v] h fun x h' => RL isG h' x (besM n es) ∧ Le h h' := by
 have hg0 := hg
 obtain ⟨ev, rfl, hp⟩ := hg.open
 have h200 : (n : Int) ≤ 200 := hr.n1
 have h594 : es.length ≤ 594 := hr.len
 have hrng : ∀ p ∈ es, 0 ≤ p.1 ∧ p.1 < p.2 ∧ p.2 < (n : Int) := fun p hpm => by
  obtain ⟨i, hi⟩ := List.mem_iff_getElem?.1 hpm
  exact (hr.ok i (List.getElem?_eq_some_iff.1 hi).1 p hi).1
 refine AC.vc (fn := Try.f55) (c := _) ⟨Try.func55, rfl, by decide⟩ Try.ntmps55 Try.results55 (by simp) fun hwf => ?_
 simp only [argFrame, argFrom, Nat.reduceAdd]
 obtain ⟨h1, b1, le1, wf1, -, lA⟩ := boxG (n := (n : Int)) hwf hp
 generalize h.next = B at *
 have lA1 := lA h1 (Le.refl _)
 have ll := fun g => hp.len g
 simp only [kS1, bLookup, bMapSet, wantA, isCall, stepOp, evalO, evalL, evalP, evalM, putDst, flat, kA, kB, Nat.reduceLT, ↓reduceIte, kC, Nat.reduceEqDiff, aBuiltin, abinG, guardFree, abin, aInt, aUn, aNilCheck, retQ, retQ1, aresults, aresultL, aresult, mkF, undefV, reduceCtorEq, kD, kE, kF, kG, kH, kI, kJ, kK, aExtract, calleeOf, b1, lA1.1]
 refine KCall.intro (by simp only [kS1, bLookup, bMapSet, wantA, isCall, stepOp, evalO, evalL, evalP, evalM, putDst, flat, kA, kB, Nat.reduceLT, ↓reduceIte, kC, Nat.reduceEqDiff, aBuiltin, abinG, guardFree, abin, aInt, aUn, aNilCheck, retQ, retQ1, aresults, aresultL, aresult, mkF, undefV, reduceCtorEq, kD, kE, kF, kG, kH, kI, kJ, kK, aExtract, calleeOf] <;> rfl) ⟨Try.func57, rfl, by decide⟩ (Right_any W0 _ _ h1 (hg0.le le1)) ?_
 rintro x h2 wf2 ⟨⟨bb, rfl, hbb⟩, le2⟩
 obtain rfl : bb = true := hbb.2 hr
 have lA2 := lA h2 le2
 have mk := aMakeSlice1 (P := Try.prog) (t := 32) (z := .slice none 0 0) h2 Try.underlying32 rfl rfl rfl rfl (by kernel_rfl) Try.underlying38 (by kernel_rfl) n (by omega)
 obtain ⟨h3, e3, le3, wf3, o3⟩ := alloc_f wf2 (List.replicate n (.slice none 0 0))
 rw [e3] at mk
 have nL : h2.own h2.next = none := (Le.refl h2).next wf2 (Nat.le_refl _)
 generalize h2.next = L at *
 have lA3 := lA h3 (le2.trans le3)
 simp only [kS1, bLookup, bMapSet, wantA, isCall, stepOp, evalO, evalL, evalP, evalM, putDst, flat, kA, kB, Nat.reduceLT, ↓reduceIte, kC, Nat.reduceEqDiff, aBuiltin, abinG, guardFree, abin, aInt, aUn, aNilCheck, retQ, retQ1, aresults, aresultL, aresult, mkF, undefV, reduceCtorEq, kD, kE, kF, kG, kH, kI, kJ, kK, aExtract, calleeOf, fg0, fg1, aadd, Nat.zero_add, lA2.2.1, mk, lA3.2.2, ll]
 have R0 : Rows h2 h3 L (List.replicate n (.slice none 0 0)) (besM n (es.take 0)) := by
  have : besM n (es.take 0) = List.replicate n [] := by simp [besM]
  rw [this]; exact Rows.start o3 le3 nL
 refine KLoop.intro (fun k fr hh => ∃ (i : Nat) (us : List Value), k = es.length - i ∧ i ≤ es.length ∧ fr = mkF [(3, .slice (some ⟨L, 0, none⟩) n n), (13, ev), (14, .int .i64 es.length), (15, .int .i64 i)] ∧ Rows h2 hh L us (besM n (es.take i)))
  es.length [(3, .slice (some ⟨L, 0, none⟩) n n), (13, ev), (14, .int .i64 es.length), (15, .int .i64 (0 : Nat))] (by simp only [hasAll, kS1, bLookup, bMapSet, wantA, isCall, stepOp, evalO, evalL, evalP, evalM, putDst, flat, kA, kB, Nat.reduceLT, ↓reduceIte, kC, Nat.reduceEqDiff, aBuiltin, abinG, guardFree, abin, aInt, aUn, aNilCheck, retQ, retQ1, aresults, aresultL, aresult, mkF, undefV, reduceCtorEq, kD, kE, kF, kG, kH, kI, kJ, kK, aExtract, calleeOf]; simp) ⟨0, _, rfl, Nat.zero_le _, rfl, R0⟩ ?_
 rintro k fr hh hwh ⟨i, us, rfl, hi, rfl, R⟩
 simp only [kS1, bLookup, bMapSet, wantA, isCall, stepOp, evalO, evalL, evalP, evalM, putDst, flat, kA, kB, Nat.reduceLT, ↓reduceIte, kC, Nat.reduceEqDiff, aBuiltin, abinG, guardFree, abin, aInt, aUn, aNilCheck, retQ, retQ1, aresults, aresultL, aresult, mkF, undefV, reduceCtorEq, kD, kE, kF, kG, kH, kI, kJ, kK, aExtract, calleeOf]
 refine KCond.intro (fun ht => ?_) (fun hf => ?_)
 rotate_left
 ·have hge : es.length ≤ i := lt_f hf
  rw [List.take_of_length_le hge] at R
  simp only [kS1, bLookup, bMapSet, wantA, isCall, stepOp, evalO, evalL, evalP, evalM, putDst, flat, kA, kB, Nat.reduceLT, ↓reduceIte, kC, Nat.reduceEqDiff, aBuiltin, abinG, guardFree, abin, aInt, aUn, aNilCheck, retQ, retQ1, aresults, aresultL, aresult, mkF, undefV, reduceCtorEq, kD, kE, kF, kG, kH, kI, kJ, kK, aExtract, calleeOf]
  exact ⟨R.rlG (by rw [R.len, besM_length]), (le1.trans le2).trans R.le⟩
 have hlt : i < es.length := lt_t ht
 clear ht
 have hpi := getElem?_of hlt
 have htk : es.take (i + 1) = es.take i ++ [es[i]] := List.take_succ_eq_append_getElem hlt
 generalize es[i] = p at hpi htk
 obtain ⟨p1, p2, p3⟩ := hrng p (List.mem_of_getElem? hpi)
 have hph := hp.le ((le1.trans le2).trans R.le)
 have ad := hp.addr (k := .i64) i hlt
 have ld := hph.load hpi
 obtain ⟨h4', h4, e4, e4s, le4, wf4, o4⟩ := new42 hwh p
 have nE2 : hh.own hh.next = none := (Le.refl hh).next hwh (Nat.le_refl _)
 obtain ⟨a, c⟩ := p
 simp only at p1 p2 p3
 obtain ⟨a, rfl⟩ := Int.eq_ofNat_of_zero_le p1
 obtain ⟨c, rfl⟩ := Int.eq_ofNat_of_zero_le (show 0 ≤ c by omega)
 have R4 := R.up le4
 have hnE : ∀ (v : Nat) u, us[v]? = some u → blk u ≠ some hh.next := fun v u hu hb => by
  have hgs : ∃ q, (besM n (es.take i))[v]? = some q := ⟨_, getElem?_of (by rw [← R.len]; exact (List.getElem?_eq_some_iff.1 hu).1)⟩
  obtain ⟨q, hq⟩ := hgs
  exact (R.gs v u q hu hq).blk_own hb nE2
 have hEL : hh.next ≠ L := fun e => by have := R.oL; rw [← e, nE2] at this; cases this
 generalize hh.next = E at *
 simp only [kS1, bLookup, bMapSet, wantA, isCall, stepOp, evalO, evalL, evalP, evalM, putDst, flat, kA, kB, Nat.reduceLT, ↓reduceIte, kC, Nat.reduceEqDiff, aBuiltin, abinG, guardFree, abin, aInt, aUn, aNilCheck, retQ, retQ1, aresults, aresultL, aresult, mkF, undefV, reduceCtorEq, kD, kE, kF, kG, kH, kI, kJ, kK, aExtract, calleeOf, ad, ld, e4, e4s]
 have hrows := besM_rows n (es.take i)
 have htl : (es.take i).length ≤ 594 := by rw [List.length_take]; omega
 have ixL : ∀ (k : IntKind) (j : Nat), j < n → aIndexAddr Try.prog 32 (.slice (some ⟨L, 0, none⟩) n n) (.int k j) = some (.pointer (some ⟨L, j, none⟩)) := fun k j hj => by rw [aIdx Try.underlying32 Try.underlying38 (by kernel_rfl) j hj]; simp [aadd]
 have hba : a < (besM n (es.take i)).length := by rw [besM_length]; omega
 have hra := getElem?_of hba
 have hga : (besM n (es.take i)).getD a [] = (besM n (es.take i))[a] := getD_of hba
 have hla : ((besM n (es.take i))[a]).length ≤ 100000 := by have := hrows _ (List.getElem_mem hba); omega
 generalize (besM n (es.take i))[a] = ra at hra hga hla
 obtain ⟨u, u', h5, h6, h7, hu, e5, e6, e7, l5, l6, oL6, R7, wf7, keep⟩ := R4.push wf4 hra (c : Int) hla
 obtain ⟨keepE6, keepE7, hnE7⟩ := keep _ _ o4 hEL hnE
 have m4a := own0 o4
 have m4b := own1 o4
 have m5a := own0 (l5.own _ _ o4)
 have m5b := own1 (l5.own _ _ o4)
 have m6a := own0 keepE6
 have m6b := own1 keepE6
 have m7a := own0 keepE7
 have m7b := own1 keepE7
 simp only at m4a m4b m5a m5b m6a m6b m7a m7b
 have lu4 : aload Try.prog h4 38 ⟨L, a, none⟩ = some u := by rw [aload_one Try.underlying38 rfl R4.oL]; exact hu
 have lu5 : aload Try.prog h5 38 ⟨L, a, none⟩ = some u := by rw [aload_one Try.underlying38 rfl (l5.own _ _ R4.oL)]; exact hu
 have bs : aBuildSlice Try.prog h4 38 1 [(0, .int .i64 (c : Int))] = some (.slice (some ⟨h4.next, 0, none⟩) 1 1, h5) := by rw [mk1, e5]
 refine KDraw.intro mixed (.fl 0 (.fl 1 (.fl 2 (.fl 3 (.fl 4 (.fl 5 (.fl 6 (.fl 7 (.fl 8 (.fl 9 (.ch 10 [9] (.ch 11 [7, 10] (.fl 12 (.ch 13 [0, 1, 2, 3, 4, 5, 6, 7, 8, 9, 10, 11, 12] (.done) .no)) .no) .no))))))))))) (by kernel_rfl) ?_
 simp only [kS1, bLookup, bMapSet, wantA, isCall, stepOp, evalO, evalL, evalP, evalM, putDst, flat, kA, kB, Nat.reduceLT, ↓reduceIte, kC, Nat.reduceEqDiff, aBuiltin, abinG, guardFree, abin, aInt, aUn, aNilCheck, retQ, retQ1, aresults, aresultL, aresult, mkF, undefV, reduceCtorEq, kD, kE, kF, kG, kH, kI, kJ, kK, aExtract, calleeOf, kD1, Nat.reduceBEq, HoldsAll, kL, kM, kN, kO, pa0, pa1, aadd, Nat.zero_add, m4a, m4b, m5a, m5b, m6a, m6b, ixL _ a (by omega), lu4, lu5, bs, e6, e7]
 -- the other end
 have hl7 : ((besM n (es.take i)).set a (ra ++ [(c : Int)])).length = n := by simp [besM_length]
 have hbc : c < ((besM n (es.take i)).set a (ra ++ [(c : Int)])).length := by omega
 have hrc := getElem?_of hbc
 have hgc : ((besM n (es.take i)).set a (ra ++ [(c : Int)])).getD c [] = ((besM n (es.take i)).set a (ra ++ [(c : Int)]))[c] := getD_of hbc
 have hlc : (((besM n (es.take i)).set a (ra ++ [(c : Int)]))[c]).length ≤ 100000 := by
  rcases List.mem_or_eq_of_mem_set (List.getElem_mem hbc) with e | e
  ·have := hrows _ e; omega
  ·rw [e]; simp; have := hrows ra (List.mem_of_getElem? hra); omega
 generalize ((besM n (es.take i)).set a (ra ++ [(c : Int)]))[c] = rc at hrc hgc hlc
 obtain ⟨w, w', h8, h9, h10, hw, e8, e9, e10, l8, l9, oL9, R10, wf10, keep2⟩ := R7.push wf7 hrc (a : Int) hlc
 obtain ⟨keepE9, keepE10, -⟩ := keep2 _ _ keepE7 hEL hnE7
 have m8a := own0 (l8.own _ _ keepE7)
 have m8b := own1 (l8.own _ _ keepE7)
 have m9a := own0 keepE9
 have m9b := own1 keepE9
 simp only at m8a m8b m9a m9b
 have lw7 : aload Try.prog h7 38 ⟨L, c, none⟩ = some w := by rw [aload_one Try.underlying38 rfl R7.oL]; exact hw
 have lw8 : aload Try.prog h8 38 ⟨L, c, none⟩ = some w := by rw [aload_one Try.underlying38 rfl (l8.own _ _ R7.oL)]; exact hw
 have bs2 : aBuildSlice Try.prog h7 38 1 [(0, .int .i64 (a : Int))] = some (.slice (some ⟨h7.next, 0, none⟩) 1 1, h8) := by rw [mk1, e8]
 refine KDraw.intro mixed (.fl 0 (.fl 1 (.fl 2 (.fl 3 (.fl 4 (.fl 5 (.fl 6 (.fl 7 (.fl 8 (.fl 9 (.ch 10 [9] (.ch 11 [7, 10] (.fl 12 (.ch 13 [0, 1, 2, 3, 4, 5, 6, 7, 8, 9, 10, 11, 12] (.done) .no)) .no) .no))))))))))) (by kernel_rfl) ?_
 simp only [kS1, bLookup, bMapSet, wantA, isCall, stepOp, evalO, evalL, evalP, evalM, putDst, flat, kA, kB, Nat.reduceLT, ↓reduceIte, kC, Nat.reduceEqDiff, aBuiltin, abinG, guardFree, abin, aInt, aUn, aNilCheck, retQ, retQ1, aresults, aresultL, aresult, mkF, undefV, reduceCtorEq, kD, kE, kF, kG, kH, kI, kJ, kK, aExtract, calleeOf, kD1, Nat.reduceBEq, HoldsAll, kL, kM, kN, kO, pa0, pa1, aadd, Nat.zero_add, m7a, m7b, m8a, m8b, m9a, m9b, ixL _ c (by omega), lw7, lw8, bs2, e9, e10, awrap_succ i (by omega)]
 have : besStep (besM n (es.take i)) ((a : Int), (c : Int)) = ((besM n (es.take i)).set a (ra ++ [(c : Int)])).set c (rc ++ [(a : Int)]) := by
  simp only [besStep, Int.toNat_natCast, hga, hgc]
 rw [← this, ← besM_snoc, ← htk] at R10
 exact loop_again (es.length - (i + 1)) [(3, .slice (some ⟨L, 0, none⟩) n n), (13, ev), (14, .int .i64 es.length), (15, .int .i64 (i + 1 : Nat))] (by omega) (by simp only [hasAll, kS1, bLookup, bMapSet, wantA, isCall, stepOp, evalO, evalL, evalP, evalM, putDst, flat, kA, kB, Nat.reduceLT, ↓reduceIte, kC, Nat.reduceEqDiff, aBuiltin, abinG, guardFree, abin, aInt, aUn, aNilCheck, retQ, retQ1, aresults, aresultL, aresult, mkF, undefV, reduceCtorEq, kD, kE, kF, kG, kH, kI, kJ, kK, aExtract, calleeOf]; simp) ⟨i + 1, _, rfl, hlt, rfl, R10⟩
theorem Beside_any (W0 : Base) (v : Value) (n : Nat) (es : List Pr) (h : AHeap) (hg : GR h v ⟨(n : Int), es⟩) (hr : RightG ⟨(n : Int), es⟩) : AC Try.prog W0 55 [v] h fun x h' => RL (RL isI) h' x (besM n es) ∧ Le h h' :=
 (Beside_g W0 v n es h hg hr).mono fun _ _ h => ⟨h.1.map fun _ _ g => g.rl, h.2⟩
end Go.Fw
namespace Go.Fw
open Go.Proofs
set_option maxHeartbeats 4000000
set_option maxRecDepth 10000
def endB (p : Pr) (v : Int) : Bool := decide (p.1 = v) || decide (p.2 = v)
def onE (ps : List Pr) (v : Int) : Bool := ps.any fun p => endB p v
theorem eqP (p q : Pr) : aEq Try.prog 61 (valP p) (valP q) = some (decide (p = q)) := by
 have e : p = q ↔ p.1 = q.1 ∧ p.2 = q.2 := Prod.ext_iff
 simp only [aEq, Try.underlying61, Try.underlying3, valP, allInts, ts3]
 by_cases h1 : p.1 = q.1
 ·by_cases h2 : p.2 = q.2
  ·simp [e, h1, h2]
  ·simp [e, h1, h2]
 ·simp [e, h1]
theorem gfP (p : Pr) : guardFree (valP p) = true := rfl
theorem abinP (p q : Pr) : abinG Try.prog .eql 61 (valP p) (valP q) = some (.bool (decide (p = q))) ∧ abinG Try.prog .neq 61 (valP p) (valP q) = some (.bool (!decide (p = q))) := by
 have h1 : abin Try.prog .eql 61 (valP p) (valP q) = match aEq Try.prog 61 (valP p) (valP q) with | some b => some (.bool b) | none => none := rfl
 have h2 : abin Try.prog .neq 61 (valP p) (valP q) = match aEq Try.prog 61 (valP p) (valP q) with | some b => some (.bool (!b)) | none => none := rfl
 constructor
 ·rw [abinG, gfP, cond_true, h1, eqP]
 ·rw [abinG, gfP, cond_true, h2, eqP]
end Go.Fw
namespace Go.Fw
open Go.Proofs
attribute [local irreducible] KO4 KO3 KO2 KO1 KO KN KX KE VK KCond KDraw KCall KLoop
set_option maxHeartbeats 4000000
set_option maxRecDepth 10000
def meetB (a b : Pr) (web : List Pr) : Bool := (endB b a.1 && !onE web a.1) || (endB b a.2 && !onE web a.2)
theorem SamePairs_any (W0 : Base) (v w : Value) (ps qs : List Pr) (h : AHeap) (hv : PR h v ps) (hw : PR h w qs) (hn : ps.length ≤ 100000) : AC Try.prog W0 24 [v, w] h fun x h' => x = .bool (decide (ps = qs)) ∧ h' = h := by
 refine AC.vc (fn := Try.f24) (c := _) ⟨Try.func24, rfl, by decide⟩ Try.ntmps24 Try.results24 (by simp) fun hwf => ?_
 simp only [argFrame, argFrom, Nat.reduceAdd]
 have lv := fun g => hv.len g
 have lw := fun g => hw.len g
 by_cases c : (ps.length : Int) = (qs.length : Int)
 rotate_left
 ·simp only [kS1, bLookup, bMapSet, wantA, isCall, stepOp, evalO, evalL, evalP, evalM, putDst, flat, kA, kB, Nat.reduceLT, ↓reduceIte, kC, Nat.reduceEqDiff, aBuiltin, abinG, guardFree, abin, aInt, aUn, aNilCheck, retQ, retQ1, aresults, aresultL, aresult, mkF, undefV, reduceCtorEq, kD, kE, kF, kG, kH, kI, kJ, kK, aExtract, calleeOf, lv, lw, bne, eq_false c]
  exact ⟨by rw [decide_eq_false (fun e => c (by rw [e]))], trivial⟩
 have c' : ps.length = qs.length := by omega
 simp only [kS1, bLookup, bMapSet, wantA, isCall, stepOp, evalO, evalL, evalP, evalM, putDst, flat, kA, kB, Nat.reduceLT, ↓reduceIte, kC, Nat.reduceEqDiff, aBuiltin, abinG, guardFree, abin, aInt, aUn, aNilCheck, retQ, retQ1, aresults, aresultL, aresult, mkF, undefV, reduceCtorEq, kD, kE, kF, kG, kH, kI, kJ, kK, aExtract, calleeOf, lv, lw, bne, eq_true c]
 refine KLoop.intro (fun k fr hh => ∃ i : Nat, k = ps.length - i ∧ i ≤ ps.length ∧ hh = h ∧ fr = mkF [(0, v), (1, w), (5, .int .i64 i)] ∧ ps.take i = qs.take i)
  ps.length [(0, v), (1, w), (5, .int .i64 (0 : Nat))] (by simp only [hasAll, kS1, bLookup, bMapSet, wantA, isCall, stepOp, evalO, evalL, evalP, evalM, putDst, flat, kA, kB, Nat.reduceLT, ↓reduceIte, kC, Nat.reduceEqDiff, aBuiltin, abinG, guardFree, abin, aInt, aUn, aNilCheck, retQ, retQ1, aresults, aresultL, aresult, mkF, undefV, reduceCtorEq, kD, kE, kF, kG, kH, kI, kJ, kK, aExtract, calleeOf]; simp) ⟨0, rfl, Nat.zero_le _, rfl, rfl, rfl⟩ ?_
 rintro k fr hh - ⟨i, rfl, hi, rfl, rfl, he⟩
 simp only [kS1, bLookup, bMapSet, wantA, isCall, stepOp, evalO, evalL, evalP, evalM, putDst, flat, kA, kB, Nat.reduceLT, ↓reduceIte, kC, Nat.reduceEqDiff, aBuiltin, abinG, guardFree, abin, aInt, aUn, aNilCheck, retQ, retQ1, aresults, aresultL, aresult, mkF, undefV, reduceCtorEq, kD, kE, kF, kG, kH, kI, kJ, kK, aExtract, calleeOf, lv]
 refine KCond.intro (fun ht => ?_) (fun hf => ?_)
 ·have hlt : i < ps.length := lt_t ht
  have hpi := getElem?_of hlt
  have hqi := getElem?_of (show i < qs.length by omega)
  have t1 : ps.take (i + 1) = ps.take i ++ [ps[i]] := List.take_succ_eq_append_getElem hlt
  have t2 : qs.take (i + 1) = qs.take i ++ [qs[i]'(by omega)] := List.take_succ_eq_append_getElem (by omega)
  generalize ps[i] = p at hpi t1
  generalize qs[i]'(by omega) = q at hqi t2
  have ad := hv.addr (k := .i64) i hlt
  have ld := hv.load hpi
  have ad2 := hw.addr (k := .i64) i (by omega)
  have ld2 := hw.load hqi
  have hab := (abinP p q).2
  simp only [kS1, bLookup, bMapSet, wantA, isCall, stepOp, evalO, evalL, evalP, evalM, putDst, flat, kA, kB, Nat.reduceLT, ↓reduceIte, kC, Nat.reduceEqDiff, aBuiltin, abinG, guardFree, abin, aInt, aUn, aNilCheck, retQ, retQ1, aresults, aresultL, aresult, mkF, undefV, reduceCtorEq, kD, kE, kF, kG, kH, kI, kJ, kK, aExtract, calleeOf]
  refine KDraw.intro mixed (.fl 0 (.fl 1 (.fl 2 (.fl 3 (.fl 4 (.fl 5 (.fl 6 (.fl 7 (.fl 8 (.done)))))))))) (by kernel_rfl) ?_
  cases hb : decide (p = q) with
  | true =>
   rw [hb] at hab
   have e := of_decide_eq_true hb
   simp only [kS1, bLookup, bMapSet, wantA, isCall, stepOp, evalO, evalL, evalP, evalM, putDst, flat, kA, kB, Nat.reduceLT, ↓reduceIte, kC, Nat.reduceEqDiff, aBuiltin, abinG, guardFree, abin, aInt, aUn, aNilCheck, retQ, retQ1, aresults, aresultL, aresult, mkF, undefV, reduceCtorEq, kD, kE, kF, kG, kH, kI, kJ, kK, aExtract, calleeOf, kD1, Nat.reduceBEq, HoldsAll, kL, kM, kN, kO, ad, ld, ad2, ld2, hab, -abinG, awrap_succ i (by omega)]
   exact loop_again (ps.length - (i + 1)) [(0, v), (1, w), (5, .int .i64 (i + 1 : Nat))] (by omega) (by simp only [hasAll, kS1, bLookup, bMapSet, wantA, isCall, stepOp, evalO, evalL, evalP, evalM, putDst, flat, kA, kB, Nat.reduceLT, ↓reduceIte, kC, Nat.reduceEqDiff, aBuiltin, abinG, guardFree, abin, aInt, aUn, aNilCheck, retQ, retQ1, aresults, aresultL, aresult, mkF, undefV, reduceCtorEq, kD, kE, kF, kG, kH, kI, kJ, kK, aExtract, calleeOf]; simp) ⟨i + 1, rfl, hlt, rfl, rfl, by rw [t1, t2, he, e]⟩
  | false =>
   rw [hb] at hab
   have e := of_decide_eq_false hb
   simp only [kS1, bLookup, bMapSet, wantA, isCall, stepOp, evalO, evalL, evalP, evalM, putDst, flat, kA, kB, Nat.reduceLT, ↓reduceIte, kC, Nat.reduceEqDiff, aBuiltin, abinG, guardFree, abin, aInt, aUn, aNilCheck, retQ, retQ1, aresults, aresultL, aresult, mkF, undefV, reduceCtorEq, kD, kE, kF, kG, kH, kI, kJ, kK, aExtract, calleeOf, kD1, Nat.reduceBEq, HoldsAll, kL, kM, kN, kO, ad, ld, ad2, ld2, hab, -abinG]
   exact by rw [decide_eq_false (fun e' => e (by subst e'; rw [hpi] at hqi; injection hqi))]
 ·have hge : ps.length ≤ i := lt_f hf
  rw [List.take_of_length_le hge, List.take_of_length_le (by omega)] at he
  simp only [kS1, bLookup, bMapSet, wantA, isCall, stepOp, evalO, evalL, evalP, evalM, putDst, flat, kA, kB, Nat.reduceLT, ↓reduceIte, kC, Nat.reduceEqDiff, aBuiltin, abinG, guardFree, abin, aInt, aUn, aNilCheck, retQ, retQ1, aresults, aresultL, aresult, mkF, undefV, reduceCtorEq, kD, kE, kF, kG, kH, kI, kJ, kK, aExtract, calleeOf]
  exact ⟨by rw [decide_eq_true he], trivial⟩
theorem SameInts_any (W0 : Base) (v w : Value) (xs ys : List Int) (h : AHeap) (hv : RL isI h v xs) (hw : RL isI h w ys) (hn : xs.length ≤ 100000) : AC Try.prog W0 25 [v, w] h fun x h' => x = .bool (decide (xs = ys)) ∧ h' = h := by
 refine AC.vc (fn := Try.f25) (c := _) ⟨Try.func25, rfl, by decide⟩ Try.ntmps25 Try.results25 (by simp) fun hwf => ?_
 simp only [argFrame, argFrom, Nat.reduceAdd]
 have lv := fun g => hv.len (P := Try.prog) Try.underlying38 g
 have lw := fun g => hw.len (P := Try.prog) Try.underlying38 g
 simp only [kS1, bLookup, bMapSet, wantA, isCall, stepOp, evalO, evalL, evalP, evalM, putDst, flat, kA, kB, Nat.reduceLT, ↓reduceIte, kC, Nat.reduceEqDiff, aBuiltin, abinG, guardFree, abin, aInt, aUn, aNilCheck, retQ, retQ1, aresults, aresultL, aresult, mkF, undefV, reduceCtorEq, kD, kE, kF, kG, kH, kI, kJ, kK, aExtract, calleeOf]
 refine KLoop.intro (fun k fr hh => ∃ i : Nat, k = xs.length - i ∧ i ≤ xs.length ∧ i ≤ ys.length ∧ hh = h ∧ fr = mkF [(0, v), (1, w), (5, .int .i64 i)] ∧ xs.take i = ys.take i)
  xs.length [(0, v), (1, w), (5, .int .i64 (0 : Nat))] (by simp only [hasAll, kS1, bLookup, bMapSet, wantA, isCall, stepOp, evalO, evalL, evalP, evalM, putDst, flat, kA, kB, Nat.reduceLT, ↓reduceIte, kC, Nat.reduceEqDiff, aBuiltin, abinG, guardFree, abin, aInt, aUn, aNilCheck, retQ, retQ1, aresults, aresultL, aresult, mkF, undefV, reduceCtorEq, kD, kE, kF, kG, kH, kI, kJ, kK, aExtract, calleeOf]; simp) ⟨0, rfl, Nat.zero_le _, Nat.zero_le _, rfl, rfl, rfl⟩ ?_
 rintro k fr hh - ⟨i, rfl, hi, hi2, rfl, rfl, he⟩
 have stop : ∀ b : Bool, (b = true ↔ xs.length = i ∧ ys.length = i) → (i < xs.length → i < ys.length → False ∨ xs[i]? ≠ ys[i]?) → b = decide (xs = ys) := fun b hb hne => by
  by_cases e : xs = ys
  ·rw [decide_eq_true e]
   rw [hb]
   subst e
   by_cases c : i < xs.length
   ·rcases hne c c with h | h
    ·exact h.elim
    ·exact absurd rfl h
   ·omega
  ·rw [decide_eq_false e]
   cases b with
   | false => rfl
   | true =>
    obtain ⟨h1, h2⟩ := hb.1 rfl
    rw [List.take_of_length_le (by omega), List.take_of_length_le (by omega)] at he
    exact absurd he e
 by_cases c1 : i < xs.length
 ·have z1 : ((i : Int) < (xs.length : Int)) = True := eq_true (by omega)
  have y1 : ((i : Int) = (xs.length : Int)) = False := eq_false (by omega)
  by_cases c2 : i < ys.length
  ·have z2 : ((i : Int) < (ys.length : Int)) = True := eq_true (by omega)
   have y2 : ((i : Int) = (ys.length : Int)) = False := eq_false (by omega)
   have ad := hv.addr (P := Try.prog) Try.underlying38 Try.underlying3 (by kernel_rfl) (k := .i64) i c1
   have ld := hv.loadI (P := Try.prog) Try.underlying3 rfl i c1
   have ad2 := hw.addr (P := Try.prog) Try.underlying38 Try.underlying3 (by kernel_rfl) (k := .i64) i c2
   have ld2 := hw.loadI (P := Try.prog) Try.underlying3 rfl i c2
   by_cases c3 : xs[i] = ys[i]
   ·simp only [kS1, bLookup, bMapSet, wantA, isCall, stepOp, evalO, evalL, evalP, evalM, putDst, flat, kA, kB, Nat.reduceLT, ↓reduceIte, kC, Nat.reduceEqDiff, aBuiltin, abinG, guardFree, abin, aInt, aUn, aNilCheck, retQ, retQ1, aresults, aresultL, aresult, mkF, undefV, reduceCtorEq, kD, kE, kF, kG, kH, kI, kJ, kK, aExtract, calleeOf]
    refine KDraw.intro mixed (.fl 0 (.fl 1 (.fl 2 (.fl 3 (.fl 4 (.fl 5 (.fl 6 (.fl 7 (.fl 8 (.fl 9 (.fl 10 (.fl 11 (.fl 12 (.fl 13 (.fl 14 (.fl 15 (.fl 16 (.fl 17 (.fl 18 (.fl 19 (.fl 20 (.done)))))))))))))))))))))) (by kernel_rfl) ?_
    simp only [kS1, bLookup, bMapSet, wantA, isCall, stepOp, evalO, evalL, evalP, evalM, putDst, flat, kA, kB, Nat.reduceLT, ↓reduceIte, kC, Nat.reduceEqDiff, aBuiltin, abinG, guardFree, abin, aInt, aUn, aNilCheck, retQ, retQ1, aresults, aresultL, aresult, mkF, undefV, reduceCtorEq, kD, kE, kF, kG, kH, kI, kJ, kK, aExtract, calleeOf, kD1, Nat.reduceBEq, HoldsAll, kL, kM, kN, kO, lv, lw, z1, z2, ad, ld, ad2, ld2, eq_true c3, awrap_succ i (by omega)]
    exact loop_again (xs.length - (i + 1)) [(0, v), (1, w), (5, .int .i64 (i + 1 : Nat))] (by omega) (by simp only [hasAll, kS1, bLookup, bMapSet, wantA, isCall, stepOp, evalO, evalL, evalP, evalM, putDst, flat, kA, kB, Nat.reduceLT, ↓reduceIte, kC, Nat.reduceEqDiff, aBuiltin, abinG, guardFree, abin, aInt, aUn, aNilCheck, retQ, retQ1, aresults, aresultL, aresult, mkF, undefV, reduceCtorEq, kD, kE, kF, kG, kH, kI, kJ, kK, aExtract, calleeOf]; simp) ⟨i + 1, rfl, c1, c2, rfl, rfl, by rw [List.take_succ_eq_append_getElem c1, List.take_succ_eq_append_getElem c2, he, c3]⟩
   ·simp only [kS1, bLookup, bMapSet, wantA, isCall, stepOp, evalO, evalL, evalP, evalM, putDst, flat, kA, kB, Nat.reduceLT, ↓reduceIte, kC, Nat.reduceEqDiff, aBuiltin, abinG, guardFree, abin, aInt, aUn, aNilCheck, retQ, retQ1, aresults, aresultL, aresult, mkF, undefV, reduceCtorEq, kD, kE, kF, kG, kH, kI, kJ, kK, aExtract, calleeOf]
    refine KDraw.intro mixed (.fl 0 (.fl 1 (.fl 2 (.fl 3 (.fl 4 (.fl 5 (.fl 6 (.fl 7 (.fl 8 (.fl 9 (.fl 10 (.fl 11 (.fl 12 (.fl 13 (.fl 14 (.fl 15 (.fl 16 (.fl 17 (.fl 18 (.fl 19 (.fl 20 (.done)))))))))))))))))))))) (by kernel_rfl) ?_
    simp only [kS1, bLookup, bMapSet, wantA, isCall, stepOp, evalO, evalL, evalP, evalM, putDst, flat, kA, kB, Nat.reduceLT, ↓reduceIte, kC, Nat.reduceEqDiff, aBuiltin, abinG, guardFree, abin, aInt, aUn, aNilCheck, retQ, retQ1, aresults, aresultL, aresult, mkF, undefV, reduceCtorEq, kD, kE, kF, kG, kH, kI, kJ, kK, aExtract, calleeOf, kD1, Nat.reduceBEq, HoldsAll, kL, kM, kN, kO, lv, lw, z1, z2, ad, ld, ad2, ld2, eq_false c3, y1, y2]
    exact by rw [← stop false ⟨(fun e => by cases e), fun e => by omega⟩ (fun _ _ => .inr (by rw [getElem?_of c1, getElem?_of c2]; simpa using c3))]
  ·have z2 : ((i : Int) < (ys.length : Int)) = False := eq_false (by omega)
   simp only [kS1, bLookup, bMapSet, wantA, isCall, stepOp, evalO, evalL, evalP, evalM, putDst, flat, kA, kB, Nat.reduceLT, ↓reduceIte, kC, Nat.reduceEqDiff, aBuiltin, abinG, guardFree, abin, aInt, aUn, aNilCheck, retQ, retQ1, aresults, aresultL, aresult, mkF, undefV, reduceCtorEq, kD, kE, kF, kG, kH, kI, kJ, kK, aExtract, calleeOf]
   refine KDraw.intro mixed (.fl 0 (.fl 1 (.fl 2 (.fl 3 (.fl 4 (.fl 5 (.fl 6 (.fl 7 (.fl 8 (.fl 9 (.fl 10 (.fl 11 (.fl 12 (.fl 13 (.fl 14 (.fl 15 (.fl 16 (.fl 17 (.fl 18 (.fl 19 (.fl 20 (.done)))))))))))))))))))))) (by kernel_rfl) ?_
   simp only [kS1, bLookup, bMapSet, wantA, isCall, stepOp, evalO, evalL, evalP, evalM, putDst, flat, kA, kB, Nat.reduceLT, ↓reduceIte, kC, Nat.reduceEqDiff, aBuiltin, abinG, guardFree, abin, aInt, aUn, aNilCheck, retQ, retQ1, aresults, aresultL, aresult, mkF, undefV, reduceCtorEq, kD, kE, kF, kG, kH, kI, kJ, kK, aExtract, calleeOf, kD1, Nat.reduceBEq, HoldsAll, kL, kM, kN, kO, lv, lw, z1, z2, y1]
   exact by rw [← stop false ⟨(fun e => by cases e), fun e => by omega⟩ (fun _ e => absurd e c2)]
 ·have z1 : ((i : Int) < (xs.length : Int)) = False := eq_false (by omega)
  have y1 : ((i : Int) = (xs.length : Int)) = True := eq_true (by omega)
  simp only [kS1, bLookup, bMapSet, wantA, isCall, stepOp, evalO, evalL, evalP, evalM, putDst, flat, kA, kB, Nat.reduceLT, ↓reduceIte, kC, Nat.reduceEqDiff, aBuiltin, abinG, guardFree, abin, aInt, aUn, aNilCheck, retQ, retQ1, aresults, aresultL, aresult, mkF, undefV, reduceCtorEq, kD, kE, kF, kG, kH, kI, kJ, kK, aExtract, calleeOf]
  refine KDraw.intro mixed (.fl 0 (.fl 1 (.fl 2 (.fl 3 (.fl 4 (.fl 5 (.fl 6 (.fl 7 (.fl 8 (.fl 9 (.fl 10 (.fl 11 (.fl 12 (.fl 13 (.fl 14 (.fl 15 (.fl 16 (.fl 17 (.fl 18 (.fl 19 (.fl 20 (.done)))))))))))))))))))))) (by kernel_rfl) ?_
  simp only [kS1, bLookup, bMapSet, wantA, isCall, stepOp, evalO, evalL, evalP, evalM, putDst, flat, kA, kB, Nat.reduceLT, ↓reduceIte, kC, Nat.reduceEqDiff, aBuiltin, abinG, guardFree, abin, aInt, aUn, aNilCheck, retQ, retQ1, aresults, aresultL, aresult, mkF, undefV, reduceCtorEq, kD, kE, kF, kG, kH, kI, kJ, kK, aExtract, calleeOf, kD1, Nat.reduceBEq, HoldsAll, kL, kM, kN, kO, lv, lw, z1, y1]
  exact by rw [← stop (decide ((i : Int) = (ys.length : Int))) (by rw [decide_eq_true_iff]; omega) (fun e => absurd e c1)]
end Go.Fw
