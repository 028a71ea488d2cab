/- A text of the proof. -/
import Derived.Test.YtnaahaldkpdjlaaFwLF8
import Derived.Test.YtnaahaldkpdjlaaFwLN1
import Derived.Test.YtnaahaldkpdjlaaFwLZ11
import Derived.Test.YtnaahaldkpdjlaaFwLB11
set_option linter.unusedSimpArgs false
set_option linter.unusedVariables false
namespace Go.Fw
open Go.Proofs
attribute [local irreducible] KO4 KO3 KO2 KO1 KO KN KX KE VK KCond KDraw KCall KLoop
set_option maxHeartbeats 16000000
set_option maxRecDepth 10000
attribute [local instance] Classical.propDecidable
def RowsV (b0 h : AHeap) (x : Value) (rows : List (List Int)) : Prop := ∃ L us, x = .slice (some ⟨L, 0, none⟩) rows.length rows.length ∧ Rows b0 h L us rows
theorem RowsV.rl {b0 h : AHeap} {x : Value} {rows : List (List Int)} (R : RowsV b0 h x rows) : RL (RL isI) h x rows := by
 obtain ⟨L, us, rfl, R⟩ := R; exact R.rl R.len
theorem RowsV.le {b0 h : AHeap} {x : Value} {rows : List (List Int)} (R : RowsV b0 h x rows) : Le b0 h := by
 obtain ⟨L, us, rfl, R⟩ := R; exact R.le
theorem Rows.put {b0 h : AHeap} {L : Nat} {us : List Value} {rows : List (List Int)} (R : Rows b0 h L us rows) (hwf : WF h) {w : Nat} {u : Value} {r : List Int} (hu : us[w]? = some u) (hr : rows[w]? = some r) {i : Nat} (hi : i < r.length) (x : Int) :
  ∃ h', aStore Try.prog h 3 (.pointer (some (elemAddr u i))) (.int .i64 x) = some h' ∧ Rows b0 h' L us (rows.set w (r.set i x)) ∧ WF h' ∧ (∀ f, Le f h → Apart f u → Le f h') ∧ (∀ b o, h.own b = some o → blk u ≠ some b → h'.own b = some o) := by
 obtain ⟨h', e, g, wf, lf, keep⟩ := GI.store (show GI h u r from R.gs w u r hu hr) hwf hi x
 refine ⟨h', e, ⟨keep _ _ R.oL (R.nL w u hu), by rw [List.length_set]; exact R.len, fun v a q ha hq => ?_, R.nL, R.dis, R.ap, lf _ R.le (R.ap w u hu), R.bL⟩, wf, lf, keep⟩
 rw [List.getElem?_set] at hq
 by_cases c : w = v
 ·subst c
  rw [if_pos rfl, if_pos (List.getElem?_eq_some_iff.1 hr).1] at hq
  injection hq with hq; subst hq
  rw [hu] at ha; injection ha with ha; subst ha
  exact g
 ·rw [if_neg c] at hq
  refine (R.gs v a q ha hq).kept fun b o hb ho => keep b o ho fun hb' => R.dis w v u a b c hu ha hb' hb
end Go.Fw
namespace Go.Fw
open Go.Proofs
attribute [local irreducible] KO4 KO3 KO2 KO1 KO KN KX KE VK KCond KDraw KCall KLoop
set_option maxHeartbeats 16000000
set_option maxRecDepth 10000
attribute [local instance] Classical.propDecidable
def GreatM (rs : List (List Int)) : Prop := (∃ l ∈ rs, 40 < l.length) ∨ 30 < rs.length
theorem SameLists_any (W0 : Base) (v w : Value) (xs ys : List (List Int)) (h : AHeap) (hv : RL (RL isI) h v xs) (hw : RL (RL isI) h w ys) (hn : xs.length ≤ 100000) (hl : ∀ l ∈ xs, l.length ≤ 100000) :
  AC Try.prog W0 32 [v, w] h fun x h' => x = .bool (decide (xs = ys)) ∧ h' = h := by
 refine AC.vc (fn := Try.f32) (c := _) ⟨Try.func32, rfl, by decide⟩ Try.ntmps32 Try.results32 (by simp) fun hwf => ?_
 simp only [argFrame, argFrom, Nat.reduceAdd]
 have lv := fun g => hv.len (P := Try.prog) Try.underlying32 g
 have lw := fun g => hw.len (P := Try.prog) Try.underlying32 g
 by_cases c0 : xs.length = ys.length
 rotate_left
 ·have d : decide ((xs.length : Int) = (ys.length : Int)) = false := decide_eq_false (by omega)
  have e : decide (xs = ys) = false := decide_eq_false (fun e => c0 (by rw [e]))
  simp only [kS1, bLookup, bMapSet, wantA, isCall, stepOp, evalO, evalL, evalP, evalM, putDst, flat, kA, kB, Nat.reduceLT, ↓reduceIte, kC, Nat.reduceEqDiff, aBuiltin, abinG, guardFree, abin, aInt, aUn, aNilCheck, retQ, retQ1, aresults, aresultL, aresult, mkF, undefV, reduceCtorEq, kD, kE, kF, kG, kH, kI, kJ, kK, aExtract, calleeOf, lv, lw, bne, d, e]
  exact ⟨trivial, trivial⟩
 have d : decide ((xs.length : Int) = (ys.length : Int)) = true := decide_eq_true (by omega)
 simp only [kS1, bLookup, bMapSet, wantA, isCall, stepOp, evalO, evalL, evalP, evalM, putDst, flat, kA, kB, Nat.reduceLT, ↓reduceIte, kC, Nat.reduceEqDiff, aBuiltin, abinG, guardFree, abin, aInt, aUn, aNilCheck, retQ, retQ1, aresults, aresultL, aresult, mkF, undefV, reduceCtorEq, kD, kE, kF, kG, kH, kI, kJ, kK, aExtract, calleeOf, lv, lw, bne, d]
 refine KLoop.intro (fun k fr hq => ∃ i, k = xs.length - i ∧ i ≤ xs.length ∧ fr = mkF [(0, v), (1, w), (5, .int .i64 i)] ∧ hq = h ∧ xs.take i = ys.take i)
  xs.length [(0, v), (1, w), (5, .int .i64 (0 : Nat))] (by simp only [hasAll, kS1, bLookup, bMapSet, wantA, isCall, stepOp, evalO, evalL, evalP, evalM, putDst, flat, kA, kB, Nat.reduceLT, ↓reduceIte, kC, Nat.reduceEqDiff, aBuiltin, abinG, guardFree, abin, aInt, aUn, aNilCheck, retQ, retQ1, aresults, aresultL, aresult, mkF, undefV, reduceCtorEq, kD, kE, kF, kG, kH, kI, kJ, kK, aExtract, calleeOf]; simp) ⟨0, rfl, Nat.zero_le _, rfl, rfl, rfl⟩ ?_
 rintro k fr hq hwq ⟨i, rfl, hi, rfl, rfl, he⟩
 simp only [kS1, bLookup, bMapSet, wantA, isCall, stepOp, evalO, evalL, evalP, evalM, putDst, flat, kA, kB, Nat.reduceLT, ↓reduceIte, kC, Nat.reduceEqDiff, aBuiltin, abinG, guardFree, abin, aInt, aUn, aNilCheck, retQ, retQ1, aresults, aresultL, aresult, mkF, undefV, reduceCtorEq, kD, kE, kF, kG, kH, kI, kJ, kK, aExtract, calleeOf, lv]
 refine KCond.intro (fun ht => ?_) (fun hf => ?_)
 ·have hlt : i < xs.length := lt_t ht
  clear ht
  have hlt2 : i < ys.length := by omega
  have ar := hv.addr (P := Try.prog) Try.underlying32 Try.underlying38 (by kernel_rfl) (k := .i64) i hlt
  obtain ⟨u, lu, hu⟩ := hv.load (P := Try.prog) Try.underlying38 rfl i hlt
  have ar2 := hw.addr (P := Try.prog) Try.underlying32 Try.underlying38 (by kernel_rfl) (k := .i64) i hlt2
  obtain ⟨u2, lu2, hu2⟩ := hw.load (P := Try.prog) Try.underlying38 rfl i hlt2
  have htk : xs.take (i + 1) = xs.take i ++ [xs[i]] := List.take_succ_eq_append_getElem hlt
  have htk2 : ys.take (i + 1) = ys.take i ++ [ys[i]] := List.take_succ_eq_append_getElem hlt2
  simp only [kS1, bLookup, bMapSet, wantA, isCall, stepOp, evalO, evalL, evalP, evalM, putDst, flat, kA, kB, Nat.reduceLT, ↓reduceIte, kC, Nat.reduceEqDiff, aBuiltin, abinG, guardFree, abin, aInt, aUn, aNilCheck, retQ, retQ1, aresults, aresultL, aresult, mkF, undefV, reduceCtorEq, kD, kE, kF, kG, kH, kI, kJ, kK, aExtract, calleeOf]
  refine KDraw.intro mixed (.fl 0 (.fl 1 (.fl 2 (.fl 3 (.fl 4 (.fl 5 (.fl 6 (.fl 7 (.ch 8 [3, 7] (.fl 9 (.done)) .no))))))))) (by kernel_rfl) ?_
  simp only [kS1, bLookup, bMapSet, wantA, isCall, stepOp, evalO, evalL, evalP, evalM, putDst, flat, kA, kB, Nat.reduceLT, ↓reduceIte, kC, Nat.reduceEqDiff, aBuiltin, abinG, guardFree, abin, aInt, aUn, aNilCheck, retQ, retQ1, aresults, aresultL, aresult, mkF, undefV, reduceCtorEq, kD, kE, kF, kG, kH, kI, kJ, kK, aExtract, calleeOf, kD1, Nat.reduceBEq, HoldsAll, kL, kM, kN, kO, ar, lu, ar2, lu2]
  refine KGCall.intro (by simp only [kS1, bLookup, bMapSet, wantA, isCall, stepOp, evalO, evalL, evalP, evalM, putDst, flat, kA, kB, Nat.reduceLT, ↓reduceIte, kC, Nat.reduceEqDiff, aBuiltin, abinG, guardFree, abin, aInt, aUn, aNilCheck, retQ, retQ1, aresults, aresultL, aresult, mkF, undefV, reduceCtorEq, kD, kE, kF, kG, kH, kI, kJ, kK, aExtract, calleeOf] <;> rfl) ⟨Try.func25, rfl, by decide⟩ (SameInts_any W0 u u2 xs[i] ys[i] hq hu hu2 (hl _ (List.getElem_mem hlt))) ?_
  rintro x h2 w2 ⟨rfl, rfl⟩
  have hw := awrap_succ i (by omega)
  by_cases c : xs[i] = ys[i]
  ·simp only [kS1, bLookup, bMapSet, wantA, isCall, stepOp, evalO, evalL, evalP, evalM, putDst, flat, kA, kB, Nat.reduceLT, ↓reduceIte, kC, Nat.reduceEqDiff, aBuiltin, abinG, guardFree, abin, aInt, aUn, aNilCheck, retQ, retQ1, aresults, aresultL, aresult, mkF, undefV, reduceCtorEq, kD, kE, kF, kG, kH, kI, kJ, kK, aExtract, calleeOf, kD1, Nat.reduceBEq, HoldsAll, kL, kM, kN, kO, ar, lu, ar2, lu2, decide_eq_true c, hw]
   exact loop_again (xs.length - (i + 1)) [(0, v), (1, w), (5, .int .i64 (i + 1 : Nat))] (stp hlt) (by simp only [hasAll, kS1, bLookup, bMapSet, wantA, isCall, stepOp, evalO, evalL, evalP, evalM, putDst, flat, kA, kB, Nat.reduceLT, ↓reduceIte, kC, Nat.reduceEqDiff, aBuiltin, abinG, guardFree, abin, aInt, aUn, aNilCheck, retQ, retQ1, aresults, aresultL, aresult, mkF, undefV, reduceCtorEq, kD, kE, kF, kG, kH, kI, kJ, kK, aExtract, calleeOf]; simp) ⟨i + 1, rfl, hlt, rfl, rfl, by rw [htk, htk2, he, c]⟩
  ·have e : decide (xs = ys) = false := decide_eq_false (fun e => c (by subst e; rfl))
   simp only [kS1, bLookup, bMapSet, wantA, isCall, stepOp, evalO, evalL, evalP, evalM, putDst, flat, kA, kB, Nat.reduceLT, ↓reduceIte, kC, Nat.reduceEqDiff, aBuiltin, abinG, guardFree, abin, aInt, aUn, aNilCheck, retQ, retQ1, aresults, aresultL, aresult, mkF, undefV, reduceCtorEq, kD, kE, kF, kG, kH, kI, kJ, kK, aExtract, calleeOf, kD1, Nat.reduceBEq, HoldsAll, kL, kM, kN, kO, ar, lu, ar2, lu2, decide_eq_false c, e]
 ·have hge : xs.length ≤ i := lt_f hf
  rw [List.take_of_length_le hge, List.take_of_length_le (by omega)] at he
  simp only [kS1, bLookup, bMapSet, wantA, isCall, stepOp, evalO, evalL, evalP, evalM, putDst, flat, kA, kB, Nat.reduceLT, ↓reduceIte, kC, Nat.reduceEqDiff, aBuiltin, abinG, guardFree, abin, aInt, aUn, aNilCheck, retQ, retQ1, aresults, aresultL, aresult, mkF, undefV, reduceCtorEq, kD, kE, kF, kG, kH, kI, kJ, kK, aExtract, calleeOf, decide_eq_true he]
  exact ⟨trivial, trivial⟩
theorem mkR (h : AHeap) {u : Value} {n : Nat} (hu : isSl u n) : aBuildSlice Try.prog h 52 1 [(0, u)] = some (.slice (some ⟨h.next, 0, none⟩) 1 1, h.alloc (.cells [u])) := by
 obtain ⟨a, c, rfl, _⟩ := hu; rfl
theorem Copy_any (W0 : Base) (v : Value) (rs : List (List Int)) (h : AHeap) (hv : RL (RL isI) h v rs) (hn : rs.length ≤ 100000) (hl : ∀ l ∈ rs, l.length ≤ 100000) : AC Try.prog W0 35 [v] h fun x h' => RL (RL isI) h' x rs ∧ Le h h' := by
 refine AC.vc (fn := Try.f35) (c := _) ⟨Try.func35, rfl, by decide⟩ Try.ntmps35 Try.results35 (by simp) fun hwf => ?_
 simp only [argFrame, argFrom, Nat.reduceAdd]
 have lr := fun g => hv.len (P := Try.prog) Try.underlying52 g
 simp only [kS1, bLookup, bMapSet, wantA, isCall, stepOp, evalO, evalL, evalP, evalM, putDst, flat, kA, kB, Nat.reduceLT, ↓reduceIte, kC, Nat.reduceEqDiff, aBuiltin, abinG, guardFree, abin, aInt, aUn, aNilCheck, retQ, retQ1, aresults, aresultL, aresult, mkF, undefV, reduceCtorEq, kD, kE, kF, kG, kH, kI, kJ, kK, aExtract, calleeOf, lr]
 refine KLoop.intro (fun k fr hq => ∃ (i : Nat) (ov : Value), k = rs.length - i ∧ i ≤ rs.length ∧ fr = mkF [(3, ov), (6, v), (7, .int .i64 rs.length), (8, .int .i64 i)] ∧ GRL (RL isI) hq ov (rs.take i) ∧ Le h hq ∧ Apart h ov)
  rs.length [(3, .slice none 0 0), (6, v), (7, .int .i64 rs.length), (8, .int .i64 (0 : Nat))] (by simp only [hasAll, kS1, bLookup, bMapSet, wantA, isCall, stepOp, evalO, evalL, evalP, evalM, putDst, flat, kA, kB, Nat.reduceLT, ↓reduceIte, kC, Nat.reduceEqDiff, aBuiltin, abinG, guardFree, abin, aInt, aUn, aNilCheck, retQ, retQ1, aresults, aresultL, aresult, mkF, undefV, reduceCtorEq, kD, kE, kF, kG, kH, kI, kJ, kK, aExtract, calleeOf]; simp) ⟨0, _, rfl, Nat.zero_le _, rfl, GRL.nil _ _, Le.refl _, fun b hb => by simp [blk] at hb⟩ ?_
 rintro k fr hq hwq ⟨i, ov, rfl, hi, rfl, go, lq, ao⟩
 simp only [kS1, bLookup, bMapSet, wantA, isCall, stepOp, evalO, evalL, evalP, evalM, putDst, flat, kA, kB, Nat.reduceLT, ↓reduceIte, kC, Nat.reduceEqDiff, aBuiltin, abinG, guardFree, abin, aInt, aUn, aNilCheck, retQ, retQ1, aresults, aresultL, aresult, mkF, undefV, reduceCtorEq, kD, kE, kF, kG, kH, kI, kJ, kK, aExtract, calleeOf]
 refine KCond.intro (fun ht => ?_) (fun hf => ?_)
 ·have hlt : i < rs.length := lt_t ht
  clear ht
  have ar := hv.addr (P := Try.prog) Try.underlying52 Try.underlying38 (by kernel_rfl) (k := .i64) i hlt
  obtain ⟨u, lu', hu⟩ := hv.load' (P := Try.prog) Try.underlying38 rfl i hlt
  have lu := lu' hq lq
  have htk : rs.take (i + 1) = rs.take i ++ [rs[i]] := List.take_succ_eq_append_getElem hlt
  have hll := hl _ (List.getElem_mem hlt)
  generalize rs[i] = r at *
  simp only [kS1, bLookup, bMapSet, wantA, isCall, stepOp, evalO, evalL, evalP, evalM, putDst, flat, kA, kB, Nat.reduceLT, ↓reduceIte, kC, Nat.reduceEqDiff, aBuiltin, abinG, guardFree, abin, aInt, aUn, aNilCheck, retQ, retQ1, aresults, aresultL, aresult, mkF, undefV, reduceCtorEq, kD, kE, kF, kG, kH, kI, kJ, kK, aExtract, calleeOf, ar, lu]
  refine KCall.intro (by simp only [kS1, bLookup, bMapSet, wantA, isCall, stepOp, evalO, evalL, evalP, evalM, putDst, flat, kA, kB, Nat.reduceLT, ↓reduceIte, kC, Nat.reduceEqDiff, aBuiltin, abinG, guardFree, abin, aInt, aUn, aNilCheck, retQ, retQ1, aresults, aresultL, aresult, mkF, undefV, reduceCtorEq, kD, kE, kF, kG, kH, kI, kJ, kK, aExtract, calleeOf] <;> rfl) ⟨Try.func29, rfl, by decide⟩ (CopyInts_any W0 u r hq (hu.le Stays.isI lq) hll) ?_
  rintro cv h2 w2 ⟨gc, l2, ac⟩
  have go2 := go.le (Stays.RL Stays.isI) l2
  have hcb : ∀ b, blk cv = some b → b ∉ bl ov := fun b hb hm => by
   obtain ⟨us, g1, _⟩ := go
   exact GS.blk_own g1 (mem_bl.1 hm) (ac b hb)
  have gu : RL isI (rem (bl ov) h2) cv r := GI.rl (GS.to_rem gc hcb)
  obtain ⟨h4, pv', h5, e4, e5, gp, l5, w5, f5, k5⟩ := GRL.push (P := Try.prog) (t := 52) (Stays.RL Stays.isI) (by kernel_rfl) go2 w2 gu gu.sl.one (by rw [List.length_take]; omega)
  obtain ⟨l6, a6⟩ := f5 h (lq.trans l2) ao
  have hw := awrap_succ i (by omega)
  have bs : aBuildSlice Try.prog h2 52 1 [(0, cv)] = some (.slice (some ⟨h2.next, 0, none⟩) 1 1, h4) := by rw [mkR h2 gu.sl, e4]
  simp only [kS1, bLookup, bMapSet, wantA, isCall, stepOp, evalO, evalL, evalP, evalM, putDst, flat, kA, kB, Nat.reduceLT, ↓reduceIte, kC, Nat.reduceEqDiff, aBuiltin, abinG, guardFree, abin, aInt, aUn, aNilCheck, retQ, retQ1, aresults, aresultL, aresult, mkF, undefV, reduceCtorEq, kD, kE, kF, kG, kH, kI, kJ, kK, aExtract, calleeOf, bs, e5, hw]
  exact loop_again (rs.length - (i + 1)) [(3, pv'), (6, v), (7, .int .i64 rs.length), (8, .int .i64 (i + 1 : Nat))] (stp hlt) (by simp only [hasAll, kS1, bLookup, bMapSet, wantA, isCall, stepOp, evalO, evalL, evalP, evalM, putDst, flat, kA, kB, Nat.reduceLT, ↓reduceIte, kC, Nat.reduceEqDiff, aBuiltin, abinG, guardFree, abin, aInt, aUn, aNilCheck, retQ, retQ1, aresults, aresultL, aresult, mkF, undefV, reduceCtorEq, kD, kE, kF, kG, kH, kI, kJ, kK, aExtract, calleeOf]; simp) ⟨i + 1, pv', rfl, hlt, rfl, by rw [htk]; exact gp, l6, a6⟩
 ·have hge : rs.length ≤ i := lt_f hf
  rw [List.take_of_length_le hge] at go
  simp only [kS1, bLookup, bMapSet, wantA, isCall, stepOp, evalO, evalL, evalP, evalM, putDst, flat, kA, kB, Nat.reduceLT, ↓reduceIte, kC, Nat.reduceEqDiff, aBuiltin, abinG, guardFree, abin, aInt, aUn, aNilCheck, retQ, retQ1, aresults, aresultL, aresult, mkF, undefV, reduceCtorEq, kD, kE, kF, kG, kH, kI, kJ, kK, aExtract, calleeOf]
  exact ⟨go.rl (Stays.RL Stays.isI), lq⟩
end Go.Fw
