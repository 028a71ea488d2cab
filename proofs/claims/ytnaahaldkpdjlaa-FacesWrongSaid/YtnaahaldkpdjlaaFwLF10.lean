/- A text of the proof. -/
import Derived.Test.YtnaahaldkpdjlaaFwLF9
import Derived.Test.YtnaahaldkpdjlaaFwLZ11
import Derived.Test.YtnaahaldkpdjlaaFwLB10
import Derived.Test.YtnaahaldkpdjlaaFwLC8
import Derived.Test.YtnaahaldkpdjlaaFwLT7
import Derived.Test.YtnaahaldkpdjlaaFwLT4
import Derived.Test.YtnaahaldkpdjlaaFwLW4
import Derived.Test.YtnaahaldkpdjlaaFwFrame
import Derived.Test.YtnaahaldkpdjlaaFwLZ10
import Derived.Test.YtnaahaldkpdjlaaFwPla
set_option linter.unusedSimpArgs false
set_option linter.unusedVariables false
namespace Go.Fw
open Go.Proofs
attribute [local irreducible] KO4 KO3 KO2 KO1 KO KN KX KE VK KCond KDraw KCall KLoop
set_option maxHeartbeats 16000000
set_option maxRecDepth 10000
attribute [local instance] Classical.propDecidable
theorem right7_any (W0 : Base) (v : Value) (G : GM) (h : AHeap) (hg : GR h v G) : AC Try.prog W0 26 [v] h fun x h' => BoolIs (RightG G ∧ G.n ≤ 30) x ∧ Le h h' := by
 have hg0 := hg
 obtain ⟨gn, es⟩ := G
 obtain ⟨ev, rfl, hp⟩ := hg.open
 refine AC.vc (fn := Try.f26) (c := _) ⟨Try.func26, rfl, by decide⟩ Try.ntmps26 Try.results26 (by simp) fun hwf => ?_
 simp only [argFrame, argFrom, Nat.reduceAdd]
 obtain ⟨h1, b1, le1, wf1, -, lA⟩ := boxG (n := gn) hwf hp
 generalize h.next = B at *
 have lA1 := lA h1 (Le.refl _)
 simp only [kS1, bLookup, bMapSet, wantA, isCall, stepOp, evalO, evalL, evalP, evalM, putDst, flat, kA, kB, Nat.reduceLT, ↓reduceIte, kC, Nat.reduceEqDiff, aBuiltin, abinG, guardFree, abin, aInt, aUn, aNilCheck, retQ, retQ1, aresults, aresultL, aresult, mkF, undefV, reduceCtorEq, kD, kE, kF, kG, kH, kI, kJ, kK, aExtract, calleeOf, b1, lA1.1]
 refine KCall.intro (by simp only [kS1, bLookup, bMapSet, wantA, isCall, stepOp, evalO, evalL, evalP, evalM, putDst, flat, kA, kB, Nat.reduceLT, ↓reduceIte, kC, Nat.reduceEqDiff, aBuiltin, abinG, guardFree, abin, aInt, aUn, aNilCheck, retQ, retQ1, aresults, aresultL, aresult, mkF, undefV, reduceCtorEq, kD, kE, kF, kG, kH, kI, kJ, kK, aExtract, calleeOf] <;> rfl) ⟨Try.func57, rfl, by decide⟩ (Right_any W0 _ _ h1 (hg0.le le1)) ?_
 rintro x h2 wf2 ⟨⟨bb, rfl, hbb⟩, le2⟩
 have lA2 := lA h2 le2
 cases bb with
 | false =>
  simp only [kS1, bLookup, bMapSet, wantA, isCall, stepOp, evalO, evalL, evalP, evalM, putDst, flat, kA, kB, Nat.reduceLT, ↓reduceIte, kC, Nat.reduceEqDiff, aBuiltin, abinG, guardFree, abin, aInt, aUn, aNilCheck, retQ, retQ1, aresults, aresultL, aresult, mkF, undefV, reduceCtorEq, kD, kE, kF, kG, kH, kI, kJ, kK, aExtract, calleeOf]
  exact ⟨BoolIs.f (fun h => by cases hbb.2 h.1), le1.trans le2⟩
 | true =>
  simp only [kS1, bLookup, bMapSet, wantA, isCall, stepOp, evalO, evalL, evalP, evalM, putDst, flat, kA, kB, Nat.reduceLT, ↓reduceIte, kC, Nat.reduceEqDiff, aBuiltin, abinG, guardFree, abin, aInt, aUn, aNilCheck, retQ, retQ1, aresults, aresultL, aresult, mkF, undefV, reduceCtorEq, kD, kE, kF, kG, kH, kI, kJ, kK, aExtract, calleeOf, fg0, aadd, Nat.zero_add, lA2.2.1]
  exact ⟨⟨_, rfl, by simp [hbb.1 rfl]⟩, le1.trans le2⟩
theorem SameLists_any (W0 : Base) (v w : Value) (xs ys : List (List Int)) (h : AHeap) (hv : RL (RL isI) h v xs) (hw : RL (RL isI) h w ys) (hn : xs.length ≤ 100000) (hl : ∀ l ∈ xs, l.length ≤ 100000) :
  AC Try.prog W0 32 [v, w] h fun x h' => x = .bool (decide (xs = ys)) ∧ h' = h := by
 refine AC.vc (fn := Try.f32) (c := _) ⟨Try.func32, rfl, by decide⟩ Try.ntmps32 Try.results32 (by simp) fun hwf => ?_
 simp only [argFrame, argFrom, Nat.reduceAdd]
 have lv := fun g => hv.len (P := Try.prog) Try.underlying32 g
 have lw := fun g => hw.len (P := Try.prog) Try.underlying32 g
 by_cases c0 : xs.length = ys.length
 rotate_left
 ·have d : decide ((xs.length : Int) = (ys.length : Int)) = false := decide_eq_false (by omega)
  have e : decide (xs = ys) = false := decide_eq_false (fun e => c0 (by rw [e]))
  simp only [kS1, bLookup, bMapSet, wantA, isCall, stepOp, evalO, evalL, evalP, evalM, putDst, flat, kA, kB, Nat.reduceLT, ↓reduceIte, kC, Nat.reduceEqDiff, aBuiltin, abinG, guardFree, abin, aInt, aUn, aNilCheck, retQ, retQ1, aresults, aresultL, aresult, mkF, undefV, reduceCtorEq, kD, kE, kF, kG, kH, kI, kJ, kK, aExtract, calleeOf, lv, lw, bne, d, e]
  exact ⟨trivial, trivial⟩
 have d : decide ((xs.length : Int) = (ys.length : Int)) = true := decide_eq_true (by omega)
 simp only [kS1, bLookup, bMapSet, wantA, isCall, stepOp, evalO, evalL, evalP, evalM, putDst, flat, kA, kB, Nat.reduceLT, ↓reduceIte, kC, Nat.reduceEqDiff, aBuiltin, abinG, guardFree, abin, aInt, aUn, aNilCheck, retQ, retQ1, aresults, aresultL, aresult, mkF, undefV, reduceCtorEq, kD, kE, kF, kG, kH, kI, kJ, kK, aExtract, calleeOf, lv, lw, bne, d]
 refine KLoop.intro (fun k fr hq => ∃ i, k = xs.length - i ∧ i ≤ xs.length ∧ fr = mkF [(0, v), (1, w), (5, .int .i64 i)] ∧ hq = h ∧ xs.take i = ys.take i)
  xs.length [(0, v), (1, w), (5, .int .i64 (0 : Nat))] (by simp only [hasAll, kS1, bLookup, bMapSet, wantA, isCall, stepOp, evalO, evalL, evalP, evalM, putDst, flat, kA, kB, Nat.reduceLT, ↓reduceIte, kC, Nat.reduceEqDiff, aBuiltin, abinG, guardFree, abin, aInt, aUn, aNilCheck, retQ, retQ1, aresults, aresultL, aresult, mkF, undefV, reduceCtorEq, kD, kE, kF, kG, kH, kI, kJ, kK, aExtract, calleeOf]; simp) ⟨0, rfl, Nat.zero_le _, rfl, rfl, rfl⟩ ?_
 rintro k fr hq hwq ⟨i, rfl, hi, rfl, rfl, he⟩
 simp only [kS1, bLookup, bMapSet, wantA, isCall, stepOp, evalO, evalL, evalP, evalM, putDst, flat, kA, kB, Nat.reduceLT, ↓reduceIte, kC, Nat.reduceEqDiff, aBuiltin, abinG, guardFree, abin, aInt, aUn, aNilCheck, retQ, retQ1, aresults, aresultL, aresult, mkF, undefV, reduceCtorEq, kD, kE, kF, kG, kH, kI, kJ, kK, aExtract, calleeOf, lv]
 refine KCond.intro (fun ht => ?_) (fun hf => ?_)
 ·have hlt : i < xs.length := lt_t ht
  clear ht
  have hlt2 : i < ys.length := by omega
  have ar := hv.addr (P := Try.prog) Try.underlying32 Try.underlying38 (by kernel_rfl) (k := .i64) i hlt
  obtain ⟨u, lu, hu⟩ := hv.load (P := Try.prog) Try.underlying38 rfl i hlt
  have ar2 := hw.addr (P := Try.prog) Try.underlying32 Try.underlying38 (by kernel_rfl) (k := .i64) i hlt2
  obtain ⟨u2, lu2, hu2⟩ := hw.load (P := Try.prog) Try.underlying38 rfl i hlt2
  have htk : xs.take (i + 1) = xs.take i ++ [xs[i]] := List.take_succ_eq_append_getElem hlt
  have htk2 : ys.take (i + 1) = ys.take i ++ [ys[i]] := List.take_succ_eq_append_getElem hlt2
  simp only [kS1, bLookup, bMapSet, wantA, isCall, stepOp, evalO, evalL, evalP, evalM, putDst, flat, kA, kB, Nat.reduceLT, ↓reduceIte, kC, Nat.reduceEqDiff, aBuiltin, abinG, guardFree, abin, aInt, aUn, aNilCheck, retQ, retQ1, aresults, aresultL, aresult, mkF, undefV, reduceCtorEq, kD, kE, kF, kG, kH, kI, kJ, kK, aExtract, calleeOf]
  refine KDraw.intro mixed (.fl 0 (.fl 1 (.fl 2 (.fl 3 (.fl 4 (.fl 5 (.fl 6 (.fl 7 (.ch 8 [3, 7] (.fl 9 (.done)) .no))))))))) (by kernel_rfl) ?_
  simp only [kS1, bLookup, bMapSet, wantA, isCall, stepOp, evalO, evalL, evalP, evalM, putDst, flat, kA, kB, Nat.reduceLT, ↓reduceIte, kC, Nat.reduceEqDiff, aBuiltin, abinG, guardFree, abin, aInt, aUn, aNilCheck, retQ, retQ1, aresults, aresultL, aresult, mkF, undefV, reduceCtorEq, kD, kE, kF, kG, kH, kI, kJ, kK, aExtract, calleeOf, kD1, Nat.reduceBEq, HoldsAll, kL, kM, kN, kO, ar, lu, ar2, lu2]
  refine KGCall.intro (by simp only [kS1, bLookup, bMapSet, wantA, isCall, stepOp, evalO, evalL, evalP, evalM, putDst, flat, kA, kB, Nat.reduceLT, ↓reduceIte, kC, Nat.reduceEqDiff, aBuiltin, abinG, guardFree, abin, aInt, aUn, aNilCheck, retQ, retQ1, aresults, aresultL, aresult, mkF, undefV, reduceCtorEq, kD, kE, kF, kG, kH, kI, kJ, kK, aExtract, calleeOf] <;> rfl) ⟨Try.func25, rfl, by decide⟩ (SameInts_any W0 u u2 xs[i] ys[i] hq hu hu2 (hl _ (List.getElem_mem hlt))) ?_
  rintro x h2 w2 ⟨rfl, rfl⟩
  have hw := awrap_succ i (by omega)
  by_cases c : xs[i] = ys[i]
  ·simp only [kS1, bLookup, bMapSet, wantA, isCall, stepOp, evalO, evalL, evalP, evalM, putDst, flat, kA, kB, Nat.reduceLT, ↓reduceIte, kC, Nat.reduceEqDiff, aBuiltin, abinG, guardFree, abin, aInt, aUn, aNilCheck, retQ, retQ1, aresults, aresultL, aresult, mkF, undefV, reduceCtorEq, kD, kE, kF, kG, kH, kI, kJ, kK, aExtract, calleeOf, kD1, Nat.reduceBEq, HoldsAll, kL, kM, kN, kO, ar, lu, ar2, lu2, decide_eq_true c, hw]
   exact loop_again (xs.length - (i + 1)) [(0, v), (1, w), (5, .int .i64 (i + 1 : Nat))] (stp hlt) (by simp only [hasAll, kS1, bLookup, bMapSet, wantA, isCall, stepOp, evalO, evalL, evalP, evalM, putDst, flat, kA, kB, Nat.reduceLT, ↓reduceIte, kC, Nat.reduceEqDiff, aBuiltin, abinG, guardFree, abin, aInt, aUn, aNilCheck, retQ, retQ1, aresults, aresultL, aresult, mkF, undefV, reduceCtorEq, kD, kE, kF, kG, kH, kI, kJ, kK, aExtract, calleeOf]; simp) ⟨i + 1, rfl, hlt, rfl, rfl, by rw [htk, htk2, he, c]⟩
  ·have e : decide (xs = ys) = false := decide_eq_false (fun e => c (by subst e; rfl))
   simp only [kS1, bLookup, bMapSet, wantA, isCall, stepOp, evalO, evalL, evalP, evalM, putDst, flat, kA, kB, Nat.reduceLT, ↓reduceIte, kC, Nat.reduceEqDiff, aBuiltin, abinG, guardFree, abin, aInt, aUn, aNilCheck, retQ, retQ1, aresults, aresultL, aresult, mkF, undefV, reduceCtorEq, kD, kE, kF, kG, kH, kI, kJ, kK, aExtract, calleeOf, kD1, Nat.reduceBEq, HoldsAll, kL, kM, kN, kO, ar, lu, ar2, lu2, decide_eq_false c, e]
 ·have hge : xs.length ≤ i := lt_f hf
  rw [List.take_of_length_le hge, List.take_of_length_le (by omega)] at he
  simp only [kS1, bLookup, bMapSet, wantA, isCall, stepOp, evalO, evalL, evalP, evalM, putDst, flat, kA, kB, Nat.reduceLT, ↓reduceIte, kC, Nat.reduceEqDiff, aBuiltin, abinG, guardFree, abin, aInt, aUn, aNilCheck, retQ, retQ1, aresults, aresultL, aresult, mkF, undefV, reduceCtorEq, kD, kE, kF, kG, kH, kI, kJ, kK, aExtract, calleeOf, decide_eq_true he]
  exact ⟨trivial, trivial⟩
theorem Pick_any (W0 : Base) (x : Int) (n : Nat) (hn : 0 < n) (hn2 : n ≤ 100000) (h : AHeap) : AC Try.prog W0 34 [.int .i64 x, .int .i64 n] h fun y h' => (∃ k : Nat, k < n ∧ y = .int .i64 k) ∧ h' = h := by
 refine AC.vc (fn := Try.f34) (c := _) ⟨Try.func34, rfl, by decide⟩ Try.ntmps34 Try.results34 (by simp) fun hwf => ?_
 simp only [argFrame, argFrom, Nat.reduceAdd]
 have d : decide ((n : Int) ≤ 0) = false := decide_eq_false (by omega)
 have nz : ¬ ((n : Int) = 0) := by omega
 have hb : -(n : Int) < x.tmod (n : Int) ∧ x.tmod (n : Int) < (n : Int) := ⟨Int.lt_tmod_of_pos x (by omega), Int.tmod_lt_of_pos x (by omega)⟩
 have w1 : awrap .i64 (x.tmod (n : Int)) = x.tmod (n : Int) := awrap_i64 _ (by omega) (by omega)
 have w2 : awrap .i64 (x.tmod (n : Int) + (n : Int)) = x.tmod (n : Int) + (n : Int) := awrap_i64 _ (by omega) (by omega)
 obtain ⟨m, hm⟩ : ∃ m, x.tmod (n : Int) = m := ⟨_, rfl⟩
 rw [hm] at w1 w2 hb
 by_cases c : m < 0
 ·simp only [kS1, bLookup, bMapSet, wantA, isCall, stepOp, evalO, evalL, evalP, evalM, putDst, flat, kA, kB, Nat.reduceLT, ↓reduceIte, kC, Nat.reduceEqDiff, aBuiltin, abinG, guardFree, abin, aInt, aUn, aNilCheck, retQ, retQ1, aresults, aresultL, aresult, mkF, undefV, reduceCtorEq, kD, kE, kF, kG, kH, kI, kJ, kK, aExtract, calleeOf, d, nz, hm, w1, decide_eq_true c, w2]
  refine ⟨⟨(m + n).toNat, by omega, ?_⟩, trivial⟩
  rw [Int.toNat_of_nonneg (by omega)]
 ·simp only [kS1, bLookup, bMapSet, wantA, isCall, stepOp, evalO, evalL, evalP, evalM, putDst, flat, kA, kB, Nat.reduceLT, ↓reduceIte, kC, Nat.reduceEqDiff, aBuiltin, abinG, guardFree, abin, aInt, aUn, aNilCheck, retQ, retQ1, aresults, aresultL, aresult, mkF, undefV, reduceCtorEq, kD, kE, kF, kG, kH, kI, kJ, kK, aExtract, calleeOf, d, nz, hm, w1, decide_eq_false c]
  refine ⟨⟨m.toNat, by omega, ?_⟩, trivial⟩
  rw [Int.toNat_of_nonneg (by omega)]
theorem mkR (h : AHeap) {u : Value} {n : Nat} (hu : isSl u n) : aBuildSlice Try.prog h 52 1 [(0, u)] = some (.slice (some ⟨h.next, 0, none⟩) 1 1, h.alloc (.cells [u])) := by
 obtain ⟨a, c, rfl, _⟩ := hu; rfl
end Go.Fw
namespace Go.Fw
open Go.Proofs
set_option maxHeartbeats 16000000
set_option maxRecDepth 10000
attribute [local instance] Classical.propDecidable in
theorem planeM_conn {n : Nat} {es : List Pr} {rs : List (List Int)} (hr : InR n es) (ha : Asc es) (G : RotG n es rs) (h0 : 0 < n) (hc : ∀ v, v < n → Con es 0 v) :
  PlaneM n es rs ↔ (0 < es.length → n + (facesM n rs).length = es.length + 2) := by
 have all : ∀ a, a < n → edK es es a = es.length ∧ (compL n es a).length = n ∧ faK es (facesM n rs) a = (facesM n rs).length := fun a han => by
  have hca : ∀ v, v < n → Con es a v := fun v hv => (hc a han).symm.trans (hc v hv)
  refine ⟨?_, ?_, ?_⟩
  ·unfold edK cntK
   rw [List.filter_eq_self.2]
   intro e he
   have h := hr e he
   exact decide_eq_true (hca _ (by omega))
  ·unfold compL
   rw [List.filter_eq_self.2 (fun v hv => decide_eq_true (hca v (List.mem_range.1 hv)))]; simp
  ·unfold faK cntK
   rw [List.filter_eq_self.2]
   intro f hf
   obtain ⟨_, v, hv, e⟩ := faces_at hr ha G hf
   exact decide_eq_true (hca _ (by rw [e]; simpa using hv))
 constructor
 ·intro H hl
  obtain ⟨a, ham, _⟩ := head_ex hr 0 h0
  obtain ⟨e1, e2, e3⟩ := all a (mem_heads.1 ham).1
  have := H a ham (by rw [e1]; exact hl)
  rw [e1, e2, e3] at this; exact this
 ·intro H a ham
  obtain ⟨e1, e2, e3⟩ := all a (mem_heads.1 ham).1
  rw [e1, e2, e3]; exact H
def triE : List Pr := [(0, 1), (0, 2), (1, 2)]
def triR : List (List Int) := [[1, 2], [0, 2], [0, 1]]
def k4E : List Pr := [(0, 1), (0, 2), (0, 3), (1, 2), (1, 3), (2, 3)]
def notR : List (List Int) := [[1, 2, 3], [0, 2, 3], [0, 1, 3], [0, 1, 2]]
def isR : List (List Int) := [[1, 2, 3], [0, 3, 2], [0, 1, 3], [0, 2, 1]]
theorem triERt : RightG ⟨3, triE⟩ := by
 refine ⟨by decide, by decide, by decide, fun i hi p hp => ?_⟩
 have hi' : i < 3 := hi
 match i, hi' with
 | 0, _ => simp [triE] at hp; subst hp; exact ⟨by decide, fun q h0 => by omega⟩
 | 1, _ => simp [triE] at hp; subst hp; exact ⟨by decide, fun q h0 hq => by simp [triE] at hq; subst hq; decide⟩
 | 2, _ => simp [triE] at hp; subst hp; exact ⟨by decide, fun q h0 hq => by simp [triE] at hq; subst hq; decide⟩
theorem k4ERt : RightG ⟨4, k4E⟩ := by
 refine ⟨by decide, by decide, by decide, fun i hi p hp => ?_⟩
 have hi' : i < 6 := hi
 match i, hi' with
 | 0, _ => simp [k4E] at hp; subst hp; exact ⟨by decide, fun q h0 => by omega⟩
 | 1, _ => simp [k4E] at hp; subst hp; exact ⟨by decide, fun q h0 hq => by simp [k4E] at hq; subst hq; decide⟩
 | 2, _ => simp [k4E] at hp; subst hp; exact ⟨by decide, fun q h0 hq => by simp [k4E] at hq; subst hq; decide⟩
 | 3, _ => simp [k4E] at hp; subst hp; exact ⟨by decide, fun q h0 hq => by simp [k4E] at hq; subst hq; decide⟩
 | 4, _ => simp [k4E] at hp; subst hp; exact ⟨by decide, fun q h0 hq => by simp [k4E] at hq; subst hq; decide⟩
 | 5, _ => simp [k4E] at hp; subst hp; exact ⟨by decide, fun q h0 hq => by simp [k4E] at hq; subst hq; decide⟩
theorem rotG_of {n : Nat} {es : List Pr} {rs : List (List Int)} (h : rs.length = n) (d : (List.range n).all (fun v => (rs.getD v []).isPerm ((besM n es).getD v [])) = true) : RotG n es rs :=
 ⟨h, fun v hv => List.isPerm_iff.1 (List.all_eq_true.1 d v (List.mem_range.2 hv))⟩
theorem triG : RotG 3 triE triR := rotG_of rfl (by decide +kernel)
theorem notG : RotG 4 k4E notR := rotG_of rfl (by decide +kernel)
theorem isG4 : RotG 4 k4E isR := rotG_of rfl (by decide +kernel)
theorem facesM_cert {n : Nat} {es : List Pr} {rs : List (List Int)} (hr : RightG ⟨(n : Int), es⟩) (G : RotG n es rs) {hs : List (Dart × Nat)} (C : Cert n (rotN rs) hs) : facesM n rs = hs.map fun p => (List.range p.2).map fun j => (((it (fph (rotN rs)) j p.1).1 : Nat) : Int) := by
 rw [facesM, facesF_cert (G.isRot hr.inR hr.asc) C, List.map_map]
 refine List.map_congr_left fun p _ => ?_
 simp only [Function.comp, nat64, List.map_map]
 rfl
instance (n : Nat) (r : Nat → List Nat) (hs : List (Dart × Nat)) : Decidable (Cert n r hs) := by unfold Cert; infer_instance
theorem tri_faces : facesM 3 triR = [[0, 1, 2], [0, 2, 1]] := by
 rw [facesM_cert triERt triG (hs := [((0, 1), 3), ((0, 2), 3)]) (by decide +kernel)]; decide +kernel
theorem not_faces : facesM 4 notR = [[0, 1, 2, 3], [0, 2, 1, 3, 2, 0, 3, 1]] := by
 rw [facesM_cert k4ERt notG (hs := [((0, 1), 4), ((0, 2), 8)]) (by decide +kernel)]; decide +kernel
theorem is_faces : (facesM 4 isR).length = 4 := by
 rw [facesM_cert k4ERt isG4 (hs := [((0, 1), 3), ((0, 2), 3), ((0, 3), 3), ((1, 2), 3)]) (by decide +kernel)]; decide +kernel
theorem k4_con : ∀ v, v < 4 → Con k4E 0 v := fun v hv => by
 match v, hv with
 | 0, _ => exact Con.refl _ _
 | 1, _ => exact con_adj (.inl (by decide))
 | 2, _ => exact con_adj (.inl (by decide))
 | 3, _ => exact con_adj (.inl (by decide))
theorem not_plane : ¬ PlaneM 4 k4E notR := fun h => by
 have := (planeM_conn k4ERt.inR k4ERt.asc notG (by decide) k4_con).1 h (by decide)
 rw [not_faces] at this
 exact absurd this (by decide)
theorem is_plane : PlaneM 4 k4E isR := (planeM_conn k4ERt.inR k4ERt.asc isG4 (by decide) k4_con).2 fun _ => by rw [is_faces]; decide
theorem one_not : ¬ ∃ es, RightG ⟨((([[1], []] : List (List Int)).length : Nat) : Int), es⟩ ∧ RotG ([[1], []] : List (List Int)).length es [[1], []] := by
 rintro ⟨es, hr, G⟩
 have h1 : (1 : Nat) ∈ rotN [[1], []] 0 := by decide
 have h2 := (G.mem hr.inR).1 h1
 have h3 : (0 : Nat) ∈ rotN [[1], []] 1 := (G.mem hr.inR).2 (h2.elim .inr .inl)
 exact absurd h3 (by decide)
end Go.Fw
namespace Go.Fw
open Go.Proofs
set_option maxHeartbeats 16000000
set_option maxRecDepth 10000
def rws (h : AHeap) (us : List Value) (xs : List (List Int)) : Prop := ∀ (i : Nat) (x : List Int) (u : Value), xs[i]? = some x → us[i]? = some u → RL isI h u x
theorem rws.nil (h : AHeap) : rws h [] [] := fun i x u hx => by simp at hx
theorem rws.cons {h : AHeap} {u : Value} {x : List Int} {us : List Value} {xs : List (List Int)} (hu : RL isI h u x) (r : rws h us xs) : rws h (u :: us) (x :: xs) := fun i y w hy hw => by
 cases i with
 | zero => simp at hy hw; subst hy hw; exact hu
 | succ i => exact r i y w (by simpa using hy) (by simpa using hw)
theorem rws.rl {h : AHeap} {id n : Nat} {us : List Value} {xs : List (List Int)} (o : h.own id = some (.cells us)) (hn : us.length = n) (hl : us.length = xs.length) (r : rws h us xs) : RL (RL isI) h (.slice (some ⟨id, 0, none⟩) n n) xs :=
 ⟨us, RS.whole o hn, hl, r⟩
theorem rot4 {h : AHeap} (hwf : WF h) (a0_0 a0_1 a0_2 a1_0 a1_1 a1_2 a2_0 a2_1 a2_2 a3_0 a3_1 a3_2 : Int) : ∃ v0 h1 v1 h2 v2 h3 v3 h4 v h5, aBuildSlice Try.prog h 38 3 [(0, .int .i64 a0_0), (1, .int .i64 a0_1), (2, .int .i64 a0_2)] = some (v0, h1) ∧ aBuildSlice Try.prog h1 38 3 [(0, .int .i64 a1_0), (1, .int .i64 a1_1), (2, .int .i64 a1_2)] = some (v1, h2) ∧ aBuildSlice Try.prog h2 38 3 [(0, .int .i64 a2_0), (1, .int .i64 a2_1), (2, .int .i64 a2_2)] = some (v2, h3) ∧ aBuildSlice Try.prog h3 38 3 [(0, .int .i64 a3_0), (1, .int .i64 a3_1), (2, .int .i64 a3_2)] = some (v3, h4) ∧ aBuildSlice Try.prog h4 52 4 [(0, v0), (1, v1), (2, v2), (3, v3)] = some (v, h5) ∧ Le h h5 ∧ WF h5 ∧ RL (RL isI) h5 v [[a0_0, a0_1, a0_2], [a1_0, a1_1, a1_2], [a2_0, a2_1, a2_2], [a3_0, a3_1, a3_2]] := by
 obtain ⟨h1, e1, l1, w1, o1⟩ := alloc_f hwf (I64 [a0_0, a0_1, a0_2])
 obtain ⟨h2, e2, l2, w2, o2⟩ := alloc_f w1 (I64 [a1_0, a1_1, a1_2])
 obtain ⟨h3, e3, l3, w3, o3⟩ := alloc_f w2 (I64 [a2_0, a2_1, a2_2])
 obtain ⟨h4, e4, l4, w4, o4⟩ := alloc_f w3 (I64 [a3_0, a3_1, a3_2])
 obtain ⟨h5, e5, l5, w5, o5⟩ := alloc_f w4 [.slice (some ⟨h.next, 0, none⟩) 3 3, .slice (some ⟨h1.next, 0, none⟩) 3 3, .slice (some ⟨h2.next, 0, none⟩) 3 3, .slice (some ⟨h3.next, 0, none⟩) 3 3]
 refine ⟨.slice (some ⟨h.next, 0, none⟩) 3 3, h1, .slice (some ⟨h1.next, 0, none⟩) 3 3, h2, .slice (some ⟨h2.next, 0, none⟩) 3 3, h3, .slice (some ⟨h3.next, 0, none⟩) 3 3, h4, .slice (some ⟨h4.next, 0, none⟩) 4 4, h5, ?_, ?_, ?_, ?_, ?_, ((((l1.trans l2).trans l3).trans l4).trans l5), w5, rws.rl o5 rfl rfl (.cons ((RL.ofI (RS.whole o1 rfl)).le Stays.isI (((l2.trans l3).trans l4).trans l5)) (.cons ((RL.ofI (RS.whole o2 rfl)).le Stays.isI ((l3.trans l4).trans l5)) (.cons ((RL.ofI (RS.whole o3 rfl)).le Stays.isI (l4.trans l5)) (.cons ((RL.ofI (RS.whole o4 rfl)).le Stays.isI l5) (rws.nil _)))))⟩
 ·rw [← e1]; rfl
 ·rw [← e2]; rfl
 ·rw [← e3]; rfl
 ·rw [← e4]; rfl
 ·rw [← e5]; rfl
theorem rot3 {h : AHeap} (hwf : WF h) (a0_0 a0_1 a1_0 a1_1 a2_0 a2_1 : Int) : ∃ v0 h1 v1 h2 v2 h3 v h4, aBuildSlice Try.prog h 38 2 [(0, .int .i64 a0_0), (1, .int .i64 a0_1)] = some (v0, h1) ∧ aBuildSlice Try.prog h1 38 2 [(0, .int .i64 a1_0), (1, .int .i64 a1_1)] = some (v1, h2) ∧ aBuildSlice Try.prog h2 38 2 [(0, .int .i64 a2_0), (1, .int .i64 a2_1)] = some (v2, h3) ∧ aBuildSlice Try.prog h3 52 3 [(0, v0), (1, v1), (2, v2)] = some (v, h4) ∧ Le h h4 ∧ WF h4 ∧ RL (RL isI) h4 v [[a0_0, a0_1], [a1_0, a1_1], [a2_0, a2_1]] := by
 obtain ⟨h1, e1, l1, w1, o1⟩ := alloc_f hwf (I64 [a0_0, a0_1])
 obtain ⟨h2, e2, l2, w2, o2⟩ := alloc_f w1 (I64 [a1_0, a1_1])
 obtain ⟨h3, e3, l3, w3, o3⟩ := alloc_f w2 (I64 [a2_0, a2_1])
 obtain ⟨h4, e4, l4, w4, o4⟩ := alloc_f w3 [.slice (some ⟨h.next, 0, none⟩) 2 2, .slice (some ⟨h1.next, 0, none⟩) 2 2, .slice (some ⟨h2.next, 0, none⟩) 2 2]
 refine ⟨.slice (some ⟨h.next, 0, none⟩) 2 2, h1, .slice (some ⟨h1.next, 0, none⟩) 2 2, h2, .slice (some ⟨h2.next, 0, none⟩) 2 2, h3, .slice (some ⟨h3.next, 0, none⟩) 3 3, h4, ?_, ?_, ?_, ?_, (((l1.trans l2).trans l3).trans l4), w4, rws.rl o4 rfl rfl (.cons ((RL.ofI (RS.whole o1 rfl)).le Stays.isI ((l2.trans l3).trans l4)) (.cons ((RL.ofI (RS.whole o2 rfl)).le Stays.isI (l3.trans l4)) (.cons ((RL.ofI (RS.whole o3 rfl)).le Stays.isI l4) (rws.nil _))))⟩
 ·rw [← e1]; rfl
 ·rw [← e2]; rfl
 ·rw [← e3]; rfl
 ·rw [← e4]; rfl
theorem rot2 {h : AHeap} (hwf : WF h) (a0_0 : Int) : ∃ v0 h1 v1 h2 v h3, aBuildSlice Try.prog h 38 1 [(0, .int .i64 a0_0)] = some (v0, h1) ∧ aBuildSlice Try.prog h1 38 0 [] = some (v1, h2) ∧ aBuildSlice Try.prog h2 52 2 [(0, v0), (1, v1)] = some (v, h3) ∧ Le h h3 ∧ WF h3 ∧ RL (RL isI) h3 v [[a0_0], []] := by
 obtain ⟨h1, e1, l1, w1, o1⟩ := alloc_f hwf (I64 [a0_0])
 obtain ⟨h2, e2, l2, w2, o2⟩ := alloc_f w1 (I64 [])
 obtain ⟨h3, e3, l3, w3, o3⟩ := alloc_f w2 [.slice (some ⟨h.next, 0, none⟩) 1 1, .slice (some ⟨h1.next, 0, none⟩) 0 0]
 refine ⟨.slice (some ⟨h.next, 0, none⟩) 1 1, h1, .slice (some ⟨h1.next, 0, none⟩) 0 0, h2, .slice (some ⟨h2.next, 0, none⟩) 2 2, h3, ?_, ?_, ?_, ((l1.trans l2).trans l3), w3, rws.rl o3 rfl rfl (.cons ((RL.ofI (RS.whole o1 rfl)).le Stays.isI (l2.trans l3)) (.cons ((RL.ofI (RS.whole o2 rfl)).le Stays.isI l3) (rws.nil _)))⟩
 ·rw [← e1]; rfl
 ·rw [← e2]; rfl
 ·rw [← e3]; rfl
theorem lis2 {h : AHeap} (hwf : WF h) (a0_0 a0_1 a0_2 a1_0 a1_1 a1_2 : Int) : ∃ v0 h1 v1 h2 v h3, aBuildSlice Try.prog h 38 3 [(0, .int .i64 a0_0), (1, .int .i64 a0_1), (2, .int .i64 a0_2)] = some (v0, h1) ∧ aBuildSlice Try.prog h1 38 3 [(0, .int .i64 a1_0), (1, .int .i64 a1_1), (2, .int .i64 a1_2)] = some (v1, h2) ∧ aBuildSlice Try.prog h2 32 2 [(0, v0), (1, v1)] = some (v, h3) ∧ Le h h3 ∧ WF h3 ∧ RL (RL isI) h3 v [[a0_0, a0_1, a0_2], [a1_0, a1_1, a1_2]] := by
 obtain ⟨h1, e1, l1, w1, o1⟩ := alloc_f hwf (I64 [a0_0, a0_1, a0_2])
 obtain ⟨h2, e2, l2, w2, o2⟩ := alloc_f w1 (I64 [a1_0, a1_1, a1_2])
 obtain ⟨h3, e3, l3, w3, o3⟩ := alloc_f w2 [.slice (some ⟨h.next, 0, none⟩) 3 3, .slice (some ⟨h1.next, 0, none⟩) 3 3]
 refine ⟨.slice (some ⟨h.next, 0, none⟩) 3 3, h1, .slice (some ⟨h1.next, 0, none⟩) 3 3, h2, .slice (some ⟨h2.next, 0, none⟩) 2 2, h3, ?_, ?_, ?_, ((l1.trans l2).trans l3), w3, rws.rl o3 rfl rfl (.cons ((RL.ofI (RS.whole o1 rfl)).le Stays.isI (l2.trans l3)) (.cons ((RL.ofI (RS.whole o2 rfl)).le Stays.isI l3) (rws.nil _)))⟩
 ·rw [← e1]; rfl
 ·rw [← e2]; rfl
 ·rw [← e3]; rfl
theorem lis12 {h : AHeap} (hwf : WF h) (a0_0 a0_1 a0_2 a0_3 a1_0 a1_1 a1_2 a1_3 a1_4 a1_5 a1_6 a1_7 : Int) : ∃ v0 h1 v1 h2 v h3, aBuildSlice Try.prog h 38 4 [(0, .int .i64 a0_0), (1, .int .i64 a0_1), (2, .int .i64 a0_2), (3, .int .i64 a0_3)] = some (v0, h1) ∧ aBuildSlice Try.prog h1 38 8 [(0, .int .i64 a1_0), (1, .int .i64 a1_1), (2, .int .i64 a1_2), (3, .int .i64 a1_3), (4, .int .i64 a1_4), (5, .int .i64 a1_5), (6, .int .i64 a1_6), (7, .int .i64 a1_7)] = some (v1, h2) ∧ aBuildSlice Try.prog h2 32 2 [(0, v0), (1, v1)] = some (v, h3) ∧ Le h h3 ∧ WF h3 ∧ RL (RL isI) h3 v [[a0_0, a0_1, a0_2, a0_3], [a1_0, a1_1, a1_2, a1_3, a1_4, a1_5, a1_6, a1_7]] := by
 obtain ⟨h1, e1, l1, w1, o1⟩ := alloc_f hwf (I64 [a0_0, a0_1, a0_2, a0_3])
 obtain ⟨h2, e2, l2, w2, o2⟩ := alloc_f w1 (I64 [a1_0, a1_1, a1_2, a1_3, a1_4, a1_5, a1_6, a1_7])
 obtain ⟨h3, e3, l3, w3, o3⟩ := alloc_f w2 [.slice (some ⟨h.next, 0, none⟩) 4 4, .slice (some ⟨h1.next, 0, none⟩) 8 8]
 refine ⟨.slice (some ⟨h.next, 0, none⟩) 4 4, h1, .slice (some ⟨h1.next, 0, none⟩) 8 8, h2, .slice (some ⟨h2.next, 0, none⟩) 2 2, h3, ?_, ?_, ?_, ((l1.trans l2).trans l3), w3, rws.rl o3 rfl rfl (.cons ((RL.ofI (RS.whole o1 rfl)).le Stays.isI (l2.trans l3)) (.cons ((RL.ofI (RS.whole o2 rfl)).le Stays.isI l3) (rws.nil _)))⟩
 ·rw [← e1]; rfl
 ·rw [← e2]; rfl
 ·rw [← e3]; rfl
end Go.Fw
