/- A text of the proof. -/
import Derived.Test.YtnaahaldkpdjlaaFwLB3
set_option linter.unusedSimpArgs false
set_option linter.unusedVariables false
namespace Go.Fw
open Go.Proofs
attribute [local irreducible] KO4 KO3 KO2 KO1 KO KN KX KE VK KCond KDraw KCall KLoop
set_option maxHeartbeats 400000
set_option maxRecDepth 10000
theorem and_u64 : ∀ n : Nat, n ≤ 300 → IntKind.u64.wrap ((BitVec.ofInt IntKind.u64.bits (n : Int) &&& BitVec.ofInt IntKind.u64.bits 4294967295).toNat : Nat) = (n : Int) := by
 intro n hn
 have : ∀ k : Fin 301, IntKind.u64.wrap ((BitVec.ofInt IntKind.u64.bits ((k : Nat) : Int) &&& BitVec.ofInt IntKind.u64.bits 4294967295).toNat : Nat) = ((k : Nat) : Int) := by decide +kernel
 exact this ⟨n, by omega⟩
theorem shr32_u64 (n : Nat) (hn : n ≤ 300) : aShift .shr .u64 (n : Int) 32 = some (.int .u64 0) := by
 simp [aShift, IntKind.bits]
 rw [Int.fdiv_eq_ediv_of_nonneg _ (by decide)]
 omega
theorem awrap_u64 (n : Nat) (hn : n ≤ 300) : awrap .u64 (n : Int) = n := by
 have h1 : (0 : Int) ≤ n := by omega
 have h2 : (n : Int) ≤ 18446744073709551615 := by omega
 simp [awrap, h1, h2]
theorem Mul64_any (W0 : Base) (n : Nat) (hn : n ≤ 300) (h : AHeap) : AC Try.prog W0 129 [.int .u64 1, .int .u64 n] h fun x h' => x = .tuple #[.int .u64 0, .int .u64 n] ∧ h' = h := by
 refine AC.vc (fn := Try.f129) (c := _) ⟨Try.func129, rfl, by decide⟩ Try.ntmps129 Try.results129 (by simp) fun hwf => ?_
 simp only [argFrame, argFrom, Nat.reduceAdd]
 have a1 : IntKind.u64.wrap ((BitVec.ofInt IntKind.u64.bits 1 &&& BitVec.ofInt IntKind.u64.bits 4294967295).toNat : Nat) = 1 := and_u64 1 (by decide)
 have a2 : aShift .shr .u64 1 32 = some (.int .u64 0) := shr32_u64 1 (by decide)
 have a3 : IntKind.u64.wrap ((BitVec.ofInt IntKind.u64.bits 0 &&& BitVec.ofInt IntKind.u64.bits 4294967295).toNat : Nat) = 0 := and_u64 0 (by decide)
 have a4 : aShift .shr .u64 0 32 = some (.int .u64 0) := shr32_u64 0 (by decide)
 have a5 := and_u64 n hn
 have a6 := shr32_u64 n hn
 have a7 : awrap .u64 0 = 0 := by decide
 have a8 := awrap_u64 n hn
 simp only [kS1, bLookup, bMapSet, wantA, isCall, stepOp, evalO, evalL, evalP, evalM, putDst, flat, kA, kB, Nat.reduceLT, ↓reduceIte, kC, Nat.reduceEqDiff, aBuiltin, abinG, guardFree, abin, aInt, aUn, aNilCheck, retQ, retQ1, aresults, aresultL, aresult, mkF, undefV, reduceCtorEq, kD, kE, kF, kG, kH, kI, kJ, kK, aExtract, calleeOf, a1, a2, a3, a4, a5, a6, a7, a8, Int.mul_one, Int.one_mul, Int.mul_zero, Int.zero_mul, Int.add_zero, Int.zero_add]
 exact ⟨trivial, trivial⟩
theorem Mul_any (W0 : Base) (n : Nat) (hn : n ≤ 300) (h : AHeap) : AC Try.prog W0 118 [.int .u64 1, .int .u64 n] h fun x h' => x = .tuple #[.int .u64 0, .int .u64 n] ∧ h' = h := by
 refine AC.vc (fn := Try.f118) (c := _) ⟨Try.func118, rfl, by decide⟩ Try.ntmps118 Try.results118 (by simp) fun hwf => ?_
 simp only [argFrame, argFrom, Nat.reduceAdd]
 simp only [kS1, bLookup, bMapSet, wantA, isCall, stepOp, evalO, evalL, evalP, evalM, putDst, flat, kA, kB, Nat.reduceLT, ↓reduceIte, kC, Nat.reduceEqDiff, aBuiltin, abinG, guardFree, abin, aInt, aUn, aNilCheck, retQ, retQ1, aresults, aresultL, aresult, mkF, undefV, reduceCtorEq, kD, kE, kF, kG, kH, kI, kJ, kK, aExtract, calleeOf]
 refine KCall.intro (by simp only [kS1, bLookup, bMapSet, wantA, isCall, stepOp, evalO, evalL, evalP, evalM, putDst, flat, kA, kB, Nat.reduceLT, ↓reduceIte, kC, Nat.reduceEqDiff, aBuiltin, abinG, guardFree, abin, aInt, aUn, aNilCheck, retQ, retQ1, aresults, aresultL, aresult, mkF, undefV, reduceCtorEq, kD, kE, kF, kG, kH, kI, kJ, kK, aExtract, calleeOf] <;> rfl) ⟨Try.func129, rfl, by decide⟩ (Mul64_any W0 n hn h) ?_
 rintro v h' - ⟨rfl, rfl⟩
 simp only [kS1, bLookup, bMapSet, wantA, isCall, stepOp, evalO, evalL, evalP, evalM, putDst, flat, kA, kB, Nat.reduceLT, ↓reduceIte, kC, Nat.reduceEqDiff, aBuiltin, abinG, guardFree, abin, aInt, aUn, aNilCheck, retQ, retQ1, aresults, aresultL, aresult, mkF, undefV, reduceCtorEq, kD, kE, kF, kG, kH, kI, kJ, kK, aExtract, calleeOf]
 exact ⟨trivial, trivial⟩
theorem rep_grow {α : Type} (a b : α) (i n m : Nat) (hm : min i (n - i) = m) : List.take i (List.replicate i a ++ List.replicate (n - i) b) ++ List.take (m * 1) (List.replicate i a) ++ List.drop (i + m * 1) (List.replicate i a ++ List.replicate (n - i) b) = List.replicate (i + m) a ++ List.replicate (n - (i + m)) b := by
 have e1 : List.take i (List.replicate i a ++ List.replicate (n - i) b) = List.replicate i a := by simp [List.take_append]
 have e2 : List.take (m * 1) (List.replicate i a) = List.replicate m a := by rw [Nat.mul_one, List.take_replicate]; congr 1; omega
 have e3 : List.drop (i + m * 1) (List.replicate i a ++ List.replicate (n - i) b) = List.replicate (n - (i + m)) b := by
  rw [Nat.mul_one, List.drop_append, List.drop_replicate, List.drop_replicate]
  simp; omega
 rw [e1, e2, e3, List.replicate_append_replicate]
theorem Repeat_any (W0 : Base) (l : Value) (n : Nat) (hn : n ≤ 300) (h : AHeap) (hl : RL isI h l [-1]) : AC Try.prog W0 95 [l, .int .i64 n] h fun v h' => ∃ id, v = .slice (some ⟨id, 0, none⟩) n n ∧ h.next ≤ id ∧ h'.own id = some (.cells (List.replicate n (.int .i64 (-1)))) ∧ Le h h' := by
 refine AC.vc (fn := Try.f95) (c := _) ⟨Try.func95, rfl, by decide⟩ Try.ntmps95 Try.results95 (by simp) fun hwf => ?_
 simp only [argFrame, argFrom, Nat.reduceAdd]
 have z0 : ¬ ((n : Int) < 0) := by omega
 have ll : aLen Try.prog h 38 l = some (.int .i64 (1 : Int)) := hl.len (P := Try.prog) Try.underlying38 h
 have w1 : awrap .u64 1 = 1 := by decide
 simp only [kS1, bLookup, bMapSet, wantA, isCall, stepOp, evalO, evalL, evalP, evalM, putDst, flat, kA, kB, Nat.reduceLT, ↓reduceIte, kC, Nat.reduceEqDiff, aBuiltin, abinG, guardFree, abin, aInt, aUn, aNilCheck, retQ, retQ1, aresults, aresultL, aresult, mkF, undefV, reduceCtorEq, kD, kE, kF, kG, kH, kI, kJ, kK, aExtract, calleeOf, z0, ll, aConvert, Try.underlying3, Try.underlying108, awrap_u64 n hn, w1]
 refine KCall.intro (by simp only [kS1, bLookup, bMapSet, wantA, isCall, stepOp, evalO, evalL, evalP, evalM, putDst, flat, kA, kB, Nat.reduceLT, ↓reduceIte, kC, Nat.reduceEqDiff, aBuiltin, abinG, guardFree, abin, aInt, aUn, aNilCheck, retQ, retQ1, aresults, aresultL, aresult, mkF, undefV, reduceCtorEq, kD, kE, kF, kG, kH, kI, kJ, kK, aExtract, calleeOf] <;> rfl) ⟨Try.func118, rfl, by decide⟩ (Mul_any W0 n hn h) ?_
 rintro v h' - ⟨rfl, rfl⟩
 have z1 : ¬ ((0 : Int) < (0 : Int)) := by decide
 have z2 : ¬ ((9223372036854775807 : Int) < (n : Int)) := by omega
 have mk := aMakeSlice1 (P := Try.prog) (t := 38) h' Try.underlying38 rfl rfl rfl rfl (by kernel_rfl) Try.underlying3 (by kernel_rfl) n (by omega)
 simp only [kS1, bLookup, bMapSet, wantA, isCall, stepOp, evalO, evalL, evalP, evalM, putDst, flat, kA, kB, Nat.reduceLT, ↓reduceIte, kC, Nat.reduceEqDiff, aBuiltin, abinG, guardFree, abin, aInt, aUn, aNilCheck, retQ, retQ1, aresults, aresultL, aresult, mkF, undefV, reduceCtorEq, kD, kE, kF, kG, kH, kI, kJ, kK, aExtract, calleeOf, z1, z2, aConvert, Try.underlying3, Try.underlying108, awrap_i64 n (by omega) (by omega), mk]
 have ho : (h'.alloc (.cells (List.replicate n (.int .i64 0)))).own h'.next = some (.cells (List.replicate n (.int .i64 0))) := AHeap.own_alloc_eq _ _
 have hle : Le h' (h'.alloc (.cells (List.replicate n (.int .i64 0)))) := (Le.refl _).alloc hwf _
 have hno : h'.own h'.next = none := (Le.refl h').next hwf (Nat.le_refl _)
 generalize h'.alloc (.cells (List.replicate n (.int .i64 0))) = h1 at *
 -- the first copy
 have hcopy : ∃ m h2, aCopy Try.prog h1 38 (.slice (some ⟨h'.next, 0, none⟩) n n) l = some (.int .i64 (m : Nat), h2) ∧ (n = 0 ∧ m = 0 ∨ 1 ≤ m ∧ m ≤ n) ∧ h2.own h'.next = some (.cells (List.replicate m (.int .i64 (-1)) ++ List.replicate (n - m) (.int .i64 0))) ∧ Le h' h2 := by
  by_cases h0 : n = 0
  ·subst h0
   exact ⟨0, h1, aCopy_zero Try.underlying38 Try.underlying3 (by decide) hl.sl (by simp), .inl ⟨rfl, rfl⟩, by simpa using ho, hle⟩
  ·obtain ⟨vs, hr, hlen, hg⟩ := hl
   have hvs : vs = [.int .i64 (-1)] := by
    match vs, hlen with
    | [x], _ => rw [hg 0 (-1) x rfl rfl]
   subst hvs
   refine ⟨1, _, aCopy_own (k := 1) Try.underlying38 Try.underlying3 rfl ho (hr.le hle).cs (by rfl) 1 (by simp; omega) (by decide) (by simp; omega), .inr ⟨by omega, by omega⟩, ?_, hle.put _ hno⟩
   rw [AHeap.own_put_eq]
   simp
 obtain ⟨m, h2, hc, hm, ho2, hle2⟩ := hcopy
 simp only [kS1, bLookup, bMapSet, wantA, isCall, stepOp, evalO, evalL, evalP, evalM, putDst, flat, kA, kB, Nat.reduceLT, ↓reduceIte, kC, Nat.reduceEqDiff, aBuiltin, abinG, guardFree, abin, aInt, aUn, aNilCheck, retQ, retQ1, aresults, aresultL, aresult, mkF, undefV, reduceCtorEq, kD, kE, kF, kG, kH, kI, kJ, kK, aExtract, calleeOf, hc]
 refine KLoop.intro (fun k fr hh => ∃ i : Nat, k = n - i ∧ (n = 0 ∧ i = 0 ∨ 1 ≤ i ∧ i ≤ n) ∧ fr = mkF [(7, .slice (some ⟨h'.next, 0, none⟩) n n), (8, .int .i64 i)] ∧ hh.own h'.next = some (.cells (List.replicate i (.int .i64 (-1)) ++ List.replicate (n - i) (.int .i64 0))) ∧ Le h' hh) (n - m) [(7, .slice (some ⟨h'.next, 0, none⟩) n n), (8, .int .i64 m)] (by simp only [hasAll, kS1, bLookup, bMapSet, wantA, isCall, stepOp, evalO, evalL, evalP, evalM, putDst, flat, kA, kB, Nat.reduceLT, ↓reduceIte, kC, Nat.reduceEqDiff, aBuiltin, abinG, guardFree, abin, aInt, aUn, aNilCheck, retQ, retQ1, aresults, aresultL, aresult, mkF, undefV, reduceCtorEq, kD, kE, kF, kG, kH, kI, kJ, kK, aExtract, calleeOf]; simp) ⟨m, rfl, hm, rfl, ho2, hle2⟩ ?_
 rintro k fr hh - ⟨i, rfl, hi, rfl, ho, hle⟩
 simp only [kS1, bLookup, bMapSet, wantA, isCall, stepOp, evalO, evalL, evalP, evalM, putDst, flat, kA, kB, Nat.reduceLT, ↓reduceIte, kC, Nat.reduceEqDiff, aBuiltin, abinG, guardFree, abin, aInt, aUn, aNilCheck, retQ, retQ1, aresults, aresultL, aresult, mkF, undefV, reduceCtorEq, kD, kE, kF, kG, kH, kI, kJ, kK, aExtract, calleeOf, show aLen Try.prog hh 38 (.slice (some ⟨h'.next, 0, none⟩) n n) = some (.int .i64 n) from rfl]
 refine KCond.intro (fun ht => ?_) (fun hf => ?_)
 ·have hlt : i < n := lt_t ht
  simp only [kS1, bLookup, bMapSet, wantA, isCall, stepOp, evalO, evalL, evalP, evalM, putDst, flat, kA, kB, Nat.reduceLT, ↓reduceIte, kC, Nat.reduceEqDiff, aBuiltin, abinG, guardFree, abin, aInt, aUn, aNilCheck, retQ, retQ1, aresults, aresultL, aresult, mkF, undefV, reduceCtorEq, kD, kE, kF, kG, kH, kI, kJ, kK, aExtract, calleeOf]
  refine KDraw.intro mixed (.fl 0 (.fl 1 (.fl 2 (.fl 3 (.fl 4 (.fl 5 (.fl 6 (.ch 7 [3, 6] (.fl 8 (.ch 9 [0, 1, 2, 3, 4, 5, 6, 7, 8] (.done) .no)) .no)))))))) (by kernel_rfl) ?_
  have hunk : n < UNK := Nat.lt_of_le_of_lt hn (by decide)
  have s1 := aSlice_lo (P := Try.prog) (t := 38) (a := some ⟨h'.next, 0, none⟩) (n := n) (cap := n) (k := .i64) Try.underlying38 Try.underlying3 rfl i (by omega) (.inr hlt) (Nat.le_refl _) hunk
  have s2 := aSlice_hi (P := Try.prog) (t := 38) (a := ⟨h'.next, 0, none⟩) (n := n) (cap := n) (k := .i64) Try.underlying38 Try.underlying3 i (by omega) (Nat.le_refl _) hunk
  simp only [Option.map_some, aadd, Nat.zero_add] at s1
  have hsrc : CS 1 hh (.slice (some ⟨h'.next, 0, none⟩) i n) i (List.replicate i (.int .i64 (-1))) := by
   have := CS.own (k := 1) (off := 0) (n := i) (cap := n) ho (by simp)
   simpa using this
  have hcp := aCopy_own (P := Try.prog) (t := 38) (k := 1) (n := i) (off := i) (dl := n - i) (dc := n - i) (e := 3) Try.underlying38 Try.underlying3 rfl ho hsrc (all_rep rfl i) (min i (n - i)) rfl (by omega) (by simp; omega)
  simp only [kS1, bLookup, bMapSet, wantA, isCall, stepOp, evalO, evalL, evalP, evalM, putDst, flat, kA, kB, Nat.reduceLT, ↓reduceIte, kC, Nat.reduceEqDiff, aBuiltin, abinG, guardFree, abin, aInt, aUn, aNilCheck, retQ, retQ1, aresults, aresultL, aresult, mkF, undefV, reduceCtorEq, kD, kE, kF, kG, kH, kI, kJ, kK, aExtract, calleeOf, kD1, Nat.reduceBEq, HoldsAll, kL, kM, kN, kO, s1, s2, hcp, awrap_i64 ((i : Int) + ((min i (n - i) : Nat) : Int)) (by omega) (by omega)]
  refine loop_again (n - (i + min i (n - i))) [(7, .slice (some ⟨h'.next, 0, none⟩) n n), (8, .int .i64 (i + min i (n - i) : Nat))] (by omega) (by simp only [hasAll, kS1, bLookup, bMapSet, wantA, isCall, stepOp, evalO, evalL, evalP, evalM, putDst, flat, kA, kB, Nat.reduceLT, ↓reduceIte, kC, Nat.reduceEqDiff, aBuiltin, abinG, guardFree, abin, aInt, aUn, aNilCheck, retQ, retQ1, aresults, aresultL, aresult, mkF, undefV, reduceCtorEq, kD, kE, kF, kG, kH, kI, kJ, kK, aExtract, calleeOf]; simp) ⟨i + min i (n - i), rfl, by omega, rfl, ?_, hle.put _ hno⟩
  rw [AHeap.own_put_eq]
  rw [rep_grow _ _ i n _ rfl]
 ·have hge : n ≤ i := lt_f hf
  have : i = n := by omega
  subst this
  simp only [kS1, bLookup, bMapSet, wantA, isCall, stepOp, evalO, evalL, evalP, evalM, putDst, flat, kA, kB, Nat.reduceLT, ↓reduceIte, kC, Nat.reduceEqDiff, aBuiltin, abinG, guardFree, abin, aInt, aUn, aNilCheck, retQ, retQ1, aresults, aresultL, aresult, mkF, undefV, reduceCtorEq, kD, kE, kF, kG, kH, kI, kJ, kK, aExtract, calleeOf]
  exact ⟨_, rfl, Nat.le_refl _, by simpa using ho, hle⟩
end Go.Fw
