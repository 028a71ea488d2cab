/- A text of the proof. -/
import Derived.Test.YtnaahaldkpdjlaaFwLB2
set_option linter.unusedSimpArgs false
set_option linter.unusedVariables false
namespace Go.Fw
open Go.Proofs
attribute [local irreducible] KO4 KO3 KO2 KO1 KO KN KX KE VK KCond KDraw KCall KLoop
set_option maxHeartbeats 400000
set_option maxRecDepth 10000
theorem and_u64 : ∀ n : Nat, n ≤ 300 → IntKind.u64.wrap ((BitVec.ofInt IntKind.u64.bits (n : Int) &&& BitVec.ofInt IntKind.u64.bits 4294967295).toNat : Nat) = (n : Int) := by
 intro n hn
 have : ∀ k : Fin 301, IntKind.u64.wrap ((BitVec.ofInt IntKind.u64.bits ((k : Nat) : Int) &&& BitVec.ofInt IntKind.u64.bits 4294967295).toNat : Nat) = ((k : Nat) : Int) := by decide +kernel
 exact this ⟨n, by omega⟩
theorem shr32_u64 (n : Nat) (hn : n ≤ 300) : aShift .shr .u64 (n : Int) 32 = some (.int .u64 0) := by
 simp [aShift, IntKind.bits]
 rw [Int.fdiv_eq_ediv_of_nonneg _ (by decide)]
 omega
theorem awrap_u64 (n : Nat) (hn : n ≤ 300) : awrap .u64 (n : Int) = n := by
 have h1 : (0 : Int) ≤ n := by omega
 have h2 : (n : Int) ≤ 18446744073709551615 := by omega
 simp [awrap, h1, h2]
theorem Mul64_any (W0 : Base) (n : Nat) (hn : n ≤ 300) (h : AHeap) : AC Try.prog W0 129 [.int .u64 1, .int .u64 n] h fun x h' => x = .tuple #[.int .u64 0, .int .u64 n] ∧ h' = h := by
 refine AC.vc (fn := Try.f129) (c := _) ⟨Try.func129, rfl, by decide⟩ Try.ntmps129 Try.results129 (by simp) fun hwf => ?_
 simp only [argFrame, argFrom, Nat.reduceAdd]
 have a1 : IntKind.u64.wrap ((BitVec.ofInt IntKind.u64.bits 1 &&& BitVec.ofInt IntKind.u64.bits 4294967295).toNat : Nat) = 1 := and_u64 1 (by decide)
 have a2 : aShift .shr .u64 1 32 = some (.int .u64 0) := shr32_u64 1 (by decide)
 have a3 : IntKind.u64.wrap ((BitVec.ofInt IntKind.u64.bits 0 &&& BitVec.ofInt IntKind.u64.bits 4294967295).toNat : Nat) = 0 := and_u64 0 (by decide)
 have a4 : aShift .shr .u64 0 32 = some (.int .u64 0) := shr32_u64 0 (by decide)
 have a5 := and_u64 n hn
 have a6 := shr32_u64 n hn
 have a7 : awrap .u64 0 = 0 := by decide
 have a8 := awrap_u64 n hn
 simp only [kS1, bLookup, bMapSet, wantA, isCall, stepOp, evalO, evalL, evalP, evalM, putDst, flat, kA, kB, Nat.reduceLT, ↓reduceIte, kC, Nat.reduceEqDiff, aBuiltin, abinG, guardFree, abin, aInt, aUn, aNilCheck, retQ, retQ1, aresults, aresultL, aresult, mkF, undefV, reduceCtorEq, kD, kE, kF, kG, kH, kI, kJ, kK, aExtract, calleeOf, a1, a2, a3, a4, a5, a6, a7, a8, Int.mul_one, Int.one_mul, Int.mul_zero, Int.zero_mul, Int.add_zero, Int.zero_add]
 exact ⟨trivial, trivial⟩
theorem Mul_any (W0 : Base) (n : Nat) (hn : n ≤ 300) (h : AHeap) : AC Try.prog W0 118 [.int .u64 1, .int .u64 n] h fun x h' => x = .tuple #[.int .u64 0, .int .u64 n] ∧ h' = h := by
 refine AC.vc (fn := Try.f118) (c := _) ⟨Try.func118, rfl, by decide⟩ Try.ntmps118 Try.results118 (by simp) fun hwf => ?_
 simp only [argFrame, argFrom, Nat.reduceAdd]
 simp only [kS1, bLookup, bMapSet, wantA, isCall, stepOp, evalO, evalL, evalP, evalM, putDst, flat, kA, kB, Nat.reduceLT, ↓reduceIte, kC, Nat.reduceEqDiff, aBuiltin, abinG, guardFree, abin, aInt, aUn, aNilCheck, retQ, retQ1, aresults, aresultL, aresult, mkF, undefV, reduceCtorEq, kD, kE, kF, kG, kH, kI, kJ, kK, aExtract, calleeOf]
 refine KCall.intro (by simp only [kS1, bLookup, bMapSet, wantA, isCall, stepOp, evalO, evalL, evalP, evalM, putDst, flat, kA, kB, Nat.reduceLT, ↓reduceIte, kC, Nat.reduceEqDiff, aBuiltin, abinG, guardFree, abin, aInt, aUn, aNilCheck, retQ, retQ1, aresults, aresultL, aresult, mkF, undefV, reduceCtorEq, kD, kE, kF, kG, kH, kI, kJ, kK, aExtract, calleeOf] <;> rfl) ⟨Try.func129, rfl, by decide⟩ (Mul64_any W0 n hn h) ?_
 rintro v h' - ⟨rfl, rfl⟩
 simp only [kS1, bLookup, bMapSet, wantA, isCall, stepOp, evalO, evalL, evalP, evalM, putDst, flat, kA, kB, Nat.reduceLT, ↓reduceIte, kC, Nat.reduceEqDiff, aBuiltin, abinG, guardFree, abin, aInt, aUn, aNilCheck, retQ, retQ1, aresults, aresultL, aresult, mkF, undefV, reduceCtorEq, kD, kE, kF, kG, kH, kI, kJ, kK, aExtract, calleeOf]
 exact ⟨trivial, trivial⟩
theorem rep_grow {α : Type} (a b : α) (i n m : Nat) (hm : min i (n - i) = m) : List.take i (List.replicate i a ++ List.replicate (n - i) b) ++ List.take (m * 1) (List.replicate i a) ++ List.drop (i + m * 1) (List.replicate i a ++ List.replicate (n - i) b) = List.replicate (i + m) a ++ List.replicate (n - (i + m)) b := by
 have e1 : List.take i (List.replicate i a ++ List.replicate (n - i) b) = List.replicate i a := by simp [List.take_append]
 have e2 : List.take (m * 1) (List.replicate i a) = List.replicate m a := by rw [Nat.mul_one, List.take_replicate]; congr 1; omega
 have e3 : List.drop (i + m * 1) (List.replicate i a ++ List.replicate (n - i) b) = List.replicate (n - (i + m)) b := by
  rw [Nat.mul_one, List.drop_append, List.drop_replicate, List.drop_replicate]
  simp; omega
 rw [e1, e2, e3, List.replicate_append_replicate]
theorem Repeat_any (W0 : Base) (l : Value) (n : Nat) (hn : n ≤ 300) (h : AHeap) (hl : RL isI h l [-1]) : AC Try.prog W0 95 [l, .int .i64 n] h fun v h' => ∃ id, v = .slice (some ⟨id, 0, none⟩) n n ∧ h.next ≤ id ∧ h'.own id = some (.cells (List.replicate n (.int .i64 (-1)))) ∧ Le h h' := by
 refine AC.vc (fn := Try.f95) (c := _) ⟨Try.func95, rfl, by decide⟩ Try.ntmps95 Try.results95 (by simp) fun hwf => ?_
 simp only [argFrame, argFrom, Nat.reduceAdd]
 have z0 : ¬ ((n : Int) < 0) := by omega
 have ll : aLen Try.prog h 38 l = some (.int .i64 (1 : Int)) := hl.len (P := Try.prog) Try.underlying38 h
 have w1 : awrap .u64 1 = 1 := by decide
 simp only [kS1, bLookup, bMapSet, wantA, isCall, stepOp, evalO, evalL, evalP, evalM, putDst, flat, kA, kB, Nat.reduceLT, ↓reduceIte, kC, Nat.reduceEqDiff, aBuiltin, abinG, guardFree, abin, aInt, aUn, aNilCheck, retQ, retQ1, aresults, aresultL, aresult, mkF, undefV, reduceCtorEq, kD, kE, kF, kG, kH, kI, kJ, kK, aExtract, calleeOf, z0, ll, aConvert, Try.underlying3, Try.underlying108, awrap_u64 n hn, w1]
 refine KCall.intro (by simp only [kS1, bLookup, bMapSet, wantA, isCall, stepOp, evalO, evalL, evalP, evalM, putDst, flat, kA, kB, Nat.reduceLT, ↓reduceIte, kC, Nat.reduceEqDiff, aBuiltin, abinG, guardFree, abin, aInt, aUn, aNilCheck, retQ, retQ1, aresults, aresultL, aresult, mkF, undefV, reduceCtorEq, kD, kE, kF, kG, kH, kI, kJ, kK, aExtract, calleeOf] <;> rfl) ⟨Try.func118, rfl, by decide⟩ (Mul_any W0 n hn h) ?_
 rintro v h' - ⟨rfl, rfl⟩
 have z1 : ¬ ((0 : Int) < (0 : Int)) := by decide
 have z2 : ¬ ((9223372036854775807 : Int) < (n : Int)) := by omega
 have mk := aMakeSlice1 (P := Try.prog) (t := 38) h' Try.underlying38 rfl rfl rfl rfl (by kernel_rfl) Try.underlying3 (by kernel_rfl) n (by omega)
 simp only [kS1, bLookup, bMapSet, wantA, isCall, stepOp, evalO, evalL, evalP, evalM, putDst, flat, kA, kB, Nat.reduceLT, ↓reduceIte, kC, Nat.reduceEqDiff, aBuiltin, abinG, guardFree, abin, aInt, aUn, aNilCheck, retQ, retQ1, aresults, aresultL, aresult, mkF, undefV, reduceCtorEq, kD, kE, kF, kG, kH, kI, kJ, kK, aExtract, calleeOf, z1, z2, aConvert, Try.underlying3, Try.underlying108, awrap_i64 n (by omega) (by omega), mk]
 have ho : (h'.alloc (.cells (List.replicate n (.int .i64 0)))).own h'.next = some (.cells (List.replicate n (.int .i64 0))) := AHeap.own_alloc_eq _ _
 have hle : Le h' (h'.alloc (.cells (List.replicate n (.int .i64 0)))) := (Le.refl _).alloc hwf _
 have hno : h'.own h'.next = none := (Le.refl h').next hwf (Nat.le_refl _)
 generalize h'.alloc (.cells (List.replicate n (.int .i64 0))) = h1 at *
 -- the first copy
 have hcopy : ∃ m h2, aCopy Try.prog h1 38 (.slice (some ⟨h'.next, 0, none⟩) n n) l = some (.int .i64 (m : Nat), h2) ∧ (n = 0 ∧ m = 0 ∨ 1 ≤ m ∧ m ≤ n) ∧ h2.own h'.next = some (.cells (List.replicate m (.int .i64 (-1)) ++ List.replicate (n - m) (.int .i64 0))) ∧ Le h' h2 := by
  by_cases h0 : n = 0
  ·subst h0
   exact ⟨0, h1, aCopy_zero Try.underlying38 Try.underlying3 (by decide) hl.sl (by simp), .inl ⟨rfl, rfl⟩, by simpa using ho, hle⟩
  ·obtain ⟨vs, hr, hlen, hg⟩ := hl
   have hvs : vs = [.int .i64 (-1)] := by
    match vs, hlen with
    | [x], _ => rw [hg 0 (-1) x rfl rfl]
   subst hvs
   refine ⟨1, _, aCopy_own (k := 1) Try.underlying38 Try.underlying3 rfl ho (hr.le hle).cs (by rfl) 1 (by simp; omega) (by decide) (by simp; omega), .inr ⟨by omega, by omega⟩, ?_, hle.put _ hno⟩
   rw [AHeap.own_put_eq]
   simp
 obtain ⟨m, h2, hc, hm, ho2, hle2⟩ := hcopy
 simp only [kS1, bLookup, bMapSet, wantA, isCall, stepOp, evalO, evalL, evalP, evalM, putDst, flat, kA, kB, Nat.reduceLT, ↓reduceIte, kC, Nat.reduceEqDiff, aBuiltin, abinG, guardFree, abin, aInt, aUn, aNilCheck, retQ, retQ1, aresults, aresultL, aresult, mkF, undefV, reduceCtorEq, kD, kE, kF, kG, kH, kI, kJ, kK, aExtract, calleeOf, hc]
 refine KLoop.intro (fun k fr hh => ∃ i : Nat, k = n - i ∧ (n = 0 ∧ i = 0 ∨ 1 ≤ i ∧ i ≤ n) ∧ fr = mkF [(7, .slice (some ⟨h'.next, 0, none⟩) n n), (8, .int .i64 i)] ∧ hh.own h'.next = some (.cells (List.replicate i (.int .i64 (-1)) ++ List.replicate (n - i) (.int .i64 0))) ∧ Le h' hh) (n - m) [(7, .slice (some ⟨h'.next, 0, none⟩) n n), (8, .int .i64 m)] (by simp only [hasAll, kS1, bLookup, bMapSet, wantA, isCall, stepOp, evalO, evalL, evalP, evalM, putDst, flat, kA, kB, Nat.reduceLT, ↓reduceIte, kC, Nat.reduceEqDiff, aBuiltin, abinG, guardFree, abin, aInt, aUn, aNilCheck, retQ, retQ1, aresults, aresultL, aresult, mkF, undefV, reduceCtorEq, kD, kE, kF, kG, kH, kI, kJ, kK, aExtract, calleeOf]; simp) ⟨m, rfl, hm, rfl, ho2, hle2⟩ ?_
 rintro k fr hh - ⟨i, rfl, hi, rfl, ho, hle⟩
 simp only [kS1, bLookup, bMapSet, wantA, isCall, stepOp, evalO, evalL, evalP, evalM, putDst, flat, kA, kB, Nat.reduceLT, ↓reduceIte, kC, Nat.reduceEqDiff, aBuiltin, abinG, guardFree, abin, aInt, aUn, aNilCheck, retQ, retQ1, aresults, aresultL, aresult, mkF, undefV, reduceCtorEq, kD, kE, kF, kG, kH, kI, kJ, kK, aExtract, calleeOf, show aLen Try.prog hh 38 (.slice (some ⟨h'.next, 0, none⟩) n n) = some (.int .i64 n) from rfl]
 refine KCond.intro (fun ht => ?_) (fun hf => ?_)
 ·have hlt : i < n := lt_t ht
  simp only [kS1, bLookup, bMapSet, wantA, isCall, stepOp, evalO, evalL, evalP, evalM, putDst, flat, kA, kB, Nat.reduceLT, ↓reduceIte, kC, Nat.reduceEqDiff, aBuiltin, abinG, guardFree, abin, aInt, aUn, aNilCheck, retQ, retQ1, aresults, aresultL, aresult, mkF, undefV, reduceCtorEq, kD, kE, kF, kG, kH, kI, kJ, kK, aExtract, calleeOf]
  refine KDraw.intro mixed (.fl 0 (.fl 1 (.fl 2 (.fl 3 (.fl 4 (.fl 5 (.fl 6 (.ch 7 [3, 6] (.fl 8 (.ch 9 [0, 1, 2, 3, 4, 5, 6, 7, 8] (.done) .no)) .no)))))))) (by kernel_rfl) ?_
  have hunk : n < UNK := Nat.lt_of_le_of_lt hn (by decide)
  have s1 := aSlice_lo (P := Try.prog) (t := 38) (a := some ⟨h'.next, 0, none⟩) (n := n) (cap := n) (k := .i64) Try.underlying38 Try.underlying3 rfl i (by omega) (.inr hlt) (Nat.le_refl _) hunk
  have s2 := aSlice_hi (P := Try.prog) (t := 38) (a := ⟨h'.next, 0, none⟩) (n := n) (cap := n) (k := .i64) Try.underlying38 Try.underlying3 i (by omega) (Nat.le_refl _) hunk
  simp only [Option.map_some, aadd, Nat.zero_add] at s1
  have hsrc : CS 1 hh (.slice (some ⟨h'.next, 0, none⟩) i n) i (List.replicate i (.int .i64 (-1))) := by
   have := CS.own (k := 1) (off := 0) (n := i) (cap := n) ho (by simp)
   simpa using this
  have hcp := aCopy_own (P := Try.prog) (t := 38) (k := 1) (n := i) (off := i) (dl := n - i) (dc := n - i) (e := 3) Try.underlying38 Try.underlying3 rfl ho hsrc (all_rep rfl i) (min i (n - i)) rfl (by omega) (by simp; omega)
  simp only [kS1, bLookup, bMapSet, wantA, isCall, stepOp, evalO, evalL, evalP, evalM, putDst, flat, kA, kB, Nat.reduceLT, ↓reduceIte, kC, Nat.reduceEqDiff, aBuiltin, abinG, guardFree, abin, aInt, aUn, aNilCheck, retQ, retQ1, aresults, aresultL, aresult, mkF, undefV, reduceCtorEq, kD, kE, kF, kG, kH, kI, kJ, kK, aExtract, calleeOf, kD1, Nat.reduceBEq, HoldsAll, kL, kM, kN, kO, s1, s2, hcp, awrap_i64 ((i : Int) + ((min i (n - i) : Nat) : Int)) (by omega) (by omega)]
  refine loop_again (n - (i + min i (n - i))) [(7, .slice (some ⟨h'.next, 0, none⟩) n n), (8, .int .i64 (i + min i (n - i) : Nat))] (by omega) (by simp only [hasAll, kS1, bLookup, bMapSet, wantA, isCall, stepOp, evalO, evalL, evalP, evalM, putDst, flat, kA, kB, Nat.reduceLT, ↓reduceIte, kC, Nat.reduceEqDiff, aBuiltin, abinG, guardFree, abin, aInt, aUn, aNilCheck, retQ, retQ1, aresults, aresultL, aresult, mkF, undefV, reduceCtorEq, kD, kE, kF, kG, kH, kI, kJ, kK, aExtract, calleeOf]; simp) ⟨i + min i (n - i), rfl, by omega, rfl, ?_, hle.put _ hno⟩
  rw [AHeap.own_put_eq]
  rw [rep_grow _ _ i n _ rfl]
 ·have hge : n ≤ i := lt_f hf
  have : i = n := by omega
  subst this
  simp only [kS1, bLookup, bMapSet, wantA, isCall, stepOp, evalO, evalL, evalP, evalM, putDst, flat, kA, kB, Nat.reduceLT, ↓reduceIte, kC, Nat.reduceEqDiff, aBuiltin, abinG, guardFree, abin, aInt, aUn, aNilCheck, retQ, retQ1, aresults, aresultL, aresult, mkF, undefV, reduceCtorEq, kD, kE, kF, kG, kH, kI, kJ, kK, aExtract, calleeOf]
  exact ⟨_, rfl, Nat.le_refl _, by simpa using ho, hle⟩
end Go.Fw
namespace Go.Fw
open Go.Proofs
set_option maxHeartbeats 4000000
set_option maxRecDepth 10000
def I64 (l : List Int) : List Value := l.map (Value.int .i64)
theorem I64_length (l : List Int) : (I64 l).length = l.length := by simp [I64]
theorem I64_one (l : List Int) : (I64 l).all (·.oneCell') = true := by simp [I64]; intros; rfl
theorem mk1 (h : AHeap) (x : Int) : aBuildSlice Try.prog h 38 1 [(0, .int .i64 x)] = some (.slice (some ⟨h.next, 0, none⟩) 1 1, h.alloc (.cells [.int .i64 x])) := rfl
theorem aAppend_wf {P : Program} {h h' : AHeap} {t xt : TypeId} {v x v' : Value} (hw : WF h) (e : aAppend P h t xt v x = some (v', h')) : WF h' := by
 unfold aAppend at e
 split at e
 ·split at e
  ·split at e
   ·split at e
    ·split at e
     ·injection e with e; injection e with e1 e2; subst e2; exact hw
     ·cases e
    ·split at e
     ·split at e
      ·split at e
       ·split at e
        ·split at e
         ·injection e with e; injection e with e1 e2; subst e2; exact (hw.kill _).alloc _
         ·cases e
        ·cases e
       ·cases e
      ·cases e
     ·split at e
      ·split at e
       ·split at e
        ·rename_i ho
         split at e
         ·injection e with e; injection e with e1 e2; subst e2; exact hw.put _ (hw.lt ho)
         ·cases e
        ·cases e
       ·cases e
      ·split at e
       ·split at e
        ·injection e with e; injection e with e1 e2; subst e2; exact hw.alloc _
        ·cases e
       ·cases e
   ·cases e
  ·cases e
 ·cases e
theorem grow {h : AHeap} (hwf : WF h) {G : AHeap} {R w q t : Nat} {us cells : List Value} {cu x : Value} {d : TypeDesc} (ht : apT Try.prog t t 1 = true) (hu : Try.prog.underlying t = some d) (hts : tsize Try.prog t = 1)
  (oR : h.own R = some (.cells us)) (hw : w < us.length) (g : GS 1 h cu q cells) (hc : cells.all (·.oneCell') = true) (hx : x.oneCell' = true) (hq : q ≤ 100000) (nR : blk cu ≠ some R) (le : Le G h) (gR : G.own R = none) (ap : Apart G cu) :
  ∃ cu' h4 h5 h6, h.alloc (.cells [x]) = h4 ∧ aAppend Try.prog h4 t t cu (.slice (some ⟨h.next, 0, none⟩) 1 1) = some (cu', h5) ∧ aStore Try.prog h5 t (.pointer (some ⟨R, w, none⟩)) cu' = some h6 ∧ GS 1 h6 cu' (q + 1) (cells ++ [x]) ∧
   h6.own R = some (.cells (us.set w cu')) ∧ blk cu' ≠ some R ∧ Apart G cu' ∧ Le h h4 ∧ Le G h5 ∧ Le G h6 ∧ (∀ b o, h.own b = some o → b ≠ R → blk cu ≠ some b → h6.own b = some o ∧ blk cu' ≠ some b) ∧ (∀ b o, h.own b = some o → blk cu ≠ some b → h5.own b = some o) ∧ WF h6 := by
 obtain ⟨h4, e4, le4, wf4, o4⟩ := alloc_f hwf [x]
 obtain ⟨cu', h5, e5, g5, hf⟩ := (g.le le4).push (P := Try.prog) (t := t) ht o4 hc hx (by omega)
 obtain ⟨q1, q2⟩ := keep_own hf wf4 (le4.own _ _ oR) nR
 obtain ⟨l5, a5⟩ := hf G wf4 (le.trans le4) ap
 have wf5 : WF h5 := aAppend_wf wf4 e5
 have sl := g5.cs.sl
 have st := aStore1 (P := Try.prog) (t := t) (x := cu') hu hts q1 (off := w) hw (by obtain ⟨_, _, rfl, _⟩ := sl; rfl) sl.one
 refine ⟨cu', h4, h5, _, e4, e5, st, g5.put _ q2, AHeap.own_put_eq _ _ _, q2, a5, le4, l5, l5.put _ gR, fun b o hb hbR hbc => ?_, fun b o hb hbc => (keep_own hf wf4 (le4.own _ _ hb) hbc).1, wf5.put _ (wf5.lt q1)⟩
 obtain ⟨r1, r2⟩ := keep_own hf wf4 (le4.own _ _ hb) hbc
 exact ⟨by rw [AHeap.own_put_ne _ _ _ _ hbR]; exact r1, r2⟩
structure Rows (b0 h : AHeap) (L : Nat) (us : List Value) (rows : List (List Int)) : Prop where
 oL : h.own L = some (.cells us)
 len : us.length = rows.length
 gs : ∀ (v : Nat) u r, us[v]? = some u → rows[v]? = some r → GS 1 h u r.length (I64 r)
 nL : ∀ (v : Nat) u, us[v]? = some u → blk u ≠ some L
 dis : ∀ (v w : Nat) u u' b, v ≠ w → us[v]? = some u → us[w]? = some u' → blk u = some b → blk u' ≠ some b
 ap : ∀ (v : Nat) u, us[v]? = some u → Apart b0 u
 le : Le b0 h
 bL : b0.own L = none
theorem Rows.up {b0 h h' : AHeap} {L : Nat} {us : List Value} {rows : List (List Int)} (R : Rows b0 h L us rows) (e : Le h h') : Rows b0 h' L us rows :=
 ⟨e.own _ _ R.oL, R.len, fun v u r hu hr => (R.gs v u r hu hr).le e, R.nL, R.dis, R.ap, R.le.trans e, R.bL⟩
theorem Rows.start {b0 h : AHeap} {L n : Nat} (ho : h.own L = some (.cells (List.replicate n (.slice none 0 0)))) (le : Le b0 h) (bL : b0.own L = none) : Rows b0 h L (List.replicate n (.slice none 0 0)) (List.replicate n []) := by
 have hnil : ∀ (v : Nat) u, (List.replicate n (Value.slice none 0 0))[v]? = some u → u = .slice none 0 0 := fun v u hu => List.eq_of_mem_replicate (List.mem_of_getElem? hu)
 refine ⟨ho, by simp, fun v u r hu hr => ?_, fun v u hu => ?_, fun v w u u' b _ hu _ hb => ?_, fun v u hu b hb => ?_, le, bL⟩
 ·rw [hnil v u hu, show r = [] from List.eq_of_mem_replicate (List.mem_of_getElem? hr)]; exact .nil 1 _
 ·rw [hnil v u hu]; simp [blk]
 ·rw [hnil v u hu] at hb; simp [blk] at hb
 ·rw [hnil v u hu] at hb; simp [blk] at hb
theorem Rows.push {b0 h : AHeap} {L : Nat} {us : List Value} {rows : List (List Int)} (R : Rows b0 h L us rows) (hwf : WF h) {w : Nat} {r : List Int} (hr : rows[w]? = some r) (x : Int) (hq : r.length ≤ 100000) :
  ∃ u u' h4 h5 h6, us[w]? = some u ∧ h.alloc (.cells [.int .i64 x]) = h4 ∧ aAppend Try.prog h4 38 38 u (.slice (some ⟨h.next, 0, none⟩) 1 1) = some (u', h5) ∧ aStore Try.prog h5 38 (.pointer (some ⟨L, w, none⟩)) u' = some h6 ∧ Le h h4 ∧ Le b0 h5 ∧
   h5.own L = some (.cells us) ∧ Rows b0 h6 L (us.set w u') (rows.set w (r ++ [x])) ∧ WF h6 ∧ (∀ b o, h.own b = some o → b ≠ L → (∀ (v : Nat) a, us[v]? = some a → blk a ≠ some b) → h5.own b = some o ∧ h6.own b = some o ∧ ∀ (v : Nat) a, (us.set w u')[v]? = some a → blk a ≠ some b) := by
 have hwl : w < us.length := by rw [R.len]; exact (List.getElem?_eq_some_iff.1 hr).1
 have hu := getElem?_of hwl
 generalize us[w] = u at hu
 have g := R.gs w u r hu hr
 obtain ⟨u', h4, h5, h6, e4, e5, e6, g6, o6, n6, a6, l4, l5, l6, keep, keep5, wf6⟩ := grow hwf (G := b0) (t := 38) (x := .int .i64 x) (by kernel_rfl) Try.underlying38 (by kernel_rfl) R.oL hwl g (I64_one _) rfl hq (R.nL w u hu) R.le R.bL (R.ap w u hu)
 refine ⟨u, u', h4, h5, h6, hu, e4, e5, e6, l4, l5, keep5 _ _ R.oL (R.nL w u hu), ⟨o6, by simp [R.len], fun v a q ha hq' => ?_, fun v a ha => ?_, fun v v' a a' b hne ha ha' hb => ?_, fun v a ha => ?_, l6, R.bL⟩, wf6, fun b o hb hbL hbu => ⟨keep5 b o hb (hbu w u hu), (keep b o hb hbL (hbu w u hu)).1, fun v a ha => ?_⟩⟩
 ·rw [List.getElem?_set] at ha hq'
  by_cases e : w = v
  ·subst e
   have hrl := (List.getElem?_eq_some_iff.1 hr).1
   rw [if_pos rfl, if_pos hwl] at ha
   rw [if_pos rfl, if_pos hrl] at hq'
   injection ha with ha; injection hq' with hq'; subst ha hq'
   have : I64 r ++ [.int .i64 x] = I64 (r ++ [x]) := by simp [I64]
   rw [← this, List.length_append]; exact g6
  ·rw [if_neg e] at ha hq'
   refine (R.gs v a q ha hq').kept fun b o hb ho => (keep b o ho (fun e2 => R.nL v a ha (by rw [← e2]; exact hb)) (fun e2 => R.dis w v u a b e hu ha e2 hb)).1
 ·rw [List.getElem?_set] at ha
  by_cases e : w = v
  ·subst e; rw [if_pos rfl, if_pos hwl] at ha; injection ha with ha; subst ha; exact n6
  ·rw [if_neg e] at ha; exact R.nL v a ha
 ·rw [List.getElem?_set] at ha ha'
  by_cases e : w = v
  ·subst e
   rw [if_pos rfl, if_pos hwl] at ha; injection ha with ha; subst ha
   rw [if_neg hne] at ha'
   intro hb'
   have hgs : ∃ q, rows[v']? = some q := ⟨_, getElem?_of (by rw [← R.len]; exact (List.getElem?_eq_some_iff.1 ha').1)⟩
   obtain ⟨q, hq'⟩ := hgs
   obtain ⟨o, ho⟩ := Option.ne_none_iff_exists'.1 ((R.gs v' a' q ha' hq').blk_own hb')
   exact (keep b o ho (fun e2 => R.nL v' a' ha' (by rw [← e2]; exact hb')) (fun e2 => R.dis w v' u a' b hne hu ha' e2 hb')).2 hb
  ·rw [if_neg e] at ha
   by_cases e' : w = v'
   ·subst e'
    rw [if_pos rfl, if_pos hwl] at ha'; injection ha' with ha'; subst ha'
    have hgs : ∃ q, rows[v]? = some q := ⟨_, getElem?_of (by rw [← R.len]; exact (List.getElem?_eq_some_iff.1 ha).1)⟩
    obtain ⟨q, hq'⟩ := hgs
    obtain ⟨o, ho⟩ := Option.ne_none_iff_exists'.1 ((R.gs v a q ha hq').blk_own hb)
    exact (keep b o ho (fun e2 => R.nL v a ha (by rw [← e2]; exact hb)) (fun e2 => R.dis w v u a b e hu ha e2 hb)).2
   ·rw [if_neg e'] at ha'
    exact R.dis v v' a a' b hne ha ha' hb
 ·rw [List.getElem?_set] at ha
  by_cases e : w = v
  ·subst e; rw [if_pos rfl, if_pos hwl] at ha; injection ha with ha; subst ha; exact a6
  ·rw [if_neg e] at ha; exact R.ap v a ha
 ·rw [List.getElem?_set] at ha
  by_cases e : w = v
  ·subst e; rw [if_pos rfl, if_pos hwl] at ha; injection ha with ha; subst ha; exact (keep b o hb hbL (hbu w u hu)).2
  ·rw [if_neg e] at ha; exact hbu v a ha
def isG (h : AHeap) (u : Value) (r : List Int) : Prop := GS 1 h u r.length (I64 r)
theorem RL.map {α : Type} {R R' : AHeap → Value → α → Prop} {h : AHeap} {v : Value} {xs : List α} (r : RL R h v xs) (hR : ∀ u x, R h u x → R' h u x) : RL R' h v xs := by
 obtain ⟨vs, q, hl, hr⟩ := r
 exact ⟨vs, q, hl, fun i x u hx hu => hR u x (hr i x u hx hu)⟩
theorem isG.rl {h : AHeap} {u : Value} {r : List Int} (g : isG h u r) : RL isI h u r := RL.ofI (GS.cs g).rs
theorem Rows.rlG {b0 h : AHeap} {L n c : Nat} {us : List Value} {rows : List (List Int)} (R : Rows b0 h L us rows) (hn : us.length = n) : RL isG h (.slice (some ⟨L, 0, none⟩) n c) rows :=
 ⟨us, RS.whole R.oL hn, R.len, fun i x u hx hu => R.gs i u x hu hx⟩
def besStep (rows : List (List Int)) (p : Pr) : List (List Int) :=
 let r1 := rows.set p.1.toNat ((rows.getD p.1.toNat []) ++ [p.2])
 r1.set p.2.toNat ((r1.getD p.2.toNat []) ++ [p.1])
def besM (n : Nat) (es : List Pr) : List (List Int) := es.foldl besStep (List.replicate n [])
theorem besStep_length (rows : List (List Int)) (p : Pr) : (besStep rows p).length = rows.length := by simp [besStep]
theorem besM_length (n : Nat) (es : List Pr) : (besM n es).length = n := by
 have : ∀ (es : List Pr) (rows : List (List Int)), (es.foldl besStep rows).length = rows.length := by
  intro es
  induction es with
  | nil => intro rows; rfl
  | cons p es ih => intro rows; rw [List.foldl_cons, ih, besStep_length]
 rw [besM, this]; simp
theorem besM_snoc (n : Nat) (es : List Pr) (p : Pr) : besM n (es ++ [p]) = besStep (besM n es) p := by simp [besM]
theorem besM_rows (n : Nat) (es : List Pr) : ∀ r ∈ besM n es, r.length ≤ 2 * es.length := by
 have : ∀ (es : List Pr) (rows : List (List Int)) (k : Nat), (∀ r ∈ rows, r.length ≤ k) → ∀ r ∈ es.foldl besStep rows, r.length ≤ k + 2 * es.length := by
  intro es
  induction es with
  | nil => intro rows k h; simpa using h
  | cons p es ih =>
   intro rows k h r hr
   rw [List.foldl_cons] at hr
   have hgd : ∀ (l : List (List Int)) (m : Nat), (∀ r ∈ l, r.length ≤ m) → ∀ i, (l.getD i []).length ≤ m := fun l m hl i => by
    by_cases hi : i < l.length
    ·rw [getD_of hi]; exact hl _ (List.getElem_mem hi)
    ·simp [List.getD_eq_getElem?_getD, List.getElem?_eq_none (Nat.le_of_not_lt hi)]
   have h1 : ∀ r ∈ rows.set p.1.toNat ((rows.getD p.1.toNat []) ++ [p.2]), r.length ≤ k + 1 := fun r hr => by
    rcases List.mem_or_eq_of_mem_set hr with h' | rfl
    ·have := h r h'; omega
    ·have := hgd rows k h p.1.toNat; simp; simpa using this
   have h2 : ∀ r ∈ besStep rows p, r.length ≤ k + 2 := fun r hr => by
    rcases List.mem_or_eq_of_mem_set hr with h' | rfl
    ·have := h1 r h'; omega
    ·have := hgd _ (k + 1) h1 p.2.toNat; simp at this ⊢; omega
   have := ih (besStep rows p) (k + 2) h2 r hr
   simp; omega
 intro r hr
 have := this es (List.replicate n []) 0 (fun r hr => by rw [List.eq_of_mem_replicate hr]; simp) r hr
 omega
end Go.Fw
