/- One of the texts of the layer and the walks: it proves what its theorems say of the functions of the seat, with no condition beyond theirs. -/
import Derived.Test.YtmgcmoifdnkaoaaFwLZ9
import Derived.Test.YtmgcmoifdnkaoaaFwLBR
import Derived.Test.YtmgcmoifdnkaoaaFwLB9
set_option linter.unusedSimpArgs false
set_option linter.unusedVariables false
namespace Go.Fw
open Go.Proofs
attribute [local irreducible] KO4 KO3 KO2 KO1 KO KN KX KE VK KCond KDraw KCall KLoop
set_option maxHeartbeats 8000000
set_option maxRecDepth 10000
theorem LR.len {h : AHeap} {v : Value} {ls : List Lw} (r : LR h v ls) (g : AHeap) : aLen Try.prog g 27 v = some (.int .i64 ls.length) := by
  obtain ⟨a, c, rfl, _⟩ := r.sl; simp [aLen, Try.underlying27]
def lA3 (v : Value) (i : Nat) : Addr := elemAddr v (i * 3)
theorem LR.addr {h : AHeap} {v : Value} {ls : List Lw} (r : LR h v ls) {k : IntKind} (i : Nat) (hi : i < ls.length) : aIndexAddr Try.prog 27 v (.int k i) = some (.pointer (some (lA3 v i))) := by
  obtain ⟨a, c, rfl, hs⟩ := r.sl
  obtain ⟨a, rfl⟩ := Option.isSome_iff_exists.1 (hs (by omega))
  have h1 : (i : Int) < (ls.length : Int) := by omega
  simp [aIndexAddr, Try.underlying27, Try.underlying51, h1, lA3, elemAddr, ts51]
theorem LR.get {h : AHeap} {v : Value} {ls : List Lw} (r : LR h v ls) {i : Nat} {p : Lw} (hp : ls[i]? = some p) :
    h.read (aadd (lA3 v i) 0) = some (.int .i64 p.1) ∧ h.read (aadd (lA3 v i) 1) = some (.int .i64 p.2.1) ∧ h.read (aadd (lA3 v i) 2) = some (.int .i64 p.2.2) := by
  obtain ⟨f1, f2, f3⟩ := flatL_get ls i p hp
  have g1 := CS.get r _ _ f1
  have g2 := CS.get r _ _ f2
  have g3 := CS.get r _ _ f3
  obtain ⟨a, c, rfl, hs⟩ := r.sl
  have hi := (List.getElem?_eq_some_iff.1 hp).1
  obtain ⟨a, rfl⟩ := Option.isSome_iff_exists.1 (hs (by omega))
  simp only [lA3, elemAddr_mk, aadd] at *
  exact ⟨by simpa using g1, by simpa [Nat.add_assoc] using g2, by simpa [Nat.add_assoc] using g3⟩
theorem LR.l0 {h : AHeap} {v : Value} {ls : List Lw} (r : LR h v ls) {i : Nat} {p : Lw} (hp : ls[i]? = some p) : aload Try.prog h 3 (aadd (lA3 v i) 0) = some (.int .i64 p.1) := by
  rw [aload_flat Try.underlying3 rfl]; exact (r.get hp).1
theorem LR.l1 {h : AHeap} {v : Value} {ls : List Lw} (r : LR h v ls) {i : Nat} {p : Lw} (hp : ls[i]? = some p) : aload Try.prog h 3 (aadd (lA3 v i) 1) = some (.int .i64 p.2.1) := by
  rw [aload_flat Try.underlying3 rfl]; exact (r.get hp).2.1
theorem LR.l2 {h : AHeap} {v : Value} {ls : List Lw} (r : LR h v ls) {i : Nat} {p : Lw} (hp : ls[i]? = some p) : aload Try.prog h 3 (aadd (lA3 v i) 2) = some (.int .i64 p.2.2) := by
  rw [aload_flat Try.underlying3 rfl]; exact (r.get hp).2.2
theorem read3 {h : AHeap} {a : Addr} {p : Lw} (q : h.read (aadd a 0) = some (.int .i64 p.1) ∧ h.read (aadd a 1) = some (.int .i64 p.2.1) ∧ h.read (aadd a 2) = some (.int .i64 p.2.2)) : readN h a 3 = some [.int .i64 p.1, .int .i64 p.2.1, .int .i64 p.2.2] := by
  refine readN_get [.int .i64 p.1, .int .i64 p.2.1, .int .i64 p.2.2] _ fun j x hx => ?_
  match j with
  | 0 => simp at hx; subst hx; exact q.1
  | 1 => simp at hx; subst hx; exact q.2.1
  | 2 => simp at hx; subst hx; exact q.2.2
  | j + 3 => simp at hx
theorem LR.load {h : AHeap} {v : Value} {ls : List Lw} (r : LR h v ls) {i : Nat} {p : Lw} (hp : ls[i]? = some p) : aload Try.prog h 51 (lA3 v i) = some (valL p) := by
  have hd : isAggD (.struct #[]) = true := rfl
  simp only [aload, Try.underlying51, isAggD, cond_true, ts51, read3 (r.get hp), valL]
theorem eqL (p q : Lw) : aEq Try.prog 51 (valL p) (valL q) = some (decide (p = q)) := by
  obtain ⟨a, b, c⟩ := p
  obtain ⟨a', b', c'⟩ := q
  have h1 : fieldsI Try.prog (match Try.prog.underlying 51 with | some (.struct fs) => fs.toList | _ => []) 0 = true := by kernel_rfl
  have h2 : Try.prog.stoodInHeld 51 = false := by kernel_rfl
  rw [Try.underlying51] at h1
  simp only at h1
  simp only [aEq, Try.underlying51, valL, allInts, h1, h2]
  simp
  rw [Bool.eq_iff_iff]; simp
theorem gfL (p : Lw) : guardFree (valL p) = true := rfl
theorem abinL (p q : Lw) : abinG Try.prog .neq 51 (valL p) (valL q) = some (.bool (!decide (p = q))) := by
  have h2 : abin Try.prog .neq 51 (valL p) (valL q) = match aEq Try.prog 51 (valL p) (valL q) with | some b => some (.bool (!b)) | none => none := rfl
  rw [abinG, gfL, cond_true, h2, eqL]
theorem SameLow_any (W0 : Base) (v w : Value) (ps qs : List Lw) (h : AHeap) (hv : LR h v ps) (hw : LR h w qs) (hn : ps.length ≤ 100000) : AC Try.prog W0 21 [v, w] h fun x h' => x = .bool (decide (ps = qs)) ∧ h' = h := by
  refine AC.vc (fn := Try.f21) (c := _) ⟨Try.func21, rfl, by decide⟩ Try.ntmps21 Try.results21 (by simp) fun hwf => ?_
  simp only [argFrame, argFrom, Nat.reduceAdd]
  have lv := fun g => hv.len g
  have lw := fun g => hw.len g
  by_cases c : (ps.length : Int) = (qs.length : Int)
  rotate_left
  · simp only [kS1, bLookup, bMapSet, wantA, isCall, stepOp, evalO, evalL, evalP, evalM, putDst, flat, kA, kB, Nat.reduceLT, ↓reduceIte, kC, Nat.reduceEqDiff, aBuiltin, abinG, guardFree, abin, aInt, aUn, aNilCheck, retQ, retQ1, aresults, aresultL, aresult, mkF, undefV, reduceCtorEq, kD, kE, kF, kG, kH, kI, kJ, kK, aExtract, calleeOf, lv, lw, bne, eq_false c]
    exact ⟨by rw [decide_eq_false (fun e => c (by rw [e]))], trivial⟩
  have c' : ps.length = qs.length := by omega
  simp only [kS1, bLookup, bMapSet, wantA, isCall, stepOp, evalO, evalL, evalP, evalM, putDst, flat, kA, kB, Nat.reduceLT, ↓reduceIte, kC, Nat.reduceEqDiff, aBuiltin, abinG, guardFree, abin, aInt, aUn, aNilCheck, retQ, retQ1, aresults, aresultL, aresult, mkF, undefV, reduceCtorEq, kD, kE, kF, kG, kH, kI, kJ, kK, aExtract, calleeOf, lv, lw, bne, eq_true c]
  refine KLoop.intro (fun k fr hh => ∃ i : Nat, k = ps.length - i ∧ i ≤ ps.length ∧ hh = h ∧ fr = mkF [(0, v), (1, w), (12, .int .i64 ps.length), (13, .int .i64 i)] ∧ ps.take i = qs.take i)
    ps.length [(0, v), (1, w), (12, .int .i64 ps.length), (13, .int .i64 (0 : Nat))] (by simp only [hasAll, kS1, bLookup, bMapSet, wantA, isCall, stepOp, evalO, evalL, evalP, evalM, putDst, flat, kA, kB, Nat.reduceLT, ↓reduceIte, kC, Nat.reduceEqDiff, aBuiltin, abinG, guardFree, abin, aInt, aUn, aNilCheck, retQ, retQ1, aresults, aresultL, aresult, mkF, undefV, reduceCtorEq, kD, kE, kF, kG, kH, kI, kJ, kK, aExtract, calleeOf]; simp) ⟨0, rfl, Nat.zero_le _, rfl, rfl, rfl⟩ ?_
  rintro k fr hh - ⟨i, rfl, hi, rfl, rfl, he⟩
  simp only [kS1, bLookup, bMapSet, wantA, isCall, stepOp, evalO, evalL, evalP, evalM, putDst, flat, kA, kB, Nat.reduceLT, ↓reduceIte, kC, Nat.reduceEqDiff, aBuiltin, abinG, guardFree, abin, aInt, aUn, aNilCheck, retQ, retQ1, aresults, aresultL, aresult, mkF, undefV, reduceCtorEq, kD, kE, kF, kG, kH, kI, kJ, kK, aExtract, calleeOf]
  refine KCond.intro (fun ht => ?_) (fun hf => ?_)
  · have hlt : i < ps.length := by have := lt_t ht; omega
    have hpi := getElem?_of hlt
    have hqi := getElem?_of (show i < qs.length by omega)
    have t1 : ps.take (i + 1) = ps.take i ++ [ps[i]] := List.take_succ_eq_append_getElem hlt
    have t2 : qs.take (i + 1) = qs.take i ++ [qs[i]'(by omega)] := List.take_succ_eq_append_getElem (by omega)
    generalize ps[i] = p at hpi t1
    generalize qs[i]'(by omega) = q at hqi t2
    have ad := hv.addr (k := .i64) i hlt
    have ld := hv.load hpi
    have ad2 := hw.addr (k := .i64) i (by omega)
    have ld2 := hw.load hqi
    have hab := abinL p q
    simp only [kS1, bLookup, bMapSet, wantA, isCall, stepOp, evalO, evalL, evalP, evalM, putDst, flat, kA, kB, Nat.reduceLT, ↓reduceIte, kC, Nat.reduceEqDiff, aBuiltin, abinG, guardFree, abin, aInt, aUn, aNilCheck, retQ, retQ1, aresults, aresultL, aresult, mkF, undefV, reduceCtorEq, kD, kE, kF, kG, kH, kI, kJ, kK, aExtract, calleeOf]
    refine KDraw.intro mixed (.fl 0 (.fl 1 (.fl 2 (.fl 3 (.fl 4 (.fl 5 (.fl 6 (.fl 7 (.fl 8 (.done)))))))))) (by kernel_rfl) ?_
    cases hb : decide (p = q) with
    | true =>
      rw [hb] at hab
      have e := of_decide_eq_true hb
      simp only [kS1, bLookup, bMapSet, wantA, isCall, stepOp, evalO, evalL, evalP, evalM, putDst, flat, kA, kB, Nat.reduceLT, ↓reduceIte, kC, Nat.reduceEqDiff, aBuiltin, abinG, guardFree, abin, aInt, aUn, aNilCheck, retQ, retQ1, aresults, aresultL, aresult, mkF, undefV, reduceCtorEq, kD, kE, kF, kG, kH, kI, kJ, kK, aExtract, calleeOf, kD1, Nat.reduceBEq, HoldsAll, kL, kM, kN, kO, ad, ld, ad2, ld2, hab, -abinG, awrap_succ i (by omega)]
      exact loop_again (ps.length - (i + 1)) [(0, v), (1, w), (12, .int .i64 ps.length), (13, .int .i64 (i + 1 : Nat))] (by omega) (by simp only [hasAll, kS1, bLookup, bMapSet, wantA, isCall, stepOp, evalO, evalL, evalP, evalM, putDst, flat, kA, kB, Nat.reduceLT, ↓reduceIte, kC, Nat.reduceEqDiff, aBuiltin, abinG, guardFree, abin, aInt, aUn, aNilCheck, retQ, retQ1, aresults, aresultL, aresult, mkF, undefV, reduceCtorEq, kD, kE, kF, kG, kH, kI, kJ, kK, aExtract, calleeOf]; simp) ⟨i + 1, rfl, hlt, rfl, rfl, by rw [t1, t2, he, e]⟩
    | false =>
      rw [hb] at hab
      have e := of_decide_eq_false hb
      simp only [kS1, bLookup, bMapSet, wantA, isCall, stepOp, evalO, evalL, evalP, evalM, putDst, flat, kA, kB, Nat.reduceLT, ↓reduceIte, kC, Nat.reduceEqDiff, aBuiltin, abinG, guardFree, abin, aInt, aUn, aNilCheck, retQ, retQ1, aresults, aresultL, aresult, mkF, undefV, reduceCtorEq, kD, kE, kF, kG, kH, kI, kJ, kK, aExtract, calleeOf, kD1, Nat.reduceBEq, HoldsAll, kL, kM, kN, kO, ad, ld, ad2, ld2, hab, -abinG]
      exact by rw [decide_eq_false (fun e' => e (by subst e'; rw [hpi] at hqi; injection hqi))]
  · have hge : ps.length ≤ i := by have := lt_f hf; omega
    rw [List.take_of_length_le hge, List.take_of_length_le (by omega)] at he
    simp only [kS1, bLookup, bMapSet, wantA, isCall, stepOp, evalO, evalL, evalP, evalM, putDst, flat, kA, kB, Nat.reduceLT, ↓reduceIte, kC, Nat.reduceEqDiff, aBuiltin, abinG, guardFree, abin, aInt, aUn, aNilCheck, retQ, retQ1, aresults, aresultL, aresult, mkF, undefV, reduceCtorEq, kD, kE, kF, kG, kH, kI, kJ, kK, aExtract, calleeOf]
    exact ⟨by rw [decide_eq_true he], trivial⟩
theorem SamePairLists_any (W0 : Base) (v w : Value) (ps qs : List (List Pr)) (h : AHeap) (hv : RL PR h v ps) (hw : RL PR h w qs) (hn : ps.length ≤ 100000) (hp : ∀ p ∈ ps, p.length ≤ 100000) : AC Try.prog W0 28 [v, w] h fun x h' => x = .bool (decide (ps = qs)) ∧ h' = h := by
  refine AC.vc (fn := Try.f28) (c := _) ⟨Try.func28, rfl, by decide⟩ Try.ntmps28 Try.results28 (by simp) fun hwf => ?_
  simp only [argFrame, argFrom, Nat.reduceAdd]
  have lv := fun g => hv.len (P := Try.prog) Try.underlying38 g
  have lw := fun g => hw.len (P := Try.prog) Try.underlying38 g
  by_cases c : (ps.length : Int) = (qs.length : Int)
  rotate_left
  · simp only [kS1, bLookup, bMapSet, wantA, isCall, stepOp, evalO, evalL, evalP, evalM, putDst, flat, kA, kB, Nat.reduceLT, ↓reduceIte, kC, Nat.reduceEqDiff, aBuiltin, abinG, guardFree, abin, aInt, aUn, aNilCheck, retQ, retQ1, aresults, aresultL, aresult, mkF, undefV, reduceCtorEq, kD, kE, kF, kG, kH, kI, kJ, kK, aExtract, calleeOf, lv, lw, bne, eq_false c]
    exact ⟨by rw [decide_eq_false (fun e => c (by rw [e]))], trivial⟩
  have c' : ps.length = qs.length := by omega
  simp only [kS1, bLookup, bMapSet, wantA, isCall, stepOp, evalO, evalL, evalP, evalM, putDst, flat, kA, kB, Nat.reduceLT, ↓reduceIte, kC, Nat.reduceEqDiff, aBuiltin, abinG, guardFree, abin, aInt, aUn, aNilCheck, retQ, retQ1, aresults, aresultL, aresult, mkF, undefV, reduceCtorEq, kD, kE, kF, kG, kH, kI, kJ, kK, aExtract, calleeOf, lv, lw, bne, eq_true c]
  refine KLoop.intro (fun k fr hh => ∃ i : Nat, k = ps.length - i ∧ i ≤ ps.length ∧ hh = h ∧ fr = mkF [(0, v), (1, w), (5, .int .i64 i)] ∧ ps.take i = qs.take i)
    ps.length [(0, v), (1, w), (5, .int .i64 (0 : Nat))] (by simp only [hasAll, kS1, bLookup, bMapSet, wantA, isCall, stepOp, evalO, evalL, evalP, evalM, putDst, flat, kA, kB, Nat.reduceLT, ↓reduceIte, kC, Nat.reduceEqDiff, aBuiltin, abinG, guardFree, abin, aInt, aUn, aNilCheck, retQ, retQ1, aresults, aresultL, aresult, mkF, undefV, reduceCtorEq, kD, kE, kF, kG, kH, kI, kJ, kK, aExtract, calleeOf]; simp) ⟨0, rfl, Nat.zero_le _, rfl, rfl, rfl⟩ ?_
  rintro k fr hh - ⟨i, rfl, hi, rfl, rfl, he⟩
  simp only [kS1, bLookup, bMapSet, wantA, isCall, stepOp, evalO, evalL, evalP, evalM, putDst, flat, kA, kB, Nat.reduceLT, ↓reduceIte, kC, Nat.reduceEqDiff, aBuiltin, abinG, guardFree, abin, aInt, aUn, aNilCheck, retQ, retQ1, aresults, aresultL, aresult, mkF, undefV, reduceCtorEq, kD, kE, kF, kG, kH, kI, kJ, kK, aExtract, calleeOf, lv]
  refine KCond.intro (fun ht => ?_) (fun hf => ?_)
  · have hlt : i < ps.length := lt_t ht
    have hpi := getElem?_of hlt
    have hqi := getElem?_of (show i < qs.length by omega)
    have t1 : ps.take (i + 1) = ps.take i ++ [ps[i]] := List.take_succ_eq_append_getElem hlt
    have t2 : qs.take (i + 1) = qs.take i ++ [qs[i]'(by omega)] := List.take_succ_eq_append_getElem (by omega)
    have ad := hv.addr (P := Try.prog) Try.underlying38 Try.underlying22 (by kernel_rfl) (k := .i64) i hlt
    obtain ⟨u, ld, hu⟩ := hv.load (P := Try.prog) Try.underlying22 rfl i hlt
    have ad2 := hw.addr (P := Try.prog) Try.underlying38 Try.underlying22 (by kernel_rfl) (k := .i64) i (by omega)
    obtain ⟨u2, ld2, hu2⟩ := hw.load (P := Try.prog) Try.underlying22 rfl i (by omega)
    have hpl := hp _ (List.mem_of_getElem? hpi)
    generalize ps[i] = p at hpi t1 hu hpl
    generalize qs[i]'(by omega) = q at hqi t2 hu2
    simp only [kS1, bLookup, bMapSet, wantA, isCall, stepOp, evalO, evalL, evalP, evalM, putDst, flat, kA, kB, Nat.reduceLT, ↓reduceIte, kC, Nat.reduceEqDiff, aBuiltin, abinG, guardFree, abin, aInt, aUn, aNilCheck, retQ, retQ1, aresults, aresultL, aresult, mkF, undefV, reduceCtorEq, kD, kE, kF, kG, kH, kI, kJ, kK, aExtract, calleeOf]
    refine KDraw.intro mixed (.fl 0 (.fl 1 (.fl 2 (.fl 3 (.fl 4 (.fl 5 (.fl 6 (.fl 7 (.ch 8 [3, 7] (.fl 9 (.done)) .no))))))))) (by kernel_rfl) ?_
    simp only [kS1, bLookup, bMapSet, wantA, isCall, stepOp, evalO, evalL, evalP, evalM, putDst, flat, kA, kB, Nat.reduceLT, ↓reduceIte, kC, Nat.reduceEqDiff, aBuiltin, abinG, guardFree, abin, aInt, aUn, aNilCheck, retQ, retQ1, aresults, aresultL, aresult, mkF, undefV, reduceCtorEq, kD, kE, kF, kG, kH, kI, kJ, kK, aExtract, calleeOf, kD1, Nat.reduceBEq, HoldsAll, kL, kM, kN, kO, ad, ld, ad2, ld2]
    refine KGCall.intro (by simp only [kS1, bLookup, bMapSet, wantA, isCall, stepOp, evalO, evalL, evalP, evalM, putDst, flat, kA, kB, Nat.reduceLT, ↓reduceIte, kC, Nat.reduceEqDiff, aBuiltin, abinG, guardFree, abin, aInt, aUn, aNilCheck, retQ, retQ1, aresults, aresultL, aresult, mkF, undefV, reduceCtorEq, kD, kE, kF, kG, kH, kI, kJ, kK, aExtract, calleeOf] <;> rfl) ⟨Try.func22, rfl, by decide⟩ (SamePairs_any W0 u u2 p q hh hu hu2 hpl) ?_
    rintro x h3 w3 ⟨rfl, rfl⟩
    cases hb : decide (p = q) with
    | true =>
      have e := of_decide_eq_true hb
      simp only [kS1, bLookup, bMapSet, wantA, isCall, stepOp, evalO, evalL, evalP, evalM, putDst, flat, kA, kB, Nat.reduceLT, ↓reduceIte, kC, Nat.reduceEqDiff, aBuiltin, abinG, guardFree, abin, aInt, aUn, aNilCheck, retQ, retQ1, aresults, aresultL, aresult, mkF, undefV, reduceCtorEq, kD, kE, kF, kG, kH, kI, kJ, kK, aExtract, calleeOf, kD1, Nat.reduceBEq, HoldsAll, kL, kM, kN, kO, ad, ld, ad2, ld2, awrap_succ i (by omega)]
      exact loop_again (ps.length - (i + 1)) [(0, v), (1, w), (5, .int .i64 (i + 1 : Nat))] (by omega) (by simp only [hasAll, kS1, bLookup, bMapSet, wantA, isCall, stepOp, evalO, evalL, evalP, evalM, putDst, flat, kA, kB, Nat.reduceLT, ↓reduceIte, kC, Nat.reduceEqDiff, aBuiltin, abinG, guardFree, abin, aInt, aUn, aNilCheck, retQ, retQ1, aresults, aresultL, aresult, mkF, undefV, reduceCtorEq, kD, kE, kF, kG, kH, kI, kJ, kK, aExtract, calleeOf]; simp) ⟨i + 1, rfl, hlt, rfl, rfl, by rw [t1, t2, he, e]⟩
    | false =>
      have e := of_decide_eq_false hb
      simp only [kS1, bLookup, bMapSet, wantA, isCall, stepOp, evalO, evalL, evalP, evalM, putDst, flat, kA, kB, Nat.reduceLT, ↓reduceIte, kC, Nat.reduceEqDiff, aBuiltin, abinG, guardFree, abin, aInt, aUn, aNilCheck, retQ, retQ1, aresults, aresultL, aresult, mkF, undefV, reduceCtorEq, kD, kE, kF, kG, kH, kI, kJ, kK, aExtract, calleeOf, kD1, Nat.reduceBEq, HoldsAll, kL, kM, kN, kO, ad, ld, ad2, ld2]
      exact by rw [decide_eq_false (fun e' => e (by subst e'; rw [hpi] at hqi; injection hqi))]
  · have hge : ps.length ≤ i := lt_f hf
    rw [List.take_of_length_le hge, List.take_of_length_le (by omega)] at he
    simp only [kS1, bLookup, bMapSet, wantA, isCall, stepOp, evalO, evalL, evalP, evalM, putDst, flat, kA, kB, Nat.reduceLT, ↓reduceIte, kC, Nat.reduceEqDiff, aBuiltin, abinG, guardFree, abin, aInt, aUn, aNilCheck, retQ, retQ1, aresults, aresultL, aresult, mkF, undefV, reduceCtorEq, kD, kE, kF, kG, kH, kI, kJ, kK, aExtract, calleeOf]
    exact ⟨by rw [decide_eq_true he], trivial⟩
end Go.Fw
