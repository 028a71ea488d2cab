/- One of the texts of the layer and the walks: it proves what its theorems say of the functions of the seat, with no condition beyond theirs. -/
import Derived.Test.YtmgcmoifdnkaoaaFwLZ9
import Derived.Test.YtmgcmoifdnkaoaaFwLBR
import Derived.Test.YtmgcmoifdnkaoaaFwLB9
import Derived.Test.YtmgcmoifdnkaoaaFwLG1
set_option linter.unusedSimpArgs false
set_option linter.unusedVariables false
namespace Go.Fw
open Go.Proofs
attribute [local irreducible] KO4 KO3 KO2 KO1 KO KN KX KE VK KCond KDraw KCall KLoop
set_option maxHeartbeats 8000000
set_option maxRecDepth 10000
theorem LR.len {h : AHeap} {v : Value} {ls : List Lw} (r : LR h v ls) (g : AHeap) : aLen Try.prog g 27 v = some (.int .i64 ls.length) := by
  obtain ⟨a, c, rfl, _⟩ := r.sl; simp [aLen, Try.underlying27]
def lA3 (v : Value) (i : Nat) : Addr := elemAddr v (i * 3)
theorem LR.addr {h : AHeap} {v : Value} {ls : List Lw} (r : LR h v ls) {k : IntKind} (i : Nat) (hi : i < ls.length) : aIndexAddr Try.prog 27 v (.int k i) = some (.pointer (some (lA3 v i))) := by
  obtain ⟨a, c, rfl, hs⟩ := r.sl
  obtain ⟨a, rfl⟩ := Option.isSome_iff_exists.1 (hs (by omega))
  have h1 : (i : Int) < (ls.length : Int) := by omega
  simp [aIndexAddr, Try.underlying27, Try.underlying51, h1, lA3, elemAddr, ts51]
theorem LR.get {h : AHeap} {v : Value} {ls : List Lw} (r : LR h v ls) {i : Nat} {p : Lw} (hp : ls[i]? = some p) :
    h.read (aadd (lA3 v i) 0) = some (.int .i64 p.1) ∧ h.read (aadd (lA3 v i) 1) = some (.int .i64 p.2.1) ∧ h.read (aadd (lA3 v i) 2) = some (.int .i64 p.2.2) := by
  obtain ⟨f1, f2, f3⟩ := flatL_get ls i p hp
  have g1 := CS.get r _ _ f1
  have g2 := CS.get r _ _ f2
  have g3 := CS.get r _ _ f3
  obtain ⟨a, c, rfl, hs⟩ := r.sl
  have hi := (List.getElem?_eq_some_iff.1 hp).1
  obtain ⟨a, rfl⟩ := Option.isSome_iff_exists.1 (hs (by omega))
  simp only [lA3, elemAddr_mk, aadd] at *
  exact ⟨by simpa using g1, by simpa [Nat.add_assoc] using g2, by simpa [Nat.add_assoc] using g3⟩
theorem LR.l0 {h : AHeap} {v : Value} {ls : List Lw} (r : LR h v ls) {i : Nat} {p : Lw} (hp : ls[i]? = some p) : aload Try.prog h 3 (aadd (lA3 v i) 0) = some (.int .i64 p.1) := by
  rw [aload_flat Try.underlying3 rfl]; exact (r.get hp).1
theorem LR.l1 {h : AHeap} {v : Value} {ls : List Lw} (r : LR h v ls) {i : Nat} {p : Lw} (hp : ls[i]? = some p) : aload Try.prog h 3 (aadd (lA3 v i) 1) = some (.int .i64 p.2.1) := by
  rw [aload_flat Try.underlying3 rfl]; exact (r.get hp).2.1
theorem LR.l2 {h : AHeap} {v : Value} {ls : List Lw} (r : LR h v ls) {i : Nat} {p : Lw} (hp : ls[i]? = some p) : aload Try.prog h 3 (aadd (lA3 v i) 2) = some (.int .i64 p.2.2) := by
  rw [aload_flat Try.underlying3 rfl]; exact (r.get hp).2.2
theorem read3 {h : AHeap} {a : Addr} {p : Lw} (q : h.read (aadd a 0) = some (.int .i64 p.1) ∧ h.read (aadd a 1) = some (.int .i64 p.2.1) ∧ h.read (aadd a 2) = some (.int .i64 p.2.2)) : readN h a 3 = some [.int .i64 p.1, .int .i64 p.2.1, .int .i64 p.2.2] := by
  refine readN_get [.int .i64 p.1, .int .i64 p.2.1, .int .i64 p.2.2] _ fun j x hx => ?_
  match j with
  | 0 => simp at hx; subst hx; exact q.1
  | 1 => simp at hx; subst hx; exact q.2.1
  | 2 => simp at hx; subst hx; exact q.2.2
  | j + 3 => simp at hx
theorem LR.load {h : AHeap} {v : Value} {ls : List Lw} (r : LR h v ls) {i : Nat} {p : Lw} (hp : ls[i]? = some p) : aload Try.prog h 51 (lA3 v i) = some (valL p) := by
  have hd : isAggD (.struct #[]) = true := rfl
  simp only [aload, Try.underlying51, isAggD, cond_true, ts51, read3 (r.get hp), valL]
theorem eqL (p q : Lw) : aEq Try.prog 51 (valL p) (valL q) = some (decide (p = q)) := by
  obtain ⟨a, b, c⟩ := p
  obtain ⟨a', b', c'⟩ := q
  have h1 : fieldsI Try.prog (match Try.prog.underlying 51 with | some (.struct fs) => fs.toList | _ => []) 0 = true := by kernel_rfl
  have h2 : Try.prog.stoodInHeld 51 = false := by kernel_rfl
  rw [Try.underlying51] at h1
  simp only at h1
  simp only [aEq, Try.underlying51, valL, allInts, h1, h2]
  simp
  rw [Bool.eq_iff_iff]; simp
theorem gfL (p : Lw) : guardFree (valL p) = true := rfl
theorem abinL (p q : Lw) : abinG Try.prog .neq 51 (valL p) (valL q) = some (.bool (!decide (p = q))) := by
  have h2 : abin Try.prog .neq 51 (valL p) (valL q) = match aEq Try.prog 51 (valL p) (valL q) with | some b => some (.bool (!b)) | none => none := rfl
  rw [abinG, gfL, cond_true, h2, eqL]
theorem SameLow_any (W0 : Base) (v w : Value) (ps qs : List Lw) (h : AHeap) (hv : LR h v ps) (hw : LR h w qs) (hn : ps.length ≤ 100000) : AC Try.prog W0 21 [v, w] h fun x h' => x = .bool (decide (ps = qs)) ∧ h' = h := by
  refine AC.vc (fn := Try.f21) (c := _) ⟨Try.func21, rfl, by decide⟩ Try.ntmps21 Try.results21 (by simp) fun hwf => ?_
  simp only [argFrame, argFrom, Nat.reduceAdd]
  have lv := fun g => hv.len g
  have lw := fun g => hw.len g
  by_cases c : (ps.length : Int) = (qs.length : Int)
  rotate_left
  · simp only [kS1, bLookup, bMapSet, wantA, isCall, stepOp, evalO, evalL, evalP, evalM, putDst, flat, kA, kB, Nat.reduceLT, ↓reduceIte, kC, Nat.reduceEqDiff, aBuiltin, abinG, guardFree, abin, aInt, aUn, aNilCheck, retQ, retQ1, aresults, aresultL, aresult, mkF, undefV, reduceCtorEq, kD, kE, kF, kG, kH, kI, kJ, kK, aExtract, calleeOf, lv, lw, bne, eq_false c]
    exact ⟨by rw [decide_eq_false (fun e => c (by rw [e]))], trivial⟩
  have c' : ps.length = qs.length := by omega
  simp only [kS1, bLookup, bMapSet, wantA, isCall, stepOp, evalO, evalL, evalP, evalM, putDst, flat, kA, kB, Nat.reduceLT, ↓reduceIte, kC, Nat.reduceEqDiff, aBuiltin, abinG, guardFree, abin, aInt, aUn, aNilCheck, retQ, retQ1, aresults, aresultL, aresult, mkF, undefV, reduceCtorEq, kD, kE, kF, kG, kH, kI, kJ, kK, aExtract, calleeOf, lv, lw, bne, eq_true c]
  refine KLoop.intro (fun k fr hh => ∃ i : Nat, k = ps.length - i ∧ i ≤ ps.length ∧ hh = h ∧ fr = mkF [(0, v), (1, w), (12, .int .i64 ps.length), (13, .int .i64 i)] ∧ ps.take i = qs.take i)
    ps.length [(0, v), (1, w), (12, .int .i64 ps.length), (13, .int .i64 (0 : Nat))] (by simp only [hasAll, kS1, bLookup, bMapSet, wantA, isCall, stepOp, evalO, evalL, evalP, evalM, putDst, flat, kA, kB, Nat.reduceLT, ↓reduceIte, kC, Nat.reduceEqDiff, aBuiltin, abinG, guardFree, abin, aInt, aUn, aNilCheck, retQ, retQ1, aresults, aresultL, aresult, mkF, undefV, reduceCtorEq, kD, kE, kF, kG, kH, kI, kJ, kK, aExtract, calleeOf]; simp) ⟨0, rfl, Nat.zero_le _, rfl, rfl, rfl⟩ ?_
  rintro k fr hh - ⟨i, rfl, hi, rfl, rfl, he⟩
  simp only [kS1, bLookup, bMapSet, wantA, isCall, stepOp, evalO, evalL, evalP, evalM, putDst, flat, kA, kB, Nat.reduceLT, ↓reduceIte, kC, Nat.reduceEqDiff, aBuiltin, abinG, guardFree, abin, aInt, aUn, aNilCheck, retQ, retQ1, aresults, aresultL, aresult, mkF, undefV, reduceCtorEq, kD, kE, kF, kG, kH, kI, kJ, kK, aExtract, calleeOf]
  refine KCond.intro (fun ht => ?_) (fun hf => ?_)
  · have hlt : i < ps.length := by have := lt_t ht; omega
    have hpi := getElem?_of hlt
    have hqi := getElem?_of (show i < qs.length by omega)
    have t1 : ps.take (i + 1) = ps.take i ++ [ps[i]] := List.take_succ_eq_append_getElem hlt
    have t2 : qs.take (i + 1) = qs.take i ++ [qs[i]'(by omega)] := List.take_succ_eq_append_getElem (by omega)
    generalize ps[i] = p at hpi t1
    generalize qs[i]'(by omega) = q at hqi t2
    have ad := hv.addr (k := .i64) i hlt
    have ld := hv.load hpi
    have ad2 := hw.addr (k := .i64) i (by omega)
    have ld2 := hw.load hqi
    have hab := abinL p q
    simp only [kS1, bLookup, bMapSet, wantA, isCall, stepOp, evalO, evalL, evalP, evalM, putDst, flat, kA, kB, Nat.reduceLT, ↓reduceIte, kC, Nat.reduceEqDiff, aBuiltin, abinG, guardFree, abin, aInt, aUn, aNilCheck, retQ, retQ1, aresults, aresultL, aresult, mkF, undefV, reduceCtorEq, kD, kE, kF, kG, kH, kI, kJ, kK, aExtract, calleeOf]
    refine KDraw.intro mixed (.fl 0 (.fl 1 (.fl 2 (.fl 3 (.fl 4 (.fl 5 (.fl 6 (.fl 7 (.fl 8 (.done)))))))))) (by kernel_rfl) ?_
    cases hb : decide (p = q) with
    | true =>
      rw [hb] at hab
      have e := of_decide_eq_true hb
      simp only [kS1, bLookup, bMapSet, wantA, isCall, stepOp, evalO, evalL, evalP, evalM, putDst, flat, kA, kB, Nat.reduceLT, ↓reduceIte, kC, Nat.reduceEqDiff, aBuiltin, abinG, guardFree, abin, aInt, aUn, aNilCheck, retQ, retQ1, aresults, aresultL, aresult, mkF, undefV, reduceCtorEq, kD, kE, kF, kG, kH, kI, kJ, kK, aExtract, calleeOf, kD1, Nat.reduceBEq, HoldsAll, kL, kM, kN, kO, ad, ld, ad2, ld2, hab, -abinG, awrap_succ i (by omega)]
      exact loop_again (ps.length - (i + 1)) [(0, v), (1, w), (12, .int .i64 ps.length), (13, .int .i64 (i + 1 : Nat))] (by omega) (by simp only [hasAll, kS1, bLookup, bMapSet, wantA, isCall, stepOp, evalO, evalL, evalP, evalM, putDst, flat, kA, kB, Nat.reduceLT, ↓reduceIte, kC, Nat.reduceEqDiff, aBuiltin, abinG, guardFree, abin, aInt, aUn, aNilCheck, retQ, retQ1, aresults, aresultL, aresult, mkF, undefV, reduceCtorEq, kD, kE, kF, kG, kH, kI, kJ, kK, aExtract, calleeOf]; simp) ⟨i + 1, rfl, hlt, rfl, rfl, by rw [t1, t2, he, e]⟩
    | false =>
      rw [hb] at hab
      have e := of_decide_eq_false hb
      simp only [kS1, bLookup, bMapSet, wantA, isCall, stepOp, evalO, evalL, evalP, evalM, putDst, flat, kA, kB, Nat.reduceLT, ↓reduceIte, kC, Nat.reduceEqDiff, aBuiltin, abinG, guardFree, abin, aInt, aUn, aNilCheck, retQ, retQ1, aresults, aresultL, aresult, mkF, undefV, reduceCtorEq, kD, kE, kF, kG, kH, kI, kJ, kK, aExtract, calleeOf, kD1, Nat.reduceBEq, HoldsAll, kL, kM, kN, kO, ad, ld, ad2, ld2, hab, -abinG]
      exact by rw [decide_eq_false (fun e' => e (by subst e'; rw [hpi] at hqi; injection hqi))]
  · have hge : ps.length ≤ i := by have := lt_f hf; omega
    rw [List.take_of_length_le hge, List.take_of_length_le (by omega)] at he
    simp only [kS1, bLookup, bMapSet, wantA, isCall, stepOp, evalO, evalL, evalP, evalM, putDst, flat, kA, kB, Nat.reduceLT, ↓reduceIte, kC, Nat.reduceEqDiff, aBuiltin, abinG, guardFree, abin, aInt, aUn, aNilCheck, retQ, retQ1, aresults, aresultL, aresult, mkF, undefV, reduceCtorEq, kD, kE, kF, kG, kH, kI, kJ, kK, aExtract, calleeOf]
    exact ⟨by rw [decide_eq_true he], trivial⟩
theorem SamePairLists_any (W0 : Base) (v w : Value) (ps qs : List (List Pr)) (h : AHeap) (hv : RL PR h v ps) (hw : RL PR h w qs) (hn : ps.length ≤ 100000) (hp : ∀ p ∈ ps, p.length ≤ 100000) : AC Try.prog W0 28 [v, w] h fun x h' => x = .bool (decide (ps = qs)) ∧ h' = h := by
  refine AC.vc (fn := Try.f28) (c := _) ⟨Try.func28, rfl, by decide⟩ Try.ntmps28 Try.results28 (by simp) fun hwf => ?_
  simp only [argFrame, argFrom, Nat.reduceAdd]
  have lv := fun g => hv.len (P := Try.prog) Try.underlying38 g
  have lw := fun g => hw.len (P := Try.prog) Try.underlying38 g
  by_cases c : (ps.length : Int) = (qs.length : Int)
  rotate_left
  · simp only [kS1, bLookup, bMapSet, wantA, isCall, stepOp, evalO, evalL, evalP, evalM, putDst, flat, kA, kB, Nat.reduceLT, ↓reduceIte, kC, Nat.reduceEqDiff, aBuiltin, abinG, guardFree, abin, aInt, aUn, aNilCheck, retQ, retQ1, aresults, aresultL, aresult, mkF, undefV, reduceCtorEq, kD, kE, kF, kG, kH, kI, kJ, kK, aExtract, calleeOf, lv, lw, bne, eq_false c]
    exact ⟨by rw [decide_eq_false (fun e => c (by rw [e]))], trivial⟩
  have c' : ps.length = qs.length := by omega
  simp only [kS1, bLookup, bMapSet, wantA, isCall, stepOp, evalO, evalL, evalP, evalM, putDst, flat, kA, kB, Nat.reduceLT, ↓reduceIte, kC, Nat.reduceEqDiff, aBuiltin, abinG, guardFree, abin, aInt, aUn, aNilCheck, retQ, retQ1, aresults, aresultL, aresult, mkF, undefV, reduceCtorEq, kD, kE, kF, kG, kH, kI, kJ, kK, aExtract, calleeOf, lv, lw, bne, eq_true c]
  refine KLoop.intro (fun k fr hh => ∃ i : Nat, k = ps.length - i ∧ i ≤ ps.length ∧ hh = h ∧ fr = mkF [(0, v), (1, w), (5, .int .i64 i)] ∧ ps.take i = qs.take i)
    ps.length [(0, v), (1, w), (5, .int .i64 (0 : Nat))] (by simp only [hasAll, kS1, bLookup, bMapSet, wantA, isCall, stepOp, evalO, evalL, evalP, evalM, putDst, flat, kA, kB, Nat.reduceLT, ↓reduceIte, kC, Nat.reduceEqDiff, aBuiltin, abinG, guardFree, abin, aInt, aUn, aNilCheck, retQ, retQ1, aresults, aresultL, aresult, mkF, undefV, reduceCtorEq, kD, kE, kF, kG, kH, kI, kJ, kK, aExtract, calleeOf]; simp) ⟨0, rfl, Nat.zero_le _, rfl, rfl, rfl⟩ ?_
  rintro k fr hh - ⟨i, rfl, hi, rfl, rfl, he⟩
  simp only [kS1, bLookup, bMapSet, wantA, isCall, stepOp, evalO, evalL, evalP, evalM, putDst, flat, kA, kB, Nat.reduceLT, ↓reduceIte, kC, Nat.reduceEqDiff, aBuiltin, abinG, guardFree, abin, aInt, aUn, aNilCheck, retQ, retQ1, aresults, aresultL, aresult, mkF, undefV, reduceCtorEq, kD, kE, kF, kG, kH, kI, kJ, kK, aExtract, calleeOf, lv]
  refine KCond.intro (fun ht => ?_) (fun hf => ?_)
  · have hlt : i < ps.length := lt_t ht
    have hpi := getElem?_of hlt
    have hqi := getElem?_of (show i < qs.length by omega)
    have t1 : ps.take (i + 1) = ps.take i ++ [ps[i]] := List.take_succ_eq_append_getElem hlt
    have t2 : qs.take (i + 1) = qs.take i ++ [qs[i]'(by omega)] := List.take_succ_eq_append_getElem (by omega)
    have ad := hv.addr (P := Try.prog) Try.underlying38 Try.underlying22 (by kernel_rfl) (k := .i64) i hlt
    obtain ⟨u, ld, hu⟩ := hv.load (P := Try.prog) Try.underlying22 rfl i hlt
    have ad2 := hw.addr (P := Try.prog) Try.underlying38 Try.underlying22 (by kernel_rfl) (k := .i64) i (by omega)
    obtain ⟨u2, ld2, hu2⟩ := hw.load (P := Try.prog) Try.underlying22 rfl i (by omega)
    have hpl := hp _ (List.mem_of_getElem? hpi)
    generalize ps[i] = p at hpi t1 hu hpl
    generalize qs[i]'(by omega) = q at hqi t2 hu2
    simp only [kS1, bLookup, bMapSet, wantA, isCall, stepOp, evalO, evalL, evalP, evalM, putDst, flat, kA, kB, Nat.reduceLT, ↓reduceIte, kC, Nat.reduceEqDiff, aBuiltin, abinG, guardFree, abin, aInt, aUn, aNilCheck, retQ, retQ1, aresults, aresultL, aresult, mkF, undefV, reduceCtorEq, kD, kE, kF, kG, kH, kI, kJ, kK, aExtract, calleeOf]
    refine KDraw.intro mixed (.fl 0 (.fl 1 (.fl 2 (.fl 3 (.fl 4 (.fl 5 (.fl 6 (.fl 7 (.ch 8 [3, 7] (.fl 9 (.done)) .no))))))))) (by kernel_rfl) ?_
    simp only [kS1, bLookup, bMapSet, wantA, isCall, stepOp, evalO, evalL, evalP, evalM, putDst, flat, kA, kB, Nat.reduceLT, ↓reduceIte, kC, Nat.reduceEqDiff, aBuiltin, abinG, guardFree, abin, aInt, aUn, aNilCheck, retQ, retQ1, aresults, aresultL, aresult, mkF, undefV, reduceCtorEq, kD, kE, kF, kG, kH, kI, kJ, kK, aExtract, calleeOf, kD1, Nat.reduceBEq, HoldsAll, kL, kM, kN, kO, ad, ld, ad2, ld2]
    refine KGCall.intro (by simp only [kS1, bLookup, bMapSet, wantA, isCall, stepOp, evalO, evalL, evalP, evalM, putDst, flat, kA, kB, Nat.reduceLT, ↓reduceIte, kC, Nat.reduceEqDiff, aBuiltin, abinG, guardFree, abin, aInt, aUn, aNilCheck, retQ, retQ1, aresults, aresultL, aresult, mkF, undefV, reduceCtorEq, kD, kE, kF, kG, kH, kI, kJ, kK, aExtract, calleeOf] <;> rfl) ⟨Try.func22, rfl, by decide⟩ (SamePairs_any W0 u u2 p q hh hu hu2 hpl) ?_
    rintro x h3 w3 ⟨rfl, rfl⟩
    cases hb : decide (p = q) with
    | true =>
      have e := of_decide_eq_true hb
      simp only [kS1, bLookup, bMapSet, wantA, isCall, stepOp, evalO, evalL, evalP, evalM, putDst, flat, kA, kB, Nat.reduceLT, ↓reduceIte, kC, Nat.reduceEqDiff, aBuiltin, abinG, guardFree, abin, aInt, aUn, aNilCheck, retQ, retQ1, aresults, aresultL, aresult, mkF, undefV, reduceCtorEq, kD, kE, kF, kG, kH, kI, kJ, kK, aExtract, calleeOf, kD1, Nat.reduceBEq, HoldsAll, kL, kM, kN, kO, ad, ld, ad2, ld2, awrap_succ i (by omega)]
      exact loop_again (ps.length - (i + 1)) [(0, v), (1, w), (5, .int .i64 (i + 1 : Nat))] (by omega) (by simp only [hasAll, kS1, bLookup, bMapSet, wantA, isCall, stepOp, evalO, evalL, evalP, evalM, putDst, flat, kA, kB, Nat.reduceLT, ↓reduceIte, kC, Nat.reduceEqDiff, aBuiltin, abinG, guardFree, abin, aInt, aUn, aNilCheck, retQ, retQ1, aresults, aresultL, aresult, mkF, undefV, reduceCtorEq, kD, kE, kF, kG, kH, kI, kJ, kK, aExtract, calleeOf]; simp) ⟨i + 1, rfl, hlt, rfl, rfl, by rw [t1, t2, he, e]⟩
    | false =>
      have e := of_decide_eq_false hb
      simp only [kS1, bLookup, bMapSet, wantA, isCall, stepOp, evalO, evalL, evalP, evalM, putDst, flat, kA, kB, Nat.reduceLT, ↓reduceIte, kC, Nat.reduceEqDiff, aBuiltin, abinG, guardFree, abin, aInt, aUn, aNilCheck, retQ, retQ1, aresults, aresultL, aresult, mkF, undefV, reduceCtorEq, kD, kE, kF, kG, kH, kI, kJ, kK, aExtract, calleeOf, kD1, Nat.reduceBEq, HoldsAll, kL, kM, kN, kO, ad, ld, ad2, ld2]
      exact by rw [decide_eq_false (fun e' => e (by subst e'; rw [hpi] at hqi; injection hqi))]
  · have hge : ps.length ≤ i := lt_f hf
    rw [List.take_of_length_le hge, List.take_of_length_le (by omega)] at he
    simp only [kS1, bLookup, bMapSet, wantA, isCall, stepOp, evalO, evalL, evalP, evalM, putDst, flat, kA, kB, Nat.reduceLT, ↓reduceIte, kC, Nat.reduceEqDiff, aBuiltin, abinG, guardFree, abin, aInt, aUn, aNilCheck, retQ, retQ1, aresults, aresultL, aresult, mkF, undefV, reduceCtorEq, kD, kE, kF, kG, kH, kI, kJ, kK, aExtract, calleeOf]
    exact ⟨by rw [decide_eq_true he], trivial⟩
end Go.Fw
namespace Go.Fw
open Go.Proofs
set_option maxHeartbeats 8000000
set_option maxRecDepth 10000
theorem mkP7 (h : AHeap) (p0 p1 p2 p3 p4 p5 p6 : Pr) : aBuildSlice Try.prog h 22 7 [(0, valP p0), (1, valP p1), (2, valP p2), (3, valP p3), (4, valP p4), (5, valP p5), (6, valP p6)] = some (.slice (some ⟨h.next, 0, none⟩) 7 7, h.alloc (.cells (flatP [p0, p1, p2, p3, p4, p5, p6]))) := by kernel_rfl
def aw5 : List Pr := [(0, 1), (0, 2), (1, 2), (2, 3), (2, 4), (3, 4), (4, 5)]
def aw5L : List Lw := [(1, -1, 1), (2, 0, 1), (3, 1, 1), (4, 2, 3), (5, 3, 3), (6, 4, 6)]
theorem aw5R : RightG ⟨6, aw5⟩ := by
  refine ⟨by decide, by decide, by decide, fun i hi p hp => ?_⟩
  have hi' : i < 7 := hi
  match i, hi' with
  | 0, _ => simp [aw5] at hp; subst hp; exact ⟨by decide, fun q h0 => by omega⟩
  | 1, _ => simp [aw5] at hp; subst hp; exact ⟨by decide, fun q h0 hq => by simp [aw5] at hq; subst hq; decide⟩
  | 2, _ => simp [aw5] at hp; subst hp; exact ⟨by decide, fun q h0 hq => by simp [aw5] at hq; subst hq; decide⟩
  | 3, _ => simp [aw5] at hp; subst hp; exact ⟨by decide, fun q h0 hq => by simp [aw5] at hq; subst hq; decide⟩
  | 4, _ => simp [aw5] at hp; subst hp; exact ⟨by decide, fun q h0 hq => by simp [aw5] at hq; subst hq; decide⟩
  | 5, _ => simp [aw5] at hp; subst hp; exact ⟨by decide, fun q h0 hq => by simp [aw5] at hq; subst hq; decide⟩
  | 6, _ => simp [aw5] at hp; subst hp; exact ⟨by decide, fun q h0 hq => by simp [aw5] at hq; subst hq; decide⟩
theorem aw5_low : lowM 6 aw5 = (aw5L, [0, 1, 2, 3, 4, 5]) := by decide +kernel
theorem aw5_bridges : bridgesM 6 aw5 = [(4, 5)] := by
  have : (lowM 6 aw5).2.filterMap (brB (lowM 6 aw5).1) = [(4, 5)] := by decide +kernel
  rw [bridgesM, this]; simp [sortP]
theorem aw5_cuts : cutsM 6 aw5 = [2, 4] := by decide +kernel
theorem aw5_blocks : blocksM 6 aw5 = [[(0, 1), (0, 2), (1, 2)], [(2, 3), (2, 4), (3, 4)], [(4, 5)]] := by decide +kernel
def GL (h : AHeap) (v : Value) (ps : List Lw) : Prop := GS 3 h v ps.length (flatL ps)
theorem flatL_one (ps : List Lw) : (flatL ps).all (·.oneCell') = true := by
  rw [List.all_eq_true]; intro x hx; rw [flatL, List.mem_flatMap] at hx
  obtain ⟨p, _, hx⟩ := hx
  simp [cellsL] at hx
  rcases hx with rfl | rfl | rfl <;> rfl
theorem GL.lr {h : AHeap} {v : Value} {ps : List Lw} (g : GL h v ps) : LR h v ps := GS.cs g
theorem GL.le {h h' : AHeap} {v : Value} {ps : List Lw} (g : GL h v ps) (e : Le h h') : GL h' v ps := GS.le g e
theorem mkL1 (h : AHeap) (p : Lw) : aBuildSlice Try.prog h 27 1 [(0, valL p)] = some (.slice (some ⟨h.next, 0, none⟩) 1 1, h.alloc (.cells (cellsL p))) := rfl
theorem GL.push {h : AHeap} {v : Value} {ps : List Lw} (g : GL h v ps) (hwf : WF h) (p : Lw) (hn : ps.length + 1 ≤ 100000) :
    ∃ v' h4 h5, aBuildSlice Try.prog h 27 1 [(0, valL p)] = some (.slice (some ⟨h.next, 0, none⟩) 1 1, h4) ∧ aAppend Try.prog h4 27 27 v (.slice (some ⟨h.next, 0, none⟩) 1 1) = some (v', h5) ∧ GL h5 v' (ps ++ [p]) ∧ WF h5 ∧ Le h h4 ∧
      (∀ f, Le f h → Apart f v → Le f h5 ∧ Apart f v') ∧ (∀ b o, h.own b = some o → blk v ≠ some b → h5.own b = some o ∧ blk v' ≠ some b) := by
  obtain ⟨h4, e4, l4, w4, o4⟩ := alloc_f hwf (cellsL p)
  have hx : LR h4 (.slice (some ⟨h.next, 0, none⟩) 1 1) [p] := LR.own (by rw [o4]; simp [flatL]) rfl
  obtain ⟨v', h5, e5, g5, hf⟩ := GS.append (P := Try.prog) (t := 27) (xt := 27) (k := 3) (by kernel_rfl) (GS.le g l4) (fun e he => CS.src he hx) (flatL_one _) (flatL_one _) (flatL_length _) (by simp; omega)
  refine ⟨v', h4, h5, by rw [mkL1, e4], e5, ?_, aAppend_wf w4 e5, l4, fun f lf af => hf f w4 (lf.trans l4) af, fun b o ho hb => keep_own hf w4 (l4.own _ _ ho) hb⟩
  have : flatL ps ++ flatL [p] = flatL (ps ++ [p]) := by simp [flatL]
  rw [GL, ← this, List.length_append]; exact g5
theorem ts78 : tsize Try.prog 78 = 3 := by kernel_rfl
theorem b78 (a b c : Int) : aBuild Try.prog 78 [(0, .int .i64 a), (1, .int .i64 b), (2, .int .i64 c)] = some (valL (a, b, c)) := by kernel_rfl
theorem mkT6 (h : AHeap) (p0 p1 p2 p3 p4 p5 : Lw) : aBuildSlice Try.prog h 79 6 [(0, valL p0), (1, valL p1), (2, valL p2), (3, valL p3), (4, valL p4), (5, valL p5)] = some (.slice (some ⟨h.next, 0, none⟩) 6 6, h.alloc (.cells (flatL [p0, p1, p2, p3, p4, p5]))) := by kernel_rfl
theorem tLen {h : AHeap} {v : Value} {ls : List Lw} (r : LR h v ls) (g : AHeap) : aLen Try.prog g 79 v = some (.int .i64 ls.length) := by
  obtain ⟨a, c, rfl, _⟩ := r.sl; simp [aLen, Try.underlying79]
theorem tAddr {h : AHeap} {v : Value} {ls : List Lw} (r : LR h v ls) {k : IntKind} (i : Nat) (hi : i < ls.length) : aIndexAddr Try.prog 79 v (.int k i) = some (.pointer (some (lA3 v i))) := by
  obtain ⟨a, c, rfl, hs⟩ := r.sl
  obtain ⟨a, rfl⟩ := Option.isSome_iff_exists.1 (hs (by omega))
  have h1 : (i : Int) < (ls.length : Int) := by omega
  simp [aIndexAddr, Try.underlying79, Try.underlying78, h1, lA3, elemAddr, ts78]
theorem tLoad {h : AHeap} {v : Value} {ls : List Lw} (r : LR h v ls) {i : Nat} {p : Lw} (hp : ls[i]? = some p) : aload Try.prog h 78 (lA3 v i) = some (valL p) := by
  have hd : isAggD (.array 3 3) = true := rfl
  simp only [aload, Try.underlying78, hd, cond_true, ts78, read3 (r.get hp), valL]
theorem t0 (a : Addr) : aIndexAddr Try.prog 78 (.pointer (some a)) (.int .i64 0) = some (.pointer (some (aadd a 0))) := by
  simp [aIndexAddr, Try.underlying78, Try.underlying3]
theorem t1 (a : Addr) : aIndexAddr Try.prog 78 (.pointer (some a)) (.int .i64 1) = some (.pointer (some (aadd a 1))) := by
  simp [aIndexAddr, Try.underlying78, Try.underlying3, ts3]
theorem t2 (a : Addr) : aIndexAddr Try.prog 78 (.pointer (some a)) (.int .i64 2) = some (.pointer (some (aadd a 2))) := by
  simp [aIndexAddr, Try.underlying78, Try.underlying3, ts3]
theorem new78 {h : AHeap} (hw : WF h) (p : Lw) : ∃ h1 h2, aAlloc Try.prog h 78 = some (.pointer (some ⟨h.next, 0, none⟩), h1) ∧ aStore Try.prog h1 78 (.pointer (some ⟨h.next, 0, none⟩)) (valL p) = some h2 ∧ Le h h2 ∧ WF h2 ∧
    aload Try.prog h2 3 ⟨h.next, 0, none⟩ = some (.int .i64 p.1) ∧ aload Try.prog h2 3 ⟨h.next, 1, none⟩ = some (.int .i64 p.2.1) ∧ aload Try.prog h2 3 ⟨h.next, 2, none⟩ = some (.int .i64 p.2.2) := by
  obtain ⟨h1, e1, l1, w1, o1⟩ := alloc_f hw [.int .i64 0, .int .i64 0, .int .i64 0]
  have nw : h.own h.next = none := (Le.refl h).next hw (Nat.le_refl _)
  have oo := AHeap.own_put_eq h1 h.next (.cells (cellsL p))
  refine ⟨h1, h1.put h.next (.cells (cellsL p)), by rw [← e1]; rfl, ?_, l1.put _ nw, w1.put _ (w1.lt o1), by rw [aload_one Try.underlying3 rfl oo]; rfl, by rw [aload_one Try.underlying3 rfl oo]; rfl, by rw [aload_one Try.underlying3 rfl oo]; rfl⟩
  simp [aStore, o1, valL, Value.cells, ts78, putCells, cellsL, Try.underlying78]
  exact ⟨rfl, rfl, rfl⟩
theorem mkPL3 (h : AHeap) {a b c : Value} {i j k : Nat} (ha : isSl a i) (hb : isSl b j) (hc : isSl c k) : aBuildSlice Try.prog h 38 3 [(0, a), (1, b), (2, c)] = some (.slice (some ⟨h.next, 0, none⟩) 3 3, h.alloc (.cells [a, b, c])) := by
  obtain ⟨_, _, rfl, _⟩ := ha
  obtain ⟨_, _, rfl, _⟩ := hb
  obtain ⟨_, _, rfl, _⟩ := hc
  rfl
theorem mkI2 (h : AHeap) (a b : Int) : aBuildSlice Try.prog h 35 2 [(0, .int .i64 a), (1, .int .i64 b)] = some (.slice (some ⟨h.next, 0, none⟩) 2 2, h.alloc (.cells [.int .i64 a, .int .i64 b])) := by kernel_rfl
theorem wr0 : awrap .i64 ((0 : Int) + 0) = 0 := by decide
end Go.Fw
