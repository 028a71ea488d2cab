/- A text of the proof. -/
import Derived.Test.YtnaahaldkpdjlaaFwLN1
set_option linter.unusedSimpArgs false
set_option linter.unusedVariables false
namespace Go.Fw
open Go.Proofs
attribute [local irreducible] KO4 KO3 KO2 KO1 KO KN KX KE VK KCond KDraw KCall KLoop
set_option maxHeartbeats 16000000
set_option maxRecDepth 10000
theorem RAway_any (W0 : Base) (v : Value) (n s : Nat) (es : List Pr) (h : AHeap) (hg : GR h v ⟨(n : Int), es⟩) (hr : RightG ⟨(n : Int), es⟩) (hs : s < n) :
    AC Try.prog W0 114 [v, .int .i64 (s : Int)] h fun x h' => ∃ dv L, x = .tuple #[dv, .int .i64 0] ∧ GI h' dv L ∧ L.length = n ∧ (∀ (v : Nat) (x : Int), L[v]? = some x → (0 ≤ x ↔ Con es s v)) ∧ Le h h' ∧ Apart h dv := by
  have hg0 := hg
  obtain ⟨ev, rfl, hp⟩ := hg.open
  have h200 : (n : Int) ≤ 200 := hr.n1
  have h594 : es.length ≤ 594 := hr.len
  have hR := hr.inR
  refine AC.vc (fn := Try.f114) (c := _) ⟨Try.func114, rfl, by decide⟩ Try.ntmps114 Try.results114 (by simp) fun hwf => ?_
  simp only [argFrame, argFrom, Nat.reduceAdd]
  obtain ⟨h1, b1, le1, wf1, -, lA⟩ := boxG (n := (n : Int)) hwf hp
  generalize h.next = B at *
  have lA1 := lA h1 (Le.refl _)
  simp only [kS1, bLookup, bMapSet, wantA, isCall, stepOp, evalO, evalL, evalP, evalM, putDst, flat, kA, kB, Nat.reduceLT, ↓reduceIte, kC, Nat.reduceEqDiff, aBuiltin, abinG, guardFree, abin, aInt, aUn, aNilCheck, retQ, retQ1, aresults, aresultL, aresult, mkF, undefV, reduceCtorEq, kD, kE, kF, kG, kH, kI, kJ, kK, aExtract, calleeOf, b1, lA1.1]
  refine KCall.intro (by simp only [kS1, bLookup, bMapSet, wantA, isCall, stepOp, evalO, evalL, evalP, evalM, putDst, flat, kA, kB, Nat.reduceLT, ↓reduceIte, kC, Nat.reduceEqDiff, aBuiltin, abinG, guardFree, abin, aInt, aUn, aNilCheck, retQ, retQ1, aresults, aresultL, aresult, mkF, undefV, reduceCtorEq, kD, kE, kF, kG, kH, kI, kJ, kK, aExtract, calleeOf] <;> rfl) ⟨Try.func127, rfl, by decide⟩ (Rasked_any W0 _ n s es h1 (hg0.le le1) hr hs) ?_
  rintro x h2 w2 ⟨rfl, l2⟩
  have ap0 : Apart h1 (.slice none 0 0) := fun b hb => by cases hb
  simp only [kS1, bLookup, bMapSet, wantA, isCall, stepOp, evalO, evalL, evalP, evalM, putDst, flat, kA, kB, Nat.reduceLT, ↓reduceIte, kC, Nat.reduceEqDiff, aBuiltin, abinG, guardFree, abin, aInt, aUn, aNilCheck, retQ, retQ1, aresults, aresultL, aresult, mkF, undefV, reduceCtorEq, kD, kE, kF, kG, kH, kI, kJ, kK, aExtract, calleeOf, bne]
  refine KLoop.intro (fun k fr hq => ∃ (j : Nat) (uv : Value), k = n - j ∧ j ≤ n ∧ fr = mkF [(1, .int .i64 (s : Int)), (2, .pointer (some ⟨B, 0, none⟩)), (7, uv), (8, .int .i64 j)] ∧ GI hq uv (List.replicate j (-1)) ∧ Le h1 hq ∧ Apart h1 uv)
    n [(1, .int .i64 (s : Int)), (2, .pointer (some ⟨B, 0, none⟩)), (7, .slice none 0 0), (8, .int .i64 (0 : Nat))] (by simp only [hasAll, kS1, bLookup, bMapSet, wantA, isCall, stepOp, evalO, evalL, evalP, evalM, putDst, flat, kA, kB, Nat.reduceLT, ↓reduceIte, kC, Nat.reduceEqDiff, aBuiltin, abinG, guardFree, abin, aInt, aUn, aNilCheck, retQ, retQ1, aresults, aresultL, aresult, mkF, undefV, reduceCtorEq, kD, kE, kF, kG, kH, kI, kJ, kK, aExtract, calleeOf]; simp) ⟨0, _, rfl, Nat.zero_le _, rfl, GI.nil _, l2, ap0⟩ ?_
  rintro k fr hq hwq ⟨j, uv, rfl, hj, rfl, gu, leq, au⟩
  have lAq := lA hq leq
  simp only [kS1, bLookup, bMapSet, wantA, isCall, stepOp, evalO, evalL, evalP, evalM, putDst, flat, kA, kB, Nat.reduceLT, ↓reduceIte, kC, Nat.reduceEqDiff, aBuiltin, abinG, guardFree, abin, aInt, aUn, aNilCheck, retQ, retQ1, aresults, aresultL, aresult, mkF, undefV, reduceCtorEq, kD, kE, kF, kG, kH, kI, kJ, kK, aExtract, calleeOf, fg0, aadd, Nat.zero_add, lAq.2.1]
  refine KCond.intro (fun ht => ?_) (fun hf => ?_)
  · have hlt : j < n := lt_t ht
    clear ht
    obtain ⟨v', h4, h5, e4, e5, g5, w5, l4, f5, k5⟩ := gu.push hwq (-1) (by simp; omega)
    obtain ⟨l5, a5⟩ := f5 h1 leq au
    simp only [kS1, bLookup, bMapSet, wantA, isCall, stepOp, evalO, evalL, evalP, evalM, putDst, flat, kA, kB, Nat.reduceLT, ↓reduceIte, kC, Nat.reduceEqDiff, aBuiltin, abinG, guardFree, abin, aInt, aUn, aNilCheck, retQ, retQ1, aresults, aresultL, aresult, mkF, undefV, reduceCtorEq, kD, kE, kF, kG, kH, kI, kJ, kK, aExtract, calleeOf, e4, e5, awrap_succ j (by omega)]
    exact loop_again (n - (j + 1)) [(1, .int .i64 (s : Int)), (2, .pointer (some ⟨B, 0, none⟩)), (7, v'), (8, .int .i64 (j + 1 : Nat))] (by omega) (by simp only [hasAll, kS1, bLookup, bMapSet, wantA, isCall, stepOp, evalO, evalL, evalP, evalM, putDst, flat, kA, kB, Nat.reduceLT, ↓reduceIte, kC, Nat.reduceEqDiff, aBuiltin, abinG, guardFree, abin, aInt, aUn, aNilCheck, retQ, retQ1, aresults, aresultL, aresult, mkF, undefV, reduceCtorEq, kD, kE, kF, kG, kH, kI, kJ, kK, aExtract, calleeOf]; simp) ⟨j + 1, v', rfl, hlt, rfl, by rw [List.replicate_succ']; exact g5, l5, a5⟩
  have hge : n ≤ j := lt_f hf
  obtain rfl : j = n := by omega
  clear hge hf hj
  have ads := gu.rl.addr (P := Try.prog) Try.underlying38 Try.underlying3 (by kernel_rfl) (k := .i64) s (by simpa using hs)
  obtain ⟨h3, st, gu3, w3, f3, k3⟩ := gu.store hwq (i := s) (by simpa using hs) 0
  have le3 := f3 h1 leq au
  simp only [kS1, bLookup, bMapSet, wantA, isCall, stepOp, evalO, evalL, evalP, evalM, putDst, flat, kA, kB, Nat.reduceLT, ↓reduceIte, kC, Nat.reduceEqDiff, aBuiltin, abinG, guardFree, abin, aInt, aUn, aNilCheck, retQ, retQ1, aresults, aresultL, aresult, mkF, undefV, reduceCtorEq, kD, kE, kF, kG, kH, kI, kJ, kK, aExtract, calleeOf, ads, st]
  have R0 : RA j es s ((List.replicate j (-1)).set s 0) := by
    have hg : ∀ (v : Nat) (x : Int), ((List.replicate j (-1 : Int)).set s 0)[v]? = some x → v = s ∧ x = 0 ∨ x = -1 := fun v x hx => by
      rw [List.getElem?_set] at hx
      by_cases e : s = v
      · subst e; rw [if_pos rfl, if_pos (by simpa using hs)] at hx; injection hx with hx; exact .inl ⟨rfl, hx.symm⟩
      · rw [if_neg e] at hx; exact .inr (List.eq_of_mem_replicate (List.mem_of_getElem? hx))
    have hc := cntP_set (List.replicate j (-1)) s (-1) 0 (by rw [List.getElem?_replicate, if_pos hs])
    rw [if_neg (by omega), if_pos (by omega)] at hc
    refine ⟨by simp, fun v x hx => ?_, fun v x hx => ?_, 0, by rw [List.getElem?_set, if_pos rfl, if_pos (by simpa using hs)], by omega⟩
    · rcases hg v x hx with ⟨rfl, rfl⟩ | rfl
      · exact ⟨by omega, fun _ => Con.refl _ _⟩
      · exact ⟨by omega, by omega⟩
    · rcases hg v x hx with ⟨rfl, rfl⟩ | rfl <;> omega
  refine KLoop.intro (fun k fr hz => ∃ (f : Bool) (L : List Int), k = phi j L * 2 + cond f 1 0 ∧ fr = mkF [(2, .pointer (some ⟨B, 0, none⟩)), (7, uv), (9, .bool f)] ∧ GI hz uv L ∧ Le h1 hz ∧ RA j es s L ∧ (f = false → ∀ p ∈ es, Closed L p))
    (phi j ((List.replicate j (-1)).set s 0) * 2 + 1) [(2, .pointer (some ⟨B, 0, none⟩)), (7, uv), (9, .bool true)] (by simp only [hasAll, kS1, bLookup, bMapSet, wantA, isCall, stepOp, evalO, evalL, evalP, evalM, putDst, flat, kA, kB, Nat.reduceLT, ↓reduceIte, kC, Nat.reduceEqDiff, aBuiltin, abinG, guardFree, abin, aInt, aUn, aNilCheck, retQ, retQ1, aresults, aresultL, aresult, mkF, undefV, reduceCtorEq, kD, kE, kF, kG, kH, kI, kJ, kK, aExtract, calleeOf]; simp) ⟨true, _, rfl, rfl, gu3, le3, R0, by simp⟩ ?_
  clear R0 le3 f3 k3 gu3 w3 st ads lAq gu leq hwq
  clear h3 hq
  rintro k fr hz hwz ⟨f, L, rfl, rfl, gl, lez, R, hcl⟩
  cases f with
  | false =>
    simp only [kS1, bLookup, bMapSet, wantA, isCall, stepOp, evalO, evalL, evalP, evalM, putDst, flat, kA, kB, Nat.reduceLT, ↓reduceIte, kC, Nat.reduceEqDiff, aBuiltin, abinG, guardFree, abin, aInt, aUn, aNilCheck, retQ, retQ1, aresults, aresultL, aresult, mkF, undefV, reduceCtorEq, kD, kE, kF, kG, kH, kI, kJ, kK, aExtract, calleeOf]
    exact ⟨uv, L, rfl, gl, R.len, R.fin hR (hcl rfl), le1.trans lez, fun b hb => le1.none (au b hb)⟩
  | true =>
  clear hcl
  simp only [kS1, bLookup, bMapSet, wantA, isCall, stepOp, evalO, evalL, evalP, evalM, putDst, flat, kA, kB, Nat.reduceLT, ↓reduceIte, kC, Nat.reduceEqDiff, aBuiltin, abinG, guardFree, abin, aInt, aUn, aNilCheck, retQ, retQ1, aresults, aresultL, aresult, mkF, undefV, reduceCtorEq, kD, kE, kF, kG, kH, kI, kJ, kK, aExtract, calleeOf]
  have hph : ∀ g, Le h1 g → PR g ev es := fun g l => hp.le (le1.trans l)
  refine KLoop.intro (fun k fr hw => ∃ (i : Nat) (f : Bool) (L' : List Int), k = es.length - i ∧ i ≤ es.length ∧ fr = mkF [(2, .pointer (some ⟨B, 0, none⟩)), (7, uv), (9, .bool f), (10, .int .i64 i)] ∧ GI hw uv L' ∧ Le h1 hw ∧ RA j es s L' ∧ (f = true → phi j L' < phi j L) ∧ (f = false → L' = L ∧ ∀ p ∈ es.take i, Closed L p))
    es.length [(2, .pointer (some ⟨B, 0, none⟩)), (7, uv), (9, .bool false), (10, .int .i64 (0 : Nat))] (by simp only [hasAll, kS1, bLookup, bMapSet, wantA, isCall, stepOp, evalO, evalL, evalP, evalM, putDst, flat, kA, kB, Nat.reduceLT, ↓reduceIte, kC, Nat.reduceEqDiff, aBuiltin, abinG, guardFree, abin, aInt, aUn, aNilCheck, retQ, retQ1, aresults, aresultL, aresult, mkF, undefV, reduceCtorEq, kD, kE, kF, kG, kH, kI, kJ, kK, aExtract, calleeOf]; simp) ⟨0, false, L, rfl, Nat.zero_le _, rfl, gl, lez, R, by simp, fun _ => ⟨rfl, by simp⟩⟩ ?_
  clear gl hwz lez
  clear hz
  rintro k fr hw hww ⟨i, f, L', rfl, hi, rfl, gl, lew, R', hft, hff⟩
  have lAw := lA hw lew
  have hlen := fun g => hp.len g
  simp only [kS1, bLookup, bMapSet, wantA, isCall, stepOp, evalO, evalL, evalP, evalM, putDst, flat, kA, kB, Nat.reduceLT, ↓reduceIte, kC, Nat.reduceEqDiff, aBuiltin, abinG, guardFree, abin, aInt, aUn, aNilCheck, retQ, retQ1, aresults, aresultL, aresult, mkF, undefV, reduceCtorEq, kD, kE, kF, kG, kH, kI, kJ, kK, aExtract, calleeOf, fg1, aadd, Nat.zero_add, lAw.2.2, hlen]
  refine KCond.intro (fun ht => ?_) (fun hf => ?_)
  rotate_left
  · have hge : es.length ≤ i := lt_f hf
    rw [List.take_of_length_le hge] at hff
    simp only [kS1, bLookup, bMapSet, wantA, isCall, stepOp, evalO, evalL, evalP, evalM, putDst, flat, kA, kB, Nat.reduceLT, ↓reduceIte, kC, Nat.reduceEqDiff, aBuiltin, abinG, guardFree, abin, aInt, aUn, aNilCheck, retQ, retQ1, aresults, aresultL, aresult, mkF, undefV, reduceCtorEq, kD, kE, kF, kG, kH, kI, kJ, kK, aExtract, calleeOf]
    refine loop_again (phi j L' * 2 + cond f 1 0) [(2, .pointer (some ⟨B, 0, none⟩)), (7, uv), (9, .bool f)] ?_ (by simp only [hasAll, kS1, bLookup, bMapSet, wantA, isCall, stepOp, evalO, evalL, evalP, evalM, putDst, flat, kA, kB, Nat.reduceLT, ↓reduceIte, kC, Nat.reduceEqDiff, aBuiltin, abinG, guardFree, abin, aInt, aUn, aNilCheck, retQ, retQ1, aresults, aresultL, aresult, mkF, undefV, reduceCtorEq, kD, kE, kF, kG, kH, kI, kJ, kK, aExtract, calleeOf]; simp) ⟨f, L', rfl, rfl, gl, lew, R', fun e => ?_⟩
    · cases f with
      | true => have := hft rfl; simp only [cond_true]; omega
      | false => rw [(hff rfl).1]; simp
    · rw [(hff e).1]; exact (hff e).2
  have hlt : i < es.length := lt_t ht
  clear ht
  have hpi := getElem?_of hlt
  have htk : es.take (i + 1) = es.take i ++ [es[i]] := List.take_succ_eq_append_getElem hlt
  have hpos := hR es[i] (List.getElem_mem hlt)
  generalize es[i] = p at hpi htk hpos
  have adp := hp.addr (k := .i64) i hlt
  obtain ⟨a, c⟩ := p
  simp only at hpos
  obtain ⟨a, rfl⟩ := Int.eq_ofNat_of_zero_le hpos.1
  obtain ⟨c, rfl⟩ := Int.eq_ofNat_of_zero_le (show 0 ≤ c by omega)
  have han : a < j := by omega
  have hcn : c < j := by omega
  have hadj : adj es a c := .inl (List.mem_of_getElem? hpi)
  have l0 := (hph hw lew).l0 hpi
  have l1 := (hph hw lew).l1 hpi
  simp only [kS1, bLookup, bMapSet, wantA, isCall, stepOp, evalO, evalL, evalP, evalM, putDst, flat, kA, kB, Nat.reduceLT, ↓reduceIte, kC, Nat.reduceEqDiff, aBuiltin, abinG, guardFree, abin, aInt, aUn, aNilCheck, retQ, retQ1, aresults, aresultL, aresult, mkF, undefV, reduceCtorEq, kD, kE, kF, kG, kH, kI, kJ, kK, aExtract, calleeOf]
  refine KDraw.intro mixed (.fl 0 (.fl 1 (.fl 2 (.fl 3 (.fl 4 (.fl 5 (.fl 6 (.fl 7 (.fl 8 (.fl 9 (.fl 10 (.fl 11 (.fl 12 (.fl 13 (.done))))))))))))))) (by kernel_rfl) ?_
  simp only [aadd] at l0 l1
  simp only [Nat.add_zero] at l0
  simp only [kS1, bLookup, bMapSet, wantA, isCall, stepOp, evalO, evalL, evalP, evalM, putDst, flat, kA, kB, Nat.reduceLT, ↓reduceIte, kC, Nat.reduceEqDiff, aBuiltin, abinG, guardFree, abin, aInt, aUn, aNilCheck, retQ, retQ1, aresults, aresultL, aresult, mkF, undefV, reduceCtorEq, kD, kE, kF, kG, kH, kI, kJ, kK, aExtract, calleeOf, kD1, Nat.reduceBEq, HoldsAll, kL, kM, kN, kO, fg1, aadd, Nat.zero_add, Nat.add_zero, lAw.2.2, adp, pa0, pa1, l0, l1]
  -- what a vertex holds, and how it is written
  have adL : ∀ (g : AHeap) (M : List Int) (x : Nat), GI g uv M → M.length = j → x < j → aIndexAddr Try.prog 38 uv (.int .i64 (x : Int)) = some (.pointer (some (elemAddr uv x))) ∧ aload Try.prog g 3 (elemAddr uv x) = some (.int .i64 (M.getD x 0)) := fun g M x gM hM hx => by
    refine ⟨gM.rl.addr (P := Try.prog) Try.underlying38 Try.underlying3 (by kernel_rfl) (k := .i64) x (by omega), ?_⟩
    rw [gM.rl.loadI (P := Try.prog) Try.underlying3 rfl x (by omega), getD_of (by omega)]
  have rd : ∀ (M : List Int), RA j es s M → ∀ x, x < j → M.getD x 0 < 4611686018427387904 - 1 ∧ -1 ≤ M.getD x 0 := fun M RM x hx => by
    have hm := getElem?_of (show x < M.length by rw [RM.len]; exact hx)
    have h1 := RM.bd x _ hm
    have h2 := (RM.con x _ hm).1
    have h3 := cntP_le M
    rw [RM.len] at h3
    rw [getD_of (by rw [RM.len]; exact hx)]
    omega
  have hx_17 := adL hw L' a gl R'.len han
  have hy_17 := adL hw L' c gl R'.len hcn
  have ra_17 := rd L' R' a han
  have wr_17 : awrap .i64 (L'.getD a 0 + 1) = L'.getD a 0 + 1 := awrap_i64 _ (by omega) (by omega)
  have hr_17 : relax L' a c = (decide (L'.getD a 0 ≥ 0) && (decide (L'.getD c 0 < 0) || decide (L'.getD c 0 > L'.getD a 0 + 1))) := rfl
  refine KDraw.intro mixed (.fl 0 (.fl 1 (.fl 2 (.fl 3 (.fl 4 (.fl 5 (.fl 6 (.fl 7 (.fl 8 (.fl 9 (.fl 10 (.fl 11 (.fl 12 (.fl 13 (.fl 14 (.fl 15 (.fl 16 (.fl 17 (.fl 18 (.fl 19 (.fl 20 (.fl 21 (.fl 22 (.fl 23 (.done))))))))))))))))))))))))) (by kernel_rfl) ?_
  have four_17 : decide (L'.getD a 0 ≥ 0) = false ∨ (decide (L'.getD a 0 ≥ 0) = true ∧ decide (L'.getD c 0 < 0) = true) ∨ (decide (L'.getD a 0 ≥ 0) = true ∧ decide (L'.getD c 0 < 0) = false ∧ decide (L'.getD c 0 > L'.getD a 0 + 1) = true) ∨ (decide (L'.getD a 0 ≥ 0) = true ∧ decide (L'.getD c 0 < 0) = false ∧ decide (L'.getD c 0 > L'.getD a 0 + 1) = false) := by
    cases decide (L'.getD a 0 ≥ 0) <;> cases decide (L'.getD c 0 < 0) <;> cases decide (L'.getD c 0 > L'.getD a 0 + 1) <;> simp
  rcases four_17 with d1 | ⟨d1, d2⟩ | ⟨d1, d2, d3⟩ | ⟨d1, d2, d3⟩
  focus
    have hc1_r : relax L' a c = false := by rw [hr_17, d1]; rfl
    simp only [kS1, bLookup, bMapSet, wantA, isCall, stepOp, evalO, evalL, evalP, evalM, putDst, flat, kA, kB, Nat.reduceLT, ↓reduceIte, kC, Nat.reduceEqDiff, aBuiltin, abinG, guardFree, abin, aInt, aUn, aNilCheck, retQ, retQ1, aresults, aresultL, aresult, mkF, undefV, reduceCtorEq, kD, kE, kF, kG, kH, kI, kJ, kK, aExtract, calleeOf, kD1, Nat.reduceBEq, HoldsAll, kL, kM, kN, kO, hx_17.1, hx_17.2, hy_17.1, hy_17.2, d1, wr_17]
    obtain ⟨L1, e5⟩ : ∃ q, q = L' := ⟨_, rfl⟩
    have gl1 := gl
    have R1 := R'
    have le1g := lew
    have wg1 := hww
    obtain ⟨g1, e6⟩ : ∃ q, q = hw := ⟨_, rfl⟩
    rw [← e5] at gl1 R1
    rw [← e6] at gl1 le1g wg1 ⊢
    have hc1_e : L1 = L' ∧ relax L' a c = false := ⟨e5, hc1_r⟩
    have hc1_l : phi j L1 ≤ phi j L' := by rw [e5]; exact Nat.le_refl _
    clear e5 e6
    clear hc1_r
  rotate_left
  focus
    have hc1_r : relax L' a c = true := by rw [hr_17, d1, d2]; rfl
    obtain ⟨g1, st, gl1, wg1, f5, -⟩ := gl.store hww (i := c) (by rw [R'.len]; exact hcn) (L'.getD a 0 + 1)
    have le1g := f5 h1 lew au
    obtain ⟨R1, hdec⟩ := R'.step hadj han hcn hc1_r
    simp only [kS1, bLookup, bMapSet, wantA, isCall, stepOp, evalO, evalL, evalP, evalM, putDst, flat, kA, kB, Nat.reduceLT, ↓reduceIte, kC, Nat.reduceEqDiff, aBuiltin, abinG, guardFree, abin, aInt, aUn, aNilCheck, retQ, retQ1, aresults, aresultL, aresult, mkF, undefV, reduceCtorEq, kD, kE, kF, kG, kH, kI, kJ, kK, aExtract, calleeOf, kD1, Nat.reduceBEq, HoldsAll, kL, kM, kN, kO, hx_17.1, hx_17.2, hy_17.1, hy_17.2, d1, d2, wr_17, st]
    generalize hL1 : L'.set c (L'.getD a 0 + 1) = L1 at *
    have hc1_d : phi j L1 < phi j L' := hdec
    have hc1_l : phi j L1 ≤ phi j L' := Nat.le_of_lt hdec
    have mkT : True := trivial
    clear hdec hL1 st f5
    clear hc1_r
  rotate_left
  focus
    have hc1_r : relax L' a c = true := by rw [hr_17, d1, d2, d3]; rfl
    obtain ⟨g1, st, gl1, wg1, f5, -⟩ := gl.store hww (i := c) (by rw [R'.len]; exact hcn) (L'.getD a 0 + 1)
    have le1g := f5 h1 lew au
    obtain ⟨R1, hdec⟩ := R'.step hadj han hcn hc1_r
    simp only [kS1, bLookup, bMapSet, wantA, isCall, stepOp, evalO, evalL, evalP, evalM, putDst, flat, kA, kB, Nat.reduceLT, ↓reduceIte, kC, Nat.reduceEqDiff, aBuiltin, abinG, guardFree, abin, aInt, aUn, aNilCheck, retQ, retQ1, aresults, aresultL, aresult, mkF, undefV, reduceCtorEq, kD, kE, kF, kG, kH, kI, kJ, kK, aExtract, calleeOf, kD1, Nat.reduceBEq, HoldsAll, kL, kM, kN, kO, hx_17.1, hx_17.2, hy_17.1, hy_17.2, d1, d2, d3, wr_17, st]
    generalize hL1 : L'.set c (L'.getD a 0 + 1) = L1 at *
    have hc1_d : phi j L1 < phi j L' := hdec
    have hc1_l : phi j L1 ≤ phi j L' := Nat.le_of_lt hdec
    have mkT : True := trivial
    clear hdec hL1 st f5
    clear hc1_r
  rotate_left
  focus
    have hc1_r : relax L' a c = false := by rw [hr_17, d1, d2, d3]; rfl
    simp only [kS1, bLookup, bMapSet, wantA, isCall, stepOp, evalO, evalL, evalP, evalM, putDst, flat, kA, kB, Nat.reduceLT, ↓reduceIte, kC, Nat.reduceEqDiff, aBuiltin, abinG, guardFree, abin, aInt, aUn, aNilCheck, retQ, retQ1, aresults, aresultL, aresult, mkF, undefV, reduceCtorEq, kD, kE, kF, kG, kH, kI, kJ, kK, aExtract, calleeOf, kD1, Nat.reduceBEq, HoldsAll, kL, kM, kN, kO, hx_17.1, hx_17.2, hy_17.1, hy_17.2, d1, d2, d3, wr_17]
    obtain ⟨L1, e5⟩ : ∃ q, q = L' := ⟨_, rfl⟩
    have gl1 := gl
    have R1 := R'
    have le1g := lew
    have wg1 := hww
    obtain ⟨g1, e6⟩ : ∃ q, q = hw := ⟨_, rfl⟩
    rw [← e5] at gl1 R1
    rw [← e6] at gl1 le1g wg1 ⊢
    have hc1_e : L1 = L' ∧ relax L' a c = false := ⟨e5, hc1_r⟩
    have hc1_l : phi j L1 ≤ phi j L' := by rw [e5]; exact Nat.le_refl _
    clear e5 e6
    clear hc1_r
  rotate_left
  all_goals
    have hx_20 := adL g1 L1 c gl1 R1.len hcn
    have hy_20 := adL g1 L1 a gl1 R1.len han
    have ra_20 := rd L1 R1 c hcn
    have wr_20 : awrap .i64 (L1.getD c 0 + 1) = L1.getD c 0 + 1 := awrap_i64 _ (by omega) (by omega)
    have hr_20 : relax L1 c a = (decide (L1.getD c 0 ≥ 0) && (decide (L1.getD a 0 < 0) || decide (L1.getD a 0 > L1.getD c 0 + 1))) := rfl
    refine KDraw.intro mixed (.fl 0 (.fl 1 (.fl 2 (.fl 3 (.fl 4 (.fl 5 (.fl 6 (.fl 7 (.fl 8 (.fl 9 (.fl 10 (.fl 11 (.fl 12 (.fl 13 (.fl 14 (.fl 15 (.fl 16 (.fl 17 (.fl 18 (.fl 19 (.fl 20 (.fl 21 (.fl 22 (.fl 23 (.done))))))))))))))))))))))))) (by kernel_rfl) ?_
    have four_20 : decide (L1.getD c 0 ≥ 0) = false ∨ (decide (L1.getD c 0 ≥ 0) = true ∧ decide (L1.getD a 0 < 0) = true) ∨ (decide (L1.getD c 0 ≥ 0) = true ∧ decide (L1.getD a 0 < 0) = false ∧ decide (L1.getD a 0 > L1.getD c 0 + 1) = true) ∨ (decide (L1.getD c 0 ≥ 0) = true ∧ decide (L1.getD a 0 < 0) = false ∧ decide (L1.getD a 0 > L1.getD c 0 + 1) = false) := by
      cases decide (L1.getD c 0 ≥ 0) <;> cases decide (L1.getD a 0 < 0) <;> cases decide (L1.getD a 0 > L1.getD c 0 + 1) <;> simp
    rcases four_20 with d1 | ⟨d1, d2⟩ | ⟨d1, d2, d3⟩ | ⟨d1, d2, d3⟩
    focus
      have hc2_r : relax L1 c a = false := by rw [hr_20, d1]; rfl
      simp only [kS1, bLookup, bMapSet, wantA, isCall, stepOp, evalO, evalL, evalP, evalM, putDst, flat, kA, kB, Nat.reduceLT, ↓reduceIte, kC, Nat.reduceEqDiff, aBuiltin, abinG, guardFree, abin, aInt, aUn, aNilCheck, retQ, retQ1, aresults, aresultL, aresult, mkF, undefV, reduceCtorEq, kD, kE, kF, kG, kH, kI, kJ, kK, aExtract, calleeOf, kD1, Nat.reduceBEq, HoldsAll, kL, kM, kN, kO, hx_20.1, hx_20.2, hy_20.1, hy_20.2, d1, wr_20]
      obtain ⟨L2, e5⟩ : ∃ q, q = L1 := ⟨_, rfl⟩
      have gl2 := gl1
      have R2 := R1
      have le2g := le1g
      have wg2 := wg1
      obtain ⟨g2, e6⟩ : ∃ q, q = g1 := ⟨_, rfl⟩
      rw [← e5] at gl2 R2
      rw [← e6] at gl2 le2g wg2 ⊢
      have hc2_e : L2 = L1 ∧ relax L1 c a = false := ⟨e5, hc2_r⟩
      have hc2_l : phi j L2 ≤ phi j L1 := by rw [e5]; exact Nat.le_refl _
      clear e5 e6
      clear hc2_r
    rotate_left
    focus
      have hc2_r : relax L1 c a = true := by rw [hr_20, d1, d2]; rfl
      obtain ⟨g2, st, gl2, wg2, f5, -⟩ := gl1.store wg1 (i := a) (by rw [R1.len]; exact han) (L1.getD c 0 + 1)
      have le2g := f5 h1 le1g au
      obtain ⟨R2, hdec⟩ := R1.step hadj.symm hcn han hc2_r
      simp only [kS1, bLookup, bMapSet, wantA, isCall, stepOp, evalO, evalL, evalP, evalM, putDst, flat, kA, kB, Nat.reduceLT, ↓reduceIte, kC, Nat.reduceEqDiff, aBuiltin, abinG, guardFree, abin, aInt, aUn, aNilCheck, retQ, retQ1, aresults, aresultL, aresult, mkF, undefV, reduceCtorEq, kD, kE, kF, kG, kH, kI, kJ, kK, aExtract, calleeOf, kD1, Nat.reduceBEq, HoldsAll, kL, kM, kN, kO, hx_20.1, hx_20.2, hy_20.1, hy_20.2, d1, d2, wr_20, st]
      generalize hL1 : L1.set a (L1.getD c 0 + 1) = L2 at *
      have hc2_d : phi j L2 < phi j L1 := hdec
      have hc2_l : phi j L2 ≤ phi j L1 := Nat.le_of_lt hdec
      have mkT : True := trivial
      clear hdec hL1 st f5
      clear hc2_r
    rotate_left
    focus
      have hc2_r : relax L1 c a = true := by rw [hr_20, d1, d2, d3]; rfl
      obtain ⟨g2, st, gl2, wg2, f5, -⟩ := gl1.store wg1 (i := a) (by rw [R1.len]; exact han) (L1.getD c 0 + 1)
      have le2g := f5 h1 le1g au
      obtain ⟨R2, hdec⟩ := R1.step hadj.symm hcn han hc2_r
      simp only [kS1, bLookup, bMapSet, wantA, isCall, stepOp, evalO, evalL, evalP, evalM, putDst, flat, kA, kB, Nat.reduceLT, ↓reduceIte, kC, Nat.reduceEqDiff, aBuiltin, abinG, guardFree, abin, aInt, aUn, aNilCheck, retQ, retQ1, aresults, aresultL, aresult, mkF, undefV, reduceCtorEq, kD, kE, kF, kG, kH, kI, kJ, kK, aExtract, calleeOf, kD1, Nat.reduceBEq, HoldsAll, kL, kM, kN, kO, hx_20.1, hx_20.2, hy_20.1, hy_20.2, d1, d2, d3, wr_20, st]
      generalize hL1 : L1.set a (L1.getD c 0 + 1) = L2 at *
      have hc2_d : phi j L2 < phi j L1 := hdec
      have hc2_l : phi j L2 ≤ phi j L1 := Nat.le_of_lt hdec
      have mkT : True := trivial
      clear hdec hL1 st f5
      clear hc2_r
    rotate_left
    focus
      have hc2_r : relax L1 c a = false := by rw [hr_20, d1, d2, d3]; rfl
      simp only [kS1, bLookup, bMapSet, wantA, isCall, stepOp, evalO, evalL, evalP, evalM, putDst, flat, kA, kB, Nat.reduceLT, ↓reduceIte, kC, Nat.reduceEqDiff, aBuiltin, abinG, guardFree, abin, aInt, aUn, aNilCheck, retQ, retQ1, aresults, aresultL, aresult, mkF, undefV, reduceCtorEq, kD, kE, kF, kG, kH, kI, kJ, kK, aExtract, calleeOf, kD1, Nat.reduceBEq, HoldsAll, kL, kM, kN, kO, hx_20.1, hx_20.2, hy_20.1, hy_20.2, d1, d2, d3, wr_20]
      obtain ⟨L2, e5⟩ : ∃ q, q = L1 := ⟨_, rfl⟩
      have gl2 := gl1
      have R2 := R1
      have le2g := le1g
      have wg2 := wg1
      obtain ⟨g2, e6⟩ : ∃ q, q = g1 := ⟨_, rfl⟩
      rw [← e5] at gl2 R2
      rw [← e6] at gl2 le2g wg2 ⊢
      have hc2_e : L2 = L1 ∧ relax L1 c a = false := ⟨e5, hc2_r⟩
      have hc2_l : phi j L2 ≤ phi j L1 := by rw [e5]; exact Nat.le_refl _
      clear e5 e6
      clear hc2_r
    rotate_left
    all_goals
      simp only [kS1, bLookup, bMapSet, wantA, isCall, stepOp, evalO, evalL, evalP, evalM, putDst, flat, kA, kB, Nat.reduceLT, ↓reduceIte, kC, Nat.reduceEqDiff, aBuiltin, abinG, guardFree, abin, aInt, aUn, aNilCheck, retQ, retQ1, aresults, aresultL, aresult, mkF, undefV, reduceCtorEq, kD, kE, kF, kG, kH, kI, kJ, kK, aExtract, calleeOf, awrap_succ i (by omega)]
      have h1 : phi j L' ≤ phi j L := by
        cases f with
        | true => exact Nat.le_of_lt (hft rfl)
        | false => rw [(hff rfl).1]; exact Nat.le_refl _
      first
        | clear mkT
          refine loop_again (es.length - (i + 1)) [(2, .pointer (some ⟨B, 0, none⟩)), (7, uv), (9, .bool true), (10, .int .i64 (i + 1 : Nat))] (by omega) (by simp only [hasAll, kS1, bLookup, bMapSet, wantA, isCall, stepOp, evalO, evalL, evalP, evalM, putDst, flat, kA, kB, Nat.reduceLT, ↓reduceIte, kC, Nat.reduceEqDiff, aBuiltin, abinG, guardFree, abin, aInt, aUn, aNilCheck, retQ, retQ1, aresults, aresultL, aresult, mkF, undefV, reduceCtorEq, kD, kE, kF, kG, kH, kI, kJ, kK, aExtract, calleeOf]; simp)
            ⟨i + 1, true, L2, rfl, hlt, rfl, gl2, le2g, R2, fun _ => ?_, fun e => by cases e⟩
          omega
        | refine loop_again (es.length - (i + 1)) [(2, .pointer (some ⟨B, 0, none⟩)), (7, uv), (9, .bool f), (10, .int .i64 (i + 1 : Nat))] (by omega) (by simp only [hasAll, kS1, bLookup, bMapSet, wantA, isCall, stepOp, evalO, evalL, evalP, evalM, putDst, flat, kA, kB, Nat.reduceLT, ↓reduceIte, kC, Nat.reduceEqDiff, aBuiltin, abinG, guardFree, abin, aInt, aUn, aNilCheck, retQ, retQ1, aresults, aresultL, aresult, mkF, undefV, reduceCtorEq, kD, kE, kF, kG, kH, kI, kJ, kK, aExtract, calleeOf]; simp)
            ⟨i + 1, f, L2, rfl, hlt, rfl, gl2, le2g, R2, fun e => ?_, fun e => ?_⟩
          · have h2 := hft e
            omega
          · obtain ⟨e3, e4⟩ := hff e
            obtain ⟨e5, e6⟩ := hc1_e
            obtain ⟨e7, e8⟩ := hc2_e
            refine ⟨by rw [e7, e5, e3], fun q hq => ?_⟩
            rw [htk, List.mem_append, List.mem_singleton] at hq
            rcases hq with hq | rfl
            · exact e4 q hq
            · rw [e5] at e8; rw [e3] at e6 e8
              exact ⟨by simpa using e6, by simpa using e8⟩
end Go.Fw
