/- One of the texts of the layer and the walks: it proves what its theorems say of the functions of the seat, with no condition beyond theirs. -/
import Derived.Test.YtdflaojabddalaaFwRg8
import Derived.Test.YtdflaojabddalaaFwBytes
import Derived.Lib.Walk
import Derived.Test.YtdflaojabddalaaFwRep
set_option linter.unusedSimpArgs false
set_option linter.unusedVariables false
namespace Go.Fw
open Go.Proofs
set_option maxHeartbeats 400000
set_option maxRecDepth 10000

theorem take_ext {α : Type} {xs ys : List α} {i : Nat} (h : xs.take i = ys.take i) (hx : i < xs.length) (hy : i < ys.length) (e : xs[i] = ys[i]) : xs.take (i + 1) = ys.take (i + 1) := by
  rw [List.take_succ_eq_append_getElem hx, List.take_succ_eq_append_getElem hy, h, e]

theorem sameInts_any (W0 : World) (a b : Value) (xs ys : List Int) (h : AHeap) (ha : RL isI h a xs) (hb : RL isI h b ys) (hx : xs.length < 4611686018427387904) : AC Try.prog W0 24 [a, b] h fun v h' => BoolIs (xs = ys) v ∧ h' = h := by
  refine AC.vc (fn := Try.f24) (c := _) ⟨Try.func24, rfl, by decide⟩ Try.ntmps24 Try.results24 (by simp) fun hwf => ?_
  simp only [argFrame, argFrom, Nat.reduceAdd]
  have la := ha.len (P := Try.prog) Try.underlying31 h
  have lb := hb.len (P := Try.prog) Try.underlying31 h
  by_cases c0 : (xs.length : Int) = (ys.length : Int)
  rotate_left
  · simp only [beq_dec, fst_mk, snd_mk, VK_skip, VK_ret, VK_exit, VK_seq, VK_block, VK_region, VK_draw, VK_cond, KCond_true, KCond_false, VK_loop, KN_nil, KN_seq, KN_blk, KX_ret_nil, KX_ret_seq, KX_ret_blk, KX_exit_nil, KX_exit_seq, KX_exit_blk, KE_normal, KE_ret, KE_exit, KO_nil, KO_cons, KO_app_cons, KO_app_nil, KO1_true, KO1_false, KO2_true, KO2_false, KO3_some, KO4_some, loopQ_ret, loopQ_exit, wantA, isCall, stepOp, evalO, evalL, evalP, evalM, putDst, flat, cond_true, cond_false, Nat.reduceLT, ↓reduceIte, Trie.get_set, Nat.reduceEqDiff, Nat.one_ne_zero, Nat.zero_ne_one, aBuiltin, abinG, guardFree, abin, aInt, aUn, aNilCheck, retQ, retQ1, aresults, aresultL, aresult, mkF, undefV, reduceCtorEq, List.getElem?_toArray, List.append_eq, List.cons_append, List.nil_append, List.getElem?_cons_zero, List.getElem?_cons_succ, Option.bind_some, Bool.not_true, Bool.not_false, beq_self_eq_true, aExtract, calleeOf, awrap_u8, Bool.true_beq, Bool.false_beq, beq_true, beq_false, decide_true, decide_false, Bool.not_not, Bool.and_true, Bool.true_and, Bool.and_false, Bool.false_and, la, lb, bne, eq_false c0]
    exact ⟨.f fun e => c0 (by rw [e]), trivial⟩
  have hl : xs.length = ys.length := by omega
  simp only [beq_dec, fst_mk, snd_mk, VK_skip, VK_ret, VK_exit, VK_seq, VK_block, VK_region, VK_draw, VK_cond, KCond_true, KCond_false, VK_loop, KN_nil, KN_seq, KN_blk, KX_ret_nil, KX_ret_seq, KX_ret_blk, KX_exit_nil, KX_exit_seq, KX_exit_blk, KE_normal, KE_ret, KE_exit, KO_nil, KO_cons, KO_app_cons, KO_app_nil, KO1_true, KO1_false, KO2_true, KO2_false, KO3_some, KO4_some, loopQ_ret, loopQ_exit, wantA, isCall, stepOp, evalO, evalL, evalP, evalM, putDst, flat, cond_true, cond_false, Nat.reduceLT, ↓reduceIte, Trie.get_set, Nat.reduceEqDiff, Nat.one_ne_zero, Nat.zero_ne_one, aBuiltin, abinG, guardFree, abin, aInt, aUn, aNilCheck, retQ, retQ1, aresults, aresultL, aresult, mkF, undefV, reduceCtorEq, List.getElem?_toArray, List.append_eq, List.cons_append, List.nil_append, List.getElem?_cons_zero, List.getElem?_cons_succ, Option.bind_some, Bool.not_true, Bool.not_false, beq_self_eq_true, aExtract, calleeOf, awrap_u8, Bool.true_beq, Bool.false_beq, beq_true, beq_false, decide_true, decide_false, Bool.not_not, Bool.and_true, Bool.true_and, Bool.and_false, Bool.false_and, la, lb, bne, eq_true c0]
  refine KLoop.intro (fun k fr h' => ∃ i : Nat, k = xs.length - i ∧ i ≤ xs.length ∧ h' = h ∧ fr = mkF [(0, a), (1, b), (12, .int .i64 xs.length), (13, .int .i64 i)] ∧ xs.take i = ys.take i) xs.length [(0, a), (1, b), (12, .int .i64 xs.length), (13, .int .i64 (0 : Nat))] (by simp only [hasAll, beq_dec, fst_mk, snd_mk, VK_skip, VK_ret, VK_exit, VK_seq, VK_block, VK_region, VK_draw, VK_cond, KCond_true, KCond_false, VK_loop, KN_nil, KN_seq, KN_blk, KX_ret_nil, KX_ret_seq, KX_ret_blk, KX_exit_nil, KX_exit_seq, KX_exit_blk, KE_normal, KE_ret, KE_exit, KO_nil, KO_cons, KO_app_cons, KO_app_nil, KO1_true, KO1_false, KO2_true, KO2_false, KO3_some, KO4_some, loopQ_ret, loopQ_exit, wantA, isCall, stepOp, evalO, evalL, evalP, evalM, putDst, flat, cond_true, cond_false, Nat.reduceLT, ↓reduceIte, Trie.get_set, Nat.reduceEqDiff, Nat.one_ne_zero, Nat.zero_ne_one, aBuiltin, abinG, guardFree, abin, aInt, aUn, aNilCheck, retQ, retQ1, aresults, aresultL, aresult, mkF, undefV, reduceCtorEq, List.getElem?_toArray, List.append_eq, List.cons_append, List.nil_append, List.getElem?_cons_zero, List.getElem?_cons_succ, Option.bind_some, Bool.not_true, Bool.not_false, beq_self_eq_true, aExtract, calleeOf, awrap_u8, Bool.true_beq, Bool.false_beq, beq_true, beq_false, decide_true, decide_false, Bool.not_not, Bool.and_true, Bool.true_and, Bool.and_false, Bool.false_and]; simp) ⟨0, rfl, Nat.zero_le _, rfl, rfl, rfl⟩ ?_
  rintro k fr h' - ⟨i, rfl, hi, rfl, rfl, heq⟩
  simp only [beq_dec, fst_mk, snd_mk, VK_skip, VK_ret, VK_exit, VK_seq, VK_block, VK_region, VK_draw, VK_cond, KCond_true, KCond_false, VK_loop, KN_nil, KN_seq, KN_blk, KX_ret_nil, KX_ret_seq, KX_ret_blk, KX_exit_nil, KX_exit_seq, KX_exit_blk, KE_normal, KE_ret, KE_exit, KO_nil, KO_cons, KO_app_cons, KO_app_nil, KO1_true, KO1_false, KO2_true, KO2_false, KO3_some, KO4_some, loopQ_ret, loopQ_exit, wantA, isCall, stepOp, evalO, evalL, evalP, evalM, putDst, flat, cond_true, cond_false, Nat.reduceLT, ↓reduceIte, Trie.get_set, Nat.reduceEqDiff, Nat.one_ne_zero, Nat.zero_ne_one, aBuiltin, abinG, guardFree, abin, aInt, aUn, aNilCheck, retQ, retQ1, aresults, aresultL, aresult, mkF, undefV, reduceCtorEq, List.getElem?_toArray, List.append_eq, List.cons_append, List.nil_append, List.getElem?_cons_zero, List.getElem?_cons_succ, Option.bind_some, Bool.not_true, Bool.not_false, beq_self_eq_true, aExtract, calleeOf, awrap_u8, Bool.true_beq, Bool.false_beq, beq_true, beq_false, decide_true, decide_false, Bool.not_not, Bool.and_true, Bool.true_and, Bool.and_false, Bool.false_and]
  refine KCond.intro (fun ht => ?_) (fun hf => ?_)
  · have hi' : i < xs.length := lt_t ht
    have hj' : i < ys.length := by omega
    simp only [beq_dec, fst_mk, snd_mk, VK_skip, VK_ret, VK_exit, VK_seq, VK_block, VK_region, VK_draw, VK_cond, KCond_true, KCond_false, VK_loop, KN_nil, KN_seq, KN_blk, KX_ret_nil, KX_ret_seq, KX_ret_blk, KX_exit_nil, KX_exit_seq, KX_exit_blk, KE_normal, KE_ret, KE_exit, KO_nil, KO_cons, KO_app_cons, KO_app_nil, KO1_true, KO1_false, KO2_true, KO2_false, KO3_some, KO4_some, loopQ_ret, loopQ_exit, wantA, isCall, stepOp, evalO, evalL, evalP, evalM, putDst, flat, cond_true, cond_false, Nat.reduceLT, ↓reduceIte, Trie.get_set, Nat.reduceEqDiff, Nat.one_ne_zero, Nat.zero_ne_one, aBuiltin, abinG, guardFree, abin, aInt, aUn, aNilCheck, retQ, retQ1, aresults, aresultL, aresult, mkF, undefV, reduceCtorEq, List.getElem?_toArray, List.append_eq, List.cons_append, List.nil_append, List.getElem?_cons_zero, List.getElem?_cons_succ, Option.bind_some, Bool.not_true, Bool.not_false, beq_self_eq_true, aExtract, calleeOf, awrap_u8, Bool.true_beq, Bool.false_beq, beq_true, beq_false, decide_true, decide_false, Bool.not_not, Bool.and_true, Bool.true_and, Bool.and_false, Bool.false_and]
    refine KDraw.intro mixed (.fl 0 (.fl 1 (.fl 2 (.fl 3 (.fl 4 (.fl 5 (.fl 6 (.fl 7 (.fl 8 (.done)))))))))) (by kernel_rfl) ?_
    have a1 := ha.addr (P := Try.prog) Try.underlying31 Try.underlying3 (by kernel_rfl) (k := .i64) i hi'
    have a2 := hb.addr (P := Try.prog) Try.underlying31 Try.underlying3 (by kernel_rfl) (k := .i64) i hj'
    have d1 := ha.loadI (P := Try.prog) Try.underlying3 rfl i hi'
    have d2 := hb.loadI (P := Try.prog) Try.underlying3 rfl i hj'
    by_cases c1 : xs[i] = ys[i]
    rotate_left
    · simp only [beq_dec, fst_mk, snd_mk, VK_skip, VK_ret, VK_exit, VK_seq, VK_block, VK_region, VK_draw, VK_cond, KCond_true, KCond_false, VK_loop, KN_nil, KN_seq, KN_blk, KX_ret_nil, KX_ret_seq, KX_ret_blk, KX_exit_nil, KX_exit_seq, KX_exit_blk, KE_normal, KE_ret, KE_exit, KO_nil, KO_cons, KO_app_cons, KO_app_nil, KO1_true, KO1_false, KO2_true, KO2_false, KO3_some, KO4_some, loopQ_ret, loopQ_exit, wantA, isCall, stepOp, evalO, evalL, evalP, evalM, putDst, flat, cond_true, cond_false, Nat.reduceLT, ↓reduceIte, Trie.get_set, Nat.reduceEqDiff, Nat.one_ne_zero, Nat.zero_ne_one, aBuiltin, abinG, guardFree, abin, aInt, aUn, aNilCheck, retQ, retQ1, aresults, aresultL, aresult, mkF, undefV, reduceCtorEq, List.getElem?_toArray, List.append_eq, List.cons_append, List.nil_append, List.getElem?_cons_zero, List.getElem?_cons_succ, Option.bind_some, Bool.not_true, Bool.not_false, beq_self_eq_true, aExtract, calleeOf, awrap_u8, Bool.true_beq, Bool.false_beq, beq_true, beq_false, decide_true, decide_false, Bool.not_not, Bool.and_true, Bool.true_and, Bool.and_false, Bool.false_and, Nat.reduceBEq, Bool.or_self, Bool.false_eq_true, KD_done, KD_no, KD_fl, KF1_some, KF2_true, KF2_false, KF3_some, KF4_some, KD_ch, KG1_some, KG2_true, KG2_false, KG3_true, KG3_false, KG4_some, KG5_some, HoldsAll, Holds_eq, H1_some, H2_true, H2_false, H3_some, HD_some, HD_none, List.filter_nil, List.filter_cons, List.contains_cons, List.contains_nil, Bool.or_false, Bool.false_or, Bool.true_or, Bool.or_true, true_and, and_true, a1, a2, d1, d2, bne, eq_false c1]
      exact .f fun e => by subst e; exact c1 rfl
    · simp only [beq_dec, fst_mk, snd_mk, VK_skip, VK_ret, VK_exit, VK_seq, VK_block, VK_region, VK_draw, VK_cond, KCond_true, KCond_false, VK_loop, KN_nil, KN_seq, KN_blk, KX_ret_nil, KX_ret_seq, KX_ret_blk, KX_exit_nil, KX_exit_seq, KX_exit_blk, KE_normal, KE_ret, KE_exit, KO_nil, KO_cons, KO_app_cons, KO_app_nil, KO1_true, KO1_false, KO2_true, KO2_false, KO3_some, KO4_some, loopQ_ret, loopQ_exit, wantA, isCall, stepOp, evalO, evalL, evalP, evalM, putDst, flat, cond_true, cond_false, Nat.reduceLT, ↓reduceIte, Trie.get_set, Nat.reduceEqDiff, Nat.one_ne_zero, Nat.zero_ne_one, aBuiltin, abinG, guardFree, abin, aInt, aUn, aNilCheck, retQ, retQ1, aresults, aresultL, aresult, mkF, undefV, reduceCtorEq, List.getElem?_toArray, List.append_eq, List.cons_append, List.nil_append, List.getElem?_cons_zero, List.getElem?_cons_succ, Option.bind_some, Bool.not_true, Bool.not_false, beq_self_eq_true, aExtract, calleeOf, awrap_u8, Bool.true_beq, Bool.false_beq, beq_true, beq_false, decide_true, decide_false, Bool.not_not, Bool.and_true, Bool.true_and, Bool.and_false, Bool.false_and, Nat.reduceBEq, Bool.or_self, Bool.false_eq_true, KD_done, KD_no, KD_fl, KF1_some, KF2_true, KF2_false, KF3_some, KF4_some, KD_ch, KG1_some, KG2_true, KG2_false, KG3_true, KG3_false, KG4_some, KG5_some, HoldsAll, Holds_eq, H1_some, H2_true, H2_false, H3_some, HD_some, HD_none, List.filter_nil, List.filter_cons, List.contains_cons, List.contains_nil, Bool.or_false, Bool.false_or, Bool.true_or, Bool.or_true, true_and, and_true, a1, a2, d1, d2, bne, eq_true c1, awrap_succ i (by omega)]
      exact loop_again (xs.length - (i + 1)) [(0, a), (1, b), (12, .int .i64 xs.length), (13, .int .i64 (i + 1 : Nat))] (by omega) (by simp only [hasAll, beq_dec, fst_mk, snd_mk, VK_skip, VK_ret, VK_exit, VK_seq, VK_block, VK_region, VK_draw, VK_cond, KCond_true, KCond_false, VK_loop, KN_nil, KN_seq, KN_blk, KX_ret_nil, KX_ret_seq, KX_ret_blk, KX_exit_nil, KX_exit_seq, KX_exit_blk, KE_normal, KE_ret, KE_exit, KO_nil, KO_cons, KO_app_cons, KO_app_nil, KO1_true, KO1_false, KO2_true, KO2_false, KO3_some, KO4_some, loopQ_ret, loopQ_exit, wantA, isCall, stepOp, evalO, evalL, evalP, evalM, putDst, flat, cond_true, cond_false, Nat.reduceLT, ↓reduceIte, Trie.get_set, Nat.reduceEqDiff, Nat.one_ne_zero, Nat.zero_ne_one, aBuiltin, abinG, guardFree, abin, aInt, aUn, aNilCheck, retQ, retQ1, aresults, aresultL, aresult, mkF, undefV, reduceCtorEq, List.getElem?_toArray, List.append_eq, List.cons_append, List.nil_append, List.getElem?_cons_zero, List.getElem?_cons_succ, Option.bind_some, Bool.not_true, Bool.not_false, beq_self_eq_true, aExtract, calleeOf, awrap_u8, Bool.true_beq, Bool.false_beq, beq_true, beq_false, decide_true, decide_false, Bool.not_not, Bool.and_true, Bool.true_and, Bool.and_false, Bool.false_and]; simp) ⟨i + 1, rfl, hi', rfl, rfl, take_ext heq hi' hj' c1⟩
  · have hge : xs.length ≤ i := lt_f hf
    simp only [beq_dec, fst_mk, snd_mk, VK_skip, VK_ret, VK_exit, VK_seq, VK_block, VK_region, VK_draw, VK_cond, KCond_true, KCond_false, VK_loop, KN_nil, KN_seq, KN_blk, KX_ret_nil, KX_ret_seq, KX_ret_blk, KX_exit_nil, KX_exit_seq, KX_exit_blk, KE_normal, KE_ret, KE_exit, KO_nil, KO_cons, KO_app_cons, KO_app_nil, KO1_true, KO1_false, KO2_true, KO2_false, KO3_some, KO4_some, loopQ_ret, loopQ_exit, wantA, isCall, stepOp, evalO, evalL, evalP, evalM, putDst, flat, cond_true, cond_false, Nat.reduceLT, ↓reduceIte, Trie.get_set, Nat.reduceEqDiff, Nat.one_ne_zero, Nat.zero_ne_one, aBuiltin, abinG, guardFree, abin, aInt, aUn, aNilCheck, retQ, retQ1, aresults, aresultL, aresult, mkF, undefV, reduceCtorEq, List.getElem?_toArray, List.append_eq, List.cons_append, List.nil_append, List.getElem?_cons_zero, List.getElem?_cons_succ, Option.bind_some, Bool.not_true, Bool.not_false, beq_self_eq_true, aExtract, calleeOf, awrap_u8, Bool.true_beq, Bool.false_beq, beq_true, beq_false, decide_true, decide_false, Bool.not_not, Bool.and_true, Bool.true_and, Bool.and_false, Bool.false_and]
    refine ⟨.t ?_, trivial⟩
    have := heq
    rwa [List.take_of_length_le hge, List.take_of_length_le (by omega)] at this
end Go.Fw
namespace Go.Fw
open Go.Proofs
set_option maxHeartbeats 400000
set_option maxRecDepth 10000

theorem Equal_any (W0 : World) (a b : Value) (xs ys : List Int) (h : AHeap) (ha : RL isB h a xs) (hb : RL isB h b ys) : AC Try.prog W0 44 [a, b] h fun v h' => BoolIs (xs = ys) v ∧ h' = h := by
  refine AC.vc (fn := Try.f44) (c := _) ⟨Try.func44, rfl, by decide⟩ Try.ntmps44 Try.results44 (by simp) fun hwf => ?_
  simp only [argFrame, argFrom, Nat.reduceAdd]
  have ca := ha.text (P := Try.prog) (s := 34) (d := 9) Try.underlying34 Try.underlying5 (by kernel_rfl) Try.underlying9
  have cb := hb.text (P := Try.prog) (s := 34) (d := 9) Try.underlying34 Try.underlying5 (by kernel_rfl) Try.underlying9
  simp only [beq_dec, fst_mk, snd_mk, VK_skip, VK_ret, VK_exit, VK_seq, VK_block, VK_region, VK_draw, VK_cond, KCond_true, KCond_false, VK_loop, KN_nil, KN_seq, KN_blk, KX_ret_nil, KX_ret_seq, KX_ret_blk, KX_exit_nil, KX_exit_seq, KX_exit_blk, KE_normal, KE_ret, KE_exit, KO_nil, KO_cons, KO_app_cons, KO_app_nil, KO1_true, KO1_false, KO2_true, KO2_false, KO3_some, KO4_some, loopQ_ret, loopQ_exit, wantA, isCall, stepOp, evalO, evalL, evalP, evalM, putDst, flat, cond_true, cond_false, Nat.reduceLT, ↓reduceIte, Trie.get_set, Nat.reduceEqDiff, Nat.one_ne_zero, Nat.zero_ne_one, aBuiltin, abinG, guardFree, abin, aInt, aUn, aNilCheck, retQ, retQ1, aresults, aresultL, aresult, mkF, undefV, reduceCtorEq, List.getElem?_toArray, List.append_eq, List.cons_append, List.nil_append, List.getElem?_cons_zero, List.getElem?_cons_succ, Option.bind_some, Bool.not_true, Bool.not_false, beq_self_eq_true, aExtract, calleeOf, awrap_u8, Bool.true_beq, Bool.false_beq, beq_true, beq_false, decide_true, decide_false, Bool.not_not, Bool.and_true, Bool.true_and, Bool.and_false, Bool.false_and, ca, cb, aStr]
  refine ⟨⟨_, rfl, ?_⟩, trivial⟩
  rw [bytesOfInts_toList, bytesOfInts_toList]
  simp only [beq_iff_eq]
  exact ⟨fun e => bytes_inj ha.cellsB.2 hb.cellsB.2 e, fun e => by rw [e]⟩

theorem bytes_one (xs : List Int) : (xs.map (Value.int .u8)).all (·.oneCell') = true := by simp; intros; rfl

theorem Clone_any (W0 : World) (a : Value) (xs : List Int) (h : AHeap) (ha : RL isB h a xs) (hx : xs.length ≤ 100000000) : AC Try.prog W0 43 [a] h fun v h' => GS 1 h' v xs.length (xs.map (Value.int .u8)) ∧ Apart h v ∧ Le h h' := by
  refine AC.vc (fn := Try.f43) (c := _) ⟨Try.func43, rfl, by decide⟩ Try.ntmps43 Try.results43 (by simp) fun hwf => ?_
  simp only [argFrame, argFrom, Nat.reduceAdd]
  obtain ⟨rs, hb⟩ := ha.cellsB
  have hsl := rs.sl
  obtain ⟨ad, cap, rfl, hsm⟩ := hsl
  cases ad with
  | none =>
    have : xs = [] := by cases xs with | nil => rfl | cons x xs => simp at hsm
    subst this
    simp only [beq_dec, fst_mk, snd_mk, VK_skip, VK_ret, VK_exit, VK_seq, VK_block, VK_region, VK_draw, VK_cond, KCond_true, KCond_false, VK_loop, KN_nil, KN_seq, KN_blk, KX_ret_nil, KX_ret_seq, KX_ret_blk, KX_exit_nil, KX_exit_seq, KX_exit_blk, KE_normal, KE_ret, KE_exit, KO_nil, KO_cons, KO_app_cons, KO_app_nil, KO1_true, KO1_false, KO2_true, KO2_false, KO3_some, KO4_some, loopQ_ret, loopQ_exit, wantA, isCall, stepOp, evalO, evalL, evalP, evalM, putDst, flat, cond_true, cond_false, Nat.reduceLT, ↓reduceIte, Trie.get_set, Nat.reduceEqDiff, Nat.one_ne_zero, Nat.zero_ne_one, aBuiltin, abinG, guardFree, abin, aInt, aUn, aNilCheck, retQ, retQ1, aresults, aresultL, aresult, mkF, undefV, reduceCtorEq, List.getElem?_toArray, List.append_eq, List.cons_append, List.nil_append, List.getElem?_cons_zero, List.getElem?_cons_succ, Option.bind_some, Bool.not_true, Bool.not_false, beq_self_eq_true, aExtract, calleeOf, awrap_u8, Bool.true_beq, Bool.false_beq, beq_true, beq_false, decide_true, decide_false, Bool.not_not, Bool.and_true, Bool.true_and, Bool.and_false, Bool.false_and, aEq, Try.underlying34, Option.isNone_none]
    exact ⟨.nil 1 _, fun b (hb : blk (.slice none 0 0) = some b) => by (simp [blk] at hb), Le.refl _⟩
  | some ad =>
    have hbs : aBuildSlice Try.prog h 34 0 [] = some (.slice (some ⟨h.next, 0, none⟩) 0 0, h.alloc (.cells [])) := rfl
    have hle : Le h (h.alloc (.cells [])) := (Le.refl _).alloc hwf _
    have hw1 : WF (h.alloc (.cells [])) := hwf.alloc _
    have hg : GS 1 (h.alloc (.cells [])) (.slice (some ⟨h.next, 0, none⟩) 0 0) 0 [] := GS.full (AHeap.own_alloc_eq _ _) rfl (by decide)
    have hap : Apart h (.slice (some ⟨h.next, 0, none⟩) 0 0) := fun b hb => by simp [blk] at hb; subst hb; exact (Le.refl h).next hwf (Nat.le_refl _)
    simp only [beq_dec, fst_mk, snd_mk, VK_skip, VK_ret, VK_exit, VK_seq, VK_block, VK_region, VK_draw, VK_cond, KCond_true, KCond_false, VK_loop, KN_nil, KN_seq, KN_blk, KX_ret_nil, KX_ret_seq, KX_ret_blk, KX_exit_nil, KX_exit_seq, KX_exit_blk, KE_normal, KE_ret, KE_exit, KO_nil, KO_cons, KO_app_cons, KO_app_nil, KO1_true, KO1_false, KO2_true, KO2_false, KO3_some, KO4_some, loopQ_ret, loopQ_exit, wantA, isCall, stepOp, evalO, evalL, evalP, evalM, putDst, flat, cond_true, cond_false, Nat.reduceLT, ↓reduceIte, Trie.get_set, Nat.reduceEqDiff, Nat.one_ne_zero, Nat.zero_ne_one, aBuiltin, abinG, guardFree, abin, aInt, aUn, aNilCheck, retQ, retQ1, aresults, aresultL, aresult, mkF, undefV, reduceCtorEq, List.getElem?_toArray, List.append_eq, List.cons_append, List.nil_append, List.getElem?_cons_zero, List.getElem?_cons_succ, Option.bind_some, Bool.not_true, Bool.not_false, beq_self_eq_true, aExtract, calleeOf, awrap_u8, Bool.true_beq, Bool.false_beq, beq_true, beq_false, decide_true, decide_false, Bool.not_not, Bool.and_true, Bool.true_and, Bool.and_false, Bool.false_and, aEq, Try.underlying34, Option.isNone_some, hbs]
    generalize h.alloc (.cells []) = h1 at *
    obtain ⟨v', h2, e2, hg2, hf2⟩ := hg.append (P := Try.prog) (t := 34) (xt := 34) (by kernel_rfl) (fun e he => (rs.le hle).cs.src he) (by rfl) (bytes_one xs) (by simp) (by simp; omega)
    obtain ⟨hle2, hap2⟩ := hf2 h hw1 hle hap
    simp only [beq_dec, fst_mk, snd_mk, VK_skip, VK_ret, VK_exit, VK_seq, VK_block, VK_region, VK_draw, VK_cond, KCond_true, KCond_false, VK_loop, KN_nil, KN_seq, KN_blk, KX_ret_nil, KX_ret_seq, KX_ret_blk, KX_exit_nil, KX_exit_seq, KX_exit_blk, KE_normal, KE_ret, KE_exit, KO_nil, KO_cons, KO_app_cons, KO_app_nil, KO1_true, KO1_false, KO2_true, KO2_false, KO3_some, KO4_some, loopQ_ret, loopQ_exit, wantA, isCall, stepOp, evalO, evalL, evalP, evalM, putDst, flat, cond_true, cond_false, Nat.reduceLT, ↓reduceIte, Trie.get_set, Nat.reduceEqDiff, Nat.one_ne_zero, Nat.zero_ne_one, aBuiltin, abinG, guardFree, abin, aInt, aUn, aNilCheck, retQ, retQ1, aresults, aresultL, aresult, mkF, undefV, reduceCtorEq, List.getElem?_toArray, List.append_eq, List.cons_append, List.nil_append, List.getElem?_cons_zero, List.getElem?_cons_succ, Option.bind_some, Bool.not_true, Bool.not_false, beq_self_eq_true, aExtract, calleeOf, awrap_u8, Bool.true_beq, Bool.false_beq, beq_true, beq_false, decide_true, decide_false, Bool.not_not, Bool.and_true, Bool.true_and, Bool.and_false, Bool.false_and, e2]
    exact ⟨by simpa using hg2, hap2, hle2⟩
end Go.Fw
namespace Go.Fw
open Go.Proofs
set_option maxHeartbeats 1000000
set_option maxRecDepth 100000

theorem Compare_any (W0 : World) (a b : Value) (xs ys : List Int) (h : AHeap) (ha : RL isB h a xs) (hb : RL isB h b ys) : AC Try.prog W0 38 [a, b] h fun v h' => v = .int .i64 (Lib.compareBytes (u8s xs) (u8s ys)) ∧ h' = h := by
  intro m w args' R va
  obtain ⟨a', b', rfl⟩ : ∃ a' b', args' = [a', b'] := by
    match args', va.1 with
    | [a', b'], _ => exact ⟨a', b', rfl⟩
  have h1 := va.2 0 a a' rfl rfl
  have h2 := va.2 1 b b' rfl rfl
  have hrun := run_compare (P := Try.prog) R ha hb h1 h2
  generalize Lib.compareBytes (u8s xs) (u8s ys) = n at *
  refine Calls.mono (R := fun e w' => e = .returned (.int .i64 n) ∧ w' = w) ?_ ?_
  · go_enter Try.func38, Try.ntmps38
    go_wp2
    rw [run_callFunc_extern Try.func47 (by kernel_rfl) (by kernel_rfl) (by kernel_rfl) (e := Extern.BytealgCompare.compare) (by kernel_rfl), hrun]
    simp only [Result.andThen]
    rw [Oper.upon_value]
    go_wp2
    go_ret
    exact ⟨rfl, rfl⟩
  · rintro e w' ⟨rfl, rfl⟩
    exact ⟨_, _, m, h, rfl, R, fun _ _ => rfl, Nat.le_refl _, .flat rfl, rfl, rfl⟩
end Go.Fw
namespace Go.Fw
open Go.Proofs
set_option maxHeartbeats 400000
set_option maxRecDepth 10000

theorem wfl0 (a : Addr) : aField Try.prog 72 (.pointer (some a)) 0 = some (.pointer (some (aadd a 0))) := rfl
theorem wfl1 (a : Addr) : aField Try.prog 72 (.pointer (some a)) 1 = some (.pointer (some (aadd a 3))) := rfl
theorem wfl2 (a : Addr) : aField Try.prog 72 (.pointer (some a)) 2 = some (.pointer (some (aadd a 4))) := rfl
theorem wfl3 (a : Addr) : aField Try.prog 72 (.pointer (some a)) 3 = some (.pointer (some (aadd a 5))) := rfl
theorem wbuild (r ve d pl : Value) {n : Nat} (hp : isSl pl n) : aBuild Try.prog 72 [(0, .agg #[r, ve, d]), (1, pl)] = some (.agg #[r, ve, d, pl, .int .i64 0, .slice none 0 0]) := by
  obtain ⟨a, c, rfl, _⟩ := hp
  kernel_rfl

def wordsM (S : SkinM) : Nat := (S.rot.map fun c => 2 + 2 * c.length).sum
theorem wordsM_snoc (l : List (List Int)) (i : Nat) (hi : i < l.length) : ((l.take (i + 1)).map fun c => 2 + 2 * c.length).sum = ((l.take i).map fun c => 2 + 2 * c.length).sum + (2 + 2 * l[i].length) := by
  rw [List.take_succ_eq_append_getElem hi, List.map_append, List.sum_append]; simp
theorem wordsM_le (l : List (List Int)) (hl : ∀ c ∈ l, c.length ≤ 300) : (l.map fun c => 2 + 2 * c.length).sum ≤ 602 * l.length := by
  induction l with
  | nil => simp
  | cons c l ih => have := hl c (by simp); have := ih fun c hc => hl c (by simp [hc]); simp; omega

theorem newWalker_any (W0 : World) (r ve d : Value) (S : SkinM) (h : AHeap) (hs : SkinR h r ve d S) (hr : S.rot.length ≤ 300) (hc : ∀ c ∈ S.rot, c.length ≤ 300) :
    AC Try.prog W0 26 [.agg #[r, ve, d]] h fun v h' => ∃ a pl, v = .pointer (some ⟨a, 0, none⟩) ∧ h'.own a = some (.cells [r, ve, d, pl, .int .i64 (wordsM S), .slice none 0 0]) ∧ Le h (rem [a] h') ∧ ∀ fs : List Nat, (∀ i ∈ fs, h.own i ≠ none) → RL (RL isI) (rem (a :: fs) h') pl (placesM S.rot) := by
  refine AC.vc (fn := Try.f26) (c := _) ⟨Try.func26, rfl, by decide⟩ Try.ntmps26 Try.results26 (by simp) fun hwf => ?_
  simp only [argFrame, argFrom, Nat.reduceAdd]
  have hbox := aBox3 (h := h) hs.rot.one hs.vert.one hs.dart.one
  have hle0 : Le h (h.alloc (.cells [r, ve, d])) := (Le.refl _).alloc hwf _
  have ho1 : (h.alloc (.cells [r, ve, d])).own h.next = some (.cells [r, ve, d]) := AHeap.own_alloc_eq _ _
  have hw1 : WF (h.alloc (.cells [r, ve, d])) := hwf.alloc _
  generalize h.alloc (.cells [r, ve, d]) = h1 at *
  have hs1 := hs.le hle0
  have l0 : ∀ hh, Le h1 hh → aload Try.prog hh 23 ⟨h.next, 0, none⟩ = some r := fun hh e => aload_one Try.underlying23 rfl (e.own _ _ ho1)
  have lA : ∀ hh, Le h1 hh → aload Try.prog hh 27 ⟨h.next, 0, none⟩ = some (.agg #[r, ve, d]) := fun hh e => by
    rw [aload_own Try.underlying27 rfl (by kernel_rfl : tsize Try.prog 27 = 3) (e.own _ _ ho1) (by simp)]; rfl
  have lA1 := lA h1 (Le.refl _)
  have n0 := fun h' => hs1.rot.len (P := Try.prog) Try.underlying23 h'
  have l0' := l0 h1 (Le.refl _)
  simp only [beq_dec, fst_mk, snd_mk, VK_skip, VK_ret, VK_exit, VK_seq, VK_block, VK_region, VK_draw, VK_cond, KCond_true, KCond_false, VK_loop, KN_nil, KN_seq, KN_blk, KX_ret_nil, KX_ret_seq, KX_ret_blk, KX_exit_nil, KX_exit_seq, KX_exit_blk, KE_normal, KE_ret, KE_exit, KO_nil, KO_cons, KO_app_cons, KO_app_nil, KO1_true, KO1_false, KO2_true, KO2_false, KO3_some, KO4_some, loopQ_ret, loopQ_exit, wantA, isCall, stepOp, evalO, evalL, evalP, evalM, putDst, flat, cond_true, cond_false, Nat.reduceLT, ↓reduceIte, Trie.get_set, Nat.reduceEqDiff, Nat.one_ne_zero, Nat.zero_ne_one, aBuiltin, abinG, guardFree, abin, aInt, aUn, aNilCheck, retQ, retQ1, aresults, aresultL, aresult, mkF, undefV, reduceCtorEq, List.getElem?_toArray, List.append_eq, List.cons_append, List.nil_append, List.getElem?_cons_zero, List.getElem?_cons_succ, Option.bind_some, Bool.not_true, Bool.not_false, beq_self_eq_true, aExtract, calleeOf, awrap_u8, Bool.true_beq, Bool.false_beq, beq_true, beq_false, decide_true, decide_false, Bool.not_not, Bool.and_true, Bool.true_and, Bool.and_false, Bool.false_and, hbox]
  refine KDraw.intro mixed (.fl 0 (.fl 1 (.fl 2 (.ch 3 [2] (.fl 4 (.ch 5 [4] (.fl 6 (.done)) .no)) .no)))) (by kernel_rfl) ?_
  simp only [beq_dec, fst_mk, snd_mk, VK_skip, VK_ret, VK_exit, VK_seq, VK_block, VK_region, VK_draw, VK_cond, KCond_true, KCond_false, VK_loop, KN_nil, KN_seq, KN_blk, KX_ret_nil, KX_ret_seq, KX_ret_blk, KX_exit_nil, KX_exit_seq, KX_exit_blk, KE_normal, KE_ret, KE_exit, KO_nil, KO_cons, KO_app_cons, KO_app_nil, KO1_true, KO1_false, KO2_true, KO2_false, KO3_some, KO4_some, loopQ_ret, loopQ_exit, wantA, isCall, stepOp, evalO, evalL, evalP, evalM, putDst, flat, cond_true, cond_false, Nat.reduceLT, ↓reduceIte, Trie.get_set, Nat.reduceEqDiff, Nat.one_ne_zero, Nat.zero_ne_one, aBuiltin, abinG, guardFree, abin, aInt, aUn, aNilCheck, retQ, retQ1, aresults, aresultL, aresult, mkF, undefV, reduceCtorEq, List.getElem?_toArray, List.append_eq, List.cons_append, List.nil_append, List.getElem?_cons_zero, List.getElem?_cons_succ, Option.bind_some, Bool.not_true, Bool.not_false, beq_self_eq_true, aExtract, calleeOf, awrap_u8, Bool.true_beq, Bool.false_beq, beq_true, beq_false, decide_true, decide_false, Bool.not_not, Bool.and_true, Bool.true_and, Bool.and_false, Bool.false_and, Nat.reduceBEq, Bool.or_self, Bool.false_eq_true, KD_done, KD_no, KD_fl, KF1_some, KF2_true, KF2_false, KF3_some, KF4_some, KD_ch, KG1_some, KG2_true, KG2_false, KG3_true, KG3_false, KG4_some, KG5_some, HoldsAll, Holds_eq, H1_some, H2_true, H2_false, H3_some, HD_some, HD_none, List.filter_nil, List.filter_cons, List.contains_cons, List.contains_nil, Bool.or_false, Bool.false_or, Bool.true_or, Bool.or_true, true_and, and_true, lA1, fld0, aadd, Nat.zero_add, l0']
  refine KGCall.intro (by simp only [beq_dec, fst_mk, snd_mk, VK_skip, VK_ret, VK_exit, VK_seq, VK_block, VK_region, VK_draw, VK_cond, KCond_true, KCond_false, VK_loop, KN_nil, KN_seq, KN_blk, KX_ret_nil, KX_ret_seq, KX_ret_blk, KX_exit_nil, KX_exit_seq, KX_exit_blk, KE_normal, KE_ret, KE_exit, KO_nil, KO_cons, KO_app_cons, KO_app_nil, KO1_true, KO1_false, KO2_true, KO2_false, KO3_some, KO4_some, loopQ_ret, loopQ_exit, wantA, isCall, stepOp, evalO, evalL, evalP, evalM, putDst, flat, cond_true, cond_false, Nat.reduceLT, ↓reduceIte, Trie.get_set, Nat.reduceEqDiff, Nat.one_ne_zero, Nat.zero_ne_one, aBuiltin, abinG, guardFree, abin, aInt, aUn, aNilCheck, retQ, retQ1, aresults, aresultL, aresult, mkF, undefV, reduceCtorEq, List.getElem?_toArray, List.append_eq, List.cons_append, List.nil_append, List.getElem?_cons_zero, List.getElem?_cons_succ, Option.bind_some, Bool.not_true, Bool.not_false, beq_self_eq_true, aExtract, calleeOf, awrap_u8, Bool.true_beq, Bool.false_beq, beq_true, beq_false, decide_true, decide_false, Bool.not_not, Bool.and_true, Bool.true_and, Bool.and_false, Bool.false_and] <;> rfl) ⟨Try.func35, rfl, by decide⟩ (places_any W0 r S.rot h1 hs1.rot hr hc) ?_
  rintro pl h2 hw2 ⟨hplf, hle2⟩
  have hpl : RL (RL isI) h2 pl (placesM S.rot) := hplf [] (by simp)
  have hbox2 : aBox h2 (.agg #[r, ve, d, pl, .int .i64 0, .slice none 0 0]) = some (.pointer (some ⟨h2.next, 0, none⟩), h2.alloc (.cells [r, ve, d, pl, .int .i64 0, .slice none 0 0])) := by
    simp [aBox, aNewRow, Value.cells, hs.rot.one, hs.vert.one, hs.dart.one, hpl.one]; simp [Value.oneCell']
  have hno : h2.own h2.next = none := (Le.refl h2).next hw2 (Nat.le_refl _)
  have ho3 : (h2.alloc (.cells [r, ve, d, pl, .int .i64 0, .slice none 0 0])).own h2.next = some (.cells [r, ve, d, pl, .int .i64 0, .slice none 0 0]) := AHeap.own_alloc_eq _ _
  have hle3 : Le h2 (h2.alloc (.cells [r, ve, d, pl, .int .i64 0, .slice none 0 0])) := (Le.refl _).alloc hw2 _
  have hw3 := hw2.alloc (.cells [r, ve, d, pl, .int .i64 0, .slice none 0 0])
  have lA2 := lA h2 hle2
  have l02 := l0 h2 hle2
  have lA3 := lA _ (hle2.trans hle3)
  have l03 := l0 _ (hle2.trans hle3)
  simp only [beq_dec, fst_mk, snd_mk, VK_skip, VK_ret, VK_exit, VK_seq, VK_block, VK_region, VK_draw, VK_cond, KCond_true, KCond_false, VK_loop, KN_nil, KN_seq, KN_blk, KX_ret_nil, KX_ret_seq, KX_ret_blk, KX_exit_nil, KX_exit_seq, KX_exit_blk, KE_normal, KE_ret, KE_exit, KO_nil, KO_cons, KO_app_cons, KO_app_nil, KO1_true, KO1_false, KO2_true, KO2_false, KO3_some, KO4_some, loopQ_ret, loopQ_exit, wantA, isCall, stepOp, evalO, evalL, evalP, evalM, putDst, flat, cond_true, cond_false, Nat.reduceLT, ↓reduceIte, Trie.get_set, Nat.reduceEqDiff, Nat.one_ne_zero, Nat.zero_ne_one, aBuiltin, abinG, guardFree, abin, aInt, aUn, aNilCheck, retQ, retQ1, aresults, aresultL, aresult, mkF, undefV, reduceCtorEq, List.getElem?_toArray, List.append_eq, List.cons_append, List.nil_append, List.getElem?_cons_zero, List.getElem?_cons_succ, Option.bind_some, Bool.not_true, Bool.not_false, beq_self_eq_true, aExtract, calleeOf, awrap_u8, Bool.true_beq, Bool.false_beq, beq_true, beq_false, decide_true, decide_false, Bool.not_not, Bool.and_true, Bool.true_and, Bool.and_false, Bool.false_and, Nat.reduceBEq, Bool.or_self, Bool.false_eq_true, KD_done, KD_no, KD_fl, KF1_some, KF2_true, KF2_false, KF3_some, KF4_some, KD_ch, KG1_some, KG2_true, KG2_false, KG3_true, KG3_false, KG4_some, KG5_some, HoldsAll, Holds_eq, H1_some, H2_true, H2_false, H3_some, HD_some, HD_none, List.filter_nil, List.filter_cons, List.contains_cons, List.contains_nil, Bool.or_false, Bool.false_or, Bool.true_or, Bool.or_true, true_and, and_true, wbuild r ve d pl hpl.sl, hbox2, lA2, lA3, fld0, aadd, Nat.zero_add, l02, l03]
  generalize h2.alloc (.cells [r, ve, d, pl, .int .i64 0, .slice none 0 0]) = h3 at *
  generalize hA : h2.next = a at *
  simp only [beq_dec, fst_mk, snd_mk, VK_skip, VK_ret, VK_exit, VK_seq, VK_block, VK_region, VK_draw, VK_cond, KCond_true, KCond_false, VK_loop, KN_nil, KN_seq, KN_blk, KX_ret_nil, KX_ret_seq, KX_ret_blk, KX_exit_nil, KX_exit_seq, KX_exit_blk, KE_normal, KE_ret, KE_exit, KO_nil, KO_cons, KO_app_cons, KO_app_nil, KO1_true, KO1_false, KO2_true, KO2_false, KO3_some, KO4_some, loopQ_ret, loopQ_exit, wantA, isCall, stepOp, evalO, evalL, evalP, evalM, putDst, flat, cond_true, cond_false, Nat.reduceLT, ↓reduceIte, Trie.get_set, Nat.reduceEqDiff, Nat.one_ne_zero, Nat.zero_ne_one, aBuiltin, abinG, guardFree, abin, aInt, aUn, aNilCheck, retQ, retQ1, aresults, aresultL, aresult, mkF, undefV, reduceCtorEq, List.getElem?_toArray, List.append_eq, List.cons_append, List.nil_append, List.getElem?_cons_zero, List.getElem?_cons_succ, Option.bind_some, Bool.not_true, Bool.not_false, beq_self_eq_true, aExtract, calleeOf, awrap_u8, Bool.true_beq, Bool.false_beq, beq_true, beq_false, decide_true, decide_false, Bool.not_not, Bool.and_true, Bool.true_and, Bool.and_false, Bool.false_and, fld0, aadd, Nat.zero_add, l03, n0]
  generalize hB : h.next = b at *
  refine KLoop.intro (fun k fr hh => ∃ (v : Nat), k = S.rot.length - v ∧ v ≤ S.rot.length ∧ fr = mkF [(3, .pointer (some ⟨a, 0, none⟩)), (13, r), (14, .int .i64 S.rot.length), (15, .int .i64 v)] ∧
      hh.own a = some (.cells [r, ve, d, pl, .int .i64 (((S.rot.take v).map fun c => 2 + 2 * c.length).sum : Nat), .slice none 0 0]) ∧ Le h2 hh)
    S.rot.length [(3, .pointer (some ⟨a, 0, none⟩)), (13, r), (14, .int .i64 S.rot.length), (15, .int .i64 (0 : Nat))] (by simp only [hasAll, beq_dec, fst_mk, snd_mk, VK_skip, VK_ret, VK_exit, VK_seq, VK_block, VK_region, VK_draw, VK_cond, KCond_true, KCond_false, VK_loop, KN_nil, KN_seq, KN_blk, KX_ret_nil, KX_ret_seq, KX_ret_blk, KX_exit_nil, KX_exit_seq, KX_exit_blk, KE_normal, KE_ret, KE_exit, KO_nil, KO_cons, KO_app_cons, KO_app_nil, KO1_true, KO1_false, KO2_true, KO2_false, KO3_some, KO4_some, loopQ_ret, loopQ_exit, wantA, isCall, stepOp, evalO, evalL, evalP, evalM, putDst, flat, cond_true, cond_false, Nat.reduceLT, ↓reduceIte, Trie.get_set, Nat.reduceEqDiff, Nat.one_ne_zero, Nat.zero_ne_one, aBuiltin, abinG, guardFree, abin, aInt, aUn, aNilCheck, retQ, retQ1, aresults, aresultL, aresult, mkF, undefV, reduceCtorEq, List.getElem?_toArray, List.append_eq, List.cons_append, List.nil_append, List.getElem?_cons_zero, List.getElem?_cons_succ, Option.bind_some, Bool.not_true, Bool.not_false, beq_self_eq_true, aExtract, calleeOf, awrap_u8, Bool.true_beq, Bool.false_beq, beq_true, beq_false, decide_true, decide_false, Bool.not_not, Bool.and_true, Bool.true_and, Bool.and_false, Bool.false_and]; simp) ⟨0, rfl, Nat.zero_le _, rfl, by simpa using ho3, hle3⟩ ?_
  rintro k fr hh hwh ⟨v, rfl, hv, rfl, ho, hle⟩
  simp only [beq_dec, fst_mk, snd_mk, VK_skip, VK_ret, VK_exit, VK_seq, VK_block, VK_region, VK_draw, VK_cond, KCond_true, KCond_false, VK_loop, KN_nil, KN_seq, KN_blk, KX_ret_nil, KX_ret_seq, KX_ret_blk, KX_exit_nil, KX_exit_seq, KX_exit_blk, KE_normal, KE_ret, KE_exit, KO_nil, KO_cons, KO_app_cons, KO_app_nil, KO1_true, KO1_false, KO2_true, KO2_false, KO3_some, KO4_some, loopQ_ret, loopQ_exit, wantA, isCall, stepOp, evalO, evalL, evalP, evalM, putDst, flat, cond_true, cond_false, Nat.reduceLT, ↓reduceIte, Trie.get_set, Nat.reduceEqDiff, Nat.one_ne_zero, Nat.zero_ne_one, aBuiltin, abinG, guardFree, abin, aInt, aUn, aNilCheck, retQ, retQ1, aresults, aresultL, aresult, mkF, undefV, reduceCtorEq, List.getElem?_toArray, List.append_eq, List.cons_append, List.nil_append, List.getElem?_cons_zero, List.getElem?_cons_succ, Option.bind_some, Bool.not_true, Bool.not_false, beq_self_eq_true, aExtract, calleeOf, awrap_u8, Bool.true_beq, Bool.false_beq, beq_true, beq_false, decide_true, decide_false, Bool.not_not, Bool.and_true, Bool.true_and, Bool.and_false, Bool.false_and]
  refine KCond.intro (fun ht => ?_) (fun hf => ?_)
  · have hvlt : v < S.rot.length := lt_t ht
    obtain ⟨u, hu1, hu2⟩ := hs1.rot.load' (P := Try.prog) Try.underlying31 rfl v hvlt
    have ad := hs1.rot.addr (P := Try.prog) Try.underlying23 Try.underlying31 (by kernel_rfl) (k := .i64) v hvlt
    have lu := fun h' => hu2.len (P := Try.prog) Try.underlying31 h'
    have hul : S.rot[v].length ≤ 300 := hc _ (List.getElem_mem _)
    have hsn := wordsM_snoc S.rot v hvlt
    have hsl : ((S.rot.take v).map fun c => 2 + 2 * c.length).sum ≤ 602 * 300 := by
      refine Nat.le_trans (wordsM_le (S.rot.take v) fun c hc' => hc c (List.mem_of_mem_take hc')) ?_
      simp; omega
    generalize hws : ((S.rot.take v).map fun c => 2 + 2 * c.length).sum = ws at *
    have lw : aload Try.prog hh 3 ⟨a, 4, none⟩ = some (.int .i64 (ws : Nat)) := aload_one Try.underlying3 rfl ho
    have st := aStore1 (P := Try.prog) (t := 3) (x := .int .i64 ((ws + (2 + 2 * S.rot[v].length) : Nat))) Try.underlying3 (by kernel_rfl) ho (off := 4) (by simp) rfl rfl
    have e1 : awrap .i64 (2 * (S.rot[v].length : Int)) = 2 * (S.rot[v].length : Int) := awrap_in _ (by omega) (by omega)
    have e2 : awrap .i64 (2 + 2 * (S.rot[v].length : Int)) = 2 + 2 * (S.rot[v].length : Int) := awrap_in _ (by omega) (by omega)
    have e3 : awrap .i64 ((ws : Int) + (2 + 2 * (S.rot[v].length : Int))) = ((ws + (2 + 2 * S.rot[v].length) : Nat) : Int) := by rw [awrap_in _ (by omega) (by omega)]; omega
    simp only [beq_dec, fst_mk, snd_mk, VK_skip, VK_ret, VK_exit, VK_seq, VK_block, VK_region, VK_draw, VK_cond, KCond_true, KCond_false, VK_loop, KN_nil, KN_seq, KN_blk, KX_ret_nil, KX_ret_seq, KX_ret_blk, KX_exit_nil, KX_exit_seq, KX_exit_blk, KE_normal, KE_ret, KE_exit, KO_nil, KO_cons, KO_app_cons, KO_app_nil, KO1_true, KO1_false, KO2_true, KO2_false, KO3_some, KO4_some, loopQ_ret, loopQ_exit, wantA, isCall, stepOp, evalO, evalL, evalP, evalM, putDst, flat, cond_true, cond_false, Nat.reduceLT, ↓reduceIte, Trie.get_set, Nat.reduceEqDiff, Nat.one_ne_zero, Nat.zero_ne_one, aBuiltin, abinG, guardFree, abin, aInt, aUn, aNilCheck, retQ, retQ1, aresults, aresultL, aresult, mkF, undefV, reduceCtorEq, List.getElem?_toArray, List.append_eq, List.cons_append, List.nil_append, List.getElem?_cons_zero, List.getElem?_cons_succ, Option.bind_some, Bool.not_true, Bool.not_false, beq_self_eq_true, aExtract, calleeOf, awrap_u8, Bool.true_beq, Bool.false_beq, beq_true, beq_false, decide_true, decide_false, Bool.not_not, Bool.and_true, Bool.true_and, Bool.and_false, Bool.false_and, ad, hu1 _ (hle2.trans hle), lu, wfl2, aadd, Nat.zero_add, lw, e1, e2, e3, st, awrap_succ v (by omega)]
    refine loop_again (S.rot.length - (v + 1)) [(3, .pointer (some ⟨a, 0, none⟩)), (13, r), (14, .int .i64 S.rot.length), (15, .int .i64 (v + 1 : Nat))] (by omega) (by simp only [hasAll, beq_dec, fst_mk, snd_mk, VK_skip, VK_ret, VK_exit, VK_seq, VK_block, VK_region, VK_draw, VK_cond, KCond_true, KCond_false, VK_loop, KN_nil, KN_seq, KN_blk, KX_ret_nil, KX_ret_seq, KX_ret_blk, KX_exit_nil, KX_exit_seq, KX_exit_blk, KE_normal, KE_ret, KE_exit, KO_nil, KO_cons, KO_app_cons, KO_app_nil, KO1_true, KO1_false, KO2_true, KO2_false, KO3_some, KO4_some, loopQ_ret, loopQ_exit, wantA, isCall, stepOp, evalO, evalL, evalP, evalM, putDst, flat, cond_true, cond_false, Nat.reduceLT, ↓reduceIte, Trie.get_set, Nat.reduceEqDiff, Nat.one_ne_zero, Nat.zero_ne_one, aBuiltin, abinG, guardFree, abin, aInt, aUn, aNilCheck, retQ, retQ1, aresults, aresultL, aresult, mkF, undefV, reduceCtorEq, List.getElem?_toArray, List.append_eq, List.cons_append, List.nil_append, List.getElem?_cons_zero, List.getElem?_cons_succ, Option.bind_some, Bool.not_true, Bool.not_false, beq_self_eq_true, aExtract, calleeOf, awrap_u8, Bool.true_beq, Bool.false_beq, beq_true, beq_false, decide_true, decide_false, Bool.not_not, Bool.and_true, Bool.true_and, Bool.and_false, Bool.false_and]; simp) ⟨v + 1, rfl, hvlt, rfl, ?_, hle.put _ hno⟩
    rw [AHeap.own_put_eq, hsn]; rfl
  · have hge : S.rot.length ≤ v := lt_f hf
    have hvv : v = S.rot.length := by omega
    subst hvv
    simp only [beq_dec, fst_mk, snd_mk, VK_skip, VK_ret, VK_exit, VK_seq, VK_block, VK_region, VK_draw, VK_cond, KCond_true, KCond_false, VK_loop, KN_nil, KN_seq, KN_blk, KX_ret_nil, KX_ret_seq, KX_ret_blk, KX_exit_nil, KX_exit_seq, KX_exit_blk, KE_normal, KE_ret, KE_exit, KO_nil, KO_cons, KO_app_cons, KO_app_nil, KO1_true, KO1_false, KO2_true, KO2_false, KO3_some, KO4_some, loopQ_ret, loopQ_exit, wantA, isCall, stepOp, evalO, evalL, evalP, evalM, putDst, flat, cond_true, cond_false, Nat.reduceLT, ↓reduceIte, Trie.get_set, Nat.reduceEqDiff, Nat.one_ne_zero, Nat.zero_ne_one, aBuiltin, abinG, guardFree, abin, aInt, aUn, aNilCheck, retQ, retQ1, aresults, aresultL, aresult, mkF, undefV, reduceCtorEq, List.getElem?_toArray, List.append_eq, List.cons_append, List.nil_append, List.getElem?_cons_zero, List.getElem?_cons_succ, Option.bind_some, Bool.not_true, Bool.not_false, beq_self_eq_true, aExtract, calleeOf, awrap_u8, Bool.true_beq, Bool.false_beq, beq_true, beq_false, decide_true, decide_false, Bool.not_not, Bool.and_true, Bool.true_and, Bool.and_false, Bool.false_and]
    rw [List.take_length] at ho
    have hle4 : Le h2 (rem [a] hh) := hle.of_none (by simp [hno])
    refine ⟨a, pl, rfl, ho, (hle0.trans hle2).trans hle4, fun fs hfs => ?_⟩
    have hp2 := hplf fs fun i hi => by
      obtain ⟨o, ho⟩ := Option.ne_none_iff_exists'.1 (hfs i hi)
      rw [hle0.own _ _ ho]; simp
    refine hp2.le (.RL .isI) (Le.rem hle.ext fun i o hoi hn => ⟨hle.own _ _ hoi, fun hm => ?_⟩)
    rcases List.mem_cons.1 hm with e | e
    · rw [e, hno] at hoi; cases hoi
    · exact hn e
end Go.Fw
