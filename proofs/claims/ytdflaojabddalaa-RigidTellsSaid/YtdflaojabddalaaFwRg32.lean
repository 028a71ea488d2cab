/- One of the texts of the layer and the walks: it proves what its theorems say of the functions of the seat, with no condition beyond theirs. -/
import Derived.Test.YtdflaojabddalaaFwRg25
import Derived.Test.YtdflaojabddalaaFwRg31
set_option linter.unusedSimpArgs false
set_option linter.unusedVariables false
namespace Go.Fw
open Go.Proofs
set_option maxHeartbeats 1000000
set_option maxRecDepth 10000

theorem four2_own (W0 : World) (n : Int) (h : AHeap) (h0 : 0 ≤ n) (h1 : n ≤ 4611686018427387904) : AC Try.prog W0 45 [.int .i64 n] h fun v h' => GB h' v (num4 n) ∧ Apart h v ∧ Le h h' := by
  refine AC.vc (fn := Try.f45) (c := _) ⟨Try.func45, rfl, by decide⟩ Try.ntmps45 Try.results45 (by simp) fun hwf => ?_
  simp only [argFrame, argFrom, Nat.reduceAdd]
  obtain ⟨e1, e2, e3, e4⟩ := num4_eq n h0
  have z1 : ¬ ((16777216 : Int) = 0) := by decide
  have z2 : ¬ ((65536 : Int) = 0) := by decide
  have z3 : ¬ ((256 : Int) = 0) := by decide
  have hb : ∀ a b c d : Int, aBuildSlice Try.prog h 34 4 [(0, .int .u8 a), (1, .int .u8 b), (2, .int .u8 c), (3, .int .u8 d)] = some (.slice (some ⟨h.next, 0, none⟩) 4 4, h.alloc (.cells [.int .u8 a, .int .u8 b, .int .u8 c, .int .u8 d])) := fun _ _ _ _ => rfl
  have w1 : ∀ k : Int, 0 < k → awrap .i64 (n.tdiv k) = n.tdiv k := fun k hk => by
    rw [Int.tdiv_eq_ediv_of_nonneg h0]
    exact awrap_in _ (Int.ediv_nonneg h0 (by omega)) (Int.le_trans (Int.ediv_le_self _ h0) h1)
  simp only [beq_dec, fst_mk, snd_mk, VK_skip, VK_ret, VK_exit, VK_seq, VK_block, VK_region, VK_draw, VK_cond, KCond_true, KCond_false, VK_loop, KN_nil, KN_seq, KN_blk, KX_ret_nil, KX_ret_seq, KX_ret_blk, KX_exit_nil, KX_exit_seq, KX_exit_blk, KE_normal, KE_ret, KE_exit, KO_nil, KO_cons, KO_app_cons, KO_app_nil, KO1_true, KO1_false, KO2_true, KO2_false, KO3_some, KO4_some, loopQ_ret, loopQ_exit, wantA, isCall, stepOp, evalO, evalL, evalP, evalM, putDst, flat, cond_true, cond_false, Nat.reduceLT, ↓reduceIte, Trie.get_set, Nat.reduceEqDiff, Nat.one_ne_zero, Nat.zero_ne_one, aBuiltin, abinG, guardFree, abin, aInt, aUn, aNilCheck, retQ, retQ1, aresults, aresultL, aresult, mkF, undefV, reduceCtorEq, List.getElem?_toArray, List.append_eq, List.cons_append, List.nil_append, List.getElem?_cons_zero, List.getElem?_cons_succ, Option.bind_some, Bool.not_true, Bool.not_false, beq_self_eq_true, aExtract, calleeOf, awrap_u8, Bool.true_beq, Bool.false_beq, beq_true, beq_false, decide_true, decide_false, Bool.not_not, Bool.and_true, Bool.true_and, Bool.and_false, Bool.false_and, z1, z2, z3, aConvert, Try.underlying3, Try.underlying5, hb, w1 16777216 (by decide), w1 65536 (by decide), w1 256 (by decide), e1, e2, e3, e4, Int.emod_emod]
  exact ⟨⟨GS.full (AHeap.own_alloc_eq _ _) rfl (by decide), num4_rng n⟩, fun b hb => by simp [blk] at hb; subst hb; exact (Le.refl h).next hwf (Nat.le_refl _), (Le.refl h).alloc hwf _⟩

/- the same, of layer 17 -/
theorem four_own (W0 : World) (n : Int) (h : AHeap) (h0 : 0 ≤ n) (h1 : n ≤ 4611686018427387904) : AC Try.prog W0 29 [.int .i64 n] h fun v h' => GB h' v (num4 n) ∧ Apart h v ∧ Le h h' := by
  refine AC.vc (fn := Try.f29) (c := _) ⟨Try.func29, rfl, by decide⟩ Try.ntmps29 Try.results29 (by simp) fun hwf => ?_
  simp only [argFrame, argFrom, Nat.reduceAdd]
  obtain ⟨e1, e2, e3, e4⟩ := num4_eq n h0
  have z1 : ¬ ((16777216 : Int) = 0) := by decide
  have z2 : ¬ ((65536 : Int) = 0) := by decide
  have z3 : ¬ ((256 : Int) = 0) := by decide
  have hb : ∀ a b c d : Int, aBuildSlice Try.prog h 34 4 [(0, .int .u8 a), (1, .int .u8 b), (2, .int .u8 c), (3, .int .u8 d)] = some (.slice (some ⟨h.next, 0, none⟩) 4 4, h.alloc (.cells [.int .u8 a, .int .u8 b, .int .u8 c, .int .u8 d])) := fun _ _ _ _ => rfl
  have w1 : ∀ k : Int, 0 < k → awrap .i64 (n.tdiv k) = n.tdiv k := fun k hk => by
    rw [Int.tdiv_eq_ediv_of_nonneg h0]
    exact awrap_in _ (Int.ediv_nonneg h0 (by omega)) (Int.le_trans (Int.ediv_le_self _ h0) h1)
  simp only [beq_dec, fst_mk, snd_mk, VK_skip, VK_ret, VK_exit, VK_seq, VK_block, VK_region, VK_draw, VK_cond, KCond_true, KCond_false, VK_loop, KN_nil, KN_seq, KN_blk, KX_ret_nil, KX_ret_seq, KX_ret_blk, KX_exit_nil, KX_exit_seq, KX_exit_blk, KE_normal, KE_ret, KE_exit, KO_nil, KO_cons, KO_app_cons, KO_app_nil, KO1_true, KO1_false, KO2_true, KO2_false, KO3_some, KO4_some, loopQ_ret, loopQ_exit, wantA, isCall, stepOp, evalO, evalL, evalP, evalM, putDst, flat, cond_true, cond_false, Nat.reduceLT, ↓reduceIte, Trie.get_set, Nat.reduceEqDiff, Nat.one_ne_zero, Nat.zero_ne_one, aBuiltin, abinG, guardFree, abin, aInt, aUn, aNilCheck, retQ, retQ1, aresults, aresultL, aresult, mkF, undefV, reduceCtorEq, List.getElem?_toArray, List.append_eq, List.cons_append, List.nil_append, List.getElem?_cons_zero, List.getElem?_cons_succ, Option.bind_some, Bool.not_true, Bool.not_false, beq_self_eq_true, aExtract, calleeOf, awrap_u8, Bool.true_beq, Bool.false_beq, beq_true, beq_false, decide_true, decide_false, Bool.not_not, Bool.and_true, Bool.true_and, Bool.and_false, Bool.false_and, z1, z2, z3, aConvert, Try.underlying3, Try.underlying5, hb, w1 16777216 (by decide), w1 65536 (by decide), w1 256 (by decide), e1, e2, e3, e4, Int.emod_emod]
  exact ⟨⟨GS.full (AHeap.own_alloc_eq _ _) rfl (by decide), num4_rng n⟩, fun b hb => by simp [blk] at hb; subst hb; exact (Le.refl h).next hwf (Nat.le_refl _), (Le.refl h).alloc hwf _⟩

theorem GB.append {h : AHeap} {cs v : Value} {C xs : List Int} (g : GB h cs C) (hv : RL isB h v xs) (hn : C.length + xs.length ≤ 100000000) :
    ∃ cs' h1, aAppend Try.prog h 34 34 cs v = some (cs', h1) ∧ GB h1 cs' (C ++ xs) ∧ ∀ f, WF h → Le f h → Apart f cs → Le f h1 ∧ Apart f cs' := by
  obtain ⟨cs', h1, e, hg1, hf⟩ := g.1.append (P := Try.prog) (t := 34) (xt := 34) (by kernel_rfl) (fun e he => hv.cellsB.1.cs.src he) (bytes_one C) (bytes_one xs) (by simp) (by simp; omega)
  exact ⟨cs', h1, e, ⟨by simpa using hg1, g.2.append hv.cellsB.2⟩, hf⟩

theorem bytes_pre (ws : List (List Int)) (i : Nat) : (bytesM (ws.take i)).length ≤ (bytesM ws).length := by
  have : bytesM ws = bytesM (ws.take i) ++ bytesM (ws.drop i) := by
    conv => lhs; rw [← List.take_append_drop i ws]
    simp only [bytesM, List.flatMap_append]
  rw [this, List.length_append]; omega

theorem RefBytes_any (W0 : World) (l : Value) (ws : List (List Int)) (h : AHeap) (hl : RL (RL isB) h l ws) (hn : (bytesM ws).length ≤ 1000000) (hw : ws.length ≤ 1000000) :
    AC Try.prog W0 31 [l] h fun x h' => GB h' x (num4 ws.length ++ bytesM ws) ∧ Apart h x ∧ Le h h' := by
  refine AC.vc (fn := Try.f31) (c := _) ⟨Try.func31, rfl, by decide⟩ Try.ntmps31 Try.results31 (by simp) fun hwf => ?_
  simp only [argFrame, argFrom, Nat.reduceAdd]
  have nl := fun h' => hl.len (P := Try.prog) Try.underlying24 h'
  simp only [beq_dec, fst_mk, snd_mk, VK_skip, VK_ret, VK_exit, VK_seq, VK_block, VK_region, VK_draw, VK_cond, KCond_true, KCond_false, VK_loop, KN_nil, KN_seq, KN_blk, KX_ret_nil, KX_ret_seq, KX_ret_blk, KX_exit_nil, KX_exit_seq, KX_exit_blk, KE_normal, KE_ret, KE_exit, KO_nil, KO_cons, KO_app_cons, KO_app_nil, KO1_true, KO1_false, KO2_true, KO2_false, KO3_some, KO4_some, loopQ_ret, loopQ_exit, wantA, isCall, stepOp, evalO, evalL, evalP, evalM, putDst, flat, cond_true, cond_false, Nat.reduceLT, ↓reduceIte, Trie.get_set, Nat.reduceEqDiff, Nat.one_ne_zero, Nat.zero_ne_one, aBuiltin, abinG, guardFree, abin, aInt, aUn, aNilCheck, retQ, retQ1, aresults, aresultL, aresult, mkF, undefV, reduceCtorEq, List.getElem?_toArray, List.append_eq, List.cons_append, List.nil_append, List.getElem?_cons_zero, List.getElem?_cons_succ, Option.bind_some, Bool.not_true, Bool.not_false, beq_self_eq_true, aExtract, calleeOf, awrap_u8, Bool.true_beq, Bool.false_beq, beq_true, beq_false, decide_true, decide_false, Bool.not_not, Bool.and_true, Bool.true_and, Bool.and_false, Bool.false_and, nl]
  refine KCall.intro (by simp only [beq_dec, fst_mk, snd_mk, VK_skip, VK_ret, VK_exit, VK_seq, VK_block, VK_region, VK_draw, VK_cond, KCond_true, KCond_false, VK_loop, KN_nil, KN_seq, KN_blk, KX_ret_nil, KX_ret_seq, KX_ret_blk, KX_exit_nil, KX_exit_seq, KX_exit_blk, KE_normal, KE_ret, KE_exit, KO_nil, KO_cons, KO_app_cons, KO_app_nil, KO1_true, KO1_false, KO2_true, KO2_false, KO3_some, KO4_some, loopQ_ret, loopQ_exit, wantA, isCall, stepOp, evalO, evalL, evalP, evalM, putDst, flat, cond_true, cond_false, Nat.reduceLT, ↓reduceIte, Trie.get_set, Nat.reduceEqDiff, Nat.one_ne_zero, Nat.zero_ne_one, aBuiltin, abinG, guardFree, abin, aInt, aUn, aNilCheck, retQ, retQ1, aresults, aresultL, aresult, mkF, undefV, reduceCtorEq, List.getElem?_toArray, List.append_eq, List.cons_append, List.nil_append, List.getElem?_cons_zero, List.getElem?_cons_succ, Option.bind_some, Bool.not_true, Bool.not_false, beq_self_eq_true, aExtract, calleeOf, awrap_u8, Bool.true_beq, Bool.false_beq, beq_true, beq_false, decide_true, decide_false, Bool.not_not, Bool.and_true, Bool.true_and, Bool.and_false, Bool.false_and] <;> rfl) ⟨Try.func45, rfl, by decide⟩ (four2_own W0 ws.length h (by omega) (by omega)) ?_
  rintro o0 h1 wf1 ⟨g1, ap1, le1⟩
  simp only [beq_dec, fst_mk, snd_mk, VK_skip, VK_ret, VK_exit, VK_seq, VK_block, VK_region, VK_draw, VK_cond, KCond_true, KCond_false, VK_loop, KN_nil, KN_seq, KN_blk, KX_ret_nil, KX_ret_seq, KX_ret_blk, KX_exit_nil, KX_exit_seq, KX_exit_blk, KE_normal, KE_ret, KE_exit, KO_nil, KO_cons, KO_app_cons, KO_app_nil, KO1_true, KO1_false, KO2_true, KO2_false, KO3_some, KO4_some, loopQ_ret, loopQ_exit, wantA, isCall, stepOp, evalO, evalL, evalP, evalM, putDst, flat, cond_true, cond_false, Nat.reduceLT, ↓reduceIte, Trie.get_set, Nat.reduceEqDiff, Nat.one_ne_zero, Nat.zero_ne_one, aBuiltin, abinG, guardFree, abin, aInt, aUn, aNilCheck, retQ, retQ1, aresults, aresultL, aresult, mkF, undefV, reduceCtorEq, List.getElem?_toArray, List.append_eq, List.cons_append, List.nil_append, List.getElem?_cons_zero, List.getElem?_cons_succ, Option.bind_some, Bool.not_true, Bool.not_false, beq_self_eq_true, aExtract, calleeOf, awrap_u8, Bool.true_beq, Bool.false_beq, beq_true, beq_false, decide_true, decide_false, Bool.not_not, Bool.and_true, Bool.true_and, Bool.and_false, Bool.false_and]
  refine KLoop.intro (fun k fr hh => ∃ (i : Nat) (o : Value), k = ws.length - i ∧ i ≤ ws.length ∧ fr = mkF [(0, l), (3, o), (4, .int .i64 i)] ∧ GB hh o (num4 ws.length ++ bytesM (ws.take i)) ∧ Apart h o ∧ Le h hh)
    ws.length [(0, l), (3, o0), (4, .int .i64 (0 : Nat))] (by simp only [hasAll, beq_dec, fst_mk, snd_mk, VK_skip, VK_ret, VK_exit, VK_seq, VK_block, VK_region, VK_draw, VK_cond, KCond_true, KCond_false, VK_loop, KN_nil, KN_seq, KN_blk, KX_ret_nil, KX_ret_seq, KX_ret_blk, KX_exit_nil, KX_exit_seq, KX_exit_blk, KE_normal, KE_ret, KE_exit, KO_nil, KO_cons, KO_app_cons, KO_app_nil, KO1_true, KO1_false, KO2_true, KO2_false, KO3_some, KO4_some, loopQ_ret, loopQ_exit, wantA, isCall, stepOp, evalO, evalL, evalP, evalM, putDst, flat, cond_true, cond_false, Nat.reduceLT, ↓reduceIte, Trie.get_set, Nat.reduceEqDiff, Nat.one_ne_zero, Nat.zero_ne_one, aBuiltin, abinG, guardFree, abin, aInt, aUn, aNilCheck, retQ, retQ1, aresults, aresultL, aresult, mkF, undefV, reduceCtorEq, List.getElem?_toArray, List.append_eq, List.cons_append, List.nil_append, List.getElem?_cons_zero, List.getElem?_cons_succ, Option.bind_some, Bool.not_true, Bool.not_false, beq_self_eq_true, aExtract, calleeOf, awrap_u8, Bool.true_beq, Bool.false_beq, beq_true, beq_false, decide_true, decide_false, Bool.not_not, Bool.and_true, Bool.true_and, Bool.and_false, Bool.false_and]; simp) ⟨0, o0, rfl, Nat.zero_le _, rfl, by simpa [bytesM] using g1, ap1, le1⟩ ?_
  clear g1 ap1 le1
  rintro k fr hh hwh ⟨i, o, rfl, hi, rfl, g, ap, hle⟩
  simp only [beq_dec, fst_mk, snd_mk, VK_skip, VK_ret, VK_exit, VK_seq, VK_block, VK_region, VK_draw, VK_cond, KCond_true, KCond_false, VK_loop, KN_nil, KN_seq, KN_blk, KX_ret_nil, KX_ret_seq, KX_ret_blk, KX_exit_nil, KX_exit_seq, KX_exit_blk, KE_normal, KE_ret, KE_exit, KO_nil, KO_cons, KO_app_cons, KO_app_nil, KO1_true, KO1_false, KO2_true, KO2_false, KO3_some, KO4_some, loopQ_ret, loopQ_exit, wantA, isCall, stepOp, evalO, evalL, evalP, evalM, putDst, flat, cond_true, cond_false, Nat.reduceLT, ↓reduceIte, Trie.get_set, Nat.reduceEqDiff, Nat.one_ne_zero, Nat.zero_ne_one, aBuiltin, abinG, guardFree, abin, aInt, aUn, aNilCheck, retQ, retQ1, aresults, aresultL, aresult, mkF, undefV, reduceCtorEq, List.getElem?_toArray, List.append_eq, List.cons_append, List.nil_append, List.getElem?_cons_zero, List.getElem?_cons_succ, Option.bind_some, Bool.not_true, Bool.not_false, beq_self_eq_true, aExtract, calleeOf, awrap_u8, Bool.true_beq, Bool.false_beq, beq_true, beq_false, decide_true, decide_false, Bool.not_not, Bool.and_true, Bool.true_and, Bool.and_false, Bool.false_and, nl]
  have hp := bytes_pre ws i
  refine KCond.intro (fun ht => ?_) (fun hf => ?_)
  · have hilt : i < ws.length := lt_t ht
    have hp1 := bytes_pre ws (i + 1)
    have htake : ws.take (i + 1) = ws.take i ++ [ws[i]] := List.take_succ_eq_append_getElem hilt
    have hbs : bytesM (ws.take (i + 1)) = bytesM (ws.take i) ++ (num4 ws[i].length ++ ws[i]) := by rw [htake]; simp only [bytesM, List.flatMap_append, List.flatMap_cons, List.flatMap_nil, List.append_nil, wordB]
    rw [hbs] at hp1
    simp only [List.length_append, num4_length] at hp1
    obtain ⟨u, hu1, hu2⟩ := hl.load' (P := Try.prog) Try.underlying34 rfl i hilt
    have ad := hl.addr (P := Try.prog) Try.underlying24 Try.underlying34 (by kernel_rfl) (k := .i64) i hilt
    have lu := fun h' => hu2.len (P := Try.prog) Try.underlying34 h'
    simp only [beq_dec, fst_mk, snd_mk, VK_skip, VK_ret, VK_exit, VK_seq, VK_block, VK_region, VK_draw, VK_cond, KCond_true, KCond_false, VK_loop, KN_nil, KN_seq, KN_blk, KX_ret_nil, KX_ret_seq, KX_ret_blk, KX_exit_nil, KX_exit_seq, KX_exit_blk, KE_normal, KE_ret, KE_exit, KO_nil, KO_cons, KO_app_cons, KO_app_nil, KO1_true, KO1_false, KO2_true, KO2_false, KO3_some, KO4_some, loopQ_ret, loopQ_exit, wantA, isCall, stepOp, evalO, evalL, evalP, evalM, putDst, flat, cond_true, cond_false, Nat.reduceLT, ↓reduceIte, Trie.get_set, Nat.reduceEqDiff, Nat.one_ne_zero, Nat.zero_ne_one, aBuiltin, abinG, guardFree, abin, aInt, aUn, aNilCheck, retQ, retQ1, aresults, aresultL, aresult, mkF, undefV, reduceCtorEq, List.getElem?_toArray, List.append_eq, List.cons_append, List.nil_append, List.getElem?_cons_zero, List.getElem?_cons_succ, Option.bind_some, Bool.not_true, Bool.not_false, beq_self_eq_true, aExtract, calleeOf, awrap_u8, Bool.true_beq, Bool.false_beq, beq_true, beq_false, decide_true, decide_false, Bool.not_not, Bool.and_true, Bool.true_and, Bool.and_false, Bool.false_and, ad, hu1 _ hle, lu]
    refine KCall.intro (by simp only [beq_dec, fst_mk, snd_mk, VK_skip, VK_ret, VK_exit, VK_seq, VK_block, VK_region, VK_draw, VK_cond, KCond_true, KCond_false, VK_loop, KN_nil, KN_seq, KN_blk, KX_ret_nil, KX_ret_seq, KX_ret_blk, KX_exit_nil, KX_exit_seq, KX_exit_blk, KE_normal, KE_ret, KE_exit, KO_nil, KO_cons, KO_app_cons, KO_app_nil, KO1_true, KO1_false, KO2_true, KO2_false, KO3_some, KO4_some, loopQ_ret, loopQ_exit, wantA, isCall, stepOp, evalO, evalL, evalP, evalM, putDst, flat, cond_true, cond_false, Nat.reduceLT, ↓reduceIte, Trie.get_set, Nat.reduceEqDiff, Nat.one_ne_zero, Nat.zero_ne_one, aBuiltin, abinG, guardFree, abin, aInt, aUn, aNilCheck, retQ, retQ1, aresults, aresultL, aresult, mkF, undefV, reduceCtorEq, List.getElem?_toArray, List.append_eq, List.cons_append, List.nil_append, List.getElem?_cons_zero, List.getElem?_cons_succ, Option.bind_some, Bool.not_true, Bool.not_false, beq_self_eq_true, aExtract, calleeOf, awrap_u8, Bool.true_beq, Bool.false_beq, beq_true, beq_false, decide_true, decide_false, Bool.not_not, Bool.and_true, Bool.true_and, Bool.and_false, Bool.false_and] <;> rfl) ⟨Try.func45, rfl, by decide⟩ (four2_own W0 ws[i].length hh (by omega) (by omega)) ?_
    rintro q h2 wf2 ⟨gq, apq, leq⟩
    obtain ⟨o2, h3, e3, g3, f3⟩ := (g.le leq).append (gq.rl) (by simp only [List.length_append, num4_length]; omega)
    obtain ⟨le3, ap3⟩ := f3 h wf2 (hle.trans leq) ap
    have wf3 := aAppend_wf wf2 e3
    obtain ⟨o3, h4, e4, g4, f4⟩ := g3.append (hu2.le .isB le3) (by simp only [List.length_append, num4_length]; omega)
    obtain ⟨le4, ap4⟩ := f4 h wf3 le3 ap3
    simp only [beq_dec, fst_mk, snd_mk, VK_skip, VK_ret, VK_exit, VK_seq, VK_block, VK_region, VK_draw, VK_cond, KCond_true, KCond_false, VK_loop, KN_nil, KN_seq, KN_blk, KX_ret_nil, KX_ret_seq, KX_ret_blk, KX_exit_nil, KX_exit_seq, KX_exit_blk, KE_normal, KE_ret, KE_exit, KO_nil, KO_cons, KO_app_cons, KO_app_nil, KO1_true, KO1_false, KO2_true, KO2_false, KO3_some, KO4_some, loopQ_ret, loopQ_exit, wantA, isCall, stepOp, evalO, evalL, evalP, evalM, putDst, flat, cond_true, cond_false, Nat.reduceLT, ↓reduceIte, Trie.get_set, Nat.reduceEqDiff, Nat.one_ne_zero, Nat.zero_ne_one, aBuiltin, abinG, guardFree, abin, aInt, aUn, aNilCheck, retQ, retQ1, aresults, aresultL, aresult, mkF, undefV, reduceCtorEq, List.getElem?_toArray, List.append_eq, List.cons_append, List.nil_append, List.getElem?_cons_zero, List.getElem?_cons_succ, Option.bind_some, Bool.not_true, Bool.not_false, beq_self_eq_true, aExtract, calleeOf, awrap_u8, Bool.true_beq, Bool.false_beq, beq_true, beq_false, decide_true, decide_false, Bool.not_not, Bool.and_true, Bool.true_and, Bool.and_false, Bool.false_and, e3, ad, hu1 _ le3, e4, awrap_succ i (by omega)]
    refine loop_again (ws.length - (i + 1)) [(0, l), (3, o3), (4, .int .i64 (i + 1 : Nat))] (by omega) (by simp only [hasAll, beq_dec, fst_mk, snd_mk, VK_skip, VK_ret, VK_exit, VK_seq, VK_block, VK_region, VK_draw, VK_cond, KCond_true, KCond_false, VK_loop, KN_nil, KN_seq, KN_blk, KX_ret_nil, KX_ret_seq, KX_ret_blk, KX_exit_nil, KX_exit_seq, KX_exit_blk, KE_normal, KE_ret, KE_exit, KO_nil, KO_cons, KO_app_cons, KO_app_nil, KO1_true, KO1_false, KO2_true, KO2_false, KO3_some, KO4_some, loopQ_ret, loopQ_exit, wantA, isCall, stepOp, evalO, evalL, evalP, evalM, putDst, flat, cond_true, cond_false, Nat.reduceLT, ↓reduceIte, Trie.get_set, Nat.reduceEqDiff, Nat.one_ne_zero, Nat.zero_ne_one, aBuiltin, abinG, guardFree, abin, aInt, aUn, aNilCheck, retQ, retQ1, aresults, aresultL, aresult, mkF, undefV, reduceCtorEq, List.getElem?_toArray, List.append_eq, List.cons_append, List.nil_append, List.getElem?_cons_zero, List.getElem?_cons_succ, Option.bind_some, Bool.not_true, Bool.not_false, beq_self_eq_true, aExtract, calleeOf, awrap_u8, Bool.true_beq, Bool.false_beq, beq_true, beq_false, decide_true, decide_false, Bool.not_not, Bool.and_true, Bool.true_and, Bool.and_false, Bool.false_and]; simp) ⟨i + 1, o3, rfl, hilt, rfl, ?_, ap4, le4⟩
    rw [hbs]
    simpa only [List.append_assoc] using g4
  · have hge : ws.length ≤ i := lt_f hf
    have hie : i = ws.length := by omega
    subst hie
    simp only [beq_dec, fst_mk, snd_mk, VK_skip, VK_ret, VK_exit, VK_seq, VK_block, VK_region, VK_draw, VK_cond, KCond_true, KCond_false, VK_loop, KN_nil, KN_seq, KN_blk, KX_ret_nil, KX_ret_seq, KX_ret_blk, KX_exit_nil, KX_exit_seq, KX_exit_blk, KE_normal, KE_ret, KE_exit, KO_nil, KO_cons, KO_app_cons, KO_app_nil, KO1_true, KO1_false, KO2_true, KO2_false, KO3_some, KO4_some, loopQ_ret, loopQ_exit, wantA, isCall, stepOp, evalO, evalL, evalP, evalM, putDst, flat, cond_true, cond_false, Nat.reduceLT, ↓reduceIte, Trie.get_set, Nat.reduceEqDiff, Nat.one_ne_zero, Nat.zero_ne_one, aBuiltin, abinG, guardFree, abin, aInt, aUn, aNilCheck, retQ, retQ1, aresults, aresultL, aresult, mkF, undefV, reduceCtorEq, List.getElem?_toArray, List.append_eq, List.cons_append, List.nil_append, List.getElem?_cons_zero, List.getElem?_cons_succ, Option.bind_some, Bool.not_true, Bool.not_false, beq_self_eq_true, aExtract, calleeOf, awrap_u8, Bool.true_beq, Bool.false_beq, beq_true, beq_false, decide_true, decide_false, Bool.not_not, Bool.and_true, Bool.true_and, Bool.and_false, Bool.false_and]
    rw [List.take_length] at g
    exact ⟨g, ap, hle⟩

theorem u8_eq {a b : Int} (ha : 0 ≤ a ∧ a < 256) (hb : 0 ≤ b ∧ b < 256) : UInt8.ofNat a.toNat = UInt8.ofNat b.toNat ↔ a = b := by
  constructor
  · intro h
    have := congrArg UInt8.toNat h
    simp only [UInt8.toNat_ofNat'] at this
    omega
  · rintro rfl; rfl
theorem bytesLess_lt : ∀ {xs ys : List Int}, okB xs → okB ys → Op.bytesLess (xs.map fun n => UInt8.ofNat n.toNat) (ys.map fun n => UInt8.ofNat n.toNat) = decide (ltL xs ys)
  | [], [], _, _ => (decide_eq_false (p := ltL [] []) ltL_nil).symm
  | a :: x, [], _, _ => (decide_eq_false (p := ltL (a :: x) []) ltL_nil).symm
  | [], b :: y, _, _ => (decide_eq_true (p := ltL [] (b :: y)) trivial).symm
  | a :: x, b :: y, hx, hy => by
    obtain ⟨ha, hx'⟩ := hx.cons
    obtain ⟨hb, hy'⟩ := hy.cons
    have ih := bytesLess_lt hx' hy'
    have h1 : (UInt8.ofNat a.toNat < UInt8.ofNat b.toNat) ↔ a < b := u8_lt ha hb
    have h2 := u8_eq ha hb
    simp only [List.map_cons, Op.bytesLess, ih, h1]
    rw [Bool.eq_iff_iff, decide_eq_true_iff]
    simp only [Bool.or_eq_true, decide_eq_true_eq, Bool.and_eq_true, beq_iff_eq, h2]
    exact Iff.rfl
theorem less_any (W0 : World) (a b : Value) (xs ys : List Int) (h : AHeap) (ha : RL isB h a xs) (hb : RL isB h b ys) : AC Try.prog W0 46 [a, b] h fun x h' => x = .bool (decide (ltL xs ys)) ∧ h' = h := by
  refine AC.vc (fn := Try.f46) (c := _) ⟨Try.func46, rfl, by decide⟩ Try.ntmps46 Try.results46 (by simp) fun hwf => ?_
  simp only [argFrame, argFrom, Nat.reduceAdd]
  have tx1 := ha.text (P := Try.prog) (d := 9) Try.underlying34 Try.underlying5 rfl Try.underlying9
  have tx2 := hb.text (P := Try.prog) (d := 9) Try.underlying34 Try.underlying5 rfl Try.underlying9
  simp only [beq_dec, fst_mk, snd_mk, VK_skip, VK_ret, VK_exit, VK_seq, VK_block, VK_region, VK_draw, VK_cond, KCond_true, KCond_false, VK_loop, KN_nil, KN_seq, KN_blk, KX_ret_nil, KX_ret_seq, KX_ret_blk, KX_exit_nil, KX_exit_seq, KX_exit_blk, KE_normal, KE_ret, KE_exit, KO_nil, KO_cons, KO_app_cons, KO_app_nil, KO1_true, KO1_false, KO2_true, KO2_false, KO3_some, KO4_some, loopQ_ret, loopQ_exit, wantA, isCall, stepOp, evalO, evalL, evalP, evalM, putDst, flat, cond_true, cond_false, Nat.reduceLT, ↓reduceIte, Trie.get_set, Nat.reduceEqDiff, Nat.one_ne_zero, Nat.zero_ne_one, aBuiltin, abinG, guardFree, abin, aInt, aUn, aNilCheck, retQ, retQ1, aresults, aresultL, aresult, mkF, undefV, reduceCtorEq, List.getElem?_toArray, List.append_eq, List.cons_append, List.nil_append, List.getElem?_cons_zero, List.getElem?_cons_succ, Option.bind_some, Bool.not_true, Bool.not_false, beq_self_eq_true, aExtract, calleeOf, awrap_u8, Bool.true_beq, Bool.false_beq, beq_true, beq_false, decide_true, decide_false, Bool.not_not, Bool.and_true, Bool.true_and, Bool.and_false, Bool.false_and, tx1, tx2, aStr, bytesOfInts_toList, bytesLess_lt ha.cellsB.2 hb.cellsB.2]
  exact ⟨trivial, trivial⟩
end Go.Fw
