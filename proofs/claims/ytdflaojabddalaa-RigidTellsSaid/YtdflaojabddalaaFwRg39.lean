/- One of the texts of the layer and the walks: it proves what its theorems say of the functions of the seat, with no condition beyond theirs. -/
import Derived.Test.YtdflaojabddalaaFwRg38
set_option linter.unusedSimpArgs false
set_option linter.unusedVariables false
namespace Go.Fw
open Go.Proofs
set_option maxHeartbeats 2000000
set_option maxRecDepth 10000

theorem minOf_iff {l : List Wd} {x : Wd} : minOf l x = true ↔ ∀ y ∈ l, ¬ ltL y.1 x.1 := by
  simp [minOf]
theorem least_exists : ∀ {l : List Wd}, l ≠ [] → ∃ x ∈ l, ∀ y ∈ l, ¬ ltL y.1 x.1
  | [], h => absurd rfl h
  | a :: l, _ => by
    by_cases hl : l = []
    · subst hl; exact ⟨a, by simp, fun y hy => by simp at hy; subst hy; exact ltL_irrefl _⟩
    · obtain ⟨x, hx, hmin⟩ := least_exists hl
      by_cases h : ltL a.1 x.1
      · refine ⟨a, by simp, fun y hy => ?_⟩
        rcases List.mem_cons.1 hy with rfl | hy
        · exact ltL_irrefl _
        · exact fun h' => hmin y hy (ltL_trans h' h)
      · refine ⟨x, by simp [hx], fun y hy => ?_⟩
        rcases List.mem_cons.1 hy with rfl | hy
        · exact h
        · exact hmin y hy
theorem step_least (l : List Wd) (x : Wd) : stepT (leastM l) x = leastM (l ++ [x]) := by
  have hsplit : leastM (l ++ [x]) = (l.filter (minOf (l ++ [x]))) ++ (if minOf (l ++ [x]) x then [x] else []) := by
    rw [leastM, List.filter_append]; congr 1
    cases h : minOf (l ++ [x]) x <;> simp [h]
  have hp : ∀ y, minOf (l ++ [x]) y = (minOf l y && !decide (ltL x.1 y.1)) := by intro y; simp [minOf]
  cases hL : leastM l with
  | nil =>
    have : l = [] := by
      by_cases h : l = []
      · exact h
      · obtain ⟨y, hy, hm⟩ := least_exists h
        have : y ∈ leastM l := List.mem_filter.2 ⟨hy, minOf_iff.2 hm⟩
        rw [hL] at this; cases this
    subst this
    have hx : minOf [x] x = true := minOf_iff.2 (by simpa using ltL_irrefl _)
    simp [stepT, leastM, hx]
  | cons y ys =>
    have hy : y ∈ leastM l := by rw [hL]; simp
    have hymem := (List.mem_filter.1 hy).1
    have hymin := minOf_iff.1 (List.mem_filter.1 hy).2
    have heq : ∀ z, minOf l z = true → z ∈ l → z.1 = y.1 := fun z hz hzl => by
      rcases ltL_total z.1 y.1 with h | h | h
      · exact absurd h (hymin z hzl)
      · exact h
      · exact absurd h (minOf_iff.1 hz y hymem)
    rw [hsplit]
    simp only [stepT]
    by_cases h1 : ltL y.1 x.1
    · have hx : minOf (l ++ [x]) x = false := by
        rw [Bool.eq_false_iff]; intro h
        exact minOf_iff.1 h y (by simp [hymem]) h1
      rw [if_pos h1, hx, ← hL]
      simp only [Bool.false_eq_true, if_false, List.append_nil, leastM]
      apply List.filter_congr
      intro z hz
      rw [hp]
      cases hm : minOf l z with
      | false => rfl
      | true =>
        have := heq z hm hz
        rw [this, decide_eq_false (fun h => ltL_asymm h h1)]; rfl
    · rw [if_neg h1]
      have hx : minOf (l ++ [x]) x = true := by
        rw [hp, decide_eq_false (ltL_irrefl _), Bool.not_false, Bool.and_true]
        refine minOf_iff.2 fun z hz h => ?_
        rcases ltL_total x.1 y.1 with h2 | h2 | h2
        · exact hymin z hz (ltL_trans h h2)
        · rw [h2] at h; exact hymin z hz h
        · exact h1 h2
      rw [hx, if_pos rfl]
      by_cases h2 : x.1 = y.1
      · rw [if_pos h2, ← hL, leastM]
        congr 1
        apply List.filter_congr
        intro z hz
        rw [hp]
        cases hm : minOf l z with
        | false => rfl
        | true =>
          have := heq z hm hz
          rw [this, h2, decide_eq_false (ltL_irrefl _)]; rfl
      · rw [if_neg h2]
        have h3 : ltL x.1 y.1 := by
          rcases ltL_total x.1 y.1 with h | h | h
          · exact h
          · exact absurd h h2
          · exact absurd h h1
        have : l.filter (minOf (l ++ [x])) = [] := by
          rw [List.filter_eq_nil_iff]
          intro z hz
          rw [hp]
          cases hm : minOf l z with
          | false => simp
          | true =>
            have := heq z hm hz
            rw [this, decide_eq_true h3]; simp
        rw [this]; rfl

theorem lT_least (S : SkinM) (v i : Nat) (l : List Wd) : lT S v i (leastM l) 2 = leastM (l ++ pairW S v i) := by
  simp only [lT]
  rw [step_least, step_least, pairW]
  simp [List.append_assoc]
theorem lT_nil (S : SkinM) (v i : Nat) : lT S v i [] 2 = leastM [codeW S false v i, codeW S true v i] := lT_least S v i []
theorem bestI_least (S : SkinM) (v : Nat) (l : List Wd) : ∀ i, bestI S v (leastM l) i = leastM (allI S v l i)
  | 0 => rfl
  | i + 1 => by rw [bestI, bestI_least S v l i, lT_least, allI]
theorem bestV_least (S : SkinM) : ∀ v, bestV S v = leastM (allV S v)
  | 0 => rfl
  | v + 1 => by rw [bestV, bestV_least S v, bestI_least, allV]

theorem SameWalks_same (W0 : World) (a b : Value) (l : List Wd) (h : AHeap) (ha : WalksR h a l) (hb : WalksR h b l) (hn : l.length ≤ 100000) (ho : ∀ x ∈ l, x.2.length ≤ 1000) : AC Try.prog W0 18 [a, b] h fun x h' => x = .bool true ∧ h' = h := by
  refine AC.vc (fn := Try.f18) (c := _) ⟨Try.func18, rfl, by decide⟩ Try.ntmps18 Try.results18 (by simp) fun hwf => ?_
  simp only [argFrame, argFrom, Nat.reduceAdd]
  have la := fun h' => ha.len h'
  have lb := fun h' => hb.len h'
  simp only [beq_dec, fst_mk, snd_mk, VK_skip, VK_ret, VK_exit, VK_seq, VK_block, VK_region, VK_draw, VK_cond, KCond_true, KCond_false, VK_loop, KN_nil, KN_seq, KN_blk, KX_ret_nil, KX_ret_seq, KX_ret_blk, KX_exit_nil, KX_exit_seq, KX_exit_blk, KE_normal, KE_ret, KE_exit, KO_nil, KO_cons, KO_app_cons, KO_app_nil, KO1_true, KO1_false, KO2_true, KO2_false, KO3_some, KO4_some, loopQ_ret, loopQ_exit, wantA, isCall, stepOp, evalO, evalL, evalP, evalM, putDst, flat, cond_true, cond_false, Nat.reduceLT, ↓reduceIte, Trie.get_set, Nat.reduceEqDiff, Nat.one_ne_zero, Nat.zero_ne_one, aBuiltin, abinG, guardFree, abin, aInt, aUn, aNilCheck, retQ, retQ1, aresults, aresultL, aresult, mkF, undefV, reduceCtorEq, List.getElem?_toArray, List.append_eq, List.cons_append, List.nil_append, List.getElem?_cons_zero, List.getElem?_cons_succ, Option.bind_some, Bool.not_true, Bool.not_false, beq_self_eq_true, aExtract, calleeOf, awrap_u8, Bool.true_beq, Bool.false_beq, beq_true, beq_false, decide_true, decide_false, Bool.not_not, Bool.and_true, Bool.true_and, Bool.and_false, Bool.false_and, la, lb, bne]
  refine KLoop.intro (fun k fr hh => ∃ (i : Nat), k = l.length - i ∧ i ≤ l.length ∧ hh = h ∧ fr = mkF [(0, a), (1, b), (12, .int .i64 l.length), (13, .int .i64 i)])
    l.length [(0, a), (1, b), (12, .int .i64 l.length), (13, .int .i64 (0 : Nat))] (by simp only [hasAll, beq_dec, fst_mk, snd_mk, VK_skip, VK_ret, VK_exit, VK_seq, VK_block, VK_region, VK_draw, VK_cond, KCond_true, KCond_false, VK_loop, KN_nil, KN_seq, KN_blk, KX_ret_nil, KX_ret_seq, KX_ret_blk, KX_exit_nil, KX_exit_seq, KX_exit_blk, KE_normal, KE_ret, KE_exit, KO_nil, KO_cons, KO_app_cons, KO_app_nil, KO1_true, KO1_false, KO2_true, KO2_false, KO3_some, KO4_some, loopQ_ret, loopQ_exit, wantA, isCall, stepOp, evalO, evalL, evalP, evalM, putDst, flat, cond_true, cond_false, Nat.reduceLT, ↓reduceIte, Trie.get_set, Nat.reduceEqDiff, Nat.one_ne_zero, Nat.zero_ne_one, aBuiltin, abinG, guardFree, abin, aInt, aUn, aNilCheck, retQ, retQ1, aresults, aresultL, aresult, mkF, undefV, reduceCtorEq, List.getElem?_toArray, List.append_eq, List.cons_append, List.nil_append, List.getElem?_cons_zero, List.getElem?_cons_succ, Option.bind_some, Bool.not_true, Bool.not_false, beq_self_eq_true, aExtract, calleeOf, awrap_u8, Bool.true_beq, Bool.false_beq, beq_true, beq_false, decide_true, decide_false, Bool.not_not, Bool.and_true, Bool.true_and, Bool.and_false, Bool.false_and]; simp) ⟨0, rfl, Nat.zero_le _, rfl, rfl⟩ ?_
  rintro k fr hh - ⟨i, rfl, hi, rfl, rfl⟩
  simp only [beq_dec, fst_mk, snd_mk, VK_skip, VK_ret, VK_exit, VK_seq, VK_block, VK_region, VK_draw, VK_cond, KCond_true, KCond_false, VK_loop, KN_nil, KN_seq, KN_blk, KX_ret_nil, KX_ret_seq, KX_ret_blk, KX_exit_nil, KX_exit_seq, KX_exit_blk, KE_normal, KE_ret, KE_exit, KO_nil, KO_cons, KO_app_cons, KO_app_nil, KO1_true, KO1_false, KO2_true, KO2_false, KO3_some, KO4_some, loopQ_ret, loopQ_exit, wantA, isCall, stepOp, evalO, evalL, evalP, evalM, putDst, flat, cond_true, cond_false, Nat.reduceLT, ↓reduceIte, Trie.get_set, Nat.reduceEqDiff, Nat.one_ne_zero, Nat.zero_ne_one, aBuiltin, abinG, guardFree, abin, aInt, aUn, aNilCheck, retQ, retQ1, aresults, aresultL, aresult, mkF, undefV, reduceCtorEq, List.getElem?_toArray, List.append_eq, List.cons_append, List.nil_append, List.getElem?_cons_zero, List.getElem?_cons_succ, Option.bind_some, Bool.not_true, Bool.not_false, beq_self_eq_true, aExtract, calleeOf, awrap_u8, Bool.true_beq, Bool.false_beq, beq_true, beq_false, decide_true, decide_false, Bool.not_not, Bool.and_true, Bool.true_and, Bool.and_false, Bool.false_and]
  refine KCond.intro (fun ht => ?_) (fun hf => ?_)
  · have hilt : i < l.length := lt_t ht
    obtain ⟨a1, p1, ix1, el1, rd1⟩ := ha.at (getElem?_of hilt)
    obtain ⟨a2, p2, ix2, el2, rd2⟩ := hb.at (getElem?_of hilt)
    obtain ⟨r1, s1, -⟩ := rd1 hh (Le.refl _)
    obtain ⟨r2, s2, -⟩ := rd2 hh (Le.refl _)
    have tx1 := (el1.1.rl).text (P := Try.prog) (d := 9) Try.underlying34 Try.underlying5 rfl Try.underlying9
    have tx2 := (el2.1.rl).text (P := Try.prog) (d := 9) Try.underlying34 Try.underlying5 rfl Try.underlying9
    simp only [beq_dec, fst_mk, snd_mk, VK_skip, VK_ret, VK_exit, VK_seq, VK_block, VK_region, VK_draw, VK_cond, KCond_true, KCond_false, VK_loop, KN_nil, KN_seq, KN_blk, KX_ret_nil, KX_ret_seq, KX_ret_blk, KX_exit_nil, KX_exit_seq, KX_exit_blk, KE_normal, KE_ret, KE_exit, KO_nil, KO_cons, KO_app_cons, KO_app_nil, KO1_true, KO1_false, KO2_true, KO2_false, KO3_some, KO4_some, loopQ_ret, loopQ_exit, wantA, isCall, stepOp, evalO, evalL, evalP, evalM, putDst, flat, cond_true, cond_false, Nat.reduceLT, ↓reduceIte, Trie.get_set, Nat.reduceEqDiff, Nat.one_ne_zero, Nat.zero_ne_one, aBuiltin, abinG, guardFree, abin, aInt, aUn, aNilCheck, retQ, retQ1, aresults, aresultL, aresult, mkF, undefV, reduceCtorEq, List.getElem?_toArray, List.append_eq, List.cons_append, List.nil_append, List.getElem?_cons_zero, List.getElem?_cons_succ, Option.bind_some, Bool.not_true, Bool.not_false, beq_self_eq_true, aExtract, calleeOf, awrap_u8, Bool.true_beq, Bool.false_beq, beq_true, beq_false, decide_true, decide_false, Bool.not_not, Bool.and_true, Bool.true_and, Bool.and_false, Bool.false_and]
    refine KDraw.intro mixed (.fl 0 (.fl 1 (.fl 2 (.fl 3 (.fl 4 (.fl 5 (.fl 6 (.fl 7 (.fl 8 (.fl 9 (.fl 10 (.fl 11 (.fl 12 (.fl 13 (.fl 14 (.fl 15 (.fl 16 (.fl 17 (.fl 18 (.fl 19 (.fl 20 (.fl 21 (.fl 22 (.fl 23 (.ch 24 [13, 18, 23] (.fl 25 (.fl 26 (.done))) .no))))))))))))))))))))))))) (by kernel_rfl) ?_
    simp only [beq_dec, fst_mk, snd_mk, VK_skip, VK_ret, VK_exit, VK_seq, VK_block, VK_region, VK_draw, VK_cond, KCond_true, KCond_false, VK_loop, KN_nil, KN_seq, KN_blk, KX_ret_nil, KX_ret_seq, KX_ret_blk, KX_exit_nil, KX_exit_seq, KX_exit_blk, KE_normal, KE_ret, KE_exit, KO_nil, KO_cons, KO_app_cons, KO_app_nil, KO1_true, KO1_false, KO2_true, KO2_false, KO3_some, KO4_some, loopQ_ret, loopQ_exit, wantA, isCall, stepOp, evalO, evalL, evalP, evalM, putDst, flat, cond_true, cond_false, Nat.reduceLT, ↓reduceIte, Trie.get_set, Nat.reduceEqDiff, Nat.one_ne_zero, Nat.zero_ne_one, aBuiltin, abinG, guardFree, abin, aInt, aUn, aNilCheck, retQ, retQ1, aresults, aresultL, aresult, mkF, undefV, reduceCtorEq, List.getElem?_toArray, List.append_eq, List.cons_append, List.nil_append, List.getElem?_cons_zero, List.getElem?_cons_succ, Option.bind_some, Bool.not_true, Bool.not_false, beq_self_eq_true, aExtract, calleeOf, awrap_u8, Bool.true_beq, Bool.false_beq, beq_true, beq_false, decide_true, decide_false, Bool.not_not, Bool.and_true, Bool.true_and, Bool.and_false, Bool.false_and, Nat.reduceBEq, Bool.or_self, Bool.false_eq_true, KD_done, KD_no, KD_fl, KF1_some, KF2_true, KF2_false, KF3_some, KF4_some, KD_ch, KG1_some, KG2_true, KG2_false, KG3_true, KG3_false, KG4_some, KG5_some, HoldsAll, Holds_eq, H1_some, H2_true, H2_false, H3_some, HD_some, HD_none, List.filter_nil, List.filter_cons, List.contains_cons, List.contains_nil, Bool.or_false, Bool.false_or, Bool.true_or, Bool.or_true, true_and, and_true, ix1, ix2, fw0, fw1, r1, r2, s1, s2, tx1, tx2, aStr]
    refine KGCall.intro (by simp only [beq_dec, fst_mk, snd_mk, VK_skip, VK_ret, VK_exit, VK_seq, VK_block, VK_region, VK_draw, VK_cond, KCond_true, KCond_false, VK_loop, KN_nil, KN_seq, KN_blk, KX_ret_nil, KX_ret_seq, KX_ret_blk, KX_exit_nil, KX_exit_seq, KX_exit_blk, KE_normal, KE_ret, KE_exit, KO_nil, KO_cons, KO_app_cons, KO_app_nil, KO1_true, KO1_false, KO2_true, KO2_false, KO3_some, KO4_some, loopQ_ret, loopQ_exit, wantA, isCall, stepOp, evalO, evalL, evalP, evalM, putDst, flat, cond_true, cond_false, Nat.reduceLT, ↓reduceIte, Trie.get_set, Nat.reduceEqDiff, Nat.one_ne_zero, Nat.zero_ne_one, aBuiltin, abinG, guardFree, abin, aInt, aUn, aNilCheck, retQ, retQ1, aresults, aresultL, aresult, mkF, undefV, reduceCtorEq, List.getElem?_toArray, List.append_eq, List.cons_append, List.nil_append, List.getElem?_cons_zero, List.getElem?_cons_succ, Option.bind_some, Bool.not_true, Bool.not_false, beq_self_eq_true, aExtract, calleeOf, awrap_u8, Bool.true_beq, Bool.false_beq, beq_true, beq_false, decide_true, decide_false, Bool.not_not, Bool.and_true, Bool.true_and, Bool.and_false, Bool.false_and] <;> rfl) ⟨Try.func24, rfl, by decide⟩ (sameInts_any W0 _ _ (ints l[i].2) (ints l[i].2) hh (RL.ofI el1.2.cs.rs) (RL.ofI el2.2.cs.rs) (by
      have h1 := ho _ (List.getElem_mem hilt)
      simp only [ints, List.length_map]; omega)) ?_
    rintro y h2 wf2 ⟨⟨bb, rfl, hbb⟩, rfl⟩
    obtain rfl : bb = true := hbb.2 rfl
    simp only [beq_dec, fst_mk, snd_mk, VK_skip, VK_ret, VK_exit, VK_seq, VK_block, VK_region, VK_draw, VK_cond, KCond_true, KCond_false, VK_loop, KN_nil, KN_seq, KN_blk, KX_ret_nil, KX_ret_seq, KX_ret_blk, KX_exit_nil, KX_exit_seq, KX_exit_blk, KE_normal, KE_ret, KE_exit, KO_nil, KO_cons, KO_app_cons, KO_app_nil, KO1_true, KO1_false, KO2_true, KO2_false, KO3_some, KO4_some, loopQ_ret, loopQ_exit, wantA, isCall, stepOp, evalO, evalL, evalP, evalM, putDst, flat, cond_true, cond_false, Nat.reduceLT, ↓reduceIte, Trie.get_set, Nat.reduceEqDiff, Nat.one_ne_zero, Nat.zero_ne_one, aBuiltin, abinG, guardFree, abin, aInt, aUn, aNilCheck, retQ, retQ1, aresults, aresultL, aresult, mkF, undefV, reduceCtorEq, List.getElem?_toArray, List.append_eq, List.cons_append, List.nil_append, List.getElem?_cons_zero, List.getElem?_cons_succ, Option.bind_some, Bool.not_true, Bool.not_false, beq_self_eq_true, aExtract, calleeOf, awrap_u8, Bool.true_beq, Bool.false_beq, beq_true, beq_false, decide_true, decide_false, Bool.not_not, Bool.and_true, Bool.true_and, Bool.and_false, Bool.false_and, Nat.reduceBEq, Bool.or_self, Bool.false_eq_true, KD_done, KD_no, KD_fl, KF1_some, KF2_true, KF2_false, KF3_some, KF4_some, KD_ch, KG1_some, KG2_true, KG2_false, KG3_true, KG3_false, KG4_some, KG5_some, HoldsAll, Holds_eq, H1_some, H2_true, H2_false, H3_some, HD_some, HD_none, List.filter_nil, List.filter_cons, List.contains_cons, List.contains_nil, Bool.or_false, Bool.false_or, Bool.true_or, Bool.or_true, true_and, and_true, ix1, ix2, fw0, fw1, r1, r2, s1, s2, tx1, tx2, aStr, awrap_succ i (by omega)]
    exact loop_again (l.length - (i + 1)) [(0, a), (1, b), (12, .int .i64 l.length), (13, .int .i64 (i + 1 : Nat))] (by omega) (by simp only [hasAll, beq_dec, fst_mk, snd_mk, VK_skip, VK_ret, VK_exit, VK_seq, VK_block, VK_region, VK_draw, VK_cond, KCond_true, KCond_false, VK_loop, KN_nil, KN_seq, KN_blk, KX_ret_nil, KX_ret_seq, KX_ret_blk, KX_exit_nil, KX_exit_seq, KX_exit_blk, KE_normal, KE_ret, KE_exit, KO_nil, KO_cons, KO_app_cons, KO_app_nil, KO1_true, KO1_false, KO2_true, KO2_false, KO3_some, KO4_some, loopQ_ret, loopQ_exit, wantA, isCall, stepOp, evalO, evalL, evalP, evalM, putDst, flat, cond_true, cond_false, Nat.reduceLT, ↓reduceIte, Trie.get_set, Nat.reduceEqDiff, Nat.one_ne_zero, Nat.zero_ne_one, aBuiltin, abinG, guardFree, abin, aInt, aUn, aNilCheck, retQ, retQ1, aresults, aresultL, aresult, mkF, undefV, reduceCtorEq, List.getElem?_toArray, List.append_eq, List.cons_append, List.nil_append, List.getElem?_cons_zero, List.getElem?_cons_succ, Option.bind_some, Bool.not_true, Bool.not_false, beq_self_eq_true, aExtract, calleeOf, awrap_u8, Bool.true_beq, Bool.false_beq, beq_true, beq_false, decide_true, decide_false, Bool.not_not, Bool.and_true, Bool.true_and, Bool.and_false, Bool.false_and]; simp) ⟨i + 1, rfl, hilt, rfl, rfl⟩
  · simp only [beq_dec, fst_mk, snd_mk, VK_skip, VK_ret, VK_exit, VK_seq, VK_block, VK_region, VK_draw, VK_cond, KCond_true, KCond_false, VK_loop, KN_nil, KN_seq, KN_blk, KX_ret_nil, KX_ret_seq, KX_ret_blk, KX_exit_nil, KX_exit_seq, KX_exit_blk, KE_normal, KE_ret, KE_exit, KO_nil, KO_cons, KO_app_cons, KO_app_nil, KO1_true, KO1_false, KO2_true, KO2_false, KO3_some, KO4_some, loopQ_ret, loopQ_exit, wantA, isCall, stepOp, evalO, evalL, evalP, evalM, putDst, flat, cond_true, cond_false, Nat.reduceLT, ↓reduceIte, Trie.get_set, Nat.reduceEqDiff, Nat.one_ne_zero, Nat.zero_ne_one, aBuiltin, abinG, guardFree, abin, aInt, aUn, aNilCheck, retQ, retQ1, aresults, aresultL, aresult, mkF, undefV, reduceCtorEq, List.getElem?_toArray, List.append_eq, List.cons_append, List.nil_append, List.getElem?_cons_zero, List.getElem?_cons_succ, Option.bind_some, Bool.not_true, Bool.not_false, beq_self_eq_true, aExtract, calleeOf, awrap_u8, Bool.true_beq, Bool.false_beq, beq_true, beq_false, decide_true, decide_false, Bool.not_not, Bool.and_true, Bool.true_and, Bool.and_false, Bool.false_and]
    exact ⟨trivial, trivial⟩
end Go.Fw
