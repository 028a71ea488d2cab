/- One of the texts of the layer and the walks: it proves what its theorems say of the functions of the seat, with no condition beyond theirs. -/
import Derived.Test.YtdflaojabddalaaFwRg36
set_option linter.unusedSimpArgs false
set_option linter.unusedVariables false
namespace Go.Fw
open Go.Proofs
set_option maxHeartbeats 2000000
set_option maxRecDepth 10000

/- one walk's result, kept in a box -/
theorem keep36 {h : AHeap} (hwf : WF h) {cv ov : Value} {n m : Nat} (h1 : isSl cv n) (h2 : isSl ov m) :
    ∃ ha hb, aAlloc Try.prog h 36 = some (.pointer (some ⟨h.next, 0, none⟩), ha) ∧ aStore Try.prog ha 36 (.pointer (some ⟨h.next, 0, none⟩)) (.agg #[cv, ov]) = some hb ∧ hb.own h.next = some (.cells [cv, ov]) ∧ Le h hb ∧ WF hb := by
  obtain ⟨ha, e1, le1, wf1, o1⟩ := alloc_f hwf [.slice none 0 0, .slice none 0 0]
  have nw : h.own h.next = none := (Le.refl h).next hwf (Nat.le_refl _)
  exact ⟨ha, _, by rw [alloc36, e1], store36 o1 h1 h2, AHeap.own_put_eq _ _ _, le1.put _ nw, wf1.put _ (wf1.lt o1)⟩

theorem WalkP.ok {S : SkinM} {mir : Bool} {v i : Int} {x : Value} {h' : AHeap} (w : WalkP S mir v i x h') (hr : RightS S) (hd : isDartM S.rot v i = true) : ∃ cv ov, x = .tuple #[.agg #[cv, ov], .int .i64 0] ∧ ElR h' (cv, ov) (codeW S mir v.toNat i.toNat) := by
  obtain ⟨cv, ov, e, rfl, ⟨-, -, rfl, a, b⟩ | ⟨hn, -⟩⟩ := w
  · exact ⟨cv, ov, rfl, a, b⟩
  · exact absurd ⟨hr, hd⟩ hn

theorem both_any (W0 : World) (r ve d : Value) (S : SkinM) (v i : Int) (h : AHeap) (hs : SkinR h r ve d S) (hm : SmallM S) (hr : RightS S) (hd : isDartM S.rot v i = true) :
    AC Try.prog W0 33 [.agg #[r, ve, d], .int .i64 v, .int .i64 i] h fun x h' => ∃ id vs, x = .slice (some ⟨id, 0, none⟩) 2 2 ∧ h.own id = none ∧ h'.own id = some (.cells (flat2 vs)) ∧ (∀ fs : List Nat, (∀ i ∈ fs, h.own i ≠ none) → ElsR (rem fs h') vs [codeW S false v.toNat i.toNat, codeW S true v.toNat i.toNat]) ∧ Le h h' := by
  refine AC.vc (fn := Try.f33) (c := _) ⟨Try.func33, rfl, by decide⟩ Try.ntmps33 Try.results33 (by simp) fun hwf => ?_
  simp only [argFrame, argFrom, Nat.reduceAdd]
  obtain ⟨h1, b1, le1, wf1, -, lA⟩ := aBoxS hwf hs
  generalize hb : h.next = b at *
  have lA1 := (lA h1 (Le.refl _)).1
  simp only [beq_dec, fst_mk, snd_mk, VK_skip, VK_ret, VK_exit, VK_seq, VK_block, VK_region, VK_draw, VK_cond, KCond_true, KCond_false, VK_loop, KN_nil, KN_seq, KN_blk, KX_ret_nil, KX_ret_seq, KX_ret_blk, KX_exit_nil, KX_exit_seq, KX_exit_blk, KE_normal, KE_ret, KE_exit, KO_nil, KO_cons, KO_app_cons, KO_app_nil, KO1_true, KO1_false, KO2_true, KO2_false, KO3_some, KO4_some, loopQ_ret, loopQ_exit, wantA, isCall, stepOp, evalO, evalL, evalP, evalM, putDst, flat, cond_true, cond_false, Nat.reduceLT, ↓reduceIte, Trie.get_set, Nat.reduceEqDiff, Nat.one_ne_zero, Nat.zero_ne_one, aBuiltin, abinG, guardFree, abin, aInt, aUn, aNilCheck, retQ, retQ1, aresults, aresultL, aresult, mkF, undefV, reduceCtorEq, List.getElem?_toArray, List.append_eq, List.cons_append, List.nil_append, List.getElem?_cons_zero, List.getElem?_cons_succ, Option.bind_some, Bool.not_true, Bool.not_false, beq_self_eq_true, aExtract, calleeOf, awrap_u8, Bool.true_beq, Bool.false_beq, beq_true, beq_false, decide_true, decide_false, Bool.not_not, Bool.and_true, Bool.true_and, Bool.and_false, Bool.false_and, b1, lA1]
  refine KCall.intro (by simp only [beq_dec, fst_mk, snd_mk, VK_skip, VK_ret, VK_exit, VK_seq, VK_block, VK_region, VK_draw, VK_cond, KCond_true, KCond_false, VK_loop, KN_nil, KN_seq, KN_blk, KX_ret_nil, KX_ret_seq, KX_ret_blk, KX_exit_nil, KX_exit_seq, KX_exit_blk, KE_normal, KE_ret, KE_exit, KO_nil, KO_cons, KO_app_cons, KO_app_nil, KO1_true, KO1_false, KO2_true, KO2_false, KO3_some, KO4_some, loopQ_ret, loopQ_exit, wantA, isCall, stepOp, evalO, evalL, evalP, evalM, putDst, flat, cond_true, cond_false, Nat.reduceLT, ↓reduceIte, Trie.get_set, Nat.reduceEqDiff, Nat.one_ne_zero, Nat.zero_ne_one, aBuiltin, abinG, guardFree, abin, aInt, aUn, aNilCheck, retQ, retQ1, aresults, aresultL, aresult, mkF, undefV, reduceCtorEq, List.getElem?_toArray, List.append_eq, List.cons_append, List.nil_append, List.getElem?_cons_zero, List.getElem?_cons_succ, Option.bind_some, Bool.not_true, Bool.not_false, beq_self_eq_true, aExtract, calleeOf, awrap_u8, Bool.true_beq, Bool.false_beq, beq_true, beq_false, decide_true, decide_false, Bool.not_not, Bool.and_true, Bool.true_and, Bool.and_false, Bool.false_and] <;> rfl) ⟨Try.func13, rfl, by decide⟩ (RefWalk_any W0 r ve d S v i false h1 (hs.le le1) hm) ?_
  rintro x h2 wf2 ⟨w1, le2, fr1⟩
  obtain ⟨c1, o1, rfl, el1⟩ := w1.ok hr hd
  obtain ⟨h3', h3, a3, s3, ow3, le3, wf3⟩ := keep36 wf2 el1.1.1.cs.sl el1.2.cs.sl
  have lA3 := (lA h3 (le2.trans le3)).1
  simp only [beq_dec, fst_mk, snd_mk, VK_skip, VK_ret, VK_exit, VK_seq, VK_block, VK_region, VK_draw, VK_cond, KCond_true, KCond_false, VK_loop, KN_nil, KN_seq, KN_blk, KX_ret_nil, KX_ret_seq, KX_ret_blk, KX_exit_nil, KX_exit_seq, KX_exit_blk, KE_normal, KE_ret, KE_exit, KO_nil, KO_cons, KO_app_cons, KO_app_nil, KO1_true, KO1_false, KO2_true, KO2_false, KO3_some, KO4_some, loopQ_ret, loopQ_exit, wantA, isCall, stepOp, evalO, evalL, evalP, evalM, putDst, flat, cond_true, cond_false, Nat.reduceLT, ↓reduceIte, Trie.get_set, Nat.reduceEqDiff, Nat.one_ne_zero, Nat.zero_ne_one, aBuiltin, abinG, guardFree, abin, aInt, aUn, aNilCheck, retQ, retQ1, aresults, aresultL, aresult, mkF, undefV, reduceCtorEq, List.getElem?_toArray, List.append_eq, List.cons_append, List.nil_append, List.getElem?_cons_zero, List.getElem?_cons_succ, Option.bind_some, Bool.not_true, Bool.not_false, beq_self_eq_true, aExtract, calleeOf, awrap_u8, Bool.true_beq, Bool.false_beq, beq_true, beq_false, decide_true, decide_false, Bool.not_not, Bool.and_true, Bool.true_and, Bool.and_false, Bool.false_and, a3, s3, lA3]
  generalize h2.next = p1 at *
  refine KCall.intro (by simp only [beq_dec, fst_mk, snd_mk, VK_skip, VK_ret, VK_exit, VK_seq, VK_block, VK_region, VK_draw, VK_cond, KCond_true, KCond_false, VK_loop, KN_nil, KN_seq, KN_blk, KX_ret_nil, KX_ret_seq, KX_ret_blk, KX_exit_nil, KX_exit_seq, KX_exit_blk, KE_normal, KE_ret, KE_exit, KO_nil, KO_cons, KO_app_cons, KO_app_nil, KO1_true, KO1_false, KO2_true, KO2_false, KO3_some, KO4_some, loopQ_ret, loopQ_exit, wantA, isCall, stepOp, evalO, evalL, evalP, evalM, putDst, flat, cond_true, cond_false, Nat.reduceLT, ↓reduceIte, Trie.get_set, Nat.reduceEqDiff, Nat.one_ne_zero, Nat.zero_ne_one, aBuiltin, abinG, guardFree, abin, aInt, aUn, aNilCheck, retQ, retQ1, aresults, aresultL, aresult, mkF, undefV, reduceCtorEq, List.getElem?_toArray, List.append_eq, List.cons_append, List.nil_append, List.getElem?_cons_zero, List.getElem?_cons_succ, Option.bind_some, Bool.not_true, Bool.not_false, beq_self_eq_true, aExtract, calleeOf, awrap_u8, Bool.true_beq, Bool.false_beq, beq_true, beq_false, decide_true, decide_false, Bool.not_not, Bool.and_true, Bool.true_and, Bool.and_false, Bool.false_and] <;> rfl) ⟨Try.func13, rfl, by decide⟩ (RefWalk_any W0 r ve d S v i true h3 (hs.le ((le1.trans le2).trans le3)) hm) ?_
  rintro x h4 wf4 ⟨w2, le4, fr2⟩
  obtain ⟨c2, o2, rfl, el2⟩ := w2.ok hr hd
  obtain ⟨h5', h5, a5, s5, ow5, le5, wf5⟩ := keep36 wf4 el2.1.1.cs.sl el2.2.cs.sl
  generalize h4.next = p2 at *
  have l1 := load36 ((le4.trans le5).own _ _ ow3)
  have l2 := load36 ow5
  have hbs : aBuildSlice Try.prog h5 43 2 [(0, .agg #[c1, o1]), (1, .agg #[c2, o2])] = some (.slice (some ⟨h5.next, 0, none⟩) 2 2, h5.alloc (.cells [c1, o1, c2, o2])) := by
    obtain ⟨_, _, hc1, _⟩ := el1.1.1.cs.sl
    obtain ⟨_, _, ho1, _⟩ := el1.2.cs.sl
    obtain ⟨_, _, hc2, _⟩ := el2.1.1.cs.sl
    obtain ⟨_, _, ho2, _⟩ := el2.2.cs.sl
    simp only at hc1 ho1 hc2 ho2
    subst hc1 ho1 hc2 ho2
    kernel_rfl
  obtain ⟨h6, e6, le6, wf6, o6⟩ := alloc_f wf5 [c1, o1, c2, o2]
  simp only [beq_dec, fst_mk, snd_mk, VK_skip, VK_ret, VK_exit, VK_seq, VK_block, VK_region, VK_draw, VK_cond, KCond_true, KCond_false, VK_loop, KN_nil, KN_seq, KN_blk, KX_ret_nil, KX_ret_seq, KX_ret_blk, KX_exit_nil, KX_exit_seq, KX_exit_blk, KE_normal, KE_ret, KE_exit, KO_nil, KO_cons, KO_app_cons, KO_app_nil, KO1_true, KO1_false, KO2_true, KO2_false, KO3_some, KO4_some, loopQ_ret, loopQ_exit, wantA, isCall, stepOp, evalO, evalL, evalP, evalM, putDst, flat, cond_true, cond_false, Nat.reduceLT, ↓reduceIte, Trie.get_set, Nat.reduceEqDiff, Nat.one_ne_zero, Nat.zero_ne_one, aBuiltin, abinG, guardFree, abin, aInt, aUn, aNilCheck, retQ, retQ1, aresults, aresultL, aresult, mkF, undefV, reduceCtorEq, List.getElem?_toArray, List.append_eq, List.cons_append, List.nil_append, List.getElem?_cons_zero, List.getElem?_cons_succ, Option.bind_some, Bool.not_true, Bool.not_false, beq_self_eq_true, aExtract, calleeOf, awrap_u8, Bool.true_beq, Bool.false_beq, beq_true, beq_false, decide_true, decide_false, Bool.not_not, Bool.and_true, Bool.true_and, Bool.and_false, Bool.false_and, a5, s5, l1, l2, hbs, e6]
  have le05 := (((le1.trans le2).trans le3).trans le4).trans le5
  have ap1 : Apart h c1 ∧ Apart h o1 := by
    obtain ⟨_, _, _, he, q1, q2⟩ := fr1
    simp at he
    obtain ⟨⟨rfl, rfl⟩, -⟩ := he
    exact ⟨fun b hb => le1.none (q1 b hb), fun b hb => le1.none (q2 b hb)⟩
  have ap2 : Apart h c2 ∧ Apart h o2 := by
    obtain ⟨_, _, _, he, q1, q2⟩ := fr2
    simp at he
    obtain ⟨⟨rfl, rfl⟩, -⟩ := he
    exact ⟨fun b hb => ((le1.trans le2).trans le3).none (q1 b hb), fun b hb => ((le1.trans le2).trans le3).none (q2 b hb)⟩
  have wipe : ∀ {fs : List Nat} {p : Value × Value} {x : Wd}, (∀ i ∈ fs, h.own i ≠ none) → ElR h6 p x → Apart h p.1 → Apart h p.2 → ElR (rem fs h6) p x := fun hfs el q1 q2 =>
    ⟨⟨el.1.1.to_rem fun b hb hm => hfs b hm (q1 b hb), el.1.2⟩, el.2.to_rem fun b hb hm => hfs b hm (q2 b hb)⟩
  refine ⟨_, [(c1, o1), (c2, o2)], rfl, le05.none ((Le.refl h5).next wf5 (Nat.le_refl _)), o6, fun fs hfs => ⟨rfl, fun i p x hp hx => ?_⟩, le05.trans le6⟩
  match i, hp, hx with
  | 0, hp, hx => simp at hp hx; subst hp hx; exact wipe hfs (el1.le (((le3.trans le4).trans le5).trans le6)) ap1.1 ap1.2
  | 1, hp, hx => simp at hp hx; subst hp hx; exact wipe hfs (el2.le (le5.trans le6)) ap2.1 ap2.2
  | i + 2, hp, hx => simp at hp

theorem RefFrom_any (W0 : World) (r ve d : Value) (S : SkinM) (v i : Int) (h : AHeap) (hs : SkinR h r ve d S) (hm : SmallM S) :
    AC Try.prog W0 15 [.agg #[r, ve, d], .int .i64 v, .int .i64 i] h fun x h' => WalksP (RightS S ∧ isDartM S.rot v i = true) (leastM [codeW S false v.toNat i.toNat, codeW S true v.toNat i.toNat]) x h' ∧ Le h h' := by
  refine AC.vc (fn := Try.f15) (c := _) ⟨Try.func15, rfl, by decide⟩ Try.ntmps15 Try.results15 (by simp) fun hwf => ?_
  simp only [argFrame, argFrom, Nat.reduceAdd]
  obtain ⟨h1, b1, le1, wf1, -, lA⟩ := aBoxS hwf hs
  generalize hb : h.next = b at *
  have lA1 := (lA h1 (Le.refl _)).1
  simp only [beq_dec, fst_mk, snd_mk, VK_skip, VK_ret, VK_exit, VK_seq, VK_block, VK_region, VK_draw, VK_cond, KCond_true, KCond_false, VK_loop, KN_nil, KN_seq, KN_blk, KX_ret_nil, KX_ret_seq, KX_ret_blk, KX_exit_nil, KX_exit_seq, KX_exit_blk, KE_normal, KE_ret, KE_exit, KO_nil, KO_cons, KO_app_cons, KO_app_nil, KO1_true, KO1_false, KO2_true, KO2_false, KO3_some, KO4_some, loopQ_ret, loopQ_exit, wantA, isCall, stepOp, evalO, evalL, evalP, evalM, putDst, flat, cond_true, cond_false, Nat.reduceLT, ↓reduceIte, Trie.get_set, Nat.reduceEqDiff, Nat.one_ne_zero, Nat.zero_ne_one, aBuiltin, abinG, guardFree, abin, aInt, aUn, aNilCheck, retQ, retQ1, aresults, aresultL, aresult, mkF, undefV, reduceCtorEq, List.getElem?_toArray, List.append_eq, List.cons_append, List.nil_append, List.getElem?_cons_zero, List.getElem?_cons_succ, Option.bind_some, Bool.not_true, Bool.not_false, beq_self_eq_true, aExtract, calleeOf, awrap_u8, Bool.true_beq, Bool.false_beq, beq_true, beq_false, decide_true, decide_false, Bool.not_not, Bool.and_true, Bool.true_and, Bool.and_false, Bool.false_and, b1, lA1]
  refine KCall.intro (by simp only [beq_dec, fst_mk, snd_mk, VK_skip, VK_ret, VK_exit, VK_seq, VK_block, VK_region, VK_draw, VK_cond, KCond_true, KCond_false, VK_loop, KN_nil, KN_seq, KN_blk, KX_ret_nil, KX_ret_seq, KX_ret_blk, KX_exit_nil, KX_exit_seq, KX_exit_blk, KE_normal, KE_ret, KE_exit, KO_nil, KO_cons, KO_app_cons, KO_app_nil, KO1_true, KO1_false, KO2_true, KO2_false, KO3_some, KO4_some, loopQ_ret, loopQ_exit, wantA, isCall, stepOp, evalO, evalL, evalP, evalM, putDst, flat, cond_true, cond_false, Nat.reduceLT, ↓reduceIte, Trie.get_set, Nat.reduceEqDiff, Nat.one_ne_zero, Nat.zero_ne_one, aBuiltin, abinG, guardFree, abin, aInt, aUn, aNilCheck, retQ, retQ1, aresults, aresultL, aresult, mkF, undefV, reduceCtorEq, List.getElem?_toArray, List.append_eq, List.cons_append, List.nil_append, List.getElem?_cons_zero, List.getElem?_cons_succ, Option.bind_some, Bool.not_true, Bool.not_false, beq_self_eq_true, aExtract, calleeOf, awrap_u8, Bool.true_beq, Bool.false_beq, beq_true, beq_false, decide_true, decide_false, Bool.not_not, Bool.and_true, Bool.true_and, Bool.and_false, Bool.false_and] <;> rfl) ⟨Try.func13, rfl, by decide⟩ (RefWalk_any W0 r ve d S v i false h1 (hs.le le1) hm) ?_
  rintro x h2 wf2 ⟨w1, le2, fr1⟩
  obtain ⟨cv, ov, e, rfl, hcase⟩ := w1
  have hsl : (∃ n, isSl cv n) ∧ (∃ n, isSl ov n) := by
    rcases hcase with ⟨-, -, -, q1, q2⟩ | ⟨-, -, rfl, rfl⟩
    · exact ⟨⟨_, q1.1.cs.sl⟩, ⟨_, q2.cs.sl⟩⟩
    · exact ⟨⟨_, nilSl⟩, ⟨_, nilSl⟩⟩
  obtain ⟨⟨n1, sl1⟩, n2, sl2⟩ := hsl
  obtain ⟨h3', h3, a3, s3, ow3, le3, wf3⟩ := keep36 wf2 sl1 sl2
  have lA3 := (lA h3 (le2.trans le3)).1
  rcases hcase with ⟨hr, hd, rfl, -, -⟩ | ⟨hn, rfl, -, -⟩
  rotate_left
  · simp only [beq_dec, fst_mk, snd_mk, VK_skip, VK_ret, VK_exit, VK_seq, VK_block, VK_region, VK_draw, VK_cond, KCond_true, KCond_false, VK_loop, KN_nil, KN_seq, KN_blk, KX_ret_nil, KX_ret_seq, KX_ret_blk, KX_exit_nil, KX_exit_seq, KX_exit_blk, KE_normal, KE_ret, KE_exit, KO_nil, KO_cons, KO_app_cons, KO_app_nil, KO1_true, KO1_false, KO2_true, KO2_false, KO3_some, KO4_some, loopQ_ret, loopQ_exit, wantA, isCall, stepOp, evalO, evalL, evalP, evalM, putDst, flat, cond_true, cond_false, Nat.reduceLT, ↓reduceIte, Trie.get_set, Nat.reduceEqDiff, Nat.one_ne_zero, Nat.zero_ne_one, aBuiltin, abinG, guardFree, abin, aInt, aUn, aNilCheck, retQ, retQ1, aresults, aresultL, aresult, mkF, undefV, reduceCtorEq, List.getElem?_toArray, List.append_eq, List.cons_append, List.nil_append, List.getElem?_cons_zero, List.getElem?_cons_succ, Option.bind_some, Bool.not_true, Bool.not_false, beq_self_eq_true, aExtract, calleeOf, awrap_u8, Bool.true_beq, Bool.false_beq, beq_true, beq_false, decide_true, decide_false, Bool.not_not, Bool.and_true, Bool.true_and, Bool.and_false, Bool.false_and, a3, s3, bne, eq_false (by decide : ¬ (170 : Int) = 0)]
    exact ⟨⟨_, _, rfl, .inr ⟨hn, rfl, rfl⟩⟩, (le1.trans le2).trans le3⟩
  simp only [beq_dec, fst_mk, snd_mk, VK_skip, VK_ret, VK_exit, VK_seq, VK_block, VK_region, VK_draw, VK_cond, KCond_true, KCond_false, VK_loop, KN_nil, KN_seq, KN_blk, KX_ret_nil, KX_ret_seq, KX_ret_blk, KX_exit_nil, KX_exit_seq, KX_exit_blk, KE_normal, KE_ret, KE_exit, KO_nil, KO_cons, KO_app_cons, KO_app_nil, KO1_true, KO1_false, KO2_true, KO2_false, KO3_some, KO4_some, loopQ_ret, loopQ_exit, wantA, isCall, stepOp, evalO, evalL, evalP, evalM, putDst, flat, cond_true, cond_false, Nat.reduceLT, ↓reduceIte, Trie.get_set, Nat.reduceEqDiff, Nat.one_ne_zero, Nat.zero_ne_one, aBuiltin, abinG, guardFree, abin, aInt, aUn, aNilCheck, retQ, retQ1, aresults, aresultL, aresult, mkF, undefV, reduceCtorEq, List.getElem?_toArray, List.append_eq, List.cons_append, List.nil_append, List.getElem?_cons_zero, List.getElem?_cons_succ, Option.bind_some, Bool.not_true, Bool.not_false, beq_self_eq_true, aExtract, calleeOf, awrap_u8, Bool.true_beq, Bool.false_beq, beq_true, beq_false, decide_true, decide_false, Bool.not_not, Bool.and_true, Bool.true_and, Bool.and_false, Bool.false_and, a3, s3, bne, lA3]
  refine KCall.intro (by simp only [beq_dec, fst_mk, snd_mk, VK_skip, VK_ret, VK_exit, VK_seq, VK_block, VK_region, VK_draw, VK_cond, KCond_true, KCond_false, VK_loop, KN_nil, KN_seq, KN_blk, KX_ret_nil, KX_ret_seq, KX_ret_blk, KX_exit_nil, KX_exit_seq, KX_exit_blk, KE_normal, KE_ret, KE_exit, KO_nil, KO_cons, KO_app_cons, KO_app_nil, KO1_true, KO1_false, KO2_true, KO2_false, KO3_some, KO4_some, loopQ_ret, loopQ_exit, wantA, isCall, stepOp, evalO, evalL, evalP, evalM, putDst, flat, cond_true, cond_false, Nat.reduceLT, ↓reduceIte, Trie.get_set, Nat.reduceEqDiff, Nat.one_ne_zero, Nat.zero_ne_one, aBuiltin, abinG, guardFree, abin, aInt, aUn, aNilCheck, retQ, retQ1, aresults, aresultL, aresult, mkF, undefV, reduceCtorEq, List.getElem?_toArray, List.append_eq, List.cons_append, List.nil_append, List.getElem?_cons_zero, List.getElem?_cons_succ, Option.bind_some, Bool.not_true, Bool.not_false, beq_self_eq_true, aExtract, calleeOf, awrap_u8, Bool.true_beq, Bool.false_beq, beq_true, beq_false, decide_true, decide_false, Bool.not_not, Bool.and_true, Bool.true_and, Bool.and_false, Bool.false_and] <;> rfl) ⟨Try.func33, rfl, by decide⟩ (both_any W0 r ve d S v i h3 (hs.le ((le1.trans le2).trans le3)) hm hr hd) ?_
  rintro x h4 wf4 ⟨id, vs, rfl, -, oid, els', le4⟩
  have els := els' [] (by simp)
  have hw : WalksR h4 (.slice (some ⟨id, 0, none⟩) 2 2) [codeW S false v.toNat i.toNat, codeW S true v.toNat i.toNat] := by
    refine ⟨vs, GS.full oid ?_ (by decide), els⟩
    rw [flat2_length, els.1]; rfl
  simp only [beq_dec, fst_mk, snd_mk, VK_skip, VK_ret, VK_exit, VK_seq, VK_block, VK_region, VK_draw, VK_cond, KCond_true, KCond_false, VK_loop, KN_nil, KN_seq, KN_blk, KX_ret_nil, KX_ret_seq, KX_ret_blk, KX_exit_nil, KX_exit_seq, KX_exit_blk, KE_normal, KE_ret, KE_exit, KO_nil, KO_cons, KO_app_cons, KO_app_nil, KO1_true, KO1_false, KO2_true, KO2_false, KO3_some, KO4_some, loopQ_ret, loopQ_exit, wantA, isCall, stepOp, evalO, evalL, evalP, evalM, putDst, flat, cond_true, cond_false, Nat.reduceLT, ↓reduceIte, Trie.get_set, Nat.reduceEqDiff, Nat.one_ne_zero, Nat.zero_ne_one, aBuiltin, abinG, guardFree, abin, aInt, aUn, aNilCheck, retQ, retQ1, aresults, aresultL, aresult, mkF, undefV, reduceCtorEq, List.getElem?_toArray, List.append_eq, List.cons_append, List.nil_append, List.getElem?_cons_zero, List.getElem?_cons_succ, Option.bind_some, Bool.not_true, Bool.not_false, beq_self_eq_true, aExtract, calleeOf, awrap_u8, Bool.true_beq, Bool.false_beq, beq_true, beq_false, decide_true, decide_false, Bool.not_not, Bool.and_true, Bool.true_and, Bool.and_false, Bool.false_and]
  refine KCall.intro (by simp only [beq_dec, fst_mk, snd_mk, VK_skip, VK_ret, VK_exit, VK_seq, VK_block, VK_region, VK_draw, VK_cond, KCond_true, KCond_false, VK_loop, KN_nil, KN_seq, KN_blk, KX_ret_nil, KX_ret_seq, KX_ret_blk, KX_exit_nil, KX_exit_seq, KX_exit_blk, KE_normal, KE_ret, KE_exit, KO_nil, KO_cons, KO_app_cons, KO_app_nil, KO1_true, KO1_false, KO2_true, KO2_false, KO3_some, KO4_some, loopQ_ret, loopQ_exit, wantA, isCall, stepOp, evalO, evalL, evalP, evalM, putDst, flat, cond_true, cond_false, Nat.reduceLT, ↓reduceIte, Trie.get_set, Nat.reduceEqDiff, Nat.one_ne_zero, Nat.zero_ne_one, aBuiltin, abinG, guardFree, abin, aInt, aUn, aNilCheck, retQ, retQ1, aresults, aresultL, aresult, mkF, undefV, reduceCtorEq, List.getElem?_toArray, List.append_eq, List.cons_append, List.nil_append, List.getElem?_cons_zero, List.getElem?_cons_succ, Option.bind_some, Bool.not_true, Bool.not_false, beq_self_eq_true, aExtract, calleeOf, awrap_u8, Bool.true_beq, Bool.false_beq, beq_true, beq_false, decide_true, decide_false, Bool.not_not, Bool.and_true, Bool.true_and, Bool.and_false, Bool.false_and] <;> rfl) ⟨Try.func32, rfl, by decide⟩ (least_any W0 _ _ h4 hw (by simp)) ?_
  rintro x h5 wf5 ⟨hl, le5⟩
  simp only [beq_dec, fst_mk, snd_mk, VK_skip, VK_ret, VK_exit, VK_seq, VK_block, VK_region, VK_draw, VK_cond, KCond_true, KCond_false, VK_loop, KN_nil, KN_seq, KN_blk, KX_ret_nil, KX_ret_seq, KX_ret_blk, KX_exit_nil, KX_exit_seq, KX_exit_blk, KE_normal, KE_ret, KE_exit, KO_nil, KO_cons, KO_app_cons, KO_app_nil, KO1_true, KO1_false, KO2_true, KO2_false, KO3_some, KO4_some, loopQ_ret, loopQ_exit, wantA, isCall, stepOp, evalO, evalL, evalP, evalM, putDst, flat, cond_true, cond_false, Nat.reduceLT, ↓reduceIte, Trie.get_set, Nat.reduceEqDiff, Nat.one_ne_zero, Nat.zero_ne_one, aBuiltin, abinG, guardFree, abin, aInt, aUn, aNilCheck, retQ, retQ1, aresults, aresultL, aresult, mkF, undefV, reduceCtorEq, List.getElem?_toArray, List.append_eq, List.cons_append, List.nil_append, List.getElem?_cons_zero, List.getElem?_cons_succ, Option.bind_some, Bool.not_true, Bool.not_false, beq_self_eq_true, aExtract, calleeOf, awrap_u8, Bool.true_beq, Bool.false_beq, beq_true, beq_false, decide_true, decide_false, Bool.not_not, Bool.and_true, Bool.true_and, Bool.and_false, Bool.false_and]
  exact ⟨⟨_, _, rfl, .inl ⟨⟨hr, hd⟩, rfl, hl⟩⟩, (((le1.trans le2).trans le3).trans le4).trans le5⟩
end Go.Fw
