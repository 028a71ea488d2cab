/- One of the texts of the layer and the walks: it proves what its theorems say of the functions of the seat, with no condition beyond theirs. -/
import Derived.Test.YtdflaojabddalaaFwRg18
set_option linter.unusedSimpArgs false
set_option linter.unusedVariables false
namespace Go.Fw
open Go.Proofs
set_option maxHeartbeats 400000
set_option maxRecDepth 10000

/- what one walk is told as, in its two cells -/
theorem alloc36 (h : AHeap) : aAlloc Try.prog h 36 = some (.pointer (some ⟨h.next, 0, none⟩), h.alloc (.cells [.slice none 0 0, .slice none 0 0])) := rfl
theorem store36 {h : AHeap} {w n m : Nat} {x0 y0 x y : Value} (ho : h.own w = some (.cells [x0, y0])) (hx : isSl x n) (hy : isSl y m) : aStore Try.prog h 36 (.pointer (some ⟨w, 0, none⟩)) (.agg #[x, y]) = some (h.put w (.cells [x, y])) := by
  have h1 := hx.one
  have h2 := hy.one
  simp [aStore, ho, Value.cells, tsize, putCells, h1, h2]
  rfl
theorem load36 {h : AHeap} {w : Nat} {x y : Value} (ho : h.own w = some (.cells [x, y])) : aload Try.prog h 36 ⟨w, 0, none⟩ = some (.agg #[x, y]) := by
  rw [aload_own Try.underlying36 rfl (by kernel_rfl : tsize Try.prog 36 = 2) ho (by simp)]; rfl
theorem fw0 (a : Addr) : aField Try.prog 36 (.pointer (some a)) 0 = some (.pointer (some (aadd a 0))) := rfl
theorem fw1 (a : Addr) : aField Try.prog 36 (.pointer (some a)) 1 = some (.pointer (some (aadd a 1))) := rfl
theorem nilSl : isSl (.slice none 0 0) 0 := ⟨none, 0, rfl, by simp⟩

theorem aBoxS {h : AHeap} (hwf : WF h) {r ve d : Value} {S : SkinM} (hs : SkinR h r ve d S) :
    ∃ h1, aBox h (.agg #[r, ve, d]) = some (.pointer (some ⟨h.next, 0, none⟩), h1) ∧ Le h h1 ∧ WF h1 ∧ h1.own h.next = some (.cells [r, ve, d]) ∧ ∀ hh, Le h1 hh → aload Try.prog hh 27 ⟨h.next, 0, none⟩ = some (.agg #[r, ve, d]) ∧ aload Try.prog hh 23 ⟨h.next, 0, none⟩ = some r ∧ aload Try.prog hh 24 ⟨h.next, 1, none⟩ = some ve ∧ aload Try.prog hh 25 ⟨h.next, 2, none⟩ = some d := by
  have ho1 : (h.alloc (.cells [r, ve, d])).own h.next = some (.cells [r, ve, d]) := AHeap.own_alloc_eq _ _
  refine ⟨_, aBox3 (h := h) hs.rot.one hs.vert.one hs.dart.one, (Le.refl _).alloc hwf _, hwf.alloc _, ho1, fun hh e => ?_⟩
  have ho := e.own _ _ ho1
  refine ⟨?_, aload_one Try.underlying23 rfl ho, aload_one Try.underlying24 rfl ho, aload_one Try.underlying25 rfl ho⟩
  rw [aload_own Try.underlying27 rfl (by kernel_rfl : tsize Try.prog 27 = 3) ho (by simp)]; rfl

theorem isDart_ok {S : SkinM} (hr : RightS S) {v i : Int} (h : isDartM S.rot v i = true) : v = (v.toNat : Nat) ∧ i = (i.toNat : Nat) ∧ v.toNat < S.rot.length ∧ (i.toNat < dg S v.toNat ∨ dg S v.toNat = 0 ∧ i.toNat = 0) := by
  simp only [isDartM, Bool.and_eq_true, Bool.not_eq_true', Bool.or_eq_false_iff, decide_eq_false_iff_not, Bool.or_eq_true, decide_eq_true_eq, beq_iff_eq] at h
  obtain ⟨⟨⟨h1, h2⟩, h3⟩, h4⟩ := h
  refine ⟨by omega, by omega, by omega, ?_⟩
  rcases h4 with h4 | ⟨h4, h5⟩
  · left; unfold dg; omega
  · right
    have hv : v.toNat < S.rot.length := by omega
    have := hr.short v.toNat _ (getElem?_of hv)
    refine ⟨?_, by omega⟩
    unfold dg; rw [getD_of hv]; omega

def WalkP (S : SkinM) (mir : Bool) (v i : Int) (x : Value) (h' : AHeap) : Prop :=
  ∃ cv ov e, x = .tuple #[.agg #[cv, ov], .int .i64 e] ∧
    ((RightS S ∧ isDartM S.rot v i = true ∧ e = 0 ∧ GB h' cv (codeM S mir v.toNat i.toNat) ∧ GS 1 h' ov (finM S mir v.toNat i.toNat).ord.length (I64 (ints (finM S mir v.toNat i.toNat).ord))) ∨
      (¬ (RightS S ∧ isDartM S.rot v i = true) ∧ e = 170 ∧ cv = .slice none 0 0 ∧ ov = .slice none 0 0))

theorem Walk_any (W0 : World) (r ve d : Value) (S : SkinM) (v i : Int) (mir : Bool) (h : AHeap) (hs : SkinR h r ve d S) (hm : SmallM S) : AC Try.prog W0 10 [.agg #[r, ve, d], .int .i64 v, .int .i64 i, .bool mir] h fun x h' => WalkP S mir v i x h' ∧ Le h h' := by
  refine AC.vc (fn := Try.f10) (c := _) ⟨Try.func10, rfl, by decide⟩ Try.ntmps10 Try.results10 (by simp) fun hwf => ?_
  simp only [argFrame, argFrom, Nat.reduceAdd]
  obtain ⟨h1, b1, le1, wf1, -, lA⟩ := aBoxS hwf hs
  have a2 := alloc36 h1
  have le2 : Le h1 (h1.alloc (.cells [.slice none 0 0, .slice none 0 0])) := (Le.refl h1).alloc wf1 _
  have ow2 : (h1.alloc (.cells [.slice none 0 0, .slice none 0 0])).own h1.next = some (.cells [.slice none 0 0, .slice none 0 0]) := AHeap.own_alloc_eq _ _
  have wf2 := wf1.alloc (.cells [.slice none 0 0, .slice none 0 0])
  have nw1 : h1.own h1.next = none := (Le.refl h1).next wf1 (Nat.le_refl _)
  simp only [beq_dec, fst_mk, snd_mk, VK_skip, VK_ret, VK_exit, VK_seq, VK_block, VK_region, VK_draw, VK_cond, KCond_true, KCond_false, VK_loop, KN_nil, KN_seq, KN_blk, KX_ret_nil, KX_ret_seq, KX_ret_blk, KX_exit_nil, KX_exit_seq, KX_exit_blk, KE_normal, KE_ret, KE_exit, KO_nil, KO_cons, KO_app_cons, KO_app_nil, KO1_true, KO1_false, KO2_true, KO2_false, KO3_some, KO4_some, loopQ_ret, loopQ_exit, wantA, isCall, stepOp, evalO, evalL, evalP, evalM, putDst, flat, cond_true, cond_false, Nat.reduceLT, ↓reduceIte, Trie.get_set, Nat.reduceEqDiff, Nat.one_ne_zero, Nat.zero_ne_one, aBuiltin, abinG, guardFree, abin, aInt, aUn, aNilCheck, retQ, retQ1, aresults, aresultL, aresult, mkF, undefV, reduceCtorEq, List.getElem?_toArray, List.append_eq, List.cons_append, List.nil_append, List.getElem?_cons_zero, List.getElem?_cons_succ, Option.bind_some, Bool.not_true, Bool.not_false, beq_self_eq_true, aExtract, calleeOf, awrap_u8, Bool.true_beq, Bool.false_beq, beq_true, beq_false, decide_true, decide_false, Bool.not_not, Bool.and_true, Bool.true_and, Bool.and_false, Bool.false_and, b1, a2]
  generalize h1.alloc (.cells [.slice none 0 0, .slice none 0 0]) = h2 at *
  generalize hw : h1.next = w at *
  generalize hb : h.next = b at *
  have hbld : aBuild Try.prog 36 [] = some (.agg #[.slice none 0 0, .slice none 0 0]) := by rfl
  have failE : ∀ {hq : AHeap}, Le h2 hq → ¬ (RightS S ∧ isDartM S.rot v i = true) → ∃ hq', aStore Try.prog hq 36 (.pointer (some ⟨w, 0, none⟩)) (.agg #[.slice none 0 0, .slice none 0 0]) = some hq' ∧ aload Try.prog hq' 36 ⟨w, 0, none⟩ = some (.agg #[.slice none 0 0, .slice none 0 0]) ∧
      WalkP S mir v i (.tuple #[.agg #[.slice none 0 0, .slice none 0 0], .int .i64 170]) hq' ∧ Le h hq' := by
    intro hq e hn
    exact ⟨_, store36 (e.own _ _ ow2) nilSl nilSl, load36 (AHeap.own_put_eq _ _ _), ⟨_, _, _, rfl, .inr ⟨hn, rfl, rfl, rfl⟩⟩, le1.trans ((le2.trans e).put _ nw1)⟩
  have lA2 := (lA h2 le2).1
  simp only [beq_dec, fst_mk, snd_mk, VK_skip, VK_ret, VK_exit, VK_seq, VK_block, VK_region, VK_draw, VK_cond, KCond_true, KCond_false, VK_loop, KN_nil, KN_seq, KN_blk, KX_ret_nil, KX_ret_seq, KX_ret_blk, KX_exit_nil, KX_exit_seq, KX_exit_blk, KE_normal, KE_ret, KE_exit, KO_nil, KO_cons, KO_app_cons, KO_app_nil, KO1_true, KO1_false, KO2_true, KO2_false, KO3_some, KO4_some, loopQ_ret, loopQ_exit, wantA, isCall, stepOp, evalO, evalL, evalP, evalM, putDst, flat, cond_true, cond_false, Nat.reduceLT, ↓reduceIte, Trie.get_set, Nat.reduceEqDiff, Nat.one_ne_zero, Nat.zero_ne_one, aBuiltin, abinG, guardFree, abin, aInt, aUn, aNilCheck, retQ, retQ1, aresults, aresultL, aresult, mkF, undefV, reduceCtorEq, List.getElem?_toArray, List.append_eq, List.cons_append, List.nil_append, List.getElem?_cons_zero, List.getElem?_cons_succ, Option.bind_some, Bool.not_true, Bool.not_false, beq_self_eq_true, aExtract, calleeOf, awrap_u8, Bool.true_beq, Bool.false_beq, beq_true, beq_false, decide_true, decide_false, Bool.not_not, Bool.and_true, Bool.true_and, Bool.and_false, Bool.false_and, lA2]
  refine KCall.intro (by simp only [beq_dec, fst_mk, snd_mk, VK_skip, VK_ret, VK_exit, VK_seq, VK_block, VK_region, VK_draw, VK_cond, KCond_true, KCond_false, VK_loop, KN_nil, KN_seq, KN_blk, KX_ret_nil, KX_ret_seq, KX_ret_blk, KX_exit_nil, KX_exit_seq, KX_exit_blk, KE_normal, KE_ret, KE_exit, KO_nil, KO_cons, KO_app_cons, KO_app_nil, KO1_true, KO1_false, KO2_true, KO2_false, KO3_some, KO4_some, loopQ_ret, loopQ_exit, wantA, isCall, stepOp, evalO, evalL, evalP, evalM, putDst, flat, cond_true, cond_false, Nat.reduceLT, ↓reduceIte, Trie.get_set, Nat.reduceEqDiff, Nat.one_ne_zero, Nat.zero_ne_one, aBuiltin, abinG, guardFree, abin, aInt, aUn, aNilCheck, retQ, retQ1, aresults, aresultL, aresult, mkF, undefV, reduceCtorEq, List.getElem?_toArray, List.append_eq, List.cons_append, List.nil_append, List.getElem?_cons_zero, List.getElem?_cons_succ, Option.bind_some, Bool.not_true, Bool.not_false, beq_self_eq_true, aExtract, calleeOf, awrap_u8, Bool.true_beq, Bool.false_beq, beq_true, beq_false, decide_true, decide_false, Bool.not_not, Bool.and_true, Bool.true_and, Bool.and_false, Bool.false_and] <;> rfl) ⟨Try.func7, rfl, by decide⟩ (Right_any W0 r ve d S h2 (hs.le (le1.trans le2)) hm) ?_
  rintro x h3 wf3 ⟨⟨bb, rfl, hbb⟩, le3⟩
  cases bb with
  | false =>
    obtain ⟨hq', q1, q2, q3⟩ := failE le3 (fun e => by have := hbb.2 e.1; cases this)
    simp only [beq_dec, fst_mk, snd_mk, VK_skip, VK_ret, VK_exit, VK_seq, VK_block, VK_region, VK_draw, VK_cond, KCond_true, KCond_false, VK_loop, KN_nil, KN_seq, KN_blk, KX_ret_nil, KX_ret_seq, KX_ret_blk, KX_exit_nil, KX_exit_seq, KX_exit_blk, KE_normal, KE_ret, KE_exit, KO_nil, KO_cons, KO_app_cons, KO_app_nil, KO1_true, KO1_false, KO2_true, KO2_false, KO3_some, KO4_some, loopQ_ret, loopQ_exit, wantA, isCall, stepOp, evalO, evalL, evalP, evalM, putDst, flat, cond_true, cond_false, Nat.reduceLT, ↓reduceIte, Trie.get_set, Nat.reduceEqDiff, Nat.one_ne_zero, Nat.zero_ne_one, aBuiltin, abinG, guardFree, abin, aInt, aUn, aNilCheck, retQ, retQ1, aresults, aresultL, aresult, mkF, undefV, reduceCtorEq, List.getElem?_toArray, List.append_eq, List.cons_append, List.nil_append, List.getElem?_cons_zero, List.getElem?_cons_succ, Option.bind_some, Bool.not_true, Bool.not_false, beq_self_eq_true, aExtract, calleeOf, awrap_u8, Bool.true_beq, Bool.false_beq, beq_true, beq_false, decide_true, decide_false, Bool.not_not, Bool.and_true, Bool.true_and, Bool.and_false, Bool.false_and, hbld, q1, q2]
    exact q3
  | true =>
    have hr := hbb.1 rfl
    have lA3 := (lA h3 (le2.trans le3)).1
    simp only [beq_dec, fst_mk, snd_mk, VK_skip, VK_ret, VK_exit, VK_seq, VK_block, VK_region, VK_draw, VK_cond, KCond_true, KCond_false, VK_loop, KN_nil, KN_seq, KN_blk, KX_ret_nil, KX_ret_seq, KX_ret_blk, KX_exit_nil, KX_exit_seq, KX_exit_blk, KE_normal, KE_ret, KE_exit, KO_nil, KO_cons, KO_app_cons, KO_app_nil, KO1_true, KO1_false, KO2_true, KO2_false, KO3_some, KO4_some, loopQ_ret, loopQ_exit, wantA, isCall, stepOp, evalO, evalL, evalP, evalM, putDst, flat, cond_true, cond_false, Nat.reduceLT, ↓reduceIte, Trie.get_set, Nat.reduceEqDiff, Nat.one_ne_zero, Nat.zero_ne_one, aBuiltin, abinG, guardFree, abin, aInt, aUn, aNilCheck, retQ, retQ1, aresults, aresultL, aresult, mkF, undefV, reduceCtorEq, List.getElem?_toArray, List.append_eq, List.cons_append, List.nil_append, List.getElem?_cons_zero, List.getElem?_cons_succ, Option.bind_some, Bool.not_true, Bool.not_false, beq_self_eq_true, aExtract, calleeOf, awrap_u8, Bool.true_beq, Bool.false_beq, beq_true, beq_false, decide_true, decide_false, Bool.not_not, Bool.and_true, Bool.true_and, Bool.and_false, Bool.false_and, lA3]
    refine KCall.intro (by simp only [beq_dec, fst_mk, snd_mk, VK_skip, VK_ret, VK_exit, VK_seq, VK_block, VK_region, VK_draw, VK_cond, KCond_true, KCond_false, VK_loop, KN_nil, KN_seq, KN_blk, KX_ret_nil, KX_ret_seq, KX_ret_blk, KX_exit_nil, KX_exit_seq, KX_exit_blk, KE_normal, KE_ret, KE_exit, KO_nil, KO_cons, KO_app_cons, KO_app_nil, KO1_true, KO1_false, KO2_true, KO2_false, KO3_some, KO4_some, loopQ_ret, loopQ_exit, wantA, isCall, stepOp, evalO, evalL, evalP, evalM, putDst, flat, cond_true, cond_false, Nat.reduceLT, ↓reduceIte, Trie.get_set, Nat.reduceEqDiff, Nat.one_ne_zero, Nat.zero_ne_one, aBuiltin, abinG, guardFree, abin, aInt, aUn, aNilCheck, retQ, retQ1, aresults, aresultL, aresult, mkF, undefV, reduceCtorEq, List.getElem?_toArray, List.append_eq, List.cons_append, List.nil_append, List.getElem?_cons_zero, List.getElem?_cons_succ, Option.bind_some, Bool.not_true, Bool.not_false, beq_self_eq_true, aExtract, calleeOf, awrap_u8, Bool.true_beq, Bool.false_beq, beq_true, beq_false, decide_true, decide_false, Bool.not_not, Bool.and_true, Bool.true_and, Bool.and_false, Bool.false_and] <;> rfl) ⟨Try.func25, rfl, by decide⟩ (isDart_any W0 r ve d S v i h3 (hs.le ((le1.trans le2).trans le3))) ?_
    rintro x h4 wf4 ⟨rfl, hex⟩
    have le4 := le3.trans (hex.le wf3)
    cases hd : isDartM S.rot v i with
    | false =>
      obtain ⟨hq', q1, q2, q3⟩ := failE le4 (fun e => by rw [hd] at e; cases e.2)
      simp only [beq_dec, fst_mk, snd_mk, VK_skip, VK_ret, VK_exit, VK_seq, VK_block, VK_region, VK_draw, VK_cond, KCond_true, KCond_false, VK_loop, KN_nil, KN_seq, KN_blk, KX_ret_nil, KX_ret_seq, KX_ret_blk, KX_exit_nil, KX_exit_seq, KX_exit_blk, KE_normal, KE_ret, KE_exit, KO_nil, KO_cons, KO_app_cons, KO_app_nil, KO1_true, KO1_false, KO2_true, KO2_false, KO3_some, KO4_some, loopQ_ret, loopQ_exit, wantA, isCall, stepOp, evalO, evalL, evalP, evalM, putDst, flat, cond_true, cond_false, Nat.reduceLT, ↓reduceIte, Trie.get_set, Nat.reduceEqDiff, Nat.one_ne_zero, Nat.zero_ne_one, aBuiltin, abinG, guardFree, abin, aInt, aUn, aNilCheck, retQ, retQ1, aresults, aresultL, aresult, mkF, undefV, reduceCtorEq, List.getElem?_toArray, List.append_eq, List.cons_append, List.nil_append, List.getElem?_cons_zero, List.getElem?_cons_succ, Option.bind_some, Bool.not_true, Bool.not_false, beq_self_eq_true, aExtract, calleeOf, awrap_u8, Bool.true_beq, Bool.false_beq, beq_true, beq_false, decide_true, decide_false, Bool.not_not, Bool.and_true, Bool.true_and, Bool.and_false, Bool.false_and, hbld, q1, q2]
      exact q3
    | true =>
      obtain ⟨ev, ei, hv, hi⟩ := isDart_ok hr hd
      have lA4 := (lA h4 (le2.trans le4)).1
      simp only [beq_dec, fst_mk, snd_mk, VK_skip, VK_ret, VK_exit, VK_seq, VK_block, VK_region, VK_draw, VK_cond, KCond_true, KCond_false, VK_loop, KN_nil, KN_seq, KN_blk, KX_ret_nil, KX_ret_seq, KX_ret_blk, KX_exit_nil, KX_exit_seq, KX_exit_blk, KE_normal, KE_ret, KE_exit, KO_nil, KO_cons, KO_app_cons, KO_app_nil, KO1_true, KO1_false, KO2_true, KO2_false, KO3_some, KO4_some, loopQ_ret, loopQ_exit, wantA, isCall, stepOp, evalO, evalL, evalP, evalM, putDst, flat, cond_true, cond_false, Nat.reduceLT, ↓reduceIte, Trie.get_set, Nat.reduceEqDiff, Nat.one_ne_zero, Nat.zero_ne_one, aBuiltin, abinG, guardFree, abin, aInt, aUn, aNilCheck, retQ, retQ1, aresults, aresultL, aresult, mkF, undefV, reduceCtorEq, List.getElem?_toArray, List.append_eq, List.cons_append, List.nil_append, List.getElem?_cons_zero, List.getElem?_cons_succ, Option.bind_some, Bool.not_true, Bool.not_false, beq_self_eq_true, aExtract, calleeOf, awrap_u8, Bool.true_beq, Bool.false_beq, beq_true, beq_false, decide_true, decide_false, Bool.not_not, Bool.and_true, Bool.true_and, Bool.and_false, Bool.false_and, lA4]
      have hs4 := hs.le ((le1.trans le2).trans le4)
      refine KCall.intro (by simp only [beq_dec, fst_mk, snd_mk, VK_skip, VK_ret, VK_exit, VK_seq, VK_block, VK_region, VK_draw, VK_cond, KCond_true, KCond_false, VK_loop, KN_nil, KN_seq, KN_blk, KX_ret_nil, KX_ret_seq, KX_ret_blk, KX_exit_nil, KX_exit_seq, KX_exit_blk, KE_normal, KE_ret, KE_exit, KO_nil, KO_cons, KO_app_cons, KO_app_nil, KO1_true, KO1_false, KO2_true, KO2_false, KO3_some, KO4_some, loopQ_ret, loopQ_exit, wantA, isCall, stepOp, evalO, evalL, evalP, evalM, putDst, flat, cond_true, cond_false, Nat.reduceLT, ↓reduceIte, Trie.get_set, Nat.reduceEqDiff, Nat.one_ne_zero, Nat.zero_ne_one, aBuiltin, abinG, guardFree, abin, aInt, aUn, aNilCheck, retQ, retQ1, aresults, aresultL, aresult, mkF, undefV, reduceCtorEq, List.getElem?_toArray, List.append_eq, List.cons_append, List.nil_append, List.getElem?_cons_zero, List.getElem?_cons_succ, Option.bind_some, Bool.not_true, Bool.not_false, beq_self_eq_true, aExtract, calleeOf, awrap_u8, Bool.true_beq, Bool.false_beq, beq_true, beq_false, decide_true, decide_false, Bool.not_not, Bool.and_true, Bool.true_and, Bool.and_false, Bool.false_and] <;> rfl) ⟨Try.func26, rfl, by decide⟩ (newWalker_any W0 r ve d S h4 hs4 hr.le (fun c hc => by have := hm.rots c hc; omega)) ?_
      rintro x h5 wf5 ⟨a, pl, rfl, oa, le5, hplf⟩
      have hpl : RL (RL isI) (rem [a] h5) pl (placesM S.rot) := hplf [] (by simp)
      have e0 : spa a (.slice none 0 0) = [a] := rfl
      have hk : Wkr h5 a r ve d pl (wordsM S) (.slice none 0 0) := ⟨oa, ⟨[], .nil 1 _, by intro x hx; cases hx⟩, .inl rfl, by simp [blk]⟩
      rw [ev, ei]
      simp only [beq_dec, fst_mk, snd_mk, VK_skip, VK_ret, VK_exit, VK_seq, VK_block, VK_region, VK_draw, VK_cond, KCond_true, KCond_false, VK_loop, KN_nil, KN_seq, KN_blk, KX_ret_nil, KX_ret_seq, KX_ret_blk, KX_exit_nil, KX_exit_seq, KX_exit_blk, KE_normal, KE_ret, KE_exit, KO_nil, KO_cons, KO_app_cons, KO_app_nil, KO1_true, KO1_false, KO2_true, KO2_false, KO3_some, KO4_some, loopQ_ret, loopQ_exit, wantA, isCall, stepOp, evalO, evalL, evalP, evalM, putDst, flat, cond_true, cond_false, Nat.reduceLT, ↓reduceIte, Trie.get_set, Nat.reduceEqDiff, Nat.one_ne_zero, Nat.zero_ne_one, aBuiltin, abinG, guardFree, abin, aInt, aUn, aNilCheck, retQ, retQ1, aresults, aresultL, aresult, mkF, undefV, reduceCtorEq, List.getElem?_toArray, List.append_eq, List.cons_append, List.nil_append, List.getElem?_cons_zero, List.getElem?_cons_succ, Option.bind_some, Bool.not_true, Bool.not_false, beq_self_eq_true, aExtract, calleeOf, awrap_u8, Bool.true_beq, Bool.false_beq, beq_true, beq_false, decide_true, decide_false, Bool.not_not, Bool.and_true, Bool.true_and, Bool.and_false, Bool.false_and]
      refine KCall.intro (by simp only [beq_dec, fst_mk, snd_mk, VK_skip, VK_ret, VK_exit, VK_seq, VK_block, VK_region, VK_draw, VK_cond, KCond_true, KCond_false, VK_loop, KN_nil, KN_seq, KN_blk, KX_ret_nil, KX_ret_seq, KX_ret_blk, KX_exit_nil, KX_exit_seq, KX_exit_blk, KE_normal, KE_ret, KE_exit, KO_nil, KO_cons, KO_app_cons, KO_app_nil, KO1_true, KO1_false, KO2_true, KO2_false, KO3_some, KO4_some, loopQ_ret, loopQ_exit, wantA, isCall, stepOp, evalO, evalL, evalP, evalM, putDst, flat, cond_true, cond_false, Nat.reduceLT, ↓reduceIte, Trie.get_set, Nat.reduceEqDiff, Nat.one_ne_zero, Nat.zero_ne_one, aBuiltin, abinG, guardFree, abin, aInt, aUn, aNilCheck, retQ, retQ1, aresults, aresultL, aresult, mkF, undefV, reduceCtorEq, List.getElem?_toArray, List.append_eq, List.cons_append, List.nil_append, List.getElem?_cons_zero, List.getElem?_cons_succ, Option.bind_some, Bool.not_true, Bool.not_false, beq_self_eq_true, aExtract, calleeOf, awrap_u8, Bool.true_beq, Bool.false_beq, beq_true, beq_false, decide_true, decide_false, Bool.not_not, Bool.and_true, Bool.true_and, Bool.and_false, Bool.false_and] <;> rfl) ⟨Try.func27, rfl, by decide⟩ (walk_any W0 h5 a r ve d pl _ _ S mir v.toNat i.toNat none hk (hs4.le le5) hpl rfl hr hm hv hi) ?_
      rintro x h6 wf6 ⟨ok, cv, ov, cs', rfl, hk6, le6, ⟨rfl, hcv, hov, acv, aov, -⟩ | ⟨-, -, -, l, hl, -⟩⟩
      rotate_left
      · cases hl
      have le46 : Le h4 h6 := (le5.trans le6).trans (rem_le _ _)
      have a7 := alloc36 h6
      have le7 : Le h6 (h6.alloc (.cells [.slice none 0 0, .slice none 0 0])) := (Le.refl h6).alloc wf6 _
      have ow7 : (h6.alloc (.cells [.slice none 0 0, .slice none 0 0])).own h6.next = some (.cells [.slice none 0 0, .slice none 0 0]) := AHeap.own_alloc_eq _ _
      have n6 : h6.own h6.next = none := (Le.refl h6).next wf6 (Nat.le_refl _)
      have s7 := store36 ow7 hcv.1.cs.sl hov.cs.sl
      simp only [beq_dec, fst_mk, snd_mk, VK_skip, VK_ret, VK_exit, VK_seq, VK_block, VK_region, VK_draw, VK_cond, KCond_true, KCond_false, VK_loop, KN_nil, KN_seq, KN_blk, KX_ret_nil, KX_ret_seq, KX_ret_blk, KX_exit_nil, KX_exit_seq, KX_exit_blk, KE_normal, KE_ret, KE_exit, KO_nil, KO_cons, KO_app_cons, KO_app_nil, KO1_true, KO1_false, KO2_true, KO2_false, KO3_some, KO4_some, loopQ_ret, loopQ_exit, wantA, isCall, stepOp, evalO, evalL, evalP, evalM, putDst, flat, cond_true, cond_false, Nat.reduceLT, ↓reduceIte, Trie.get_set, Nat.reduceEqDiff, Nat.one_ne_zero, Nat.zero_ne_one, aBuiltin, abinG, guardFree, abin, aInt, aUn, aNilCheck, retQ, retQ1, aresults, aresultL, aresult, mkF, undefV, reduceCtorEq, List.getElem?_toArray, List.append_eq, List.cons_append, List.nil_append, List.getElem?_cons_zero, List.getElem?_cons_succ, Option.bind_some, Bool.not_true, Bool.not_false, beq_self_eq_true, aExtract, calleeOf, awrap_u8, Bool.true_beq, Bool.false_beq, beq_true, beq_false, decide_true, decide_false, Bool.not_not, Bool.and_true, Bool.true_and, Bool.and_false, Bool.false_and, a7, s7]
      have le8 : Le h6 ((h6.alloc (.cells [.slice none 0 0, .slice none 0 0])).put h6.next (.cells [cv, ov])) := le7.put _ n6
      have l8 := load36 (h := (h6.alloc (.cells [.slice none 0 0, .slice none 0 0])).put h6.next (.cells [cv, ov])) (AHeap.own_put_eq _ _ _)
      generalize (h6.alloc (.cells [.slice none 0 0, .slice none 0 0])).put h6.next (.cells [cv, ov]) = h8 at *
      have ow8 := ((le4.trans le46).trans le8).own _ _ ow2
      have s9 := store36 ow8 hcv.1.cs.sl hov.cs.sl
      have l9 := load36 (h := h8.put w (.cells [cv, ov])) (AHeap.own_put_eq _ _ _)
      simp only [beq_dec, fst_mk, snd_mk, VK_skip, VK_ret, VK_exit, VK_seq, VK_block, VK_region, VK_draw, VK_cond, KCond_true, KCond_false, VK_loop, KN_nil, KN_seq, KN_blk, KX_ret_nil, KX_ret_seq, KX_ret_blk, KX_exit_nil, KX_exit_seq, KX_exit_blk, KE_normal, KE_ret, KE_exit, KO_nil, KO_cons, KO_app_cons, KO_app_nil, KO1_true, KO1_false, KO2_true, KO2_false, KO3_some, KO4_some, loopQ_ret, loopQ_exit, wantA, isCall, stepOp, evalO, evalL, evalP, evalM, putDst, flat, cond_true, cond_false, Nat.reduceLT, ↓reduceIte, Trie.get_set, Nat.reduceEqDiff, Nat.one_ne_zero, Nat.zero_ne_one, aBuiltin, abinG, guardFree, abin, aInt, aUn, aNilCheck, retQ, retQ1, aresults, aresultL, aresult, mkF, undefV, reduceCtorEq, List.getElem?_toArray, List.append_eq, List.cons_append, List.nil_append, List.getElem?_cons_zero, List.getElem?_cons_succ, Option.bind_some, Bool.not_true, Bool.not_false, beq_self_eq_true, aExtract, calleeOf, awrap_u8, Bool.true_beq, Bool.false_beq, beq_true, beq_false, decide_true, decide_false, Bool.not_not, Bool.and_true, Bool.true_and, Bool.and_false, Bool.false_and, l8, s9, l9]
      rw [← ev, ← ei]
      have hwR : (rem (spa a (.slice none 0 0)) h5).own w = some (.cells [.slice none 0 0, .slice none 0 0]) := (le4.trans le5).own _ _ ow2
      have hcw : blk cv ≠ some w := fun e => by have := acv w e; rw [hwR] at this; cases this
      have how : blk ov ≠ some w := fun e => by have := aov w e; rw [hwR] at this; cases this
      refine ⟨⟨_, _, _, rfl, .inl ⟨hr, hd, rfl, ?_, ?_⟩⟩, le1.trans (((le2.trans le4).trans (le46.trans le8)).put _ nw1)⟩
      · exact (hcv.le ((rem_le _ _).trans le8)).put _ hcw
      · exact (hov.le ((rem_le _ _).trans le8)).put _ how
end Go.Fw
