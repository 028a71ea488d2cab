/- One of the texts of the layer and the walks: it proves what its theorems say of the functions of the seat, with no condition beyond theirs. -/
import Derived.Test.YtdflaojabddalaaFwRg15
set_option linter.unusedSimpArgs false
set_option linter.unusedVariables false
namespace Go.Fw
open Go.Proofs
set_option maxHeartbeats 1000000
set_option maxRecDepth 10000

def WPost (h : AHeap) (a : Nat) (r ve d pl : Value) (wd : Int) (cs : Value) (S : SkinM) (mir : Bool) (v i : Nat) (L : Option (List Int)) (x : Value) (h' : AHeap) : Prop :=
  ∃ ok cv ov cs', x = .tuple #[.agg #[cv, ov], .bool ok] ∧ Wkr h' a r ve d pl wd cs' ∧ Le (rem (spa a cs) h) (rem (spa a cs') h') ∧
    ((ok = true ∧ GB (rem (spa a cs') h') cv (codeM S mir v i) ∧ GS 1 (rem (spa a cs') h') ov (finM S mir v i).ord.length (I64 (ints (finM S mir v i).ord)) ∧ Apart (rem (spa a cs) h) cv ∧ Apart (rem (spa a cs) h) ov ∧ ∀ l, L = some l → ¬ ltL l (codeM S mir v i)) ∨
      (ok = false ∧ cv = .slice none 0 0 ∧ ov = .slice none 0 0 ∧ ∃ l, L = some l ∧ ltL l (codeM S mir v i)))

theorem wbuild2 (x y : Value) {n m : Nat} (hx : isSl x n) (hy : isSl y m) : aBuild Try.prog 36 [(0, x), (1, y)] = some (.agg #[x, y]) := by
  obtain ⟨a, c, rfl, _⟩ := hx
  obtain ⟨a', c', rfl, _⟩ := hy
  kernel_rfl
theorem not_lt_pre : ∀ (C t : List Int), ¬ ltL (C ++ t) C
  | [], _ => ltL_nil
  | a :: C, t => fun h => by
    rcases h with h | ⟨_, h⟩
    · omega
    · exact not_lt_pre C t h
theorem HeldOK.not_lt {L : Option (List Int)} {C : List Int} {held : Bool} (h : HeldOK L C held) : ∀ l, L = some l → ¬ ltL l C := by
  intro l hl hlt
  cases held with
  | true => obtain ⟨l', e, t, rfl⟩ := h; rw [hl] at e; injection e with e; subst e; exact not_lt_pre C t hlt
  | false =>
    rcases h with e | ⟨l', e, hb⟩
    · rw [hl] at e; cases e
    · rw [hl] at e; injection e with e; subst e
      have := hb []
      rw [List.append_nil] at this
      exact ltL_asymm this hlt

theorem walk_any (W0 : World) (h : AHeap) (a : Nat) (r ve d pl cs lv : Value) (S : SkinM) (mir : Bool) (v i : Nat) (L : Option (List Int))
    (hk : Wkr h a r ve d pl (wordsM S) cs) (hs : SkinR (rem (spa a cs) h) r ve d S) (hpl : RL (RL isI) (rem (spa a cs) h) pl (placesM S.rot)) (hL : LstR (rem (spa a cs) h) lv L)
    (hr : RightS S) (hm : SmallM S) (hv : v < S.rot.length) (hi : i < dg S v ∨ dg S v = 0 ∧ i = 0) :
    AC Try.prog W0 27 [.pointer (some ⟨a, 0, none⟩), .int .i64 v, .int .i64 i, .bool mir, lv] h fun x h' => WPost h a r ve d pl (wordsM S) cs S mir v i L x h' := by
  refine AC.vc (fn := Try.f27) (c := _) ⟨Try.func27, rfl, by decide⟩ Try.ntmps27 Try.results27 (by simp) fun hwf => ?_
  simp only [argFrame, argFrom, Nat.reduceAdd]
  obtain ⟨C0, hC0⟩ := hk.gs
  have hlvs : ∃ la ln lc, lv = .slice la ln lc ∧ la.isNone = !L.isSome := by
    cases L with
    | none => exact ⟨none, 0, 0, hL, rfl⟩
    | some l =>
      obtain ⟨q0, q1⟩ := hL
      obtain ⟨a', c', rfl, hs'⟩ := q1.1.cs.sl
      have : l.length ≠ 0 := fun e => q0 (List.length_eq_zero_iff.1 e)
      obtain ⟨a', rfl⟩ := Option.isSome_iff_exists.1 (hs' (by omega))
      exact ⟨_, _, _, rfl, rfl⟩
  obtain ⟨la, ln, lc, rfl, hla0⟩ := hlvs
  generalize hlv0 : Value.slice la ln lc = lv at *
  have hlv : lv.cells = #[lv] ∧ lv.oneCell' = true := by subst hlv0; exact ⟨rfl, rfl⟩
  -- the boxes
  have b1 : aBox h (.pointer (some ⟨a, 0, none⟩)) = some (.pointer (some ⟨h.next, 0, none⟩), h.alloc (.cells [.pointer (some ⟨a, 0, none⟩)])) := by simp [aBox, aNewRow, Value.cells, Value.oneCell']
  have le1 : Le h (h.alloc (.cells [.pointer (some ⟨a, 0, none⟩)])) := (Le.refl h).alloc hwf _
  have op1 : (h.alloc (.cells [.pointer (some ⟨a, 0, none⟩)])).own h.next = some (.cells [.pointer (some ⟨a, 0, none⟩)]) := AHeap.own_alloc_eq _ _
  have wf1 := hwf.alloc (.cells [.pointer (some ⟨a, 0, none⟩)])
  have np1 : h.own h.next = none := (Le.refl h).next hwf (Nat.le_refl _)
  simp only [beq_dec, fst_mk, snd_mk, VK_skip, VK_ret, VK_exit, VK_seq, VK_block, VK_region, VK_draw, VK_cond, KCond_true, KCond_false, VK_loop, KN_nil, KN_seq, KN_blk, KX_ret_nil, KX_ret_seq, KX_ret_blk, KX_exit_nil, KX_exit_seq, KX_exit_blk, KE_normal, KE_ret, KE_exit, KO_nil, KO_cons, KO_app_cons, KO_app_nil, KO1_true, KO1_false, KO2_true, KO2_false, KO3_some, KO4_some, loopQ_ret, loopQ_exit, wantA, isCall, stepOp, evalO, evalL, evalP, evalM, putDst, flat, cond_true, cond_false, Nat.reduceLT, ↓reduceIte, Trie.get_set, Nat.reduceEqDiff, Nat.one_ne_zero, Nat.zero_ne_one, aBuiltin, abinG, guardFree, abin, aInt, aUn, aNilCheck, retQ, retQ1, aresults, aresultL, aresult, mkF, undefV, reduceCtorEq, List.getElem?_toArray, List.append_eq, List.cons_append, List.nil_append, List.getElem?_cons_zero, List.getElem?_cons_succ, Option.bind_some, Bool.not_true, Bool.not_false, beq_self_eq_true, aExtract, calleeOf, awrap_u8, Bool.true_beq, Bool.false_beq, beq_true, beq_false, decide_true, decide_false, Bool.not_not, Bool.and_true, Bool.true_and, Bool.and_false, Bool.false_and, b1]
  generalize h.alloc (.cells [.pointer (some ⟨a, 0, none⟩)]) = h1 at *
  generalize hp : h.next = p at *
  have b2 : aBox h1 lv = some (.pointer (some ⟨h1.next, 0, none⟩), h1.alloc (.cells [lv])) := by simp [aBox, aNewRow, hlv.1, hlv.2]
  have le2 : Le h1 (h1.alloc (.cells [lv])) := (Le.refl h1).alloc wf1 _
  have ol2 : (h1.alloc (.cells [lv])).own h1.next = some (.cells [lv]) := AHeap.own_alloc_eq _ _
  have wf2 := wf1.alloc (.cells [lv])
  have nl1 : h1.own h1.next = none := (Le.refl h1).next wf1 (Nat.le_refl _)
  simp only [beq_dec, fst_mk, snd_mk, VK_skip, VK_ret, VK_exit, VK_seq, VK_block, VK_region, VK_draw, VK_cond, KCond_true, KCond_false, VK_loop, KN_nil, KN_seq, KN_blk, KX_ret_nil, KX_ret_seq, KX_ret_blk, KX_exit_nil, KX_exit_seq, KX_exit_blk, KE_normal, KE_ret, KE_exit, KO_nil, KO_cons, KO_app_cons, KO_app_nil, KO1_true, KO1_false, KO2_true, KO2_false, KO3_some, KO4_some, loopQ_ret, loopQ_exit, wantA, isCall, stepOp, evalO, evalL, evalP, evalM, putDst, flat, cond_true, cond_false, Nat.reduceLT, ↓reduceIte, Trie.get_set, Nat.reduceEqDiff, Nat.one_ne_zero, Nat.zero_ne_one, aBuiltin, abinG, guardFree, abin, aInt, aUn, aNilCheck, retQ, retQ1, aresults, aresultL, aresult, mkF, undefV, reduceCtorEq, List.getElem?_toArray, List.append_eq, List.cons_append, List.nil_append, List.getElem?_cons_zero, List.getElem?_cons_succ, Option.bind_some, Bool.not_true, Bool.not_false, beq_self_eq_true, aExtract, calleeOf, awrap_u8, Bool.true_beq, Bool.false_beq, beq_true, beq_false, decide_true, decide_false, Bool.not_not, Bool.and_true, Bool.true_and, Bool.and_false, Bool.false_and, b2]
  generalize h1.alloc (.cells [lv]) = h2 at *
  generalize hl : h1.next = l at *
  have b3 : aAlloc Try.prog h2 36 = some (.pointer (some ⟨h2.next, 0, none⟩), h2.alloc (.cells [.slice none 0 0, .slice none 0 0])) := rfl
  have le3 : Le h2 (h2.alloc (.cells [.slice none 0 0, .slice none 0 0])) := (Le.refl h2).alloc wf2 _
  have ow3 : (h2.alloc (.cells [.slice none 0 0, .slice none 0 0])).own h2.next = some (.cells [.slice none 0 0, .slice none 0 0]) := AHeap.own_alloc_eq _ _
  have wf3 := wf2.alloc (.cells [.slice none 0 0, .slice none 0 0])
  have nw2 : h2.own h2.next = none := (Le.refl h2).next wf2 (Nat.le_refl _)
  have oa3 := ((le1.trans le2).trans le3).own _ _ hk.ow
  have lp3 := aload_one (P := Try.prog) (t := 56) (off := 0) Try.underlying56 rfl ((le2.trans le3).own _ _ op1)
  have lr3 := aload_one (P := Try.prog) (t := 23) (off := 0) Try.underlying23 rfl oa3
  simp only [List.getElem?_cons_zero] at lp3 lr3
  simp only [beq_dec, fst_mk, snd_mk, VK_skip, VK_ret, VK_exit, VK_seq, VK_block, VK_region, VK_draw, VK_cond, KCond_true, KCond_false, VK_loop, KN_nil, KN_seq, KN_blk, KX_ret_nil, KX_ret_seq, KX_ret_blk, KX_exit_nil, KX_exit_seq, KX_exit_blk, KE_normal, KE_ret, KE_exit, KO_nil, KO_cons, KO_app_cons, KO_app_nil, KO1_true, KO1_false, KO2_true, KO2_false, KO3_some, KO4_some, loopQ_ret, loopQ_exit, wantA, isCall, stepOp, evalO, evalL, evalP, evalM, putDst, flat, cond_true, cond_false, Nat.reduceLT, ↓reduceIte, Trie.get_set, Nat.reduceEqDiff, Nat.one_ne_zero, Nat.zero_ne_one, aBuiltin, abinG, guardFree, abin, aInt, aUn, aNilCheck, retQ, retQ1, aresults, aresultL, aresult, mkF, undefV, reduceCtorEq, List.getElem?_toArray, List.append_eq, List.cons_append, List.nil_append, List.getElem?_cons_zero, List.getElem?_cons_succ, Option.bind_some, Bool.not_true, Bool.not_false, beq_self_eq_true, aExtract, calleeOf, awrap_u8, Bool.true_beq, Bool.false_beq, beq_true, beq_false, decide_true, decide_false, Bool.not_not, Bool.and_true, Bool.true_and, Bool.and_false, Bool.false_and, b3]
  generalize h2.alloc (.cells [.slice none 0 0, .slice none 0 0]) = h3 at *
  generalize hw : h2.next = w at *
  simp only [beq_dec, fst_mk, snd_mk, VK_skip, VK_ret, VK_exit, VK_seq, VK_block, VK_region, VK_draw, VK_cond, KCond_true, KCond_false, VK_loop, KN_nil, KN_seq, KN_blk, KX_ret_nil, KX_ret_seq, KX_ret_blk, KX_exit_nil, KX_exit_seq, KX_exit_blk, KE_normal, KE_ret, KE_exit, KO_nil, KO_cons, KO_app_cons, KO_app_nil, KO1_true, KO1_false, KO2_true, KO2_false, KO3_some, KO4_some, loopQ_ret, loopQ_exit, wantA, isCall, stepOp, evalO, evalL, evalP, evalM, putDst, flat, cond_true, cond_false, Nat.reduceLT, ↓reduceIte, Trie.get_set, Nat.reduceEqDiff, Nat.one_ne_zero, Nat.zero_ne_one, aBuiltin, abinG, guardFree, abin, aInt, aUn, aNilCheck, retQ, retQ1, aresults, aresultL, aresult, mkF, undefV, reduceCtorEq, List.getElem?_toArray, List.append_eq, List.cons_append, List.nil_append, List.getElem?_cons_zero, List.getElem?_cons_succ, Option.bind_some, Bool.not_true, Bool.not_false, beq_self_eq_true, aExtract, calleeOf, awrap_u8, Bool.true_beq, Bool.false_beq, beq_true, beq_false, decide_true, decide_false, Bool.not_not, Bool.and_true, Bool.true_and, Bool.and_false, Bool.false_and, lp3, wfl0, fld0, aadd, Nat.zero_add, lr3]
  -- the code from its beginning
  have lc3 := aload_one (P := Try.prog) (t := 34) (off := 5) Try.underlying34 rfl oa3
  simp only [List.getElem?_cons_succ, List.getElem?_cons_zero] at lc3
  obtain ⟨cs0, ec, hg0, hbl0, hcu0⟩ := aSlice_cut (P := Try.prog) (t := 34) Try.underlying34 Try.underlying5 rfl (hC0.1.le ((le1.trans le2).trans le3)) hk.cu
  have st4 := aStore1 (P := Try.prog) (t := 34) (x := cs0) Try.underlying34 (by kernel_rfl) oa3 (off := 5) (by simp) (by obtain ⟨_, _, rfl, _⟩ := hg0.cs.sl; rfl) hg0.cs.sl.one
  simp only [List.set_cons_succ, List.set_cons_zero] at st4
  have hpa : p ≠ a := fun e => by subst e; rw [hk.ow] at np1; cases np1
  have lp4 : aload Try.prog (h3.put a (.cells [r, ve, d, pl, .int .i64 (wordsM S), cs0])) 56 ⟨p, 0, none⟩ = some (.pointer (some ⟨a, 0, none⟩)) := by
    rw [aload_one Try.underlying56 rfl (by rw [AHeap.own_put_ne _ _ _ _ hpa]; exact (le2.trans le3).own _ _ op1)]; rfl
  have lc4 : aload Try.prog (h3.put a (.cells [r, ve, d, pl, .int .i64 (wordsM S), cs0])) 34 ⟨a, 5, none⟩ = some cs0 := by
    rw [aload_one Try.underlying34 rfl (AHeap.own_put_eq _ _ _)]; rfl
  refine KDraw.intro mixed (.fl 0 (.fl 1 (.fl 2 (.fl 3 (.fl 4 (.fl 5 (.fl 6 (.fl 7 (.ch 8 [0, 1, 2, 3, 4, 5, 7] (.done) .no))))))))) (by kernel_rfl) ?_
  simp only [beq_dec, fst_mk, snd_mk, VK_skip, VK_ret, VK_exit, VK_seq, VK_block, VK_region, VK_draw, VK_cond, KCond_true, KCond_false, VK_loop, KN_nil, KN_seq, KN_blk, KX_ret_nil, KX_ret_seq, KX_ret_blk, KX_exit_nil, KX_exit_seq, KX_exit_blk, KE_normal, KE_ret, KE_exit, KO_nil, KO_cons, KO_app_cons, KO_app_nil, KO1_true, KO1_false, KO2_true, KO2_false, KO3_some, KO4_some, loopQ_ret, loopQ_exit, wantA, isCall, stepOp, evalO, evalL, evalP, evalM, putDst, flat, cond_true, cond_false, Nat.reduceLT, ↓reduceIte, Trie.get_set, Nat.reduceEqDiff, Nat.one_ne_zero, Nat.zero_ne_one, aBuiltin, abinG, guardFree, abin, aInt, aUn, aNilCheck, retQ, retQ1, aresults, aresultL, aresult, mkF, undefV, reduceCtorEq, List.getElem?_toArray, List.append_eq, List.cons_append, List.nil_append, List.getElem?_cons_zero, List.getElem?_cons_succ, Option.bind_some, Bool.not_true, Bool.not_false, beq_self_eq_true, aExtract, calleeOf, awrap_u8, Bool.true_beq, Bool.false_beq, beq_true, beq_false, decide_true, decide_false, Bool.not_not, Bool.and_true, Bool.true_and, Bool.and_false, Bool.false_and, Nat.reduceBEq, Bool.or_self, Bool.false_eq_true, KD_done, KD_no, KD_fl, KF1_some, KF2_true, KF2_false, KF3_some, KF4_some, KD_ch, KG1_some, KG2_true, KG2_false, KG3_true, KG3_false, KG4_some, KG5_some, HoldsAll, Holds_eq, H1_some, H2_true, H2_false, H3_some, HD_some, HD_none, List.filter_nil, List.filter_cons, List.contains_cons, List.contains_nil, Bool.or_false, Bool.false_or, Bool.true_or, Bool.or_true, true_and, and_true, lp3, wfl3, aadd, Nat.zero_add, lc3, ec, st4, lp4]
  have blcs : bl cs0 = bl cs := by unfold bl; rw [hbl0]
  have hna0 : blk cs0 ≠ some a := by rw [hbl0]; exact hk.na
  have hg4 : GS 1 (h3.put a (.cells [r, ve, d, pl, .int .i64 (wordsM S), cs0])) cs0 0 [] := GS.put hg0 _ hna0
  have oa4 : (h3.put a (.cells [r, ve, d, pl, .int .i64 (wordsM S), cs0])).own a = some (.cells [r, ve, d, pl, .int .i64 (wordsM S), cs0]) := AHeap.own_put_eq _ _ _
  have F4 : Le (rem (spa a cs) h) (rem (spa a cs) (h3.put a (.cells [r, ve, d, pl, .int .i64 (wordsM S), cs0]))) :=
    (((le1.trans le2).trans le3).mono_rem (l := spa a cs)).put_rem _ (by simp [spa])
  have wf4 : WF (h3.put a (.cells [r, ve, d, pl, .int .i64 (wordsM S), cs0])) := wf3.put _ (wf3.lt oa3)
  have hla : l ≠ a := fun e => by subst e; rw [le1.own _ _ hk.ow] at nl1; cases nl1
  have hwa : w ≠ a := fun e => by subst e; rw [(le1.trans le2).own _ _ hk.ow] at nw2; cases nw2
  have op4 : (h3.put a (.cells [r, ve, d, pl, .int .i64 (wordsM S), cs0])).own p = some (.cells [.pointer (some ⟨a, 0, none⟩)]) := by rw [AHeap.own_put_ne _ _ _ _ hpa]; exact (le2.trans le3).own _ _ op1
  have ol4 : (h3.put a (.cells [r, ve, d, pl, .int .i64 (wordsM S), cs0])).own l = some (.cells [lv]) := by rw [AHeap.own_put_ne _ _ _ _ hla]; exact le3.own _ _ ol2
  have ow4 : (h3.put a (.cells [r, ve, d, pl, .int .i64 (wordsM S), cs0])).own w = some (.cells [.slice none 0 0, .slice none 0 0]) := by rw [AHeap.own_put_ne _ _ _ _ hwa]; exact ow3
  -- the new blocks are none of the code's
  have fresh : ∀ {i : Nat} {g : AHeap}, Le h g → g.own i = none → i ∉ spa a cs := fun {i g} e hn hm => by
    simp only [spa, List.mem_cons, mem_bl] at hm
    rcases hm with rfl | hm
    · rw [e.own _ _ hk.ow] at hn; cases hn
    · obtain ⟨o, ho⟩ := Option.ne_none_iff_exists'.1 (hC0.1.blk_own hm)
      rw [e.own _ _ ho] at hn; cases hn
  have hpn := fresh (Le.refl h) np1
  have hln := fresh le1 nl1
  have hwn := fresh (le1.trans le2) nw2
  generalize h3.put a (.cells [r, ve, d, pl, .int .i64 (wordsM S), cs0]) = h4 at *
  have ll4 := aload_one (P := Try.prog) (t := 34) (off := 0) Try.underlying34 rfl ol4
  simp only [List.getElem?_cons_zero] at ll4
  subst hlv0
  have hheld : aEq Try.prog 34 (.slice la ln lc) (.slice none 0 0) = some (!L.isSome) := by simp [aEq, Try.underlying34, hla0]
  -- whether it is held
  obtain ⟨h5', h5, e5, s5, oh5, le5, wf5, nh4⟩ := box1 (P := Try.prog) (t := 4) (z := .bool false) (x := .bool L.isSome) wf4 Try.underlying4 rfl rfl rfl rfl (by kernel_rfl) rfl rfl
  simp only [beq_dec, fst_mk, snd_mk, VK_skip, VK_ret, VK_exit, VK_seq, VK_block, VK_region, VK_draw, VK_cond, KCond_true, KCond_false, VK_loop, KN_nil, KN_seq, KN_blk, KX_ret_nil, KX_ret_seq, KX_ret_blk, KX_exit_nil, KX_exit_seq, KX_exit_blk, KE_normal, KE_ret, KE_exit, KO_nil, KO_cons, KO_app_cons, KO_app_nil, KO1_true, KO1_false, KO2_true, KO2_false, KO3_some, KO4_some, loopQ_ret, loopQ_exit, wantA, isCall, stepOp, evalO, evalL, evalP, evalM, putDst, flat, cond_true, cond_false, Nat.reduceLT, ↓reduceIte, Trie.get_set, Nat.reduceEqDiff, Nat.one_ne_zero, Nat.zero_ne_one, aBuiltin, abinG, guardFree, abin, aInt, aUn, aNilCheck, retQ, retQ1, aresults, aresultL, aresult, mkF, undefV, reduceCtorEq, List.getElem?_toArray, List.append_eq, List.cons_append, List.nil_append, List.getElem?_cons_zero, List.getElem?_cons_succ, Option.bind_some, Bool.not_true, Bool.not_false, beq_self_eq_true, aExtract, calleeOf, awrap_u8, Bool.true_beq, Bool.false_beq, beq_true, beq_false, decide_true, decide_false, Bool.not_not, Bool.and_true, Bool.true_and, Bool.and_false, Bool.false_and, ll4, hheld, e5, s5]
  generalize hhd : h4.next = hd at *
  obtain ⟨h6', h6, e6, s6, of6, le6, wf6, nf5⟩ := box1 (P := Try.prog) (t := 67) (z := .nilFunc) (x := .func (.func 37) #[] #[.pointer (some ⟨p, 0, none⟩), .pointer (some ⟨hd, 0, none⟩), .pointer (some ⟨l, 0, none⟩)]) wf5 Try.underlying67 rfl rfl rfl rfl (by kernel_rfl) rfl rfl
  simp only [beq_dec, fst_mk, snd_mk, VK_skip, VK_ret, VK_exit, VK_seq, VK_block, VK_region, VK_draw, VK_cond, KCond_true, KCond_false, VK_loop, KN_nil, KN_seq, KN_blk, KX_ret_nil, KX_ret_seq, KX_ret_blk, KX_exit_nil, KX_exit_seq, KX_exit_blk, KE_normal, KE_ret, KE_exit, KO_nil, KO_cons, KO_app_cons, KO_app_nil, KO1_true, KO1_false, KO2_true, KO2_false, KO3_some, KO4_some, loopQ_ret, loopQ_exit, wantA, isCall, stepOp, evalO, evalL, evalP, evalM, putDst, flat, cond_true, cond_false, Nat.reduceLT, ↓reduceIte, Trie.get_set, Nat.reduceEqDiff, Nat.one_ne_zero, Nat.zero_ne_one, aBuiltin, abinG, guardFree, abin, aInt, aUn, aNilCheck, retQ, retQ1, aresults, aresultL, aresult, mkF, undefV, reduceCtorEq, List.getElem?_toArray, List.append_eq, List.cons_append, List.nil_append, List.getElem?_cons_zero, List.getElem?_cons_succ, Option.bind_some, Bool.not_true, Bool.not_false, beq_self_eq_true, aExtract, calleeOf, awrap_u8, Bool.true_beq, Bool.false_beq, beq_true, beq_false, decide_true, decide_false, Bool.not_not, Bool.and_true, Bool.true_and, Bool.and_false, Bool.false_and, e6, s6]
  generalize hf1 : h5.next = f1 at *
  obtain ⟨h7', h7, e7, s7, of7, le7, wf7, nf6⟩ := box1 (P := Try.prog) (t := 67) (z := .nilFunc) (x := .func (.func 39) #[] #[.pointer (some ⟨f1, 0, none⟩)]) wf6 Try.underlying67 rfl rfl rfl rfl (by kernel_rfl) rfl rfl
  simp only [beq_dec, fst_mk, snd_mk, VK_skip, VK_ret, VK_exit, VK_seq, VK_block, VK_region, VK_draw, VK_cond, KCond_true, KCond_false, VK_loop, KN_nil, KN_seq, KN_blk, KX_ret_nil, KX_ret_seq, KX_ret_blk, KX_exit_nil, KX_exit_seq, KX_exit_blk, KE_normal, KE_ret, KE_exit, KO_nil, KO_cons, KO_app_cons, KO_app_nil, KO1_true, KO1_false, KO2_true, KO2_false, KO3_some, KO4_some, loopQ_ret, loopQ_exit, wantA, isCall, stepOp, evalO, evalL, evalP, evalM, putDst, flat, cond_true, cond_false, Nat.reduceLT, ↓reduceIte, Trie.get_set, Nat.reduceEqDiff, Nat.one_ne_zero, Nat.zero_ne_one, aBuiltin, abinG, guardFree, abin, aInt, aUn, aNilCheck, retQ, retQ1, aresults, aresultL, aresult, mkF, undefV, reduceCtorEq, List.getElem?_toArray, List.append_eq, List.cons_append, List.nil_append, List.getElem?_cons_zero, List.getElem?_cons_succ, Option.bind_some, Bool.not_true, Bool.not_false, beq_self_eq_true, aExtract, calleeOf, awrap_u8, Bool.true_beq, Bool.false_beq, beq_true, beq_false, decide_true, decide_false, Bool.not_not, Bool.and_true, Bool.true_and, Bool.and_false, Bool.false_and, e7, s7]
  generalize hf2 : h6.next = f2 at *
  have le47 := (le5.trans le6).trans le7
  have fresh4 : ∀ {i : Nat} {g : AHeap}, Le h4 g → g.own i = none → i ∉ spa a cs := fun {i g} e hn hm => by
    simp only [spa, List.mem_cons, mem_bl] at hm
    rcases hm with rfl | hm
    · rw [e.own _ _ oa4] at hn; cases hn
    · obtain ⟨o, ho⟩ := Option.ne_none_iff_exists'.1 (hg4.blk_own (by rw [hbl0]; exact hm))
      rw [e.own _ _ ho] at hn; cases hn
  have hhdn := fresh4 (Le.refl h4) nh4
  have hspe : ∀ i, i ∈ sp a hd cs0 ↔ i ∈ spa a cs ∨ i = hd := fun i => by
    simp only [sp, spa, List.mem_cons, blcs]
    constructor
    · rintro (e | e | e); exact .inl (.inl e); exact .inr e; exact .inl (.inr e)
    · rintro ((e | e) | e); exact .inl e; exact .inr (.inr e); exact .inr (.inl e)
  have hne : a ≠ hd := fun e => hhdn (by rw [← e]; simp [spa])
  have hnhd : blk cs0 ≠ some hd := fun e => hhdn (by simp [spa, mem_bl, ← hbl0, e])
  have wk7 : WkS h7 a hd r ve d pl (wordsM S) cs0 [] L.isSome :=
    ⟨le47.own _ _ oa4, (le6.trans le7).own _ _ oh5, ⟨hg4.le le47, fun x hx => by cases hx⟩, hcu0, hna0, hnhd, hne, hs.rot.one, hs.vert.one, hs.dart.one, hpl.one⟩
  have hh7 : HeldOK L [] L.isSome := by
    cases L with
    | none => exact .inl rfl
    | some l => exact ⟨l, rfl, l, rfl⟩
  have nsp : ∀ {i : Nat} {o : AObj}, h4.own i = some o → i ∉ spa a cs → i ∉ sp a hd cs0 := fun {i o} ho hn hm => by
    rcases (hspe i).1 hm with e | e
    · exact hn e
    · subst e; rw [ho] at nh4; cases nh4
  have F7 : Le (rem (spa a cs) h) (rem (sp a hd cs0) h7) := ((F4.trans (rem_le _ _)).trans le47).of_none fun i hi => by
    rcases (hspe i).1 hi with e | e
    · rw [rem_own, if_pos e]
    · subst e; exact (F4.trans (rem_le _ _)).none nh4
  have hf1n : f1 ∉ sp a hd cs0 := fun hm => by
    rcases (hspe f1).1 hm with e | e
    · exact fresh4 le5 nf5 e
    · rw [e, oh5] at nf5; cases nf5
  have hf2n : f2 ∉ sp a hd cs0 := fun hm => by
    rcases (hspe f2).1 hm with e | e
    · exact fresh4 (le5.trans le6) nf6 e
    · rw [e, le6.own _ _ oh5] at nf6; cases nf6
  have env7 : Env (rem (sp a hd cs0) h7) a hd p l f1 (.slice la ln lc) L :=
    ⟨rem_some.2 ⟨le47.own _ _ op4, nsp op4 hpn⟩, rem_some.2 ⟨le47.own _ _ ol4, nsp ol4 hln⟩, hL.le F7, rem_some.2 ⟨le7.own _ _ of6, hf1n⟩⟩
  have of27 : (rem (sp a hd cs0) h7).own f2 = some (.cells [.func (.func 39) #[] #[.pointer (some ⟨f1, 0, none⟩)]]) := rem_some.2 ⟨of7, hf2n⟩
  have owG : (rem (sp a hd cs0) h7).own w = some (.cells [.slice none 0 0, .slice none 0 0]) := rem_some.2 ⟨le47.own _ _ ow4, nsp ow4 hwn⟩
  have fresh7 : ∀ {i : Nat} {g : AHeap}, Le h7 g → g.own i = none → i ∉ sp a hd cs0 ∧ (rem (sp a hd cs0) h7).own i = none := fun {i g} e hn => by
    refine ⟨fun hm => ?_, ((rem_le _ _).trans e).none hn⟩
    rcases (hspe i).1 hm with q | q
    · exact fresh4 (le47.trans e) hn q
    · rw [q, e.own _ _ wk7.ohd] at hn; cases hn
  have hs7 := hs.le F7
  have hpl7 := hpl.le (.RL .isI) F7
  have fw : (rem (spa a cs) h).own w = none := ((rem_le _ _).trans (le1.trans le2)).none nw2
  clear hs hpl hL le1 wf1 np1 b1 op1 le2 wf2 nl1 le3 wf3 oa3 lp3 lr3 nw2 ow3 b3 lc3 ec hg0 hpa hla hwa fresh hpn hln hwn st4 lp4 lc4 hg4 oa4 F4 op4 ol4 ow4 ll4 hheld e5 s5 e6 s6 e7 s7 le5 wf5 le6 wf6 le7 nh4 nf5 nf6 of6 of7 oh5 fresh4 nsp hspe
  generalize hG : rem (sp a hd cs0) h7 = G at *
  -- the order, what is called, where it is entered
  have hn14 := hm.rot
  have nlr := fun h' => hs7.rot.len (P := Try.prog) Try.underlying23 h'
  have e8 : aBuildSlice Try.prog h7 31 1 [(0, .int .i64 v)] = some (.slice (some ⟨h7.next, 0, none⟩) 1 1, h7.alloc (.cells [.int .i64 v])) := rfl
  have le8 : Le h7 (h7.alloc (.cells [.int .i64 v])) := (Le.refl h7).alloc wf7 _
  have oo8 : (h7.alloc (.cells [.int .i64 v])).own h7.next = some (.cells [.int .i64 v]) := AHeap.own_alloc_eq _ _
  have wf8 := wf7.alloc (.cells [.int .i64 v])
  have no7 : h7.own h7.next = none := (Le.refl h7).next wf7 (Nat.le_refl _)
  simp only [beq_dec, fst_mk, snd_mk, VK_skip, VK_ret, VK_exit, VK_seq, VK_block, VK_region, VK_draw, VK_cond, KCond_true, KCond_false, VK_loop, KN_nil, KN_seq, KN_blk, KX_ret_nil, KX_ret_seq, KX_ret_blk, KX_exit_nil, KX_exit_seq, KX_exit_blk, KE_normal, KE_ret, KE_exit, KO_nil, KO_cons, KO_app_cons, KO_app_nil, KO1_true, KO1_false, KO2_true, KO2_false, KO3_some, KO4_some, loopQ_ret, loopQ_exit, wantA, isCall, stepOp, evalO, evalL, evalP, evalM, putDst, flat, cond_true, cond_false, Nat.reduceLT, ↓reduceIte, Trie.get_set, Nat.reduceEqDiff, Nat.one_ne_zero, Nat.zero_ne_one, aBuiltin, abinG, guardFree, abin, aInt, aUn, aNilCheck, retQ, retQ1, aresults, aresultL, aresult, mkF, undefV, reduceCtorEq, List.getElem?_toArray, List.append_eq, List.cons_append, List.nil_append, List.getElem?_cons_zero, List.getElem?_cons_succ, Option.bind_some, Bool.not_true, Bool.not_false, beq_self_eq_true, aExtract, calleeOf, awrap_u8, Bool.true_beq, Bool.false_beq, beq_true, beq_false, decide_true, decide_false, Bool.not_not, Bool.and_true, Bool.true_and, Bool.and_false, Bool.false_and, e8]
  generalize h7.alloc (.cells [.int .i64 v]) = h8 at *
  generalize ho : h7.next = o at *
  have e9 : aBuildSlice Try.prog h8 31 1 [(0, .int .i64 (-1))] = some (.slice (some ⟨h8.next, 0, none⟩) 1 1, h8.alloc (.cells [.int .i64 (-1)])) := rfl
  have le9 : Le h8 (h8.alloc (.cells [.int .i64 (-1)])) := (Le.refl h8).alloc wf8 _
  have oo9 : (h8.alloc (.cells [.int .i64 (-1)])).own h8.next = some (.cells [.int .i64 (-1)]) := AHeap.own_alloc_eq _ _
  have nx9 : (h8.alloc (.cells [.int .i64 (-1)])).next = h8.next + 1 := rfl
  simp only [beq_dec, fst_mk, snd_mk, VK_skip, VK_ret, VK_exit, VK_seq, VK_block, VK_region, VK_draw, VK_cond, KCond_true, KCond_false, VK_loop, KN_nil, KN_seq, KN_blk, KX_ret_nil, KX_ret_seq, KX_ret_blk, KX_exit_nil, KX_exit_seq, KX_exit_blk, KE_normal, KE_ret, KE_exit, KO_nil, KO_cons, KO_app_cons, KO_app_nil, KO1_true, KO1_false, KO2_true, KO2_false, KO3_some, KO4_some, loopQ_ret, loopQ_exit, wantA, isCall, stepOp, evalO, evalL, evalP, evalM, putDst, flat, cond_true, cond_false, Nat.reduceLT, ↓reduceIte, Trie.get_set, Nat.reduceEqDiff, Nat.one_ne_zero, Nat.zero_ne_one, aBuiltin, abinG, guardFree, abin, aInt, aUn, aNilCheck, retQ, retQ1, aresults, aresultL, aresult, mkF, undefV, reduceCtorEq, List.getElem?_toArray, List.append_eq, List.cons_append, List.nil_append, List.getElem?_cons_zero, List.getElem?_cons_succ, Option.bind_some, Bool.not_true, Bool.not_false, beq_self_eq_true, aExtract, calleeOf, awrap_u8, Bool.true_beq, Bool.false_beq, beq_true, beq_false, decide_true, decide_false, Bool.not_not, Bool.and_true, Bool.true_and, Bool.and_false, Bool.false_and, e9, nlr]
  generalize h8.alloc (.cells [.int .i64 (-1)]) = h9 at *
  refine KCall.intro (by simp only [beq_dec, fst_mk, snd_mk, VK_skip, VK_ret, VK_exit, VK_seq, VK_block, VK_region, VK_draw, VK_cond, KCond_true, KCond_false, VK_loop, KN_nil, KN_seq, KN_blk, KX_ret_nil, KX_ret_seq, KX_ret_blk, KX_exit_nil, KX_exit_seq, KX_exit_blk, KE_normal, KE_ret, KE_exit, KO_nil, KO_cons, KO_app_cons, KO_app_nil, KO1_true, KO1_false, KO2_true, KO2_false, KO3_some, KO4_some, loopQ_ret, loopQ_exit, wantA, isCall, stepOp, evalO, evalL, evalP, evalM, putDst, flat, cond_true, cond_false, Nat.reduceLT, ↓reduceIte, Trie.get_set, Nat.reduceEqDiff, Nat.one_ne_zero, Nat.zero_ne_one, aBuiltin, abinG, guardFree, abin, aInt, aUn, aNilCheck, retQ, retQ1, aresults, aresultL, aresult, mkF, undefV, reduceCtorEq, List.getElem?_toArray, List.append_eq, List.cons_append, List.nil_append, List.getElem?_cons_zero, List.getElem?_cons_succ, Option.bind_some, Bool.not_true, Bool.not_false, beq_self_eq_true, aExtract, calleeOf, awrap_u8, Bool.true_beq, Bool.false_beq, beq_true, beq_false, decide_true, decide_false, Bool.not_not, Bool.and_true, Bool.true_and, Bool.and_false, Bool.false_and] <;> rfl) ⟨Try.func42, rfl, by decide⟩ (Repeat_any W0 _ S.rot.length (by omega) h9 (RL.ofI (xs := [-1]) (RS.whole oo9 rfl))) ?_
  rintro x h10 wf10 ⟨c1, rfl, hc1, oc1, le10⟩
  have nc1 : h8.own c1 = none := (Le.refl h8).next wf8 (by omega)
  have mk := aMakeSlice1 (P := Try.prog) (t := 31) h10 Try.underlying31 rfl rfl rfl rfl (by kernel_rfl) Try.underlying3 (by kernel_rfl) S.rot.length (by omega)
  have le11 : Le h10 (h10.alloc (.cells (List.replicate S.rot.length (.int .i64 0)))) := (Le.refl h10).alloc wf10 _
  have oc2 : (h10.alloc (.cells (List.replicate S.rot.length (.int .i64 0)))).own h10.next = some (.cells (List.replicate S.rot.length (.int .i64 0))) := AHeap.own_alloc_eq _ _
  have wf11 := wf10.alloc (.cells (List.replicate S.rot.length (.int .i64 0)))
  have nc2 : h10.own h10.next = none := (Le.refl h10).next wf10 (Nat.le_refl _)
  simp only [beq_dec, fst_mk, snd_mk, VK_skip, VK_ret, VK_exit, VK_seq, VK_block, VK_region, VK_draw, VK_cond, KCond_true, KCond_false, VK_loop, KN_nil, KN_seq, KN_blk, KX_ret_nil, KX_ret_seq, KX_ret_blk, KX_exit_nil, KX_exit_seq, KX_exit_blk, KE_normal, KE_ret, KE_exit, KO_nil, KO_cons, KO_app_cons, KO_app_nil, KO1_true, KO1_false, KO2_true, KO2_false, KO3_some, KO4_some, loopQ_ret, loopQ_exit, wantA, isCall, stepOp, evalO, evalL, evalP, evalM, putDst, flat, cond_true, cond_false, Nat.reduceLT, ↓reduceIte, Trie.get_set, Nat.reduceEqDiff, Nat.one_ne_zero, Nat.zero_ne_one, aBuiltin, abinG, guardFree, abin, aInt, aUn, aNilCheck, retQ, retQ1, aresults, aresultL, aresult, mkF, undefV, reduceCtorEq, List.getElem?_toArray, List.append_eq, List.cons_append, List.nil_append, List.getElem?_cons_zero, List.getElem?_cons_succ, Option.bind_some, Bool.not_true, Bool.not_false, beq_self_eq_true, aExtract, calleeOf, awrap_u8, Bool.true_beq, Bool.false_beq, beq_true, beq_false, decide_true, decide_false, Bool.not_not, Bool.and_true, Bool.true_and, Bool.and_false, Bool.false_and, nlr, mk]
  generalize h10.alloc (.cells (List.replicate S.rot.length (.int .i64 0))) = h11 at *
  generalize hc2 : h10.next = c2 at *
  have n12 : c1 ≠ c2 := fun e => by rw [e, nc2] at oc1; cases oc1
  have oc1' := le11.own _ _ oc1
  have ix1 := aIdx (P := Try.prog) (t := 31) (a := ⟨c1, 0, none⟩) (n := S.rot.length) (cap := S.rot.length) Try.underlying31 Try.underlying3 (by kernel_rfl) (k := .i64) v hv
  have ix2 := aIdx (P := Try.prog) (t := 31) (a := ⟨c2, 0, none⟩) (n := S.rot.length) (cap := S.rot.length) Try.underlying31 Try.underlying3 (by kernel_rfl) (k := .i64) v hv
  have st1 := aStore1 (P := Try.prog) (t := 3) (x := .int .i64 0) Try.underlying3 (by kernel_rfl) oc1' (off := v) (by simpa using hv) rfl rfl
  have ec1 : (List.replicate S.rot.length (Value.int .i64 (-1))).set v (.int .i64 0) = I64 (calledM S.rot.length [v]) := by rw [calledM_one hv, I64, List.map_set, List.map_replicate]
  rw [ec1] at st1
  have oc22 : (h11.put c1 (.cells (I64 (calledM S.rot.length [v])))).own c2 = some (.cells (List.replicate S.rot.length (.int .i64 0))) := by rw [AHeap.own_put_ne _ _ _ _ (Ne.symm n12)]; exact oc2
  have st2 := aStore1 (P := Try.prog) (t := 3) (x := .int .i64 i) Try.underlying3 (by kernel_rfl) oc22 (off := v) (by simpa using hv) rfl rfl
  have ec2 : (List.replicate S.rot.length (Value.int .i64 0)).set v (.int .i64 i) = I64 (enteredM S.rot.length ⟨[v], [i], []⟩) := by rw [enteredM_one hv, I64, List.map_set, List.map_replicate]
  rw [ec2] at st2
  simp only [beq_dec, fst_mk, snd_mk, VK_skip, VK_ret, VK_exit, VK_seq, VK_block, VK_region, VK_draw, VK_cond, KCond_true, KCond_false, VK_loop, KN_nil, KN_seq, KN_blk, KX_ret_nil, KX_ret_seq, KX_ret_blk, KX_exit_nil, KX_exit_seq, KX_exit_blk, KE_normal, KE_ret, KE_exit, KO_nil, KO_cons, KO_app_cons, KO_app_nil, KO1_true, KO1_false, KO2_true, KO2_false, KO3_some, KO4_some, loopQ_ret, loopQ_exit, wantA, isCall, stepOp, evalO, evalL, evalP, evalM, putDst, flat, cond_true, cond_false, Nat.reduceLT, ↓reduceIte, Trie.get_set, Nat.reduceEqDiff, Nat.one_ne_zero, Nat.zero_ne_one, aBuiltin, abinG, guardFree, abin, aInt, aUn, aNilCheck, retQ, retQ1, aresults, aresultL, aresult, mkF, undefV, reduceCtorEq, List.getElem?_toArray, List.append_eq, List.cons_append, List.nil_append, List.getElem?_cons_zero, List.getElem?_cons_succ, Option.bind_some, Bool.not_true, Bool.not_false, beq_self_eq_true, aExtract, calleeOf, awrap_u8, Bool.true_beq, Bool.false_beq, beq_true, beq_false, decide_true, decide_false, Bool.not_not, Bool.and_true, Bool.true_and, Bool.and_false, Bool.false_and, ix1, ix2, aadd, Nat.zero_add, st1, st2]
  have le711 : Le h7 h11 := ((le8.trans le9).trans le10).trans le11
  have oo11 := ((le9.trans le10).trans le11).own _ _ oo8
  obtain ⟨c1n, c1g⟩ := fresh7 le8 nc1
  obtain ⟨c2n, c2g⟩ := fresh7 ((le8.trans le9).trans le10) nc2
  obtain ⟨on, og⟩ := fresh7 (Le.refl h7) no7
  have hoc1 : o ≠ c1 := fun e => by rw [← e, oo8] at nc1; cases nc1
  have hoc2 : o ≠ c2 := fun e => by rw [← e, (le9.trans le10).own _ _ oo8] at nc2; cases nc2
  have wi : WI G ((h11.put c1 (.cells (I64 (calledM S.rot.length [v])))).put c2 (.cells (I64 (enteredM S.rot.length ⟨[v], [i], []⟩)))) a hd c1 c2 S.rot.length r ve d pl (wordsM S) (.slice (some ⟨o, 0, none⟩) 1 1) cs0 (outM S mir v i 0) [] L.isSome := by
    refine ⟨((wk7.le le711).put _ c1n).put _ c2n, ?_, ?_, AHeap.own_put_eq _ _ _, ?_, c1n, c2n, n12, ?_, c1g, c2g, ?_⟩
    · refine Le.of_none (((hG ▸ rem_le _ _ : Le G h7).trans le711).put _ c1g |>.put _ c2g) fun i hi => ?_
      rw [← hG, rem_own, if_pos hi]
    · rw [AHeap.own_put_ne _ _ _ _ n12]; exact AHeap.own_put_eq _ _ _
    · exact ((GS.full (k := 1) (n := 1) oo11 rfl (by decide)).put _ (by simp [blk]; exact hoc1)).put _ (by simp [blk]; exact hoc2)
    · intro b hb; simp [blk] at hb; subst hb; exact ⟨hoc1, hoc2, on⟩
    · intro b hb; simp [blk] at hb; subst hb; exact og
  have wf13 : WF ((h11.put c1 (.cells (I64 (calledM S.rot.length [v])))).put c2 (.cells (I64 (enteredM S.rot.length ⟨[v], [i], []⟩)))) := (wf11.put _ (wf11.lt oc1')).put _ (wf11.lt oc2)
  generalize (h11.put c1 (.cells (I64 (calledM S.rot.length [v])))).put c2 (.cells (I64 (enteredM S.rot.length ⟨[v], [i], []⟩))) = h13 at *
  clear mk st1 st2 ec1 ec2 oc22 oc1' oc1 oc2 nc1 nc2 e8 e9 le8 le9 le10 le11 oo8 oo9 oo11 no7 le711 c1n c2n on og hoc1 hoc2
  -- how many words
  have lp := aload_one (P := Try.prog) (t := 56) (off := 0) Try.underlying56 rfl (rem_some.1 (wi.le.own _ _ env7.op)).1
  have lw := aload_one (P := Try.prog) (t := 3) (off := 4) Try.underlying3 rfl wi.wk.ow
  simp only [List.getElem?_cons_succ, List.getElem?_cons_zero] at lp lw
  simp only [beq_dec, fst_mk, snd_mk, VK_skip, VK_ret, VK_exit, VK_seq, VK_block, VK_region, VK_draw, VK_cond, KCond_true, KCond_false, VK_loop, KN_nil, KN_seq, KN_blk, KX_ret_nil, KX_ret_seq, KX_ret_blk, KX_exit_nil, KX_exit_seq, KX_exit_blk, KE_normal, KE_ret, KE_exit, KO_nil, KO_cons, KO_app_cons, KO_app_nil, KO1_true, KO1_false, KO2_true, KO2_false, KO3_some, KO4_some, loopQ_ret, loopQ_exit, wantA, isCall, stepOp, evalO, evalL, evalP, evalM, putDst, flat, cond_true, cond_false, Nat.reduceLT, ↓reduceIte, Trie.get_set, Nat.reduceEqDiff, Nat.one_ne_zero, Nat.zero_ne_one, aBuiltin, abinG, guardFree, abin, aInt, aUn, aNilCheck, retQ, retQ1, aresults, aresultL, aresult, mkF, undefV, reduceCtorEq, List.getElem?_toArray, List.append_eq, List.cons_append, List.nil_append, List.getElem?_cons_zero, List.getElem?_cons_succ, Option.bind_some, Bool.not_true, Bool.not_false, beq_self_eq_true, aExtract, calleeOf, awrap_u8, Bool.true_beq, Bool.false_beq, beq_true, beq_false, decide_true, decide_false, Bool.not_not, Bool.and_true, Bool.true_and, Bool.and_false, Bool.false_and, lp, wfl2, aadd, Nat.zero_add, lw]
  refine KCall.intro (by simp only [beq_dec, fst_mk, snd_mk, VK_skip, VK_ret, VK_exit, VK_seq, VK_block, VK_region, VK_draw, VK_cond, KCond_true, KCond_false, VK_loop, KN_nil, KN_seq, KN_blk, KX_ret_nil, KX_ret_seq, KX_ret_blk, KX_exit_nil, KX_exit_seq, KX_exit_blk, KE_normal, KE_ret, KE_exit, KO_nil, KO_cons, KO_app_cons, KO_app_nil, KO1_true, KO1_false, KO2_true, KO2_false, KO3_some, KO4_some, loopQ_ret, loopQ_exit, wantA, isCall, stepOp, evalO, evalL, evalP, evalM, putDst, flat, cond_true, cond_false, Nat.reduceLT, ↓reduceIte, Trie.get_set, Nat.reduceEqDiff, Nat.one_ne_zero, Nat.zero_ne_one, aBuiltin, abinG, guardFree, abin, aInt, aUn, aNilCheck, retQ, retQ1, aresults, aresultL, aresult, mkF, undefV, reduceCtorEq, List.getElem?_toArray, List.append_eq, List.cons_append, List.nil_append, List.getElem?_cons_zero, List.getElem?_cons_succ, Option.bind_some, Bool.not_true, Bool.not_false, beq_self_eq_true, aExtract, calleeOf, awrap_u8, Bool.true_beq, Bool.false_beq, beq_true, beq_false, decide_true, decide_false, Bool.not_not, Bool.and_true, Bool.true_and, Bool.and_false, Bool.false_and] <;> rfl) ⟨Try.func40, rfl, by decide⟩ (number_any W0 (wordsM S) h13) ?_
  rintro x h14 wf14 ⟨rfl, hex⟩
  obtain ⟨h15', h15, e15, s15, ob15, le15, wf15⟩ := num_box wf14 (wordsM S)
  simp only [beq_dec, fst_mk, snd_mk, VK_skip, VK_ret, VK_exit, VK_seq, VK_block, VK_region, VK_draw, VK_cond, KCond_true, KCond_false, VK_loop, KN_nil, KN_seq, KN_blk, KX_ret_nil, KX_ret_seq, KX_ret_blk, KX_exit_nil, KX_exit_seq, KX_exit_blk, KE_normal, KE_ret, KE_exit, KO_nil, KO_cons, KO_app_cons, KO_app_nil, KO1_true, KO1_false, KO2_true, KO2_false, KO3_some, KO4_some, loopQ_ret, loopQ_exit, wantA, isCall, stepOp, evalO, evalL, evalP, evalM, putDst, flat, cond_true, cond_false, Nat.reduceLT, ↓reduceIte, Trie.get_set, Nat.reduceEqDiff, Nat.one_ne_zero, Nat.zero_ne_one, aBuiltin, abinG, guardFree, abin, aInt, aUn, aNilCheck, retQ, retQ1, aresults, aresultL, aresult, mkF, undefV, reduceCtorEq, List.getElem?_toArray, List.append_eq, List.cons_append, List.nil_append, List.getElem?_cons_zero, List.getElem?_cons_succ, Option.bind_some, Bool.not_true, Bool.not_false, beq_self_eq_true, aExtract, calleeOf, awrap_u8, Bool.true_beq, Bool.false_beq, beq_true, beq_false, decide_true, decide_false, Bool.not_not, Bool.and_true, Bool.true_and, Bool.and_false, Bool.false_and, e15, s15]
  have wi15 := wi.up ((hex.le wf13).trans le15)
  have nbx : h14.next ∉ sp a hd cs0 := fun hmm => by
    have := wi.wk.lt wf13 _ hmm
    have := hex.next
    omega
  generalize hbx : h14.next = bx at *
  have lf := aload_one (P := Try.prog) (t := 67) (off := 0) Try.underlying67 rfl (rem_some.1 (wi15.le.own _ _ env7.of)).1
  simp only [List.getElem?_cons_zero] at lf
  have env15 := env7.le wi15.le
  refine KDraw.intro mixed (.fl 0 (.fl 1 (.ch 2 [0, 1] (.fl 3 (.done)) .no))) (by kernel_rfl) ?_
  simp only [beq_dec, fst_mk, snd_mk, VK_skip, VK_ret, VK_exit, VK_seq, VK_block, VK_region, VK_draw, VK_cond, KCond_true, KCond_false, VK_loop, KN_nil, KN_seq, KN_blk, KX_ret_nil, KX_ret_seq, KX_ret_blk, KX_exit_nil, KX_exit_seq, KX_exit_blk, KE_normal, KE_ret, KE_exit, KO_nil, KO_cons, KO_app_cons, KO_app_nil, KO1_true, KO1_false, KO2_true, KO2_false, KO3_some, KO4_some, loopQ_ret, loopQ_exit, wantA, isCall, stepOp, evalO, evalL, evalP, evalM, putDst, flat, cond_true, cond_false, Nat.reduceLT, ↓reduceIte, Trie.get_set, Nat.reduceEqDiff, Nat.one_ne_zero, Nat.zero_ne_one, aBuiltin, abinG, guardFree, abin, aInt, aUn, aNilCheck, retQ, retQ1, aresults, aresultL, aresult, mkF, undefV, reduceCtorEq, List.getElem?_toArray, List.append_eq, List.cons_append, List.nil_append, List.getElem?_cons_zero, List.getElem?_cons_succ, Option.bind_some, Bool.not_true, Bool.not_false, beq_self_eq_true, aExtract, calleeOf, awrap_u8, Bool.true_beq, Bool.false_beq, beq_true, beq_false, decide_true, decide_false, Bool.not_not, Bool.and_true, Bool.true_and, Bool.and_false, Bool.false_and, Nat.reduceBEq, Bool.or_self, Bool.false_eq_true, KD_done, KD_no, KD_fl, KF1_some, KF2_true, KF2_false, KF3_some, KF4_some, KD_ch, KG1_some, KG2_true, KG2_false, KG3_true, KG3_false, KG4_some, KG5_some, HoldsAll, Holds_eq, H1_some, H2_true, H2_false, H3_some, HD_some, HD_none, List.filter_nil, List.filter_cons, List.contains_cons, List.contains_nil, Bool.or_false, Bool.false_or, Bool.true_or, Bool.or_true, true_and, and_true, lf, num_slice]
  refine KGCall.intro (by simp only [beq_dec, fst_mk, snd_mk, VK_skip, VK_ret, VK_exit, VK_seq, VK_block, VK_region, VK_draw, VK_cond, KCond_true, KCond_false, VK_loop, KN_nil, KN_seq, KN_blk, KX_ret_nil, KX_ret_seq, KX_ret_blk, KX_exit_nil, KX_exit_seq, KX_exit_blk, KE_normal, KE_ret, KE_exit, KO_nil, KO_cons, KO_app_cons, KO_app_nil, KO1_true, KO1_false, KO2_true, KO2_false, KO3_some, KO4_some, loopQ_ret, loopQ_exit, wantA, isCall, stepOp, evalO, evalL, evalP, evalM, putDst, flat, cond_true, cond_false, Nat.reduceLT, ↓reduceIte, Trie.get_set, Nat.reduceEqDiff, Nat.one_ne_zero, Nat.zero_ne_one, aBuiltin, abinG, guardFree, abin, aInt, aUn, aNilCheck, retQ, retQ1, aresults, aresultL, aresult, mkF, undefV, reduceCtorEq, List.getElem?_toArray, List.append_eq, List.cons_append, List.nil_append, List.getElem?_cons_zero, List.getElem?_cons_succ, Option.bind_some, Bool.not_true, Bool.not_false, beq_self_eq_true, aExtract, calleeOf, awrap_u8, Bool.true_beq, Bool.false_beq, beq_true, beq_false, decide_true, decide_false, Bool.not_not, Bool.and_true, Bool.true_and, Bool.and_false, Bool.false_and] <;> rfl) ⟨Try.func37, rfl, by decide⟩ (note_any W0 h15 a hd p l _ r ve d pl cs0 _ (wordsM S) [] (num4 (wordsM S)) L.isSome L wi15.wk (num_rl (rem_some.2 ⟨ob15, nbx⟩)) env15.op env15.ol env15.lr hh7 (by rw [num4_length]; simp)) ?_
  rintro x h16 wf16 ⟨ok, held, cs1, rfl, wk16, R16, hno⟩
  have wi16 := wi15.note wk16 R16
  have lf16 := aload_one (P := Try.prog) (t := 67) (off := 0) Try.underlying67 rfl (rem_some.1 (wi16.le.own _ _ env7.of)).1
  simp only [List.getElem?_cons_zero] at lf16
  clear wi15 wi lf lp lw env15 e15 s15 ob15 le15 wf15 R16 wk16
  -- ends
  have endF : ∀ {hq : AHeap} {ov csq : Value} {s : Ws} {C : List Int} {held : Bool}, WI G hq a hd c1 c2 S.rot.length r ve d pl (wordsM S) ov csq s C held → (∃ l, L = some l ∧ ltL l (codeM S mir v i)) →
      ∃ hq', aStore Try.prog hq 36 (.pointer (some ⟨w, 0, none⟩)) (.agg #[.slice none 0 0, .slice none 0 0]) = some hq' ∧ aload Try.prog hq' 36 ⟨w, 0, none⟩ = some (.agg #[.slice none 0 0, .slice none 0 0]) ∧
        WPost h a r ve d pl (wordsM S) cs S mir v i L (.tuple #[.agg #[.slice none 0 0, .slice none 0 0], .bool false]) hq' := by
    intro hq ov csq s C held wq hf
    obtain ⟨hq', q1, q2, q3, q4, _⟩ := walk_end wq F7 owG fw (cv := .slice none 0 0) (ov' := .slice none 0 0) ⟨none, 0, rfl, by simp⟩ ⟨none, 0, rfl, by simp⟩
    exact ⟨hq', q1, q2, false, _, _, csq, rfl, q3, q4, .inr ⟨rfl, rfl, rfl, hf⟩⟩
  have above : ∀ {l X : List Int}, Above X l → (∃ r, codeM S mir v i = X ++ r) → ltL l (codeM S mir v i) := by
    rintro l X hA ⟨r, hr⟩; rw [hr]; exact hA r
  have hbld : aBuild Try.prog 36 [] = some (.agg #[.slice none 0 0, .slice none 0 0]) := by rfl
  rcases hno with ⟨rfl, hh16⟩ | ⟨rfl, l0, hl0, hab⟩
  rotate_left
  · obtain ⟨hq', q1, q2, q3⟩ := endF wi16 ⟨l0, hl0, above hab ⟨bytesM (finM S mir v i).words, rfl⟩⟩
    simp only [beq_dec, fst_mk, snd_mk, VK_skip, VK_ret, VK_exit, VK_seq, VK_block, VK_region, VK_draw, VK_cond, KCond_true, KCond_false, VK_loop, KN_nil, KN_seq, KN_blk, KX_ret_nil, KX_ret_seq, KX_ret_blk, KX_exit_nil, KX_exit_seq, KX_exit_blk, KE_normal, KE_ret, KE_exit, KO_nil, KO_cons, KO_app_cons, KO_app_nil, KO1_true, KO1_false, KO2_true, KO2_false, KO3_some, KO4_some, loopQ_ret, loopQ_exit, wantA, isCall, stepOp, evalO, evalL, evalP, evalM, putDst, flat, cond_true, cond_false, Nat.reduceLT, ↓reduceIte, Trie.get_set, Nat.reduceEqDiff, Nat.one_ne_zero, Nat.zero_ne_one, aBuiltin, abinG, guardFree, abin, aInt, aUn, aNilCheck, retQ, retQ1, aresults, aresultL, aresult, mkF, undefV, reduceCtorEq, List.getElem?_toArray, List.append_eq, List.cons_append, List.nil_append, List.getElem?_cons_zero, List.getElem?_cons_succ, Option.bind_some, Bool.not_true, Bool.not_false, beq_self_eq_true, aExtract, calleeOf, awrap_u8, Bool.true_beq, Bool.false_beq, beq_true, beq_false, decide_true, decide_false, Bool.not_not, Bool.and_true, Bool.true_and, Bool.and_false, Bool.false_and, Nat.reduceBEq, Bool.or_self, Bool.false_eq_true, KD_done, KD_no, KD_fl, KF1_some, KF2_true, KF2_false, KF3_some, KF4_some, KD_ch, KG1_some, KG2_true, KG2_false, KG3_true, KG3_false, KG4_some, KG5_some, HoldsAll, Holds_eq, H1_some, H2_true, H2_false, H3_some, HD_some, HD_none, List.filter_nil, List.filter_cons, List.contains_cons, List.contains_nil, Bool.or_false, Bool.false_or, Bool.true_or, Bool.or_true, true_and, and_true, lf16, num_slice, hbld, q1, q2]
    exact q3
  simp only [beq_dec, fst_mk, snd_mk, VK_skip, VK_ret, VK_exit, VK_seq, VK_block, VK_region, VK_draw, VK_cond, KCond_true, KCond_false, VK_loop, KN_nil, KN_seq, KN_blk, KX_ret_nil, KX_ret_seq, KX_ret_blk, KX_exit_nil, KX_exit_seq, KX_exit_blk, KE_normal, KE_ret, KE_exit, KO_nil, KO_cons, KO_app_cons, KO_app_nil, KO1_true, KO1_false, KO2_true, KO2_false, KO3_some, KO4_some, loopQ_ret, loopQ_exit, wantA, isCall, stepOp, evalO, evalL, evalP, evalM, putDst, flat, cond_true, cond_false, Nat.reduceLT, ↓reduceIte, Trie.get_set, Nat.reduceEqDiff, Nat.one_ne_zero, Nat.zero_ne_one, aBuiltin, abinG, guardFree, abin, aInt, aUn, aNilCheck, retQ, retQ1, aresults, aresultL, aresult, mkF, undefV, reduceCtorEq, List.getElem?_toArray, List.append_eq, List.cons_append, List.nil_append, List.getElem?_cons_zero, List.getElem?_cons_succ, Option.bind_some, Bool.not_true, Bool.not_false, beq_self_eq_true, aExtract, calleeOf, awrap_u8, Bool.true_beq, Bool.false_beq, beq_true, beq_false, decide_true, decide_false, Bool.not_not, Bool.and_true, Bool.true_and, Bool.and_false, Bool.false_and, Nat.reduceBEq, Bool.or_self, Bool.false_eq_true, KD_done, KD_no, KD_fl, KF1_some, KF2_true, KF2_false, KF3_some, KF4_some, KD_ch, KG1_some, KG2_true, KG2_false, KG3_true, KG3_false, KG4_some, KG5_some, HoldsAll, Holds_eq, H1_some, H2_true, H2_false, H3_some, HD_some, HD_none, List.filter_nil, List.filter_cons, List.contains_cons, List.contains_nil, Bool.or_false, Bool.false_or, Bool.true_or, Bool.or_true, true_and, and_true, lf16, num_slice]
  rw [List.nil_append] at wi16 hh16
  -- what may be read at all times
  have base : ∀ {hq : AHeap} {ov csq : Value} {s : Ws} {C : List Int} {held : Bool}, WI G hq a hd c1 c2 S.rot.length r ve d pl (wordsM S) ov csq s C held →
      aload Try.prog hq 67 ⟨f2, 0, none⟩ = some (.func (.func 39) #[] #[.pointer (some ⟨f1, 0, none⟩)]) ∧ aload Try.prog hq 56 ⟨p, 0, none⟩ = some (.pointer (some ⟨a, 0, none⟩)) ∧ aload Try.prog hq 24 ⟨a, 1, none⟩ = some ve ∧
      aload Try.prog hq 25 ⟨a, 2, none⟩ = some d ∧ aload Try.prog hq 22 ⟨a, 3, none⟩ = some pl ∧ Le G hq := by
    intro hq ov csq s C held wq
    refine ⟨?_, ?_, ?_, ?_, ?_, wq.le.trans (rem_le _ _)⟩
    · rw [aload_one Try.underlying67 rfl (rem_some.1 (wq.le.own _ _ of27)).1]; rfl
    · rw [aload_one Try.underlying56 rfl (rem_some.1 (wq.le.own _ _ env7.op)).1]; rfl
    · rw [aload_one Try.underlying24 rfl wq.wk.ow]; rfl
    · rw [aload_one Try.underlying25 rfl wq.wk.ow]; rfl
    · rw [aload_one Try.underlying22 rfl wq.wk.ow]; rfl
  have hlenC : ∀ k, k ≤ S.rot.length → (bytesM (outM S mir v i k).words).length ≤ 14000 := fun k hk => by
    have := out_len hm mir v i k
    omega
  refine KLoop.intro (fun k fr hh => ∃ (q : Nat) (ov csq : Value) (held : Bool), k = S.rot.length - q ∧ q ≤ S.rot.length ∧ fr = mkF [(3, .bool mir), (5, .pointer (some ⟨p, 0, none⟩)), (10, .pointer (some ⟨w, 0, none⟩)), (12, r), (15, .pointer (some ⟨f2, 0, none⟩)), (16, .func (.func 41) #[] #[.pointer (some ⟨f2, 0, none⟩)]), (17, ov), (18, .slice (some ⟨c1, 0, none⟩) S.rot.length S.rot.length), (19, .slice (some ⟨c2, 0, none⟩) S.rot.length S.rot.length), (21, .int .i64 q)] ∧
      WI G hh a hd c1 c2 S.rot.length r ve d pl (wordsM S) ov csq (outM S mir v i q) (num4 (wordsM S) ++ bytesM (outM S mir v i q).words) held ∧ HeldOK L (num4 (wordsM S) ++ bytesM (outM S mir v i q).words) held)
    S.rot.length [(3, .bool mir), (5, .pointer (some ⟨p, 0, none⟩)), (10, .pointer (some ⟨w, 0, none⟩)), (12, r), (15, .pointer (some ⟨f2, 0, none⟩)), (16, .func (.func 41) #[] #[.pointer (some ⟨f2, 0, none⟩)]), (17, .slice (some ⟨o, 0, none⟩) 1 1), (18, .slice (some ⟨c1, 0, none⟩) S.rot.length S.rot.length), (19, .slice (some ⟨c2, 0, none⟩) S.rot.length S.rot.length), (21, .int .i64 (0 : Nat))] (by simp only [hasAll, beq_dec, fst_mk, snd_mk, VK_skip, VK_ret, VK_exit, VK_seq, VK_block, VK_region, VK_draw, VK_cond, KCond_true, KCond_false, VK_loop, KN_nil, KN_seq, KN_blk, KX_ret_nil, KX_ret_seq, KX_ret_blk, KX_exit_nil, KX_exit_seq, KX_exit_blk, KE_normal, KE_ret, KE_exit, KO_nil, KO_cons, KO_app_cons, KO_app_nil, KO1_true, KO1_false, KO2_true, KO2_false, KO3_some, KO4_some, loopQ_ret, loopQ_exit, wantA, isCall, stepOp, evalO, evalL, evalP, evalM, putDst, flat, cond_true, cond_false, Nat.reduceLT, ↓reduceIte, Trie.get_set, Nat.reduceEqDiff, Nat.one_ne_zero, Nat.zero_ne_one, aBuiltin, abinG, guardFree, abin, aInt, aUn, aNilCheck, retQ, retQ1, aresults, aresultL, aresult, mkF, undefV, reduceCtorEq, List.getElem?_toArray, List.append_eq, List.cons_append, List.nil_append, List.getElem?_cons_zero, List.getElem?_cons_succ, Option.bind_some, Bool.not_true, Bool.not_false, beq_self_eq_true, aExtract, calleeOf, awrap_u8, Bool.true_beq, Bool.false_beq, beq_true, beq_false, decide_true, decide_false, Bool.not_not, Bool.and_true, Bool.true_and, Bool.and_false, Bool.false_and]; simp) ⟨0, _, cs1, held, rfl, Nat.zero_le _, rfl, by simpa [outM, bytesM] using wi16, by simpa [outM, bytesM] using hh16⟩ ?_
  clear wi16 hh16 lf16
  rintro k fr hh hwh ⟨q, ov, csq, held, rfl, hq, rfl, wi, hheld⟩
  have ook := out_ok hr hv hi (mir := mir) q hq
  have hlq := hlenC q hq
  have rso := wi.go.cs.rs
  have lo := rso.len (P := Try.prog) (t := 31) Try.underlying31 hh
  rw [I64_length, show (ints (outM S mir v i q).ord).length = (outM S mir v i q).ord.length by simp [ints]] at lo
  simp only [beq_dec, fst_mk, snd_mk, VK_skip, VK_ret, VK_exit, VK_seq, VK_block, VK_region, VK_draw, VK_cond, KCond_true, KCond_false, VK_loop, KN_nil, KN_seq, KN_blk, KX_ret_nil, KX_ret_seq, KX_ret_blk, KX_exit_nil, KX_exit_seq, KX_exit_blk, KE_normal, KE_ret, KE_exit, KO_nil, KO_cons, KO_app_cons, KO_app_nil, KO1_true, KO1_false, KO2_true, KO2_false, KO3_some, KO4_some, loopQ_ret, loopQ_exit, wantA, isCall, stepOp, evalO, evalL, evalP, evalM, putDst, flat, cond_true, cond_false, Nat.reduceLT, ↓reduceIte, Trie.get_set, Nat.reduceEqDiff, Nat.one_ne_zero, Nat.zero_ne_one, aBuiltin, abinG, guardFree, abin, aInt, aUn, aNilCheck, retQ, retQ1, aresults, aresultL, aresult, mkF, undefV, reduceCtorEq, List.getElem?_toArray, List.append_eq, List.cons_append, List.nil_append, List.getElem?_cons_zero, List.getElem?_cons_succ, Option.bind_some, Bool.not_true, Bool.not_false, beq_self_eq_true, aExtract, calleeOf, awrap_u8, Bool.true_beq, Bool.false_beq, beq_true, beq_false, decide_true, decide_false, Bool.not_not, Bool.and_true, Bool.true_and, Bool.and_false, Bool.false_and, lo]
  refine KCond.intro (fun ht => ?_) (fun hf => ?_)
  rotate_left
  · have hge : (outM S mir v i q).ord.length ≤ q := lt_f hf
    have hqn : q = S.rot.length := (ook.done hr (by have := ook.kle; omega)).1
    subst hqn
    obtain ⟨bf2, bp, bve, bd, bpl, bG⟩ := base wi
    have lcs : aload Try.prog hh 34 ⟨a, 5, none⟩ = some csq := by rw [aload_one Try.underlying34 rfl wi.wk.ow]; rfl
    simp only [beq_dec, fst_mk, snd_mk, VK_skip, VK_ret, VK_exit, VK_seq, VK_block, VK_region, VK_draw, VK_cond, KCond_true, KCond_false, VK_loop, KN_nil, KN_seq, KN_blk, KX_ret_nil, KX_ret_seq, KX_ret_blk, KX_exit_nil, KX_exit_seq, KX_exit_blk, KE_normal, KE_ret, KE_exit, KO_nil, KO_cons, KO_app_cons, KO_app_nil, KO1_true, KO1_false, KO2_true, KO2_false, KO3_some, KO4_some, loopQ_ret, loopQ_exit, wantA, isCall, stepOp, evalO, evalL, evalP, evalM, putDst, flat, cond_true, cond_false, Nat.reduceLT, ↓reduceIte, Trie.get_set, Nat.reduceEqDiff, Nat.one_ne_zero, Nat.zero_ne_one, aBuiltin, abinG, guardFree, abin, aInt, aUn, aNilCheck, retQ, retQ1, aresults, aresultL, aresult, mkF, undefV, reduceCtorEq, List.getElem?_toArray, List.append_eq, List.cons_append, List.nil_append, List.getElem?_cons_zero, List.getElem?_cons_succ, Option.bind_some, Bool.not_true, Bool.not_false, beq_self_eq_true, aExtract, calleeOf, awrap_u8, Bool.true_beq, Bool.false_beq, beq_true, beq_false, decide_true, decide_false, Bool.not_not, Bool.and_true, Bool.true_and, Bool.and_false, Bool.false_and, bp, wfl3, aadd, Nat.zero_add, lcs]
    refine KCall.intro (by simp only [beq_dec, fst_mk, snd_mk, VK_skip, VK_ret, VK_exit, VK_seq, VK_block, VK_region, VK_draw, VK_cond, KCond_true, KCond_false, VK_loop, KN_nil, KN_seq, KN_blk, KX_ret_nil, KX_ret_seq, KX_ret_blk, KX_exit_nil, KX_exit_seq, KX_exit_blk, KE_normal, KE_ret, KE_exit, KO_nil, KO_cons, KO_app_cons, KO_app_nil, KO1_true, KO1_false, KO2_true, KO2_false, KO3_some, KO4_some, loopQ_ret, loopQ_exit, wantA, isCall, stepOp, evalO, evalL, evalP, evalM, putDst, flat, cond_true, cond_false, Nat.reduceLT, ↓reduceIte, Trie.get_set, Nat.reduceEqDiff, Nat.one_ne_zero, Nat.zero_ne_one, aBuiltin, abinG, guardFree, abin, aInt, aUn, aNilCheck, retQ, retQ1, aresults, aresultL, aresult, mkF, undefV, reduceCtorEq, List.getElem?_toArray, List.append_eq, List.cons_append, List.nil_append, List.getElem?_cons_zero, List.getElem?_cons_succ, Option.bind_some, Bool.not_true, Bool.not_false, beq_self_eq_true, aExtract, calleeOf, awrap_u8, Bool.true_beq, Bool.false_beq, beq_true, beq_false, decide_true, decide_false, Bool.not_not, Bool.and_true, Bool.true_and, Bool.and_false, Bool.false_and] <;> rfl) ⟨Try.func43, rfl, by decide⟩ (Clone_any W0 csq (codeM S mir v i) hh wi.wk.gs.rl (by rw [codeM, List.length_append, num4_length]; show 4 + (bytesM (outM S mir v i S.rot.length).words).length ≤ _; omega)) ?_
    rintro cv hh2 wf2 ⟨gcv, apc, lec⟩
    have wi2 := wi.up lec
    have owned : ∀ {b : Nat}, hh.own b = none → b ≠ w ∧ b ∉ spa a csq := fun {b} hb => by
      refine ⟨fun e => ?_, fun hm => ?_⟩
      · rw [e, (wi.le.trans (rem_le _ _)).own _ _ owG] at hb; cases hb
      · simp only [spa, List.mem_cons, mem_bl] at hm
        rcases hm with e | e
        · rw [e, wi.wk.ow] at hb; cases hb
        · exact wi.wk.gs.1.blk_own e hb
    obtain ⟨hq', q1, q2, q3, q4, q5⟩ := walk_end wi2 F7 owG fw gcv.cs.sl wi2.go.cs.sl
    simp only [beq_dec, fst_mk, snd_mk, VK_skip, VK_ret, VK_exit, VK_seq, VK_block, VK_region, VK_draw, VK_cond, KCond_true, KCond_false, VK_loop, KN_nil, KN_seq, KN_blk, KX_ret_nil, KX_ret_seq, KX_ret_blk, KX_exit_nil, KX_exit_seq, KX_exit_blk, KE_normal, KE_ret, KE_exit, KO_nil, KO_cons, KO_app_cons, KO_app_nil, KO1_true, KO1_false, KO2_true, KO2_false, KO3_some, KO4_some, loopQ_ret, loopQ_exit, wantA, isCall, stepOp, evalO, evalL, evalP, evalM, putDst, flat, cond_true, cond_false, Nat.reduceLT, ↓reduceIte, Trie.get_set, Nat.reduceEqDiff, Nat.one_ne_zero, Nat.zero_ne_one, aBuiltin, abinG, guardFree, abin, aInt, aUn, aNilCheck, retQ, retQ1, aresults, aresultL, aresult, mkF, undefV, reduceCtorEq, List.getElem?_toArray, List.append_eq, List.cons_append, List.nil_append, List.getElem?_cons_zero, List.getElem?_cons_succ, Option.bind_some, Bool.not_true, Bool.not_false, beq_self_eq_true, aExtract, calleeOf, awrap_u8, Bool.true_beq, Bool.false_beq, beq_true, beq_false, decide_true, decide_false, Bool.not_not, Bool.and_true, Bool.true_and, Bool.and_false, Bool.false_and, wbuild2 cv ov gcv.cs.sl wi2.go.cs.sl, q1, q2]
    refine ⟨true, cv, ov, csq, rfl, q3, q4, .inl ⟨rfl, ⟨q5 _ _ _ _ gcv fun b hb => owned (apc b hb), wi.wk.gs.2⟩, q5 _ _ _ _ wi2.go fun b hb => ⟨fun e => ?_, fun hm => (wi2.nb b hb).2.2 (spa_sp hm)⟩, fun b hb => (F7.trans (wi.le.trans (rem_le _ _))).none (apc b hb), fun b hb => F7.none (wi2.ga b hb), hheld.not_lt⟩⟩
    have := wi2.ga b hb
    rw [e, owG] at this; cases this
  have hlt : q < (outM S mir v i q).ord.length := lt_t ht
  generalize hs : outM S mir v i q = s at *
  have hltE : q < s.ent.length := by rw [ook.len]; exact hlt
  have hu := ook.lt _ (List.getElem_mem hlt)
  have he := ook.ent q _ _ (getElem?_of hlt) (getElem?_of hltE)
  have hqn : q < S.rot.length := by have := ook.toStOK.le; omega
  have hIl : (I64 (ints s.ord)).length = s.ord.length := by simp [I64, ints]
  have ao := rso.addr (P := Try.prog) (t := 31) Try.underlying31 Try.underlying3 (by kernel_rfl) (k := .i64) q (by rw [hIl]; exact hlt)
  have lou := rso.load (P := Try.prog) (e := 3) Try.underlying3 rfl q (by rw [hIl]; exact hlt)
  rw [show (I64 (ints s.ord))[q]'(by rw [hIl]; exact hlt) = .int .i64 (s.ord[q] : Nat) by simp [I64, ints]] at lou
  have hstep : outM S mir v i (q + 1) = innM S mir s.ord[q] s.ent[q] (dg S s.ord[q]) (headM S s.ord[q] s) := by
    have e1 : s.ord.getD q 0 = s.ord[q] := getD_of hlt
    have e2 : s.ent.getD q 0 = s.ent[q] := getD_of hltE
    rw [outM, hs, e1, e2]
  generalize hsu : s.ord[q] = u at *
  generalize hse : s.ent[q] = e at *
  obtain ⟨ru, hru, hRu⟩ := hs7.rot.load' (P := Try.prog) Try.underlying31 rfl u hu
  have aru := hs7.rot.addr (P := Try.prog) Try.underlying23 Try.underlying31 (by kernel_rfl) (k := .i64) u hu
  have lru := fun h' => hRu.len (P := Try.prog) Try.underlying31 h'
  have hdu : S.rot[u].length = dg S u := by rw [dg, getD_of hu]
  rw [hdu] at lru
  obtain ⟨bf2, bp, bve, bd, bpl, bG⟩ := base wi
  simp only [beq_dec, fst_mk, snd_mk, VK_skip, VK_ret, VK_exit, VK_seq, VK_block, VK_region, VK_draw, VK_cond, KCond_true, KCond_false, VK_loop, KN_nil, KN_seq, KN_blk, KX_ret_nil, KX_ret_seq, KX_ret_blk, KX_exit_nil, KX_exit_seq, KX_exit_blk, KE_normal, KE_ret, KE_exit, KO_nil, KO_cons, KO_app_cons, KO_app_nil, KO1_true, KO1_false, KO2_true, KO2_false, KO3_some, KO4_some, loopQ_ret, loopQ_exit, wantA, isCall, stepOp, evalO, evalL, evalP, evalM, putDst, flat, cond_true, cond_false, Nat.reduceLT, ↓reduceIte, Trie.get_set, Nat.reduceEqDiff, Nat.one_ne_zero, Nat.zero_ne_one, aBuiltin, abinG, guardFree, abin, aInt, aUn, aNilCheck, retQ, retQ1, aresults, aresultL, aresult, mkF, undefV, reduceCtorEq, List.getElem?_toArray, List.append_eq, List.cons_append, List.nil_append, List.getElem?_cons_zero, List.getElem?_cons_succ, Option.bind_some, Bool.not_true, Bool.not_false, beq_self_eq_true, aExtract, calleeOf, awrap_u8, Bool.true_beq, Bool.false_beq, beq_true, beq_false, decide_true, decide_false, Bool.not_not, Bool.and_true, Bool.true_and, Bool.and_false, Bool.false_and, ao, lou, aru, hru _ bG, lru]
  -- the colour, and how many
  have huv : u < S.vert.length := by rw [hr.vert]; exact hu
  obtain ⟨cu', hcu1, hcu2⟩ := hs7.vert.load' (P := Try.prog) Try.underlying34 rfl u huv
  have acu := hs7.vert.addr (P := Try.prog) Try.underlying24 Try.underlying34 (by kernel_rfl) (k := .i64) u huv
  have hcv : S.vert[u] = colV S u := by rw [colV, getD_of huv]
  rw [hcv] at hcu2
  have hcvl := colV_le hm u
  have hdgl := dg_le hm u
  have henv := env7.le wi.le
  have hpre1 : ∃ r, codeM S mir v i = (num4 (wordsM S) ++ bytesM s.words) ++ (wordB (colV S u) ++ (countB (dg S u) ++ r)) := by
    obtain ⟨rr, hrr⟩ := ((innM_pre S mir u e (headM S u s) (dg S u)).trans (hstep ▸ outM_le S mir v i (show q + 1 ≤ S.rot.length from hqn))).bytes
    refine ⟨rr, ?_⟩
    rw [codeM, finM, hrr, headM, bytes_snoc]
    simp only [List.append_assoc, countB]
  refine KDraw.intro mixed (.fl 0 (.fl 1 (.fl 2 (.fl 3 (.fl 4 (.fl 5 (.fl 6 (.fl 7 (.fl 8 (.ch 9 [0, 8] (.fl 10 (.fl 11 (.fl 12 (.fl 13 (.ch 14 [11, 12, 13] (.fl 15 (.fl 16 (.done))) .no))))) .no)))))))))) (by kernel_rfl) ?_
  simp only [beq_dec, fst_mk, snd_mk, VK_skip, VK_ret, VK_exit, VK_seq, VK_block, VK_region, VK_draw, VK_cond, KCond_true, KCond_false, VK_loop, KN_nil, KN_seq, KN_blk, KX_ret_nil, KX_ret_seq, KX_ret_blk, KX_exit_nil, KX_exit_seq, KX_exit_blk, KE_normal, KE_ret, KE_exit, KO_nil, KO_cons, KO_app_cons, KO_app_nil, KO1_true, KO1_false, KO2_true, KO2_false, KO3_some, KO4_some, loopQ_ret, loopQ_exit, wantA, isCall, stepOp, evalO, evalL, evalP, evalM, putDst, flat, cond_true, cond_false, Nat.reduceLT, ↓reduceIte, Trie.get_set, Nat.reduceEqDiff, Nat.one_ne_zero, Nat.zero_ne_one, aBuiltin, abinG, guardFree, abin, aInt, aUn, aNilCheck, retQ, retQ1, aresults, aresultL, aresult, mkF, undefV, reduceCtorEq, List.getElem?_toArray, List.append_eq, List.cons_append, List.nil_append, List.getElem?_cons_zero, List.getElem?_cons_succ, Option.bind_some, Bool.not_true, Bool.not_false, beq_self_eq_true, aExtract, calleeOf, awrap_u8, Bool.true_beq, Bool.false_beq, beq_true, beq_false, decide_true, decide_false, Bool.not_not, Bool.and_true, Bool.true_and, Bool.and_false, Bool.false_and, Nat.reduceBEq, Bool.or_self, Bool.false_eq_true, KD_done, KD_no, KD_fl, KF1_some, KF2_true, KF2_false, KF3_some, KF4_some, KD_ch, KG1_some, KG2_true, KG2_false, KG3_true, KG3_false, KG4_some, KG5_some, HoldsAll, Holds_eq, H1_some, H2_true, H2_false, H3_some, HD_some, HD_none, List.filter_nil, List.filter_cons, List.contains_cons, List.contains_nil, Bool.or_false, Bool.false_or, Bool.true_or, Bool.or_true, true_and, and_true, bf2, bp, wfl0, fld1, aadd, Nat.zero_add, bve, acu, hcu1 _ bG]
  refine KGCall.intro (by simp only [beq_dec, fst_mk, snd_mk, VK_skip, VK_ret, VK_exit, VK_seq, VK_block, VK_region, VK_draw, VK_cond, KCond_true, KCond_false, VK_loop, KN_nil, KN_seq, KN_blk, KX_ret_nil, KX_ret_seq, KX_ret_blk, KX_exit_nil, KX_exit_seq, KX_exit_blk, KE_normal, KE_ret, KE_exit, KO_nil, KO_cons, KO_app_cons, KO_app_nil, KO1_true, KO1_false, KO2_true, KO2_false, KO3_some, KO4_some, loopQ_ret, loopQ_exit, wantA, isCall, stepOp, evalO, evalL, evalP, evalM, putDst, flat, cond_true, cond_false, Nat.reduceLT, ↓reduceIte, Trie.get_set, Nat.reduceEqDiff, Nat.one_ne_zero, Nat.zero_ne_one, aBuiltin, abinG, guardFree, abin, aInt, aUn, aNilCheck, retQ, retQ1, aresults, aresultL, aresult, mkF, undefV, reduceCtorEq, List.getElem?_toArray, List.append_eq, List.cons_append, List.nil_append, List.getElem?_cons_zero, List.getElem?_cons_succ, Option.bind_some, Bool.not_true, Bool.not_false, beq_self_eq_true, aExtract, calleeOf, awrap_u8, Bool.true_beq, Bool.false_beq, beq_true, beq_false, decide_true, decide_false, Bool.not_not, Bool.and_true, Bool.true_and, Bool.and_false, Bool.false_and] <;> rfl) ⟨Try.func39, rfl, by decide⟩ (word_any W0 hh a hd p l f1 _ r ve d pl csq _ (wordsM S) (num4 (wordsM S) ++ bytesM s.words) (colV S u) held L wi.wk (hcu2.le .isB wi.le) henv hheld (by rw [List.length_append, num4_length]; omega)) ?_
  rintro x hh1 wf1 ⟨ok, held1, csq1, C1, rfl, wk1, R1, hno1⟩
  have wi1 := wi.note wk1 R1
  obtain ⟨bf21, bp1, bve1, bd1, bpl1, bG1⟩ := base wi1
  rcases hno1 with ⟨rfl, rfl, hh1'⟩ | ⟨rfl, l0, hl0, hab⟩
  rotate_left
  · obtain ⟨rr, hrr⟩ := hpre1
    obtain ⟨hq', q1, q2, q3⟩ := endF wi1 ⟨l0, hl0, above hab ⟨_, by rw [hrr, ← List.append_assoc]⟩⟩
    simp only [beq_dec, fst_mk, snd_mk, VK_skip, VK_ret, VK_exit, VK_seq, VK_block, VK_region, VK_draw, VK_cond, KCond_true, KCond_false, VK_loop, KN_nil, KN_seq, KN_blk, KX_ret_nil, KX_ret_seq, KX_ret_blk, KX_exit_nil, KX_exit_seq, KX_exit_blk, KE_normal, KE_ret, KE_exit, KO_nil, KO_cons, KO_app_cons, KO_app_nil, KO1_true, KO1_false, KO2_true, KO2_false, KO3_some, KO4_some, loopQ_ret, loopQ_exit, wantA, isCall, stepOp, evalO, evalL, evalP, evalM, putDst, flat, cond_true, cond_false, Nat.reduceLT, ↓reduceIte, Trie.get_set, Nat.reduceEqDiff, Nat.one_ne_zero, Nat.zero_ne_one, aBuiltin, abinG, guardFree, abin, aInt, aUn, aNilCheck, retQ, retQ1, aresults, aresultL, aresult, mkF, undefV, reduceCtorEq, List.getElem?_toArray, List.append_eq, List.cons_append, List.nil_append, List.getElem?_cons_zero, List.getElem?_cons_succ, Option.bind_some, Bool.not_true, Bool.not_false, beq_self_eq_true, aExtract, calleeOf, awrap_u8, Bool.true_beq, Bool.false_beq, beq_true, beq_false, decide_true, decide_false, Bool.not_not, Bool.and_true, Bool.true_and, Bool.and_false, Bool.false_and, Nat.reduceBEq, Bool.or_self, Bool.false_eq_true, KD_done, KD_no, KD_fl, KF1_some, KF2_true, KF2_false, KF3_some, KF4_some, KD_ch, KG1_some, KG2_true, KG2_false, KG3_true, KG3_false, KG4_some, KG5_some, HoldsAll, Holds_eq, H1_some, H2_true, H2_false, H3_some, HD_some, HD_none, List.filter_nil, List.filter_cons, List.contains_cons, List.contains_nil, Bool.or_false, Bool.false_or, Bool.true_or, Bool.or_true, true_and, and_true, bf21, bp1, wfl0, fld1, aadd, Nat.zero_add, bve1, acu, hcu1 _ bG1, hbld, q1, q2]
    exact q3
  simp only [beq_dec, fst_mk, snd_mk, VK_skip, VK_ret, VK_exit, VK_seq, VK_block, VK_region, VK_draw, VK_cond, KCond_true, KCond_false, VK_loop, KN_nil, KN_seq, KN_blk, KX_ret_nil, KX_ret_seq, KX_ret_blk, KX_exit_nil, KX_exit_seq, KX_exit_blk, KE_normal, KE_ret, KE_exit, KO_nil, KO_cons, KO_app_cons, KO_app_nil, KO1_true, KO1_false, KO2_true, KO2_false, KO3_some, KO4_some, loopQ_ret, loopQ_exit, wantA, isCall, stepOp, evalO, evalL, evalP, evalM, putDst, flat, cond_true, cond_false, Nat.reduceLT, ↓reduceIte, Trie.get_set, Nat.reduceEqDiff, Nat.one_ne_zero, Nat.zero_ne_one, aBuiltin, abinG, guardFree, abin, aInt, aUn, aNilCheck, retQ, retQ1, aresults, aresultL, aresult, mkF, undefV, reduceCtorEq, List.getElem?_toArray, List.append_eq, List.cons_append, List.nil_append, List.getElem?_cons_zero, List.getElem?_cons_succ, Option.bind_some, Bool.not_true, Bool.not_false, beq_self_eq_true, aExtract, calleeOf, awrap_u8, Bool.true_beq, Bool.false_beq, beq_true, beq_false, decide_true, decide_false, Bool.not_not, Bool.and_true, Bool.true_and, Bool.and_false, Bool.false_and, Nat.reduceBEq, Bool.or_self, Bool.false_eq_true, KD_done, KD_no, KD_fl, KF1_some, KF2_true, KF2_false, KF3_some, KF4_some, KD_ch, KG1_some, KG2_true, KG2_false, KG3_true, KG3_false, KG4_some, KG5_some, HoldsAll, Holds_eq, H1_some, H2_true, H2_false, H3_some, HD_some, HD_none, List.filter_nil, List.filter_cons, List.contains_cons, List.contains_nil, Bool.or_false, Bool.false_or, Bool.true_or, Bool.or_true, true_and, and_true, bf21, bp1, wfl0, fld1, aadd, Nat.zero_add, bve1, acu, hcu1 _ bG1]
  have hl1 : (num4 (wordsM S) ++ bytesM s.words ++ wordB (colV S u)).length ≤ 15000 := by
    simp only [List.length_append, num4_length, wordB_length]; omega
  refine KGCall.intro (by simp only [beq_dec, fst_mk, snd_mk, VK_skip, VK_ret, VK_exit, VK_seq, VK_block, VK_region, VK_draw, VK_cond, KCond_true, KCond_false, VK_loop, KN_nil, KN_seq, KN_blk, KX_ret_nil, KX_ret_seq, KX_ret_blk, KX_exit_nil, KX_exit_seq, KX_exit_blk, KE_normal, KE_ret, KE_exit, KO_nil, KO_cons, KO_app_cons, KO_app_nil, KO1_true, KO1_false, KO2_true, KO2_false, KO3_some, KO4_some, loopQ_ret, loopQ_exit, wantA, isCall, stepOp, evalO, evalL, evalP, evalM, putDst, flat, cond_true, cond_false, Nat.reduceLT, ↓reduceIte, Trie.get_set, Nat.reduceEqDiff, Nat.one_ne_zero, Nat.zero_ne_one, aBuiltin, abinG, guardFree, abin, aInt, aUn, aNilCheck, retQ, retQ1, aresults, aresultL, aresult, mkF, undefV, reduceCtorEq, List.getElem?_toArray, List.append_eq, List.cons_append, List.nil_append, List.getElem?_cons_zero, List.getElem?_cons_succ, Option.bind_some, Bool.not_true, Bool.not_false, beq_self_eq_true, aExtract, calleeOf, awrap_u8, Bool.true_beq, Bool.false_beq, beq_true, beq_false, decide_true, decide_false, Bool.not_not, Bool.and_true, Bool.true_and, Bool.and_false, Bool.false_and] <;> rfl) ⟨Try.func41, rfl, by decide⟩ (count_any W0 hh1 a hd p l f1 f2 r ve d pl csq1 _ (wordsM S) (dg S u) _ held1 L wk1 (env7.le wi1.le) (wi1.le.own _ _ of27) hh1' (by omega)) ?_
  rintro x hh2 wf2 ⟨ok, held2, csq2, C2, rfl, wk2, R2, hno2⟩
  have wi2 := wi1.note wk2 R2
  obtain ⟨bf22, bp2, bve2, bd2, bpl2, bG2⟩ := base wi2
  rcases hno2 with ⟨rfl, rfl, hh2'⟩ | ⟨rfl, l0, hl0, hab⟩
  rotate_left
  · obtain ⟨rr, hrr⟩ := hpre1
    obtain ⟨hq', q1, q2, q3⟩ := endF wi2 ⟨l0, hl0, above hab ⟨rr, by rw [hrr]; simp only [List.append_assoc]⟩⟩
    simp only [beq_dec, fst_mk, snd_mk, VK_skip, VK_ret, VK_exit, VK_seq, VK_block, VK_region, VK_draw, VK_cond, KCond_true, KCond_false, VK_loop, KN_nil, KN_seq, KN_blk, KX_ret_nil, KX_ret_seq, KX_ret_blk, KX_exit_nil, KX_exit_seq, KX_exit_blk, KE_normal, KE_ret, KE_exit, KO_nil, KO_cons, KO_app_cons, KO_app_nil, KO1_true, KO1_false, KO2_true, KO2_false, KO3_some, KO4_some, loopQ_ret, loopQ_exit, wantA, isCall, stepOp, evalO, evalL, evalP, evalM, putDst, flat, cond_true, cond_false, Nat.reduceLT, ↓reduceIte, Trie.get_set, Nat.reduceEqDiff, Nat.one_ne_zero, Nat.zero_ne_one, aBuiltin, abinG, guardFree, abin, aInt, aUn, aNilCheck, retQ, retQ1, aresults, aresultL, aresult, mkF, undefV, reduceCtorEq, List.getElem?_toArray, List.append_eq, List.cons_append, List.nil_append, List.getElem?_cons_zero, List.getElem?_cons_succ, Option.bind_some, Bool.not_true, Bool.not_false, beq_self_eq_true, aExtract, calleeOf, awrap_u8, Bool.true_beq, Bool.false_beq, beq_true, beq_false, decide_true, decide_false, Bool.not_not, Bool.and_true, Bool.true_and, Bool.and_false, Bool.false_and, Nat.reduceBEq, Bool.or_self, Bool.false_eq_true, KD_done, KD_no, KD_fl, KF1_some, KF2_true, KF2_false, KF3_some, KF4_some, KD_ch, KG1_some, KG2_true, KG2_false, KG3_true, KG3_false, KG4_some, KG5_some, HoldsAll, Holds_eq, H1_some, H2_true, H2_false, H3_some, HD_some, HD_none, List.filter_nil, List.filter_cons, List.contains_cons, List.contains_nil, Bool.or_false, Bool.false_or, Bool.true_or, Bool.or_true, true_and, and_true, bf22, bp2, wfl0, fld1, aadd, Nat.zero_add, bve2, acu, hcu1 _ bG2, hbld, q1, q2]
    exact q3
  simp only [beq_dec, fst_mk, snd_mk, VK_skip, VK_ret, VK_exit, VK_seq, VK_block, VK_region, VK_draw, VK_cond, KCond_true, KCond_false, VK_loop, KN_nil, KN_seq, KN_blk, KX_ret_nil, KX_ret_seq, KX_ret_blk, KX_exit_nil, KX_exit_seq, KX_exit_blk, KE_normal, KE_ret, KE_exit, KO_nil, KO_cons, KO_app_cons, KO_app_nil, KO1_true, KO1_false, KO2_true, KO2_false, KO3_some, KO4_some, loopQ_ret, loopQ_exit, wantA, isCall, stepOp, evalO, evalL, evalP, evalM, putDst, flat, cond_true, cond_false, Nat.reduceLT, ↓reduceIte, Trie.get_set, Nat.reduceEqDiff, Nat.one_ne_zero, Nat.zero_ne_one, aBuiltin, abinG, guardFree, abin, aInt, aUn, aNilCheck, retQ, retQ1, aresults, aresultL, aresult, mkF, undefV, reduceCtorEq, List.getElem?_toArray, List.append_eq, List.cons_append, List.nil_append, List.getElem?_cons_zero, List.getElem?_cons_succ, Option.bind_some, Bool.not_true, Bool.not_false, beq_self_eq_true, aExtract, calleeOf, awrap_u8, Bool.true_beq, Bool.false_beq, beq_true, beq_false, decide_true, decide_false, Bool.not_not, Bool.and_true, Bool.true_and, Bool.and_false, Bool.false_and, Nat.reduceBEq, Bool.or_self, Bool.false_eq_true, KD_done, KD_no, KD_fl, KF1_some, KF2_true, KF2_false, KF3_some, KF4_some, KD_ch, KG1_some, KG2_true, KG2_false, KG3_true, KG3_false, KG4_some, KG5_some, HoldsAll, Holds_eq, H1_some, H2_true, H2_false, H3_some, HD_some, HD_none, List.filter_nil, List.filter_cons, List.contains_cons, List.contains_nil, Bool.or_false, Bool.false_or, Bool.true_or, Bool.or_true, true_and, and_true, bf22, bp2, wfl0, fld1, aadd, Nat.zero_add, bve2, acu, hcu1 _ bG2]
  have hCe : num4 (wordsM S) ++ bytesM s.words ++ wordB (colV S u) ++ countB (dg S u) = num4 (wordsM S) ++ bytesM (headM S u s).words := by
    rw [headM, bytes_snoc, countB]; simp only [List.append_assoc]
  rw [hCe] at wi2 hh2'
  refine KLoop.intro (fun k fr hq => ∃ (j : Nat) (ov csq : Value) (held : Bool), k = dg S u - j ∧ j ≤ dg S u ∧ fr = mkF [(3, .bool mir), (5, .pointer (some ⟨p, 0, none⟩)), (10, .pointer (some ⟨w, 0, none⟩)), (12, r), (15, .pointer (some ⟨f2, 0, none⟩)), (16, .func (.func 41) #[] #[.pointer (some ⟨f2, 0, none⟩)]), (17, ov), (18, .slice (some ⟨c1, 0, none⟩) S.rot.length S.rot.length), (19, .slice (some ⟨c2, 0, none⟩) S.rot.length S.rot.length), (21, .int .i64 q), (22, .int .i64 (u : Nat)), (23, .int .i64 (dg S u : Nat)), (104, .int .i64 (dg S u : Nat)), (105, .int .i64 j)] ∧
      WI G hq a hd c1 c2 S.rot.length r ve d pl (wordsM S) ov csq (innM S mir u e j (headM S u s)) (num4 (wordsM S) ++ bytesM (innM S mir u e j (headM S u s)).words) held ∧ HeldOK L (num4 (wordsM S) ++ bytesM (innM S mir u e j (headM S u s)).words) held)
    (dg S u) [(3, .bool mir), (5, .pointer (some ⟨p, 0, none⟩)), (10, .pointer (some ⟨w, 0, none⟩)), (12, r), (15, .pointer (some ⟨f2, 0, none⟩)), (16, .func (.func 41) #[] #[.pointer (some ⟨f2, 0, none⟩)]), (17, ov), (18, .slice (some ⟨c1, 0, none⟩) S.rot.length S.rot.length), (19, .slice (some ⟨c2, 0, none⟩) S.rot.length S.rot.length), (21, .int .i64 q), (22, .int .i64 (u : Nat)), (23, .int .i64 (dg S u : Nat)), (104, .int .i64 (dg S u : Nat)), (105, .int .i64 (0 : Nat))] (by simp only [hasAll, beq_dec, fst_mk, snd_mk, VK_skip, VK_ret, VK_exit, VK_seq, VK_block, VK_region, VK_draw, VK_cond, KCond_true, KCond_false, VK_loop, KN_nil, KN_seq, KN_blk, KX_ret_nil, KX_ret_seq, KX_ret_blk, KX_exit_nil, KX_exit_seq, KX_exit_blk, KE_normal, KE_ret, KE_exit, KO_nil, KO_cons, KO_app_cons, KO_app_nil, KO1_true, KO1_false, KO2_true, KO2_false, KO3_some, KO4_some, loopQ_ret, loopQ_exit, wantA, isCall, stepOp, evalO, evalL, evalP, evalM, putDst, flat, cond_true, cond_false, Nat.reduceLT, ↓reduceIte, Trie.get_set, Nat.reduceEqDiff, Nat.one_ne_zero, Nat.zero_ne_one, aBuiltin, abinG, guardFree, abin, aInt, aUn, aNilCheck, retQ, retQ1, aresults, aresultL, aresult, mkF, undefV, reduceCtorEq, List.getElem?_toArray, List.append_eq, List.cons_append, List.nil_append, List.getElem?_cons_zero, List.getElem?_cons_succ, Option.bind_some, Bool.not_true, Bool.not_false, beq_self_eq_true, aExtract, calleeOf, awrap_u8, Bool.true_beq, Bool.false_beq, beq_true, beq_false, decide_true, decide_false, Bool.not_not, Bool.and_true, Bool.true_and, Bool.and_false, Bool.false_and]; simp) ⟨0, ov, csq2, held2, rfl, Nat.zero_le _, rfl, wi2.words _, hh2'⟩ ?_
  clear wi2 hh2' wf2 wk2 R2 hh1' wi1 wk1 R1 wf1 bf22 bp2 bve2 bd2 bpl2 bG2 bf21 bp1 bve1 bd1 bpl1 bG1 bf2 bp bve bd bpl bG rso lo ao lou henv hl1 wi hheld hwh hpre1 hcu1 hcu2 acu
  rintro k fr hq hwq ⟨j, ov', csq', held', rfl, hj, rfl, wi, hheld⟩
  simp only [beq_dec, fst_mk, snd_mk, VK_skip, VK_ret, VK_exit, VK_seq, VK_block, VK_region, VK_draw, VK_cond, KCond_true, KCond_false, VK_loop, KN_nil, KN_seq, KN_blk, KX_ret_nil, KX_ret_seq, KX_ret_blk, KX_exit_nil, KX_exit_seq, KX_exit_blk, KE_normal, KE_ret, KE_exit, KO_nil, KO_cons, KO_app_cons, KO_app_nil, KO1_true, KO1_false, KO2_true, KO2_false, KO3_some, KO4_some, loopQ_ret, loopQ_exit, wantA, isCall, stepOp, evalO, evalL, evalP, evalM, putDst, flat, cond_true, cond_false, Nat.reduceLT, ↓reduceIte, Trie.get_set, Nat.reduceEqDiff, Nat.one_ne_zero, Nat.zero_ne_one, aBuiltin, abinG, guardFree, abin, aInt, aUn, aNilCheck, retQ, retQ1, aresults, aresultL, aresult, mkF, undefV, reduceCtorEq, List.getElem?_toArray, List.append_eq, List.cons_append, List.nil_append, List.getElem?_cons_zero, List.getElem?_cons_succ, Option.bind_some, Bool.not_true, Bool.not_false, beq_self_eq_true, aExtract, calleeOf, awrap_u8, Bool.true_beq, Bool.false_beq, beq_true, beq_false, decide_true, decide_false, Bool.not_not, Bool.and_true, Bool.true_and, Bool.and_false, Bool.false_and]
  refine KCond.intro (fun ht => ?_) (fun hf => ?_)
  rotate_left
  · have hjd : j = dg S u := by have : dg S u ≤ j := lt_f hf
                                omega
    subst hjd
    rw [← hstep] at wi hheld
    simp only [beq_dec, fst_mk, snd_mk, VK_skip, VK_ret, VK_exit, VK_seq, VK_block, VK_region, VK_draw, VK_cond, KCond_true, KCond_false, VK_loop, KN_nil, KN_seq, KN_blk, KX_ret_nil, KX_ret_seq, KX_ret_blk, KX_exit_nil, KX_exit_seq, KX_exit_blk, KE_normal, KE_ret, KE_exit, KO_nil, KO_cons, KO_app_cons, KO_app_nil, KO1_true, KO1_false, KO2_true, KO2_false, KO3_some, KO4_some, loopQ_ret, loopQ_exit, wantA, isCall, stepOp, evalO, evalL, evalP, evalM, putDst, flat, cond_true, cond_false, Nat.reduceLT, ↓reduceIte, Trie.get_set, Nat.reduceEqDiff, Nat.one_ne_zero, Nat.zero_ne_one, aBuiltin, abinG, guardFree, abin, aInt, aUn, aNilCheck, retQ, retQ1, aresults, aresultL, aresult, mkF, undefV, reduceCtorEq, List.getElem?_toArray, List.append_eq, List.cons_append, List.nil_append, List.getElem?_cons_zero, List.getElem?_cons_succ, Option.bind_some, Bool.not_true, Bool.not_false, beq_self_eq_true, aExtract, calleeOf, awrap_u8, Bool.true_beq, Bool.false_beq, beq_true, beq_false, decide_true, decide_false, Bool.not_not, Bool.and_true, Bool.true_and, Bool.and_false, Bool.false_and, awrap_succ q (by omega)]
    exact loop_again (S.rot.length - (q + 1)) [(3, .bool mir), (5, .pointer (some ⟨p, 0, none⟩)), (10, .pointer (some ⟨w, 0, none⟩)), (12, r), (15, .pointer (some ⟨f2, 0, none⟩)), (16, .func (.func 41) #[] #[.pointer (some ⟨f2, 0, none⟩)]), (17, ov'), (18, .slice (some ⟨c1, 0, none⟩) S.rot.length S.rot.length), (19, .slice (some ⟨c2, 0, none⟩) S.rot.length S.rot.length), (21, .int .i64 (q + 1 : Nat))] (by omega) (by simp only [hasAll, beq_dec, fst_mk, snd_mk, VK_skip, VK_ret, VK_exit, VK_seq, VK_block, VK_region, VK_draw, VK_cond, KCond_true, KCond_false, VK_loop, KN_nil, KN_seq, KN_blk, KX_ret_nil, KX_ret_seq, KX_ret_blk, KX_exit_nil, KX_exit_seq, KX_exit_blk, KE_normal, KE_ret, KE_exit, KO_nil, KO_cons, KO_app_cons, KO_app_nil, KO1_true, KO1_false, KO2_true, KO2_false, KO3_some, KO4_some, loopQ_ret, loopQ_exit, wantA, isCall, stepOp, evalO, evalL, evalP, evalM, putDst, flat, cond_true, cond_false, Nat.reduceLT, ↓reduceIte, Trie.get_set, Nat.reduceEqDiff, Nat.one_ne_zero, Nat.zero_ne_one, aBuiltin, abinG, guardFree, abin, aInt, aUn, aNilCheck, retQ, retQ1, aresults, aresultL, aresult, mkF, undefV, reduceCtorEq, List.getElem?_toArray, List.append_eq, List.cons_append, List.nil_append, List.getElem?_cons_zero, List.getElem?_cons_succ, Option.bind_some, Bool.not_true, Bool.not_false, beq_self_eq_true, aExtract, calleeOf, awrap_u8, Bool.true_beq, Bool.false_beq, beq_true, beq_false, decide_true, decide_false, Bool.not_not, Bool.and_true, Bool.true_and, Bool.and_false, Bool.false_and]; simp) ⟨q + 1, ov', csq', held', rfl, hqn, rfl, wi, hheld⟩
  have hjlt : j < dg S u := lt_t ht
  have he' : e < dg S u := by rcases he with he | ⟨he, _⟩ <;> omega
  have hpd : atM mir e j (dg S u) < dg S u := atM_lt mir e j (by omega)
  obtain ⟨hx1, hx2, hx3, hx4, hx5, hx6⟩ := nb_ok hr hu hpd
  have sok : StOK S (innM S mir u e j (headM S u s)) := (ook.toStOK.head u).innM hr hu j hj
  have hpreI := innM_pre S mir u e (headM S u s) j
  have hlenI := inn_len hm mir u e (headM S u s) j
  have hlenH := head_len hm u s
  have hcdl := colD_le hm u (atM mir e j (dg S u))
  have hnx : innM S mir u e (j + 1) (headM S u s) = nxt S mir u e j (innM S mir u e j (headM S u s)) := rfl
  have hpreN : ∃ rr, codeM S mir v i = num4 (wordsM S) ++ bytesM (nxt S mir u e j (innM S mir u e j (headM S u s))).words ++ rr := by
    obtain ⟨rr, hrr⟩ := ((hnx ▸ innM_le S mir u e (headM S u s) (show j + 1 ≤ dg S u from hjlt)).trans (hstep ▸ outM_le S mir v i (show q + 1 ≤ S.rot.length from hqn))).bytes
    exact ⟨rr, by rw [codeM, finM, hrr, List.append_assoc]⟩
  have heat : (enteredM S.rot.length (innM S mir u e j (headM S u s)))[u]? = some (e : Int) := by
    have hlt2 : q < (innM S mir u e j (headM S u s)).ord.length := Nat.lt_of_lt_of_le hlt hpreI.1.length_le
    have e1 : (innM S mir u e j (headM S u s)).ord[q] = u := by rw [← List.IsPrefix.getElem hpreI.1 hlt, ← hsu]; rfl
    have e2 : (innM S mir u e j (headM S u s)).ent.getD q 0 = e := by
      have hltE2 : q < (innM S mir u e j (headM S u s)).ent.length := by rw [sok.len]; exact hlt2
      rw [getD_of hltE2, ← List.IsPrefix.getElem hpreI.2.1 hltE, ← hse]; rfl
    have := enteredM_at (n := S.rot.length) sok.nd hlt2 sok.len (by rw [e1]; exact hu)
    rw [e1, e2] at this; exact this
  obtain ⟨bf2, bp, bve, bd, bpl, bG⟩ := base wi
  generalize hsI : innM S mir u e j (headM S u s) = sI at *
  -- the place
  have ixu := aIdx (P := Try.prog) (t := 31) (a := ⟨c2, 0, none⟩) (n := S.rot.length) (cap := S.rot.length) Try.underlying31 Try.underlying3 (by kernel_rfl) (k := .i64) u hu
  have leu := aload_one (P := Try.prog) (t := 3) (off := u) Try.underlying3 rfl wi.o2
  rw [I64, List.getElem?_map, heat, Option.map_some] at leu
  have hdg0 : ¬ ((dg S u : Nat) : Int) = 0 := by omega
  have ea1 : awrap .i64 ((e : Int) + (j : Int)) = ((e + j : Nat) : Int) := by rw [awrap_in _ (by omega) (by omega)]; omega
  have ea2 : awrap .i64 ((e : Int) + (dg S u : Int)) = ((e + dg S u : Nat) : Int) := by rw [awrap_in _ (by omega) (by omega)]; omega
  have ea3 : awrap .i64 (((e + dg S u : Nat) : Int) - (j : Int)) = ((e + dg S u - j : Nat) : Int) := by rw [awrap_in _ (by omega) (by omega)]; omega
  have et1 : (((e + j : Nat) : Int)).tmod (dg S u : Int) = (((e + j) % dg S u : Nat) : Int) := by rw [← Int.ofNat_tmod]
  have et2 : (((e + dg S u - j : Nat) : Int)).tmod (dg S u : Int) = (((e + dg S u - j) % dg S u : Nat) : Int) := by rw [← Int.ofNat_tmod]
  have hat : atM mir e j (dg S u) = if mir then (e + dg S u - j) % dg S u else (e + j) % dg S u := rfl
  simp only [beq_dec, fst_mk, snd_mk, VK_skip, VK_ret, VK_exit, VK_seq, VK_block, VK_region, VK_draw, VK_cond, KCond_true, KCond_false, VK_loop, KN_nil, KN_seq, KN_blk, KX_ret_nil, KX_ret_seq, KX_ret_blk, KX_exit_nil, KX_exit_seq, KX_exit_blk, KE_normal, KE_ret, KE_exit, KO_nil, KO_cons, KO_app_cons, KO_app_nil, KO1_true, KO1_false, KO2_true, KO2_false, KO3_some, KO4_some, loopQ_ret, loopQ_exit, wantA, isCall, stepOp, evalO, evalL, evalP, evalM, putDst, flat, cond_true, cond_false, Nat.reduceLT, ↓reduceIte, Trie.get_set, Nat.reduceEqDiff, Nat.one_ne_zero, Nat.zero_ne_one, aBuiltin, abinG, guardFree, abin, aInt, aUn, aNilCheck, retQ, retQ1, aresults, aresultL, aresult, mkF, undefV, reduceCtorEq, List.getElem?_toArray, List.append_eq, List.cons_append, List.nil_append, List.getElem?_cons_zero, List.getElem?_cons_succ, Option.bind_some, Bool.not_true, Bool.not_false, beq_self_eq_true, aExtract, calleeOf, awrap_u8, Bool.true_beq, Bool.false_beq, beq_true, beq_false, decide_true, decide_false, Bool.not_not, Bool.and_true, Bool.true_and, Bool.and_false, Bool.false_and, ixu, aadd, Nat.zero_add, leu, ea1, if_neg hdg0, et1]
  -- the next vertex
  have hpr : atM mir e j (dg S u) < S.rot[u].length := by rw [hdu]; exact hpd
  have lx := hRu.loadI (P := Try.prog) (e := 3) Try.underlying3 rfl _ hpr
  have ax := hRu.addr (P := Try.prog) (t := 31) Try.underlying31 Try.underlying3 (by kernel_rfl) (k := .i64) _ hpr
  rw [show S.rot[u][atM mir e j (dg S u)] = (nb S u (atM mir e j (dg S u)) : Nat) by rw [← hx3, getD_of hu, getD_of hpr]] at lx
  have lx' : aload Try.prog hq 3 (elemAddr ru (atM mir e j (dg S u))) = some (.int .i64 (nb S u (atM mir e j (dg S u)) : Nat)) := by
    rw [aload_flat Try.underlying3 rfl] at lx ⊢; exact bG.read lx
  have hru' := hru _ bG
  have ixx := aIdx (P := Try.prog) (t := 31) (a := ⟨c1, 0, none⟩) (n := S.rot.length) (cap := S.rot.length) Try.underlying31 Try.underlying3 (by kernel_rfl) (k := .i64) _ hx1
  have ixx2 := aIdx (P := Try.prog) (t := 31) (a := ⟨c2, 0, none⟩) (n := S.rot.length) (cap := S.rot.length) Try.underlying31 Try.underlying3 (by kernel_rfl) (k := .i64) _ hx1
  have lcx := aload_one (P := Try.prog) (t := 3) (off := nb S u (atM mir e j (dg S u))) Try.underlying3 rfl wi.o1
  rw [I64, List.getElem?_map, calledM_get _ hx1, Option.map_some] at lcx
  -- where it is entered
  have hplx : (placesM S.rot).length = S.rot.length := by simp [placesM]
  obtain ⟨px, hpx1, hpx2⟩ := hpl7.load' (P := Try.prog) Try.underlying31 rfl (nb S u (atM mir e j (dg S u))) (by rw [hplx]; exact hx1)
  have apx := hpl7.addr (P := Try.prog) Try.underlying22 Try.underlying31 (by kernel_rfl) (k := .i64) (nb S u (atM mir e j (dg S u))) (by rw [hplx]; exact hx1)
  have hrow : (placesM S.rot)[nb S u (atM mir e j (dg S u))]'(by rw [hplx]; exact hx1) = rowM S.rot.length (S.rot.getD (nb S u (atM mir e j (dg S u))) []) := by simp [placesM, hx1]
  rw [hrow] at hpx2
  have hpxl : u < (rowM S.rot.length (S.rot.getD (nb S u (atM mir e j (dg S u))) [])).length := by rw [rowM_length]; exact hu
  have apu := hpx2.addr (P := Try.prog) (t := 31) Try.underlying31 Try.underlying3 (by kernel_rfl) (k := .i64) u hpxl
  have lpu := hpx2.loadI (P := Try.prog) (e := 3) Try.underlying3 rfl u hpxl
  rw [show (rowM S.rot.length (S.rot.getD (nb S u (atM mir e j (dg S u))) []))[u] = (plM S (nb S u (atM mir e j (dg S u))) u : Nat) by simp only [rowM, plM, List.getElem_map, List.getElem_range]; omega] at lpu
  have lpu' : aload Try.prog hq 3 (elemAddr px u) = some (.int .i64 (plM S (nb S u (atM mir e j (dg S u))) u : Nat)) := by
    rw [aload_flat Try.underlying3 rfl] at lpu ⊢; exact bG.read lpu
  have hpx1' := hpx1 _ bG
  have lov := wi.go.cs.rs.len (P := Try.prog) (t := 31) Try.underlying31 hq
  rw [I64_length, show (ints sI.ord).length = sI.ord.length by simp [ints]] at lov
  clear lx lpu hrow hpxl hpr
  -- the dart's colour
  have hud : u < S.dart.length := by rw [hr.dart]; exact hu
  obtain ⟨du, hdu1, hdu2⟩ := hs7.dart.load' (P := Try.prog) Try.underlying24 rfl u hud
  have adu := hs7.dart.addr (P := Try.prog) Try.underlying25 Try.underlying24 (by kernel_rfl) (k := .i64) u hud
  have hdl : S.dart[u].length = dg S u := by rw [hr.darts u _ _ (getElem?_of hu) (getElem?_of hud), hdu]
  have hpd2 : atM mir e j (dg S u) < S.dart[u].length := by rw [hdl]; exact hpd
  obtain ⟨dc, hdc1, hdc2⟩ := hdu2.load' (P := Try.prog) Try.underlying34 rfl _ hpd2
  have adc := hdu2.addr (P := Try.prog) (t := 24) Try.underlying24 Try.underlying34 (by kernel_rfl) (k := .i64) _ hpd2
  rw [show S.dart[u][atM mir e j (dg S u)] = colD S u (atM mir e j (dg S u)) by rw [colD, getD_of hud, getD_of hpd2]] at hdc2
  have hord : sI.ord.length ≤ 14 := by have := sok.le; omega
  have hlb : (bytesM sI.words).length ≤ 15000 := by omega
  have hnw : nxt S mir u e j sI = ⟨(visit sI (nb S u (atM mir e j (dg S u))) (plM S (nb S u (atM mir e j (dg S u))) u)).ord, (visit sI (nb S u (atM mir e j (dg S u))) (plM S (nb S u (atM mir e j (dg S u))) u)).ent, sI.words ++ [num4 ((visit sI (nb S u (atM mir e j (dg S u))) (plM S (nb S u (atM mir e j (dg S u))) u)).ord.idxOf (nb S u (atM mir e j (dg S u))) : Nat), colD S u (atM mir e j (dg S u))]⟩ := by
    have : ∀ x ex, (visit sI x ex).words = sI.words := by intro x ex; unfold visit; split <;> rfl
    simp only [nxt, this]
  have hvw := (visit_pre sI (nb S u (atM mir e j (dg S u))) (plM S (nb S u (atM mir e j (dg S u))) u)).1.length_le
  generalize hpp : atM mir e j (dg S u) = pp at *
  generalize hxx : nb S u pp = x at *
  generalize hee : plM S x u = ex at *
  have hvis : ∀ {hz : AHeap} {ovz csz : Value} {Cz : List Int} {hdz : Bool}, WI G hz a hd c1 c2 S.rot.length r ve d pl (wordsM S) ovz csz (visit sI x ex) Cz hdz → aload Try.prog hz 3 ⟨c1, x, none⟩ = some (.int .i64 ((visit sI x ex).ord.idxOf x : Nat)) := by
    intro hz ovz csz Cz hdz wz
    have := aload_one (P := Try.prog) (t := 3) (off := x) Try.underlying3 rfl wz.o1
    rw [I64, List.getElem?_map, calledM_get _ hx1, Option.map_some, if_pos (visit_mem _ _ _)] at this
    exact this
  have hjoin : (x ∈ sI.ord ∧ visit sI x ex = sI) ∨ (x ∉ sI.ord) := by
    by_cases hx : x ∈ sI.ord
    · exact .inl ⟨hx, by simp [visit, hx]⟩
    · exact .inr hx
  generalize hix : (visit sI x ex).ord.idxOf x = ix at hvis hnw
  rw [hnw] at hpreN hnx
  obtain ⟨rr, hrr⟩ := hpreN
  rw [bytes_snoc] at hrr
  rcases (by cases mir <;> simp : mir = false ∨ mir = true) with rfl | rfl
  all_goals simp only [Bool.false_eq_true, if_false, if_true] at hat
  all_goals simp only [beq_dec, fst_mk, snd_mk, VK_skip, VK_ret, VK_exit, VK_seq, VK_block, VK_region, VK_draw, VK_cond, KCond_true, KCond_false, VK_loop, KN_nil, KN_seq, KN_blk, KX_ret_nil, KX_ret_seq, KX_ret_blk, KX_exit_nil, KX_exit_seq, KX_exit_blk, KE_normal, KE_ret, KE_exit, KO_nil, KO_cons, KO_app_cons, KO_app_nil, KO1_true, KO1_false, KO2_true, KO2_false, KO3_some, KO4_some, loopQ_ret, loopQ_exit, wantA, isCall, stepOp, evalO, evalL, evalP, evalM, putDst, flat, cond_true, cond_false, Nat.reduceLT, ↓reduceIte, Trie.get_set, Nat.reduceEqDiff, Nat.one_ne_zero, Nat.zero_ne_one, aBuiltin, abinG, guardFree, abin, aInt, aUn, aNilCheck, retQ, retQ1, aresults, aresultL, aresult, mkF, undefV, reduceCtorEq, List.getElem?_toArray, List.append_eq, List.cons_append, List.nil_append, List.getElem?_cons_zero, List.getElem?_cons_succ, Option.bind_some, Bool.not_true, Bool.not_false, beq_self_eq_true, aExtract, calleeOf, awrap_u8, Bool.true_beq, Bool.false_beq, beq_true, beq_false, decide_true, decide_false, Bool.not_not, Bool.and_true, Bool.true_and, Bool.and_false, Bool.false_and, ixu, aadd, Nat.zero_add, leu, ea2, ea3, if_neg hdg0, et2, ← hat, aru, hru', ax, lx', ixx, lcx]
  all_goals rcases hjoin with ⟨hx, hvs⟩ | hx
  focus
    have hlt0 : ¬ ((sI.ord.idxOf x : Nat) : Int) < 0 := by omega
    simp only [hx, if_true, eq_false hlt0, beq_dec, fst_mk, snd_mk, VK_skip, VK_ret, VK_exit, VK_seq, VK_block, VK_region, VK_draw, VK_cond, KCond_true, KCond_false, VK_loop, KN_nil, KN_seq, KN_blk, KX_ret_nil, KX_ret_seq, KX_ret_blk, KX_exit_nil, KX_exit_seq, KX_exit_blk, KE_normal, KE_ret, KE_exit, KO_nil, KO_cons, KO_app_cons, KO_app_nil, KO1_true, KO1_false, KO2_true, KO2_false, KO3_some, KO4_some, loopQ_ret, loopQ_exit, wantA, isCall, stepOp, evalO, evalL, evalP, evalM, putDst, flat, cond_true, cond_false, Nat.reduceLT, ↓reduceIte, Trie.get_set, Nat.reduceEqDiff, Nat.one_ne_zero, Nat.zero_ne_one, aBuiltin, abinG, guardFree, abin, aInt, aUn, aNilCheck, retQ, retQ1, aresults, aresultL, aresult, mkF, undefV, reduceCtorEq, List.getElem?_toArray, List.append_eq, List.cons_append, List.nil_append, List.getElem?_cons_zero, List.getElem?_cons_succ, Option.bind_some, Bool.not_true, Bool.not_false, beq_self_eq_true, aExtract, calleeOf, awrap_u8, Bool.true_beq, Bool.false_beq, beq_true, beq_false, decide_true, decide_false, Bool.not_not, Bool.and_true, Bool.true_and, Bool.and_false, Bool.false_and]
    have wv : WI G hq a hd c1 c2 S.rot.length r ve d pl (wordsM S) ov' csq' (visit sI x ex) (num4 (wordsM S) ++ bytesM sI.words) held' := by rw [hvs]; exact wi
    generalize hq = hz at *
    generalize ov' = ovz at *
  rotate_left
  focus
    have hlt0 : (-1 : Int) < 0 := by omega
    obtain ⟨hq1, hq2, hq3, hz, ovz, e1, e2, e3, e4, wv, -, -⟩ := wi.visit hwq hx1 hx sok.len (e := ex) (by omega)
    simp only [hx, if_false, hlt0, beq_dec, fst_mk, snd_mk, VK_skip, VK_ret, VK_exit, VK_seq, VK_block, VK_region, VK_draw, VK_cond, KCond_true, KCond_false, VK_loop, KN_nil, KN_seq, KN_blk, KX_ret_nil, KX_ret_seq, KX_ret_blk, KX_exit_nil, KX_exit_seq, KX_exit_blk, KE_normal, KE_ret, KE_exit, KO_nil, KO_cons, KO_app_cons, KO_app_nil, KO1_true, KO1_false, KO2_true, KO2_false, KO3_some, KO4_some, loopQ_ret, loopQ_exit, wantA, isCall, stepOp, evalO, evalL, evalP, evalM, putDst, flat, cond_true, cond_false, Nat.reduceLT, ↓reduceIte, Trie.get_set, Nat.reduceEqDiff, Nat.one_ne_zero, Nat.zero_ne_one, aBuiltin, abinG, guardFree, abin, aInt, aUn, aNilCheck, retQ, retQ1, aresults, aresultL, aresult, mkF, undefV, reduceCtorEq, List.getElem?_toArray, List.append_eq, List.cons_append, List.nil_append, List.getElem?_cons_zero, List.getElem?_cons_succ, Option.bind_some, Bool.not_true, Bool.not_false, beq_self_eq_true, aExtract, calleeOf, awrap_u8, Bool.true_beq, Bool.false_beq, beq_true, beq_false, decide_true, decide_false, Bool.not_not, Bool.and_true, Bool.true_and, Bool.and_false, Bool.false_and, ixx, ixx2, aadd, Nat.zero_add, lov, bp, wfl1, bpl, apx, hpx1', apu, lpu', e1, e2, e3, e4]
  rotate_left
  focus
    have hlt0 : ¬ ((sI.ord.idxOf x : Nat) : Int) < 0 := by omega
    simp only [hx, if_true, eq_false hlt0, beq_dec, fst_mk, snd_mk, VK_skip, VK_ret, VK_exit, VK_seq, VK_block, VK_region, VK_draw, VK_cond, KCond_true, KCond_false, VK_loop, KN_nil, KN_seq, KN_blk, KX_ret_nil, KX_ret_seq, KX_ret_blk, KX_exit_nil, KX_exit_seq, KX_exit_blk, KE_normal, KE_ret, KE_exit, KO_nil, KO_cons, KO_app_cons, KO_app_nil, KO1_true, KO1_false, KO2_true, KO2_false, KO3_some, KO4_some, loopQ_ret, loopQ_exit, wantA, isCall, stepOp, evalO, evalL, evalP, evalM, putDst, flat, cond_true, cond_false, Nat.reduceLT, ↓reduceIte, Trie.get_set, Nat.reduceEqDiff, Nat.one_ne_zero, Nat.zero_ne_one, aBuiltin, abinG, guardFree, abin, aInt, aUn, aNilCheck, retQ, retQ1, aresults, aresultL, aresult, mkF, undefV, reduceCtorEq, List.getElem?_toArray, List.append_eq, List.cons_append, List.nil_append, List.getElem?_cons_zero, List.getElem?_cons_succ, Option.bind_some, Bool.not_true, Bool.not_false, beq_self_eq_true, aExtract, calleeOf, awrap_u8, Bool.true_beq, Bool.false_beq, beq_true, beq_false, decide_true, decide_false, Bool.not_not, Bool.and_true, Bool.true_and, Bool.and_false, Bool.false_and]
    have wv : WI G hq a hd c1 c2 S.rot.length r ve d pl (wordsM S) ov' csq' (visit sI x ex) (num4 (wordsM S) ++ bytesM sI.words) held' := by rw [hvs]; exact wi
    generalize hq = hz at *
    generalize ov' = ovz at *
  rotate_left
  focus
    have hlt0 : (-1 : Int) < 0 := by omega
    obtain ⟨hq1, hq2, hq3, hz, ovz, e1, e2, e3, e4, wv, -, -⟩ := wi.visit hwq hx1 hx sok.len (e := ex) (by omega)
    simp only [hx, if_false, hlt0, beq_dec, fst_mk, snd_mk, VK_skip, VK_ret, VK_exit, VK_seq, VK_block, VK_region, VK_draw, VK_cond, KCond_true, KCond_false, VK_loop, KN_nil, KN_seq, KN_blk, KX_ret_nil, KX_ret_seq, KX_ret_blk, KX_exit_nil, KX_exit_seq, KX_exit_blk, KE_normal, KE_ret, KE_exit, KO_nil, KO_cons, KO_app_cons, KO_app_nil, KO1_true, KO1_false, KO2_true, KO2_false, KO3_some, KO4_some, loopQ_ret, loopQ_exit, wantA, isCall, stepOp, evalO, evalL, evalP, evalM, putDst, flat, cond_true, cond_false, Nat.reduceLT, ↓reduceIte, Trie.get_set, Nat.reduceEqDiff, Nat.one_ne_zero, Nat.zero_ne_one, aBuiltin, abinG, guardFree, abin, aInt, aUn, aNilCheck, retQ, retQ1, aresults, aresultL, aresult, mkF, undefV, reduceCtorEq, List.getElem?_toArray, List.append_eq, List.cons_append, List.nil_append, List.getElem?_cons_zero, List.getElem?_cons_succ, Option.bind_some, Bool.not_true, Bool.not_false, beq_self_eq_true, aExtract, calleeOf, awrap_u8, Bool.true_beq, Bool.false_beq, beq_true, beq_false, decide_true, decide_false, Bool.not_not, Bool.and_true, Bool.true_and, Bool.and_false, Bool.false_and, ixx, ixx2, aadd, Nat.zero_add, lov, bp, wfl1, bpl, apx, hpx1', apu, lpu', e1, e2, e3, e4]
  rotate_left
  all_goals
    have lcz := hvis wv
    obtain ⟨bf2, bp, bve, bd, bpl, bG⟩ := base wv
    refine KDraw.intro mixed (.fl 0 (.fl 1 (.fl 2 (.fl 3 (.fl 4 (.ch 5 [0, 4] (.fl 6 (.fl 7 (.fl 8 (.fl 9 (.fl 10 (.fl 11 (.fl 12 (.fl 13 (.fl 14 (.fl 15 (.fl 16 (.fl 17 (.fl 18 (.fl 19 (.ch 20 [7, 8, 19] (.fl 21 (.fl 22 (.done))) .no))))))))))))))) .no)))))) (by kernel_rfl) ?_
    simp only [beq_dec, fst_mk, snd_mk, VK_skip, VK_ret, VK_exit, VK_seq, VK_block, VK_region, VK_draw, VK_cond, KCond_true, KCond_false, VK_loop, KN_nil, KN_seq, KN_blk, KX_ret_nil, KX_ret_seq, KX_ret_blk, KX_exit_nil, KX_exit_seq, KX_exit_blk, KE_normal, KE_ret, KE_exit, KO_nil, KO_cons, KO_app_cons, KO_app_nil, KO1_true, KO1_false, KO2_true, KO2_false, KO3_some, KO4_some, loopQ_ret, loopQ_exit, wantA, isCall, stepOp, evalO, evalL, evalP, evalM, putDst, flat, cond_true, cond_false, Nat.reduceLT, ↓reduceIte, Trie.get_set, Nat.reduceEqDiff, Nat.one_ne_zero, Nat.zero_ne_one, aBuiltin, abinG, guardFree, abin, aInt, aUn, aNilCheck, retQ, retQ1, aresults, aresultL, aresult, mkF, undefV, reduceCtorEq, List.getElem?_toArray, List.append_eq, List.cons_append, List.nil_append, List.getElem?_cons_zero, List.getElem?_cons_succ, Option.bind_some, Bool.not_true, Bool.not_false, beq_self_eq_true, aExtract, calleeOf, awrap_u8, Bool.true_beq, Bool.false_beq, beq_true, beq_false, decide_true, decide_false, Bool.not_not, Bool.and_true, Bool.true_and, Bool.and_false, Bool.false_and, Nat.reduceBEq, Bool.or_self, Bool.false_eq_true, KD_done, KD_no, KD_fl, KF1_some, KF2_true, KF2_false, KF3_some, KF4_some, KD_ch, KG1_some, KG2_true, KG2_false, KG3_true, KG3_false, KG4_some, KG5_some, HoldsAll, Holds_eq, H1_some, H2_true, H2_false, H3_some, HD_some, HD_none, List.filter_nil, List.filter_cons, List.contains_cons, List.contains_nil, Bool.or_false, Bool.false_or, Bool.true_or, Bool.or_true, true_and, and_true, ixx, aadd, Nat.zero_add, lcz]
    refine KGCall.intro (by simp only [beq_dec, fst_mk, snd_mk, VK_skip, VK_ret, VK_exit, VK_seq, VK_block, VK_region, VK_draw, VK_cond, KCond_true, KCond_false, VK_loop, KN_nil, KN_seq, KN_blk, KX_ret_nil, KX_ret_seq, KX_ret_blk, KX_exit_nil, KX_exit_seq, KX_exit_blk, KE_normal, KE_ret, KE_exit, KO_nil, KO_cons, KO_app_cons, KO_app_nil, KO1_true, KO1_false, KO2_true, KO2_false, KO3_some, KO4_some, loopQ_ret, loopQ_exit, wantA, isCall, stepOp, evalO, evalL, evalP, evalM, putDst, flat, cond_true, cond_false, Nat.reduceLT, ↓reduceIte, Trie.get_set, Nat.reduceEqDiff, Nat.one_ne_zero, Nat.zero_ne_one, aBuiltin, abinG, guardFree, abin, aInt, aUn, aNilCheck, retQ, retQ1, aresults, aresultL, aresult, mkF, undefV, reduceCtorEq, List.getElem?_toArray, List.append_eq, List.cons_append, List.nil_append, List.getElem?_cons_zero, List.getElem?_cons_succ, Option.bind_some, Bool.not_true, Bool.not_false, beq_self_eq_true, aExtract, calleeOf, awrap_u8, Bool.true_beq, Bool.false_beq, beq_true, beq_false, decide_true, decide_false, Bool.not_not, Bool.and_true, Bool.true_and, Bool.and_false, Bool.false_and] <;> rfl) ⟨Try.func41, rfl, by decide⟩ (count_any W0 hz a hd p l f1 f2 r ve d pl csq' _ (wordsM S) ix _ held' L wv.wk (env7.le wv.le) (wv.le.own _ _ of27) hheld (by rw [List.length_append, num4_length]; omega)) ?_
    rintro y ha wfa ⟨ok, helda, csa, Ca, rfl, wka, Ra, hnoa⟩
    have wia := wv.note wka Ra
    obtain ⟨bf2a, bpa, bvea, bda, bpla, bGa⟩ := base wia
    rcases hnoa with ⟨rfl, rfl, hha⟩ | ⟨rfl, l0, hl0, hab⟩
    rotate_left
    · obtain ⟨hq', q1, q2, q3⟩ := endF wia ⟨l0, hl0, above hab ⟨wordB (colD S u pp) ++ rr, by rw [hrr, countB]; simp only [List.append_assoc]⟩⟩
      simp only [beq_dec, fst_mk, snd_mk, VK_skip, VK_ret, VK_exit, VK_seq, VK_block, VK_region, VK_draw, VK_cond, KCond_true, KCond_false, VK_loop, KN_nil, KN_seq, KN_blk, KX_ret_nil, KX_ret_seq, KX_ret_blk, KX_exit_nil, KX_exit_seq, KX_exit_blk, KE_normal, KE_ret, KE_exit, KO_nil, KO_cons, KO_app_cons, KO_app_nil, KO1_true, KO1_false, KO2_true, KO2_false, KO3_some, KO4_some, loopQ_ret, loopQ_exit, wantA, isCall, stepOp, evalO, evalL, evalP, evalM, putDst, flat, cond_true, cond_false, Nat.reduceLT, ↓reduceIte, Trie.get_set, Nat.reduceEqDiff, Nat.one_ne_zero, Nat.zero_ne_one, aBuiltin, abinG, guardFree, abin, aInt, aUn, aNilCheck, retQ, retQ1, aresults, aresultL, aresult, mkF, undefV, reduceCtorEq, List.getElem?_toArray, List.append_eq, List.cons_append, List.nil_append, List.getElem?_cons_zero, List.getElem?_cons_succ, Option.bind_some, Bool.not_true, Bool.not_false, beq_self_eq_true, aExtract, calleeOf, awrap_u8, Bool.true_beq, Bool.false_beq, beq_true, beq_false, decide_true, decide_false, Bool.not_not, Bool.and_true, Bool.true_and, Bool.and_false, Bool.false_and, Nat.reduceBEq, Bool.or_self, Bool.false_eq_true, KD_done, KD_no, KD_fl, KF1_some, KF2_true, KF2_false, KF3_some, KF4_some, KD_ch, KG1_some, KG2_true, KG2_false, KG3_true, KG3_false, KG4_some, KG5_some, HoldsAll, Holds_eq, H1_some, H2_true, H2_false, H3_some, HD_some, HD_none, List.filter_nil, List.filter_cons, List.contains_cons, List.contains_nil, Bool.or_false, Bool.false_or, Bool.true_or, Bool.or_true, true_and, and_true, ixx, aadd, Nat.zero_add, hvis wia, hbld, q1, q2]
      exact q3
    simp only [beq_dec, fst_mk, snd_mk, VK_skip, VK_ret, VK_exit, VK_seq, VK_block, VK_region, VK_draw, VK_cond, KCond_true, KCond_false, VK_loop, KN_nil, KN_seq, KN_blk, KX_ret_nil, KX_ret_seq, KX_ret_blk, KX_exit_nil, KX_exit_seq, KX_exit_blk, KE_normal, KE_ret, KE_exit, KO_nil, KO_cons, KO_app_cons, KO_app_nil, KO1_true, KO1_false, KO2_true, KO2_false, KO3_some, KO4_some, loopQ_ret, loopQ_exit, wantA, isCall, stepOp, evalO, evalL, evalP, evalM, putDst, flat, cond_true, cond_false, Nat.reduceLT, ↓reduceIte, Trie.get_set, Nat.reduceEqDiff, Nat.one_ne_zero, Nat.zero_ne_one, aBuiltin, abinG, guardFree, abin, aInt, aUn, aNilCheck, retQ, retQ1, aresults, aresultL, aresult, mkF, undefV, reduceCtorEq, List.getElem?_toArray, List.append_eq, List.cons_append, List.nil_append, List.getElem?_cons_zero, List.getElem?_cons_succ, Option.bind_some, Bool.not_true, Bool.not_false, beq_self_eq_true, aExtract, calleeOf, awrap_u8, Bool.true_beq, Bool.false_beq, beq_true, beq_false, decide_true, decide_false, Bool.not_not, Bool.and_true, Bool.true_and, Bool.and_false, Bool.false_and, Nat.reduceBEq, Bool.or_self, Bool.false_eq_true, KD_done, KD_no, KD_fl, KF1_some, KF2_true, KF2_false, KF3_some, KF4_some, KD_ch, KG1_some, KG2_true, KG2_false, KG3_true, KG3_false, KG4_some, KG5_some, HoldsAll, Holds_eq, H1_some, H2_true, H2_false, H3_some, HD_some, HD_none, List.filter_nil, List.filter_cons, List.contains_cons, List.contains_nil, Bool.or_false, Bool.false_or, Bool.true_or, Bool.or_true, true_and, and_true, ixx, aadd, Nat.zero_add, hvis wia, bf2a, bpa, wfl0, fld2, bda, adu, hdu1 _ bGa, adc, hdc1 _ bGa]
    refine KGCall.intro (by simp only [beq_dec, fst_mk, snd_mk, VK_skip, VK_ret, VK_exit, VK_seq, VK_block, VK_region, VK_draw, VK_cond, KCond_true, KCond_false, VK_loop, KN_nil, KN_seq, KN_blk, KX_ret_nil, KX_ret_seq, KX_ret_blk, KX_exit_nil, KX_exit_seq, KX_exit_blk, KE_normal, KE_ret, KE_exit, KO_nil, KO_cons, KO_app_cons, KO_app_nil, KO1_true, KO1_false, KO2_true, KO2_false, KO3_some, KO4_some, loopQ_ret, loopQ_exit, wantA, isCall, stepOp, evalO, evalL, evalP, evalM, putDst, flat, cond_true, cond_false, Nat.reduceLT, ↓reduceIte, Trie.get_set, Nat.reduceEqDiff, Nat.one_ne_zero, Nat.zero_ne_one, aBuiltin, abinG, guardFree, abin, aInt, aUn, aNilCheck, retQ, retQ1, aresults, aresultL, aresult, mkF, undefV, reduceCtorEq, List.getElem?_toArray, List.append_eq, List.cons_append, List.nil_append, List.getElem?_cons_zero, List.getElem?_cons_succ, Option.bind_some, Bool.not_true, Bool.not_false, beq_self_eq_true, aExtract, calleeOf, awrap_u8, Bool.true_beq, Bool.false_beq, beq_true, beq_false, decide_true, decide_false, Bool.not_not, Bool.and_true, Bool.true_and, Bool.and_false, Bool.false_and] <;> rfl) ⟨Try.func39, rfl, by decide⟩ (word_any W0 ha a hd p l f1 _ r ve d pl csa _ (wordsM S) _ (colD S u pp) helda L wia.wk (hdc2.le .isB wia.le) (env7.le wia.le) hha (by simp only [List.length_append, num4_length, countB, wordB_length]; omega)) ?_
    rintro y hb wfb ⟨ok, heldb, csb, Cb, rfl, wkb, Rb, hnob⟩
    have wib := wia.note wkb Rb
    obtain ⟨bf2b, bpb, bveb, bdb, bplb, bGb⟩ := base wib
    rcases hnob with ⟨rfl, rfl, hhb⟩ | ⟨rfl, l0, hl0, hab⟩
    rotate_left
    · obtain ⟨hq', q1, q2, q3⟩ := endF wib ⟨l0, hl0, above hab ⟨rr, by rw [hrr, countB]; simp only [List.append_assoc]⟩⟩
      simp only [beq_dec, fst_mk, snd_mk, VK_skip, VK_ret, VK_exit, VK_seq, VK_block, VK_region, VK_draw, VK_cond, KCond_true, KCond_false, VK_loop, KN_nil, KN_seq, KN_blk, KX_ret_nil, KX_ret_seq, KX_ret_blk, KX_exit_nil, KX_exit_seq, KX_exit_blk, KE_normal, KE_ret, KE_exit, KO_nil, KO_cons, KO_app_cons, KO_app_nil, KO1_true, KO1_false, KO2_true, KO2_false, KO3_some, KO4_some, loopQ_ret, loopQ_exit, wantA, isCall, stepOp, evalO, evalL, evalP, evalM, putDst, flat, cond_true, cond_false, Nat.reduceLT, ↓reduceIte, Trie.get_set, Nat.reduceEqDiff, Nat.one_ne_zero, Nat.zero_ne_one, aBuiltin, abinG, guardFree, abin, aInt, aUn, aNilCheck, retQ, retQ1, aresults, aresultL, aresult, mkF, undefV, reduceCtorEq, List.getElem?_toArray, List.append_eq, List.cons_append, List.nil_append, List.getElem?_cons_zero, List.getElem?_cons_succ, Option.bind_some, Bool.not_true, Bool.not_false, beq_self_eq_true, aExtract, calleeOf, awrap_u8, Bool.true_beq, Bool.false_beq, beq_true, beq_false, decide_true, decide_false, Bool.not_not, Bool.and_true, Bool.true_and, Bool.and_false, Bool.false_and, Nat.reduceBEq, Bool.or_self, Bool.false_eq_true, KD_done, KD_no, KD_fl, KF1_some, KF2_true, KF2_false, KF3_some, KF4_some, KD_ch, KG1_some, KG2_true, KG2_false, KG3_true, KG3_false, KG4_some, KG5_some, HoldsAll, Holds_eq, H1_some, H2_true, H2_false, H3_some, HD_some, HD_none, List.filter_nil, List.filter_cons, List.contains_cons, List.contains_nil, Bool.or_false, Bool.false_or, Bool.true_or, Bool.or_true, true_and, and_true, ixx, aadd, Nat.zero_add, hvis wib, bf2b, bpb, wfl0, fld2, bdb, adu, hdu1 _ bGb, adc, hdc1 _ bGb, hbld, q1, q2]
      exact q3
    simp only [beq_dec, fst_mk, snd_mk, VK_skip, VK_ret, VK_exit, VK_seq, VK_block, VK_region, VK_draw, VK_cond, KCond_true, KCond_false, VK_loop, KN_nil, KN_seq, KN_blk, KX_ret_nil, KX_ret_seq, KX_ret_blk, KX_exit_nil, KX_exit_seq, KX_exit_blk, KE_normal, KE_ret, KE_exit, KO_nil, KO_cons, KO_app_cons, KO_app_nil, KO1_true, KO1_false, KO2_true, KO2_false, KO3_some, KO4_some, loopQ_ret, loopQ_exit, wantA, isCall, stepOp, evalO, evalL, evalP, evalM, putDst, flat, cond_true, cond_false, Nat.reduceLT, ↓reduceIte, Trie.get_set, Nat.reduceEqDiff, Nat.one_ne_zero, Nat.zero_ne_one, aBuiltin, abinG, guardFree, abin, aInt, aUn, aNilCheck, retQ, retQ1, aresults, aresultL, aresult, mkF, undefV, reduceCtorEq, List.getElem?_toArray, List.append_eq, List.cons_append, List.nil_append, List.getElem?_cons_zero, List.getElem?_cons_succ, Option.bind_some, Bool.not_true, Bool.not_false, beq_self_eq_true, aExtract, calleeOf, awrap_u8, Bool.true_beq, Bool.false_beq, beq_true, beq_false, decide_true, decide_false, Bool.not_not, Bool.and_true, Bool.true_and, Bool.and_false, Bool.false_and, Nat.reduceBEq, Bool.or_self, Bool.false_eq_true, KD_done, KD_no, KD_fl, KF1_some, KF2_true, KF2_false, KF3_some, KF4_some, KD_ch, KG1_some, KG2_true, KG2_false, KG3_true, KG3_false, KG4_some, KG5_some, HoldsAll, Holds_eq, H1_some, H2_true, H2_false, H3_some, HD_some, HD_none, List.filter_nil, List.filter_cons, List.contains_cons, List.contains_nil, Bool.or_false, Bool.false_or, Bool.true_or, Bool.or_true, true_and, and_true, ixx, aadd, Nat.zero_add, hvis wib, bf2b, bpb, wfl0, fld2, bdb, adu, hdu1 _ bGb, adc, hdc1 _ bGb, awrap_succ j (by omega)]
    refine loop_again (dg S u - (j + 1)) [(3, .bool _), (5, .pointer (some ⟨p, 0, none⟩)), (10, .pointer (some ⟨w, 0, none⟩)), (12, r), (15, .pointer (some ⟨f2, 0, none⟩)), (16, .func (.func 41) #[] #[.pointer (some ⟨f2, 0, none⟩)]), (17, ovz), (18, .slice (some ⟨c1, 0, none⟩) S.rot.length S.rot.length), (19, .slice (some ⟨c2, 0, none⟩) S.rot.length S.rot.length), (21, .int .i64 q), (22, .int .i64 (u : Nat)), (23, .int .i64 (dg S u : Nat)), (104, .int .i64 (dg S u : Nat)), (105, .int .i64 (j + 1 : Nat))] (by omega) (by simp only [hasAll, beq_dec, fst_mk, snd_mk, VK_skip, VK_ret, VK_exit, VK_seq, VK_block, VK_region, VK_draw, VK_cond, KCond_true, KCond_false, VK_loop, KN_nil, KN_seq, KN_blk, KX_ret_nil, KX_ret_seq, KX_ret_blk, KX_exit_nil, KX_exit_seq, KX_exit_blk, KE_normal, KE_ret, KE_exit, KO_nil, KO_cons, KO_app_cons, KO_app_nil, KO1_true, KO1_false, KO2_true, KO2_false, KO3_some, KO4_some, loopQ_ret, loopQ_exit, wantA, isCall, stepOp, evalO, evalL, evalP, evalM, putDst, flat, cond_true, cond_false, Nat.reduceLT, ↓reduceIte, Trie.get_set, Nat.reduceEqDiff, Nat.one_ne_zero, Nat.zero_ne_one, aBuiltin, abinG, guardFree, abin, aInt, aUn, aNilCheck, retQ, retQ1, aresults, aresultL, aresult, mkF, undefV, reduceCtorEq, List.getElem?_toArray, List.append_eq, List.cons_append, List.nil_append, List.getElem?_cons_zero, List.getElem?_cons_succ, Option.bind_some, Bool.not_true, Bool.not_false, beq_self_eq_true, aExtract, calleeOf, awrap_u8, Bool.true_beq, Bool.false_beq, beq_true, beq_false, decide_true, decide_false, Bool.not_not, Bool.and_true, Bool.true_and, Bool.and_false, Bool.false_and]; simp) ⟨j + 1, ovz, csb, heldb, rfl, hjlt, rfl, ?_, ?_⟩
    · rw [hnx]
      have := wib.words (sI.words ++ [num4 ix, colD S u pp])
      rw [bytes_snoc, ← countB]
      simpa only [List.append_assoc] using this
    · rw [hnx, bytes_snoc, ← countB]
      simpa only [List.append_assoc] using hhb

end Go.Fw
