/- One of the texts of the layer and the walks: it proves what its theorems say of the functions of the seat, with no condition beyond theirs. -/
import Derived.Test.YtdflaojabddalaaFwRg37
set_option linter.unusedSimpArgs false
set_option linter.unusedVariables false
namespace Go.Fw
open Go.Proofs
set_option maxHeartbeats 2000000
set_option maxRecDepth 10000

def pairW (S : SkinM) (v i : Nat) : List Wd := [codeW S false v i, codeW S true v i]
def allI (S : SkinM) (v : Nat) (l : List Wd) : Nat → List Wd
  | 0 => l
  | i + 1 => allI S v l i ++ pairW S v i
def allV (S : SkinM) : Nat → List Wd
  | 0 => []
  | v + 1 => allI S v (allV S v) (max 1 (dg S v))
theorem allI_length (S : SkinM) (v : Nat) (l : List Wd) : ∀ i, (allI S v l i).length = l.length + 2 * i
  | 0 => rfl
  | i + 1 => by have := allI_length S v l i; simp only [allI, List.length_append, pairW, List.length_cons, List.length_nil]; omega
theorem allV_length {S : SkinM} (h : SmallM S) : ∀ v, (allV S v).length ≤ 30 * v
  | 0 => by simp [allV]
  | v + 1 => by have h1 := allV_length h v; have h2 := allI_length S v (allV S v) (max 1 (dg S v)); have := dg_le h v; simp only [allV]; omega

theorem dg_pos {S : SkinM} (hr : RightS S) (hn : 1 < S.rot.length) {v : Nat} (hv : v < S.rot.length) : 0 < dg S v := by
  rcases Nat.eq_zero_or_pos (dg S v) with h | h
  · have := closed_all hr (L := [v]) (by simpa using hv) (by simp) (fun u hu p hp => by simp at hu; subst hu; omega)
    have h0 := this 0 (by omega)
    have h1 := this 1 (by omega)
    simp at h0 h1; omega
  · exact h

def AllW (b hh : AHeap) (o : Value) (m : List Wd) : Prop := ∃ vs, GS 2 hh o m.length (flat2 vs) ∧ ElsR (rem (bl o) hh) vs m ∧ Le b (rem (bl o) hh)

theorem AllW.both {b hh h4 : AHeap} {o : Value} {m : List Wd} (a : AllW b hh o m) (hwf : WF h4) {id : Nat} {vs : List (Value × Value)} {l2 : List Wd} (l2l : l2.length = 2) (nid : hh.own id = none) (oid : h4.own id = some (.cells (flat2 vs)))
    (els : ∀ fs : List Nat, (∀ i ∈ fs, hh.own i ≠ none) → ElsR (rem fs h4) vs l2) (le : Le hh h4) (hm : m.length ≤ 100000) :
    ∃ o' h5, aAppend Try.prog h4 43 43 o (.slice (some ⟨id, 0, none⟩) 2 2) = some (o', h5) ∧ AllW b h5 o' (m ++ l2) := by
  obtain ⟨ws, g, el, lb⟩ := a
  have hfs : ∀ i ∈ bl o, hh.own i ≠ none := fun i hi => g.blk_own (mem_bl.1 hi)
  have el2 := els (bl o) hfs
  have g4 := g.le le
  have el4 := el.le (le.mono_rem (l := bl o))
  have hv2 : vs.length = 2 := by rw [el2.1, l2l]
  obtain ⟨o', h5, e5, g5, hf⟩ := g4.append (P := Try.prog) (t := 43) (xt := 43) (by kernel_rfl) (fun e he => (CS.own (k := 2) (off := 0) (n := 2) (cap := 2) oid (by rw [flat2_length, hv2]; simp)).src he) (els_one el4) (by
      have := els_one el2
      rw [List.drop_zero, List.take_of_length_le (by rw [flat2_length, hv2]; simp)]; exact this) (by rw [List.drop_zero, List.take_of_length_le (by rw [flat2_length, hv2]; simp), flat2_length, hv2]) (by omega)
  have hext : h5.ext = h4.ext := ((hf (rem (bl o) h4) hwf (rem_le _ _) (fun b hb => by rw [rem_own, if_pos (mem_bl.2 hb)])).1.ext).trans (rem_ext _)
  have leR : Le (rem (bl o) h4) (rem (bl o') h5) := Le.rem hext fun i ob ho hn => by
    have hb : blk o ≠ some i := fun e => hn (mem_bl.2 e)
    obtain ⟨q1, q2⟩ := keep_own hf hwf ho hb
    exact ⟨q1, fun hm => q2 (mem_bl.1 hm)⟩
  refine ⟨o', h5, e5, ws ++ vs, ?_, ?_, (lb.trans (le.mono_rem (l := bl o))).trans leR⟩
  · have e1 : flat2 (ws ++ vs) = flat2 ws ++ flat2 vs := by simp [flat2]
    rw [List.drop_zero, List.take_of_length_le (by rw [flat2_length, hv2]; simp)] at g5
    rw [e1, List.length_append, l2l]; exact g5
  · have a1 := el4.le leR
    have a2 := el2.le leR
    refine ⟨by simp [a1.1, a2.1], fun i p x hp hx => ?_⟩
    by_cases hi : i < ws.length
    · rw [List.getElem?_append_left hi] at hp
      rw [List.getElem?_append_left (by rw [← a1.1]; exact hi)] at hx
      exact a1.2 i p x hp hx
    · rw [List.getElem?_append_right (by omega)] at hp
      rw [List.getElem?_append_right (by rw [← a1.1]; omega), ← a1.1] at hx
      exact a2.2 _ p x hp hx

theorem RefBest_any (W0 : World) (r ve d : Value) (S : SkinM) (h : AHeap) (hs : SkinR h r ve d S) (hm : SmallM S) :
    AC Try.prog W0 16 [.agg #[r, ve, d]] h fun x h' => WalksP (RightS S) (leastM (allV S S.rot.length)) x h' ∧ Le h h' := by
  refine AC.vc (fn := Try.f16) (c := _) ⟨Try.func16, rfl, by decide⟩ Try.ntmps16 Try.results16 (by simp) fun hwf => ?_
  simp only [argFrame, argFrom, Nat.reduceAdd]
  obtain ⟨h1, b1, le1, wf1, -, lA⟩ := aBoxS hwf hs
  generalize hb : h.next = b at *
  have lA1 := (lA h1 (Le.refl _)).1
  simp only [beq_dec, fst_mk, snd_mk, VK_skip, VK_ret, VK_exit, VK_seq, VK_block, VK_region, VK_draw, VK_cond, KCond_true, KCond_false, VK_loop, KN_nil, KN_seq, KN_blk, KX_ret_nil, KX_ret_seq, KX_ret_blk, KX_exit_nil, KX_exit_seq, KX_exit_blk, KE_normal, KE_ret, KE_exit, KO_nil, KO_cons, KO_app_cons, KO_app_nil, KO1_true, KO1_false, KO2_true, KO2_false, KO3_some, KO4_some, loopQ_ret, loopQ_exit, wantA, isCall, stepOp, evalO, evalL, evalP, evalM, putDst, flat, cond_true, cond_false, Nat.reduceLT, ↓reduceIte, Trie.get_set, Nat.reduceEqDiff, Nat.one_ne_zero, Nat.zero_ne_one, aBuiltin, abinG, guardFree, abin, aInt, aUn, aNilCheck, retQ, retQ1, aresults, aresultL, aresult, mkF, undefV, reduceCtorEq, List.getElem?_toArray, List.append_eq, List.cons_append, List.nil_append, List.getElem?_cons_zero, List.getElem?_cons_succ, Option.bind_some, Bool.not_true, Bool.not_false, beq_self_eq_true, aExtract, calleeOf, awrap_u8, Bool.true_beq, Bool.false_beq, beq_true, beq_false, decide_true, decide_false, Bool.not_not, Bool.and_true, Bool.true_and, Bool.and_false, Bool.false_and, b1, lA1]
  refine KCall.intro (by simp only [beq_dec, fst_mk, snd_mk, VK_skip, VK_ret, VK_exit, VK_seq, VK_block, VK_region, VK_draw, VK_cond, KCond_true, KCond_false, VK_loop, KN_nil, KN_seq, KN_blk, KX_ret_nil, KX_ret_seq, KX_ret_blk, KX_exit_nil, KX_exit_seq, KX_exit_blk, KE_normal, KE_ret, KE_exit, KO_nil, KO_cons, KO_app_cons, KO_app_nil, KO1_true, KO1_false, KO2_true, KO2_false, KO3_some, KO4_some, loopQ_ret, loopQ_exit, wantA, isCall, stepOp, evalO, evalL, evalP, evalM, putDst, flat, cond_true, cond_false, Nat.reduceLT, ↓reduceIte, Trie.get_set, Nat.reduceEqDiff, Nat.one_ne_zero, Nat.zero_ne_one, aBuiltin, abinG, guardFree, abin, aInt, aUn, aNilCheck, retQ, retQ1, aresults, aresultL, aresult, mkF, undefV, reduceCtorEq, List.getElem?_toArray, List.append_eq, List.cons_append, List.nil_append, List.getElem?_cons_zero, List.getElem?_cons_succ, Option.bind_some, Bool.not_true, Bool.not_false, beq_self_eq_true, aExtract, calleeOf, awrap_u8, Bool.true_beq, Bool.false_beq, beq_true, beq_false, decide_true, decide_false, Bool.not_not, Bool.and_true, Bool.true_and, Bool.and_false, Bool.false_and] <;> rfl) ⟨Try.func17, rfl, by decide⟩ (RefRight_any W0 r ve d S h1 (hs.le le1) hm) ?_
  rintro x h3 wf3 ⟨⟨bb, rfl, hbb⟩, le3⟩
  cases bb with
  | false =>
    simp only [beq_dec, fst_mk, snd_mk, VK_skip, VK_ret, VK_exit, VK_seq, VK_block, VK_region, VK_draw, VK_cond, KCond_true, KCond_false, VK_loop, KN_nil, KN_seq, KN_blk, KX_ret_nil, KX_ret_seq, KX_ret_blk, KX_exit_nil, KX_exit_seq, KX_exit_blk, KE_normal, KE_ret, KE_exit, KO_nil, KO_cons, KO_app_cons, KO_app_nil, KO1_true, KO1_false, KO2_true, KO2_false, KO3_some, KO4_some, loopQ_ret, loopQ_exit, wantA, isCall, stepOp, evalO, evalL, evalP, evalM, putDst, flat, cond_true, cond_false, Nat.reduceLT, ↓reduceIte, Trie.get_set, Nat.reduceEqDiff, Nat.one_ne_zero, Nat.zero_ne_one, aBuiltin, abinG, guardFree, abin, aInt, aUn, aNilCheck, retQ, retQ1, aresults, aresultL, aresult, mkF, undefV, reduceCtorEq, List.getElem?_toArray, List.append_eq, List.cons_append, List.nil_append, List.getElem?_cons_zero, List.getElem?_cons_succ, Option.bind_some, Bool.not_true, Bool.not_false, beq_self_eq_true, aExtract, calleeOf, awrap_u8, Bool.true_beq, Bool.false_beq, beq_true, beq_false, decide_true, decide_false, Bool.not_not, Bool.and_true, Bool.true_and, Bool.and_false, Bool.false_and]
    exact ⟨⟨_, _, rfl, .inr ⟨fun e => (by have := hbb.2 e; cases this), rfl, rfl⟩⟩, le1.trans le3⟩
  | true =>
  have hr := hbb.1 rfl
  have hs3 := hs.le (le1.trans le3)
  have n0 := fun h' => hs3.rot.len (P := Try.prog) Try.underlying23 h'
  have hn14 := hm.rot
  simp only [beq_dec, fst_mk, snd_mk, VK_skip, VK_ret, VK_exit, VK_seq, VK_block, VK_region, VK_draw, VK_cond, KCond_true, KCond_false, VK_loop, KN_nil, KN_seq, KN_blk, KX_ret_nil, KX_ret_seq, KX_ret_blk, KX_exit_nil, KX_exit_seq, KX_exit_blk, KE_normal, KE_ret, KE_exit, KO_nil, KO_cons, KO_app_cons, KO_app_nil, KO1_true, KO1_false, KO2_true, KO2_false, KO3_some, KO4_some, loopQ_ret, loopQ_exit, wantA, isCall, stepOp, evalO, evalL, evalP, evalM, putDst, flat, cond_true, cond_false, Nat.reduceLT, ↓reduceIte, Trie.get_set, Nat.reduceEqDiff, Nat.one_ne_zero, Nat.zero_ne_one, aBuiltin, abinG, guardFree, abin, aInt, aUn, aNilCheck, retQ, retQ1, aresults, aresultL, aresult, mkF, undefV, reduceCtorEq, List.getElem?_toArray, List.append_eq, List.cons_append, List.nil_append, List.getElem?_cons_zero, List.getElem?_cons_succ, Option.bind_some, Bool.not_true, Bool.not_false, beq_self_eq_true, aExtract, calleeOf, awrap_u8, Bool.true_beq, Bool.false_beq, beq_true, beq_false, decide_true, decide_false, Bool.not_not, Bool.and_true, Bool.true_and, Bool.and_false, Bool.false_and]
  have a0 : AllW h3 h3 (.slice none 0 0) (allV S 0) := ⟨[], .nil 2 _, ⟨rfl, by simp⟩, Le.refl _⟩
  refine KLoop.intro (fun k fr hh => ∃ (v : Nat) (o : Value), k = S.rot.length - v ∧ v ≤ S.rot.length ∧ fr = mkF [(1, .pointer (some ⟨b, 0, none⟩)), (4, o), (5, .int .i64 v)] ∧ AllW h3 hh o (allV S v))
    S.rot.length [(1, .pointer (some ⟨b, 0, none⟩)), (4, .slice none 0 0), (5, .int .i64 (0 : Nat))] (by simp only [hasAll, beq_dec, fst_mk, snd_mk, VK_skip, VK_ret, VK_exit, VK_seq, VK_block, VK_region, VK_draw, VK_cond, KCond_true, KCond_false, VK_loop, KN_nil, KN_seq, KN_blk, KX_ret_nil, KX_ret_seq, KX_ret_blk, KX_exit_nil, KX_exit_seq, KX_exit_blk, KE_normal, KE_ret, KE_exit, KO_nil, KO_cons, KO_app_cons, KO_app_nil, KO1_true, KO1_false, KO2_true, KO2_false, KO3_some, KO4_some, loopQ_ret, loopQ_exit, wantA, isCall, stepOp, evalO, evalL, evalP, evalM, putDst, flat, cond_true, cond_false, Nat.reduceLT, ↓reduceIte, Trie.get_set, Nat.reduceEqDiff, Nat.one_ne_zero, Nat.zero_ne_one, aBuiltin, abinG, guardFree, abin, aInt, aUn, aNilCheck, retQ, retQ1, aresults, aresultL, aresult, mkF, undefV, reduceCtorEq, List.getElem?_toArray, List.append_eq, List.cons_append, List.nil_append, List.getElem?_cons_zero, List.getElem?_cons_succ, Option.bind_some, Bool.not_true, Bool.not_false, beq_self_eq_true, aExtract, calleeOf, awrap_u8, Bool.true_beq, Bool.false_beq, beq_true, beq_false, decide_true, decide_false, Bool.not_not, Bool.and_true, Bool.true_and, Bool.and_false, Bool.false_and]; simp) ⟨0, _, rfl, Nat.zero_le _, rfl, a0⟩ ?_
  clear a0
  rintro k fr hh hwh ⟨v, o, rfl, hv, rfl, ha⟩
  have hbase : Le h3 hh := by obtain ⟨_, _, _, q⟩ := ha; exact q.trans (rem_le _ _)
  obtain ⟨-, lr, -, -⟩ := lA hh (le3.trans hbase)
  simp only [beq_dec, fst_mk, snd_mk, VK_skip, VK_ret, VK_exit, VK_seq, VK_block, VK_region, VK_draw, VK_cond, KCond_true, KCond_false, VK_loop, KN_nil, KN_seq, KN_blk, KX_ret_nil, KX_ret_seq, KX_ret_blk, KX_exit_nil, KX_exit_seq, KX_exit_blk, KE_normal, KE_ret, KE_exit, KO_nil, KO_cons, KO_app_cons, KO_app_nil, KO1_true, KO1_false, KO2_true, KO2_false, KO3_some, KO4_some, loopQ_ret, loopQ_exit, wantA, isCall, stepOp, evalO, evalL, evalP, evalM, putDst, flat, cond_true, cond_false, Nat.reduceLT, ↓reduceIte, Trie.get_set, Nat.reduceEqDiff, Nat.one_ne_zero, Nat.zero_ne_one, aBuiltin, abinG, guardFree, abin, aInt, aUn, aNilCheck, retQ, retQ1, aresults, aresultL, aresult, mkF, undefV, reduceCtorEq, List.getElem?_toArray, List.append_eq, List.cons_append, List.nil_append, List.getElem?_cons_zero, List.getElem?_cons_succ, Option.bind_some, Bool.not_true, Bool.not_false, beq_self_eq_true, aExtract, calleeOf, awrap_u8, Bool.true_beq, Bool.false_beq, beq_true, beq_false, decide_true, decide_false, Bool.not_not, Bool.and_true, Bool.true_and, Bool.and_false, Bool.false_and, fld0, aadd, Nat.zero_add, lr, n0]
  refine KCond.intro (fun ht => ?_) (fun hf => ?_)
  rotate_left
  · have hge : S.rot.length ≤ v := lt_f hf
    have hve : v = S.rot.length := by omega
    subst hve
    have hl := allV_length hm S.rot.length
    have hw : WalksR hh o (allV S S.rot.length) := by obtain ⟨vs, q1, q2, _⟩ := ha; exact ⟨vs, q1, q2.le (rem_le _ _)⟩
    simp only [beq_dec, fst_mk, snd_mk, VK_skip, VK_ret, VK_exit, VK_seq, VK_block, VK_region, VK_draw, VK_cond, KCond_true, KCond_false, VK_loop, KN_nil, KN_seq, KN_blk, KX_ret_nil, KX_ret_seq, KX_ret_blk, KX_exit_nil, KX_exit_seq, KX_exit_blk, KE_normal, KE_ret, KE_exit, KO_nil, KO_cons, KO_app_cons, KO_app_nil, KO1_true, KO1_false, KO2_true, KO2_false, KO3_some, KO4_some, loopQ_ret, loopQ_exit, wantA, isCall, stepOp, evalO, evalL, evalP, evalM, putDst, flat, cond_true, cond_false, Nat.reduceLT, ↓reduceIte, Trie.get_set, Nat.reduceEqDiff, Nat.one_ne_zero, Nat.zero_ne_one, aBuiltin, abinG, guardFree, abin, aInt, aUn, aNilCheck, retQ, retQ1, aresults, aresultL, aresult, mkF, undefV, reduceCtorEq, List.getElem?_toArray, List.append_eq, List.cons_append, List.nil_append, List.getElem?_cons_zero, List.getElem?_cons_succ, Option.bind_some, Bool.not_true, Bool.not_false, beq_self_eq_true, aExtract, calleeOf, awrap_u8, Bool.true_beq, Bool.false_beq, beq_true, beq_false, decide_true, decide_false, Bool.not_not, Bool.and_true, Bool.true_and, Bool.and_false, Bool.false_and]
    refine KCall.intro (by simp only [beq_dec, fst_mk, snd_mk, VK_skip, VK_ret, VK_exit, VK_seq, VK_block, VK_region, VK_draw, VK_cond, KCond_true, KCond_false, VK_loop, KN_nil, KN_seq, KN_blk, KX_ret_nil, KX_ret_seq, KX_ret_blk, KX_exit_nil, KX_exit_seq, KX_exit_blk, KE_normal, KE_ret, KE_exit, KO_nil, KO_cons, KO_app_cons, KO_app_nil, KO1_true, KO1_false, KO2_true, KO2_false, KO3_some, KO4_some, loopQ_ret, loopQ_exit, wantA, isCall, stepOp, evalO, evalL, evalP, evalM, putDst, flat, cond_true, cond_false, Nat.reduceLT, ↓reduceIte, Trie.get_set, Nat.reduceEqDiff, Nat.one_ne_zero, Nat.zero_ne_one, aBuiltin, abinG, guardFree, abin, aInt, aUn, aNilCheck, retQ, retQ1, aresults, aresultL, aresult, mkF, undefV, reduceCtorEq, List.getElem?_toArray, List.append_eq, List.cons_append, List.nil_append, List.getElem?_cons_zero, List.getElem?_cons_succ, Option.bind_some, Bool.not_true, Bool.not_false, beq_self_eq_true, aExtract, calleeOf, awrap_u8, Bool.true_beq, Bool.false_beq, beq_true, beq_false, decide_true, decide_false, Bool.not_not, Bool.and_true, Bool.true_and, Bool.and_false, Bool.false_and] <;> rfl) ⟨Try.func32, rfl, by decide⟩ (least_any W0 _ _ hh hw (by omega)) ?_
    rintro x h5 wf5 ⟨hl, le5⟩
    simp only [beq_dec, fst_mk, snd_mk, VK_skip, VK_ret, VK_exit, VK_seq, VK_block, VK_region, VK_draw, VK_cond, KCond_true, KCond_false, VK_loop, KN_nil, KN_seq, KN_blk, KX_ret_nil, KX_ret_seq, KX_ret_blk, KX_exit_nil, KX_exit_seq, KX_exit_blk, KE_normal, KE_ret, KE_exit, KO_nil, KO_cons, KO_app_cons, KO_app_nil, KO1_true, KO1_false, KO2_true, KO2_false, KO3_some, KO4_some, loopQ_ret, loopQ_exit, wantA, isCall, stepOp, evalO, evalL, evalP, evalM, putDst, flat, cond_true, cond_false, Nat.reduceLT, ↓reduceIte, Trie.get_set, Nat.reduceEqDiff, Nat.one_ne_zero, Nat.zero_ne_one, aBuiltin, abinG, guardFree, abin, aInt, aUn, aNilCheck, retQ, retQ1, aresults, aresultL, aresult, mkF, undefV, reduceCtorEq, List.getElem?_toArray, List.append_eq, List.cons_append, List.nil_append, List.getElem?_cons_zero, List.getElem?_cons_succ, Option.bind_some, Bool.not_true, Bool.not_false, beq_self_eq_true, aExtract, calleeOf, awrap_u8, Bool.true_beq, Bool.false_beq, beq_true, beq_false, decide_true, decide_false, Bool.not_not, Bool.and_true, Bool.true_and, Bool.and_false, Bool.false_and]
    exact ⟨⟨_, _, rfl, .inl ⟨hr, rfl, hl⟩⟩, ((le1.trans le3).trans hbase).trans le5⟩
  have hvlt : v < S.rot.length := lt_t ht
  obtain ⟨u, hu1, hu2⟩ := hs3.rot.load' (P := Try.prog) Try.underlying31 rfl v hvlt
  have ad := hs3.rot.addr (P := Try.prog) Try.underlying23 Try.underlying31 (by kernel_rfl) (k := .i64) v hvlt
  have lu := fun h' => hu2.len (P := Try.prog) Try.underlying31 h'
  rw [show S.rot[v].length = dg S v by rw [dg, getD_of hvlt]] at lu
  have hd14 := dg_le hm v
  simp only [beq_dec, fst_mk, snd_mk, VK_skip, VK_ret, VK_exit, VK_seq, VK_block, VK_region, VK_draw, VK_cond, KCond_true, KCond_false, VK_loop, KN_nil, KN_seq, KN_blk, KX_ret_nil, KX_ret_seq, KX_ret_blk, KX_exit_nil, KX_exit_seq, KX_exit_blk, KE_normal, KE_ret, KE_exit, KO_nil, KO_cons, KO_app_cons, KO_app_nil, KO1_true, KO1_false, KO2_true, KO2_false, KO3_some, KO4_some, loopQ_ret, loopQ_exit, wantA, isCall, stepOp, evalO, evalL, evalP, evalM, putDst, flat, cond_true, cond_false, Nat.reduceLT, ↓reduceIte, Trie.get_set, Nat.reduceEqDiff, Nat.one_ne_zero, Nat.zero_ne_one, aBuiltin, abinG, guardFree, abin, aInt, aUn, aNilCheck, retQ, retQ1, aresults, aresultL, aresult, mkF, undefV, reduceCtorEq, List.getElem?_toArray, List.append_eq, List.cons_append, List.nil_append, List.getElem?_cons_zero, List.getElem?_cons_succ, Option.bind_some, Bool.not_true, Bool.not_false, beq_self_eq_true, aExtract, calleeOf, awrap_u8, Bool.true_beq, Bool.false_beq, beq_true, beq_false, decide_true, decide_false, Bool.not_not, Bool.and_true, Bool.true_and, Bool.and_false, Bool.false_and]
  refine KLoop.intro (fun k fr hq => ∃ (i : Nat) (o : Value), k = max 1 (dg S v) - i ∧ i ≤ max 1 (dg S v) ∧ fr = mkF [(1, .pointer (some ⟨b, 0, none⟩)), (4, o), (5, .int .i64 v), (6, .int .i64 i)] ∧ AllW h3 hq o (allI S v (allV S v) i))
    (max 1 (dg S v)) [(1, .pointer (some ⟨b, 0, none⟩)), (4, o), (5, .int .i64 v), (6, .int .i64 (0 : Nat))] (by simp only [hasAll, beq_dec, fst_mk, snd_mk, VK_skip, VK_ret, VK_exit, VK_seq, VK_block, VK_region, VK_draw, VK_cond, KCond_true, KCond_false, VK_loop, KN_nil, KN_seq, KN_blk, KX_ret_nil, KX_ret_seq, KX_ret_blk, KX_exit_nil, KX_exit_seq, KX_exit_blk, KE_normal, KE_ret, KE_exit, KO_nil, KO_cons, KO_app_cons, KO_app_nil, KO1_true, KO1_false, KO2_true, KO2_false, KO3_some, KO4_some, loopQ_ret, loopQ_exit, wantA, isCall, stepOp, evalO, evalL, evalP, evalM, putDst, flat, cond_true, cond_false, Nat.reduceLT, ↓reduceIte, Trie.get_set, Nat.reduceEqDiff, Nat.one_ne_zero, Nat.zero_ne_one, aBuiltin, abinG, guardFree, abin, aInt, aUn, aNilCheck, retQ, retQ1, aresults, aresultL, aresult, mkF, undefV, reduceCtorEq, List.getElem?_toArray, List.append_eq, List.cons_append, List.nil_append, List.getElem?_cons_zero, List.getElem?_cons_succ, Option.bind_some, Bool.not_true, Bool.not_false, beq_self_eq_true, aExtract, calleeOf, awrap_u8, Bool.true_beq, Bool.false_beq, beq_true, beq_false, decide_true, decide_false, Bool.not_not, Bool.and_true, Bool.true_and, Bool.and_false, Bool.false_and]; simp) ⟨0, o, rfl, Nat.zero_le _, rfl, ha⟩ ?_
  clear ha hbase lr
  rintro k fr hq hwq ⟨i, o, rfl, hi, rfl, ha⟩
  have hbase : Le h3 hq := by obtain ⟨_, _, _, q⟩ := ha; exact q.trans (rem_le _ _)
  obtain ⟨lAq, lr, -, -⟩ := lA hq (le3.trans hbase)
  have hdp : 1 < S.rot.length → 0 < dg S v := fun h => dg_pos hr h hvlt
  have hsh := hr.short v _ (getElem?_of hvlt)
  have hdl : S.rot[v].length = dg S v := by rw [dg, getD_of hvlt]
  have tri : ((i : Int) < (dg S v : Int) ∧ i < max 1 (dg S v)) ∨ (¬ (i : Int) < (dg S v : Int) ∧ (i : Int) = 0 ∧ (S.rot.length : Int) = 1 ∧ i < max 1 (dg S v)) ∨ (¬ (i : Int) < (dg S v : Int) ∧ ¬ (i : Int) = 0 ∧ i = max 1 (dg S v)) ∨ (¬ (i : Int) < (dg S v : Int) ∧ (i : Int) = 0 ∧ ¬ (S.rot.length : Int) = 1 ∧ i = max 1 (dg S v)) := by omega
  have hlen1 := allI_length S v (allV S v) i
  have hlen2 := allV_length hm v
  rcases tri with ⟨c1, c2⟩ | ⟨c1, c3, c4, c2⟩ | ⟨c1, c3, c2⟩ | ⟨c1, c3, c4, c2⟩
  focus simp only [beq_dec, fst_mk, snd_mk, VK_skip, VK_ret, VK_exit, VK_seq, VK_block, VK_region, VK_draw, VK_cond, KCond_true, KCond_false, VK_loop, KN_nil, KN_seq, KN_blk, KX_ret_nil, KX_ret_seq, KX_ret_blk, KX_exit_nil, KX_exit_seq, KX_exit_blk, KE_normal, KE_ret, KE_exit, KO_nil, KO_cons, KO_app_cons, KO_app_nil, KO1_true, KO1_false, KO2_true, KO2_false, KO3_some, KO4_some, loopQ_ret, loopQ_exit, wantA, isCall, stepOp, evalO, evalL, evalP, evalM, putDst, flat, cond_true, cond_false, Nat.reduceLT, ↓reduceIte, Trie.get_set, Nat.reduceEqDiff, Nat.one_ne_zero, Nat.zero_ne_one, aBuiltin, abinG, guardFree, abin, aInt, aUn, aNilCheck, retQ, retQ1, aresults, aresultL, aresult, mkF, undefV, reduceCtorEq, List.getElem?_toArray, List.append_eq, List.cons_append, List.nil_append, List.getElem?_cons_zero, List.getElem?_cons_succ, Option.bind_some, Bool.not_true, Bool.not_false, beq_self_eq_true, aExtract, calleeOf, awrap_u8, Bool.true_beq, Bool.false_beq, beq_true, beq_false, decide_true, decide_false, Bool.not_not, Bool.and_true, Bool.true_and, Bool.and_false, Bool.false_and, fld0, aadd, Nat.zero_add, lr, ad, hu1 _ hbase, lu, eq_true c1, lAq]
  rotate_left
  focus simp only [beq_dec, fst_mk, snd_mk, VK_skip, VK_ret, VK_exit, VK_seq, VK_block, VK_region, VK_draw, VK_cond, KCond_true, KCond_false, VK_loop, KN_nil, KN_seq, KN_blk, KX_ret_nil, KX_ret_seq, KX_ret_blk, KX_exit_nil, KX_exit_seq, KX_exit_blk, KE_normal, KE_ret, KE_exit, KO_nil, KO_cons, KO_app_cons, KO_app_nil, KO1_true, KO1_false, KO2_true, KO2_false, KO3_some, KO4_some, loopQ_ret, loopQ_exit, wantA, isCall, stepOp, evalO, evalL, evalP, evalM, putDst, flat, cond_true, cond_false, Nat.reduceLT, ↓reduceIte, Trie.get_set, Nat.reduceEqDiff, Nat.one_ne_zero, Nat.zero_ne_one, aBuiltin, abinG, guardFree, abin, aInt, aUn, aNilCheck, retQ, retQ1, aresults, aresultL, aresult, mkF, undefV, reduceCtorEq, List.getElem?_toArray, List.append_eq, List.cons_append, List.nil_append, List.getElem?_cons_zero, List.getElem?_cons_succ, Option.bind_some, Bool.not_true, Bool.not_false, beq_self_eq_true, aExtract, calleeOf, awrap_u8, Bool.true_beq, Bool.false_beq, beq_true, beq_false, decide_true, decide_false, Bool.not_not, Bool.and_true, Bool.true_and, Bool.and_false, Bool.false_and, fld0, aadd, Nat.zero_add, lr, ad, hu1 _ hbase, lu, eq_false c1, eq_true c3, n0, eq_true c4, lAq]
  rotate_left
  · subst c2
    simp only [beq_dec, fst_mk, snd_mk, VK_skip, VK_ret, VK_exit, VK_seq, VK_block, VK_region, VK_draw, VK_cond, KCond_true, KCond_false, VK_loop, KN_nil, KN_seq, KN_blk, KX_ret_nil, KX_ret_seq, KX_ret_blk, KX_exit_nil, KX_exit_seq, KX_exit_blk, KE_normal, KE_ret, KE_exit, KO_nil, KO_cons, KO_app_cons, KO_app_nil, KO1_true, KO1_false, KO2_true, KO2_false, KO3_some, KO4_some, loopQ_ret, loopQ_exit, wantA, isCall, stepOp, evalO, evalL, evalP, evalM, putDst, flat, cond_true, cond_false, Nat.reduceLT, ↓reduceIte, Trie.get_set, Nat.reduceEqDiff, Nat.one_ne_zero, Nat.zero_ne_one, aBuiltin, abinG, guardFree, abin, aInt, aUn, aNilCheck, retQ, retQ1, aresults, aresultL, aresult, mkF, undefV, reduceCtorEq, List.getElem?_toArray, List.append_eq, List.cons_append, List.nil_append, List.getElem?_cons_zero, List.getElem?_cons_succ, Option.bind_some, Bool.not_true, Bool.not_false, beq_self_eq_true, aExtract, calleeOf, awrap_u8, Bool.true_beq, Bool.false_beq, beq_true, beq_false, decide_true, decide_false, Bool.not_not, Bool.and_true, Bool.true_and, Bool.and_false, Bool.false_and, fld0, aadd, Nat.zero_add, lr, ad, hu1 _ hbase, lu, eq_false c1, eq_false c3, awrap_succ v (by omega)]
    exact loop_again (S.rot.length - (v + 1)) [(1, .pointer (some ⟨b, 0, none⟩)), (4, o), (5, .int .i64 (v + 1 : Nat))] (by omega) (by simp only [hasAll, beq_dec, fst_mk, snd_mk, VK_skip, VK_ret, VK_exit, VK_seq, VK_block, VK_region, VK_draw, VK_cond, KCond_true, KCond_false, VK_loop, KN_nil, KN_seq, KN_blk, KX_ret_nil, KX_ret_seq, KX_ret_blk, KX_exit_nil, KX_exit_seq, KX_exit_blk, KE_normal, KE_ret, KE_exit, KO_nil, KO_cons, KO_app_cons, KO_app_nil, KO1_true, KO1_false, KO2_true, KO2_false, KO3_some, KO4_some, loopQ_ret, loopQ_exit, wantA, isCall, stepOp, evalO, evalL, evalP, evalM, putDst, flat, cond_true, cond_false, Nat.reduceLT, ↓reduceIte, Trie.get_set, Nat.reduceEqDiff, Nat.one_ne_zero, Nat.zero_ne_one, aBuiltin, abinG, guardFree, abin, aInt, aUn, aNilCheck, retQ, retQ1, aresults, aresultL, aresult, mkF, undefV, reduceCtorEq, List.getElem?_toArray, List.append_eq, List.cons_append, List.nil_append, List.getElem?_cons_zero, List.getElem?_cons_succ, Option.bind_some, Bool.not_true, Bool.not_false, beq_self_eq_true, aExtract, calleeOf, awrap_u8, Bool.true_beq, Bool.false_beq, beq_true, beq_false, decide_true, decide_false, Bool.not_not, Bool.and_true, Bool.true_and, Bool.and_false, Bool.false_and]; simp) ⟨v + 1, o, rfl, hvlt, rfl, ha⟩
  · omega
  all_goals
    have hd : isDartM S.rot v i = true := by
      simp [isDartM, hvlt]
      omega
    refine KCall.intro (by simp only [beq_dec, fst_mk, snd_mk, VK_skip, VK_ret, VK_exit, VK_seq, VK_block, VK_region, VK_draw, VK_cond, KCond_true, KCond_false, VK_loop, KN_nil, KN_seq, KN_blk, KX_ret_nil, KX_ret_seq, KX_ret_blk, KX_exit_nil, KX_exit_seq, KX_exit_blk, KE_normal, KE_ret, KE_exit, KO_nil, KO_cons, KO_app_cons, KO_app_nil, KO1_true, KO1_false, KO2_true, KO2_false, KO3_some, KO4_some, loopQ_ret, loopQ_exit, wantA, isCall, stepOp, evalO, evalL, evalP, evalM, putDst, flat, cond_true, cond_false, Nat.reduceLT, ↓reduceIte, Trie.get_set, Nat.reduceEqDiff, Nat.one_ne_zero, Nat.zero_ne_one, aBuiltin, abinG, guardFree, abin, aInt, aUn, aNilCheck, retQ, retQ1, aresults, aresultL, aresult, mkF, undefV, reduceCtorEq, List.getElem?_toArray, List.append_eq, List.cons_append, List.nil_append, List.getElem?_cons_zero, List.getElem?_cons_succ, Option.bind_some, Bool.not_true, Bool.not_false, beq_self_eq_true, aExtract, calleeOf, awrap_u8, Bool.true_beq, Bool.false_beq, beq_true, beq_false, decide_true, decide_false, Bool.not_not, Bool.and_true, Bool.true_and, Bool.and_false, Bool.false_and] <;> rfl) ⟨Try.func33, rfl, by decide⟩ (both_any W0 r ve d S v i hq (hs3.le hbase) hm hr hd) ?_
    rintro x h4 wf4 ⟨id, vs, rfl, nid, oid, els, le4⟩
    obtain ⟨o', h5, e5, ha5⟩ := ha.both wf4 rfl nid oid els le4 (by omega)
    simp only [beq_dec, fst_mk, snd_mk, VK_skip, VK_ret, VK_exit, VK_seq, VK_block, VK_region, VK_draw, VK_cond, KCond_true, KCond_false, VK_loop, KN_nil, KN_seq, KN_blk, KX_ret_nil, KX_ret_seq, KX_ret_blk, KX_exit_nil, KX_exit_seq, KX_exit_blk, KE_normal, KE_ret, KE_exit, KO_nil, KO_cons, KO_app_cons, KO_app_nil, KO1_true, KO1_false, KO2_true, KO2_false, KO3_some, KO4_some, loopQ_ret, loopQ_exit, wantA, isCall, stepOp, evalO, evalL, evalP, evalM, putDst, flat, cond_true, cond_false, Nat.reduceLT, ↓reduceIte, Trie.get_set, Nat.reduceEqDiff, Nat.one_ne_zero, Nat.zero_ne_one, aBuiltin, abinG, guardFree, abin, aInt, aUn, aNilCheck, retQ, retQ1, aresults, aresultL, aresult, mkF, undefV, reduceCtorEq, List.getElem?_toArray, List.append_eq, List.cons_append, List.nil_append, List.getElem?_cons_zero, List.getElem?_cons_succ, Option.bind_some, Bool.not_true, Bool.not_false, beq_self_eq_true, aExtract, calleeOf, awrap_u8, Bool.true_beq, Bool.false_beq, beq_true, beq_false, decide_true, decide_false, Bool.not_not, Bool.and_true, Bool.true_and, Bool.and_false, Bool.false_and, e5, awrap_succ i (by omega)]
    exact loop_again (max 1 (dg S v) - (i + 1)) [(1, .pointer (some ⟨b, 0, none⟩)), (4, o'), (5, .int .i64 v), (6, .int .i64 (i + 1 : Nat))] (by omega) (by simp only [hasAll, beq_dec, fst_mk, snd_mk, VK_skip, VK_ret, VK_exit, VK_seq, VK_block, VK_region, VK_draw, VK_cond, KCond_true, KCond_false, VK_loop, KN_nil, KN_seq, KN_blk, KX_ret_nil, KX_ret_seq, KX_ret_blk, KX_exit_nil, KX_exit_seq, KX_exit_blk, KE_normal, KE_ret, KE_exit, KO_nil, KO_cons, KO_app_cons, KO_app_nil, KO1_true, KO1_false, KO2_true, KO2_false, KO3_some, KO4_some, loopQ_ret, loopQ_exit, wantA, isCall, stepOp, evalO, evalL, evalP, evalM, putDst, flat, cond_true, cond_false, Nat.reduceLT, ↓reduceIte, Trie.get_set, Nat.reduceEqDiff, Nat.one_ne_zero, Nat.zero_ne_one, aBuiltin, abinG, guardFree, abin, aInt, aUn, aNilCheck, retQ, retQ1, aresults, aresultL, aresult, mkF, undefV, reduceCtorEq, List.getElem?_toArray, List.append_eq, List.cons_append, List.nil_append, List.getElem?_cons_zero, List.getElem?_cons_succ, Option.bind_some, Bool.not_true, Bool.not_false, beq_self_eq_true, aExtract, calleeOf, awrap_u8, Bool.true_beq, Bool.false_beq, beq_true, beq_false, decide_true, decide_false, Bool.not_not, Bool.and_true, Bool.true_and, Bool.and_false, Bool.false_and]; simp) ⟨i + 1, o', rfl, c2, rfl, ha5⟩
end Go.Fw
