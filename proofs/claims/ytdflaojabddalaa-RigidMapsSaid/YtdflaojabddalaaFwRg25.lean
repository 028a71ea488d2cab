/- One of the texts of the layer and the walks: it proves what its theorems say of the functions of the seat, with no condition beyond theirs. -/
import Derived.Test.YtdflaojabddalaaFwRg24
set_option linter.unusedSimpArgs false
set_option linter.unusedVariables false
namespace Go.Fw
open Go.Proofs
set_option maxHeartbeats 400000
set_option maxRecDepth 10000

/- bytes that are gathered, in a slice at o -/
structure OutS (h : AHeap) (o : Nat) (cs : Value) (C : List Int) : Prop where
  ow : h.own o = some (.cells [cs])
  gs : GB h cs C
  no : blk cs ≠ some o

theorem OutS.le {h h' : AHeap} {o : Nat} {cs : Value} {C : List Int} (s : OutS h o cs C) (e : Le h h') : OutS h' o cs C := ⟨e.own _ _ s.ow, s.gs.le e, s.no⟩

/- append to it -/
theorem OutS.append {h : AHeap} {o : Nat} {cs v : Value} {C xs : List Int} (s : OutS h o cs C) (hwf : WF h) {g : AHeap} (hg : Le g h) (hv : RL isB h v xs) (hn : C.length + xs.length ≤ 100000000) (go : g.own o = none) (ga : Apart g cs) :
    ∃ cs' h1, aAppend Try.prog h 34 34 cs v = some (cs', h1) ∧ aload Try.prog h1 34 ⟨o, 0, none⟩ = some cs ∧ aStore Try.prog h1 34 (.pointer (some ⟨o, 0, none⟩)) cs' = some (h1.put o (.cells [cs'])) ∧ OutS (h1.put o (.cells [cs'])) o cs' (C ++ xs) ∧ Le g (h1.put o (.cells [cs'])) ∧ Apart g cs' ∧ WF (h1.put o (.cells [cs'])) := by
  obtain ⟨cs', h1, e, hg1, hf⟩ := s.gs.1.append (P := Try.prog) (t := 34) (xt := 34) (by kernel_rfl) (fun e he => hv.cellsB.1.cs.src he) (bytes_one C) (bytes_one xs) (by simp) (by simp; omega)
  obtain ⟨oo, no'⟩ := keep_own hf hwf s.ow s.no
  obtain ⟨g1, a1⟩ := hf g hwf hg ga
  have st := aStore1 (P := Try.prog) (t := 34) (x := cs') Try.underlying34 (by kernel_rfl) oo (off := 0) (by simp) (by obtain ⟨_, _, rfl, _⟩ := hg1.cs.sl; rfl) hg1.cs.sl.one
  simp only [List.set_cons_zero] at st
  have hwf1 := aAppend_wf hwf e
  refine ⟨cs', h1, e, by rw [aload_one Try.underlying34 rfl oo]; rfl, st, ⟨AHeap.own_put_eq _ _ _, GB.put ⟨?_, s.gs.2.append hv.cellsB.2⟩ _ no', no'⟩, g1.put _ go, a1, hwf1.put _ (hwf1.lt oo)⟩
  have : GS 1 h1 cs' (C ++ xs).length ((C ++ xs).map (Value.int .u8)) := by simpa using hg1
  exact this

theorem num36_any (W0 : World) (n : Int) (h : AHeap) (o : Nat) (cs : Value) (C : List Int) (g : AHeap) (s : OutS h o cs C) (hg : Le g h) (go : g.own o = none) (ga : Apart g cs) (hn : C.length + 4 ≤ 100000000) :
    AC Try.prog W0 36 [.int .i64 n, .pointer (some ⟨o, 0, none⟩)] h fun x h' => x = .tuple #[] ∧ ∃ cs', OutS h' o cs' (C ++ num4 n) ∧ Le g h' ∧ Apart g cs' := by
  refine AC.vc (fn := Try.f36) (c := _) ⟨Try.func36, rfl, by decide⟩ Try.ntmps36 Try.results36 (by simp) fun hwf => ?_
  simp only [argFrame, argFrom, Nat.reduceAdd]
  have lo : aload Try.prog h 34 ⟨o, 0, none⟩ = some cs := by rw [aload_one Try.underlying34 rfl s.ow]; rfl
  have hb : ∀ a b c d : Int, aBuildSlice Try.prog h 34 4 [(0, .int .u8 a), (1, .int .u8 b), (2, .int .u8 c), (3, .int .u8 d)] = some (.slice (some ⟨h.next, 0, none⟩) 4 4, h.alloc (.cells [.int .u8 a, .int .u8 b, .int .u8 c, .int .u8 d])) := fun _ _ _ _ => rfl
  have le1 : Le h (h.alloc (.cells ((num4 n).map (Value.int .u8)))) := (Le.refl h).alloc hwf _
  have o1 : (h.alloc (.cells ((num4 n).map (Value.int .u8)))).own h.next = some (.cells ((num4 n).map (Value.int .u8))) := AHeap.own_alloc_eq _ _
  have wf1 := hwf.alloc (.cells ((num4 n).map (Value.int .u8)))
  obtain ⟨cs', h2, e2, l2, st2, s2, g2, a2, -⟩ := (s.le le1).append wf1 (hg.trans le1) (RL.ofB (xs := num4 n) (RS.whole (c := 4) o1 rfl) (num4_rng n)) (by rw [num4_length]; omega) go ga
  have s24 : aShift .shr .i64 n 24 = some (.int .i64 (n / 16777216)) := shr_i64 _ 24 24 rfl (by decide)
  have s16 : aShift .shr .i64 n 16 = some (.int .i64 (n / 65536)) := shr_i64 _ 16 16 rfl (by decide)
  have s8 : aShift .shr .i64 n 8 = some (.int .i64 (n / 256)) := shr_i64 _ 8 8 rfl (by decide)
  have e2' : aAppend Try.prog (h.alloc (.cells [.int .u8 (n / 16777216 % 256), .int .u8 (n / 65536 % 256), .int .u8 (n / 256 % 256), .int .u8 (n % 256)])) 34 34 cs (.slice (some ⟨h.next, 0, none⟩) 4 4) = some (cs', h2) := e2
  simp only [beq_dec, fst_mk, snd_mk, VK_skip, VK_ret, VK_exit, VK_seq, VK_block, VK_region, VK_draw, VK_cond, KCond_true, KCond_false, VK_loop, KN_nil, KN_seq, KN_blk, KX_ret_nil, KX_ret_seq, KX_ret_blk, KX_exit_nil, KX_exit_seq, KX_exit_blk, KE_normal, KE_ret, KE_exit, KO_nil, KO_cons, KO_app_cons, KO_app_nil, KO1_true, KO1_false, KO2_true, KO2_false, KO3_some, KO4_some, loopQ_ret, loopQ_exit, wantA, isCall, stepOp, evalO, evalL, evalP, evalM, putDst, flat, cond_true, cond_false, Nat.reduceLT, ↓reduceIte, Trie.get_set, Nat.reduceEqDiff, Nat.one_ne_zero, Nat.zero_ne_one, aBuiltin, abinG, guardFree, abin, aInt, aUn, aNilCheck, retQ, retQ1, aresults, aresultL, aresult, mkF, undefV, reduceCtorEq, List.getElem?_toArray, List.append_eq, List.cons_append, List.nil_append, List.getElem?_cons_zero, List.getElem?_cons_succ, Option.bind_some, Bool.not_true, Bool.not_false, beq_self_eq_true, aExtract, calleeOf, awrap_u8, Bool.true_beq, Bool.false_beq, beq_true, beq_false, decide_true, decide_false, Bool.not_not, Bool.and_true, Bool.true_and, Bool.and_false, Bool.false_and, lo, s24, s16, s8, aConvert, Try.underlying3, Try.underlying5, hb, e2', st2]
  exact ⟨trivial, cs', s2, g2, a2⟩

theorem Bytes_any (W0 : World) (l : Value) (ws : List (List Int)) (h : AHeap) (hl : RL (RL isB) h l ws) (hn : 4 + 4 * ws.length + (ws.map List.length).sum ≤ 100000) :
    AC Try.prog W0 23 [l] h fun x h' => GB h' x (num4 ws.length ++ bytesM ws) ∧ Le h h' := by
  refine AC.vc (fn := Try.f23) (c := _) ⟨Try.func23, rfl, by decide⟩ Try.ntmps23 Try.results23 (by simp) fun hwf => ?_
  simp only [argFrame, argFrom, Nat.reduceAdd]
  obtain ⟨ha, e1⟩ : ∃ ha, ha = h.alloc (.cells [.slice none 0 0]) := ⟨_, rfl⟩
  have a1 : aAlloc Try.prog h 34 = some (.pointer (some ⟨h.next, 0, none⟩), ha) := by rw [e1]; rfl
  have o1 : ha.own h.next = some (.cells [.slice none 0 0]) := by rw [e1]; exact AHeap.own_alloc_eq _ _
  have le1 : Le h ha := by rw [e1]; exact (Le.refl h).alloc hwf _
  have no : h.own h.next = none := (Le.refl h).next hwf (Nat.le_refl _)
  have nl := fun h' => hl.len (P := Try.prog) Try.underlying24 h'
  simp only [beq_dec, fst_mk, snd_mk, VK_skip, VK_ret, VK_exit, VK_seq, VK_block, VK_region, VK_draw, VK_cond, KCond_true, KCond_false, VK_loop, KN_nil, KN_seq, KN_blk, KX_ret_nil, KX_ret_seq, KX_ret_blk, KX_exit_nil, KX_exit_seq, KX_exit_blk, KE_normal, KE_ret, KE_exit, KO_nil, KO_cons, KO_app_cons, KO_app_nil, KO1_true, KO1_false, KO2_true, KO2_false, KO3_some, KO4_some, loopQ_ret, loopQ_exit, wantA, isCall, stepOp, evalO, evalL, evalP, evalM, putDst, flat, cond_true, cond_false, Nat.reduceLT, ↓reduceIte, Trie.get_set, Nat.reduceEqDiff, Nat.one_ne_zero, Nat.zero_ne_one, aBuiltin, abinG, guardFree, abin, aInt, aUn, aNilCheck, retQ, retQ1, aresults, aresultL, aresult, mkF, undefV, reduceCtorEq, List.getElem?_toArray, List.append_eq, List.cons_append, List.nil_append, List.getElem?_cons_zero, List.getElem?_cons_succ, Option.bind_some, Bool.not_true, Bool.not_false, beq_self_eq_true, aExtract, calleeOf, awrap_u8, Bool.true_beq, Bool.false_beq, beq_true, beq_false, decide_true, decide_false, Bool.not_not, Bool.and_true, Bool.true_and, Bool.and_false, Bool.false_and, a1, nl]
  clear e1 a1
  generalize ho : h.next = o at *
  have s1 : OutS ha o (.slice none 0 0) [] := ⟨o1, ⟨.nil 1 _, by intro x hx; cases hx⟩, by simp [blk]⟩
  refine KCall.intro (by simp only [beq_dec, fst_mk, snd_mk, VK_skip, VK_ret, VK_exit, VK_seq, VK_block, VK_region, VK_draw, VK_cond, KCond_true, KCond_false, VK_loop, KN_nil, KN_seq, KN_blk, KX_ret_nil, KX_ret_seq, KX_ret_blk, KX_exit_nil, KX_exit_seq, KX_exit_blk, KE_normal, KE_ret, KE_exit, KO_nil, KO_cons, KO_app_cons, KO_app_nil, KO1_true, KO1_false, KO2_true, KO2_false, KO3_some, KO4_some, loopQ_ret, loopQ_exit, wantA, isCall, stepOp, evalO, evalL, evalP, evalM, putDst, flat, cond_true, cond_false, Nat.reduceLT, ↓reduceIte, Trie.get_set, Nat.reduceEqDiff, Nat.one_ne_zero, Nat.zero_ne_one, aBuiltin, abinG, guardFree, abin, aInt, aUn, aNilCheck, retQ, retQ1, aresults, aresultL, aresult, mkF, undefV, reduceCtorEq, List.getElem?_toArray, List.append_eq, List.cons_append, List.nil_append, List.getElem?_cons_zero, List.getElem?_cons_succ, Option.bind_some, Bool.not_true, Bool.not_false, beq_self_eq_true, aExtract, calleeOf, awrap_u8, Bool.true_beq, Bool.false_beq, beq_true, beq_false, decide_true, decide_false, Bool.not_not, Bool.and_true, Bool.true_and, Bool.and_false, Bool.false_and] <;> rfl) ⟨Try.func36, rfl, by decide⟩ (num36_any W0 ws.length ha o _ [] h s1 le1 no (fun q hq => by (simp [blk] at hq)) (by simp)) ?_
  rintro x h2 wf2 ⟨rfl, cs, s2, le2, ap2⟩
  simp only [beq_dec, fst_mk, snd_mk, VK_skip, VK_ret, VK_exit, VK_seq, VK_block, VK_region, VK_draw, VK_cond, KCond_true, KCond_false, VK_loop, KN_nil, KN_seq, KN_blk, KX_ret_nil, KX_ret_seq, KX_ret_blk, KX_exit_nil, KX_exit_seq, KX_exit_blk, KE_normal, KE_ret, KE_exit, KO_nil, KO_cons, KO_app_cons, KO_app_nil, KO1_true, KO1_false, KO2_true, KO2_false, KO3_some, KO4_some, loopQ_ret, loopQ_exit, wantA, isCall, stepOp, evalO, evalL, evalP, evalM, putDst, flat, cond_true, cond_false, Nat.reduceLT, ↓reduceIte, Trie.get_set, Nat.reduceEqDiff, Nat.one_ne_zero, Nat.zero_ne_one, aBuiltin, abinG, guardFree, abin, aInt, aUn, aNilCheck, retQ, retQ1, aresults, aresultL, aresult, mkF, undefV, reduceCtorEq, List.getElem?_toArray, List.append_eq, List.cons_append, List.nil_append, List.getElem?_cons_zero, List.getElem?_cons_succ, Option.bind_some, Bool.not_true, Bool.not_false, beq_self_eq_true, aExtract, calleeOf, awrap_u8, Bool.true_beq, Bool.false_beq, beq_true, beq_false, decide_true, decide_false, Bool.not_not, Bool.and_true, Bool.true_and, Bool.and_false, Bool.false_and, nl]
  have htk : ∀ k, 4 * (ws.take k).length + ((ws.take k).map List.length).sum = (bytesM (ws.take k)).length := fun k => by
    generalize ws.take k = l
    induction l with
    | nil => rfl
    | cons a l ih => simp only [bytesM, List.flatMap_cons, List.length_append, wordB_length, List.length_cons, List.map_cons, List.sum_cons] at *; omega
  have hsum : ∀ k, k ≤ ws.length → (bytesM (ws.take k)).length ≤ 4 * ws.length + (ws.map List.length).sum := fun k hk => by
    have h1 := htk ws.length
    have h2 : ∃ r, bytesM (ws.take ws.length) = bytesM (ws.take k) ++ r := by
      refine ⟨bytesM (ws.drop k), ?_⟩
      have : bytesM (ws.take k ++ ws.drop k) = bytesM (ws.take k) ++ bytesM (ws.drop k) := by simp only [bytesM, List.flatMap_append]
      rw [List.take_length, ← this, List.take_append_drop]
    obtain ⟨r, hr⟩ := h2
    have h3 := congrArg List.length hr
    rw [List.length_append] at h3
    rw [← h1, List.take_length] at h3
    omega
  refine KLoop.intro (fun k fr hh => ∃ (i : Nat) (cs : Value), k = ws.length - i ∧ i ≤ ws.length ∧ fr = mkF [(3, .pointer (some ⟨o, 0, none⟩)), (4, .func (.func 36) #[] #[.pointer (some ⟨o, 0, none⟩)]), (12, l), (13, .int .i64 ws.length), (14, .int .i64 i)] ∧
      OutS hh o cs (num4 ws.length ++ bytesM (ws.take i)) ∧ Le h hh ∧ Apart h cs)
    ws.length [(3, .pointer (some ⟨o, 0, none⟩)), (4, .func (.func 36) #[] #[.pointer (some ⟨o, 0, none⟩)]), (12, l), (13, .int .i64 ws.length), (14, .int .i64 (0 : Nat))] (by simp only [hasAll, beq_dec, fst_mk, snd_mk, VK_skip, VK_ret, VK_exit, VK_seq, VK_block, VK_region, VK_draw, VK_cond, KCond_true, KCond_false, VK_loop, KN_nil, KN_seq, KN_blk, KX_ret_nil, KX_ret_seq, KX_ret_blk, KX_exit_nil, KX_exit_seq, KX_exit_blk, KE_normal, KE_ret, KE_exit, KO_nil, KO_cons, KO_app_cons, KO_app_nil, KO1_true, KO1_false, KO2_true, KO2_false, KO3_some, KO4_some, loopQ_ret, loopQ_exit, wantA, isCall, stepOp, evalO, evalL, evalP, evalM, putDst, flat, cond_true, cond_false, Nat.reduceLT, ↓reduceIte, Trie.get_set, Nat.reduceEqDiff, Nat.one_ne_zero, Nat.zero_ne_one, aBuiltin, abinG, guardFree, abin, aInt, aUn, aNilCheck, retQ, retQ1, aresults, aresultL, aresult, mkF, undefV, reduceCtorEq, List.getElem?_toArray, List.append_eq, List.cons_append, List.nil_append, List.getElem?_cons_zero, List.getElem?_cons_succ, Option.bind_some, Bool.not_true, Bool.not_false, beq_self_eq_true, aExtract, calleeOf, awrap_u8, Bool.true_beq, Bool.false_beq, beq_true, beq_false, decide_true, decide_false, Bool.not_not, Bool.and_true, Bool.true_and, Bool.and_false, Bool.false_and]; simp) ⟨0, cs, rfl, Nat.zero_le _, rfl, by simpa [bytesM] using s2, le2, ap2⟩ ?_
  clear s2 le2 ap2
  rintro k fr hh hwh ⟨i, cs, rfl, hi, rfl, s, hle, ap⟩
  have hsi := hsum i hi
  simp only [beq_dec, fst_mk, snd_mk, VK_skip, VK_ret, VK_exit, VK_seq, VK_block, VK_region, VK_draw, VK_cond, KCond_true, KCond_false, VK_loop, KN_nil, KN_seq, KN_blk, KX_ret_nil, KX_ret_seq, KX_ret_blk, KX_exit_nil, KX_exit_seq, KX_exit_blk, KE_normal, KE_ret, KE_exit, KO_nil, KO_cons, KO_app_cons, KO_app_nil, KO1_true, KO1_false, KO2_true, KO2_false, KO3_some, KO4_some, loopQ_ret, loopQ_exit, wantA, isCall, stepOp, evalO, evalL, evalP, evalM, putDst, flat, cond_true, cond_false, Nat.reduceLT, ↓reduceIte, Trie.get_set, Nat.reduceEqDiff, Nat.one_ne_zero, Nat.zero_ne_one, aBuiltin, abinG, guardFree, abin, aInt, aUn, aNilCheck, retQ, retQ1, aresults, aresultL, aresult, mkF, undefV, reduceCtorEq, List.getElem?_toArray, List.append_eq, List.cons_append, List.nil_append, List.getElem?_cons_zero, List.getElem?_cons_succ, Option.bind_some, Bool.not_true, Bool.not_false, beq_self_eq_true, aExtract, calleeOf, awrap_u8, Bool.true_beq, Bool.false_beq, beq_true, beq_false, decide_true, decide_false, Bool.not_not, Bool.and_true, Bool.true_and, Bool.and_false, Bool.false_and]
  refine KCond.intro (fun ht => ?_) (fun hf => ?_)
  · have hilt : i < ws.length := lt_t ht
    have hsi1 := hsum (i + 1) hilt
    have htake : ws.take (i + 1) = ws.take i ++ [ws[i]] := List.take_succ_eq_append_getElem hilt
    have hbs : bytesM (ws.take (i + 1)) = bytesM (ws.take i) ++ (num4 ws[i].length ++ ws[i]) := by rw [htake]; simp only [bytesM, List.flatMap_append, List.flatMap_cons, List.flatMap_nil, List.append_nil, wordB]
    rw [hbs] at hsi1
    simp only [List.length_append, num4_length] at hsi1
    obtain ⟨u, hu1, hu2⟩ := hl.load' (P := Try.prog) Try.underlying34 rfl i hilt
    have ad := hl.addr (P := Try.prog) Try.underlying24 Try.underlying34 (by kernel_rfl) (k := .i64) i hilt
    have lu := fun h' => hu2.len (P := Try.prog) Try.underlying34 h'
    simp only [beq_dec, fst_mk, snd_mk, VK_skip, VK_ret, VK_exit, VK_seq, VK_block, VK_region, VK_draw, VK_cond, KCond_true, KCond_false, VK_loop, KN_nil, KN_seq, KN_blk, KX_ret_nil, KX_ret_seq, KX_ret_blk, KX_exit_nil, KX_exit_seq, KX_exit_blk, KE_normal, KE_ret, KE_exit, KO_nil, KO_cons, KO_app_cons, KO_app_nil, KO1_true, KO1_false, KO2_true, KO2_false, KO3_some, KO4_some, loopQ_ret, loopQ_exit, wantA, isCall, stepOp, evalO, evalL, evalP, evalM, putDst, flat, cond_true, cond_false, Nat.reduceLT, ↓reduceIte, Trie.get_set, Nat.reduceEqDiff, Nat.one_ne_zero, Nat.zero_ne_one, aBuiltin, abinG, guardFree, abin, aInt, aUn, aNilCheck, retQ, retQ1, aresults, aresultL, aresult, mkF, undefV, reduceCtorEq, List.getElem?_toArray, List.append_eq, List.cons_append, List.nil_append, List.getElem?_cons_zero, List.getElem?_cons_succ, Option.bind_some, Bool.not_true, Bool.not_false, beq_self_eq_true, aExtract, calleeOf, awrap_u8, Bool.true_beq, Bool.false_beq, beq_true, beq_false, decide_true, decide_false, Bool.not_not, Bool.and_true, Bool.true_and, Bool.and_false, Bool.false_and, ad, hu1 _ hle, lu]
    refine KCall.intro (by simp only [beq_dec, fst_mk, snd_mk, VK_skip, VK_ret, VK_exit, VK_seq, VK_block, VK_region, VK_draw, VK_cond, KCond_true, KCond_false, VK_loop, KN_nil, KN_seq, KN_blk, KX_ret_nil, KX_ret_seq, KX_ret_blk, KX_exit_nil, KX_exit_seq, KX_exit_blk, KE_normal, KE_ret, KE_exit, KO_nil, KO_cons, KO_app_cons, KO_app_nil, KO1_true, KO1_false, KO2_true, KO2_false, KO3_some, KO4_some, loopQ_ret, loopQ_exit, wantA, isCall, stepOp, evalO, evalL, evalP, evalM, putDst, flat, cond_true, cond_false, Nat.reduceLT, ↓reduceIte, Trie.get_set, Nat.reduceEqDiff, Nat.one_ne_zero, Nat.zero_ne_one, aBuiltin, abinG, guardFree, abin, aInt, aUn, aNilCheck, retQ, retQ1, aresults, aresultL, aresult, mkF, undefV, reduceCtorEq, List.getElem?_toArray, List.append_eq, List.cons_append, List.nil_append, List.getElem?_cons_zero, List.getElem?_cons_succ, Option.bind_some, Bool.not_true, Bool.not_false, beq_self_eq_true, aExtract, calleeOf, awrap_u8, Bool.true_beq, Bool.false_beq, beq_true, beq_false, decide_true, decide_false, Bool.not_not, Bool.and_true, Bool.true_and, Bool.and_false, Bool.false_and] <;> rfl) ⟨Try.func36, rfl, by decide⟩ (num36_any W0 ws[i].length hh o cs _ h s hle no ap (by simp only [List.length_append, num4_length]; omega)) ?_
    rintro x h3 wf3 ⟨rfl, cs3, s3, le3, ap3⟩
    obtain ⟨cs4, h4, e4, l4, st4, s4, g4, a4, -⟩ := s3.append wf3 le3 (hu2.le .isB le3) (by simp only [List.length_append, num4_length]; omega) no ap3
    have lo3 : aload Try.prog h3 34 ⟨o, 0, none⟩ = some cs3 := by rw [aload_one Try.underlying34 rfl s3.ow]; rfl
    simp only [beq_dec, fst_mk, snd_mk, VK_skip, VK_ret, VK_exit, VK_seq, VK_block, VK_region, VK_draw, VK_cond, KCond_true, KCond_false, VK_loop, KN_nil, KN_seq, KN_blk, KX_ret_nil, KX_ret_seq, KX_ret_blk, KX_exit_nil, KX_exit_seq, KX_exit_blk, KE_normal, KE_ret, KE_exit, KO_nil, KO_cons, KO_app_cons, KO_app_nil, KO1_true, KO1_false, KO2_true, KO2_false, KO3_some, KO4_some, loopQ_ret, loopQ_exit, wantA, isCall, stepOp, evalO, evalL, evalP, evalM, putDst, flat, cond_true, cond_false, Nat.reduceLT, ↓reduceIte, Trie.get_set, Nat.reduceEqDiff, Nat.one_ne_zero, Nat.zero_ne_one, aBuiltin, abinG, guardFree, abin, aInt, aUn, aNilCheck, retQ, retQ1, aresults, aresultL, aresult, mkF, undefV, reduceCtorEq, List.getElem?_toArray, List.append_eq, List.cons_append, List.nil_append, List.getElem?_cons_zero, List.getElem?_cons_succ, Option.bind_some, Bool.not_true, Bool.not_false, beq_self_eq_true, aExtract, calleeOf, awrap_u8, Bool.true_beq, Bool.false_beq, beq_true, beq_false, decide_true, decide_false, Bool.not_not, Bool.and_true, Bool.true_and, Bool.and_false, Bool.false_and, lo3, e4, st4, awrap_succ i (by omega)]
    refine loop_again (ws.length - (i + 1)) [(3, .pointer (some ⟨o, 0, none⟩)), (4, .func (.func 36) #[] #[.pointer (some ⟨o, 0, none⟩)]), (12, l), (13, .int .i64 ws.length), (14, .int .i64 (i + 1 : Nat))] (by omega) (by simp only [hasAll, beq_dec, fst_mk, snd_mk, VK_skip, VK_ret, VK_exit, VK_seq, VK_block, VK_region, VK_draw, VK_cond, KCond_true, KCond_false, VK_loop, KN_nil, KN_seq, KN_blk, KX_ret_nil, KX_ret_seq, KX_ret_blk, KX_exit_nil, KX_exit_seq, KX_exit_blk, KE_normal, KE_ret, KE_exit, KO_nil, KO_cons, KO_app_cons, KO_app_nil, KO1_true, KO1_false, KO2_true, KO2_false, KO3_some, KO4_some, loopQ_ret, loopQ_exit, wantA, isCall, stepOp, evalO, evalL, evalP, evalM, putDst, flat, cond_true, cond_false, Nat.reduceLT, ↓reduceIte, Trie.get_set, Nat.reduceEqDiff, Nat.one_ne_zero, Nat.zero_ne_one, aBuiltin, abinG, guardFree, abin, aInt, aUn, aNilCheck, retQ, retQ1, aresults, aresultL, aresult, mkF, undefV, reduceCtorEq, List.getElem?_toArray, List.append_eq, List.cons_append, List.nil_append, List.getElem?_cons_zero, List.getElem?_cons_succ, Option.bind_some, Bool.not_true, Bool.not_false, beq_self_eq_true, aExtract, calleeOf, awrap_u8, Bool.true_beq, Bool.false_beq, beq_true, beq_false, decide_true, decide_false, Bool.not_not, Bool.and_true, Bool.true_and, Bool.and_false, Bool.false_and]; simp) ⟨i + 1, cs4, rfl, hilt, rfl, ?_, g4, a4⟩
    rw [hbs]
    simpa only [List.append_assoc] using s4
  · have hge : ws.length ≤ i := lt_f hf
    have hie : i = ws.length := by omega
    subst hie
    have lo3 : aload Try.prog hh 34 ⟨o, 0, none⟩ = some cs := by rw [aload_one Try.underlying34 rfl s.ow]; rfl
    simp only [beq_dec, fst_mk, snd_mk, VK_skip, VK_ret, VK_exit, VK_seq, VK_block, VK_region, VK_draw, VK_cond, KCond_true, KCond_false, VK_loop, KN_nil, KN_seq, KN_blk, KX_ret_nil, KX_ret_seq, KX_ret_blk, KX_exit_nil, KX_exit_seq, KX_exit_blk, KE_normal, KE_ret, KE_exit, KO_nil, KO_cons, KO_app_cons, KO_app_nil, KO1_true, KO1_false, KO2_true, KO2_false, KO3_some, KO4_some, loopQ_ret, loopQ_exit, wantA, isCall, stepOp, evalO, evalL, evalP, evalM, putDst, flat, cond_true, cond_false, Nat.reduceLT, ↓reduceIte, Trie.get_set, Nat.reduceEqDiff, Nat.one_ne_zero, Nat.zero_ne_one, aBuiltin, abinG, guardFree, abin, aInt, aUn, aNilCheck, retQ, retQ1, aresults, aresultL, aresult, mkF, undefV, reduceCtorEq, List.getElem?_toArray, List.append_eq, List.cons_append, List.nil_append, List.getElem?_cons_zero, List.getElem?_cons_succ, Option.bind_some, Bool.not_true, Bool.not_false, beq_self_eq_true, aExtract, calleeOf, awrap_u8, Bool.true_beq, Bool.false_beq, beq_true, beq_false, decide_true, decide_false, Bool.not_not, Bool.and_true, Bool.true_and, Bool.and_false, Bool.false_and, lo3]
    rw [List.take_length] at s
    exact ⟨s.gs, hle⟩
end Go.Fw
