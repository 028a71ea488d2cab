/- One of the texts of the layer and the walks: it proves what its theorems say of the functions of the seat, with no condition beyond theirs. -/
import Derived.Test.YtdflaojabddalaaFwRg9
import Derived.Test.YtdflaojabddalaaFwBytes
set_option linter.unusedSimpArgs false
set_option linter.unusedVariables false
namespace Go.Fw
open Go.Proofs
set_option maxHeartbeats 400000
set_option maxRecDepth 10000

/- bytes in a slice that grows -/
def GB (h : AHeap) (v : Value) (xs : List Int) : Prop := GS 1 h v xs.length (xs.map (Value.int .u8)) ∧ okB xs
theorem GB.rl {h : AHeap} {v : Value} {xs : List Int} (g : GB h v xs) : RL isB h v xs := RL.ofB g.1.cs.rs g.2
theorem GB.le {h h' : AHeap} {v : Value} {xs : List Int} (g : GB h v xs) (e : Le h h') : GB h' v xs := ⟨g.1.le e, g.2⟩

/- a least code; none: nil -/
def LstR (h : AHeap) (v : Value) : Option (List Int) → Prop
  | none => v = .slice none 0 0
  | some l => l ≠ [] ∧ GB h v l
theorem LstR.le {h h' : AHeap} {v : Value} {L : Option (List Int)} (g : LstR h v L) (e : Le h h') : LstR h' v L := by
  cases L with
  | none => exact g
  | some l => exact ⟨g.1, g.2.le e⟩

/- the walker, at a, and whether it is held, at hd -/
structure WkS (h : AHeap) (a hd : Nat) (r ve d pl : Value) (wd : Int) (cs : Value) (C : List Int) (held : Bool) : Prop where
  ow : h.own a = some (.cells [r, ve, d, pl, .int .i64 wd, cs])
  ohd : h.own hd = some (.cells [.bool held])
  gs : GB h cs C
  cu : cu cs
  na : blk cs ≠ some a
  nhd : blk cs ≠ some hd
  ne : a ≠ hd
  one : r.oneCell' ∧ ve.oneCell' ∧ d.oneCell' ∧ pl.oneCell'

def sp (a hd : Nat) (cs : Value) : List Nat := a :: hd :: bl cs
theorem mem_sp {a hd i : Nat} {cs : Value} : i ∈ sp a hd cs ↔ i = a ∨ i = hd ∨ blk cs = some i := by simp [sp, mem_bl]

/- what a note tells -/
def Noted (L : Option (List Int)) (C : List Int) (held' ok : Bool) : Prop :=
  (ok = true ∧ HeldOK L C held') ∨ (ok = false ∧ ∃ l, L = some l ∧ Above C l)

theorem note_any (W0 : World) (h : AHeap) (a hd p l : Nat) (b r ve d pl cs lv : Value) (wd : Int) (C xs : List Int) (held : Bool) (L : Option (List Int))
    (hw : WkS h a hd r ve d pl wd cs C held) (hb : RL isB (rem (sp a hd cs) h) b xs) (hp : (rem (sp a hd cs) h).own p = some (.cells [.pointer (some ⟨a, 0, none⟩)])) (hl : (rem (sp a hd cs) h).own l = some (.cells [lv]))
    (hL : LstR (rem (sp a hd cs) h) lv L) (hh : HeldOK L C held) (hn : C.length + xs.length ≤ 100000000) :
    AC Try.prog W0 37 [b, .pointer (some ⟨p, 0, none⟩), .pointer (some ⟨hd, 0, none⟩), .pointer (some ⟨l, 0, none⟩)] h fun v h' =>
      ∃ ok held' cs', v = .bool ok ∧ WkS h' a hd r ve d pl wd cs' (C ++ xs) held' ∧ Le (rem (sp a hd cs) h) (rem (sp a hd cs') h') ∧ Noted L (C ++ xs) held' ok := by
  refine AC.vc (fn := Try.f37) (c := _) ⟨Try.func37, rfl, by decide⟩ Try.ntmps37 Try.results37 (by simp) fun hwf => ?_
  simp only [argFrame, argFrom, Nat.reduceAdd]
  obtain ⟨hp1, hpn⟩ := rem_some.1 hp
  obtain ⟨hl1, hln⟩ := rem_some.1 hl
  have lp : aload Try.prog h 56 ⟨p, 0, none⟩ = some (.pointer (some ⟨a, 0, none⟩)) := aload_one Try.underlying56 rfl hp1
  have lc : aload Try.prog h 34 ⟨a, 5, none⟩ = some cs := aload_one Try.underlying34 rfl hw.ow
  have nc := fun h' => hw.gs.rl.len (P := Try.prog) Try.underlying34 h'
  simp only [beq_dec, fst_mk, snd_mk, VK_skip, VK_ret, VK_exit, VK_seq, VK_block, VK_region, VK_draw, VK_cond, KCond_true, KCond_false, VK_loop, KN_nil, KN_seq, KN_blk, KX_ret_nil, KX_ret_seq, KX_ret_blk, KX_exit_nil, KX_exit_seq, KX_exit_blk, KE_normal, KE_ret, KE_exit, KO_nil, KO_cons, KO_app_cons, KO_app_nil, KO1_true, KO1_false, KO2_true, KO2_false, KO3_some, KO4_some, loopQ_ret, loopQ_exit, wantA, isCall, stepOp, evalO, evalL, evalP, evalM, putDst, flat, cond_true, cond_false, Nat.reduceLT, ↓reduceIte, Trie.get_set, Nat.reduceEqDiff, Nat.one_ne_zero, Nat.zero_ne_one, aBuiltin, abinG, guardFree, abin, aInt, aUn, aNilCheck, retQ, retQ1, aresults, aresultL, aresult, mkF, undefV, reduceCtorEq, List.getElem?_toArray, List.append_eq, List.cons_append, List.nil_append, List.getElem?_cons_zero, List.getElem?_cons_succ, Option.bind_some, Bool.not_true, Bool.not_false, beq_self_eq_true, aExtract, calleeOf, awrap_u8, Bool.true_beq, Bool.false_beq, beq_true, beq_false, decide_true, decide_false, Bool.not_not, Bool.and_true, Bool.true_and, Bool.and_false, Bool.false_and, lp, wfl3, aadd, Nat.zero_add, lc, nc]
  obtain ⟨cs', h2, e2, hg2, hf2⟩ := hw.gs.1.append (P := Try.prog) (t := 34) (xt := 34) (by kernel_rfl) (fun e he => (hb.cellsB.1.le (rem_le _ h)).cs.src he) (bytes_one C) (bytes_one xs) (by simp) (by simp; omega)
  have hcu := aAppend_cu e2 hw.cu
  obtain ⟨oa2, na2⟩ := keep_own hf2 hwf hw.ow hw.na
  obtain ⟨ohd2, nhd2⟩ := keep_own hf2 hwf hw.ohd hw.nhd
  have hext2 : h2.ext = h.ext := (hf2 (rem (bl cs) h) hwf (rem_le _ _) (fun b hb => by rw [rem_own, if_pos (mem_bl.2 hb)])).1.ext.trans (rem_ext _)
  have hR2 : Le (rem (sp a hd cs) h) (rem (sp a hd cs') h2) := Le.rem hext2 fun i o hi hn => by
    rw [mem_sp] at hn
    obtain ⟨k1, k2⟩ := keep_own hf2 hwf hi (fun e => hn (.inr (.inr e)))
    refine ⟨k1, fun hm => ?_⟩
    rw [mem_sp] at hm
    rcases hm with e | e | e
    · exact hn (.inl e)
    · exact hn (.inr (.inl e))
    · exact k2 e
  have hcs' : cs'.oneCell' = true := hg2.cs.sl.one
  have st := aStore1 (P := Try.prog) (t := 34) (x := cs') Try.underlying34 (by kernel_rfl) oa2 (off := 5) (by simp) (by obtain ⟨_, _, rfl, _⟩ := hg2.cs.sl; rfl) hcs'
  simp only [List.set_cons_succ, List.set_cons_zero] at st
  have lp2 : aload Try.prog h2 56 ⟨p, 0, none⟩ = some (.pointer (some ⟨a, 0, none⟩)) := aload_one Try.underlying56 rfl (hR2.rem_own hp1 hpn).1
  have lc2 : aload Try.prog h2 34 ⟨a, 5, none⟩ = some cs := aload_one Try.underlying34 rfl oa2
  have hR3 : Le (rem (sp a hd cs) h) (rem (sp a hd cs') (h2.put a (.cells [r, ve, d, pl, .int .i64 wd, cs']))) := hR2.put_rem _ (mem_sp.2 (.inl rfl))
  have lp3 : aload Try.prog (h2.put a (.cells [r, ve, d, pl, .int .i64 wd, cs'])) 56 ⟨p, 0, none⟩ = some (.pointer (some ⟨a, 0, none⟩)) := aload_one Try.underlying56 rfl (hR3.rem_own hp1 hpn).1
  have oa3 : (h2.put a (.cells [r, ve, d, pl, .int .i64 wd, cs'])).own a = some (.cells [r, ve, d, pl, .int .i64 wd, cs']) := AHeap.own_put_eq _ _ _
  have ohd3 : (h2.put a (.cells [r, ve, d, pl, .int .i64 wd, cs'])).own hd = some (.cells [.bool held]) := by rw [AHeap.own_put_ne _ _ _ _ (Ne.symm hw.ne)]; exact ohd2
  have hg3 : GB (h2.put a (.cells [r, ve, d, pl, .int .i64 wd, cs'])) cs' (C ++ xs) := ⟨by
    have : GS 1 h2 cs' (C ++ xs).length ((C ++ xs).map (Value.int .u8)) := by simpa using hg2
    obtain ⟨hl, g | ⟨id, c, cap, rfl, ho, rr⟩⟩ := this
    · exact ⟨hl, .inl g⟩
    · exact ⟨hl, .inr ⟨id, c, cap, rfl, by rw [AHeap.own_put_ne _ _ _ _ (fun e => na2 (by rw [← e]; rfl))]; exact ho, rr⟩⟩, hw.gs.2.append hb.cellsB.2⟩
  have lh3 : aload Try.prog (h2.put a (.cells [r, ve, d, pl, .int .i64 wd, cs'])) 4 ⟨hd, 0, none⟩ = some (.bool held) := aload_one Try.underlying4 rfl ohd3
  have lc3 : aload Try.prog (h2.put a (.cells [r, ve, d, pl, .int .i64 wd, cs'])) 34 ⟨a, 5, none⟩ = some cs' := aload_one Try.underlying34 rfl oa3
  have hl3 := (hR3.rem_own hl1 hln).1
  have hb3 := hb.le .isB (hR3.trans (rem_le _ _))
  have hL3 := hL.le (hR3.trans (rem_le _ _))
  refine KDraw.intro mixed (.fl 0 (.fl 1 (.fl 2 (.fl 3 (.fl 4 (.fl 5 (.ch 6 [4, 5] (.fl 7 (.fl 8 (.ch 9 [0, 1, 2, 3, 4, 5, 6, 8] (.done) .no))) .no))))))) (by kernel_rfl) ?_
  simp only [beq_dec, fst_mk, snd_mk, VK_skip, VK_ret, VK_exit, VK_seq, VK_block, VK_region, VK_draw, VK_cond, KCond_true, KCond_false, VK_loop, KN_nil, KN_seq, KN_blk, KX_ret_nil, KX_ret_seq, KX_ret_blk, KX_exit_nil, KX_exit_seq, KX_exit_blk, KE_normal, KE_ret, KE_exit, KO_nil, KO_cons, KO_app_cons, KO_app_nil, KO1_true, KO1_false, KO2_true, KO2_false, KO3_some, KO4_some, loopQ_ret, loopQ_exit, wantA, isCall, stepOp, evalO, evalL, evalP, evalM, putDst, flat, cond_true, cond_false, Nat.reduceLT, ↓reduceIte, Trie.get_set, Nat.reduceEqDiff, Nat.one_ne_zero, Nat.zero_ne_one, aBuiltin, abinG, guardFree, abin, aInt, aUn, aNilCheck, retQ, retQ1, aresults, aresultL, aresult, mkF, undefV, reduceCtorEq, List.getElem?_toArray, List.append_eq, List.cons_append, List.nil_append, List.getElem?_cons_zero, List.getElem?_cons_succ, Option.bind_some, Bool.not_true, Bool.not_false, beq_self_eq_true, aExtract, calleeOf, awrap_u8, Bool.true_beq, Bool.false_beq, beq_true, beq_false, decide_true, decide_false, Bool.not_not, Bool.and_true, Bool.true_and, Bool.and_false, Bool.false_and, Nat.reduceBEq, Bool.or_self, Bool.false_eq_true, KD_done, KD_no, KD_fl, KF1_some, KF2_true, KF2_false, KF3_some, KF4_some, KD_ch, KG1_some, KG2_true, KG2_false, KG3_true, KG3_false, KG4_some, KG5_some, HoldsAll, Holds_eq, H1_some, H2_true, H2_false, H3_some, HD_some, HD_none, List.filter_nil, List.filter_cons, List.contains_cons, List.contains_nil, Bool.or_false, Bool.false_or, Bool.true_or, Bool.or_true, true_and, and_true, lp, wfl3, aadd, Nat.zero_add, lc, e2, lp2, lc2, st, lp3]
  generalize h2.put a (.cells [r, ve, d, pl, .int .i64 wd, cs']) = h3 at *
  have hws : ∀ b : Bool, ∀ h4 : AHeap, h4.own a = some (.cells [r, ve, d, pl, .int .i64 wd, cs']) → h4.own hd = some (.cells [.bool b]) → GB h4 cs' (C ++ xs) → WkS h4 a hd r ve d pl wd cs' (C ++ xs) b :=
    fun b h4 q1 q2 q3 => ⟨q1, q2, q3, hcu, na2, nhd2, hw.ne, hw.one⟩
  cases held with
  | false =>
    simp only [beq_dec, fst_mk, snd_mk, VK_skip, VK_ret, VK_exit, VK_seq, VK_block, VK_region, VK_draw, VK_cond, KCond_true, KCond_false, VK_loop, KN_nil, KN_seq, KN_blk, KX_ret_nil, KX_ret_seq, KX_ret_blk, KX_exit_nil, KX_exit_seq, KX_exit_blk, KE_normal, KE_ret, KE_exit, KO_nil, KO_cons, KO_app_cons, KO_app_nil, KO1_true, KO1_false, KO2_true, KO2_false, KO3_some, KO4_some, loopQ_ret, loopQ_exit, wantA, isCall, stepOp, evalO, evalL, evalP, evalM, putDst, flat, cond_true, cond_false, Nat.reduceLT, ↓reduceIte, Trie.get_set, Nat.reduceEqDiff, Nat.one_ne_zero, Nat.zero_ne_one, aBuiltin, abinG, guardFree, abin, aInt, aUn, aNilCheck, retQ, retQ1, aresults, aresultL, aresult, mkF, undefV, reduceCtorEq, List.getElem?_toArray, List.append_eq, List.cons_append, List.nil_append, List.getElem?_cons_zero, List.getElem?_cons_succ, Option.bind_some, Bool.not_true, Bool.not_false, beq_self_eq_true, aExtract, calleeOf, awrap_u8, Bool.true_beq, Bool.false_beq, beq_true, beq_false, decide_true, decide_false, Bool.not_not, Bool.and_true, Bool.true_and, Bool.and_false, Bool.false_and, lh3]
    refine ⟨true, false, cs', rfl, hws _ _ oa3 ohd3 hg3, hR3, .inl ⟨rfl, ?_⟩⟩
    rcases hh with e | ⟨l, e, hbl⟩
    · exact .inl e
    · exact .inr ⟨l, e, hbl.append _⟩
  | true =>
    obtain ⟨lst, rfl, hpre⟩ := hh
    obtain ⟨hne, hlst⟩ := hL3
    have hl0 : lst.length ≠ 0 := fun e => hne (List.length_eq_zero_iff.1 e)
    have ll := aload_one (P := Try.prog) (t := 34) (off := 0) Try.underlying34 rfl hl3
    simp only [List.getElem?_cons_zero] at ll
    have nl := fun h' => hlst.rl.len (P := Try.prog) Try.underlying34 h'
    have nb := fun h' => hb.len (P := Try.prog) Try.underlying34 h'
    have ew : awrap .i64 ((C.length : Int) + (xs.length : Int)) = ((C.length + xs.length : Nat) : Int) := by rw [awrap_in _ (by omega) (by omega)]; omega
    have emin : aMin (.int .i64 (lst.length : Int)) [.int .i64 ((C.length + xs.length : Nat) : Int)] = some (.int .i64 ((min lst.length (C.length + xs.length) : Nat) : Int)) := by
      simp only [aMin, if_true]
      congr 2
      split <;> omega
    have hCl : C.length ≤ lst.length := by obtain ⟨t, rfl⟩ := hpre; simp
    obtain ⟨sv, es, hsv⟩ := aSlice_mid (P := Try.prog) (t := 34) Try.underlying34 Try.underlying5 rfl hlst.1 hl0 C.length (min lst.length (C.length + xs.length)) (by omega) (by omega)
    have hsb : RL isB h3 sv ((lst.drop C.length).take (min lst.length (C.length + xs.length) - C.length)) :=
      RL.ofB (by rw [← List.map_drop, ← List.map_take] at hsv; exact hsv) fun x hx => hlst.2 x (List.mem_of_mem_drop (List.mem_of_mem_take hx))
    simp only [beq_dec, fst_mk, snd_mk, VK_skip, VK_ret, VK_exit, VK_seq, VK_block, VK_region, VK_draw, VK_cond, KCond_true, KCond_false, VK_loop, KN_nil, KN_seq, KN_blk, KX_ret_nil, KX_ret_seq, KX_ret_blk, KX_exit_nil, KX_exit_seq, KX_exit_blk, KE_normal, KE_ret, KE_exit, KO_nil, KO_cons, KO_app_cons, KO_app_nil, KO1_true, KO1_false, KO2_true, KO2_false, KO3_some, KO4_some, loopQ_ret, loopQ_exit, wantA, isCall, stepOp, evalO, evalL, evalP, evalM, putDst, flat, cond_true, cond_false, Nat.reduceLT, ↓reduceIte, Trie.get_set, Nat.reduceEqDiff, Nat.one_ne_zero, Nat.zero_ne_one, aBuiltin, abinG, guardFree, abin, aInt, aUn, aNilCheck, retQ, retQ1, aresults, aresultL, aresult, mkF, undefV, reduceCtorEq, List.getElem?_toArray, List.append_eq, List.cons_append, List.nil_append, List.getElem?_cons_zero, List.getElem?_cons_succ, Option.bind_some, Bool.not_true, Bool.not_false, beq_self_eq_true, aExtract, calleeOf, awrap_u8, Bool.true_beq, Bool.false_beq, beq_true, beq_false, decide_true, decide_false, Bool.not_not, Bool.and_true, Bool.true_and, Bool.and_false, Bool.false_and, lh3, ll, nl, nb, ew, emin, es]
    refine KCall.intro (by simp only [beq_dec, fst_mk, snd_mk, VK_skip, VK_ret, VK_exit, VK_seq, VK_block, VK_region, VK_draw, VK_cond, KCond_true, KCond_false, VK_loop, KN_nil, KN_seq, KN_blk, KX_ret_nil, KX_ret_seq, KX_ret_blk, KX_exit_nil, KX_exit_seq, KX_exit_blk, KE_normal, KE_ret, KE_exit, KO_nil, KO_cons, KO_app_cons, KO_app_nil, KO1_true, KO1_false, KO2_true, KO2_false, KO3_some, KO4_some, loopQ_ret, loopQ_exit, wantA, isCall, stepOp, evalO, evalL, evalP, evalM, putDst, flat, cond_true, cond_false, Nat.reduceLT, ↓reduceIte, Trie.get_set, Nat.reduceEqDiff, Nat.one_ne_zero, Nat.zero_ne_one, aBuiltin, abinG, guardFree, abin, aInt, aUn, aNilCheck, retQ, retQ1, aresults, aresultL, aresult, mkF, undefV, reduceCtorEq, List.getElem?_toArray, List.append_eq, List.cons_append, List.nil_append, List.getElem?_cons_zero, List.getElem?_cons_succ, Option.bind_some, Bool.not_true, Bool.not_false, beq_self_eq_true, aExtract, calleeOf, awrap_u8, Bool.true_beq, Bool.false_beq, beq_true, beq_false, decide_true, decide_false, Bool.not_not, Bool.and_true, Bool.true_and, Bool.and_false, Bool.false_and] <;> rfl) ⟨Try.func38, rfl, by decide⟩ (Compare_any W0 b sv xs _ h3 hb3 hsb) ?_
    rintro v h4 hw4 ⟨rfl, rfl⟩
    have step := held_step hlst.2 hb.cellsB.2 hpre
    simp only [] at step
    have stt := aStore1 (P := Try.prog) (t := 4) (x := .bool true) Try.underlying4 (by kernel_rfl) ohd3 (off := 0) (by simp) rfl rfl
    have stf := aStore1 (P := Try.prog) (t := 4) (x := .bool false) Try.underlying4 (by kernel_rfl) ohd3 (off := 0) (by simp) rfl rfl
    simp only [List.set_cons_zero] at stt stf
    have fin : ∀ b : Bool, WkS (h4.put hd (.cells [.bool b])) a hd r ve d pl wd cs' (C ++ xs) b ∧ Le (rem (sp a hd cs) h) (rem (sp a hd cs') (h4.put hd (.cells [.bool b]))) := fun b => by
      refine ⟨hws _ _ (by rw [AHeap.own_put_ne _ _ _ _ hw.ne]; exact oa3) (AHeap.own_put_eq _ _ _) ⟨?_, hg3.2⟩, hR3.put_rem _ (mem_sp.2 (.inr (.inl rfl)))⟩
      obtain ⟨hl, g | ⟨id, c, cap, rfl, ho, rr⟩⟩ := hg3.1
      · exact ⟨hl, .inl g⟩
      · exact ⟨hl, .inr ⟨id, c, cap, rfl, by rw [AHeap.own_put_ne _ _ _ _ (fun e => nhd2 (by rw [← e]; rfl))]; exact ho, rr⟩⟩
    rcases step with ⟨e, s1⟩ | ⟨e, s1⟩ | ⟨e, s1⟩
    · rw [e]
      simp only [beq_dec, fst_mk, snd_mk, VK_skip, VK_ret, VK_exit, VK_seq, VK_block, VK_region, VK_draw, VK_cond, KCond_true, KCond_false, VK_loop, KN_nil, KN_seq, KN_blk, KX_ret_nil, KX_ret_seq, KX_ret_blk, KX_exit_nil, KX_exit_seq, KX_exit_blk, KE_normal, KE_ret, KE_exit, KO_nil, KO_cons, KO_app_cons, KO_app_nil, KO1_true, KO1_false, KO2_true, KO2_false, KO3_some, KO4_some, loopQ_ret, loopQ_exit, wantA, isCall, stepOp, evalO, evalL, evalP, evalM, putDst, flat, cond_true, cond_false, Nat.reduceLT, ↓reduceIte, Trie.get_set, Nat.reduceEqDiff, Nat.one_ne_zero, Nat.zero_ne_one, aBuiltin, abinG, guardFree, abin, aInt, aUn, aNilCheck, retQ, retQ1, aresults, aresultL, aresult, mkF, undefV, reduceCtorEq, List.getElem?_toArray, List.append_eq, List.cons_append, List.nil_append, List.getElem?_cons_zero, List.getElem?_cons_succ, Option.bind_some, Bool.not_true, Bool.not_false, beq_self_eq_true, aExtract, calleeOf, awrap_u8, Bool.true_beq, Bool.false_beq, beq_true, beq_false, decide_true, decide_false, Bool.not_not, Bool.and_true, Bool.true_and, Bool.and_false, Bool.false_and, stt]
      exact ⟨true, true, cs', rfl, (fin true).1, (fin true).2, .inl ⟨rfl, s1⟩⟩
    · rw [e]
      simp only [beq_dec, fst_mk, snd_mk, VK_skip, VK_ret, VK_exit, VK_seq, VK_block, VK_region, VK_draw, VK_cond, KCond_true, KCond_false, VK_loop, KN_nil, KN_seq, KN_blk, KX_ret_nil, KX_ret_seq, KX_ret_blk, KX_exit_nil, KX_exit_seq, KX_exit_blk, KE_normal, KE_ret, KE_exit, KO_nil, KO_cons, KO_app_cons, KO_app_nil, KO1_true, KO1_false, KO2_true, KO2_false, KO3_some, KO4_some, loopQ_ret, loopQ_exit, wantA, isCall, stepOp, evalO, evalL, evalP, evalM, putDst, flat, cond_true, cond_false, Nat.reduceLT, ↓reduceIte, Trie.get_set, Nat.reduceEqDiff, Nat.one_ne_zero, Nat.zero_ne_one, aBuiltin, abinG, guardFree, abin, aInt, aUn, aNilCheck, retQ, retQ1, aresults, aresultL, aresult, mkF, undefV, reduceCtorEq, List.getElem?_toArray, List.append_eq, List.cons_append, List.nil_append, List.getElem?_cons_zero, List.getElem?_cons_succ, Option.bind_some, Bool.not_true, Bool.not_false, beq_self_eq_true, aExtract, calleeOf, awrap_u8, Bool.true_beq, Bool.false_beq, beq_true, beq_false, decide_true, decide_false, Bool.not_not, Bool.and_true, Bool.true_and, Bool.and_false, Bool.false_and, stf]
      exact ⟨true, false, cs', rfl, (fin false).1, (fin false).2, .inl ⟨rfl, s1⟩⟩
    · rw [e]
      simp only [beq_dec, fst_mk, snd_mk, VK_skip, VK_ret, VK_exit, VK_seq, VK_block, VK_region, VK_draw, VK_cond, KCond_true, KCond_false, VK_loop, KN_nil, KN_seq, KN_blk, KX_ret_nil, KX_ret_seq, KX_ret_blk, KX_exit_nil, KX_exit_seq, KX_exit_blk, KE_normal, KE_ret, KE_exit, KO_nil, KO_cons, KO_app_cons, KO_app_nil, KO1_true, KO1_false, KO2_true, KO2_false, KO3_some, KO4_some, loopQ_ret, loopQ_exit, wantA, isCall, stepOp, evalO, evalL, evalP, evalM, putDst, flat, cond_true, cond_false, Nat.reduceLT, ↓reduceIte, Trie.get_set, Nat.reduceEqDiff, Nat.one_ne_zero, Nat.zero_ne_one, aBuiltin, abinG, guardFree, abin, aInt, aUn, aNilCheck, retQ, retQ1, aresults, aresultL, aresult, mkF, undefV, reduceCtorEq, List.getElem?_toArray, List.append_eq, List.cons_append, List.nil_append, List.getElem?_cons_zero, List.getElem?_cons_succ, Option.bind_some, Bool.not_true, Bool.not_false, beq_self_eq_true, aExtract, calleeOf, awrap_u8, Bool.true_beq, Bool.false_beq, beq_true, beq_false, decide_true, decide_false, Bool.not_not, Bool.and_true, Bool.true_and, Bool.and_false, Bool.false_and, eq_false (by decide : ¬ (1 : Int) = 0), eq_false (by decide : ¬ (1 : Int) ≤ 0), stf]
      exact ⟨false, false, cs', rfl, (fin false).1, (fin false).2, .inr ⟨rfl, _, rfl, s1⟩⟩
end Go.Fw
