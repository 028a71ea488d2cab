/- One of the texts of the layer and the walks: it proves what its theorems say of the functions of the seat, with no condition beyond theirs. -/
import Derived.Test.YtdflaojabddalaaFwRg26
set_option linter.unusedSimpArgs false
set_option linter.unusedVariables false
namespace Go.Fw
open Go.Proofs
set_option maxHeartbeats 4000000
set_option maxRecDepth 10000

def All2 {α : Type} (R : Value → α → Prop) : List Value → List α → Prop
  | [], [] => True
  | u :: us, x :: xs => R u x ∧ All2 R us xs
  | _, _ => False
theorem All2.length {α : Type} {R : Value → α → Prop} : ∀ {us : List Value} {xs : List α}, All2 R us xs → us.length = xs.length
  | [], [], _ => rfl
  | _ :: us, _ :: xs, h => by simp [All2.length h.2]
  | [], _ :: _, h => h.elim
  | _ :: _, [], h => h.elim
theorem All2.get {α : Type} {R : Value → α → Prop} : ∀ {us : List Value} {xs : List α}, All2 R us xs → ∀ (i : Nat) x u, xs[i]? = some x → us[i]? = some u → R u x
  | u :: us, x :: xs, h, 0, y, v, hx, hu => by simp at hx hu; subst hx hu; exact h.1
  | u :: us, x :: xs, h, i + 1, y, v, hx, hu => All2.get h.2 i y v (by simpa using hx) (by simpa using hu)
  | [], [], _, i, y, v, hx, _ => by simp at hx
  | [], _ :: _, h, _, _, _, _, _ => h.elim
  | _ :: _, [], h, _, _, _, _, _ => h.elim
theorem RL.cells {α : Type} {R : AHeap → Value → α → Prop} {h : AHeap} {id n c : Nat} {us : List Value} {xs : List α} (ho : h.own id = some (.cells us)) (hn : us.length = n) (ha : All2 (R h) us xs) : RL R h (.slice (some ⟨id, 0, none⟩) n c) xs :=
  ⟨us, RS.whole ho hn, ha.length, ha.get⟩

theorem int_rl1 {h : AHeap} {id c : Nat} {x : Int} (ho : h.own id = some (.cells [.int .i64 x])) : RL isI h (.slice (some ⟨id, 0, none⟩) 1 c) [x] := RL.ofI (RS.whole ho rfl)
theorem byte_rl1 {h : AHeap} {id c : Nat} {x : Int} (ho : h.own id = some (.cells [.int .u8 x])) (hx : 0 ≤ x ∧ x < 256) : RL isB h (.slice (some ⟨id, 0, none⟩) 1 c) [x] := RL.ofB (RS.whole ho rfl) (by simpa using hx)
theorem conv_bytes {h : AHeap} {id : Nat} {c : List Value} (ho : h.own id = some (.cells c)) : aConvert Try.prog h 34 34 (.slice (some ⟨id, 0, none⟩) 1 1) = some (.slice (some ⟨id, 0, none⟩) 1 1, h) := by
  have h1 : (1 : Nat) < UNK := by decide
  simp [aConvert, Try.underlying34, Try.underlying5, ho, h1]

/- one cell's slice, newly made -/
theorem mk1 (h : AHeap) (x : Int) : aBuildSlice Try.prog h 31 1 [(0, .int .i64 x)] = some (.slice (some ⟨h.next, 0, none⟩) 1 1, h.alloc (.cells [.int .i64 x])) := rfl
theorem mkb (h : AHeap) (x : Int) : aBuildSlice Try.prog h 34 1 [(0, .int .u8 x)] = some (.slice (some ⟨h.next, 0, none⟩) 1 1, h.alloc (.cells [.int .u8 x])) := rfl
theorem mkr2 (h : AHeap) (a b : Nat) : aBuildSlice Try.prog h 23 2 [(0, .slice (some ⟨a, 0, none⟩) 1 1), (1, .slice (some ⟨b, 0, none⟩) 1 1)] = some (.slice (some ⟨h.next, 0, none⟩) 2 2, h.alloc (.cells [.slice (some ⟨a, 0, none⟩) 1 1, .slice (some ⟨b, 0, none⟩) 1 1])) := by kernel_rfl

/- one of a row of walks -/
theorem WalksR.at {h : AHeap} {v : Value} {l : List Wd} (w : WalksR h v l) {i : Nat} {x : Wd} (hx : l[i]? = some x) :
    ∃ a p, aIndexAddr Try.prog 43 v (.int .i64 i) = some (.pointer (some a)) ∧ ElR h p x ∧ (∀ g, Le h g → aload Try.prog g 34 (aadd a 0) = some p.1 ∧ aload Try.prog g 31 (aadd a 1) = some p.2 ∧ aload Try.prog g 36 a = some (.agg #[p.1, p.2])) := by
  obtain ⟨vs, gs, el⟩ := w
  have hi : i < l.length := (List.getElem?_eq_some_iff.1 hx).1
  have hiv : i < vs.length := by rw [el.1]; exact hi
  have hel := el.2 i _ x (List.getElem?_eq_getElem hiv) hx
  obtain ⟨f1, f2⟩ := flat2_get vs i _ (List.getElem?_eq_getElem hiv)
  obtain ⟨hl', ⟨rfl, q⟩ | ⟨id, c, cap, rfl, ho, ht, _⟩⟩ := gs
  · omega
  · have g1 : c[i * 2]? = some vs[i].1 := by
      rw [← ht, List.getElem?_take] at f1
      split at f1
      · exact f1
      · cases f1
    have g2 : c[i * 2 + 1]? = some vs[i].2 := by
      rw [← ht, List.getElem?_take] at f2
      split at f2
      · exact f2
      · cases f2
    refine ⟨⟨id, i * 2, none⟩, vs[i], ?_, hel, fun g e => ⟨?_, ?_, ?_⟩⟩
    · have h1 : (i : Int) < (l.length : Int) := by omega
      simp [aIndexAddr, Try.underlying43, Try.underlying36, h1, aadd, tsize]
      rfl
    · rw [show aadd ⟨id, i * 2, none⟩ 0 = ⟨id, i * 2, none⟩ from rfl, aload_one Try.underlying34 rfl (e.own _ _ ho)]; exact g1
    · rw [show aadd ⟨id, i * 2, none⟩ 1 = ⟨id, i * 2 + 1, none⟩ from rfl, aload_one Try.underlying31 rfl (e.own _ _ ho)]; exact g2
    · have h2 := (List.getElem?_eq_some_iff.1 g2).1
      rw [aload_own Try.underlying36 rfl (by kernel_rfl : tsize Try.prog 36 = 2) (e.own _ _ ho) (by omega)]
      have e1 : (c.drop (i * 2)).take 2 = [vs[i].1, vs[i].2] := by
        rw [List.drop_eq_getElem_cons (by omega), List.take_succ_cons, List.drop_eq_getElem_cons h2, List.take_succ_cons, List.take_zero]
        rw [List.getElem?_eq_getElem (by omega)] at g1
        rw [List.getElem?_eq_getElem h2] at g2
        injection g1 with g1; injection g2 with g2
        rw [g1, g2]
      rw [e1]
theorem WalksR.len {h : AHeap} {v : Value} {l : List Wd} (w : WalksR h v l) (g : AHeap) : aLen Try.prog g 43 v = some (.int .i64 l.length) := by
  obtain ⟨vs, gs, el⟩ := w
  obtain ⟨a, c, rfl, _⟩ := gs.cs.sl
  simp [aLen, Try.underlying43]
theorem mkB4 (h : AHeap) (a b c d : Int) : aBuildSlice Try.prog h 34 4 [(0, .int .u8 a), (1, .int .u8 b), (2, .int .u8 c), (3, .int .u8 d)] = some (.slice (some ⟨h.next, 0, none⟩) 4 4, h.alloc (.cells [.int .u8 a, .int .u8 b, .int .u8 c, .int .u8 d])) := rfl
theorem mkI2 (h : AHeap) (a b : Int) : aBuildSlice Try.prog h 31 2 [(0, .int .i64 a), (1, .int .i64 b)] = some (.slice (some ⟨h.next, 0, none⟩) 2 2, h.alloc (.cells [.int .i64 a, .int .i64 b])) := rfl
theorem mkW8 (h : AHeap) (a b c d : Nat) : aBuildSlice Try.prog h 24 8 [(0, .slice (some ⟨a, 0, none⟩) 1 1), (1, .slice (some ⟨b, 0, none⟩) 4 4), (2, .slice (some ⟨b, 0, none⟩) 4 4), (3, .slice none 0 0), (4, .slice (some ⟨c, 0, none⟩) 1 1), (5, .slice (some ⟨b, 0, none⟩) 4 4), (6, .slice (some ⟨d, 0, none⟩) 4 4), (7, .slice none 0 0)] =
    some (.slice (some ⟨h.next, 0, none⟩) 8 8, h.alloc (.cells [.slice (some ⟨a, 0, none⟩) 1 1, .slice (some ⟨b, 0, none⟩) 4 4, .slice (some ⟨b, 0, none⟩) 4 4, .slice none 0 0, .slice (some ⟨c, 0, none⟩) 1 1, .slice (some ⟨b, 0, none⟩) 4 4, .slice (some ⟨d, 0, none⟩) 4 4, .slice none 0 0])) := by kernel_rfl
theorem mkr3 (h : AHeap) (a b c : Nat) : aBuildSlice Try.prog h 23 3 [(0, .slice (some ⟨a, 0, none⟩) 2 2), (1, .slice (some ⟨b, 0, none⟩) 2 2), (2, .slice (some ⟨c, 0, none⟩) 2 2)] = some (.slice (some ⟨h.next, 0, none⟩) 3 3, h.alloc (.cells [.slice (some ⟨a, 0, none⟩) 2 2, .slice (some ⟨b, 0, none⟩) 2 2, .slice (some ⟨c, 0, none⟩) 2 2])) := by kernel_rfl
theorem alloc_f {h : AHeap} (hw : WF h) (c : List Value) : ∃ h', h.alloc (.cells c) = h' ∧ Le h h' ∧ WF h' ∧ h'.own h.next = some (.cells c) := ⟨_, rfl, (Le.refl h).alloc hw _, hw.alloc _, AHeap.own_alloc_eq _ _⟩

theorem awake_any (W0 : World) (h : AHeap) : AC Try.prog W0 8 [] h fun x h' => x = .bool true ∧ Le h h' := by
  refine AC.vc (fn := Try.f8) (c := _) ⟨Try.func8, rfl, by decide⟩ Try.ntmps8 Try.results8 (by simp) fun hwf => ?_
  simp only [argFrame, argFrom, Nat.reduceAdd]
  have f1 : h.own h.next = none := (Le.refl h).next hwf (Nat.le_refl _)
  have le1 : Le h (h.alloc (.cells [.int .i64 1])) := (Le.refl h).alloc hwf _
  have o1 : (h.alloc (.cells [.int .i64 1])).own h.next = some (.cells [.int .i64 1]) := AHeap.own_alloc_eq _ _
  have wf1 := hwf.alloc (.cells [.int .i64 1])
  simp only [beq_dec, fst_mk, snd_mk, VK_skip, VK_ret, VK_exit, VK_seq, VK_block, VK_region, VK_draw, VK_cond, KCond_true, KCond_false, VK_loop, KN_nil, KN_seq, KN_blk, KX_ret_nil, KX_ret_seq, KX_ret_blk, KX_exit_nil, KX_exit_seq, KX_exit_blk, KE_normal, KE_ret, KE_exit, KO_nil, KO_cons, KO_app_cons, KO_app_nil, KO1_true, KO1_false, KO2_true, KO2_false, KO3_some, KO4_some, loopQ_ret, loopQ_exit, wantA, isCall, stepOp, evalO, evalL, evalP, evalM, putDst, flat, cond_true, cond_false, Nat.reduceLT, ↓reduceIte, Trie.get_set, Nat.reduceEqDiff, Nat.one_ne_zero, Nat.zero_ne_one, aBuiltin, abinG, guardFree, abin, aInt, aUn, aNilCheck, retQ, retQ1, aresults, aresultL, aresult, mkF, undefV, reduceCtorEq, List.getElem?_toArray, List.append_eq, List.cons_append, List.nil_append, List.getElem?_cons_zero, List.getElem?_cons_succ, Option.bind_some, Bool.not_true, Bool.not_false, beq_self_eq_true, aExtract, calleeOf, awrap_u8, Bool.true_beq, Bool.false_beq, beq_true, beq_false, decide_true, decide_false, Bool.not_not, Bool.and_true, Bool.true_and, Bool.and_false, Bool.false_and, mk1]
  generalize h.alloc (.cells [.int .i64 1]) = h1 at *
  have le2 : Le h1 (h1.alloc (.cells [.int .i64 0])) := (Le.refl h1).alloc wf1 _
  have o2 : (h1.alloc (.cells [.int .i64 0])).own h1.next = some (.cells [.int .i64 0]) := AHeap.own_alloc_eq _ _
  have wf2 := wf1.alloc (.cells [.int .i64 0])
  generalize h1.alloc (.cells [.int .i64 0]) = h2 at *
  generalize h.next = a1 at *
  generalize h1.next = a2 at *
  have le3 : Le h2 (h2.alloc (.cells [.slice (some ⟨a1, 0, none⟩) 1 1, .slice (some ⟨a2, 0, none⟩) 1 1])) := (Le.refl h2).alloc wf2 _
  have o3 : (h2.alloc (.cells [.slice (some ⟨a1, 0, none⟩) 1 1, .slice (some ⟨a2, 0, none⟩) 1 1])).own h2.next = some (.cells [.slice (some ⟨a1, 0, none⟩) 1 1, .slice (some ⟨a2, 0, none⟩) 1 1]) := AHeap.own_alloc_eq _ _
  simp only [beq_dec, fst_mk, snd_mk, VK_skip, VK_ret, VK_exit, VK_seq, VK_block, VK_region, VK_draw, VK_cond, KCond_true, KCond_false, VK_loop, KN_nil, KN_seq, KN_blk, KX_ret_nil, KX_ret_seq, KX_ret_blk, KX_exit_nil, KX_exit_seq, KX_exit_blk, KE_normal, KE_ret, KE_exit, KO_nil, KO_cons, KO_app_cons, KO_app_nil, KO1_true, KO1_false, KO2_true, KO2_false, KO3_some, KO4_some, loopQ_ret, loopQ_exit, wantA, isCall, stepOp, evalO, evalL, evalP, evalM, putDst, flat, cond_true, cond_false, Nat.reduceLT, ↓reduceIte, Trie.get_set, Nat.reduceEqDiff, Nat.one_ne_zero, Nat.zero_ne_one, aBuiltin, abinG, guardFree, abin, aInt, aUn, aNilCheck, retQ, retQ1, aresults, aresultL, aresult, mkF, undefV, reduceCtorEq, List.getElem?_toArray, List.append_eq, List.cons_append, List.nil_append, List.getElem?_cons_zero, List.getElem?_cons_succ, Option.bind_some, Bool.not_true, Bool.not_false, beq_self_eq_true, aExtract, calleeOf, awrap_u8, Bool.true_beq, Bool.false_beq, beq_true, beq_false, decide_true, decide_false, Bool.not_not, Bool.and_true, Bool.true_and, Bool.and_false, Bool.false_and, mkr2]
  generalize h2.alloc (.cells [.slice (some ⟨a1, 0, none⟩) 1 1, .slice (some ⟨a2, 0, none⟩) 1 1]) = h3 at *
  generalize h2.next = a3 at *
  have hrot : RL (RL isI) h3 (.slice (some ⟨a3, 0, none⟩) 2 2) S2.rot := RL.cells o3 rfl ⟨int_rl1 ((le2.trans le3).own _ _ o1), int_rl1 (le3.own _ _ o2), trivial⟩
  have hle3 := (le1.trans le2).trans le3
  clear o1 o2 o3 wf1 wf2 le1 le2 le3
  refine KCall.intro (by simp only [beq_dec, fst_mk, snd_mk, VK_skip, VK_ret, VK_exit, VK_seq, VK_block, VK_region, VK_draw, VK_cond, KCond_true, KCond_false, VK_loop, KN_nil, KN_seq, KN_blk, KX_ret_nil, KX_ret_seq, KX_ret_blk, KX_exit_nil, KX_exit_seq, KX_exit_blk, KE_normal, KE_ret, KE_exit, KO_nil, KO_cons, KO_app_cons, KO_app_nil, KO1_true, KO1_false, KO2_true, KO2_false, KO3_some, KO4_some, loopQ_ret, loopQ_exit, wantA, isCall, stepOp, evalO, evalL, evalP, evalM, putDst, flat, cond_true, cond_false, Nat.reduceLT, ↓reduceIte, Trie.get_set, Nat.reduceEqDiff, Nat.one_ne_zero, Nat.zero_ne_one, aBuiltin, abinG, guardFree, abin, aInt, aUn, aNilCheck, retQ, retQ1, aresults, aresultL, aresult, mkF, undefV, reduceCtorEq, List.getElem?_toArray, List.append_eq, List.cons_append, List.nil_append, List.getElem?_cons_zero, List.getElem?_cons_succ, Option.bind_some, Bool.not_true, Bool.not_false, beq_self_eq_true, aExtract, calleeOf, awrap_u8, Bool.true_beq, Bool.false_beq, beq_true, beq_false, decide_true, decide_false, Bool.not_not, Bool.and_true, Bool.true_and, Bool.and_false, Bool.false_and] <;> rfl) ⟨Try.func22, rfl, by decide⟩ (bare_any W0 _ S2.rot h3 hrot (by decide) (by decide)) ?_
  rintro x h4 wf4 ⟨ve, d, rfl, gve, hdt, le4⟩
  have hrot4 := hrot.le (.RL .isI) le4
  have slr := hrot.sl
  have sld := hdt.sl
  have a5 := alloc27 h4
  have le5 : Le h4 (h4.alloc (.cells [.slice none 0 0, .slice none 0 0, .slice none 0 0])) := (Le.refl h4).alloc wf4 _
  have o5 : (h4.alloc (.cells [.slice none 0 0, .slice none 0 0, .slice none 0 0])).own h4.next = some (.cells [.slice none 0 0, .slice none 0 0, .slice none 0 0]) := AHeap.own_alloc_eq _ _
  have n4 : h4.own h4.next = none := (Le.refl h4).next wf4 (Nat.le_refl _)
  have wf5 := wf4.alloc (.cells [.slice none 0 0, .slice none 0 0, .slice none 0 0])
  have s6 := store27 o5 slr gve.cs.sl sld
  have le6 := le5.put (.cells [.slice (some ⟨a3, 0, none⟩) 2 2, ve, d]) n4
  have wf6 := wf5.put (.cells [.slice (some ⟨a3, 0, none⟩) 2 2, ve, d]) (wf5.lt o5)
  have o6 : ((h4.alloc (.cells [.slice none 0 0, .slice none 0 0, .slice none 0 0])).put h4.next (.cells [.slice (some ⟨a3, 0, none⟩) 2 2, ve, d])).own h4.next = some (.cells [.slice (some ⟨a3, 0, none⟩) 2 2, ve, d]) := AHeap.own_put_eq _ _ _
  simp only [beq_dec, fst_mk, snd_mk, VK_skip, VK_ret, VK_exit, VK_seq, VK_block, VK_region, VK_draw, VK_cond, KCond_true, KCond_false, VK_loop, KN_nil, KN_seq, KN_blk, KX_ret_nil, KX_ret_seq, KX_ret_blk, KX_exit_nil, KX_exit_seq, KX_exit_blk, KE_normal, KE_ret, KE_exit, KO_nil, KO_cons, KO_app_cons, KO_app_nil, KO1_true, KO1_false, KO2_true, KO2_false, KO3_some, KO4_some, loopQ_ret, loopQ_exit, wantA, isCall, stepOp, evalO, evalL, evalP, evalM, putDst, flat, cond_true, cond_false, Nat.reduceLT, ↓reduceIte, Trie.get_set, Nat.reduceEqDiff, Nat.one_ne_zero, Nat.zero_ne_one, aBuiltin, abinG, guardFree, abin, aInt, aUn, aNilCheck, retQ, retQ1, aresults, aresultL, aresult, mkF, undefV, reduceCtorEq, List.getElem?_toArray, List.append_eq, List.cons_append, List.nil_append, List.getElem?_cons_zero, List.getElem?_cons_succ, Option.bind_some, Bool.not_true, Bool.not_false, beq_self_eq_true, aExtract, calleeOf, awrap_u8, Bool.true_beq, Bool.false_beq, beq_true, beq_false, decide_true, decide_false, Bool.not_not, Bool.and_true, Bool.true_and, Bool.and_false, Bool.false_and, a5, s6]
  generalize (h4.alloc (.cells [.slice none 0 0, .slice none 0 0, .slice none 0 0])).put h4.next (.cells [.slice (some ⟨a3, 0, none⟩) 2 2, ve, d]) = h6 at *
  generalize hb : h4.next = b at *
  -- the block of the colours
  obtain ⟨id, c', cap, rfl, ov⟩ : ∃ id c' cap, ve = .slice (some ⟨id, 0, none⟩) 2 cap ∧ h4.own id = some (.cells (.slice none 0 0 :: .slice none 0 0 :: c')) := by
    obtain ⟨hl, ⟨rfl, q⟩ | ⟨id, c, cap, rfl, ho, ht, _⟩⟩ := gve
    · cases q
    · match c, ht with
      | x :: y :: c', ht =>
        simp [nils, S2] at ht
        obtain ⟨rfl, rfl⟩ := ht
        exact ⟨id, c', cap, rfl, ho⟩
  have hidb : id ≠ b := fun e => by rw [e, n4] at ov; cases ov
  have ov6 := le6.own _ _ ov
  have e0 : bl (.slice (some ⟨id, 0, none⟩) 2 cap) = [id] := rfl
  have ix0 := aIdx (P := Try.prog) (t := 24) (a := ⟨id, 0, none⟩) (n := 2) (cap := cap) Try.underlying24 Try.underlying34 (by kernel_rfl) (k := .i64) 0 (by decide)
  have ix1 := aIdx (P := Try.prog) (t := 24) (a := ⟨id, 0, none⟩) (n := 2) (cap := cap) Try.underlying24 Try.underlying34 (by kernel_rfl) (k := .i64) 1 (by decide)
  have lv : ∀ {g : AHeap}, g.own b = some (.cells [.slice (some ⟨a3, 0, none⟩) 2 2, .slice (some ⟨id, 0, none⟩) 2 cap, d]) → aload Try.prog g 24 ⟨b, 1, none⟩ = some (.slice (some ⟨id, 0, none⟩) 2 cap) := fun ho => by rw [aload_one Try.underlying24 rfl ho]; rfl
  have l6 := lv o6
  generalize hN : h6.next = N at *
  have bN : b < N := by rw [← hN]; exact wf6.lt o6
  have iN : id < N := by rw [← hN]; exact wf6.lt ov6
  have m0 : ∀ x : Int, aBuildSlice Try.prog h6 34 1 [(0, .int .u8 x)] = some (.slice (some ⟨N, 0, none⟩) 1 1, h6.alloc (.cells [.int .u8 x])) := fun x => by rw [← hN]; rfl
  have x0 : ∀ x : Int, (h6.alloc (.cells [.int .u8 x])).next = N + 1 := fun x => by rw [← hN]; rfl
  have w0 : ∀ x : Int, WF (h6.alloc (.cells [.int .u8 x])) := fun x => wf6.alloc _
  have p0 : ∀ x : Int, (h6.alloc (.cells [.int .u8 x])).own N = some (.cells [.int .u8 x]) := fun x => by rw [← hN]; exact AHeap.own_alloc_eq _ _
  have k0 : ∀ (x : Int) i o, h6.own i = some o → (h6.alloc (.cells [.int .u8 x])).own i = some o := fun x i o ho => ((Le.refl h6).alloc wf6 _).own _ _ ho
  have lee : ∀ x : Int, Le h6 (h6.alloc (.cells [.int .u8 x])) := fun x => (Le.refl h6).alloc wf6 _
  -- what becomes of a heap by a store
  have fin : ∀ (g : AHeap) (x y : Value), WF g → Le (rem [id] h6) (rem [id] g) → g.own b = some (.cells [.slice (some ⟨a3, 0, none⟩) 2 2, .slice (some ⟨id, 0, none⟩) 2 cap, d]) → g.own id = some (.cells (x :: y :: c')) →
      ∀ p : Nat, (aStore Try.prog g 34 (.pointer (some ⟨id, 0, none⟩)) (.slice (some ⟨p, 0, none⟩) 1 1) = some (g.put id (.cells (.slice (some ⟨p, 0, none⟩) 1 1 :: y :: c'))) ∧ aStore Try.prog g 34 (.pointer (some ⟨id, 1, none⟩)) (.slice (some ⟨p, 0, none⟩) 1 1) = some (g.put id (.cells (x :: .slice (some ⟨p, 0, none⟩) 1 1 :: c'))) ∧
        ∀ cc, WF (g.put id (.cells cc)) ∧ Le (rem [id] h6) (rem [id] (g.put id (.cells cc))) ∧ (g.put id (.cells cc)).own b = some (.cells [.slice (some ⟨a3, 0, none⟩) 2 2, .slice (some ⟨id, 0, none⟩) 2 cap, d]) ∧ (g.put id (.cells cc)).own id = some (.cells cc) ∧ (∀ i o, i ≠ id → g.own i = some o → (g.put id (.cells cc)).own i = some o) ∧ (g.put id (.cells cc)).next = g.next) := by
    intro g x y hw hle hb' hi' p
    refine ⟨?_, ?_, fun cc => ⟨hw.put _ (hw.lt hi'), hle.put_rem _ (by simp), by rw [AHeap.own_put_ne _ _ _ _ (Ne.symm hidb)]; exact hb', AHeap.own_put_eq _ _ _, fun i o hni ho => by rw [AHeap.own_put_ne _ _ _ _ hni]; exact ho, rfl⟩⟩
    · have := aStore1 (P := Try.prog) (t := 34) (x := .slice (some ⟨p, 0, none⟩) 1 1) Try.underlying34 (by kernel_rfl) hi' (off := 0) (by simp) rfl rfl
      simpa using this
    · have := aStore1 (P := Try.prog) (t := 34) (x := .slice (some ⟨p, 0, none⟩) 1 1) Try.underlying34 (by kernel_rfl) hi' (off := 1) (by simp) rfl rfl
      simpa using this
  have ix0' : aIndexAddr Try.prog 24 (.slice (some ⟨id, 0, none⟩) 2 cap) (.int .i64 0) = some (.pointer (some ⟨id, 0, none⟩)) := ix0
  have ix1' : aIndexAddr Try.prog 24 (.slice (some ⟨id, 0, none⟩) 2 cap) (.int .i64 1) = some (.pointer (some ⟨id, 1, none⟩)) := ix1
  have oN : ∀ x : Int, (h6.alloc (.cells [.int .u8 x])).own id = some (.cells (.slice none 0 0 :: .slice none 0 0 :: c')) := fun x => k0 x _ _ ov6
  have obN : ∀ x : Int, (h6.alloc (.cells [.int .u8 x])).own b = some (.cells [.slice (some ⟨a3, 0, none⟩) 2 2, .slice (some ⟨id, 0, none⟩) 2 cap, d]) := fun x => k0 x _ _ o6
  -- both letters made, one after the other
  have two : ∀ x y : Int, ∃ g2, aBuildSlice Try.prog (h6.alloc (.cells [.int .u8 x])) 34 1 [(0, .int .u8 y)] = some (.slice (some ⟨N + 1, 0, none⟩) 1 1, g2) ∧ WF g2 ∧ Le (rem [id] h6) (rem [id] g2) ∧ g2.own b = some (.cells [.slice (some ⟨a3, 0, none⟩) 2 2, .slice (some ⟨id, 0, none⟩) 2 cap, d]) ∧ g2.own id = some (.cells (.slice none 0 0 :: .slice none 0 0 :: c')) ∧ g2.own N = some (.cells [.int .u8 x]) ∧ g2.own (N + 1) = some (.cells [.int .u8 y]) := by
    intro x y
    have le := (Le.refl (h6.alloc (.cells [.int .u8 x]))).alloc (w0 x) (.cells [.int .u8 y])
    refine ⟨_, by rw [mkb, x0 x], (w0 x).alloc _, ((lee x).trans le).mono_rem, le.own _ _ (obN x), le.own _ _ (oN x), le.own _ _ (p0 x), ?_⟩
    have := AHeap.own_alloc_eq (h6.alloc (.cells [.int .u8 x])) (.cells [.int .u8 y])
    rwa [x0 x] at this
  -- the first letter stored before the second one is made
  obtain ⟨s1a, -, f1⟩ := fin (h6.alloc (.cells [.int .u8 97])) _ _ (w0 97) ((lee 97).mono_rem) (obN 97) (oN 97) N
  obtain ⟨kw2, kl2, kb2, ki2, kk2, kx2⟩ := f1 (.slice (some ⟨N, 0, none⟩) 1 1 :: .slice none 0 0 :: c')
  generalize (h6.alloc (.cells [.int .u8 97])).put id (.cells (.slice (some ⟨N, 0, none⟩) 1 1 :: .slice none 0 0 :: c')) = k2 at *
  rw [x0 97] at kx2
  have kp2 := kk2 N _ (by omega) (p0 97)
  obtain ⟨k3, e3, kw3, kl3, kb3, ki3, kp3, kq3⟩ : ∃ k3, aBuildSlice Try.prog k2 34 1 [(0, .int .u8 98)] = some (.slice (some ⟨N + 1, 0, none⟩) 1 1, k3) ∧ WF k3 ∧ Le (rem [id] h6) (rem [id] k3) ∧ k3.own b = some (.cells [.slice (some ⟨a3, 0, none⟩) 2 2, .slice (some ⟨id, 0, none⟩) 2 cap, d]) ∧ k3.own id = some (.cells (.slice (some ⟨N, 0, none⟩) 1 1 :: .slice none 0 0 :: c')) ∧ k3.own N = some (.cells [.int .u8 97]) ∧ k3.own (N + 1) = some (.cells [.int .u8 98]) := by
    have le := (Le.refl k2).alloc kw2 (.cells [.int .u8 98])
    refine ⟨_, by rw [mkb, kx2], kw2.alloc _, kl2.trans le.mono_rem, le.own _ _ kb2, le.own _ _ ki2, le.own _ _ kp2, ?_⟩
    have := AHeap.own_alloc_eq k2 (.cells [.int .u8 98])
    rwa [kx2] at this
  obtain ⟨-, s3b, f3⟩ := fin k3 _ _ kw3 kl3 kb3 ki3 (N + 1)
  obtain ⟨kw4, kl4, kb4, ki4, kk4, -⟩ := f3 (.slice (some ⟨N, 0, none⟩) 1 1 :: .slice (some ⟨N + 1, 0, none⟩) 1 1 :: c')
  have kp4 := kk4 N _ (by omega) kp3
  have kq4 := kk4 (N + 1) _ (by omega) kq3
  generalize k3.put id (.cells (.slice (some ⟨N, 0, none⟩) 1 1 :: .slice (some ⟨N + 1, 0, none⟩) 1 1 :: c')) = k4 at *
  -- both made before
  obtain ⟨g2, t2, gw2, gl2, gb2, gi2, gp2, gq2⟩ := two 97 98
  obtain ⟨t2a, -, q2⟩ := fin g2 _ _ gw2 gl2 gb2 gi2 N
  obtain ⟨gw3, gl3, gb3, gi3, gk3, -⟩ := q2 (.slice (some ⟨N, 0, none⟩) 1 1 :: .slice none 0 0 :: c')
  have gp3 := gk3 N _ (by omega) gp2
  have gq3 := gk3 (N + 1) _ (by omega) gq2
  generalize g2.put id (.cells (.slice (some ⟨N, 0, none⟩) 1 1 :: .slice none 0 0 :: c')) = g3 at *
  obtain ⟨-, t3b, q3⟩ := fin g3 _ _ gw3 gl3 gb3 gi3 (N + 1)
  obtain ⟨gw4, gl4, gb4, gi4, gk4, -⟩ := q3 (.slice (some ⟨N, 0, none⟩) 1 1 :: .slice (some ⟨N + 1, 0, none⟩) 1 1 :: c')
  have gp4 := gk4 N _ (by omega) gp3
  have gq4 := gk4 (N + 1) _ (by omega) gq3
  generalize g3.put id (.cells (.slice (some ⟨N, 0, none⟩) 1 1 :: .slice (some ⟨N + 1, 0, none⟩) 1 1 :: c')) = g4 at *
  -- both made, the second one first
  obtain ⟨m2, u2, mw2, ml2, mb2, mi2, mp2, mq2⟩ := two 98 97
  obtain ⟨u2a, -, v2⟩ := fin m2 _ _ mw2 ml2 mb2 mi2 (N + 1)
  obtain ⟨mw3, ml3, mb3, mi3, mk3, -⟩ := v2 (.slice (some ⟨N + 1, 0, none⟩) 1 1 :: .slice none 0 0 :: c')
  have mp3 := mk3 N _ (by omega) mp2
  have mq3 := mk3 (N + 1) _ (by omega) mq2
  generalize m2.put id (.cells (.slice (some ⟨N + 1, 0, none⟩) 1 1 :: .slice none 0 0 :: c')) = m3 at *
  obtain ⟨-, u3b, v3⟩ := fin m3 _ _ mw3 ml3 mb3 mi3 N
  obtain ⟨mw4, ml4, mb4, mi4, mk4, -⟩ := v3 (.slice (some ⟨N + 1, 0, none⟩) 1 1 :: .slice (some ⟨N, 0, none⟩) 1 1 :: c')
  have mp4 := mk4 N _ (by omega) mp3
  have mq4 := mk4 (N + 1) _ (by omega) mq3
  generalize m3.put id (.cells (.slice (some ⟨N + 1, 0, none⟩) 1 1 :: .slice (some ⟨N, 0, none⟩) 1 1 :: c')) = m4 at *
  have skin : ∀ (X : AHeap) (pa pb : Nat), Le (rem [id] h6) (rem [id] X) → X.own b = some (.cells [.slice (some ⟨a3, 0, none⟩) 2 2, .slice (some ⟨id, 0, none⟩) 2 cap, d]) → X.own id = some (.cells (.slice (some ⟨pa, 0, none⟩) 1 1 :: .slice (some ⟨pb, 0, none⟩) 1 1 :: c')) → X.own pa = some (.cells [.int .u8 97]) → X.own pb = some (.cells [.int .u8 98]) →
      SkinR X (.slice (some ⟨a3, 0, none⟩) 2 2) (.slice (some ⟨id, 0, none⟩) 2 cap) d S2 ∧ aload Try.prog X 27 ⟨b, 0, none⟩ = some (.agg #[.slice (some ⟨a3, 0, none⟩) 2 2, .slice (some ⟨id, 0, none⟩) 2 cap, d]) ∧ Le h X ∧ X.own b = some (.cells [.slice (some ⟨a3, 0, none⟩) 2 2, .slice (some ⟨id, 0, none⟩) 2 cap, d]) := by
    intro X pa pb hl hb' hi' hpa hpb
    have hr4 : Le (rem [id] h4) X := (le6.mono_rem.trans hl).trans (rem_le _ _)
    refine ⟨⟨?_, ?_, ?_⟩, load27 hb', ?_, hb'⟩
    · exact (hrot.le (.RL .isI) le4).le (.RL .isI) hr4
    · refine ⟨[.slice (some ⟨pa, 0, none⟩) 1 1, .slice (some ⟨pb, 0, none⟩) 1 1], ?_, rfl, ?_⟩
      · have := RS.own (c := cap) (off := 0) (n := 2) hi' (by simp)
        simpa using this
      · exact All2.get (R := RL isB X) ⟨byte_rl1 hpa (by decide), byte_rl1 hpb (by decide), trivial⟩
    · exact hdt.le (.RL (.RL .isB)) hr4
    · exact hle3.trans (le4.trans hr4)
  have Fg := skin g4 N (N + 1) gl4 gb4 gi4 gp4 gq4
  have Fk := skin k4 N (N + 1) kl4 kb4 ki4 kp4 kq4
  have Fm := skin m4 (N + 1) N ml4 mb4 mi4 mq4 mp4
  refine KDraw.intro mixed (.fl 0 (.fl 1 (.fl 2 (.fl 3 (.ch 4 [] (.fl 5 (.fl 8 (.ch 6 [] (.fl 7 (.ch 9 [0, 1, 4, 5, 8] (.fl 10 (.ch 11 [0, 1, 2, 3, 4, 5, 6, 7, 8, 9, 10] (.done) .no)) .no)) (.ch 9 [0, 1, 4, 5, 8] (.ch 6 [] (.fl 7 (.fl 10 (.ch 11 [0, 1, 2, 3, 4, 5, 6, 7, 8, 9, 10] (.done) .no))) .no) .no)))) (.ch 6 [] (.fl 7 (.ch 4 [] (.fl 5 (.fl 8 (.ch 9 [0, 1, 4, 5, 8] (.fl 10 (.ch 11 [0, 1, 2, 3, 4, 5, 6, 7, 8, 9, 10] (.done) .no)) .no))) .no)) .no)))))) (by kernel_rfl) ?_
  simp only [beq_dec, fst_mk, snd_mk, VK_skip, VK_ret, VK_exit, VK_seq, VK_block, VK_region, VK_draw, VK_cond, KCond_true, KCond_false, VK_loop, KN_nil, KN_seq, KN_blk, KX_ret_nil, KX_ret_seq, KX_ret_blk, KX_exit_nil, KX_exit_seq, KX_exit_blk, KE_normal, KE_ret, KE_exit, KO_nil, KO_cons, KO_app_cons, KO_app_nil, KO1_true, KO1_false, KO2_true, KO2_false, KO3_some, KO4_some, loopQ_ret, loopQ_exit, wantA, isCall, stepOp, evalO, evalL, evalP, evalM, putDst, flat, cond_true, cond_false, Nat.reduceLT, ↓reduceIte, Trie.get_set, Nat.reduceEqDiff, Nat.one_ne_zero, Nat.zero_ne_one, aBuiltin, abinG, guardFree, abin, aInt, aUn, aNilCheck, retQ, retQ1, aresults, aresultL, aresult, mkF, undefV, reduceCtorEq, List.getElem?_toArray, List.append_eq, List.cons_append, List.nil_append, List.getElem?_cons_zero, List.getElem?_cons_succ, Option.bind_some, Bool.not_true, Bool.not_false, beq_self_eq_true, aExtract, calleeOf, awrap_u8, Bool.true_beq, Bool.false_beq, beq_true, beq_false, decide_true, decide_false, Bool.not_not, Bool.and_true, Bool.true_and, Bool.and_false, Bool.false_and, Nat.reduceBEq, Bool.or_self, Bool.false_eq_true, KD_done, KD_no, KD_fl, KF1_some, KF2_true, KF2_false, KF3_some, KF4_some, KD_ch, KG1_some, KG2_true, KG2_false, KG3_true, KG3_false, KG4_some, KG5_some, HoldsAll, Holds_eq, H1_some, H2_true, H2_false, H3_some, HD_some, HD_none, List.filter_nil, List.filter_cons, List.contains_cons, List.contains_nil, Bool.or_false, Bool.false_or, Bool.true_or, Bool.or_true, true_and, and_true, fld1, aadd, Nat.zero_add, l6, m0, lv (obN 97), lv (obN 98), lv kb2, lv kb3, lv kb4, lv gb2, lv gb3, lv gb4, lv mb2, lv mb3, lv mb4, ix0', ix1', e3, t2, u2, s1a, s3b, t2a, t3b, u2a, u3b,
    conv_bytes (p0 97), conv_bytes (p0 98), conv_bytes kp2, conv_bytes kp3, conv_bytes kq3, conv_bytes kp4, conv_bytes kq4, conv_bytes gp2, conv_bytes gq2, conv_bytes gp3, conv_bytes gq3, conv_bytes gp4, conv_bytes gq4, conv_bytes mp2, conv_bytes mq2, conv_bytes mp3, conv_bytes mq3, conv_bytes mp4, conv_bytes mq4]
  clear skin fin two f1 f3 q2 q3 v2 v3
  refine ⟨⟨?_, ?_⟩, ?_⟩
  all_goals
    first
      | (have FX := Fg; simp only [beq_dec, fst_mk, snd_mk, VK_skip, VK_ret, VK_exit, VK_seq, VK_block, VK_region, VK_draw, VK_cond, KCond_true, KCond_false, VK_loop, KN_nil, KN_seq, KN_blk, KX_ret_nil, KX_ret_seq, KX_ret_blk, KX_exit_nil, KX_exit_seq, KX_exit_blk, KE_normal, KE_ret, KE_exit, KO_nil, KO_cons, KO_app_cons, KO_app_nil, KO1_true, KO1_false, KO2_true, KO2_false, KO3_some, KO4_some, loopQ_ret, loopQ_exit, wantA, isCall, stepOp, evalO, evalL, evalP, evalM, putDst, flat, cond_true, cond_false, Nat.reduceLT, ↓reduceIte, Trie.get_set, Nat.reduceEqDiff, Nat.one_ne_zero, Nat.zero_ne_one, aBuiltin, abinG, guardFree, abin, aInt, aUn, aNilCheck, retQ, retQ1, aresults, aresultL, aresult, mkF, undefV, reduceCtorEq, List.getElem?_toArray, List.append_eq, List.cons_append, List.nil_append, List.getElem?_cons_zero, List.getElem?_cons_succ, Option.bind_some, Bool.not_true, Bool.not_false, beq_self_eq_true, aExtract, calleeOf, awrap_u8, Bool.true_beq, Bool.false_beq, beq_true, beq_false, decide_true, decide_false, Bool.not_not, Bool.and_true, Bool.true_and, Bool.and_false, Bool.false_and, FX.2.1])
      | (have FX := Fk; simp only [beq_dec, fst_mk, snd_mk, VK_skip, VK_ret, VK_exit, VK_seq, VK_block, VK_region, VK_draw, VK_cond, KCond_true, KCond_false, VK_loop, KN_nil, KN_seq, KN_blk, KX_ret_nil, KX_ret_seq, KX_ret_blk, KX_exit_nil, KX_exit_seq, KX_exit_blk, KE_normal, KE_ret, KE_exit, KO_nil, KO_cons, KO_app_cons, KO_app_nil, KO1_true, KO1_false, KO2_true, KO2_false, KO3_some, KO4_some, loopQ_ret, loopQ_exit, wantA, isCall, stepOp, evalO, evalL, evalP, evalM, putDst, flat, cond_true, cond_false, Nat.reduceLT, ↓reduceIte, Trie.get_set, Nat.reduceEqDiff, Nat.one_ne_zero, Nat.zero_ne_one, aBuiltin, abinG, guardFree, abin, aInt, aUn, aNilCheck, retQ, retQ1, aresults, aresultL, aresult, mkF, undefV, reduceCtorEq, List.getElem?_toArray, List.append_eq, List.cons_append, List.nil_append, List.getElem?_cons_zero, List.getElem?_cons_succ, Option.bind_some, Bool.not_true, Bool.not_false, beq_self_eq_true, aExtract, calleeOf, awrap_u8, Bool.true_beq, Bool.false_beq, beq_true, beq_false, decide_true, decide_false, Bool.not_not, Bool.and_true, Bool.true_and, Bool.and_false, Bool.false_and, FX.2.1])
      | (have FX := Fm; simp only [beq_dec, fst_mk, snd_mk, VK_skip, VK_ret, VK_exit, VK_seq, VK_block, VK_region, VK_draw, VK_cond, KCond_true, KCond_false, VK_loop, KN_nil, KN_seq, KN_blk, KX_ret_nil, KX_ret_seq, KX_ret_blk, KX_exit_nil, KX_exit_seq, KX_exit_blk, KE_normal, KE_ret, KE_exit, KO_nil, KO_cons, KO_app_cons, KO_app_nil, KO1_true, KO1_false, KO2_true, KO2_false, KO3_some, KO4_some, loopQ_ret, loopQ_exit, wantA, isCall, stepOp, evalO, evalL, evalP, evalM, putDst, flat, cond_true, cond_false, Nat.reduceLT, ↓reduceIte, Trie.get_set, Nat.reduceEqDiff, Nat.one_ne_zero, Nat.zero_ne_one, aBuiltin, abinG, guardFree, abin, aInt, aUn, aNilCheck, retQ, retQ1, aresults, aresultL, aresult, mkF, undefV, reduceCtorEq, List.getElem?_toArray, List.append_eq, List.cons_append, List.nil_append, List.getElem?_cons_zero, List.getElem?_cons_succ, Option.bind_some, Bool.not_true, Bool.not_false, beq_self_eq_true, aExtract, calleeOf, awrap_u8, Bool.true_beq, Bool.false_beq, beq_true, beq_false, decide_true, decide_false, Bool.not_not, Bool.and_true, Bool.true_and, Bool.and_false, Bool.false_and, FX.2.1])
    clear Fg Fk Fm
    obtain ⟨skX, -, leX, obX⟩ := FX
    refine KCall.intro (by simp only [beq_dec, fst_mk, snd_mk, VK_skip, VK_ret, VK_exit, VK_seq, VK_block, VK_region, VK_draw, VK_cond, KCond_true, KCond_false, VK_loop, KN_nil, KN_seq, KN_blk, KX_ret_nil, KX_ret_seq, KX_ret_blk, KX_exit_nil, KX_exit_seq, KX_exit_blk, KE_normal, KE_ret, KE_exit, KO_nil, KO_cons, KO_app_cons, KO_app_nil, KO1_true, KO1_false, KO2_true, KO2_false, KO3_some, KO4_some, loopQ_ret, loopQ_exit, wantA, isCall, stepOp, evalO, evalL, evalP, evalM, putDst, flat, cond_true, cond_false, Nat.reduceLT, ↓reduceIte, Trie.get_set, Nat.reduceEqDiff, Nat.one_ne_zero, Nat.zero_ne_one, aBuiltin, abinG, guardFree, abin, aInt, aUn, aNilCheck, retQ, retQ1, aresults, aresultL, aresult, mkF, undefV, reduceCtorEq, List.getElem?_toArray, List.append_eq, List.cons_append, List.nil_append, List.getElem?_cons_zero, List.getElem?_cons_succ, Option.bind_some, Bool.not_true, Bool.not_false, beq_self_eq_true, aExtract, calleeOf, awrap_u8, Bool.true_beq, Bool.false_beq, beq_true, beq_false, decide_true, decide_false, Bool.not_not, Bool.and_true, Bool.true_and, Bool.and_false, Bool.false_and] <;> rfl) ⟨Try.func10, rfl, by decide⟩ (Walk_any W0 _ _ _ S2 0 0 false _ skX S2_small) ?_
    rintro x h11 wf11 ⟨⟨cv, wv, ee, rfl, hw⟩, le11⟩
    rcases hw with ⟨-, -, rfl, hcv, hwv⟩ | ⟨hn, -⟩
    rotate_left
    · exact absurd ⟨S2_right, by decide⟩ hn
    have hcv' : GB h11 cv (num4 8 ++ bytesM [[97], num4 1, num4 1, [], [98], num4 1, num4 0, []]) := by rw [← S2_code]; exact hcv
    have hwv' : RL isI h11 wv [0, 1] := by
      have : ints (finM S2 false 0 0).ord = [0, 1] := by rw [S2_ord]; rfl
      have e := hwv.cs.rs
      rw [show (0 : Int).toNat = 0 from rfl, this] at e
      exact RL.ofI e
    obtain ⟨h12, e12, le12, wf12, ow12⟩ := alloc_f wf11 [.slice none 0 0, .slice none 0 0]
    have a12 := alloc36 h11
    rw [e12] at a12
    have s12 := store36 ow12 hcv.1.cs.sl hwv.cs.sl
    have nw : h11.own h11.next = none := (Le.refl h11).next wf11 (Nat.le_refl _)
    have le13 := le12.put (.cells [cv, wv]) nw
    have wf13 := wf12.put (.cells [cv, wv]) (wf12.lt ow12)
    have ow13 : (h12.put h11.next (.cells [cv, wv])).own h11.next = some (.cells [cv, wv]) := AHeap.own_put_eq _ _ _
    simp only [beq_dec, fst_mk, snd_mk, VK_skip, VK_ret, VK_exit, VK_seq, VK_block, VK_region, VK_draw, VK_cond, KCond_true, KCond_false, VK_loop, KN_nil, KN_seq, KN_blk, KX_ret_nil, KX_ret_seq, KX_ret_blk, KX_exit_nil, KX_exit_seq, KX_exit_blk, KE_normal, KE_ret, KE_exit, KO_nil, KO_cons, KO_app_cons, KO_app_nil, KO1_true, KO1_false, KO2_true, KO2_false, KO3_some, KO4_some, loopQ_ret, loopQ_exit, wantA, isCall, stepOp, evalO, evalL, evalP, evalM, putDst, flat, cond_true, cond_false, Nat.reduceLT, ↓reduceIte, Trie.get_set, Nat.reduceEqDiff, Nat.one_ne_zero, Nat.zero_ne_one, aBuiltin, abinG, guardFree, abin, aInt, aUn, aNilCheck, retQ, retQ1, aresults, aresultL, aresult, mkF, undefV, reduceCtorEq, List.getElem?_toArray, List.append_eq, List.cons_append, List.nil_append, List.getElem?_cons_zero, List.getElem?_cons_succ, Option.bind_some, Bool.not_true, Bool.not_false, beq_self_eq_true, aExtract, calleeOf, awrap_u8, Bool.true_beq, Bool.false_beq, beq_true, beq_false, decide_true, decide_false, Bool.not_not, Bool.and_true, Bool.true_and, Bool.and_false, Bool.false_and, a12, s12]
    generalize h12.put h11.next (.cells [cv, wv]) = h13 at *
    generalize h11.next = w at *
    obtain ⟨h14, e14, le14, wf14, o14⟩ := alloc_f wf13 [.int .u8 0, .int .u8 0, .int .u8 0, .int .u8 1]
    obtain ⟨h15, e15, le15, wf15, o15⟩ := alloc_f wf14 [.int .u8 0, .int .u8 0, .int .u8 0, .int .u8 0]
    obtain ⟨h16, e16, le16, wf16, o16⟩ := alloc_f wf15 [.int .u8 97]
    obtain ⟨h17, e17, le17, wf17, o17⟩ := alloc_f wf16 [.int .u8 98]
    simp only [beq_dec, fst_mk, snd_mk, VK_skip, VK_ret, VK_exit, VK_seq, VK_block, VK_region, VK_draw, VK_cond, KCond_true, KCond_false, VK_loop, KN_nil, KN_seq, KN_blk, KX_ret_nil, KX_ret_seq, KX_ret_blk, KX_exit_nil, KX_exit_seq, KX_exit_blk, KE_normal, KE_ret, KE_exit, KO_nil, KO_cons, KO_app_cons, KO_app_nil, KO1_true, KO1_false, KO2_true, KO2_false, KO3_some, KO4_some, loopQ_ret, loopQ_exit, wantA, isCall, stepOp, evalO, evalL, evalP, evalM, putDst, flat, cond_true, cond_false, Nat.reduceLT, ↓reduceIte, Trie.get_set, Nat.reduceEqDiff, Nat.one_ne_zero, Nat.zero_ne_one, aBuiltin, abinG, guardFree, abin, aInt, aUn, aNilCheck, retQ, retQ1, aresults, aresultL, aresult, mkF, undefV, reduceCtorEq, List.getElem?_toArray, List.append_eq, List.cons_append, List.nil_append, List.getElem?_cons_zero, List.getElem?_cons_succ, Option.bind_some, Bool.not_true, Bool.not_false, beq_self_eq_true, aExtract, calleeOf, awrap_u8, Bool.true_beq, Bool.false_beq, beq_true, beq_false, decide_true, decide_false, Bool.not_not, Bool.and_true, Bool.true_and, Bool.and_false, Bool.false_and, mkB4, mkb, mkW8, e14, e15, e16, e17, conv_bytes o16, conv_bytes o17]
    generalize h13.next = p1 at *
    generalize h14.next = p2 at *
    generalize h15.next = p3 at *
    generalize h16.next = p4 at *
    obtain ⟨h18, e18, le18, wf18, o18⟩ := alloc_f wf17 [.slice (some ⟨p3, 0, none⟩) 1 1, .slice (some ⟨p1, 0, none⟩) 4 4, .slice (some ⟨p1, 0, none⟩) 4 4, .slice none 0 0, .slice (some ⟨p4, 0, none⟩) 1 1, .slice (some ⟨p1, 0, none⟩) 4 4, .slice (some ⟨p2, 0, none⟩) 4 4, .slice none 0 0]
    simp only [beq_dec, fst_mk, snd_mk, VK_skip, VK_ret, VK_exit, VK_seq, VK_block, VK_region, VK_draw, VK_cond, KCond_true, KCond_false, VK_loop, KN_nil, KN_seq, KN_blk, KX_ret_nil, KX_ret_seq, KX_ret_blk, KX_exit_nil, KX_exit_seq, KX_exit_blk, KE_normal, KE_ret, KE_exit, KO_nil, KO_cons, KO_app_cons, KO_app_nil, KO1_true, KO1_false, KO2_true, KO2_false, KO3_some, KO4_some, loopQ_ret, loopQ_exit, wantA, isCall, stepOp, evalO, evalL, evalP, evalM, putDst, flat, cond_true, cond_false, Nat.reduceLT, ↓reduceIte, Trie.get_set, Nat.reduceEqDiff, Nat.one_ne_zero, Nat.zero_ne_one, aBuiltin, abinG, guardFree, abin, aInt, aUn, aNilCheck, retQ, retQ1, aresults, aresultL, aresult, mkF, undefV, reduceCtorEq, List.getElem?_toArray, List.append_eq, List.cons_append, List.nil_append, List.getElem?_cons_zero, List.getElem?_cons_succ, Option.bind_some, Bool.not_true, Bool.not_false, beq_self_eq_true, aExtract, calleeOf, awrap_u8, Bool.true_beq, Bool.false_beq, beq_true, beq_false, decide_true, decide_false, Bool.not_not, Bool.and_true, Bool.true_and, Bool.and_false, Bool.false_and, e18]
    generalize h17.next = p5 at *
    have r1 : RL isB h18 (.slice (some ⟨p1, 0, none⟩) 4 4) (num4 1) := RL.ofB (RS.whole ((((le15.trans le16).trans le17).trans le18).own _ _ o14) rfl) (num4_rng 1)
    have r0 : RL isB h18 (.slice (some ⟨p2, 0, none⟩) 4 4) (num4 0) := RL.ofB (RS.whole (((le16.trans le17).trans le18).own _ _ o15) rfl) (num4_rng 0)
    have ra : RL isB h18 (.slice (some ⟨p3, 0, none⟩) 1 1) [97] := byte_rl1 ((le17.trans le18).own _ _ o16) (by decide)
    have rb : RL isB h18 (.slice (some ⟨p4, 0, none⟩) 1 1) [98] := byte_rl1 (le18.own _ _ o17) (by decide)
    have rw8 : RL (RL isB) h18 (.slice (some ⟨p5, 0, none⟩) 8 8) [[97], num4 1, num4 1, [], [98], num4 1, num4 0, []] := RL.cells o18 rfl ⟨ra, r1, r1, RL.nil, rb, r1, r0, RL.nil, trivial⟩
    have le1318 := (((le14.trans le15).trans le16).trans le17).trans le18
    clear e12 e14 e15 e16 e17 e18 o14 o15 o16 o17 o18 a12 s12 le14 le15 le16 le17 le18 wf14 wf15 wf16 wf17
    refine KCall.intro (by simp only [beq_dec, fst_mk, snd_mk, VK_skip, VK_ret, VK_exit, VK_seq, VK_block, VK_region, VK_draw, VK_cond, KCond_true, KCond_false, VK_loop, KN_nil, KN_seq, KN_blk, KX_ret_nil, KX_ret_seq, KX_ret_blk, KX_exit_nil, KX_exit_seq, KX_exit_blk, KE_normal, KE_ret, KE_exit, KO_nil, KO_cons, KO_app_cons, KO_app_nil, KO1_true, KO1_false, KO2_true, KO2_false, KO3_some, KO4_some, loopQ_ret, loopQ_exit, wantA, isCall, stepOp, evalO, evalL, evalP, evalM, putDst, flat, cond_true, cond_false, Nat.reduceLT, ↓reduceIte, Trie.get_set, Nat.reduceEqDiff, Nat.one_ne_zero, Nat.zero_ne_one, aBuiltin, abinG, guardFree, abin, aInt, aUn, aNilCheck, retQ, retQ1, aresults, aresultL, aresult, mkF, undefV, reduceCtorEq, List.getElem?_toArray, List.append_eq, List.cons_append, List.nil_append, List.getElem?_cons_zero, List.getElem?_cons_succ, Option.bind_some, Bool.not_true, Bool.not_false, beq_self_eq_true, aExtract, calleeOf, awrap_u8, Bool.true_beq, Bool.false_beq, beq_true, beq_false, decide_true, decide_false, Bool.not_not, Bool.and_true, Bool.true_and, Bool.and_false, Bool.false_and] <;> rfl) ⟨Try.func23, rfl, by decide⟩ (Bytes_any W0 _ _ h18 rw8 (by decide)) ?_
    rintro want h19 wf19 ⟨hwant, le19⟩
    have le1119 := (le13.trans le1318).trans le19
    have l27 := load27 ((le11.trans le1119).own _ _ obX)
    simp only [beq_dec, fst_mk, snd_mk, VK_skip, VK_ret, VK_exit, VK_seq, VK_block, VK_region, VK_draw, VK_cond, KCond_true, KCond_false, VK_loop, KN_nil, KN_seq, KN_blk, KX_ret_nil, KX_ret_seq, KX_ret_blk, KX_exit_nil, KX_exit_seq, KX_exit_blk, KE_normal, KE_ret, KE_exit, KO_nil, KO_cons, KO_app_cons, KO_app_nil, KO1_true, KO1_false, KO2_true, KO2_false, KO3_some, KO4_some, loopQ_ret, loopQ_exit, wantA, isCall, stepOp, evalO, evalL, evalP, evalM, putDst, flat, cond_true, cond_false, Nat.reduceLT, ↓reduceIte, Trie.get_set, Nat.reduceEqDiff, Nat.one_ne_zero, Nat.zero_ne_one, aBuiltin, abinG, guardFree, abin, aInt, aUn, aNilCheck, retQ, retQ1, aresults, aresultL, aresult, mkF, undefV, reduceCtorEq, List.getElem?_toArray, List.append_eq, List.cons_append, List.nil_append, List.getElem?_cons_zero, List.getElem?_cons_succ, Option.bind_some, Bool.not_true, Bool.not_false, beq_self_eq_true, aExtract, calleeOf, awrap_u8, Bool.true_beq, Bool.false_beq, beq_true, beq_false, decide_true, decide_false, Bool.not_not, Bool.and_true, Bool.true_and, Bool.and_false, Bool.false_and, l27]
    refine KCall.intro (by simp only [beq_dec, fst_mk, snd_mk, VK_skip, VK_ret, VK_exit, VK_seq, VK_block, VK_region, VK_draw, VK_cond, KCond_true, KCond_false, VK_loop, KN_nil, KN_seq, KN_blk, KX_ret_nil, KX_ret_seq, KX_ret_blk, KX_exit_nil, KX_exit_seq, KX_exit_blk, KE_normal, KE_ret, KE_exit, KO_nil, KO_cons, KO_app_cons, KO_app_nil, KO1_true, KO1_false, KO2_true, KO2_false, KO3_some, KO4_some, loopQ_ret, loopQ_exit, wantA, isCall, stepOp, evalO, evalL, evalP, evalM, putDst, flat, cond_true, cond_false, Nat.reduceLT, ↓reduceIte, Trie.get_set, Nat.reduceEqDiff, Nat.one_ne_zero, Nat.zero_ne_one, aBuiltin, abinG, guardFree, abin, aInt, aUn, aNilCheck, retQ, retQ1, aresults, aresultL, aresult, mkF, undefV, reduceCtorEq, List.getElem?_toArray, List.append_eq, List.cons_append, List.nil_append, List.getElem?_cons_zero, List.getElem?_cons_succ, Option.bind_some, Bool.not_true, Bool.not_false, beq_self_eq_true, aExtract, calleeOf, awrap_u8, Bool.true_beq, Bool.false_beq, beq_true, beq_false, decide_true, decide_false, Bool.not_not, Bool.and_true, Bool.true_and, Bool.and_false, Bool.false_and] <;> rfl) ⟨Try.func12, rfl, by decide⟩ (Best_any W0 _ _ _ S2 h19 (skX.le (le11.trans le1119)) S2_small) ?_
    rintro x h20 wf20 ⟨⟨bv, ef, rfl, hbv⟩, le20⟩
    rcases hbv with ⟨-, rfl, hbv⟩ | ⟨hn, -⟩
    rotate_left
    · exact absurd S2_right hn
    -- three in a ring
    obtain ⟨h21, e21, le21, wf21, o21⟩ := alloc_f wf20 [.int .i64 1, .int .i64 2]
    obtain ⟨h22, e22, le22, wf22, o22⟩ := alloc_f wf21 [.int .i64 2, .int .i64 0]
    obtain ⟨h23, e23, le23, wf23, o23⟩ := alloc_f wf22 [.int .i64 0, .int .i64 1]
    simp only [beq_dec, fst_mk, snd_mk, VK_skip, VK_ret, VK_exit, VK_seq, VK_block, VK_region, VK_draw, VK_cond, KCond_true, KCond_false, VK_loop, KN_nil, KN_seq, KN_blk, KX_ret_nil, KX_ret_seq, KX_ret_blk, KX_exit_nil, KX_exit_seq, KX_exit_blk, KE_normal, KE_ret, KE_exit, KO_nil, KO_cons, KO_app_cons, KO_app_nil, KO1_true, KO1_false, KO2_true, KO2_false, KO3_some, KO4_some, loopQ_ret, loopQ_exit, wantA, isCall, stepOp, evalO, evalL, evalP, evalM, putDst, flat, cond_true, cond_false, Nat.reduceLT, ↓reduceIte, Trie.get_set, Nat.reduceEqDiff, Nat.one_ne_zero, Nat.zero_ne_one, aBuiltin, abinG, guardFree, abin, aInt, aUn, aNilCheck, retQ, retQ1, aresults, aresultL, aresult, mkF, undefV, reduceCtorEq, List.getElem?_toArray, List.append_eq, List.cons_append, List.nil_append, List.getElem?_cons_zero, List.getElem?_cons_succ, Option.bind_some, Bool.not_true, Bool.not_false, beq_self_eq_true, aExtract, calleeOf, awrap_u8, Bool.true_beq, Bool.false_beq, beq_true, beq_false, decide_true, decide_false, Bool.not_not, Bool.and_true, Bool.true_and, Bool.and_false, Bool.false_and, mkI2, mkr3, e21, e22, e23]
    generalize h20.next = q1 at *
    generalize h21.next = q2 at *
    generalize h22.next = q3 at *
    obtain ⟨h24, e24, le24, wf24, o24⟩ := alloc_f wf23 [.slice (some ⟨q1, 0, none⟩) 2 2, .slice (some ⟨q2, 0, none⟩) 2 2, .slice (some ⟨q3, 0, none⟩) 2 2]
    simp only [beq_dec, fst_mk, snd_mk, VK_skip, VK_ret, VK_exit, VK_seq, VK_block, VK_region, VK_draw, VK_cond, KCond_true, KCond_false, VK_loop, KN_nil, KN_seq, KN_blk, KX_ret_nil, KX_ret_seq, KX_ret_blk, KX_exit_nil, KX_exit_seq, KX_exit_blk, KE_normal, KE_ret, KE_exit, KO_nil, KO_cons, KO_app_cons, KO_app_nil, KO1_true, KO1_false, KO2_true, KO2_false, KO3_some, KO4_some, loopQ_ret, loopQ_exit, wantA, isCall, stepOp, evalO, evalL, evalP, evalM, putDst, flat, cond_true, cond_false, Nat.reduceLT, ↓reduceIte, Trie.get_set, Nat.reduceEqDiff, Nat.one_ne_zero, Nat.zero_ne_one, aBuiltin, abinG, guardFree, abin, aInt, aUn, aNilCheck, retQ, retQ1, aresults, aresultL, aresult, mkF, undefV, reduceCtorEq, List.getElem?_toArray, List.append_eq, List.cons_append, List.nil_append, List.getElem?_cons_zero, List.getElem?_cons_succ, Option.bind_some, Bool.not_true, Bool.not_false, beq_self_eq_true, aExtract, calleeOf, awrap_u8, Bool.true_beq, Bool.false_beq, beq_true, beq_false, decide_true, decide_false, Bool.not_not, Bool.and_true, Bool.true_and, Bool.and_false, Bool.false_and, e24]
    generalize h23.next = q4 at *
    have hr3 : RL (RL isI) h24 (.slice (some ⟨q4, 0, none⟩) 3 3) S3.rot := RL.cells o24 rfl ⟨RL.ofI (RS.whole (((le22.trans le23).trans le24).own _ _ o21) rfl), RL.ofI (RS.whole ((le23.trans le24).own _ _ o22) rfl), RL.ofI (RS.whole (le24.own _ _ o23) rfl), trivial⟩
    have le2024 := ((le21.trans le22).trans le23).trans le24
    clear e21 e22 e23 e24 o21 o22 o23 o24 le21 le22 le23 le24 wf21 wf22 wf23
    refine KCall.intro (by simp only [beq_dec, fst_mk, snd_mk, VK_skip, VK_ret, VK_exit, VK_seq, VK_block, VK_region, VK_draw, VK_cond, KCond_true, KCond_false, VK_loop, KN_nil, KN_seq, KN_blk, KX_ret_nil, KX_ret_seq, KX_ret_blk, KX_exit_nil, KX_exit_seq, KX_exit_blk, KE_normal, KE_ret, KE_exit, KO_nil, KO_cons, KO_app_cons, KO_app_nil, KO1_true, KO1_false, KO2_true, KO2_false, KO3_some, KO4_some, loopQ_ret, loopQ_exit, wantA, isCall, stepOp, evalO, evalL, evalP, evalM, putDst, flat, cond_true, cond_false, Nat.reduceLT, ↓reduceIte, Trie.get_set, Nat.reduceEqDiff, Nat.one_ne_zero, Nat.zero_ne_one, aBuiltin, abinG, guardFree, abin, aInt, aUn, aNilCheck, retQ, retQ1, aresults, aresultL, aresult, mkF, undefV, reduceCtorEq, List.getElem?_toArray, List.append_eq, List.cons_append, List.nil_append, List.getElem?_cons_zero, List.getElem?_cons_succ, Option.bind_some, Bool.not_true, Bool.not_false, beq_self_eq_true, aExtract, calleeOf, awrap_u8, Bool.true_beq, Bool.false_beq, beq_true, beq_false, decide_true, decide_false, Bool.not_not, Bool.and_true, Bool.true_and, Bool.and_false, Bool.false_and] <;> rfl) ⟨Try.func22, rfl, by decide⟩ (bare_any W0 _ S3.rot h24 hr3 (by decide) (by decide)) ?_
    rintro x h25 wf25 ⟨ve3, d3, rfl, gve3, hdt3, le25⟩
    have le2425 : Le h24 h25 := le25.trans (rem_le _ _)
    have sk3 : SkinR h25 (.slice (some ⟨q4, 0, none⟩) 3 3) ve3 d3 S3 := ⟨hr3.le (.RL .isI) le2425, nils_rl gve3.cs.rs, hdt3.le (.RL (.RL .isB)) (rem_le _ _)⟩
    simp only [beq_dec, fst_mk, snd_mk, VK_skip, VK_ret, VK_exit, VK_seq, VK_block, VK_region, VK_draw, VK_cond, KCond_true, KCond_false, VK_loop, KN_nil, KN_seq, KN_blk, KX_ret_nil, KX_ret_seq, KX_ret_blk, KX_exit_nil, KX_exit_seq, KX_exit_blk, KE_normal, KE_ret, KE_exit, KO_nil, KO_cons, KO_app_cons, KO_app_nil, KO1_true, KO1_false, KO2_true, KO2_false, KO3_some, KO4_some, loopQ_ret, loopQ_exit, wantA, isCall, stepOp, evalO, evalL, evalP, evalM, putDst, flat, cond_true, cond_false, Nat.reduceLT, ↓reduceIte, Trie.get_set, Nat.reduceEqDiff, Nat.one_ne_zero, Nat.zero_ne_one, aBuiltin, abinG, guardFree, abin, aInt, aUn, aNilCheck, retQ, retQ1, aresults, aresultL, aresult, mkF, undefV, reduceCtorEq, List.getElem?_toArray, List.append_eq, List.cons_append, List.nil_append, List.getElem?_cons_zero, List.getElem?_cons_succ, Option.bind_some, Bool.not_true, Bool.not_false, beq_self_eq_true, aExtract, calleeOf, awrap_u8, Bool.true_beq, Bool.false_beq, beq_true, beq_false, decide_true, decide_false, Bool.not_not, Bool.and_true, Bool.true_and, Bool.and_false, Bool.false_and]
    refine KCall.intro (by simp only [beq_dec, fst_mk, snd_mk, VK_skip, VK_ret, VK_exit, VK_seq, VK_block, VK_region, VK_draw, VK_cond, KCond_true, KCond_false, VK_loop, KN_nil, KN_seq, KN_blk, KX_ret_nil, KX_ret_seq, KX_ret_blk, KX_exit_nil, KX_exit_seq, KX_exit_blk, KE_normal, KE_ret, KE_exit, KO_nil, KO_cons, KO_app_cons, KO_app_nil, KO1_true, KO1_false, KO2_true, KO2_false, KO3_some, KO4_some, loopQ_ret, loopQ_exit, wantA, isCall, stepOp, evalO, evalL, evalP, evalM, putDst, flat, cond_true, cond_false, Nat.reduceLT, ↓reduceIte, Trie.get_set, Nat.reduceEqDiff, Nat.one_ne_zero, Nat.zero_ne_one, aBuiltin, abinG, guardFree, abin, aInt, aUn, aNilCheck, retQ, retQ1, aresults, aresultL, aresult, mkF, undefV, reduceCtorEq, List.getElem?_toArray, List.append_eq, List.cons_append, List.nil_append, List.getElem?_cons_zero, List.getElem?_cons_succ, Option.bind_some, Bool.not_true, Bool.not_false, beq_self_eq_true, aExtract, calleeOf, awrap_u8, Bool.true_beq, Bool.false_beq, beq_true, beq_false, decide_true, decide_false, Bool.not_not, Bool.and_true, Bool.true_and, Bool.and_false, Bool.false_and] <;> rfl) ⟨Try.func12, rfl, by decide⟩ (Best_any W0 _ _ _ S3 h25 sk3 S3_small) ?_
    rintro x h26 wf26 ⟨⟨tv, eg, rfl, htv⟩, le26⟩
    rcases htv with ⟨-, rfl, htv⟩ | ⟨hn, -⟩
    rotate_left
    · exact absurd S3_right hn
    have le1926 := ((le20.trans le2024).trans le2425).trans le26
    have le1326 := (le1318.trans le19).trans le1926
    have ow26 := le1326.own _ _ ow13
    have lw0 : aload Try.prog h26 34 ⟨w, 0, none⟩ = some cv := by rw [aload_one Try.underlying34 rfl ow26]; rfl
    have lw1 : aload Try.prog h26 31 ⟨w, 1, none⟩ = some wv := by rw [aload_one Try.underlying31 rfl ow26]; rfl
    have hwant' : GB h19 want (num4 8 ++ bytesM [[97], num4 1, num4 1, [], [98], num4 1, num4 0, []]) := hwant
    generalize hWB : num4 8 ++ bytesM [[97], num4 1, num4 1, [], [98], num4 1, num4 0, []] = WB at *
    have tx1 := (hcv'.rl.le .isB (le13.trans le1326)).text (P := Try.prog) (d := 9) Try.underlying34 Try.underlying5 rfl Try.underlying9
    have tx2 := (hwant'.rl.le .isB le1926).text (P := Try.prog) (d := 9) Try.underlying34 Try.underlying5 rfl Try.underlying9
    obtain ⟨h27, e27, le27, wf27, o27⟩ := alloc_f wf26 [.int .i64 0, .int .i64 1]
    simp only [beq_dec, fst_mk, snd_mk, VK_skip, VK_ret, VK_exit, VK_seq, VK_block, VK_region, VK_draw, VK_cond, KCond_true, KCond_false, VK_loop, KN_nil, KN_seq, KN_blk, KX_ret_nil, KX_ret_seq, KX_ret_blk, KX_exit_nil, KX_exit_seq, KX_exit_blk, KE_normal, KE_ret, KE_exit, KO_nil, KO_cons, KO_app_cons, KO_app_nil, KO1_true, KO1_false, KO2_true, KO2_false, KO3_some, KO4_some, loopQ_ret, loopQ_exit, wantA, isCall, stepOp, evalO, evalL, evalP, evalM, putDst, flat, cond_true, cond_false, Nat.reduceLT, ↓reduceIte, Trie.get_set, Nat.reduceEqDiff, Nat.one_ne_zero, Nat.zero_ne_one, aBuiltin, abinG, guardFree, abin, aInt, aUn, aNilCheck, retQ, retQ1, aresults, aresultL, aresult, mkF, undefV, reduceCtorEq, List.getElem?_toArray, List.append_eq, List.cons_append, List.nil_append, List.getElem?_cons_zero, List.getElem?_cons_succ, Option.bind_some, Bool.not_true, Bool.not_false, beq_self_eq_true, aExtract, calleeOf, awrap_u8, Bool.true_beq, Bool.false_beq, beq_true, beq_false, decide_true, decide_false, Bool.not_not, Bool.and_true, Bool.true_and, Bool.and_false, Bool.false_and, fw0, fw1, aadd, Nat.zero_add, lw0, lw1, tx1, tx2, aStr, mkI2, e27]
    refine KCall.intro (by simp only [beq_dec, fst_mk, snd_mk, VK_skip, VK_ret, VK_exit, VK_seq, VK_block, VK_region, VK_draw, VK_cond, KCond_true, KCond_false, VK_loop, KN_nil, KN_seq, KN_blk, KX_ret_nil, KX_ret_seq, KX_ret_blk, KX_exit_nil, KX_exit_seq, KX_exit_blk, KE_normal, KE_ret, KE_exit, KO_nil, KO_cons, KO_app_cons, KO_app_nil, KO1_true, KO1_false, KO2_true, KO2_false, KO3_some, KO4_some, loopQ_ret, loopQ_exit, wantA, isCall, stepOp, evalO, evalL, evalP, evalM, putDst, flat, cond_true, cond_false, Nat.reduceLT, ↓reduceIte, Trie.get_set, Nat.reduceEqDiff, Nat.one_ne_zero, Nat.zero_ne_one, aBuiltin, abinG, guardFree, abin, aInt, aUn, aNilCheck, retQ, retQ1, aresults, aresultL, aresult, mkF, undefV, reduceCtorEq, List.getElem?_toArray, List.append_eq, List.cons_append, List.nil_append, List.getElem?_cons_zero, List.getElem?_cons_succ, Option.bind_some, Bool.not_true, Bool.not_false, beq_self_eq_true, aExtract, calleeOf, awrap_u8, Bool.true_beq, Bool.false_beq, beq_true, beq_false, decide_true, decide_false, Bool.not_not, Bool.and_true, Bool.true_and, Bool.and_false, Bool.false_and] <;> rfl) ⟨Try.func24, rfl, by decide⟩ (sameInts_any W0 _ _ [0, 1] [0, 1] h27 (hwv'.le .isI ((le13.trans le1326).trans le27)) (RL.ofI (RS.whole o27 rfl)) (by decide)) ?_
    rintro y h28 wf28 ⟨⟨b1, rfl, hb1⟩, rfl⟩
    obtain rfl : b1 = true := hb1.2 rfl
    have le2028 := ((le2024.trans le2425).trans le26).trans le27
    have lbv : aLen Try.prog h28 43 bv = some (.int .i64 2) := by have q := hbv.len h28; rw [S2_best.1] at q; exact q
    have hx1 : ∃ x, (bestM S2)[1]? = some x ∧ x.2 = [0, 1] := by
      have := S2_best.2
      cases hq : (bestM S2)[1]? with
      | none => rw [hq] at this; cases this
      | some x => rw [hq] at this; exact ⟨x, rfl, by simpa using this⟩
    obtain ⟨x1, hx1, hx2⟩ := hx1
    obtain ⟨ad1, pp1, ix1, el1, rd1⟩ := hbv.at hx1
    have ix1'' : aIndexAddr Try.prog 43 bv (.int .i64 1) = some (.pointer (some ad1)) := ix1
    obtain ⟨-, rdo, -⟩ := rd1 h28 le2028
    have ho1 : RL isI h28 pp1.2 [0, 1] := by
      have e := (el1.2.cs.rs).le le2028
      rw [hx2] at e
      exact RL.ofI e
    obtain ⟨h29, e29, le29, wf29, o29⟩ := alloc_f wf28 [.int .i64 0, .int .i64 1]
    have rdo' : aload Try.prog h28 31 (aadd ad1 1) = some pp1.2 := rdo
    simp only [beq_dec, fst_mk, snd_mk, VK_skip, VK_ret, VK_exit, VK_seq, VK_block, VK_region, VK_draw, VK_cond, KCond_true, KCond_false, VK_loop, KN_nil, KN_seq, KN_blk, KX_ret_nil, KX_ret_seq, KX_ret_blk, KX_exit_nil, KX_exit_seq, KX_exit_blk, KE_normal, KE_ret, KE_exit, KO_nil, KO_cons, KO_app_cons, KO_app_nil, KO1_true, KO1_false, KO2_true, KO2_false, KO3_some, KO4_some, loopQ_ret, loopQ_exit, wantA, isCall, stepOp, evalO, evalL, evalP, evalM, putDst, flat, cond_true, cond_false, Nat.reduceLT, ↓reduceIte, Trie.get_set, Nat.reduceEqDiff, Nat.one_ne_zero, Nat.zero_ne_one, aBuiltin, abinG, guardFree, abin, aInt, aUn, aNilCheck, retQ, retQ1, aresults, aresultL, aresult, mkF, undefV, reduceCtorEq, List.getElem?_toArray, List.append_eq, List.cons_append, List.nil_append, List.getElem?_cons_zero, List.getElem?_cons_succ, Option.bind_some, Bool.not_true, Bool.not_false, beq_self_eq_true, aExtract, calleeOf, awrap_u8, Bool.true_beq, Bool.false_beq, beq_true, beq_false, decide_true, decide_false, Bool.not_not, Bool.and_true, Bool.true_and, Bool.and_false, Bool.false_and, lbv, ix1'', fw1, rdo', mkI2, e29]
    refine KCall.intro (by simp only [beq_dec, fst_mk, snd_mk, VK_skip, VK_ret, VK_exit, VK_seq, VK_block, VK_region, VK_draw, VK_cond, KCond_true, KCond_false, VK_loop, KN_nil, KN_seq, KN_blk, KX_ret_nil, KX_ret_seq, KX_ret_blk, KX_exit_nil, KX_exit_seq, KX_exit_blk, KE_normal, KE_ret, KE_exit, KO_nil, KO_cons, KO_app_cons, KO_app_nil, KO1_true, KO1_false, KO2_true, KO2_false, KO3_some, KO4_some, loopQ_ret, loopQ_exit, wantA, isCall, stepOp, evalO, evalL, evalP, evalM, putDst, flat, cond_true, cond_false, Nat.reduceLT, ↓reduceIte, Trie.get_set, Nat.reduceEqDiff, Nat.one_ne_zero, Nat.zero_ne_one, aBuiltin, abinG, guardFree, abin, aInt, aUn, aNilCheck, retQ, retQ1, aresults, aresultL, aresult, mkF, undefV, reduceCtorEq, List.getElem?_toArray, List.append_eq, List.cons_append, List.nil_append, List.getElem?_cons_zero, List.getElem?_cons_succ, Option.bind_some, Bool.not_true, Bool.not_false, beq_self_eq_true, aExtract, calleeOf, awrap_u8, Bool.true_beq, Bool.false_beq, beq_true, beq_false, decide_true, decide_false, Bool.not_not, Bool.and_true, Bool.true_and, Bool.and_false, Bool.false_and] <;> rfl) ⟨Try.func24, rfl, by decide⟩ (sameInts_any W0 _ _ [0, 1] [0, 1] h29 (ho1.le .isI le29) (RL.ofI (RS.whole o29 rfl)) (by decide)) ?_
    rintro y h30 wf30 ⟨⟨b2, rfl, hb2⟩, rfl⟩
    obtain rfl : b2 = true := hb2.2 rfl
    have ltv : aLen Try.prog h30 43 tv = some (.int .i64 12) := by have q := htv.len h30; rw [S3_best] at q; exact q
    simp only [beq_dec, fst_mk, snd_mk, VK_skip, VK_ret, VK_exit, VK_seq, VK_block, VK_region, VK_draw, VK_cond, KCond_true, KCond_false, VK_loop, KN_nil, KN_seq, KN_blk, KX_ret_nil, KX_ret_seq, KX_ret_blk, KX_exit_nil, KX_exit_seq, KX_exit_blk, KE_normal, KE_ret, KE_exit, KO_nil, KO_cons, KO_app_cons, KO_app_nil, KO1_true, KO1_false, KO2_true, KO2_false, KO3_some, KO4_some, loopQ_ret, loopQ_exit, wantA, isCall, stepOp, evalO, evalL, evalP, evalM, putDst, flat, cond_true, cond_false, Nat.reduceLT, ↓reduceIte, Trie.get_set, Nat.reduceEqDiff, Nat.one_ne_zero, Nat.zero_ne_one, aBuiltin, abinG, guardFree, abin, aInt, aUn, aNilCheck, retQ, retQ1, aresults, aresultL, aresult, mkF, undefV, reduceCtorEq, List.getElem?_toArray, List.append_eq, List.cons_append, List.nil_append, List.getElem?_cons_zero, List.getElem?_cons_succ, Option.bind_some, Bool.not_true, Bool.not_false, beq_self_eq_true, aExtract, calleeOf, awrap_u8, Bool.true_beq, Bool.false_beq, beq_true, beq_false, decide_true, decide_false, Bool.not_not, Bool.and_true, Bool.true_and, Bool.and_false, Bool.false_and, ltv]
    exact ⟨trivial, leX.trans (le11.trans (((le13.trans le1326).trans le27).trans le29))⟩
end Go.Fw
