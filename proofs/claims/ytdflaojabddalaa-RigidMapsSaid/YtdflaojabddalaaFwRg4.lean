/- One of the texts of the layer and the walks: it proves what its theorems say of the functions of the seat, with no condition beyond theirs. -/
import Derived.Test.YtdflaojabddalaaFwRg3
import Derived.Test.YtdflaojabddalaaFwRep
set_option linter.unusedSimpArgs false
set_option linter.unusedVariables false
namespace Go.Fw
open Go.Proofs
set_option maxHeartbeats 400000
set_option maxRecDepth 10000

/- where each number stands first in a list -/
def rowM (n : Nat) (c : List Int) : List Int := (List.range n).map fun (w : Nat) => placeM c w
theorem rowM_length (n : Nat) (c : List Int) : (rowM n c).length = n := by simp [rowM]
theorem rowM_nil (n : Nat) : rowM n [] = List.replicate n (-1) := by
  apply List.ext_getElem
  · simp [rowM]
  · intro i h1 h2; simp [rowM, placeM, placeFrom]

theorem placeFrom_snoc (x w : Int) : ∀ (l : List Int) (k : Nat), placeFrom k (l ++ [x]) w = if placeFrom k l w < 0 then (if x = w then ((k + l.length : Nat) : Int) else -1) else placeFrom k l w
  | [], k => by simp [placeFrom]
  | y :: l, k => by
    simp only [List.cons_append, placeFrom]
    by_cases h : y = w
    · have : ¬ ((k : Int) < 0) := by omega
      simp [h, this]
    · simp only [h, if_false, placeFrom_snoc x w l (k + 1), List.length_cons]
      rw [show k + 1 + l.length = k + (l.length + 1) by omega]

theorem rowM_snoc (n : Nat) (l : List Int) (x : Int) : rowM n (l ++ [x]) = if 0 ≤ x ∧ x < n ∧ (rowM n l).getD x.toNat 0 < 0 then (rowM n l).set x.toNat l.length else rowM n l := by
  apply List.ext_getElem
  · split <;> simp [rowM]
  · intro i h1 h2
    have hi : i < n := by simpa [rowM] using h1
    have e1 : (rowM n (l ++ [x]))[i] = placeM (l ++ [x]) i := by simp [rowM]
    have e2 : ∀ (hh : i < (rowM n l).length), (rowM n l)[i] = placeM l i := by intro hh; simp [rowM]
    rw [e1]
    unfold placeM
    rw [placeFrom_snoc]
    have neg : ∀ (l : List Int) (k : Nat) (w : Int), placeFrom k l w < 0 → placeFrom k l w = -1 := by
      intro l
      induction l with
      | nil => intro k w _; rfl
      | cons y l ih =>
        intro k w h
        simp only [placeFrom] at h ⊢
        split
        · rename_i e; rw [if_pos e] at h; omega
        · rename_i e; rw [if_neg e] at h; exact ih _ _ h
    by_cases hx : x = (i : Int)
    · subst hx
      have hg : (rowM n l).getD (i : Int).toNat 0 = placeFrom 0 l i := by
        simp [rowM, placeM, List.getD, hi]
      by_cases hneg : placeFrom 0 l i < 0
      · have hc : 0 ≤ (i : Int) ∧ (i : Int) < n ∧ (rowM n l).getD (i : Int).toNat 0 < 0 := ⟨by omega, by omega, by rw [hg]; exact hneg⟩
        simp only [if_pos hc, if_pos hneg, if_true]
        simp
      · have hc : ¬ (0 ≤ (i : Int) ∧ (i : Int) < n ∧ (rowM n l).getD (i : Int).toNat 0 < 0) := by rw [hg]; omega
        simp only [if_neg hc, if_neg hneg]
        rw [e2]; rfl
    · have hr : ∀ (hh : i < (if 0 ≤ x ∧ x < n ∧ (rowM n l).getD x.toNat 0 < 0 then (rowM n l).set x.toNat l.length else rowM n l).length), (if 0 ≤ x ∧ x < n ∧ (rowM n l).getD x.toNat 0 < 0 then (rowM n l).set x.toNat l.length else rowM n l)[i] = placeFrom 0 l i := by
        intro hh
        split
        · rename_i hc
          rw [List.getElem_set]
          rw [if_neg (by omega)]
          rw [e2]; rfl
        · rw [e2]; rfl
      rw [hr]
      rw [if_neg hx]
      split
      · rename_i h; rw [neg _ _ _ h]
      · rfl

def placesM (r : List (List Int)) : List (List Int) := r.map (rowM r.length)


theorem places_any (W0 : World) (l : Value) (r : List (List Int)) (h : AHeap) (hl : RL (RL isI) h l r) (hr : r.length ≤ 300) (hc : ∀ c ∈ r, c.length ≤ 300) : AC Try.prog W0 35 [l] h fun v h' => (∀ fs : List Nat, (∀ i ∈ fs, h.own i ≠ none) → RL (RL isI) (rem fs h') v (placesM r)) ∧ Le h h' := by
  refine AC.vc (fn := Try.f35) (c := _) ⟨Try.func35, rfl, by decide⟩ Try.ntmps35 Try.results35 (by simp) fun hwf => ?_
  simp only [argFrame, argFrom, Nat.reduceAdd]
  have ll := fun h' => hl.len (P := Try.prog) Try.underlying23 h'
  have mk := aMakeSlice1 (P := Try.prog) (t := 22) (z := .slice none 0 0) h Try.underlying22 rfl rfl rfl rfl (by kernel_rfl) Try.underlying31 (by kernel_rfl) r.length (by omega)
  simp only [beq_dec, fst_mk, snd_mk, VK_skip, VK_ret, VK_exit, VK_seq, VK_block, VK_region, VK_draw, VK_cond, KCond_true, KCond_false, VK_loop, KN_nil, KN_seq, KN_blk, KX_ret_nil, KX_ret_seq, KX_ret_blk, KX_exit_nil, KX_exit_seq, KX_exit_blk, KE_normal, KE_ret, KE_exit, KO_nil, KO_cons, KO_app_cons, KO_app_nil, KO1_true, KO1_false, KO2_true, KO2_false, KO3_some, KO4_some, loopQ_ret, loopQ_exit, wantA, isCall, stepOp, evalO, evalL, evalP, evalM, putDst, flat, cond_true, cond_false, Nat.reduceLT, ↓reduceIte, Trie.get_set, Nat.reduceEqDiff, Nat.one_ne_zero, Nat.zero_ne_one, aBuiltin, abinG, guardFree, abin, aInt, aUn, aNilCheck, retQ, retQ1, aresults, aresultL, aresult, mkF, undefV, reduceCtorEq, List.getElem?_toArray, List.append_eq, List.cons_append, List.nil_append, List.getElem?_cons_zero, List.getElem?_cons_succ, Option.bind_some, Bool.not_true, Bool.not_false, beq_self_eq_true, aExtract, calleeOf, awrap_u8, Bool.true_beq, Bool.false_beq, beq_true, beq_false, decide_true, decide_false, Bool.not_not, Bool.and_true, Bool.true_and, Bool.and_false, Bool.false_and, ll, mk]
  have ho : (h.alloc (.cells (List.replicate r.length (.slice none 0 0)))).own h.next = some (.cells (List.replicate r.length (.slice none 0 0))) := AHeap.own_alloc_eq _ _
  have hle : Le h (h.alloc (.cells (List.replicate r.length (.slice none 0 0)))) := (Le.refl _).alloc hwf _
  have hno : h.own h.next = none := (Le.refl h).next hwf (Nat.le_refl _)
  generalize h.alloc (.cells (List.replicate r.length (.slice none 0 0))) = h1 at *
  refine KLoop.intro (fun k fr hh => ∃ (i : Nat) (us : List Value) (g : AHeap), k = r.length - i ∧ i ≤ r.length ∧ us.length = i ∧ fr = mkF [(0, l), (3, .slice (some ⟨h.next, 0, none⟩) r.length r.length), (11, l), (12, .int .i64 r.length), (13, .int .i64 i)] ∧
      hh.own h.next = some (.cells (us ++ List.replicate (r.length - i) (.slice none 0 0))) ∧ Le h g ∧ Le g hh ∧ g.own h.next = none ∧ ∀ (j : Nat) u c, us[j]? = some u → r[j]? = some c → ∃ b', u = .slice (some ⟨b', 0, none⟩) r.length r.length ∧ h.own b' = none ∧ g.own b' = some (.cells ((rowM r.length c).map (Value.int .i64))))
    r.length [(0, l), (3, .slice (some ⟨h.next, 0, none⟩) r.length r.length), (11, l), (12, .int .i64 r.length), (13, .int .i64 (0 : Nat))] (by simp only [hasAll, beq_dec, fst_mk, snd_mk, VK_skip, VK_ret, VK_exit, VK_seq, VK_block, VK_region, VK_draw, VK_cond, KCond_true, KCond_false, VK_loop, KN_nil, KN_seq, KN_blk, KX_ret_nil, KX_ret_seq, KX_ret_blk, KX_exit_nil, KX_exit_seq, KX_exit_blk, KE_normal, KE_ret, KE_exit, KO_nil, KO_cons, KO_app_cons, KO_app_nil, KO1_true, KO1_false, KO2_true, KO2_false, KO3_some, KO4_some, loopQ_ret, loopQ_exit, wantA, isCall, stepOp, evalO, evalL, evalP, evalM, putDst, flat, cond_true, cond_false, Nat.reduceLT, ↓reduceIte, Trie.get_set, Nat.reduceEqDiff, Nat.one_ne_zero, Nat.zero_ne_one, aBuiltin, abinG, guardFree, abin, aInt, aUn, aNilCheck, retQ, retQ1, aresults, aresultL, aresult, mkF, undefV, reduceCtorEq, List.getElem?_toArray, List.append_eq, List.cons_append, List.nil_append, List.getElem?_cons_zero, List.getElem?_cons_succ, Option.bind_some, Bool.not_true, Bool.not_false, beq_self_eq_true, aExtract, calleeOf, awrap_u8, Bool.true_beq, Bool.false_beq, beq_true, beq_false, decide_true, decide_false, Bool.not_not, Bool.and_true, Bool.true_and, Bool.and_false, Bool.false_and]; simp) ⟨0, [], h, rfl, Nat.zero_le _, rfl, rfl, by simpa using ho, Le.refl h, hle, hno, by simp⟩ ?_
  rintro k fr hh hwh ⟨i, us, g, rfl, hi, hus, rfl, ho, hg1, hg2, hgo, hrow⟩
  simp only [beq_dec, fst_mk, snd_mk, VK_skip, VK_ret, VK_exit, VK_seq, VK_block, VK_region, VK_draw, VK_cond, KCond_true, KCond_false, VK_loop, KN_nil, KN_seq, KN_blk, KX_ret_nil, KX_ret_seq, KX_ret_blk, KX_exit_nil, KX_exit_seq, KX_exit_blk, KE_normal, KE_ret, KE_exit, KO_nil, KO_cons, KO_app_cons, KO_app_nil, KO1_true, KO1_false, KO2_true, KO2_false, KO3_some, KO4_some, loopQ_ret, loopQ_exit, wantA, isCall, stepOp, evalO, evalL, evalP, evalM, putDst, flat, cond_true, cond_false, Nat.reduceLT, ↓reduceIte, Trie.get_set, Nat.reduceEqDiff, Nat.one_ne_zero, Nat.zero_ne_one, aBuiltin, abinG, guardFree, abin, aInt, aUn, aNilCheck, retQ, retQ1, aresults, aresultL, aresult, mkF, undefV, reduceCtorEq, List.getElem?_toArray, List.append_eq, List.cons_append, List.nil_append, List.getElem?_cons_zero, List.getElem?_cons_succ, Option.bind_some, Bool.not_true, Bool.not_false, beq_self_eq_true, aExtract, calleeOf, awrap_u8, Bool.true_beq, Bool.false_beq, beq_true, beq_false, decide_true, decide_false, Bool.not_not, Bool.and_true, Bool.true_and, Bool.and_false, Bool.false_and]
  refine KCond.intro (fun ht => ?_) (fun hf => ?_)
  · have hlt : i < r.length := lt_t ht
    have hlh := hl.le (.RL .isI) (hg1.trans hg2)
    obtain ⟨u, hu1, hu2⟩ := (hl.le (Stays.RL .isI) hg1).load (P := Try.prog) Try.underlying31 rfl i hlt
    have hu1' : aload Try.prog hh 31 (elemAddr l i) = some u := by
      obtain ⟨u', hu1', _⟩ := hlh.load (P := Try.prog) Try.underlying31 rfl i hlt
      rw [aload_flat Try.underlying31 rfl] at hu1 hu1'
      rw [aload_flat Try.underlying31 rfl, hg2.read hu1]
    have ad := hl.addr (P := Try.prog) Try.underlying23 Try.underlying31 (by kernel_rfl) (k := .i64) i hlt
    have hb : aBuildSlice Try.prog hh 31 1 [(0, .int .i64 (-1))] = some (.slice (some ⟨hh.next, 0, none⟩) 1 1, hh.alloc (.cells [.int .i64 (-1)])) := rfl
    simp only [beq_dec, fst_mk, snd_mk, VK_skip, VK_ret, VK_exit, VK_seq, VK_block, VK_region, VK_draw, VK_cond, KCond_true, KCond_false, VK_loop, KN_nil, KN_seq, KN_blk, KX_ret_nil, KX_ret_seq, KX_ret_blk, KX_exit_nil, KX_exit_seq, KX_exit_blk, KE_normal, KE_ret, KE_exit, KO_nil, KO_cons, KO_app_cons, KO_app_nil, KO1_true, KO1_false, KO2_true, KO2_false, KO3_some, KO4_some, loopQ_ret, loopQ_exit, wantA, isCall, stepOp, evalO, evalL, evalP, evalM, putDst, flat, cond_true, cond_false, Nat.reduceLT, ↓reduceIte, Trie.get_set, Nat.reduceEqDiff, Nat.one_ne_zero, Nat.zero_ne_one, aBuiltin, abinG, guardFree, abin, aInt, aUn, aNilCheck, retQ, retQ1, aresults, aresultL, aresult, mkF, undefV, reduceCtorEq, List.getElem?_toArray, List.append_eq, List.cons_append, List.nil_append, List.getElem?_cons_zero, List.getElem?_cons_succ, Option.bind_some, Bool.not_true, Bool.not_false, beq_self_eq_true, aExtract, calleeOf, awrap_u8, Bool.true_beq, Bool.false_beq, beq_true, beq_false, decide_true, decide_false, Bool.not_not, Bool.and_true, Bool.true_and, Bool.and_false, Bool.false_and, ad, hu1', hb, ll]
    have hbl : RL isI (hh.alloc (.cells [.int .i64 (-1)])) (.slice (some ⟨hh.next, 0, none⟩) 1 1) [-1] := RL.ofI (RS.whole (AHeap.own_alloc_eq _ _) rfl)
    have hle1 : Le hh (hh.alloc (.cells [.int .i64 (-1)])) := (Le.refl _).alloc hwh _
    have hnx : hh.next ≤ (hh.alloc (.cells [.int .i64 (-1)])).next := Nat.le_succ _
    generalize hh.alloc (.cells [.int .i64 (-1)]) = hh1 at *
    refine KCall.intro (by simp only [beq_dec, fst_mk, snd_mk, VK_skip, VK_ret, VK_exit, VK_seq, VK_block, VK_region, VK_draw, VK_cond, KCond_true, KCond_false, VK_loop, KN_nil, KN_seq, KN_blk, KX_ret_nil, KX_ret_seq, KX_ret_blk, KX_exit_nil, KX_exit_seq, KX_exit_blk, KE_normal, KE_ret, KE_exit, KO_nil, KO_cons, KO_app_cons, KO_app_nil, KO1_true, KO1_false, KO2_true, KO2_false, KO3_some, KO4_some, loopQ_ret, loopQ_exit, wantA, isCall, stepOp, evalO, evalL, evalP, evalM, putDst, flat, cond_true, cond_false, Nat.reduceLT, ↓reduceIte, Trie.get_set, Nat.reduceEqDiff, Nat.one_ne_zero, Nat.zero_ne_one, aBuiltin, abinG, guardFree, abin, aInt, aUn, aNilCheck, retQ, retQ1, aresults, aresultL, aresult, mkF, undefV, reduceCtorEq, List.getElem?_toArray, List.append_eq, List.cons_append, List.nil_append, List.getElem?_cons_zero, List.getElem?_cons_succ, Option.bind_some, Bool.not_true, Bool.not_false, beq_self_eq_true, aExtract, calleeOf, awrap_u8, Bool.true_beq, Bool.false_beq, beq_true, beq_false, decide_true, decide_false, Bool.not_not, Bool.and_true, Bool.true_and, Bool.and_false, Bool.false_and] <;> rfl) ⟨Try.func42, rfl, by decide⟩ (Repeat_any W0 _ r.length hr hh1 hbl) ?_
    rintro v hh2 hwh2 ⟨b, rfl, hb1, hb2, hle2⟩
    have hlen : (us ++ List.replicate (r.length - i) (Value.slice none 0 0)).length = r.length := by simp; omega
    have ho2 := hle2.own _ _ (hle1.own _ _ ho)
    have hge := hle1.trans hle2
    have hbn : hh.own b = none := (Le.refl hh).next hwh (by omega)
    have hba : b ≠ h.next := by intro e; rw [e, ho] at hbn; cases hbn
    have ix : ∀ k : IntKind, aIndexAddr Try.prog 22 (.slice (some ⟨h.next, 0, none⟩) r.length r.length) (.int k i) = some (.pointer (some ⟨h.next, i, none⟩)) := fun k => by
      rw [aIdx Try.underlying22 Try.underlying31 (by kernel_rfl) i hlt]; simp [aadd]
    have st := aStore1 (P := Try.prog) (t := 31) (x := .slice (some ⟨b, 0, none⟩) r.length r.length) Try.underlying31 (by kernel_rfl) ho2 (off := i) (by rw [hlen]; exact hlt) rfl rfl
    have lu := fun h' => hu2.len (P := Try.prog) Try.underlying31 h'
    simp only [beq_dec, fst_mk, snd_mk, VK_skip, VK_ret, VK_exit, VK_seq, VK_block, VK_region, VK_draw, VK_cond, KCond_true, KCond_false, VK_loop, KN_nil, KN_seq, KN_blk, KX_ret_nil, KX_ret_seq, KX_ret_blk, KX_exit_nil, KX_exit_seq, KX_exit_blk, KE_normal, KE_ret, KE_exit, KO_nil, KO_cons, KO_app_cons, KO_app_nil, KO1_true, KO1_false, KO2_true, KO2_false, KO3_some, KO4_some, loopQ_ret, loopQ_exit, wantA, isCall, stepOp, evalO, evalL, evalP, evalM, putDst, flat, cond_true, cond_false, Nat.reduceLT, ↓reduceIte, Trie.get_set, Nat.reduceEqDiff, Nat.one_ne_zero, Nat.zero_ne_one, aBuiltin, abinG, guardFree, abin, aInt, aUn, aNilCheck, retQ, retQ1, aresults, aresultL, aresult, mkF, undefV, reduceCtorEq, List.getElem?_toArray, List.append_eq, List.cons_append, List.nil_append, List.getElem?_cons_zero, List.getElem?_cons_succ, Option.bind_some, Bool.not_true, Bool.not_false, beq_self_eq_true, aExtract, calleeOf, awrap_u8, Bool.true_beq, Bool.false_beq, beq_true, beq_false, decide_true, decide_false, Bool.not_not, Bool.and_true, Bool.true_and, Bool.and_false, Bool.false_and, ix, st, lu]
    have hset : (us ++ List.replicate (r.length - i) (Value.slice none 0 0)).set i (.slice (some ⟨b, 0, none⟩) r.length r.length) = us ++ .slice (some ⟨b, 0, none⟩) r.length r.length :: List.replicate (r.length - (i + 1)) (Value.slice none 0 0) := by
      rw [List.set_append, if_neg (by omega), hus, Nat.sub_self, show r.length - i = (r.length - (i + 1)) + 1 by omega, List.replicate_succ, List.set_cons_zero]
    rw [hset]
    have ho3 : (hh2.put h.next (.cells (us ++ .slice (some ⟨b, 0, none⟩) r.length r.length :: List.replicate (r.length - (i + 1)) (Value.slice none 0 0)))).own h.next = some (.cells (us ++ .slice (some ⟨b, 0, none⟩) r.length r.length :: List.replicate (r.length - (i + 1)) (Value.slice none 0 0))) := AHeap.own_put_eq _ _ _
    have hb3 : (hh2.put h.next (.cells (us ++ .slice (some ⟨b, 0, none⟩) r.length r.length :: List.replicate (r.length - (i + 1)) (Value.slice none 0 0)))).own b = some (.cells (List.replicate r.length (.int .i64 (-1)))) := by
      rw [AHeap.own_put_ne _ _ _ _ hba]; exact hb2
    have hg3 : Le g (hh2.put h.next (.cells (us ++ .slice (some ⟨b, 0, none⟩) r.length r.length :: List.replicate (r.length - (i + 1)) (Value.slice none 0 0)))) := (hg2.trans hge).put _ hgo
    have hgb : g.own b = none := hg2.none hbn
    have hcl : r[i].length ≤ 300 := hc _ (List.getElem_mem _)
    generalize hh2.put h.next (.cells (us ++ .slice (some ⟨b, 0, none⟩) r.length r.length :: List.replicate (r.length - (i + 1)) (Value.slice none 0 0))) = hh3 at *
    refine KLoop.intro (fun k fr hq => ∃ q : Nat, k = r[i].length - q ∧ q ≤ r[i].length ∧ fr = mkF [(0, l), (3, .slice (some ⟨h.next, 0, none⟩) r.length r.length), (4, .int .i64 i), (11, l), (12, .int .i64 r.length), (13, .int .i64 i), (25, u), (26, .int .i64 r[i].length), (27, .int .i64 q)] ∧
        hq.own h.next = some (.cells (us ++ .slice (some ⟨b, 0, none⟩) r.length r.length :: List.replicate (r.length - (i + 1)) (Value.slice none 0 0))) ∧ hq.own b = some (.cells ((rowM r.length (r[i].take q)).map (Value.int .i64))) ∧ Le g hq)
      r[i].length [(0, l), (3, .slice (some ⟨h.next, 0, none⟩) r.length r.length), (4, .int .i64 i), (11, l), (12, .int .i64 r.length), (13, .int .i64 i), (25, u), (26, .int .i64 r[i].length), (27, .int .i64 (0 : Nat))] (by simp only [hasAll, beq_dec, fst_mk, snd_mk, VK_skip, VK_ret, VK_exit, VK_seq, VK_block, VK_region, VK_draw, VK_cond, KCond_true, KCond_false, VK_loop, KN_nil, KN_seq, KN_blk, KX_ret_nil, KX_ret_seq, KX_ret_blk, KX_exit_nil, KX_exit_seq, KX_exit_blk, KE_normal, KE_ret, KE_exit, KO_nil, KO_cons, KO_app_cons, KO_app_nil, KO1_true, KO1_false, KO2_true, KO2_false, KO3_some, KO4_some, loopQ_ret, loopQ_exit, wantA, isCall, stepOp, evalO, evalL, evalP, evalM, putDst, flat, cond_true, cond_false, Nat.reduceLT, ↓reduceIte, Trie.get_set, Nat.reduceEqDiff, Nat.one_ne_zero, Nat.zero_ne_one, aBuiltin, abinG, guardFree, abin, aInt, aUn, aNilCheck, retQ, retQ1, aresults, aresultL, aresult, mkF, undefV, reduceCtorEq, List.getElem?_toArray, List.append_eq, List.cons_append, List.nil_append, List.getElem?_cons_zero, List.getElem?_cons_succ, Option.bind_some, Bool.not_true, Bool.not_false, beq_self_eq_true, aExtract, calleeOf, awrap_u8, Bool.true_beq, Bool.false_beq, beq_true, beq_false, decide_true, decide_false, Bool.not_not, Bool.and_true, Bool.true_and, Bool.and_false, Bool.false_and]; simp) ⟨0, rfl, Nat.zero_le _, rfl, ho3, by simpa [rowM_nil] using hb3, hg3⟩ ?_
    rintro k fr hq hwq ⟨q, rfl, hqi, rfl, hqa, hqb, hqg⟩
    simp only [beq_dec, fst_mk, snd_mk, VK_skip, VK_ret, VK_exit, VK_seq, VK_block, VK_region, VK_draw, VK_cond, KCond_true, KCond_false, VK_loop, KN_nil, KN_seq, KN_blk, KX_ret_nil, KX_ret_seq, KX_ret_blk, KX_exit_nil, KX_exit_seq, KX_exit_blk, KE_normal, KE_ret, KE_exit, KO_nil, KO_cons, KO_app_cons, KO_app_nil, KO1_true, KO1_false, KO2_true, KO2_false, KO3_some, KO4_some, loopQ_ret, loopQ_exit, wantA, isCall, stepOp, evalO, evalL, evalP, evalM, putDst, flat, cond_true, cond_false, Nat.reduceLT, ↓reduceIte, Trie.get_set, Nat.reduceEqDiff, Nat.one_ne_zero, Nat.zero_ne_one, aBuiltin, abinG, guardFree, abin, aInt, aUn, aNilCheck, retQ, retQ1, aresults, aresultL, aresult, mkF, undefV, reduceCtorEq, List.getElem?_toArray, List.append_eq, List.cons_append, List.nil_append, List.getElem?_cons_zero, List.getElem?_cons_succ, Option.bind_some, Bool.not_true, Bool.not_false, beq_self_eq_true, aExtract, calleeOf, awrap_u8, Bool.true_beq, Bool.false_beq, beq_true, beq_false, decide_true, decide_false, Bool.not_not, Bool.and_true, Bool.true_and, Bool.and_false, Bool.false_and]
    refine KCond.intro (fun ht => ?_) (fun hf => ?_)
    · have hqlt : q < r[i].length := lt_t ht
      have huq := hu2.le .isI hqg
      have ad2 := huq.addr (P := Try.prog) Try.underlying31 Try.underlying3 (by kernel_rfl) (k := .i64) q hqlt
      have ld2 := huq.loadI (P := Try.prog) Try.underlying3 rfl q hqlt
      have hstep := rowM_snoc r.length (r[i].take q) r[i][q]
      rw [show r[i].take q ++ [r[i][q]] = r[i].take (q + 1) from (List.take_succ_eq_append_getElem hqlt).symm, List.length_take, Nat.min_eq_left hqi] at hstep
      generalize r[i][q] = x at *
      by_cases c0 : 0 ≤ x
      rotate_left
      · simp only [beq_dec, fst_mk, snd_mk, VK_skip, VK_ret, VK_exit, VK_seq, VK_block, VK_region, VK_draw, VK_cond, KCond_true, KCond_false, VK_loop, KN_nil, KN_seq, KN_blk, KX_ret_nil, KX_ret_seq, KX_ret_blk, KX_exit_nil, KX_exit_seq, KX_exit_blk, KE_normal, KE_ret, KE_exit, KO_nil, KO_cons, KO_app_cons, KO_app_nil, KO1_true, KO1_false, KO2_true, KO2_false, KO3_some, KO4_some, loopQ_ret, loopQ_exit, wantA, isCall, stepOp, evalO, evalL, evalP, evalM, putDst, flat, cond_true, cond_false, Nat.reduceLT, ↓reduceIte, Trie.get_set, Nat.reduceEqDiff, Nat.one_ne_zero, Nat.zero_ne_one, aBuiltin, abinG, guardFree, abin, aInt, aUn, aNilCheck, retQ, retQ1, aresults, aresultL, aresult, mkF, undefV, reduceCtorEq, List.getElem?_toArray, List.append_eq, List.cons_append, List.nil_append, List.getElem?_cons_zero, List.getElem?_cons_succ, Option.bind_some, Bool.not_true, Bool.not_false, beq_self_eq_true, aExtract, calleeOf, awrap_u8, Bool.true_beq, Bool.false_beq, beq_true, beq_false, decide_true, decide_false, Bool.not_not, Bool.and_true, Bool.true_and, Bool.and_false, Bool.false_and, ad2, ld2, c0, awrap_succ q (by omega)]
        refine loop_again (r[i].length - (q + 1)) [(0, l), (3, .slice (some ⟨h.next, 0, none⟩) r.length r.length), (4, .int .i64 i), (11, l), (12, .int .i64 r.length), (13, .int .i64 i), (25, u), (26, .int .i64 r[i].length), (27, .int .i64 (q + 1 : Nat))] (by omega) (by simp only [hasAll, beq_dec, fst_mk, snd_mk, VK_skip, VK_ret, VK_exit, VK_seq, VK_block, VK_region, VK_draw, VK_cond, KCond_true, KCond_false, VK_loop, KN_nil, KN_seq, KN_blk, KX_ret_nil, KX_ret_seq, KX_ret_blk, KX_exit_nil, KX_exit_seq, KX_exit_blk, KE_normal, KE_ret, KE_exit, KO_nil, KO_cons, KO_app_cons, KO_app_nil, KO1_true, KO1_false, KO2_true, KO2_false, KO3_some, KO4_some, loopQ_ret, loopQ_exit, wantA, isCall, stepOp, evalO, evalL, evalP, evalM, putDst, flat, cond_true, cond_false, Nat.reduceLT, ↓reduceIte, Trie.get_set, Nat.reduceEqDiff, Nat.one_ne_zero, Nat.zero_ne_one, aBuiltin, abinG, guardFree, abin, aInt, aUn, aNilCheck, retQ, retQ1, aresults, aresultL, aresult, mkF, undefV, reduceCtorEq, List.getElem?_toArray, List.append_eq, List.cons_append, List.nil_append, List.getElem?_cons_zero, List.getElem?_cons_succ, Option.bind_some, Bool.not_true, Bool.not_false, beq_self_eq_true, aExtract, calleeOf, awrap_u8, Bool.true_beq, Bool.false_beq, beq_true, beq_false, decide_true, decide_false, Bool.not_not, Bool.and_true, Bool.true_and, Bool.and_false, Bool.false_and]; simp) ⟨q + 1, rfl, hqlt, rfl, hqa, by rw [hstep, if_neg (by omega)]; exact hqb, hqg⟩
      by_cases c1 : x < (r.length : Int)
      rotate_left
      · simp only [beq_dec, fst_mk, snd_mk, VK_skip, VK_ret, VK_exit, VK_seq, VK_block, VK_region, VK_draw, VK_cond, KCond_true, KCond_false, VK_loop, KN_nil, KN_seq, KN_blk, KX_ret_nil, KX_ret_seq, KX_ret_blk, KX_exit_nil, KX_exit_seq, KX_exit_blk, KE_normal, KE_ret, KE_exit, KO_nil, KO_cons, KO_app_cons, KO_app_nil, KO1_true, KO1_false, KO2_true, KO2_false, KO3_some, KO4_some, loopQ_ret, loopQ_exit, wantA, isCall, stepOp, evalO, evalL, evalP, evalM, putDst, flat, cond_true, cond_false, Nat.reduceLT, ↓reduceIte, Trie.get_set, Nat.reduceEqDiff, Nat.one_ne_zero, Nat.zero_ne_one, aBuiltin, abinG, guardFree, abin, aInt, aUn, aNilCheck, retQ, retQ1, aresults, aresultL, aresult, mkF, undefV, reduceCtorEq, List.getElem?_toArray, List.append_eq, List.cons_append, List.nil_append, List.getElem?_cons_zero, List.getElem?_cons_succ, Option.bind_some, Bool.not_true, Bool.not_false, beq_self_eq_true, aExtract, calleeOf, awrap_u8, Bool.true_beq, Bool.false_beq, beq_true, beq_false, decide_true, decide_false, Bool.not_not, Bool.and_true, Bool.true_and, Bool.and_false, Bool.false_and, ad2, ld2, c0, c1, ll, awrap_succ q (by omega)]
        refine loop_again (r[i].length - (q + 1)) [(0, l), (3, .slice (some ⟨h.next, 0, none⟩) r.length r.length), (4, .int .i64 i), (11, l), (12, .int .i64 r.length), (13, .int .i64 i), (25, u), (26, .int .i64 r[i].length), (27, .int .i64 (q + 1 : Nat))] (by omega) (by simp only [hasAll, beq_dec, fst_mk, snd_mk, VK_skip, VK_ret, VK_exit, VK_seq, VK_block, VK_region, VK_draw, VK_cond, KCond_true, KCond_false, VK_loop, KN_nil, KN_seq, KN_blk, KX_ret_nil, KX_ret_seq, KX_ret_blk, KX_exit_nil, KX_exit_seq, KX_exit_blk, KE_normal, KE_ret, KE_exit, KO_nil, KO_cons, KO_app_cons, KO_app_nil, KO1_true, KO1_false, KO2_true, KO2_false, KO3_some, KO4_some, loopQ_ret, loopQ_exit, wantA, isCall, stepOp, evalO, evalL, evalP, evalM, putDst, flat, cond_true, cond_false, Nat.reduceLT, ↓reduceIte, Trie.get_set, Nat.reduceEqDiff, Nat.one_ne_zero, Nat.zero_ne_one, aBuiltin, abinG, guardFree, abin, aInt, aUn, aNilCheck, retQ, retQ1, aresults, aresultL, aresult, mkF, undefV, reduceCtorEq, List.getElem?_toArray, List.append_eq, List.cons_append, List.nil_append, List.getElem?_cons_zero, List.getElem?_cons_succ, Option.bind_some, Bool.not_true, Bool.not_false, beq_self_eq_true, aExtract, calleeOf, awrap_u8, Bool.true_beq, Bool.false_beq, beq_true, beq_false, decide_true, decide_false, Bool.not_not, Bool.and_true, Bool.true_and, Bool.and_false, Bool.false_and]; simp) ⟨q + 1, rfl, hqlt, rfl, hqa, by rw [hstep, if_neg (by omega)]; exact hqb, hqg⟩
      obtain ⟨w, rfl⟩ := Int.eq_ofNat_of_zero_le c0
      have hw : w < r.length := by omega
      have lv : aload Try.prog hq 31 ⟨h.next, i, none⟩ = some (.slice (some ⟨b, 0, none⟩) r.length r.length) := by
        rw [aload_one Try.underlying31 rfl hqa, List.getElem?_append_right (by omega), hus, Nat.sub_self]; rfl
      have iw : aIndexAddr Try.prog 31 (.slice (some ⟨b, 0, none⟩) r.length r.length) (.int .i64 w) = some (.pointer (some ⟨b, w, none⟩)) := by
        rw [aIdx Try.underlying31 Try.underlying3 (by kernel_rfl) w hw]; simp [aadd]
      have hwl : w < (rowM r.length (r[i].take q)).length := by rw [rowM_length]; exact hw
      have lw : aload Try.prog hq 3 ⟨b, w, none⟩ = some (.int .i64 (rowM r.length (r[i].take q))[w]) := by
        rw [aload_one Try.underlying3 rfl hqb, List.getElem?_map, List.getElem?_eq_getElem hwl]; rfl
      have hgd : (rowM r.length (r[i].take q)).getD (w : Int).toNat 0 = (rowM r.length (r[i].take q))[w] := by simp [List.getD, List.getElem?_eq_getElem hwl]
      rw [hgd] at hstep
      by_cases c2 : (rowM r.length (r[i].take q))[w] < 0
      rotate_left
      · simp only [beq_dec, fst_mk, snd_mk, VK_skip, VK_ret, VK_exit, VK_seq, VK_block, VK_region, VK_draw, VK_cond, KCond_true, KCond_false, VK_loop, KN_nil, KN_seq, KN_blk, KX_ret_nil, KX_ret_seq, KX_ret_blk, KX_exit_nil, KX_exit_seq, KX_exit_blk, KE_normal, KE_ret, KE_exit, KO_nil, KO_cons, KO_app_cons, KO_app_nil, KO1_true, KO1_false, KO2_true, KO2_false, KO3_some, KO4_some, loopQ_ret, loopQ_exit, wantA, isCall, stepOp, evalO, evalL, evalP, evalM, putDst, flat, cond_true, cond_false, Nat.reduceLT, ↓reduceIte, Trie.get_set, Nat.reduceEqDiff, Nat.one_ne_zero, Nat.zero_ne_one, aBuiltin, abinG, guardFree, abin, aInt, aUn, aNilCheck, retQ, retQ1, aresults, aresultL, aresult, mkF, undefV, reduceCtorEq, List.getElem?_toArray, List.append_eq, List.cons_append, List.nil_append, List.getElem?_cons_zero, List.getElem?_cons_succ, Option.bind_some, Bool.not_true, Bool.not_false, beq_self_eq_true, aExtract, calleeOf, awrap_u8, Bool.true_beq, Bool.false_beq, beq_true, beq_false, decide_true, decide_false, Bool.not_not, Bool.and_true, Bool.true_and, Bool.and_false, Bool.false_and, ad2, ld2, c0, c1, ll, ix, lv, iw, lw, c2, awrap_succ q (by omega)]
        refine loop_again (r[i].length - (q + 1)) [(0, l), (3, .slice (some ⟨h.next, 0, none⟩) r.length r.length), (4, .int .i64 i), (11, l), (12, .int .i64 r.length), (13, .int .i64 i), (25, u), (26, .int .i64 r[i].length), (27, .int .i64 (q + 1 : Nat))] (by omega) (by simp only [hasAll, beq_dec, fst_mk, snd_mk, VK_skip, VK_ret, VK_exit, VK_seq, VK_block, VK_region, VK_draw, VK_cond, KCond_true, KCond_false, VK_loop, KN_nil, KN_seq, KN_blk, KX_ret_nil, KX_ret_seq, KX_ret_blk, KX_exit_nil, KX_exit_seq, KX_exit_blk, KE_normal, KE_ret, KE_exit, KO_nil, KO_cons, KO_app_cons, KO_app_nil, KO1_true, KO1_false, KO2_true, KO2_false, KO3_some, KO4_some, loopQ_ret, loopQ_exit, wantA, isCall, stepOp, evalO, evalL, evalP, evalM, putDst, flat, cond_true, cond_false, Nat.reduceLT, ↓reduceIte, Trie.get_set, Nat.reduceEqDiff, Nat.one_ne_zero, Nat.zero_ne_one, aBuiltin, abinG, guardFree, abin, aInt, aUn, aNilCheck, retQ, retQ1, aresults, aresultL, aresult, mkF, undefV, reduceCtorEq, List.getElem?_toArray, List.append_eq, List.cons_append, List.nil_append, List.getElem?_cons_zero, List.getElem?_cons_succ, Option.bind_some, Bool.not_true, Bool.not_false, beq_self_eq_true, aExtract, calleeOf, awrap_u8, Bool.true_beq, Bool.false_beq, beq_true, beq_false, decide_true, decide_false, Bool.not_not, Bool.and_true, Bool.true_and, Bool.and_false, Bool.false_and]; simp) ⟨q + 1, rfl, hqlt, rfl, hqa, by rw [hstep, if_neg (by omega)]; exact hqb, hqg⟩
      have st2 := aStore1 (P := Try.prog) (t := 3) (x := .int .i64 q) Try.underlying3 (by kernel_rfl) hqb (off := w) (by rw [List.length_map]; exact hwl) rfl rfl
      simp only [beq_dec, fst_mk, snd_mk, VK_skip, VK_ret, VK_exit, VK_seq, VK_block, VK_region, VK_draw, VK_cond, KCond_true, KCond_false, VK_loop, KN_nil, KN_seq, KN_blk, KX_ret_nil, KX_ret_seq, KX_ret_blk, KX_exit_nil, KX_exit_seq, KX_exit_blk, KE_normal, KE_ret, KE_exit, KO_nil, KO_cons, KO_app_cons, KO_app_nil, KO1_true, KO1_false, KO2_true, KO2_false, KO3_some, KO4_some, loopQ_ret, loopQ_exit, wantA, isCall, stepOp, evalO, evalL, evalP, evalM, putDst, flat, cond_true, cond_false, Nat.reduceLT, ↓reduceIte, Trie.get_set, Nat.reduceEqDiff, Nat.one_ne_zero, Nat.zero_ne_one, aBuiltin, abinG, guardFree, abin, aInt, aUn, aNilCheck, retQ, retQ1, aresults, aresultL, aresult, mkF, undefV, reduceCtorEq, List.getElem?_toArray, List.append_eq, List.cons_append, List.nil_append, List.getElem?_cons_zero, List.getElem?_cons_succ, Option.bind_some, Bool.not_true, Bool.not_false, beq_self_eq_true, aExtract, calleeOf, awrap_u8, Bool.true_beq, Bool.false_beq, beq_true, beq_false, decide_true, decide_false, Bool.not_not, Bool.and_true, Bool.true_and, Bool.and_false, Bool.false_and, ad2, ld2, c0, c1, ll, ix, lv, iw, lw, c2, st2, awrap_succ q (by omega)]
      refine loop_again (r[i].length - (q + 1)) [(0, l), (3, .slice (some ⟨h.next, 0, none⟩) r.length r.length), (4, .int .i64 i), (11, l), (12, .int .i64 r.length), (13, .int .i64 i), (25, u), (26, .int .i64 r[i].length), (27, .int .i64 (q + 1 : Nat))] (by omega) (by simp only [hasAll, beq_dec, fst_mk, snd_mk, VK_skip, VK_ret, VK_exit, VK_seq, VK_block, VK_region, VK_draw, VK_cond, KCond_true, KCond_false, VK_loop, KN_nil, KN_seq, KN_blk, KX_ret_nil, KX_ret_seq, KX_ret_blk, KX_exit_nil, KX_exit_seq, KX_exit_blk, KE_normal, KE_ret, KE_exit, KO_nil, KO_cons, KO_app_cons, KO_app_nil, KO1_true, KO1_false, KO2_true, KO2_false, KO3_some, KO4_some, loopQ_ret, loopQ_exit, wantA, isCall, stepOp, evalO, evalL, evalP, evalM, putDst, flat, cond_true, cond_false, Nat.reduceLT, ↓reduceIte, Trie.get_set, Nat.reduceEqDiff, Nat.one_ne_zero, Nat.zero_ne_one, aBuiltin, abinG, guardFree, abin, aInt, aUn, aNilCheck, retQ, retQ1, aresults, aresultL, aresult, mkF, undefV, reduceCtorEq, List.getElem?_toArray, List.append_eq, List.cons_append, List.nil_append, List.getElem?_cons_zero, List.getElem?_cons_succ, Option.bind_some, Bool.not_true, Bool.not_false, beq_self_eq_true, aExtract, calleeOf, awrap_u8, Bool.true_beq, Bool.false_beq, beq_true, beq_false, decide_true, decide_false, Bool.not_not, Bool.and_true, Bool.true_and, Bool.and_false, Bool.false_and]; simp) ⟨q + 1, rfl, hqlt, rfl, ?_, ?_, hqg.put _ hgb⟩
      · rw [AHeap.own_put_ne _ _ _ _ (Ne.symm hba)]; exact hqa
      · rw [AHeap.own_put_eq, hstep, if_pos ⟨c0, c1, c2⟩, List.map_set]; rfl
    · have hqge : r[i].length ≤ q := lt_f hf
      have hqe : q = r[i].length := by omega
      simp only [beq_dec, fst_mk, snd_mk, VK_skip, VK_ret, VK_exit, VK_seq, VK_block, VK_region, VK_draw, VK_cond, KCond_true, KCond_false, VK_loop, KN_nil, KN_seq, KN_blk, KX_ret_nil, KX_ret_seq, KX_ret_blk, KX_exit_nil, KX_exit_seq, KX_exit_blk, KE_normal, KE_ret, KE_exit, KO_nil, KO_cons, KO_app_cons, KO_app_nil, KO1_true, KO1_false, KO2_true, KO2_false, KO3_some, KO4_some, loopQ_ret, loopQ_exit, wantA, isCall, stepOp, evalO, evalL, evalP, evalM, putDst, flat, cond_true, cond_false, Nat.reduceLT, ↓reduceIte, Trie.get_set, Nat.reduceEqDiff, Nat.one_ne_zero, Nat.zero_ne_one, aBuiltin, abinG, guardFree, abin, aInt, aUn, aNilCheck, retQ, retQ1, aresults, aresultL, aresult, mkF, undefV, reduceCtorEq, List.getElem?_toArray, List.append_eq, List.cons_append, List.nil_append, List.getElem?_cons_zero, List.getElem?_cons_succ, Option.bind_some, Bool.not_true, Bool.not_false, beq_self_eq_true, aExtract, calleeOf, awrap_u8, Bool.true_beq, Bool.false_beq, beq_true, beq_false, decide_true, decide_false, Bool.not_not, Bool.and_true, Bool.true_and, Bool.and_false, Bool.false_and, awrap_succ i (by omega)]
      refine loop_again (r.length - (i + 1)) [(0, l), (3, .slice (some ⟨h.next, 0, none⟩) r.length r.length), (11, l), (12, .int .i64 r.length), (13, .int .i64 (i + 1 : Nat))] (by omega) (by simp only [hasAll, beq_dec, fst_mk, snd_mk, VK_skip, VK_ret, VK_exit, VK_seq, VK_block, VK_region, VK_draw, VK_cond, KCond_true, KCond_false, VK_loop, KN_nil, KN_seq, KN_blk, KX_ret_nil, KX_ret_seq, KX_ret_blk, KX_exit_nil, KX_exit_seq, KX_exit_blk, KE_normal, KE_ret, KE_exit, KO_nil, KO_cons, KO_app_cons, KO_app_nil, KO1_true, KO1_false, KO2_true, KO2_false, KO3_some, KO4_some, loopQ_ret, loopQ_exit, wantA, isCall, stepOp, evalO, evalL, evalP, evalM, putDst, flat, cond_true, cond_false, Nat.reduceLT, ↓reduceIte, Trie.get_set, Nat.reduceEqDiff, Nat.one_ne_zero, Nat.zero_ne_one, aBuiltin, abinG, guardFree, abin, aInt, aUn, aNilCheck, retQ, retQ1, aresults, aresultL, aresult, mkF, undefV, reduceCtorEq, List.getElem?_toArray, List.append_eq, List.cons_append, List.nil_append, List.getElem?_cons_zero, List.getElem?_cons_succ, Option.bind_some, Bool.not_true, Bool.not_false, beq_self_eq_true, aExtract, calleeOf, awrap_u8, Bool.true_beq, Bool.false_beq, beq_true, beq_false, decide_true, decide_false, Bool.not_not, Bool.and_true, Bool.true_and, Bool.and_false, Bool.false_and]; simp) ⟨i + 1, us ++ [.slice (some ⟨b, 0, none⟩) r.length r.length], hq.kill h.next, rfl, hlt, by simp [hus], rfl, by simpa using hqa, (hg1.trans hqg).kill hno, Le.killed _ _, AHeap.own_kill_eq _ _, ?_⟩
      intro j u' c hu' hc'
      have hkg : Le g (hq.kill h.next) := hqg.kill hgo
      by_cases hj : j < i
      · rw [List.getElem?_append_left (by omega)] at hu'
        obtain ⟨b', q1, q2, q3⟩ := hrow j u' c hu' hc'
        exact ⟨b', q1, q2, hkg.own _ _ q3⟩
      · have hji : j = i := by
          have := (List.getElem?_eq_some_iff.1 hu').1
          simp at this; omega
        subst hji
        rw [List.getElem?_append_right (by omega)] at hu'
        simp [hus] at hu'
        subst hu'
        have hce : c = r[j] := by
          rw [List.getElem?_eq_getElem hlt] at hc'; simp at hc'; exact hc'.symm
        subst hce
        refine ⟨b, rfl, hg1.none hgb, ?_⟩
        rw [AHeap.own_kill_ne _ _ _ hba, hqb, hqe, List.take_length]
  · have hge : r.length ≤ i := lt_f hf
    have : i = r.length := by omega
    subst this
    simp only [beq_dec, fst_mk, snd_mk, VK_skip, VK_ret, VK_exit, VK_seq, VK_block, VK_region, VK_draw, VK_cond, KCond_true, KCond_false, VK_loop, KN_nil, KN_seq, KN_blk, KX_ret_nil, KX_ret_seq, KX_ret_blk, KX_exit_nil, KX_exit_seq, KX_exit_blk, KE_normal, KE_ret, KE_exit, KO_nil, KO_cons, KO_app_cons, KO_app_nil, KO1_true, KO1_false, KO2_true, KO2_false, KO3_some, KO4_some, loopQ_ret, loopQ_exit, wantA, isCall, stepOp, evalO, evalL, evalP, evalM, putDst, flat, cond_true, cond_false, Nat.reduceLT, ↓reduceIte, Trie.get_set, Nat.reduceEqDiff, Nat.one_ne_zero, Nat.zero_ne_one, aBuiltin, abinG, guardFree, abin, aInt, aUn, aNilCheck, retQ, retQ1, aresults, aresultL, aresult, mkF, undefV, reduceCtorEq, List.getElem?_toArray, List.append_eq, List.cons_append, List.nil_append, List.getElem?_cons_zero, List.getElem?_cons_succ, Option.bind_some, Bool.not_true, Bool.not_false, beq_self_eq_true, aExtract, calleeOf, awrap_u8, Bool.true_beq, Bool.false_beq, beq_true, beq_false, decide_true, decide_false, Bool.not_not, Bool.and_true, Bool.true_and, Bool.and_false, Bool.false_and]
    refine ⟨fun fs hfs => ⟨us, RS.whole (rem_some.2 ⟨by simpa using ho, fun hm => hfs _ hm hno⟩) hus, by simp [placesM, hus], ?_⟩, hg1.trans hg2⟩
    intro j x u hx hu
    simp only [placesM, List.getElem?_map, Option.map_eq_some_iff] at hx
    obtain ⟨c, hc', rfl⟩ := hx
    obtain ⟨b', rfl, q2, q3⟩ := hrow j u c hu hc'
    exact RL.ofI (RS.whole (rem_some.2 ⟨hg2.own _ _ q3, fun hm => hfs _ hm q2⟩) (by simp [rowM_length]))

end Go.Fw
