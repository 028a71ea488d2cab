/- One of the texts of the layer and the walks: it proves what its theorems say of the functions of the seat, with no condition beyond theirs. -/
import Derived.Test.YtdflaojabddalaaFwRg22
set_option linter.unusedSimpArgs false
set_option linter.unusedVariables false
namespace Go.Fw
open Go.Proofs
set_option maxHeartbeats 400000
set_option maxRecDepth 10000

theorem aAppend_wf {P : Program} {h h' : AHeap} {t xt : TypeId} {v x v' : Value} (hw : WF h) (e : aAppend P h t xt v x = some (v', h')) : WF h' := by
  unfold aAppend at e
  split at e
  · split at e
    · split at e
      · split at e
        · split at e
          · injection e with e; injection e with e1 e2; subst e2; exact hw
          · cases e
        · split at e
          · split at e
            · split at e
              · split at e
                · split at e
                  · injection e with e; injection e with e1 e2; subst e2; exact (hw.kill _).alloc _
                  · cases e
                · cases e
              · cases e
            · cases e
          · split at e
            · split at e
              · split at e
                · rename_i ho
                  split at e
                  · injection e with e; injection e with e1 e2; subst e2; exact hw.put _ (hw.lt ho)
                  · cases e
                · cases e
              · cases e
            · split at e
              · split at e
                · injection e with e; injection e with e1 e2; subst e2; exact hw.alloc _
                · cases e
              · cases e
      · cases e
    · cases e
  · cases e

theorem alloc27 (h : AHeap) : aAlloc Try.prog h 27 = some (.pointer (some ⟨h.next, 0, none⟩), h.alloc (.cells [.slice none 0 0, .slice none 0 0, .slice none 0 0])) := rfl
theorem store27 {h : AHeap} {w n m k : Nat} {x0 y0 z0 x y z : Value} (ho : h.own w = some (.cells [x0, y0, z0])) (hx : isSl x n) (hy : isSl y m) (hz : isSl z k) : aStore Try.prog h 27 (.pointer (some ⟨w, 0, none⟩)) (.agg #[x, y, z]) = some (h.put w (.cells [x, y, z])) := by
  have h1 := hx.one
  have h2 := hy.one
  have h3 := hz.one
  simp [aStore, ho, Value.cells, tsize, putCells, h1, h2, h3]
  rfl
theorem load27 {h : AHeap} {w : Nat} {x y z : Value} (ho : h.own w = some (.cells [x, y, z])) : aload Try.prog h 27 ⟨w, 0, none⟩ = some (.agg #[x, y, z]) := by
  rw [aload_own Try.underlying27 rfl (by kernel_rfl : tsize Try.prog 27 = 3) ho (by simp)]; rfl

def nils (n : Nat) : List Value := List.replicate n (.slice none 0 0)
theorem nils_one (n : Nat) : (nils n).all (·.oneCell') = true := all_rep rfl n
theorem nils_rl {h : AHeap} {v : Value} {n : Nat} (r : RS h v (nils n)) : RL (RL isB) h v (List.replicate n []) :=
  ⟨_, r, by simp [nils], fun i x u hx hu => by
    rw [List.getElem?_replicate] at hx
    rw [nils, List.getElem?_replicate] at hu
    split at hx
    · rename_i hi
      rw [if_pos hi] at hu
      injection hx with hx; injection hu with hu
      subst hx hu; exact RL.nil
    · cases hx⟩

theorem bare_any (W0 : World) (r : Value) (R : List (List Int)) (h : AHeap) (hl : RL (RL isI) h r R) (hr : R.length ≤ 300) (hc : ∀ c ∈ R, c.length ≤ 300) :
    AC Try.prog W0 22 [r] h fun x h' => ∃ ve d, x = .agg #[r, ve, d] ∧ GS 1 h' ve R.length (nils R.length) ∧ RL (RL (RL isB)) (rem (bl ve) h') d (R.map fun c => List.replicate c.length []) ∧ Le h (rem (bl ve) h') := by
  refine AC.vc (fn := Try.f22) (c := _) ⟨Try.func22, rfl, by decide⟩ Try.ntmps22 Try.results22 (by simp) fun hwf => ?_
  simp only [argFrame, argFrom, Nat.reduceAdd]
  have a1 := alloc27 h
  have le1 : Le h (h.alloc (.cells [.slice none 0 0, .slice none 0 0, .slice none 0 0])) := (Le.refl h).alloc hwf _
  have o1 : (h.alloc (.cells [.slice none 0 0, .slice none 0 0, .slice none 0 0])).own h.next = some (.cells [.slice none 0 0, .slice none 0 0, .slice none 0 0]) := AHeap.own_alloc_eq _ _
  have n1 : h.own h.next = none := (Le.refl h).next hwf (Nat.le_refl _)
  have wf1 := hwf.alloc (.cells [.slice none 0 0, .slice none 0 0, .slice none 0 0])
  have hb : ∀ r : Value, ∀ n, isSl r n → aBuild Try.prog 27 [(0, r)] = some (.agg #[r, .slice none 0 0, .slice none 0 0]) := fun r n hr => by obtain ⟨a, c, rfl, _⟩ := hr; kernel_rfl
  simp only [beq_dec, fst_mk, snd_mk, VK_skip, VK_ret, VK_exit, VK_seq, VK_block, VK_region, VK_draw, VK_cond, KCond_true, KCond_false, VK_loop, KN_nil, KN_seq, KN_blk, KX_ret_nil, KX_ret_seq, KX_ret_blk, KX_exit_nil, KX_exit_seq, KX_exit_blk, KE_normal, KE_ret, KE_exit, KO_nil, KO_cons, KO_app_cons, KO_app_nil, KO1_true, KO1_false, KO2_true, KO2_false, KO3_some, KO4_some, loopQ_ret, loopQ_exit, wantA, isCall, stepOp, evalO, evalL, evalP, evalM, putDst, flat, cond_true, cond_false, Nat.reduceLT, ↓reduceIte, Trie.get_set, Nat.reduceEqDiff, Nat.one_ne_zero, Nat.zero_ne_one, aBuiltin, abinG, guardFree, abin, aInt, aUn, aNilCheck, retQ, retQ1, aresults, aresultL, aresult, mkF, undefV, reduceCtorEq, List.getElem?_toArray, List.append_eq, List.cons_append, List.nil_append, List.getElem?_cons_zero, List.getElem?_cons_succ, Option.bind_some, Bool.not_true, Bool.not_false, beq_self_eq_true, aExtract, calleeOf, awrap_u8, Bool.true_beq, Bool.false_beq, beq_true, beq_false, decide_true, decide_false, Bool.not_not, Bool.and_true, Bool.true_and, Bool.and_false, Bool.false_and, a1, hb r _ hl.sl]
  generalize h.alloc (.cells [.slice none 0 0, .slice none 0 0, .slice none 0 0]) = h1 at *
  generalize hw : h.next = w at *
  have a2 := alloc27 h1
  have le2 : Le h1 (h1.alloc (.cells [.slice none 0 0, .slice none 0 0, .slice none 0 0])) := (Le.refl h1).alloc wf1 _
  have o2 : (h1.alloc (.cells [.slice none 0 0, .slice none 0 0, .slice none 0 0])).own h1.next = some (.cells [.slice none 0 0, .slice none 0 0, .slice none 0 0]) := AHeap.own_alloc_eq _ _
  have n2 : h1.own h1.next = none := (Le.refl h1).next wf1 (Nat.le_refl _)
  have s3 := store27 o2 hl.sl nilSl nilSl
  have le3 := le2.put (.cells [r, .slice none 0 0, .slice none 0 0]) n2
  have o3 : ((h1.alloc (.cells [.slice none 0 0, .slice none 0 0, .slice none 0 0])).put h1.next (.cells [r, .slice none 0 0, .slice none 0 0])).own h1.next = some (.cells [r, .slice none 0 0, .slice none 0 0]) := AHeap.own_put_eq _ _ _
  have nr := fun h' => hl.len (P := Try.prog) Try.underlying23 h'
  simp only [beq_dec, fst_mk, snd_mk, VK_skip, VK_ret, VK_exit, VK_seq, VK_block, VK_region, VK_draw, VK_cond, KCond_true, KCond_false, VK_loop, KN_nil, KN_seq, KN_blk, KX_ret_nil, KX_ret_seq, KX_ret_blk, KX_exit_nil, KX_exit_seq, KX_exit_blk, KE_normal, KE_ret, KE_exit, KO_nil, KO_cons, KO_app_cons, KO_app_nil, KO1_true, KO1_false, KO2_true, KO2_false, KO3_some, KO4_some, loopQ_ret, loopQ_exit, wantA, isCall, stepOp, evalO, evalL, evalP, evalM, putDst, flat, cond_true, cond_false, Nat.reduceLT, ↓reduceIte, Trie.get_set, Nat.reduceEqDiff, Nat.one_ne_zero, Nat.zero_ne_one, aBuiltin, abinG, guardFree, abin, aInt, aUn, aNilCheck, retQ, retQ1, aresults, aresultL, aresult, mkF, undefV, reduceCtorEq, List.getElem?_toArray, List.append_eq, List.cons_append, List.nil_append, List.getElem?_cons_zero, List.getElem?_cons_succ, Option.bind_some, Bool.not_true, Bool.not_false, beq_self_eq_true, aExtract, calleeOf, awrap_u8, Bool.true_beq, Bool.false_beq, beq_true, beq_false, decide_true, decide_false, Bool.not_not, Bool.and_true, Bool.true_and, Bool.and_false, Bool.false_and, a2, s3, nr]
  generalize (h1.alloc (.cells [.slice none 0 0, .slice none 0 0, .slice none 0 0])).put h1.next (.cells [r, .slice none 0 0, .slice none 0 0]) = h3 at *
  generalize hbb : h1.next = b at *
  refine KLoop.intro (fun k fr hh => ∃ (i : Nat) (ve d : Value) (ds : List Value) (g : AHeap), k = R.length - i ∧ i ≤ R.length ∧ fr = mkF [(2, .pointer (some ⟨w, 0, none⟩)), (3, .pointer (some ⟨b, 0, none⟩)), (8, r), (9, .int .i64 R.length), (10, .int .i64 i)] ∧
      hh.own b = some (.cells [r, ve, d]) ∧ GS 1 hh ve i (nils i) ∧ GS 1 hh d i ds ∧ ds.all (·.oneCell') = true ∧ hh.own w = some (.cells [.slice none 0 0, .slice none 0 0, .slice none 0 0]) ∧ blk ve ≠ some w ∧ blk d ≠ some w ∧ g.own w = none ∧ Le h g ∧ Le g hh ∧ g.own b = none ∧ Apart g ve ∧ Apart g d ∧ blk ve ≠ some b ∧ blk d ≠ some b ∧ (∀ q, blk ve = some q → blk d ≠ some q) ∧
      ∀ (j : Nat) u c, ds[j]? = some u → R[j]? = some c → RL (RL isB) g u (List.replicate c.length []))
    R.length [(2, .pointer (some ⟨w, 0, none⟩)), (3, .pointer (some ⟨b, 0, none⟩)), (8, r), (9, .int .i64 R.length), (10, .int .i64 (0 : Nat))] (by simp only [hasAll, beq_dec, fst_mk, snd_mk, VK_skip, VK_ret, VK_exit, VK_seq, VK_block, VK_region, VK_draw, VK_cond, KCond_true, KCond_false, VK_loop, KN_nil, KN_seq, KN_blk, KX_ret_nil, KX_ret_seq, KX_ret_blk, KX_exit_nil, KX_exit_seq, KX_exit_blk, KE_normal, KE_ret, KE_exit, KO_nil, KO_cons, KO_app_cons, KO_app_nil, KO1_true, KO1_false, KO2_true, KO2_false, KO3_some, KO4_some, loopQ_ret, loopQ_exit, wantA, isCall, stepOp, evalO, evalL, evalP, evalM, putDst, flat, cond_true, cond_false, Nat.reduceLT, ↓reduceIte, Trie.get_set, Nat.reduceEqDiff, Nat.one_ne_zero, Nat.zero_ne_one, aBuiltin, abinG, guardFree, abin, aInt, aUn, aNilCheck, retQ, retQ1, aresults, aresultL, aresult, mkF, undefV, reduceCtorEq, List.getElem?_toArray, List.append_eq, List.cons_append, List.nil_append, List.getElem?_cons_zero, List.getElem?_cons_succ, Option.bind_some, Bool.not_true, Bool.not_false, beq_self_eq_true, aExtract, calleeOf, awrap_u8, Bool.true_beq, Bool.false_beq, beq_true, beq_false, decide_true, decide_false, Bool.not_not, Bool.and_true, Bool.true_and, Bool.and_false, Bool.false_and]; simp)
    ⟨0, .slice none 0 0, .slice none 0 0, [], h, rfl, Nat.zero_le _, rfl, o3, .nil 1 _, .nil 1 _, rfl, le3.own _ _ o1, by simp [blk], by simp [blk], n1, Le.refl _, le1.trans le3, le1.none n2, fun q hq => by (simp [blk] at hq), fun q hq => by (simp [blk] at hq), by simp [blk], by simp [blk], fun q hq => by (simp [blk] at hq), by simp⟩ ?_
  rintro k fr hh hwh ⟨i, ve, d, ds, g, rfl, hi, rfl, ob, gve, gd, hd1, ow, nvw, ndw, gw, hg1, hg2, gb, ape, apd, nve, nd, nvd, hrow⟩
  simp only [beq_dec, fst_mk, snd_mk, VK_skip, VK_ret, VK_exit, VK_seq, VK_block, VK_region, VK_draw, VK_cond, KCond_true, KCond_false, VK_loop, KN_nil, KN_seq, KN_blk, KX_ret_nil, KX_ret_seq, KX_ret_blk, KX_exit_nil, KX_exit_seq, KX_exit_blk, KE_normal, KE_ret, KE_exit, KO_nil, KO_cons, KO_app_cons, KO_app_nil, KO1_true, KO1_false, KO2_true, KO2_false, KO3_some, KO4_some, loopQ_ret, loopQ_exit, wantA, isCall, stepOp, evalO, evalL, evalP, evalM, putDst, flat, cond_true, cond_false, Nat.reduceLT, ↓reduceIte, Trie.get_set, Nat.reduceEqDiff, Nat.one_ne_zero, Nat.zero_ne_one, aBuiltin, abinG, guardFree, abin, aInt, aUn, aNilCheck, retQ, retQ1, aresults, aresultL, aresult, mkF, undefV, reduceCtorEq, List.getElem?_toArray, List.append_eq, List.cons_append, List.nil_append, List.getElem?_cons_zero, List.getElem?_cons_succ, Option.bind_some, Bool.not_true, Bool.not_false, beq_self_eq_true, aExtract, calleeOf, awrap_u8, Bool.true_beq, Bool.false_beq, beq_true, beq_false, decide_true, decide_false, Bool.not_not, Bool.and_true, Bool.true_and, Bool.and_false, Bool.false_and]
  refine KCond.intro (fun ht => ?_) (fun hf => ?_)
  rotate_left
  · have hge : R.length ≤ i := lt_f hf
    have hie : i = R.length := by omega
    subst hie
    have s4 := store27 ow hl.sl gve.cs.sl gd.cs.sl
    simp only [beq_dec, fst_mk, snd_mk, VK_skip, VK_ret, VK_exit, VK_seq, VK_block, VK_region, VK_draw, VK_cond, KCond_true, KCond_false, VK_loop, KN_nil, KN_seq, KN_blk, KX_ret_nil, KX_ret_seq, KX_ret_blk, KX_exit_nil, KX_exit_seq, KX_exit_blk, KE_normal, KE_ret, KE_exit, KO_nil, KO_cons, KO_app_cons, KO_app_nil, KO1_true, KO1_false, KO2_true, KO2_false, KO3_some, KO4_some, loopQ_ret, loopQ_exit, wantA, isCall, stepOp, evalO, evalL, evalP, evalM, putDst, flat, cond_true, cond_false, Nat.reduceLT, ↓reduceIte, Trie.get_set, Nat.reduceEqDiff, Nat.one_ne_zero, Nat.zero_ne_one, aBuiltin, abinG, guardFree, abin, aInt, aUn, aNilCheck, retQ, retQ1, aresults, aresultL, aresult, mkF, undefV, reduceCtorEq, List.getElem?_toArray, List.append_eq, List.cons_append, List.nil_append, List.getElem?_cons_zero, List.getElem?_cons_succ, Option.bind_some, Bool.not_true, Bool.not_false, beq_self_eq_true, aExtract, calleeOf, awrap_u8, Bool.true_beq, Bool.false_beq, beq_true, beq_false, decide_true, decide_false, Bool.not_not, Bool.and_true, Bool.true_and, Bool.and_false, Bool.false_and, load27 ob, s4, load27 (h := hh.put w (.cells [r, ve, d])) (AHeap.own_put_eq _ _ _)]
    have hle : Le g (rem (bl ve) (hh.put w (.cells [r, ve, d]))) := (hg2.put _ gw).of_none fun q hq => ape q (mem_bl.1 hq)
    refine ⟨ve, d, rfl, gve.put _ nvw, ?_, hg1.trans hle⟩
    have gd2 := (gd.put (.cells [r, ve, d]) ndw).to_rem (l := bl ve) fun q hq hm => nvd q (mem_bl.1 hm) hq
    refine ⟨ds, gd2.cs.rs, ?_, fun j x u hx hu => ?_⟩
    · have := gd.1; simp at this; simp [this]
    · rw [List.getElem?_map] at hx
      cases hRj : R[j]? with
      | none => rw [hRj] at hx; cases hx
      | some c =>
        rw [hRj] at hx; injection hx with hx; subst hx
        exact (hrow j u c hu hRj).le (.RL .isB) hle
  have hilt : i < R.length := lt_t ht
  obtain ⟨u, hu1, hu2⟩ := hl.load' (P := Try.prog) Try.underlying31 rfl i hilt
  have ad := hl.addr (P := Try.prog) Try.underlying23 Try.underlying31 (by kernel_rfl) (k := .i64) i hilt
  have lu := fun h' => hu2.len (P := Try.prog) Try.underlying31 h'
  have hul : R[i].length ≤ 300 := hc _ (List.getElem_mem _)
  have lve : aload Try.prog hh 24 ⟨b, 1, none⟩ = some ve := by rw [aload_one Try.underlying24 rfl ob]; rfl
  simp only [beq_dec, fst_mk, snd_mk, VK_skip, VK_ret, VK_exit, VK_seq, VK_block, VK_region, VK_draw, VK_cond, KCond_true, KCond_false, VK_loop, KN_nil, KN_seq, KN_blk, KX_ret_nil, KX_ret_seq, KX_ret_blk, KX_exit_nil, KX_exit_seq, KX_exit_blk, KE_normal, KE_ret, KE_exit, KO_nil, KO_cons, KO_app_cons, KO_app_nil, KO1_true, KO1_false, KO2_true, KO2_false, KO3_some, KO4_some, loopQ_ret, loopQ_exit, wantA, isCall, stepOp, evalO, evalL, evalP, evalM, putDst, flat, cond_true, cond_false, Nat.reduceLT, ↓reduceIte, Trie.get_set, Nat.reduceEqDiff, Nat.one_ne_zero, Nat.zero_ne_one, aBuiltin, abinG, guardFree, abin, aInt, aUn, aNilCheck, retQ, retQ1, aresults, aresultL, aresult, mkF, undefV, reduceCtorEq, List.getElem?_toArray, List.append_eq, List.cons_append, List.nil_append, List.getElem?_cons_zero, List.getElem?_cons_succ, Option.bind_some, Bool.not_true, Bool.not_false, beq_self_eq_true, aExtract, calleeOf, awrap_u8, Bool.true_beq, Bool.false_beq, beq_true, beq_false, decide_true, decide_false, Bool.not_not, Bool.and_true, Bool.true_and, Bool.and_false, Bool.false_and, ad, hu1 _ (hg1.trans hg2), fld1, fld2, aadd, Nat.zero_add, lve]
  -- one colour more
  have e4 : aBuildSlice Try.prog hh 24 1 [(0, .slice none 0 0)] = some (.slice (some ⟨hh.next, 0, none⟩) 1 1, hh.alloc (.cells [.slice none 0 0])) := rfl
  have le4 : Le hh (hh.alloc (.cells [.slice none 0 0])) := (Le.refl hh).alloc hwh _
  have o4 : (hh.alloc (.cells [.slice none 0 0])).own hh.next = some (.cells [.slice none 0 0]) := AHeap.own_alloc_eq _ _
  have wf4 := hwh.alloc (.cells [.slice none 0 0])
  generalize hh.alloc (.cells [.slice none 0 0]) = h4 at *
  obtain ⟨ve', h5, e5, gve5, hf5⟩ := (gve.le le4).push (P := Try.prog) (t := 24) (by kernel_rfl) o4 (nils_one i) rfl (by omega)
  have keep5 : ∀ {q : Nat} {o : AObj}, hh.own q = some o → blk ve ≠ some q → h5.own q = some o ∧ blk ve' ≠ some q := fun ho hb => keep_own hf5 wf4 (le4.own _ _ ho) hb
  obtain ⟨ob5, nve5⟩ := keep5 ob nve
  obtain ⟨ow5, nvw5⟩ := keep5 ow nvw
  obtain ⟨g5, ape5⟩ := hf5 g wf4 (hg2.trans le4) ape
  have nils_s : nils i ++ [.slice none 0 0] = nils (i + 1) := by simp [nils, List.replicate_succ']
  rw [nils_s] at gve5
  have gd5 : GS 1 h5 d i ds ∧ ∀ q, blk ve' = some q → blk d ≠ some q := by
    constructor
    · obtain ⟨hl', q | ⟨id, c, cap, rfl, ho, rr⟩⟩ := gd
      · exact ⟨hl', .inl q⟩
      · exact ⟨hl', .inr ⟨id, c, cap, rfl, (keep5 ho (fun e => nvd id e rfl)).1, rr⟩⟩
    · intro q hq hd
      obtain ⟨o, ho⟩ := Option.ne_none_iff_exists'.1 (gd.blk_own hd)
      exact (keep5 ho (fun e => nvd q e hd)).2 hq
  have st5 := aStore1 (P := Try.prog) (t := 24) (x := ve') Try.underlying24 (by kernel_rfl) ob5 (off := 1) (by simp) (by obtain ⟨_, _, rfl, _⟩ := gve5.cs.sl; rfl) gve5.cs.sl.one
  simp only [List.set_cons_succ, List.set_cons_zero] at st5
  simp only [beq_dec, fst_mk, snd_mk, VK_skip, VK_ret, VK_exit, VK_seq, VK_block, VK_region, VK_draw, VK_cond, KCond_true, KCond_false, VK_loop, KN_nil, KN_seq, KN_blk, KX_ret_nil, KX_ret_seq, KX_ret_blk, KX_exit_nil, KX_exit_seq, KX_exit_blk, KE_normal, KE_ret, KE_exit, KO_nil, KO_cons, KO_app_cons, KO_app_nil, KO1_true, KO1_false, KO2_true, KO2_false, KO3_some, KO4_some, loopQ_ret, loopQ_exit, wantA, isCall, stepOp, evalO, evalL, evalP, evalM, putDst, flat, cond_true, cond_false, Nat.reduceLT, ↓reduceIte, Trie.get_set, Nat.reduceEqDiff, Nat.one_ne_zero, Nat.zero_ne_one, aBuiltin, abinG, guardFree, abin, aInt, aUn, aNilCheck, retQ, retQ1, aresults, aresultL, aresult, mkF, undefV, reduceCtorEq, List.getElem?_toArray, List.append_eq, List.cons_append, List.nil_append, List.getElem?_cons_zero, List.getElem?_cons_succ, Option.bind_some, Bool.not_true, Bool.not_false, beq_self_eq_true, aExtract, calleeOf, awrap_u8, Bool.true_beq, Bool.false_beq, beq_true, beq_false, decide_true, decide_false, Bool.not_not, Bool.and_true, Bool.true_and, Bool.and_false, Bool.false_and, e4, e5, fld1, aadd, Nat.zero_add, st5]
  have hbw : b ≠ w := fun e => by rw [e] at n2; rw [o1] at n2; cases n2
  have o6 : (h5.put b (.cells [r, ve', d])).own b = some (.cells [r, ve', d]) := AHeap.own_put_eq _ _ _
  have ow6 : (h5.put b (.cells [r, ve', d])).own w = some (.cells [.slice none 0 0, .slice none 0 0, .slice none 0 0]) := by rw [AHeap.own_put_ne _ _ _ _ (Ne.symm hbw)]; exact ow5
  have g6 := g5.put (.cells [r, ve', d]) gb
  have gve6 := gve5.put (.cells [r, ve', d]) nve5
  have gd6 := gd5.1.put (.cells [r, ve', d]) nd
  have nvd6 := gd5.2
  have wf6 : WF (h5.put b (.cells [r, ve', d])) := by
    have hw5 : WF h5 := aAppend_wf wf4 e5
    exact hw5.put _ (hw5.lt ob5)
  generalize h5.put b (.cells [r, ve', d]) = h6 at *
  -- as many colours of darts
  have l6 : aload Try.prog h6 25 ⟨b, 2, none⟩ = some d := by rw [aload_one Try.underlying25 rfl o6]; rfl
  have e7 := aMakeSlice1 (P := Try.prog) (t := 24) (z := .slice none 0 0) h6 Try.underlying24 rfl rfl rfl rfl (by kernel_rfl) Try.underlying34 (by kernel_rfl) R[i].length (by omega)
  have le7 : Le h6 (h6.alloc (.cells (List.replicate R[i].length (.slice none 0 0)))) := (Le.refl h6).alloc wf6 _
  have o7 : (h6.alloc (.cells (List.replicate R[i].length (.slice none 0 0)))).own h6.next = some (.cells (List.replicate R[i].length (.slice none 0 0))) := AHeap.own_alloc_eq _ _
  have n6 : h6.own h6.next = none := (Le.refl h6).next wf6 (Nat.le_refl _)
  have wf7 := wf6.alloc (.cells (List.replicate R[i].length (.slice none 0 0)))
  generalize h6.alloc (.cells (List.replicate R[i].length (.slice none 0 0))) = h7 at *
  generalize hc7 : h6.next = c at *
  have e8 : aBuildSlice Try.prog h7 25 1 [(0, .slice (some ⟨c, 0, none⟩) R[i].length R[i].length)] = some (.slice (some ⟨h7.next, 0, none⟩) 1 1, h7.alloc (.cells [.slice (some ⟨c, 0, none⟩) R[i].length R[i].length])) := by kernel_rfl
  have le8 : Le h7 (h7.alloc (.cells [.slice (some ⟨c, 0, none⟩) R[i].length R[i].length])) := (Le.refl h7).alloc wf7 _
  have o8 : (h7.alloc (.cells [.slice (some ⟨c, 0, none⟩) R[i].length R[i].length])).own h7.next = some (.cells [.slice (some ⟨c, 0, none⟩) R[i].length R[i].length]) := AHeap.own_alloc_eq _ _
  have wf8 := wf7.alloc (.cells [.slice (some ⟨c, 0, none⟩) R[i].length R[i].length])
  generalize h7.alloc (.cells [.slice (some ⟨c, 0, none⟩) R[i].length R[i].length]) = h8 at *
  obtain ⟨d', h9, e9, gd9, hf9⟩ := (gd6.le (le7.trans le8)).push (P := Try.prog) (t := 25) (by kernel_rfl) o8 hd1 rfl (by omega)
  have keep9 : ∀ {q : Nat} {o : AObj}, h8.own q = some o → blk d ≠ some q → h9.own q = some o ∧ blk d' ≠ some q := fun ho hb => keep_own hf9 wf8 ho hb
  have o68 := (le7.trans le8).own _ _ o6
  obtain ⟨ob9, nd9⟩ := keep9 o68 nd
  obtain ⟨ow9, ndw9⟩ := keep9 ((le7.trans le8).own _ _ ow6) ndw
  have hdc : blk d ≠ some c := fun e => gd6.blk_own e n6
  obtain ⟨oc9, ndc9⟩ := keep9 (le8.own _ _ o7) hdc
  obtain ⟨g9, apd9⟩ := hf9 g wf8 ((g6.trans le7).trans le8) apd
  have gve9 : GS 1 h9 ve' (i + 1) (nils (i + 1)) ∧ ∀ q, blk ve' = some q → blk d' ≠ some q := by
    constructor
    · obtain ⟨hl', q | ⟨id, cc, cap, rfl, ho, rr⟩⟩ := gve6
      · exact ⟨hl', .inl q⟩
      · exact ⟨hl', .inr ⟨id, cc, cap, rfl, (keep9 ((le7.trans le8).own _ _ ho) (nvd6 id rfl)).1, rr⟩⟩
    · intro q hq
      obtain ⟨o, ho⟩ := Option.ne_none_iff_exists'.1 (gve6.blk_own hq)
      exact (keep9 ((le7.trans le8).own _ _ ho) (nvd6 q hq)).2
  have st9 := aStore1 (P := Try.prog) (t := 25) (x := d') Try.underlying25 (by kernel_rfl) ob9 (off := 2) (by simp) (by obtain ⟨_, _, rfl, _⟩ := gd9.cs.sl; rfl) gd9.cs.sl.one
  simp only [List.set_cons_succ, List.set_cons_zero] at st9
  have l7 : aload Try.prog h7 25 ⟨b, 2, none⟩ = some d := by rw [aload_one Try.underlying25 rfl (le7.own _ _ o6)]; rfl
  have l8 : aload Try.prog h8 25 ⟨b, 2, none⟩ = some d := by rw [aload_one Try.underlying25 rfl o68]; rfl
  have l9 : aload Try.prog h9 25 ⟨b, 2, none⟩ = some d := by rw [aload_one Try.underlying25 rfl ob9]; rfl
  refine KDraw.intro mixed (.fl 0 (.fl 1 (.fl 2 (.fl 3 (.ch 4 [3] (.ch 5 [4] (.ch 6 [1, 5] (.fl 7 (.ch 8 [0, 1, 2, 3, 4, 5, 6, 7] (.done) .no)) .no) .no) .no))))) (by kernel_rfl) ?_
  simp only [beq_dec, fst_mk, snd_mk, VK_skip, VK_ret, VK_exit, VK_seq, VK_block, VK_region, VK_draw, VK_cond, KCond_true, KCond_false, VK_loop, KN_nil, KN_seq, KN_blk, KX_ret_nil, KX_ret_seq, KX_ret_blk, KX_exit_nil, KX_exit_seq, KX_exit_blk, KE_normal, KE_ret, KE_exit, KO_nil, KO_cons, KO_app_cons, KO_app_nil, KO1_true, KO1_false, KO2_true, KO2_false, KO3_some, KO4_some, loopQ_ret, loopQ_exit, wantA, isCall, stepOp, evalO, evalL, evalP, evalM, putDst, flat, cond_true, cond_false, Nat.reduceLT, ↓reduceIte, Trie.get_set, Nat.reduceEqDiff, Nat.one_ne_zero, Nat.zero_ne_one, aBuiltin, abinG, guardFree, abin, aInt, aUn, aNilCheck, retQ, retQ1, aresults, aresultL, aresult, mkF, undefV, reduceCtorEq, List.getElem?_toArray, List.append_eq, List.cons_append, List.nil_append, List.getElem?_cons_zero, List.getElem?_cons_succ, Option.bind_some, Bool.not_true, Bool.not_false, beq_self_eq_true, aExtract, calleeOf, awrap_u8, Bool.true_beq, Bool.false_beq, beq_true, beq_false, decide_true, decide_false, Bool.not_not, Bool.and_true, Bool.true_and, Bool.and_false, Bool.false_and, Nat.reduceBEq, Bool.or_self, Bool.false_eq_true, KD_done, KD_no, KD_fl, KF1_some, KF2_true, KF2_false, KF3_some, KF4_some, KD_ch, KG1_some, KG2_true, KG2_false, KG3_true, KG3_false, KG4_some, KG5_some, HoldsAll, Holds_eq, H1_some, H2_true, H2_false, H3_some, HD_some, HD_none, List.filter_nil, List.filter_cons, List.contains_cons, List.contains_nil, Bool.or_false, Bool.false_or, Bool.true_or, Bool.or_true, true_and, and_true, fld2, aadd, Nat.zero_add, l6, lu, e7, e8, e9, st9, l7, l8, l9, awrap_succ i (by omega)]
  -- the rows
  have hcb : c ≠ b := fun e => by rw [e] at n6; rw [o6] at n6; cases n6
  have hcw : c ≠ w := fun e => by rw [e] at n6; rw [ow6] at n6; cases n6
  have hcv : blk ve' ≠ some c := fun e => gve6.blk_own e n6
  have gc : g.own c = none := g6.none n6
  refine loop_again (R.length - (i + 1)) [(2, .pointer (some ⟨w, 0, none⟩)), (3, .pointer (some ⟨b, 0, none⟩)), (8, r), (9, .int .i64 R.length), (10, .int .i64 (i + 1 : Nat))] (by omega) (by simp only [hasAll, beq_dec, fst_mk, snd_mk, VK_skip, VK_ret, VK_exit, VK_seq, VK_block, VK_region, VK_draw, VK_cond, KCond_true, KCond_false, VK_loop, KN_nil, KN_seq, KN_blk, KX_ret_nil, KX_ret_seq, KX_ret_blk, KX_exit_nil, KX_exit_seq, KX_exit_blk, KE_normal, KE_ret, KE_exit, KO_nil, KO_cons, KO_app_cons, KO_app_nil, KO1_true, KO1_false, KO2_true, KO2_false, KO3_some, KO4_some, loopQ_ret, loopQ_exit, wantA, isCall, stepOp, evalO, evalL, evalP, evalM, putDst, flat, cond_true, cond_false, Nat.reduceLT, ↓reduceIte, Trie.get_set, Nat.reduceEqDiff, Nat.one_ne_zero, Nat.zero_ne_one, aBuiltin, abinG, guardFree, abin, aInt, aUn, aNilCheck, retQ, retQ1, aresults, aresultL, aresult, mkF, undefV, reduceCtorEq, List.getElem?_toArray, List.append_eq, List.cons_append, List.nil_append, List.getElem?_cons_zero, List.getElem?_cons_succ, Option.bind_some, Bool.not_true, Bool.not_false, beq_self_eq_true, aExtract, calleeOf, awrap_u8, Bool.true_beq, Bool.false_beq, beq_true, beq_false, decide_true, decide_false, Bool.not_not, Bool.and_true, Bool.true_and, Bool.and_false, Bool.false_and]; simp)
    ⟨i + 1, ve', d', ds ++ [.slice (some ⟨c, 0, none⟩) R[i].length R[i].length], g.put c (.cells (nils R[i].length)), rfl, hilt, rfl, AHeap.own_put_eq _ _ _, gve9.1.put _ nve5, gd9.put _ nd9, by simp [hd1]; rfl,
      by rw [AHeap.own_put_ne _ _ _ _ (Ne.symm hbw)]; exact ow9, nvw5, ndw9, by rw [AHeap.own_put_ne _ _ _ _ (Ne.symm hcw)]; exact gw, hg1.put _ (hg1.none gc), ?_, by rw [AHeap.own_put_ne _ _ _ _ (Ne.symm hcb)]; exact gb, ?_, ?_, nve5, nd9, gve9.2, ?_⟩
  · refine ⟨g9.ext, fun q o hq => ?_⟩
    rw [own_put] at hq
    split at hq
    · rename_i e; subst e; injection hq with hq; subst hq
      rw [AHeap.own_put_ne _ _ _ _ hcb]; exact oc9
    · rw [AHeap.own_put_ne _ _ _ _ (fun e => by rw [e, gb] at hq; cases hq)]; exact g9.own _ _ hq
  · intro q hq
    rw [AHeap.own_put_ne _ _ _ _ (fun e => hcv (by rw [← e]; exact hq))]; exact ape5 q hq
  · intro q hq
    rw [AHeap.own_put_ne _ _ _ _ (fun e => ndc9 (by rw [← e]; exact hq))]; exact apd9 q hq
  · intro j u' c' hu' hc'
    have hlg : Le g (g.put c (.cells (nils R[i].length))) := (Le.refl g).put _ gc
    have hdl : ds.length = i := by simpa using gd.1
    by_cases hj : j < i
    · rw [List.getElem?_append_left (by omega)] at hu'
      exact (hrow j u' c' hu' hc').le (.RL .isB) hlg
    · have hji : j = i := by
        have := (List.getElem?_eq_some_iff.1 hu').1
        simp at this; omega
      subst hji
      rw [List.getElem?_append_right (by omega)] at hu'
      simp [hdl] at hu'
      subst hu'
      have hce : c' = R[j] := by rw [List.getElem?_eq_getElem hilt] at hc'; simp at hc'; exact hc'.symm
      subst hce
      exact nils_rl (RS.whole (AHeap.own_put_eq _ _ _) (by simp [nils]))
end Go.Fw
