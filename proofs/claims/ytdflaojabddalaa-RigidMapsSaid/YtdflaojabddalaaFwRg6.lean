/- One of the texts of the layer and the walks: it proves what its theorems say of the functions of the seat, with no condition beyond theirs. -/
import Derived.Test.YtdflaojabddalaaFwRg5
set_option linter.unusedSimpArgs false
set_option linter.unusedVariables false
namespace Go.Fw
open Go.Proofs
set_option maxHeartbeats 400000
set_option maxRecDepth 10000

/- from 0 along the circles -/
inductive Reach (r : List (List Int)) : Nat → Prop
  | zero : Reach r 0
  | step {a : Nat} {c : List Int} {w : Nat} : Reach r a → r[a]? = some c → (w : Int) ∈ c → Reach r w
def Joined (r : List (List Int)) : Prop := ∀ v, v < r.length → Reach r v

/- what the search knows: L are met, all of them once; the first k have been looked round -/
structure Srch (r : List (List Int)) (L : List Nat) (M : List Bool) : Prop where
  zero : 0 ∈ L
  lt : ∀ a ∈ L, a < r.length
  nd : L.Nodup
  len : M.length = r.length
  met : ∀ a, a < r.length → (M[a]? = some true ↔ a ∈ L)
  reach : ∀ a ∈ L, Reach r a

theorem Srch.push {r : List (List Int)} {L : List Nat} {M : List Bool} (s : Srch r L M) {w : Nat} (hw : w < r.length) (hn : M[w]? = some false) (hr : Reach r w) : Srch r (L ++ [w]) (M.set w true) := by
  have hni : w ∉ L := fun hi => by have := (s.met w hw).2 hi; rw [hn] at this; cases this
  refine ⟨by simp [s.zero], ?_, ?_, by simp [s.len], ?_, ?_⟩
  · intro a ha; simp at ha; rcases ha with ha | rfl; exact s.lt a ha; exact hw
  · rw [List.nodup_append]; exact ⟨s.nd, by simp, fun a ha b hb => by simp at hb; subst hb; intro e; subst e; exact hni ha⟩
  · intro a ha
    by_cases e : a = w
    · subst e; simp [s.len, hw]
    · rw [List.getElem?_set_ne (Ne.symm e)]; simp [s.met a ha, e]
  · intro a ha; simp at ha; rcases ha with ha | rfl; exact s.reach a ha; exact hr

theorem nodup_le : ∀ (n : Nat) (L : List Nat), L.Nodup → (∀ a ∈ L, a < n) → L.length ≤ n ∧ (L.length = n → ∀ a, a < n → a ∈ L)
  | 0, L, _, hl => by
    have : L = [] := by
      cases L with
      | nil => rfl
      | cons a r => exact absurd (hl a (by simp)) (by omega)
    subst this; simp
  | n + 1, L, hd, hl => by
    by_cases hn : n ∈ L
    · have ih := nodup_le n (L.erase n) (hd.erase n) (fun a ha => by
        have := hd.mem_erase_iff.1 ha
        have := hl a this.2
        omega)
      rw [List.length_erase_of_mem hn] at ih
      have hp : 0 < L.length := List.length_pos_of_mem hn
      refine ⟨by omega, fun he a ha => ?_⟩
      by_cases e : a = n
      · subst e; exact hn
      · exact List.mem_of_mem_erase (ih.2 (by omega) a (by omega))
    · have ih := nodup_le n L hd (fun a ha => by
        have := hl a ha
        have : a ≠ n := fun e => hn (e ▸ ha)
        omega)
      exact ⟨by omega, fun he => by omega⟩

theorem Srch.length_le {r : List (List Int)} {L : List Nat} {M : List Bool} (s : Srch r L M) : L.length ≤ r.length := (nodup_le _ _ s.nd s.lt).1

theorem Srch.full {r : List (List Int)} {L : List Nat} {M : List Bool} (s : Srch r L M) (hcl : ∀ a ∈ L, ∀ c, r[a]? = some c → ∀ w : Nat, (w : Int) ∈ c → w ∈ L) : L.length = r.length ↔ Joined r := by
  have hall : ∀ a, Reach r a → a ∈ L := by
    intro a ha
    induction ha with
    | zero => exact s.zero
    | step _ hc hw ih => exact hcl _ ih _ hc _ hw
  constructor
  · intro hlen v hv
    exact s.reach v ((nodup_le _ _ s.nd s.lt).2 hlen v hv)
  · intro hj
    have h3 := (nodup_le L.length (List.range r.length)) List.nodup_range
    have h4 := s.length_le
    by_cases e : L.length = r.length
    · exact e
    · exfalso
      -- all of r.length vertices are in L
      have : ∀ (n : Nat) (L : List Nat), L.Nodup → (∀ a, a < n → a ∈ L) → n ≤ L.length := by
        intro n
        induction n with
        | zero => intros; omega
        | succ n ih =>
          intro L hd ha
          have hn := ha n (by omega)
          have := ih (L.erase n) (hd.erase n) (fun a h => hd.mem_erase_iff.2 ⟨by omega, ha a (by omega)⟩)
          rw [List.length_erase_of_mem hn] at this
          have hp : 0 < L.length := List.length_pos_of_mem hn
          omega
      have := this r.length L s.nd (fun a ha => hall a (hj a ha))
      omega

def nats (L : List Nat) : List Value := L.map fun a : Nat => .int .i64 (a : Int)
theorem nats_one (L : List Nat) : (nats L).all (·.oneCell') = true := by simp [nats]; intros; rfl

theorem joined_any (W0 : World) (l : Value) (r : List (List Int)) (h : AHeap) (hl : RL (RL isI) h l r) (hr0 : 0 < r.length) (hr : r.length ≤ 300) (hc : ∀ c ∈ r, c.length ≤ 300) (hin : ∀ c ∈ r, ∀ w ∈ c, 0 ≤ w ∧ w < (r.length : Int)) : AC Try.prog W0 21 [l] h fun v h' => BoolIs (Joined r) v ∧ Le h h' := by
  refine AC.vc (fn := Try.f21) (c := _) ⟨Try.func21, rfl, by decide⟩ Try.ntmps21 Try.results21 (by simp) fun hwf => ?_
  simp only [argFrame, argFrom, Nat.reduceAdd]
  have ll := fun h' => hl.len (P := Try.prog) Try.underlying23 h'
  have mk := aMakeSlice1 (P := Try.prog) (t := 66) (z := .bool false) h Try.underlying66 rfl rfl rfl rfl (by kernel_rfl) Try.underlying4 (by kernel_rfl) r.length (by omega)
  have ix0 : aIndexAddr Try.prog 66 (.slice (some ⟨h.next, 0, none⟩) r.length r.length) (.int .i64 0) = some (.pointer (some ⟨h.next, 0, none⟩)) := by
    have := aIdx (P := Try.prog) (t := 66) (a := ⟨h.next, 0, none⟩) (n := r.length) (cap := r.length) Try.underlying66 Try.underlying4 (by kernel_rfl) (k := .i64) 0 hr0
    simpa [aadd] using this
  simp only [beq_dec, fst_mk, snd_mk, VK_skip, VK_ret, VK_exit, VK_seq, VK_block, VK_region, VK_draw, VK_cond, KCond_true, KCond_false, VK_loop, KN_nil, KN_seq, KN_blk, KX_ret_nil, KX_ret_seq, KX_ret_blk, KX_exit_nil, KX_exit_seq, KX_exit_blk, KE_normal, KE_ret, KE_exit, KO_nil, KO_cons, KO_app_cons, KO_app_nil, KO1_true, KO1_false, KO2_true, KO2_false, KO3_some, KO4_some, loopQ_ret, loopQ_exit, wantA, isCall, stepOp, evalO, evalL, evalP, evalM, putDst, flat, cond_true, cond_false, Nat.reduceLT, ↓reduceIte, Trie.get_set, Nat.reduceEqDiff, Nat.one_ne_zero, Nat.zero_ne_one, aBuiltin, abinG, guardFree, abin, aInt, aUn, aNilCheck, retQ, retQ1, aresults, aresultL, aresult, mkF, undefV, reduceCtorEq, List.getElem?_toArray, List.append_eq, List.cons_append, List.nil_append, List.getElem?_cons_zero, List.getElem?_cons_succ, Option.bind_some, Bool.not_true, Bool.not_false, beq_self_eq_true, aExtract, calleeOf, awrap_u8, Bool.true_beq, Bool.false_beq, beq_true, beq_false, decide_true, decide_false, Bool.not_not, Bool.and_true, Bool.true_and, Bool.and_false, Bool.false_and, ll, mk, ix0]
  have ho : (h.alloc (.cells (List.replicate r.length (.bool false)))).own h.next = some (.cells (List.replicate r.length (.bool false))) := AHeap.own_alloc_eq _ _
  have hle : Le h (h.alloc (.cells (List.replicate r.length (.bool false)))) := (Le.refl _).alloc hwf _
  have hw1 : WF (h.alloc (.cells (List.replicate r.length (.bool false)))) := hwf.alloc _
  have hno : h.own h.next = none := (Le.refl h).next hwf (Nat.le_refl _)
  generalize h.alloc (.cells (List.replicate r.length (.bool false))) = h1 at *
  have st := aStore1 (P := Try.prog) (t := 4) (x := .bool true) Try.underlying4 (by kernel_rfl) ho (off := 0) (by simpa using hr0) rfl rfl
  have hb : ∀ h' : AHeap, ∀ x : Int, aBuildSlice Try.prog h' 31 1 [(0, .int .i64 x)] = some (.slice (some ⟨h'.next, 0, none⟩) 1 1, h'.alloc (.cells [.int .i64 x])) := fun _ _ => rfl
  simp only [beq_dec, fst_mk, snd_mk, VK_skip, VK_ret, VK_exit, VK_seq, VK_block, VK_region, VK_draw, VK_cond, KCond_true, KCond_false, VK_loop, KN_nil, KN_seq, KN_blk, KX_ret_nil, KX_ret_seq, KX_ret_blk, KX_exit_nil, KX_exit_seq, KX_exit_blk, KE_normal, KE_ret, KE_exit, KO_nil, KO_cons, KO_app_cons, KO_app_nil, KO1_true, KO1_false, KO2_true, KO2_false, KO3_some, KO4_some, loopQ_ret, loopQ_exit, wantA, isCall, stepOp, evalO, evalL, evalP, evalM, putDst, flat, cond_true, cond_false, Nat.reduceLT, ↓reduceIte, Trie.get_set, Nat.reduceEqDiff, Nat.one_ne_zero, Nat.zero_ne_one, aBuiltin, abinG, guardFree, abin, aInt, aUn, aNilCheck, retQ, retQ1, aresults, aresultL, aresult, mkF, undefV, reduceCtorEq, List.getElem?_toArray, List.append_eq, List.cons_append, List.nil_append, List.getElem?_cons_zero, List.getElem?_cons_succ, Option.bind_some, Bool.not_true, Bool.not_false, beq_self_eq_true, aExtract, calleeOf, awrap_u8, Bool.true_beq, Bool.false_beq, beq_true, beq_false, decide_true, decide_false, Bool.not_not, Bool.and_true, Bool.true_and, Bool.and_false, Bool.false_and, st, hb]
  have hset : (List.replicate r.length (Value.bool false)).set 0 (.bool true) = ((List.replicate r.length false).set 0 true).map Value.bool := by
    rw [List.map_set, List.map_replicate]
  rw [hset]
  have hs0 : Srch r [0] ((List.replicate r.length false).set 0 true) := by
    refine ⟨by simp, fun a ha => by simp at ha; omega, by simp, by simp, fun a ha => ?_, fun a ha => by simp at ha; subst ha; exact .zero⟩
    by_cases e : a = 0
    · subst e; simp [ha]
    · rw [List.getElem?_set_ne (Ne.symm e)]; simp [e, ha]
  generalize ((List.replicate r.length false).set 0 true) = M0 at *
  have ho2 : (h1.put h.next (.cells (M0.map Value.bool))).own h.next = some (.cells (M0.map Value.bool)) := AHeap.own_put_eq _ _ _
  have hle2 : Le h (h1.put h.next (.cells (M0.map Value.bool))) := hle.put _ hno
  have hw2 : WF (h1.put h.next (.cells (M0.map Value.bool))) := hw1.put _ (hw1.lt ho)
  generalize h1.put h.next (.cells (M0.map Value.bool)) = h2 at *
  have hg3 : GS 1 (h2.alloc (.cells [.int .i64 0])) (.slice (some ⟨h2.next, 0, none⟩) 1 1) 1 (nats [0]) := GS.full (AHeap.own_alloc_eq _ _) rfl (by decide)
  have hne : h2.next ≠ h.next := by have := hw2.lt ho2; omega
  have ho3 : (h2.alloc (.cells [.int .i64 0])).own h.next = some (.cells (M0.map Value.bool)) := by rw [AHeap.own_alloc_ne _ _ _ (Ne.symm hne)]; exact ho2
  have hle3 : Le h (h2.alloc (.cells [.int .i64 0])) := hle2.alloc hw2 _
  have hap : Apart h (.slice (some ⟨h2.next, 0, none⟩) 1 1) := fun b hb => by simp [blk] at hb; subst hb; exact hle2.next hw2 (Nat.le_refl _)
  have hbk : blk (.slice (some ⟨h2.next, 0, none⟩) 1 1) ≠ some h.next := by simp [blk]; exact hne
  generalize h2.alloc (.cells [.int .i64 0]) = h3 at *
  generalize hlv : Value.slice (some ⟨h2.next, 0, none⟩) 1 1 = lv0 at *
  refine KLoop.intro (fun k fr hh => ∃ (i : Nat) (L : List Nat) (M : List Bool) (lv : Value), k = r.length - i ∧ i ≤ L.length ∧ fr = mkF [(0, l), (3, .slice (some ⟨h.next, 0, none⟩) r.length r.length), (4, lv), (5, .int .i64 i)] ∧
      Srch r L M ∧ hh.own h.next = some (.cells (M.map Value.bool)) ∧ GS 1 hh lv L.length (nats L) ∧ Le h hh ∧ Apart h lv ∧ blk lv ≠ some h.next ∧ (∀ j a c, j < i → L[j]? = some a → r[a]? = some c → ∀ w : Nat, (w : Int) ∈ c → w ∈ L))
    r.length [(0, l), (3, .slice (some ⟨h.next, 0, none⟩) r.length r.length), (4, lv0), (5, .int .i64 (0 : Nat))] (by simp only [hasAll, beq_dec, fst_mk, snd_mk, VK_skip, VK_ret, VK_exit, VK_seq, VK_block, VK_region, VK_draw, VK_cond, KCond_true, KCond_false, VK_loop, KN_nil, KN_seq, KN_blk, KX_ret_nil, KX_ret_seq, KX_ret_blk, KX_exit_nil, KX_exit_seq, KX_exit_blk, KE_normal, KE_ret, KE_exit, KO_nil, KO_cons, KO_app_cons, KO_app_nil, KO1_true, KO1_false, KO2_true, KO2_false, KO3_some, KO4_some, loopQ_ret, loopQ_exit, wantA, isCall, stepOp, evalO, evalL, evalP, evalM, putDst, flat, cond_true, cond_false, Nat.reduceLT, ↓reduceIte, Trie.get_set, Nat.reduceEqDiff, Nat.one_ne_zero, Nat.zero_ne_one, aBuiltin, abinG, guardFree, abin, aInt, aUn, aNilCheck, retQ, retQ1, aresults, aresultL, aresult, mkF, undefV, reduceCtorEq, List.getElem?_toArray, List.append_eq, List.cons_append, List.nil_append, List.getElem?_cons_zero, List.getElem?_cons_succ, Option.bind_some, Bool.not_true, Bool.not_false, beq_self_eq_true, aExtract, calleeOf, awrap_u8, Bool.true_beq, Bool.false_beq, beq_true, beq_false, decide_true, decide_false, Bool.not_not, Bool.and_true, Bool.true_and, Bool.and_false, Bool.false_and]; simp) ⟨0, [0], M0, lv0, rfl, by simp, rfl, hs0, ho3, hg3, hle3, hap, hbk, by omega⟩ ?_
  rintro k fr hh hwh ⟨i, L, M, lv, rfl, hi, rfl, hs, ho, hg, hle, hap, hbk, hcl⟩
  have hLr := hs.length_le
  have rlv : RS hh lv (nats L) := hg.cs.rs
  have hnl : (nats L).length = L.length := by simp [nats]
  have lnl := rlv.len (P := Try.prog) Try.underlying31 hh
  rw [hnl] at lnl
  simp only [beq_dec, fst_mk, snd_mk, VK_skip, VK_ret, VK_exit, VK_seq, VK_block, VK_region, VK_draw, VK_cond, KCond_true, KCond_false, VK_loop, KN_nil, KN_seq, KN_blk, KX_ret_nil, KX_ret_seq, KX_ret_blk, KX_exit_nil, KX_exit_seq, KX_exit_blk, KE_normal, KE_ret, KE_exit, KO_nil, KO_cons, KO_app_cons, KO_app_nil, KO1_true, KO1_false, KO2_true, KO2_false, KO3_some, KO4_some, loopQ_ret, loopQ_exit, wantA, isCall, stepOp, evalO, evalL, evalP, evalM, putDst, flat, cond_true, cond_false, Nat.reduceLT, ↓reduceIte, Trie.get_set, Nat.reduceEqDiff, Nat.one_ne_zero, Nat.zero_ne_one, aBuiltin, abinG, guardFree, abin, aInt, aUn, aNilCheck, retQ, retQ1, aresults, aresultL, aresult, mkF, undefV, reduceCtorEq, List.getElem?_toArray, List.append_eq, List.cons_append, List.nil_append, List.getElem?_cons_zero, List.getElem?_cons_succ, Option.bind_some, Bool.not_true, Bool.not_false, beq_self_eq_true, aExtract, calleeOf, awrap_u8, Bool.true_beq, Bool.false_beq, beq_true, beq_false, decide_true, decide_false, Bool.not_not, Bool.and_true, Bool.true_and, Bool.and_false, Bool.false_and, lnl]
  refine KCond.intro (fun ht => ?_) (fun hf => ?_)
  · have hlt : i < L.length := lt_t ht
    have adl := rlv.addr (P := Try.prog) Try.underlying31 Try.underlying3 (by kernel_rfl) (k := .i64) i (by omega)
    have ldl := rlv.load (P := Try.prog) Try.underlying3 rfl i (by omega)
    have enl : (nats L)[i]'(by omega) = .int .i64 (L[i] : Int) := by simp [nats]
    rw [enl] at ldl
    have hLi : L[i] < r.length := hs.lt _ (List.getElem_mem _)
    obtain ⟨u, hu1, hu2⟩ := hl.load (P := Try.prog) Try.underlying31 rfl L[i] hLi
    have hu1' : aload Try.prog hh 31 (elemAddr l L[i]) = some u := by
      rw [aload_flat Try.underlying31 rfl] at hu1 ⊢; exact hle.read hu1
    have ad := hl.addr (P := Try.prog) Try.underlying23 Try.underlying31 (by kernel_rfl) (k := .i64) L[i] hLi
    have lu := fun h' => hu2.len (P := Try.prog) Try.underlying31 h'
    have hreach : Reach r L[i] := hs.reach _ (List.getElem_mem _)
    generalize hLa : L[i] = a at *
    have hcla : r[a].length ≤ 300 := hc _ (List.getElem_mem _)
    have hina := hin r[a] (List.getElem_mem _)
    have hra : r[a]? = some r[a] := getElem?_of hLi
    simp only [beq_dec, fst_mk, snd_mk, VK_skip, VK_ret, VK_exit, VK_seq, VK_block, VK_region, VK_draw, VK_cond, KCond_true, KCond_false, VK_loop, KN_nil, KN_seq, KN_blk, KX_ret_nil, KX_ret_seq, KX_ret_blk, KX_exit_nil, KX_exit_seq, KX_exit_blk, KE_normal, KE_ret, KE_exit, KO_nil, KO_cons, KO_app_cons, KO_app_nil, KO1_true, KO1_false, KO2_true, KO2_false, KO3_some, KO4_some, loopQ_ret, loopQ_exit, wantA, isCall, stepOp, evalO, evalL, evalP, evalM, putDst, flat, cond_true, cond_false, Nat.reduceLT, ↓reduceIte, Trie.get_set, Nat.reduceEqDiff, Nat.one_ne_zero, Nat.zero_ne_one, aBuiltin, abinG, guardFree, abin, aInt, aUn, aNilCheck, retQ, retQ1, aresults, aresultL, aresult, mkF, undefV, reduceCtorEq, List.getElem?_toArray, List.append_eq, List.cons_append, List.nil_append, List.getElem?_cons_zero, List.getElem?_cons_succ, Option.bind_some, Bool.not_true, Bool.not_false, beq_self_eq_true, aExtract, calleeOf, awrap_u8, Bool.true_beq, Bool.false_beq, beq_true, beq_false, decide_true, decide_false, Bool.not_not, Bool.and_true, Bool.true_and, Bool.and_false, Bool.false_and, adl, ldl, ad, hu1', lu]
    refine KLoop.intro (fun k fr hq => ∃ (q : Nat) (L' : List Nat) (M : List Bool) (lv : Value), k = r[a].length - q ∧ q ≤ r[a].length ∧ fr = mkF [(0, l), (3, .slice (some ⟨h.next, 0, none⟩) r.length r.length), (4, lv), (5, .int .i64 i), (26, u), (27, .int .i64 r[a].length), (28, .int .i64 q)] ∧
        Srch r L' M ∧ hq.own h.next = some (.cells (M.map Value.bool)) ∧ GS 1 hq lv L'.length (nats L') ∧ Le h hq ∧ Apart h lv ∧ blk lv ≠ some h.next ∧ (∃ N, L' = L ++ N) ∧ (∀ (j : Nat) (w : Nat), j < q → r[a][j]? = some (w : Int) → w ∈ L'))
      r[a].length [(0, l), (3, .slice (some ⟨h.next, 0, none⟩) r.length r.length), (4, lv), (5, .int .i64 i), (26, u), (27, .int .i64 r[a].length), (28, .int .i64 (0 : Nat))] (by simp only [hasAll, beq_dec, fst_mk, snd_mk, VK_skip, VK_ret, VK_exit, VK_seq, VK_block, VK_region, VK_draw, VK_cond, KCond_true, KCond_false, VK_loop, KN_nil, KN_seq, KN_blk, KX_ret_nil, KX_ret_seq, KX_ret_blk, KX_exit_nil, KX_exit_seq, KX_exit_blk, KE_normal, KE_ret, KE_exit, KO_nil, KO_cons, KO_app_cons, KO_app_nil, KO1_true, KO1_false, KO2_true, KO2_false, KO3_some, KO4_some, loopQ_ret, loopQ_exit, wantA, isCall, stepOp, evalO, evalL, evalP, evalM, putDst, flat, cond_true, cond_false, Nat.reduceLT, ↓reduceIte, Trie.get_set, Nat.reduceEqDiff, Nat.one_ne_zero, Nat.zero_ne_one, aBuiltin, abinG, guardFree, abin, aInt, aUn, aNilCheck, retQ, retQ1, aresults, aresultL, aresult, mkF, undefV, reduceCtorEq, List.getElem?_toArray, List.append_eq, List.cons_append, List.nil_append, List.getElem?_cons_zero, List.getElem?_cons_succ, Option.bind_some, Bool.not_true, Bool.not_false, beq_self_eq_true, aExtract, calleeOf, awrap_u8, Bool.true_beq, Bool.false_beq, beq_true, beq_false, decide_true, decide_false, Bool.not_not, Bool.and_true, Bool.true_and, Bool.and_false, Bool.false_and]; simp) ⟨0, L, M, lv, rfl, Nat.zero_le _, rfl, hs, ho, hg, hle, hap, hbk, ⟨[], by simp⟩, by omega⟩ ?_
    clear hg hle hap hbk ho rlv lnl ldl adl hu1'
    rintro k fr hq hwq ⟨q, L', M', lv', rfl, hqi, rfl, hs', ho, hg, hle, hap, hbk, ⟨N, hN⟩, hdone⟩
    simp only [beq_dec, fst_mk, snd_mk, VK_skip, VK_ret, VK_exit, VK_seq, VK_block, VK_region, VK_draw, VK_cond, KCond_true, KCond_false, VK_loop, KN_nil, KN_seq, KN_blk, KX_ret_nil, KX_ret_seq, KX_ret_blk, KX_exit_nil, KX_exit_seq, KX_exit_blk, KE_normal, KE_ret, KE_exit, KO_nil, KO_cons, KO_app_cons, KO_app_nil, KO1_true, KO1_false, KO2_true, KO2_false, KO3_some, KO4_some, loopQ_ret, loopQ_exit, wantA, isCall, stepOp, evalO, evalL, evalP, evalM, putDst, flat, cond_true, cond_false, Nat.reduceLT, ↓reduceIte, Trie.get_set, Nat.reduceEqDiff, Nat.one_ne_zero, Nat.zero_ne_one, aBuiltin, abinG, guardFree, abin, aInt, aUn, aNilCheck, retQ, retQ1, aresults, aresultL, aresult, mkF, undefV, reduceCtorEq, List.getElem?_toArray, List.append_eq, List.cons_append, List.nil_append, List.getElem?_cons_zero, List.getElem?_cons_succ, Option.bind_some, Bool.not_true, Bool.not_false, beq_self_eq_true, aExtract, calleeOf, awrap_u8, Bool.true_beq, Bool.false_beq, beq_true, beq_false, decide_true, decide_false, Bool.not_not, Bool.and_true, Bool.true_and, Bool.and_false, Bool.false_and]
    refine KCond.intro (fun ht => ?_) (fun hf => ?_)
    · have hqlt : q < r[a].length := lt_t ht
      have huq := hu2.le .isI hle
      have ad2 := huq.addr (P := Try.prog) Try.underlying31 Try.underlying3 (by kernel_rfl) (k := .i64) q hqlt
      have ld2 := huq.loadI (P := Try.prog) Try.underlying3 rfl q hqlt
      have hx : r[a][q]? = some r[a][q] := getElem?_of hqlt
      have hxin := hina r[a][q] (List.getElem_mem _)
      generalize r[a][q] = x at *
      obtain ⟨w, rfl⟩ := Int.eq_ofNat_of_zero_le hxin.1
      have hw : w < r.length := by omega
      have iw : aIndexAddr Try.prog 66 (.slice (some ⟨h.next, 0, none⟩) r.length r.length) (.int .i64 w) = some (.pointer (some ⟨h.next, w, none⟩)) := by
        rw [aIdx Try.underlying66 Try.underlying4 (by kernel_rfl) w hw]; simp [aadd]
      have hMw : w < M'.length := by rw [hs'.len]; exact hw
      have lw : aload Try.prog hq 4 ⟨h.next, w, none⟩ = some (.bool M'[w]) := by
        rw [aload_one Try.underlying4 rfl ho, List.getElem?_map, List.getElem?_eq_getElem hMw]; rfl
      have hmw := hs'.met w hw
      rw [getElem?_of hMw] at hmw
      cases hm : M'[w] with
      | true =>
        rw [hm] at lw
        simp only [beq_dec, fst_mk, snd_mk, VK_skip, VK_ret, VK_exit, VK_seq, VK_block, VK_region, VK_draw, VK_cond, KCond_true, KCond_false, VK_loop, KN_nil, KN_seq, KN_blk, KX_ret_nil, KX_ret_seq, KX_ret_blk, KX_exit_nil, KX_exit_seq, KX_exit_blk, KE_normal, KE_ret, KE_exit, KO_nil, KO_cons, KO_app_cons, KO_app_nil, KO1_true, KO1_false, KO2_true, KO2_false, KO3_some, KO4_some, loopQ_ret, loopQ_exit, wantA, isCall, stepOp, evalO, evalL, evalP, evalM, putDst, flat, cond_true, cond_false, Nat.reduceLT, ↓reduceIte, Trie.get_set, Nat.reduceEqDiff, Nat.one_ne_zero, Nat.zero_ne_one, aBuiltin, abinG, guardFree, abin, aInt, aUn, aNilCheck, retQ, retQ1, aresults, aresultL, aresult, mkF, undefV, reduceCtorEq, List.getElem?_toArray, List.append_eq, List.cons_append, List.nil_append, List.getElem?_cons_zero, List.getElem?_cons_succ, Option.bind_some, Bool.not_true, Bool.not_false, beq_self_eq_true, aExtract, calleeOf, awrap_u8, Bool.true_beq, Bool.false_beq, beq_true, beq_false, decide_true, decide_false, Bool.not_not, Bool.and_true, Bool.true_and, Bool.and_false, Bool.false_and, ad2, ld2, iw, lw, awrap_succ q (by omega)]
        refine loop_again (r[a].length - (q + 1)) [(0, l), (3, .slice (some ⟨h.next, 0, none⟩) r.length r.length), (4, lv'), (5, .int .i64 i), (26, u), (27, .int .i64 r[a].length), (28, .int .i64 (q + 1 : Nat))] (by omega) (by simp only [hasAll, beq_dec, fst_mk, snd_mk, VK_skip, VK_ret, VK_exit, VK_seq, VK_block, VK_region, VK_draw, VK_cond, KCond_true, KCond_false, VK_loop, KN_nil, KN_seq, KN_blk, KX_ret_nil, KX_ret_seq, KX_ret_blk, KX_exit_nil, KX_exit_seq, KX_exit_blk, KE_normal, KE_ret, KE_exit, KO_nil, KO_cons, KO_app_cons, KO_app_nil, KO1_true, KO1_false, KO2_true, KO2_false, KO3_some, KO4_some, loopQ_ret, loopQ_exit, wantA, isCall, stepOp, evalO, evalL, evalP, evalM, putDst, flat, cond_true, cond_false, Nat.reduceLT, ↓reduceIte, Trie.get_set, Nat.reduceEqDiff, Nat.one_ne_zero, Nat.zero_ne_one, aBuiltin, abinG, guardFree, abin, aInt, aUn, aNilCheck, retQ, retQ1, aresults, aresultL, aresult, mkF, undefV, reduceCtorEq, List.getElem?_toArray, List.append_eq, List.cons_append, List.nil_append, List.getElem?_cons_zero, List.getElem?_cons_succ, Option.bind_some, Bool.not_true, Bool.not_false, beq_self_eq_true, aExtract, calleeOf, awrap_u8, Bool.true_beq, Bool.false_beq, beq_true, beq_false, decide_true, decide_false, Bool.not_not, Bool.and_true, Bool.true_and, Bool.and_false, Bool.false_and]; simp) ⟨q + 1, L', M', lv', rfl, hqlt, rfl, hs', ho, hg, hle, hap, hbk, ⟨N, hN⟩, ?_⟩
        intro j w' hj hw'
        by_cases e : j < q
        · exact hdone j w' e hw'
        · have : j = q := by omega
          subst this
          rw [hx] at hw'; injection hw' with hw'
          have : w' = w := by omega
          subst this
          exact hmw.1 (by rw [hm])
      | false =>
        rw [hm] at lw
        have st := aStore1 (P := Try.prog) (t := 4) (x := .bool true) Try.underlying4 (by kernel_rfl) ho (off := w) (by simpa using hMw) rfl rfl
        have ho2 : (hq.put h.next (.cells ((M'.map Value.bool).set w (.bool true)))).own h.next = some (.cells ((M'.set w true).map Value.bool)) := by rw [AHeap.own_put_eq, List.map_set]
        have hle2 : Le h (hq.put h.next (.cells ((M'.map Value.bool).set w (.bool true)))) := hle.put _ hno
        have hw2 : WF (hq.put h.next (.cells ((M'.map Value.bool).set w (.bool true)))) := hwq.put _ (hwq.lt ho)
        have hg2 : GS 1 (hq.put h.next (.cells ((M'.map Value.bool).set w (.bool true)))) lv' L'.length (nats L') := by
          obtain ⟨e1, e2 | ⟨id, c, cap, e2, e3, e4⟩⟩ := hg
          · exact ⟨e1, .inl e2⟩
          · refine ⟨e1, .inr ⟨id, c, cap, e2, ?_, e4⟩⟩
            rw [AHeap.own_put_ne _ _ _ _ (by intro e; subst e; exact hbk (by rw [e2]; rfl))]; exact e3
        simp only [beq_dec, fst_mk, snd_mk, VK_skip, VK_ret, VK_exit, VK_seq, VK_block, VK_region, VK_draw, VK_cond, KCond_true, KCond_false, VK_loop, KN_nil, KN_seq, KN_blk, KX_ret_nil, KX_ret_seq, KX_ret_blk, KX_exit_nil, KX_exit_seq, KX_exit_blk, KE_normal, KE_ret, KE_exit, KO_nil, KO_cons, KO_app_cons, KO_app_nil, KO1_true, KO1_false, KO2_true, KO2_false, KO3_some, KO4_some, loopQ_ret, loopQ_exit, wantA, isCall, stepOp, evalO, evalL, evalP, evalM, putDst, flat, cond_true, cond_false, Nat.reduceLT, ↓reduceIte, Trie.get_set, Nat.reduceEqDiff, Nat.one_ne_zero, Nat.zero_ne_one, aBuiltin, abinG, guardFree, abin, aInt, aUn, aNilCheck, retQ, retQ1, aresults, aresultL, aresult, mkF, undefV, reduceCtorEq, List.getElem?_toArray, List.append_eq, List.cons_append, List.nil_append, List.getElem?_cons_zero, List.getElem?_cons_succ, Option.bind_some, Bool.not_true, Bool.not_false, beq_self_eq_true, aExtract, calleeOf, awrap_u8, Bool.true_beq, Bool.false_beq, beq_true, beq_false, decide_true, decide_false, Bool.not_not, Bool.and_true, Bool.true_and, Bool.and_false, Bool.false_and, ad2, ld2, iw, lw, st, hb]
        generalize hq.put h.next (.cells ((M'.map Value.bool).set w (.bool true))) = hq2 at *
        have hle3 : Le hq2 (hq2.alloc (.cells [.int .i64 w])) := (Le.refl _).alloc hw2 _
        have hw3 : WF (hq2.alloc (.cells [.int .i64 w])) := hw2.alloc _
        have ho3 : (hq2.alloc (.cells [.int .i64 w])).own hq2.next = some (.cells [.int .i64 w]) := AHeap.own_alloc_eq _ _
        generalize hq2.alloc (.cells [.int .i64 w]) = hq3 at *
        have hsp := hs'.push hw (by rw [getElem?_of hMw, hm]) (.step hreach hra (List.mem_iff_getElem?.2 ⟨q, hx⟩))
        have hlp := hsp.length_le
        obtain ⟨lv2, hq4, hapd, hg4, hf4⟩ := (hg2.le hle3).push (P := Try.prog) (t := 31) (by kernel_rfl) ho3 (nats_one _) rfl (by simp at hlp; omega)
        obtain ⟨hle5, hap5⟩ := hf4 h hw3 (hle2.trans hle3) hap
        obtain ⟨ho5, hbk5⟩ := keep_own hf4 hw3 (hle3.own _ _ ho2) hbk
        simp only [beq_dec, fst_mk, snd_mk, VK_skip, VK_ret, VK_exit, VK_seq, VK_block, VK_region, VK_draw, VK_cond, KCond_true, KCond_false, VK_loop, KN_nil, KN_seq, KN_blk, KX_ret_nil, KX_ret_seq, KX_ret_blk, KX_exit_nil, KX_exit_seq, KX_exit_blk, KE_normal, KE_ret, KE_exit, KO_nil, KO_cons, KO_app_cons, KO_app_nil, KO1_true, KO1_false, KO2_true, KO2_false, KO3_some, KO4_some, loopQ_ret, loopQ_exit, wantA, isCall, stepOp, evalO, evalL, evalP, evalM, putDst, flat, cond_true, cond_false, Nat.reduceLT, ↓reduceIte, Trie.get_set, Nat.reduceEqDiff, Nat.one_ne_zero, Nat.zero_ne_one, aBuiltin, abinG, guardFree, abin, aInt, aUn, aNilCheck, retQ, retQ1, aresults, aresultL, aresult, mkF, undefV, reduceCtorEq, List.getElem?_toArray, List.append_eq, List.cons_append, List.nil_append, List.getElem?_cons_zero, List.getElem?_cons_succ, Option.bind_some, Bool.not_true, Bool.not_false, beq_self_eq_true, aExtract, calleeOf, awrap_u8, Bool.true_beq, Bool.false_beq, beq_true, beq_false, decide_true, decide_false, Bool.not_not, Bool.and_true, Bool.true_and, Bool.and_false, Bool.false_and, hapd, awrap_succ q (by omega)]
        refine loop_again (r[a].length - (q + 1)) [(0, l), (3, .slice (some ⟨h.next, 0, none⟩) r.length r.length), (4, lv2), (5, .int .i64 i), (26, u), (27, .int .i64 r[a].length), (28, .int .i64 (q + 1 : Nat))] (by omega) (by simp only [hasAll, beq_dec, fst_mk, snd_mk, VK_skip, VK_ret, VK_exit, VK_seq, VK_block, VK_region, VK_draw, VK_cond, KCond_true, KCond_false, VK_loop, KN_nil, KN_seq, KN_blk, KX_ret_nil, KX_ret_seq, KX_ret_blk, KX_exit_nil, KX_exit_seq, KX_exit_blk, KE_normal, KE_ret, KE_exit, KO_nil, KO_cons, KO_app_cons, KO_app_nil, KO1_true, KO1_false, KO2_true, KO2_false, KO3_some, KO4_some, loopQ_ret, loopQ_exit, wantA, isCall, stepOp, evalO, evalL, evalP, evalM, putDst, flat, cond_true, cond_false, Nat.reduceLT, ↓reduceIte, Trie.get_set, Nat.reduceEqDiff, Nat.one_ne_zero, Nat.zero_ne_one, aBuiltin, abinG, guardFree, abin, aInt, aUn, aNilCheck, retQ, retQ1, aresults, aresultL, aresult, mkF, undefV, reduceCtorEq, List.getElem?_toArray, List.append_eq, List.cons_append, List.nil_append, List.getElem?_cons_zero, List.getElem?_cons_succ, Option.bind_some, Bool.not_true, Bool.not_false, beq_self_eq_true, aExtract, calleeOf, awrap_u8, Bool.true_beq, Bool.false_beq, beq_true, beq_false, decide_true, decide_false, Bool.not_not, Bool.and_true, Bool.true_and, Bool.and_false, Bool.false_and]; simp) ⟨q + 1, L' ++ [w], M'.set w true, lv2, rfl, hqlt, rfl, hsp, ho5, by simpa [nats] using hg4, hle5, hap5, hbk5, ⟨N ++ [w], by rw [hN, List.append_assoc]⟩, ?_⟩
        intro j w' hj hw'
        by_cases e : j < q
        · exact List.mem_append_left _ (hdone j w' e hw')
        · have : j = q := by omega
          subst this
          rw [hx] at hw'; injection hw' with hw'
          have : w' = w := by omega
          subst this
          simp
    · have hqge : r[a].length ≤ q := lt_f hf
      simp only [beq_dec, fst_mk, snd_mk, VK_skip, VK_ret, VK_exit, VK_seq, VK_block, VK_region, VK_draw, VK_cond, KCond_true, KCond_false, VK_loop, KN_nil, KN_seq, KN_blk, KX_ret_nil, KX_ret_seq, KX_ret_blk, KX_exit_nil, KX_exit_seq, KX_exit_blk, KE_normal, KE_ret, KE_exit, KO_nil, KO_cons, KO_app_cons, KO_app_nil, KO1_true, KO1_false, KO2_true, KO2_false, KO3_some, KO4_some, loopQ_ret, loopQ_exit, wantA, isCall, stepOp, evalO, evalL, evalP, evalM, putDst, flat, cond_true, cond_false, Nat.reduceLT, ↓reduceIte, Trie.get_set, Nat.reduceEqDiff, Nat.one_ne_zero, Nat.zero_ne_one, aBuiltin, abinG, guardFree, abin, aInt, aUn, aNilCheck, retQ, retQ1, aresults, aresultL, aresult, mkF, undefV, reduceCtorEq, List.getElem?_toArray, List.append_eq, List.cons_append, List.nil_append, List.getElem?_cons_zero, List.getElem?_cons_succ, Option.bind_some, Bool.not_true, Bool.not_false, beq_self_eq_true, aExtract, calleeOf, awrap_u8, Bool.true_beq, Bool.false_beq, beq_true, beq_false, decide_true, decide_false, Bool.not_not, Bool.and_true, Bool.true_and, Bool.and_false, Bool.false_and, awrap_succ i (by omega)]
      refine loop_again (r.length - (i + 1)) [(0, l), (3, .slice (some ⟨h.next, 0, none⟩) r.length r.length), (4, lv'), (5, .int .i64 (i + 1 : Nat))] (by omega) (by simp only [hasAll, beq_dec, fst_mk, snd_mk, VK_skip, VK_ret, VK_exit, VK_seq, VK_block, VK_region, VK_draw, VK_cond, KCond_true, KCond_false, VK_loop, KN_nil, KN_seq, KN_blk, KX_ret_nil, KX_ret_seq, KX_ret_blk, KX_exit_nil, KX_exit_seq, KX_exit_blk, KE_normal, KE_ret, KE_exit, KO_nil, KO_cons, KO_app_cons, KO_app_nil, KO1_true, KO1_false, KO2_true, KO2_false, KO3_some, KO4_some, loopQ_ret, loopQ_exit, wantA, isCall, stepOp, evalO, evalL, evalP, evalM, putDst, flat, cond_true, cond_false, Nat.reduceLT, ↓reduceIte, Trie.get_set, Nat.reduceEqDiff, Nat.one_ne_zero, Nat.zero_ne_one, aBuiltin, abinG, guardFree, abin, aInt, aUn, aNilCheck, retQ, retQ1, aresults, aresultL, aresult, mkF, undefV, reduceCtorEq, List.getElem?_toArray, List.append_eq, List.cons_append, List.nil_append, List.getElem?_cons_zero, List.getElem?_cons_succ, Option.bind_some, Bool.not_true, Bool.not_false, beq_self_eq_true, aExtract, calleeOf, awrap_u8, Bool.true_beq, Bool.false_beq, beq_true, beq_false, decide_true, decide_false, Bool.not_not, Bool.and_true, Bool.true_and, Bool.and_false, Bool.false_and]; simp) ⟨i + 1, L', M', lv', rfl, by rw [hN]; simp; omega, rfl, hs', ho, hg, hle, hap, hbk, ?_⟩
      intro j a' c hj ha' hc' w hw
      rw [hN] at ha'
      rw [List.getElem?_append_left (by omega)] at ha'
      by_cases e : j < i
      · rw [hN]; exact List.mem_append_left _ (hcl j a' c e ha' hc' w hw)
      · have : j = i := by omega
        subst this
        rw [getElem?_of hlt, hLa] at ha'; injection ha' with ha'; subst ha'
        rw [hra] at hc'; injection hc' with hc'; subst hc'
        obtain ⟨p, hp, hp2⟩ := List.mem_iff_getElem.1 hw
        exact hdone p w (by omega) (by rw [getElem?_of hp, hp2])
  · have hge : L.length ≤ i := lt_f hf
    have lnl2 := rlv.len (P := Try.prog) Try.underlying31 hh
    rw [hnl] at lnl2
    have hfull := hs.full fun a ha c hc w hw => by
      obtain ⟨j, hj, rfl⟩ := List.mem_iff_getElem.1 ha
      exact hcl j _ c (by omega) (getElem?_of hj) hc w hw
    simp only [beq_dec, fst_mk, snd_mk, VK_skip, VK_ret, VK_exit, VK_seq, VK_block, VK_region, VK_draw, VK_cond, KCond_true, KCond_false, VK_loop, KN_nil, KN_seq, KN_blk, KX_ret_nil, KX_ret_seq, KX_ret_blk, KX_exit_nil, KX_exit_seq, KX_exit_blk, KE_normal, KE_ret, KE_exit, KO_nil, KO_cons, KO_app_cons, KO_app_nil, KO1_true, KO1_false, KO2_true, KO2_false, KO3_some, KO4_some, loopQ_ret, loopQ_exit, wantA, isCall, stepOp, evalO, evalL, evalP, evalM, putDst, flat, cond_true, cond_false, Nat.reduceLT, ↓reduceIte, Trie.get_set, Nat.reduceEqDiff, Nat.one_ne_zero, Nat.zero_ne_one, aBuiltin, abinG, guardFree, abin, aInt, aUn, aNilCheck, retQ, retQ1, aresults, aresultL, aresult, mkF, undefV, reduceCtorEq, List.getElem?_toArray, List.append_eq, List.cons_append, List.nil_append, List.getElem?_cons_zero, List.getElem?_cons_succ, Option.bind_some, Bool.not_true, Bool.not_false, beq_self_eq_true, aExtract, calleeOf, awrap_u8, Bool.true_beq, Bool.false_beq, beq_true, beq_false, decide_true, decide_false, Bool.not_not, Bool.and_true, Bool.true_and, Bool.and_false, Bool.false_and, lnl2, ll]
    refine ⟨⟨_, rfl, ?_⟩, hle⟩
    rw [← hfull]; simp; omega
end Go.Fw
