/- One of the texts of the layer and the walks: it proves what its theorems say of the functions of the seat, with no condition beyond theirs. -/
import Derived.Test.YtdflaojabddalaaFwRg20
set_option linter.unusedSimpArgs false
set_option linter.unusedVariables false
namespace Go.Fw
open Go.Proofs
set_option maxHeartbeats 400000
set_option maxRecDepth 10000

instance decLt : ∀ x y : List Int, Decidable (ltL x y)
  | _, [] => isFalse ltL_nil
  | [], _ :: _ => isTrue trivial
  | a :: x, b :: y =>
    if h : a < b then isTrue (.inl h)
    else if e : a = b then
      match decLt x y with
      | isTrue p => isTrue (.inr ⟨e, p⟩)
      | isFalse p => isFalse fun q => by rcases q with q | ⟨_, q⟩; exact h q; exact p q
    else isFalse fun q => by rcases q with q | ⟨q, _⟩; exact h q; exact e q

def stepT (l : List Wd) (x : Wd) : List Wd :=
  match l with
  | [] => [x]
  | y :: _ => if ltL y.1 x.1 then l else if x.1 = y.1 then l ++ [x] else [x]
def codeW (S : SkinM) (mir : Bool) (v i : Nat) : Wd := (codeM S mir v i, (finM S mir v i).ord)
def lT (S : SkinM) (v i : Nat) (l : List Wd) : Nat → List Wd
  | 0 => l
  | j + 1 => stepT (lT S v i l j) (codeW S (j == 1) v i)
def hdC (l : List Wd) : Option (List Int) := l.head?.map (·.1)

theorem stepT_keep {l : List Wd} {x : Wd} {y : List Int} (h : hdC l = some y) (hl : ltL y x.1) : stepT l x = l := by
  cases l with
  | nil => cases h
  | cons z l => simp [hdC] at h; subst h; simp [stepT, hl]
theorem stepT_new {l : List Wd} {x : Wd} (h : ∀ y, hdC l = some y → ¬ ltL y x.1) : stepT l x = if x.1 = (hdC l).getD [] then l ++ [x] else [x] := by
  cases l with
  | nil => simp [stepT]
  | cons z l =>
    have := h z.1 (by simp [hdC])
    by_cases e : x.1 = z.1
    · rw [if_pos (by simp [hdC, e])]; simp only [stepT]; rw [if_neg this, if_pos e]
    · rw [if_neg (by simp [hdC, e])]; simp only [stepT]; rw [if_neg this, if_neg e]
theorem stepT_length (l : List Wd) (x : Wd) : (stepT l x).length ≤ l.length + 1 := by
  cases l with
  | nil => simp [stepT]
  | cons z l => simp only [stepT]; split
                · omega
                · split <;> simp
theorem stepT_ne {l : List Wd} {x : Wd} (h : ∀ y ∈ l, y.1 ≠ []) (hx : x.1 ≠ []) : ∀ y ∈ stepT l x, y.1 ≠ [] := by
  cases l with
  | nil => simpa [stepT] using hx
  | cons z l =>
    intro y hy
    simp only [stepT] at hy
    split at hy
    · exact h y hy
    · split at hy
      · rcases List.mem_append.1 hy with e | e
        · exact h y e
        · simp at e; subst e; exact hx
      · simp at hy; subst hy; exact hx
theorem codeM_ne (S : SkinM) (mir : Bool) (v i : Nat) : codeM S mir v i ≠ [] := by simp [codeM, num4]
theorem lT_ne {S : SkinM} {v i : Nat} {l : List Wd} (h : ∀ y ∈ l, y.1 ≠ []) : ∀ j, ∀ y ∈ lT S v i l j, y.1 ≠ []
  | 0 => h
  | j + 1 => stepT_ne (lT_ne h j) (codeM_ne _ _ _ _)
theorem lT_length (S : SkinM) (v i : Nat) (l : List Wd) : ∀ j, (lT S v i l j).length ≤ l.length + j
  | 0 => Nat.le_refl _
  | j + 1 => by have h1 := lT_length S v i l j; have h2 := stepT_length (lT S v i l j) (codeW S (j == 1) v i); simp only [lT]; omega

theorem fb0 (a : Addr) : aField Try.prog 60 (.pointer (some a)) 0 = some (.pointer (some (aadd a 0))) := rfl
theorem idx43 (a : Addr) (n cap : Nat) (hn : 0 < n) : aIndexAddr Try.prog 43 (.slice (some a) n cap) (.int .i64 0) = some (.pointer (some (aadd a 0))) := by
  have : (0 : Int) < n := by omega
  simp [aIndexAddr, Try.underlying43, Try.underlying36, this]; omega

/- the first one's code -/
theorem first_code {h : AHeap} {fv : Value} {vs : List (Value × Value)} {n : Nat} (g : GS 2 h fv n (flat2 vs)) (hn : vs.length = n) {p : Value × Value} (hp : vs[0]? = some p) :
    ∃ id, aIndexAddr Try.prog 43 fv (.int .i64 0) = some (.pointer (some ⟨id, 0, none⟩)) ∧ aload Try.prog h 34 ⟨id, 0, none⟩ = some p.1 := by
  have hl := (List.getElem?_eq_some_iff.1 hp).1
  obtain ⟨hl', ⟨rfl, q⟩ | ⟨id, c, cap, rfl, ho, ht, _⟩⟩ := g
  · omega
  · refine ⟨id, by rw [idx43 _ _ _ (by omega)]; rfl, ?_⟩
    rw [aload_one Try.underlying34 rfl ho]
    have h0 := (flat2_get vs 0 p hp).1
    rw [← ht, List.getElem?_take, Nat.zero_mul] at h0
    split at h0
    · exact h0
    · cases h0

theorem try_any (W0 : World) (h : AHeap) (B a : Nat) (r ve d pl cs fv : Value) (S : SkinM) (v i : Nat) (l : List Wd)
    (hb : BS h B a r ve d pl (wordsM S) cs fv l) (hs : SkinR (rem (xb B a fv cs) h) r ve d S) (hpl : RL (RL isI) (rem (xb B a fv cs) h) pl (placesM S.rot)) (hne : ∀ y ∈ l, y.1 ≠ []) (hll : l.length ≤ 100000)
    (hr : RightS S) (hm : SmallM S) (hv : v < S.rot.length) (hi : i < dg S v ∨ dg S v = 0 ∧ i = 0) :
    AC Try.prog W0 28 [.pointer (some ⟨B, 0, none⟩), .pointer (some ⟨a, 0, none⟩), .int .i64 v, .int .i64 i] h fun x h' => x = .tuple #[] ∧ ∃ cs' fv', BS h' B a r ve d pl (wordsM S) cs' fv' (lT S v i l 2) ∧ Le (rem (xb B a fv cs) h) (rem (xb B a fv' cs') h') := by
  refine AC.vc (fn := Try.f28) (c := _) ⟨Try.func28, rfl, by decide⟩ Try.ntmps28 Try.results28 (by simp) fun hwf => ?_
  simp only [argFrame, argFrom, Nat.reduceAdd]
  have e0 : aBuild Try.prog 80 [(0, .bool false), (1, .bool true)] = some (.agg #[.bool false, .bool true]) := by rfl
  simp only [beq_dec, fst_mk, snd_mk, VK_skip, VK_ret, VK_exit, VK_seq, VK_block, VK_region, VK_draw, VK_cond, KCond_true, KCond_false, VK_loop, KN_nil, KN_seq, KN_blk, KX_ret_nil, KX_ret_seq, KX_ret_blk, KX_exit_nil, KX_exit_seq, KX_exit_blk, KE_normal, KE_ret, KE_exit, KO_nil, KO_cons, KO_app_cons, KO_app_nil, KO1_true, KO1_false, KO2_true, KO2_false, KO3_some, KO4_some, loopQ_ret, loopQ_exit, wantA, isCall, stepOp, evalO, evalL, evalP, evalM, putDst, flat, cond_true, cond_false, Nat.reduceLT, ↓reduceIte, Trie.get_set, Nat.reduceEqDiff, Nat.one_ne_zero, Nat.zero_ne_one, aBuiltin, abinG, guardFree, abin, aInt, aUn, aNilCheck, retQ, retQ1, aresults, aresultL, aresult, mkF, undefV, reduceCtorEq, List.getElem?_toArray, List.append_eq, List.cons_append, List.nil_append, List.getElem?_cons_zero, List.getElem?_cons_succ, Option.bind_some, Bool.not_true, Bool.not_false, beq_self_eq_true, aExtract, calleeOf, awrap_u8, Bool.true_beq, Bool.false_beq, beq_true, beq_false, decide_true, decide_false, Bool.not_not, Bool.and_true, Bool.true_and, Bool.and_false, Bool.false_and, e0]
  generalize hX : rem (xb B a fv cs) h = X at *
  refine KLoop.intro (fun k fr hh => ∃ (j : Nat) (cs fv : Value), k = 2 - j ∧ j ≤ 2 ∧ fr = mkF [(0, .pointer (some ⟨B, 0, none⟩)), (1, .pointer (some ⟨a, 0, none⟩)), (2, .int .i64 v), (3, .int .i64 i), (13, .agg #[.bool false, .bool true]), (14, .int .i64 j)] ∧
      BS hh B a r ve d pl (wordsM S) cs fv (lT S v i l j) ∧ Le X (rem (xb B a fv cs) hh))
    2 [(0, .pointer (some ⟨B, 0, none⟩)), (1, .pointer (some ⟨a, 0, none⟩)), (2, .int .i64 v), (3, .int .i64 i), (13, .agg #[.bool false, .bool true]), (14, .int .i64 (0 : Nat))] (by simp only [hasAll, beq_dec, fst_mk, snd_mk, VK_skip, VK_ret, VK_exit, VK_seq, VK_block, VK_region, VK_draw, VK_cond, KCond_true, KCond_false, VK_loop, KN_nil, KN_seq, KN_blk, KX_ret_nil, KX_ret_seq, KX_ret_blk, KX_exit_nil, KX_exit_seq, KX_exit_blk, KE_normal, KE_ret, KE_exit, KO_nil, KO_cons, KO_app_cons, KO_app_nil, KO1_true, KO1_false, KO2_true, KO2_false, KO3_some, KO4_some, loopQ_ret, loopQ_exit, wantA, isCall, stepOp, evalO, evalL, evalP, evalM, putDst, flat, cond_true, cond_false, Nat.reduceLT, ↓reduceIte, Trie.get_set, Nat.reduceEqDiff, Nat.one_ne_zero, Nat.zero_ne_one, aBuiltin, abinG, guardFree, abin, aInt, aUn, aNilCheck, retQ, retQ1, aresults, aresultL, aresult, mkF, undefV, reduceCtorEq, List.getElem?_toArray, List.append_eq, List.cons_append, List.nil_append, List.getElem?_cons_zero, List.getElem?_cons_succ, Option.bind_some, Bool.not_true, Bool.not_false, beq_self_eq_true, aExtract, calleeOf, awrap_u8, Bool.true_beq, Bool.false_beq, beq_true, beq_false, decide_true, decide_false, Bool.not_not, Bool.and_true, Bool.true_and, Bool.and_false, Bool.false_and]; simp) ⟨0, cs, fv, rfl, by omega, rfl, hb, hX ▸ Le.refl _⟩ ?_
  clear hb hX
  rintro k fr hh hwh ⟨j, cs, fv, rfl, hj, rfl, hb, hle⟩
  simp only [beq_dec, fst_mk, snd_mk, VK_skip, VK_ret, VK_exit, VK_seq, VK_block, VK_region, VK_draw, VK_cond, KCond_true, KCond_false, VK_loop, KN_nil, KN_seq, KN_blk, KX_ret_nil, KX_ret_seq, KX_ret_blk, KX_exit_nil, KX_exit_seq, KX_exit_blk, KE_normal, KE_ret, KE_exit, KO_nil, KO_cons, KO_app_cons, KO_app_nil, KO1_true, KO1_false, KO2_true, KO2_false, KO3_some, KO4_some, loopQ_ret, loopQ_exit, wantA, isCall, stepOp, evalO, evalL, evalP, evalM, putDst, flat, cond_true, cond_false, Nat.reduceLT, ↓reduceIte, Trie.get_set, Nat.reduceEqDiff, Nat.one_ne_zero, Nat.zero_ne_one, aBuiltin, abinG, guardFree, abin, aInt, aUn, aNilCheck, retQ, retQ1, aresults, aresultL, aresult, mkF, undefV, reduceCtorEq, List.getElem?_toArray, List.append_eq, List.cons_append, List.nil_append, List.getElem?_cons_zero, List.getElem?_cons_succ, Option.bind_some, Bool.not_true, Bool.not_false, beq_self_eq_true, aExtract, calleeOf, awrap_u8, Bool.true_beq, Bool.false_beq, beq_true, beq_false, decide_true, decide_false, Bool.not_not, Bool.and_true, Bool.true_and, Bool.and_false, Bool.false_and]
  refine KCond.intro (fun ht => ?_) (fun hf => ?_)
  rotate_left
  · have hj2 : j = 2 := by have := of_decide_eq_false hf; omega
    subst hj2
    simp only [beq_dec, fst_mk, snd_mk, VK_skip, VK_ret, VK_exit, VK_seq, VK_block, VK_region, VK_draw, VK_cond, KCond_true, KCond_false, VK_loop, KN_nil, KN_seq, KN_blk, KX_ret_nil, KX_ret_seq, KX_ret_blk, KX_exit_nil, KX_exit_seq, KX_exit_blk, KE_normal, KE_ret, KE_exit, KO_nil, KO_cons, KO_app_cons, KO_app_nil, KO1_true, KO1_false, KO2_true, KO2_false, KO3_some, KO4_some, loopQ_ret, loopQ_exit, wantA, isCall, stepOp, evalO, evalL, evalP, evalM, putDst, flat, cond_true, cond_false, Nat.reduceLT, ↓reduceIte, Trie.get_set, Nat.reduceEqDiff, Nat.one_ne_zero, Nat.zero_ne_one, aBuiltin, abinG, guardFree, abin, aInt, aUn, aNilCheck, retQ, retQ1, aresults, aresultL, aresult, mkF, undefV, reduceCtorEq, List.getElem?_toArray, List.append_eq, List.cons_append, List.nil_append, List.getElem?_cons_zero, List.getElem?_cons_succ, Option.bind_some, Bool.not_true, Bool.not_false, beq_self_eq_true, aExtract, calleeOf, awrap_u8, Bool.true_beq, Bool.false_beq, beq_true, beq_false, decide_true, decide_false, Bool.not_not, Bool.and_true, Bool.true_and, Bool.and_false, Bool.false_and]
    exact ⟨trivial, cs, fv, hb, hle⟩
  have hj2 : j < 2 := by have := of_decide_eq_true ht; omega
  have ei : aIndexV Try.prog 80 (.agg #[.bool false, .bool true]) (.int .i64 j) = some (.bool (j == 1)) := by
    rcases (by omega : j = 0 ∨ j = 1) with rfl | rfl <;> rfl
  have lB : aload Try.prog hh 43 ⟨B, 0, none⟩ = some fv := by rw [aload_one Try.underlying43 rfl hb.ob]; rfl
  have hlen := lT_length S v i l j
  have hnej := lT_ne (S := S) (v := v) (i := i) hne j
  have hlt : lT S v i l (j + 1) = stepT (lT S v i l j) (codeW S (j == 1) v i) := rfl
  generalize hl' : lT S v i l j = l' at *
  obtain ⟨vs, gf, el⟩ := hb.gs
  have lenf : aLen Try.prog hh 43 fv = some (.int .i64 l'.length) := by obtain ⟨q1, q2, rfl, _⟩ := gf.cs.sl; simp [aLen, Try.underlying43]
  have hxs : ∀ i ∈ spa a cs, i ∈ xb B a fv cs := fun i hi => mem_xb.2 (.inr (.inr hi))
  have leS : Le (rem (xb B a fv cs) hh) (rem (spa a cs) hh) := Le.sub_rem hxs
  -- the least code so far
  have hhead : (l' = [] ∧ hdC l' = none) ∨ ∃ p y ys id, l' = y :: ys ∧ hdC l' = some y.1 ∧ ElR (rem (xb B a fv cs) hh) p y ∧ aIndexAddr Try.prog 43 fv (.int .i64 0) = some (.pointer (some ⟨id, 0, none⟩)) ∧ aload Try.prog hh 34 ⟨id, 0, none⟩ = some p.1 := by
    cases l' with
    | nil => exact .inl ⟨rfl, rfl⟩
    | cons y ys =>
      have h0 : 0 < vs.length := by rw [el.1]; simp
      obtain ⟨id, q1, q2⟩ := first_code gf el.1 (List.getElem?_eq_getElem h0)
      exact .inr ⟨_, y, ys, id, rfl, rfl, el.2 0 _ y (List.getElem?_eq_getElem h0) rfl, q1, q2⟩
  have hlvx : ∃ lv : Value, LstR (rem (xb B a fv cs) hh) lv (hdC l') ∧ RL isB (rem (xb B a fv cs) hh) lv ((hdC l').getD []) ∧ ((l'.length = 0 ∧ lv = .slice none 0 0) ∨ (0 < l'.length ∧ ∃ id, aIndexAddr Try.prog 43 fv (.int .i64 0) = some (.pointer (some ⟨id, 0, none⟩)) ∧ aload Try.prog hh 34 ⟨id, 0, none⟩ = some lv)) := by
    rcases hhead with ⟨rfl, e⟩ | ⟨p, y, ys, id, rfl, e, q0, q1, q2⟩
    · exact ⟨.slice none 0 0, rfl, RL.nil, .inl ⟨rfl, rfl⟩⟩
    · exact ⟨p.1, by rw [e]; exact ⟨hnej y (by simp), q0.1⟩, by rw [e]; exact q0.1.rl, .inr ⟨by simp, id, q1, q2⟩⟩
  obtain ⟨lv, hL, hLB, hcase⟩ := hlvx
  simp only [beq_dec, fst_mk, snd_mk, VK_skip, VK_ret, VK_exit, VK_seq, VK_block, VK_region, VK_draw, VK_cond, KCond_true, KCond_false, VK_loop, KN_nil, KN_seq, KN_blk, KX_ret_nil, KX_ret_seq, KX_ret_blk, KX_exit_nil, KX_exit_seq, KX_exit_blk, KE_normal, KE_ret, KE_exit, KO_nil, KO_cons, KO_app_cons, KO_app_nil, KO1_true, KO1_false, KO2_true, KO2_false, KO3_some, KO4_some, loopQ_ret, loopQ_exit, wantA, isCall, stepOp, evalO, evalL, evalP, evalM, putDst, flat, cond_true, cond_false, Nat.reduceLT, ↓reduceIte, Trie.get_set, Nat.reduceEqDiff, Nat.one_ne_zero, Nat.zero_ne_one, aBuiltin, abinG, guardFree, abin, aInt, aUn, aNilCheck, retQ, retQ1, aresults, aresultL, aresult, mkF, undefV, reduceCtorEq, List.getElem?_toArray, List.append_eq, List.cons_append, List.nil_append, List.getElem?_cons_zero, List.getElem?_cons_succ, Option.bind_some, Bool.not_true, Bool.not_false, beq_self_eq_true, aExtract, calleeOf, awrap_u8, Bool.true_beq, Bool.false_beq, beq_true, beq_false, decide_true, decide_false, Bool.not_not, Bool.and_true, Bool.true_and, Bool.and_false, Bool.false_and, ei, fb0, aadd, Nat.zero_add, lB, lenf]
  rcases hcase with ⟨hl0, rfl⟩ | ⟨hl0, id, ix, lix⟩
  focus
    have c0 : ¬ (0 : Int) < (l'.length : Int) := by omega
    simp only [beq_dec, fst_mk, snd_mk, VK_skip, VK_ret, VK_exit, VK_seq, VK_block, VK_region, VK_draw, VK_cond, KCond_true, KCond_false, VK_loop, KN_nil, KN_seq, KN_blk, KX_ret_nil, KX_ret_seq, KX_ret_blk, KX_exit_nil, KX_exit_seq, KX_exit_blk, KE_normal, KE_ret, KE_exit, KO_nil, KO_cons, KO_app_cons, KO_app_nil, KO1_true, KO1_false, KO2_true, KO2_false, KO3_some, KO4_some, loopQ_ret, loopQ_exit, wantA, isCall, stepOp, evalO, evalL, evalP, evalM, putDst, flat, cond_true, cond_false, Nat.reduceLT, ↓reduceIte, Trie.get_set, Nat.reduceEqDiff, Nat.one_ne_zero, Nat.zero_ne_one, aBuiltin, abinG, guardFree, abin, aInt, aUn, aNilCheck, retQ, retQ1, aresults, aresultL, aresult, mkF, undefV, reduceCtorEq, List.getElem?_toArray, List.append_eq, List.cons_append, List.nil_append, List.getElem?_cons_zero, List.getElem?_cons_succ, Option.bind_some, Bool.not_true, Bool.not_false, beq_self_eq_true, aExtract, calleeOf, awrap_u8, Bool.true_beq, Bool.false_beq, beq_true, beq_false, decide_true, decide_false, Bool.not_not, Bool.and_true, Bool.true_and, Bool.and_false, Bool.false_and, eq_false c0]
  rotate_left
  focus
    have c0 : (0 : Int) < (l'.length : Int) := by omega
    simp only [beq_dec, fst_mk, snd_mk, VK_skip, VK_ret, VK_exit, VK_seq, VK_block, VK_region, VK_draw, VK_cond, KCond_true, KCond_false, VK_loop, KN_nil, KN_seq, KN_blk, KX_ret_nil, KX_ret_seq, KX_ret_blk, KX_exit_nil, KX_exit_seq, KX_exit_blk, KE_normal, KE_ret, KE_exit, KO_nil, KO_cons, KO_app_cons, KO_app_nil, KO1_true, KO1_false, KO2_true, KO2_false, KO3_some, KO4_some, loopQ_ret, loopQ_exit, wantA, isCall, stepOp, evalO, evalL, evalP, evalM, putDst, flat, cond_true, cond_false, Nat.reduceLT, ↓reduceIte, Trie.get_set, Nat.reduceEqDiff, Nat.one_ne_zero, Nat.zero_ne_one, aBuiltin, abinG, guardFree, abin, aInt, aUn, aNilCheck, retQ, retQ1, aresults, aresultL, aresult, mkF, undefV, reduceCtorEq, List.getElem?_toArray, List.append_eq, List.cons_append, List.nil_append, List.getElem?_cons_zero, List.getElem?_cons_succ, Option.bind_some, Bool.not_true, Bool.not_false, beq_self_eq_true, aExtract, calleeOf, awrap_u8, Bool.true_beq, Bool.false_beq, beq_true, beq_false, decide_true, decide_false, Bool.not_not, Bool.and_true, Bool.true_and, Bool.and_false, Bool.false_and, eq_true c0, fb0, aadd, Nat.zero_add, lB, ix, fw0, lix]
  rotate_left
  all_goals
    refine KCall.intro (by simp only [beq_dec, fst_mk, snd_mk, VK_skip, VK_ret, VK_exit, VK_seq, VK_block, VK_region, VK_draw, VK_cond, KCond_true, KCond_false, VK_loop, KN_nil, KN_seq, KN_blk, KX_ret_nil, KX_ret_seq, KX_ret_blk, KX_exit_nil, KX_exit_seq, KX_exit_blk, KE_normal, KE_ret, KE_exit, KO_nil, KO_cons, KO_app_cons, KO_app_nil, KO1_true, KO1_false, KO2_true, KO2_false, KO3_some, KO4_some, loopQ_ret, loopQ_exit, wantA, isCall, stepOp, evalO, evalL, evalP, evalM, putDst, flat, cond_true, cond_false, Nat.reduceLT, ↓reduceIte, Trie.get_set, Nat.reduceEqDiff, Nat.one_ne_zero, Nat.zero_ne_one, aBuiltin, abinG, guardFree, abin, aInt, aUn, aNilCheck, retQ, retQ1, aresults, aresultL, aresult, mkF, undefV, reduceCtorEq, List.getElem?_toArray, List.append_eq, List.cons_append, List.nil_append, List.getElem?_cons_zero, List.getElem?_cons_succ, Option.bind_some, Bool.not_true, Bool.not_false, beq_self_eq_true, aExtract, calleeOf, awrap_u8, Bool.true_beq, Bool.false_beq, beq_true, beq_false, decide_true, decide_false, Bool.not_not, Bool.and_true, Bool.true_and, Bool.and_false, Bool.false_and] <;> rfl) ⟨Try.func27, rfl, by decide⟩ (walk_any W0 hh a r ve d pl cs _ S (j == 1) v i (hdC l') hb.wk (hs.le (hle.trans leS)) (hpl.le (.RL .isI) (hle.trans leS)) (hL.le leS) hr hm hv hi) ?_
    rintro x h1 wf1 ⟨ok, cv, ov, cs1, rfl, wk1, le1, hres⟩
    obtain ⟨hb1, lex1⟩ := hb.walk wk1 le1
    have a2 := alloc36 h1
    have le2 : Le h1 (h1.alloc (.cells [.slice none 0 0, .slice none 0 0])) := (Le.refl h1).alloc wf1 _
    have ow2 : (h1.alloc (.cells [.slice none 0 0, .slice none 0 0])).own h1.next = some (.cells [.slice none 0 0, .slice none 0 0]) := AHeap.own_alloc_eq _ _
    have nw1 : h1.own h1.next = none := (Le.refl h1).next wf1 (Nat.le_refl _)
    have wf2 := wf1.alloc (.cells [.slice none 0 0, .slice none 0 0])
    have hsl : (∃ n, isSl cv n) ∧ (∃ n, isSl ov n) := by
      rcases hres with ⟨-, q1, q2, -⟩ | ⟨-, rfl, rfl, -⟩
      · exact ⟨⟨_, q1.1.cs.sl⟩, ⟨_, q2.cs.sl⟩⟩
      · exact ⟨⟨_, nilSl⟩, ⟨_, nilSl⟩⟩
    obtain ⟨⟨n1, sl1⟩, n2, sl2⟩ := hsl
    have s2 := store36 ow2 sl1 sl2
    have le3 : Le h1 ((h1.alloc (.cells [.slice none 0 0, .slice none 0 0])).put h1.next (.cells [cv, ov])) := le2.put _ nw1
    have ow3 : ((h1.alloc (.cells [.slice none 0 0, .slice none 0 0])).put h1.next (.cells [cv, ov])).own h1.next = some (.cells [cv, ov]) := AHeap.own_put_eq _ _ _
    have wf3 := wf2.put (.cells [cv, ov]) (wf2.lt ow2)
    simp only [beq_dec, fst_mk, snd_mk, VK_skip, VK_ret, VK_exit, VK_seq, VK_block, VK_region, VK_draw, VK_cond, KCond_true, KCond_false, VK_loop, KN_nil, KN_seq, KN_blk, KX_ret_nil, KX_ret_seq, KX_ret_blk, KX_exit_nil, KX_exit_seq, KX_exit_blk, KE_normal, KE_ret, KE_exit, KO_nil, KO_cons, KO_app_cons, KO_app_nil, KO1_true, KO1_false, KO2_true, KO2_false, KO3_some, KO4_some, loopQ_ret, loopQ_exit, wantA, isCall, stepOp, evalO, evalL, evalP, evalM, putDst, flat, cond_true, cond_false, Nat.reduceLT, ↓reduceIte, Trie.get_set, Nat.reduceEqDiff, Nat.one_ne_zero, Nat.zero_ne_one, aBuiltin, abinG, guardFree, abin, aInt, aUn, aNilCheck, retQ, retQ1, aresults, aresultL, aresult, mkF, undefV, reduceCtorEq, List.getElem?_toArray, List.append_eq, List.cons_append, List.nil_append, List.getElem?_cons_zero, List.getElem?_cons_succ, Option.bind_some, Bool.not_true, Bool.not_false, beq_self_eq_true, aExtract, calleeOf, awrap_u8, Bool.true_beq, Bool.false_beq, beq_true, beq_false, decide_true, decide_false, Bool.not_not, Bool.and_true, Bool.true_and, Bool.and_false, Bool.false_and, a2, s2]
    generalize (h1.alloc (.cells [.slice none 0 0, .slice none 0 0])).put h1.next (.cells [cv, ov]) = h3 at *
    generalize hw : h1.next = w at *
    have hb3 := hb1.up le3
    have lex3 := lex1.trans (le3.mono_rem (l := xb B a fv cs1))
    rcases hres with ⟨rfl, gcv, gov, acv, aov, hnl⟩ | ⟨rfl, -, -, y, hy, hlty⟩
    rotate_left
    · simp only [beq_dec, fst_mk, snd_mk, VK_skip, VK_ret, VK_exit, VK_seq, VK_block, VK_region, VK_draw, VK_cond, KCond_true, KCond_false, VK_loop, KN_nil, KN_seq, KN_blk, KX_ret_nil, KX_ret_seq, KX_ret_blk, KX_exit_nil, KX_exit_seq, KX_exit_blk, KE_normal, KE_ret, KE_exit, KO_nil, KO_cons, KO_app_cons, KO_app_nil, KO1_true, KO1_false, KO2_true, KO2_false, KO3_some, KO4_some, loopQ_ret, loopQ_exit, wantA, isCall, stepOp, evalO, evalL, evalP, evalM, putDst, flat, cond_true, cond_false, Nat.reduceLT, ↓reduceIte, Trie.get_set, Nat.reduceEqDiff, Nat.one_ne_zero, Nat.zero_ne_one, aBuiltin, abinG, guardFree, abin, aInt, aUn, aNilCheck, retQ, retQ1, aresults, aresultL, aresult, mkF, undefV, reduceCtorEq, List.getElem?_toArray, List.append_eq, List.cons_append, List.nil_append, List.getElem?_cons_zero, List.getElem?_cons_succ, Option.bind_some, Bool.not_true, Bool.not_false, beq_self_eq_true, aExtract, calleeOf, awrap_u8, Bool.true_beq, Bool.false_beq, beq_true, beq_false, decide_true, decide_false, Bool.not_not, Bool.and_true, Bool.true_and, Bool.and_false, Bool.false_and, awrap_succ j (by omega)]
      refine loop_again (2 - (j + 1)) [(0, .pointer (some ⟨B, 0, none⟩)), (1, .pointer (some ⟨a, 0, none⟩)), (2, .int .i64 v), (3, .int .i64 i), (13, .agg #[.bool false, .bool true]), (14, .int .i64 (j + 1 : Nat))] (by omega) (by simp only [hasAll, beq_dec, fst_mk, snd_mk, VK_skip, VK_ret, VK_exit, VK_seq, VK_block, VK_region, VK_draw, VK_cond, KCond_true, KCond_false, VK_loop, KN_nil, KN_seq, KN_blk, KX_ret_nil, KX_ret_seq, KX_ret_blk, KX_exit_nil, KX_exit_seq, KX_exit_blk, KE_normal, KE_ret, KE_exit, KO_nil, KO_cons, KO_app_cons, KO_app_nil, KO1_true, KO1_false, KO2_true, KO2_false, KO3_some, KO4_some, loopQ_ret, loopQ_exit, wantA, isCall, stepOp, evalO, evalL, evalP, evalM, putDst, flat, cond_true, cond_false, Nat.reduceLT, ↓reduceIte, Trie.get_set, Nat.reduceEqDiff, Nat.one_ne_zero, Nat.zero_ne_one, aBuiltin, abinG, guardFree, abin, aInt, aUn, aNilCheck, retQ, retQ1, aresults, aresultL, aresult, mkF, undefV, reduceCtorEq, List.getElem?_toArray, List.append_eq, List.cons_append, List.nil_append, List.getElem?_cons_zero, List.getElem?_cons_succ, Option.bind_some, Bool.not_true, Bool.not_false, beq_self_eq_true, aExtract, calleeOf, awrap_u8, Bool.true_beq, Bool.false_beq, beq_true, beq_false, decide_true, decide_false, Bool.not_not, Bool.and_true, Bool.true_and, Bool.and_false, Bool.false_and]; simp) ⟨j + 1, cs1, fv, rfl, by omega, rfl, ?_, hle.trans lex3⟩
      rw [hlt, stepT_keep hy (x := codeW S (j == 1) v i) hlty]
      exact hb3
    have lcw : aload Try.prog h3 34 ⟨w, 0, none⟩ = some cv := by rw [aload_one Try.underlying34 rfl ow3]; rfl
    have lww := load36 ow3
    simp only [beq_dec, fst_mk, snd_mk, VK_skip, VK_ret, VK_exit, VK_seq, VK_block, VK_region, VK_draw, VK_cond, KCond_true, KCond_false, VK_loop, KN_nil, KN_seq, KN_blk, KX_ret_nil, KX_ret_seq, KX_ret_blk, KX_exit_nil, KX_exit_seq, KX_exit_blk, KE_normal, KE_ret, KE_exit, KO_nil, KO_cons, KO_app_cons, KO_app_nil, KO1_true, KO1_false, KO2_true, KO2_false, KO3_some, KO4_some, loopQ_ret, loopQ_exit, wantA, isCall, stepOp, evalO, evalL, evalP, evalM, putDst, flat, cond_true, cond_false, Nat.reduceLT, ↓reduceIte, Trie.get_set, Nat.reduceEqDiff, Nat.one_ne_zero, Nat.zero_ne_one, aBuiltin, abinG, guardFree, abin, aInt, aUn, aNilCheck, retQ, retQ1, aresults, aresultL, aresult, mkF, undefV, reduceCtorEq, List.getElem?_toArray, List.append_eq, List.cons_append, List.nil_append, List.getElem?_cons_zero, List.getElem?_cons_succ, Option.bind_some, Bool.not_true, Bool.not_false, beq_self_eq_true, aExtract, calleeOf, awrap_u8, Bool.true_beq, Bool.false_beq, beq_true, beq_false, decide_true, decide_false, Bool.not_not, Bool.and_true, Bool.true_and, Bool.and_false, Bool.false_and, fw0, aadd, Nat.zero_add, lcw]
    refine KCall.intro (by simp only [beq_dec, fst_mk, snd_mk, VK_skip, VK_ret, VK_exit, VK_seq, VK_block, VK_region, VK_draw, VK_cond, KCond_true, KCond_false, VK_loop, KN_nil, KN_seq, KN_blk, KX_ret_nil, KX_ret_seq, KX_ret_blk, KX_exit_nil, KX_exit_seq, KX_exit_blk, KE_normal, KE_ret, KE_exit, KO_nil, KO_cons, KO_app_cons, KO_app_nil, KO1_true, KO1_false, KO2_true, KO2_false, KO3_some, KO4_some, loopQ_ret, loopQ_exit, wantA, isCall, stepOp, evalO, evalL, evalP, evalM, putDst, flat, cond_true, cond_false, Nat.reduceLT, ↓reduceIte, Trie.get_set, Nat.reduceEqDiff, Nat.one_ne_zero, Nat.zero_ne_one, aBuiltin, abinG, guardFree, abin, aInt, aUn, aNilCheck, retQ, retQ1, aresults, aresultL, aresult, mkF, undefV, reduceCtorEq, List.getElem?_toArray, List.append_eq, List.cons_append, List.nil_append, List.getElem?_cons_zero, List.getElem?_cons_succ, Option.bind_some, Bool.not_true, Bool.not_false, beq_self_eq_true, aExtract, calleeOf, awrap_u8, Bool.true_beq, Bool.false_beq, beq_true, beq_false, decide_true, decide_false, Bool.not_not, Bool.and_true, Bool.true_and, Bool.and_false, Bool.false_and] <;> rfl) ⟨Try.func44, rfl, by decide⟩ (Equal_any W0 cv _ (codeM S (j == 1) v i) ((hdC l').getD []) h3 (gcv.rl.le .isB ((rem_le _ _).trans le3)) (hLB.le .isB (lex3.trans (rem_le _ _)))) ?_
    rintro x h4 wf4 ⟨⟨beq, rfl, hbeq⟩, rfl⟩
    have dcv : ∀ {u : Value}, Apart (rem (spa a cs) hh) u → ∀ b, blk u = some b → b ≠ B ∧ blk fv ≠ some b := fun au b hbu => by
      have hnone := au b hbu
      refine ⟨fun e => ?_, fun e => ?_⟩
      · rw [e, rem_own, if_neg hb.nB, hb.ob] at hnone; cases hnone
      · rw [rem_own, if_neg (hb.dj b e).2] at hnone
        exact gf.blk_own e hnone
    have elx : ElR (rem (xb B a fv cs1) h4) (cv, ov) (codeW S (j == 1) v i) := by
      refine ⟨⟨((gcv.1.le ((rem_le _ _).trans le3)).to_rem fun b hbu hm => ?_), gcv.2⟩, (gov.le ((rem_le _ _).trans le3)).to_rem fun b hbu hm => ?_⟩
      · rcases mem_xb.1 hm with e | e | e
        · exact (dcv acv b hbu).1 e
        · exact (dcv acv b hbu).2 e
        · exact gcv.1.rem_blk hbu e
      · rcases mem_xb.1 hm with e | e | e
        · exact (dcv aov b hbu).1 e
        · exact (dcv aov b hbu).2 e
        · exact gov.rem_blk hbu e
    have hwn : w ∉ xb B a fv cs1 := fun hm => hb1.owned hm nw1
    have lB4 : aload Try.prog h4 43 ⟨B, 0, none⟩ = some fv := by rw [aload_one Try.underlying43 rfl hb3.ob]; rfl
    have hfin := stepT_new (x := codeW S (j == 1) v i) hnl
    cases beq with
    | true =>
      have heq := hbeq.1 rfl
      simp only [beq_dec, fst_mk, snd_mk, VK_skip, VK_ret, VK_exit, VK_seq, VK_block, VK_region, VK_draw, VK_cond, KCond_true, KCond_false, VK_loop, KN_nil, KN_seq, KN_blk, KX_ret_nil, KX_ret_seq, KX_ret_blk, KX_exit_nil, KX_exit_seq, KX_exit_blk, KE_normal, KE_ret, KE_exit, KO_nil, KO_cons, KO_app_cons, KO_app_nil, KO1_true, KO1_false, KO2_true, KO2_false, KO3_some, KO4_some, loopQ_ret, loopQ_exit, wantA, isCall, stepOp, evalO, evalL, evalP, evalM, putDst, flat, cond_true, cond_false, Nat.reduceLT, ↓reduceIte, Trie.get_set, Nat.reduceEqDiff, Nat.one_ne_zero, Nat.zero_ne_one, aBuiltin, abinG, guardFree, abin, aInt, aUn, aNilCheck, retQ, retQ1, aresults, aresultL, aresult, mkF, undefV, reduceCtorEq, List.getElem?_toArray, List.append_eq, List.cons_append, List.nil_append, List.getElem?_cons_zero, List.getElem?_cons_succ, Option.bind_some, Bool.not_true, Bool.not_false, beq_self_eq_true, aExtract, calleeOf, awrap_u8, Bool.true_beq, Bool.false_beq, beq_true, beq_false, decide_true, decide_false, Bool.not_not, Bool.and_true, Bool.true_and, Bool.and_false, Bool.false_and]
      obtain ⟨g1, fv', g2, g3, e1, e2, e3, k1, k2, k3, kk, hbz, lez⟩ := hb3.push wf4 elx (by omega)
      obtain ⟨w1, w2, w3⟩ := kk w _ ow3 hwn
      have q1 : aload Try.prog g1 43 ⟨B, 0, none⟩ = some fv := by rw [aload_one Try.underlying43 rfl k1]; rfl
      have q2 : aload Try.prog g2 43 ⟨B, 0, none⟩ = some fv := by rw [aload_one Try.underlying43 rfl k2]; rfl
      refine KDraw.intro mixed (.fl 0 (.fl 1 (.fl 2 (.fl 3 (.fl 4 (.fl 5 (.ch 6 [5] (.ch 7 [4, 6] (.fl 8 (.fl 9 (.ch 10 [0, 1, 2, 3, 4, 5, 6, 7, 9] (.done) .no))) .no) .no))))))) (by kernel_rfl) ?_
      simp only [beq_dec, fst_mk, snd_mk, VK_skip, VK_ret, VK_exit, VK_seq, VK_block, VK_region, VK_draw, VK_cond, KCond_true, KCond_false, VK_loop, KN_nil, KN_seq, KN_blk, KX_ret_nil, KX_ret_seq, KX_ret_blk, KX_exit_nil, KX_exit_seq, KX_exit_blk, KE_normal, KE_ret, KE_exit, KO_nil, KO_cons, KO_app_cons, KO_app_nil, KO1_true, KO1_false, KO2_true, KO2_false, KO3_some, KO4_some, loopQ_ret, loopQ_exit, wantA, isCall, stepOp, evalO, evalL, evalP, evalM, putDst, flat, cond_true, cond_false, Nat.reduceLT, ↓reduceIte, Trie.get_set, Nat.reduceEqDiff, Nat.one_ne_zero, Nat.zero_ne_one, aBuiltin, abinG, guardFree, abin, aInt, aUn, aNilCheck, retQ, retQ1, aresults, aresultL, aresult, mkF, undefV, reduceCtorEq, List.getElem?_toArray, List.append_eq, List.cons_append, List.nil_append, List.getElem?_cons_zero, List.getElem?_cons_succ, Option.bind_some, Bool.not_true, Bool.not_false, beq_self_eq_true, aExtract, calleeOf, awrap_u8, Bool.true_beq, Bool.false_beq, beq_true, beq_false, decide_true, decide_false, Bool.not_not, Bool.and_true, Bool.true_and, Bool.and_false, Bool.false_and, Nat.reduceBEq, Bool.or_self, Bool.false_eq_true, KD_done, KD_no, KD_fl, KF1_some, KF2_true, KF2_false, KF3_some, KF4_some, KD_ch, KG1_some, KG2_true, KG2_false, KG3_true, KG3_false, KG4_some, KG5_some, HoldsAll, Holds_eq, H1_some, H2_true, H2_false, H3_some, HD_some, HD_none, List.filter_nil, List.filter_cons, List.contains_cons, List.contains_nil, Bool.or_false, Bool.false_or, Bool.true_or, Bool.or_true, true_and, and_true, fb0, aadd, Nat.zero_add, lB4, lww, e1, e2, e3, q1, q2, load36 w1, load36 w2, load36 w3, awrap_succ j (by omega)]
      refine loop_again (2 - (j + 1)) [(0, .pointer (some ⟨B, 0, none⟩)), (1, .pointer (some ⟨a, 0, none⟩)), (2, .int .i64 v), (3, .int .i64 i), (13, .agg #[.bool false, .bool true]), (14, .int .i64 (j + 1 : Nat))] (by omega) (by simp only [hasAll, beq_dec, fst_mk, snd_mk, VK_skip, VK_ret, VK_exit, VK_seq, VK_block, VK_region, VK_draw, VK_cond, KCond_true, KCond_false, VK_loop, KN_nil, KN_seq, KN_blk, KX_ret_nil, KX_ret_seq, KX_ret_blk, KX_exit_nil, KX_exit_seq, KX_exit_blk, KE_normal, KE_ret, KE_exit, KO_nil, KO_cons, KO_app_cons, KO_app_nil, KO1_true, KO1_false, KO2_true, KO2_false, KO3_some, KO4_some, loopQ_ret, loopQ_exit, wantA, isCall, stepOp, evalO, evalL, evalP, evalM, putDst, flat, cond_true, cond_false, Nat.reduceLT, ↓reduceIte, Trie.get_set, Nat.reduceEqDiff, Nat.one_ne_zero, Nat.zero_ne_one, aBuiltin, abinG, guardFree, abin, aInt, aUn, aNilCheck, retQ, retQ1, aresults, aresultL, aresult, mkF, undefV, reduceCtorEq, List.getElem?_toArray, List.append_eq, List.cons_append, List.nil_append, List.getElem?_cons_zero, List.getElem?_cons_succ, Option.bind_some, Bool.not_true, Bool.not_false, beq_self_eq_true, aExtract, calleeOf, awrap_u8, Bool.true_beq, Bool.false_beq, beq_true, beq_false, decide_true, decide_false, Bool.not_not, Bool.and_true, Bool.true_and, Bool.and_false, Bool.false_and]; simp) ⟨j + 1, cs1, fv', rfl, by omega, rfl, ?_, (hle.trans lex3).trans lez⟩
      rw [hlt, hfin, if_pos (show (codeW S (j == 1) v i).1 = _ from heq)]
      exact hbz
    | false =>
      have hneq : ¬ codeM S (j == 1) v i = (hdC l').getD [] := fun e => by have := hbeq.2 e; cases this
      have st := aStore1 (P := Try.prog) (t := 43) (x := .slice none 0 0) Try.underlying43 (by kernel_rfl) hb3.ob (off := 0) (by simp) rfl rfl
      simp only [List.set_cons_zero] at st
      obtain ⟨hb5, le5⟩ := hb3.put_nil
      have wf5 := wf4.put (.cells [.slice none 0 0]) (wf4.lt hb3.ob)
      have ow5 : (h4.put B (.cells [.slice none 0 0])).own w = some (.cells [cv, ov]) := by rw [AHeap.own_put_ne _ _ _ _ (fun e => hwn (mem_xb.2 (.inl e)))]; exact ow3
      simp only [beq_dec, fst_mk, snd_mk, VK_skip, VK_ret, VK_exit, VK_seq, VK_block, VK_region, VK_draw, VK_cond, KCond_true, KCond_false, VK_loop, KN_nil, KN_seq, KN_blk, KX_ret_nil, KX_ret_seq, KX_ret_blk, KX_exit_nil, KX_exit_seq, KX_exit_blk, KE_normal, KE_ret, KE_exit, KO_nil, KO_cons, KO_app_cons, KO_app_nil, KO1_true, KO1_false, KO2_true, KO2_false, KO3_some, KO4_some, loopQ_ret, loopQ_exit, wantA, isCall, stepOp, evalO, evalL, evalP, evalM, putDst, flat, cond_true, cond_false, Nat.reduceLT, ↓reduceIte, Trie.get_set, Nat.reduceEqDiff, Nat.one_ne_zero, Nat.zero_ne_one, aBuiltin, abinG, guardFree, abin, aInt, aUn, aNilCheck, retQ, retQ1, aresults, aresultL, aresult, mkF, undefV, reduceCtorEq, List.getElem?_toArray, List.append_eq, List.cons_append, List.nil_append, List.getElem?_cons_zero, List.getElem?_cons_succ, Option.bind_some, Bool.not_true, Bool.not_false, beq_self_eq_true, aExtract, calleeOf, awrap_u8, Bool.true_beq, Bool.false_beq, beq_true, beq_false, decide_true, decide_false, Bool.not_not, Bool.and_true, Bool.true_and, Bool.and_false, Bool.false_and, fb0, aadd, Nat.zero_add, st]
      generalize h4.put B (.cells [.slice none 0 0]) = h5 at *
      have hwn5 : w ∉ xb B a (.slice none 0 0) cs1 := fun hm => by
        rcases mem_xb.1 hm with e | e | e
        · exact hwn (mem_xb.2 (.inl e))
        · simp [blk] at e
        · exact hwn (mem_xb.2 (.inr (.inr e)))
      have lB5 : aload Try.prog h5 43 ⟨B, 0, none⟩ = some (.slice none 0 0) := by rw [aload_one Try.underlying43 rfl hb5.ob]; rfl
      obtain ⟨g1, fv', g2, g3, e1, e2, e3, k1, k2, k3, kk, hbz, lez⟩ := hb5.push wf5 (elx.le le5) (by simp)
      obtain ⟨w1, w2, w3⟩ := kk w _ ow5 hwn5
      have q1 : aload Try.prog g1 43 ⟨B, 0, none⟩ = some (.slice none 0 0) := by rw [aload_one Try.underlying43 rfl k1]; rfl
      have q2 : aload Try.prog g2 43 ⟨B, 0, none⟩ = some (.slice none 0 0) := by rw [aload_one Try.underlying43 rfl k2]; rfl
      refine KDraw.intro mixed (.fl 0 (.fl 1 (.fl 2 (.fl 3 (.fl 4 (.fl 5 (.ch 6 [5] (.ch 7 [4, 6] (.fl 8 (.fl 9 (.ch 10 [0, 1, 2, 3, 4, 5, 6, 7, 9] (.done) .no))) .no) .no))))))) (by kernel_rfl) ?_
      simp only [beq_dec, fst_mk, snd_mk, VK_skip, VK_ret, VK_exit, VK_seq, VK_block, VK_region, VK_draw, VK_cond, KCond_true, KCond_false, VK_loop, KN_nil, KN_seq, KN_blk, KX_ret_nil, KX_ret_seq, KX_ret_blk, KX_exit_nil, KX_exit_seq, KX_exit_blk, KE_normal, KE_ret, KE_exit, KO_nil, KO_cons, KO_app_cons, KO_app_nil, KO1_true, KO1_false, KO2_true, KO2_false, KO3_some, KO4_some, loopQ_ret, loopQ_exit, wantA, isCall, stepOp, evalO, evalL, evalP, evalM, putDst, flat, cond_true, cond_false, Nat.reduceLT, ↓reduceIte, Trie.get_set, Nat.reduceEqDiff, Nat.one_ne_zero, Nat.zero_ne_one, aBuiltin, abinG, guardFree, abin, aInt, aUn, aNilCheck, retQ, retQ1, aresults, aresultL, aresult, mkF, undefV, reduceCtorEq, List.getElem?_toArray, List.append_eq, List.cons_append, List.nil_append, List.getElem?_cons_zero, List.getElem?_cons_succ, Option.bind_some, Bool.not_true, Bool.not_false, beq_self_eq_true, aExtract, calleeOf, awrap_u8, Bool.true_beq, Bool.false_beq, beq_true, beq_false, decide_true, decide_false, Bool.not_not, Bool.and_true, Bool.true_and, Bool.and_false, Bool.false_and, Nat.reduceBEq, Bool.or_self, Bool.false_eq_true, KD_done, KD_no, KD_fl, KF1_some, KF2_true, KF2_false, KF3_some, KF4_some, KD_ch, KG1_some, KG2_true, KG2_false, KG3_true, KG3_false, KG4_some, KG5_some, HoldsAll, Holds_eq, H1_some, H2_true, H2_false, H3_some, HD_some, HD_none, List.filter_nil, List.filter_cons, List.contains_cons, List.contains_nil, Bool.or_false, Bool.false_or, Bool.true_or, Bool.or_true, true_and, and_true, fb0, aadd, Nat.zero_add, lB5, load36 ow5, e1, e2, e3, q1, q2, load36 w1, load36 w2, load36 w3, awrap_succ j (by omega)]
      refine loop_again (2 - (j + 1)) [(0, .pointer (some ⟨B, 0, none⟩)), (1, .pointer (some ⟨a, 0, none⟩)), (2, .int .i64 v), (3, .int .i64 i), (13, .agg #[.bool false, .bool true]), (14, .int .i64 (j + 1 : Nat))] (by omega) (by simp only [hasAll, beq_dec, fst_mk, snd_mk, VK_skip, VK_ret, VK_exit, VK_seq, VK_block, VK_region, VK_draw, VK_cond, KCond_true, KCond_false, VK_loop, KN_nil, KN_seq, KN_blk, KX_ret_nil, KX_ret_seq, KX_ret_blk, KX_exit_nil, KX_exit_seq, KX_exit_blk, KE_normal, KE_ret, KE_exit, KO_nil, KO_cons, KO_app_cons, KO_app_nil, KO1_true, KO1_false, KO2_true, KO2_false, KO3_some, KO4_some, loopQ_ret, loopQ_exit, wantA, isCall, stepOp, evalO, evalL, evalP, evalM, putDst, flat, cond_true, cond_false, Nat.reduceLT, ↓reduceIte, Trie.get_set, Nat.reduceEqDiff, Nat.one_ne_zero, Nat.zero_ne_one, aBuiltin, abinG, guardFree, abin, aInt, aUn, aNilCheck, retQ, retQ1, aresults, aresultL, aresult, mkF, undefV, reduceCtorEq, List.getElem?_toArray, List.append_eq, List.cons_append, List.nil_append, List.getElem?_cons_zero, List.getElem?_cons_succ, Option.bind_some, Bool.not_true, Bool.not_false, beq_self_eq_true, aExtract, calleeOf, awrap_u8, Bool.true_beq, Bool.false_beq, beq_true, beq_false, decide_true, decide_false, Bool.not_not, Bool.and_true, Bool.true_and, Bool.and_false, Bool.false_and]; simp) ⟨j + 1, cs1, fv', rfl, by omega, rfl, ?_, ((hle.trans lex3).trans le5).trans lez⟩
      rw [hlt, hfin, if_neg (show ¬ (codeW S (j == 1) v i).1 = _ from hneq)]
      exact hbz

end Go.Fw
