/- A text of the proof. -/
import Derived.Test.YtnaahaldkpdjlaaFwLF13
set_option linter.unusedSimpArgs false
set_option linter.unusedVariables false
namespace Go.Fw
set_option maxHeartbeats 4000000
set_option maxRecDepth 10000
attribute [local instance] Classical.propDecidable
theorem sum_indP {P : Nat → Prop} : ∀ (hs : List Nat), hs.Nodup → (∃ a ∈ hs, P a) → (∀ a ∈ hs, ∀ b ∈ hs, P a → P b → a = b) → (hs.map fun a => if P a then 1 else 0).sum = 1
 | [], _, h, _ => by obtain ⟨a, ha, _⟩ := h; cases ha
 | x :: hs, nd, h, u => by
  rw [List.nodup_cons] at nd
  rw [List.map_cons, List.sum_cons]
  by_cases c : P x
  ·have z : ∀ a ∈ hs, ¬ P a := fun a ha hp => nd.1 (by rw [u x List.mem_cons_self a (List.mem_cons_of_mem _ ha) c hp]; exact ha)
   have : ∀ l : List Nat, (∀ a ∈ l, ¬ P a) → (l.map fun a => if P a then 1 else 0).sum = 0 := by
    intro l
    induction l with
    | nil => intro _; rfl
    | cons y l ih => intro hl; rw [List.map_cons, List.sum_cons, if_neg (hl y List.mem_cons_self), ih fun a ha => hl a (List.mem_cons_of_mem _ ha)]
   rw [if_pos c, this hs z]
  ·rw [if_neg c, sum_indP hs nd.2 ?_ fun a ha b hb => u a (List.mem_cons_of_mem _ ha) b (List.mem_cons_of_mem _ hb)]
   obtain ⟨a, ha, hp⟩ := h
   rcases List.mem_cons.1 ha with rfl | ha
   ·exact absurd hp c
   ·exact ⟨a, ha, hp⟩
theorem sum_addP (f g : Nat → Nat) : ∀ l : List Nat, (l.map fun a => f a + g a).sum = (l.map f).sum + (l.map g).sum
 | [] => rfl
 | x :: l => by simp only [List.map_cons, List.sum_cons, sum_addP f g l]; omega
theorem sum_cnt {α : Type} {P : Nat → α → Prop} {hs : List Nat} (nd : hs.Nodup) : ∀ (l : List α), (∀ e ∈ l, ∃ a ∈ hs, P a e) → (∀ e ∈ l, ∀ a ∈ hs, ∀ b ∈ hs, P a e → P b e → a = b) → (hs.map fun a => cntK P l a).sum = l.length
 | [], _, _ => by
  have : ∀ l : List Nat, (l.map fun a => cntK P ([] : List α) a).sum = 0 := by
   intro l
   induction l with
   | nil => rfl
   | cons x l ih => rw [List.map_cons, List.sum_cons, ih]; rfl
  exact this hs
 | e :: l, h, u => by
  have ih := sum_cnt nd l (fun x hx => h x (List.mem_cons_of_mem _ hx)) fun x hx => u x (List.mem_cons_of_mem _ hx)
  have e1 : ∀ a, cntK P (e :: l) a = (if P a e then 1 else 0) + cntK P l a := fun a => by
   unfold cntK
   by_cases c : P a e
   ·rw [List.filter_cons_of_pos (by simpa using c), if_pos c, List.length_cons]; omega
   ·rw [List.filter_cons_of_neg (by simpa using c), if_neg c]; omega
  simp only [e1]
  rw [sum_addP, ih, sum_indP (P := fun a => P a e) hs nd (h e List.mem_cons_self) (u e List.mem_cons_self), List.length_cons]; omega
theorem sum_filter (l : List Nat) (p : Nat → Prop) [DecidablePred p] : (l.map fun a => if p a then 1 else 0).sum = (l.filter fun a => decide (p a)).length := by
 induction l with
 | nil => rfl
 | cons x l ih =>
  rw [List.map_cons, List.sum_cons, ih]
  by_cases c : p x
  ·rw [if_pos c, List.filter_cons_of_pos (by simpa using c), List.length_cons]; omega
  ·rw [if_neg c, List.filter_cons_of_neg (by simpa using c)]; omega
section
variable {n : Nat} {es : List Pr} {rs : List (List Int)}
theorem head_one (hr : InR n es) {v : Nat} (hv : v < n) : (∃ a ∈ heads n es, Con es a v) ∧ ∀ a ∈ heads n es, ∀ b ∈ heads n es, Con es a v → Con es b v → a = b :=
 ⟨head_ex hr v hv, fun _ ha _ hb h1 h2 => heads_uniq ha hb (h1.trans h2.symm)⟩
theorem sum_verts (hr : InR n es) : ((heads n es).map fun a => (compL n es a).length).sum = n := by
 have := sum_cnt (P := fun a v => Con es a v) (heads_nodup n es) (List.range n) (fun v hv => (head_one hr (List.mem_range.1 hv)).1) fun v hv => (head_one hr (List.mem_range.1 hv)).2
 rw [List.length_range] at this
 unfold cntK at this
 unfold compL
 exact this
theorem sum_edges (hr : InR n es) : ((heads n es).map fun a => edK es es a).sum = es.length := by
 have hv : ∀ e ∈ es, e.1.toNat < n := fun e he => by have := hr e he; omega
 unfold edK
 exact sum_cnt (heads_nodup n es) es (fun e he => (head_one hr (hv e he)).1) fun e he => (head_one hr (hv e he)).2
theorem sum_faces (hr : InR n es) (ha : Asc es) (G : RotG n es rs) : ((heads n es).map fun a => faK es (facesM n rs) a).sum = (facesM n rs).length := by
 have hv : ∀ f ∈ facesM n rs, (f.headD 0).toNat < n := fun f hf => by obtain ⟨_, v, hv, e⟩ := faces_at hr ha G hf; rw [e]; simpa using hv
 unfold faK
 exact sum_cnt (heads_nodup n es) (facesM n rs) (fun e he => (head_one hr (hv e he)).1) fun e he => (head_one hr (hv e he)).2
theorem ed_pos (hr : InR n es) {a : Nat} (han : a < n) : 0 < edK es es a ↔ 1 < (compL n es a).length := by
 have nd : (compL n es a).Nodup := by unfold compL; exact List.nodup_range.sublist List.filter_sublist
 constructor
 ·intro h
  unfold edK cntK at h
  obtain ⟨e, he⟩ := List.exists_mem_of_length_pos h
  rw [List.mem_filter, decide_eq_true_eq] at he
  have h1 := hr e he.1
  have h2 : Con es a e.2.toNat := he.2.step (.inl (by rw [Int.toNat_of_nonneg (by omega), Int.toNat_of_nonneg (by omega)]; exact he.1)) rfl
  have := sub_len (A := [e.1.toNat, e.2.toNat]) (B := compL n es a) (by simp; omega) fun x hx => by
   simp only [List.mem_cons, List.not_mem_nil, or_false] at hx
   rcases hx with rfl | rfl
   ·exact mem_compL.2 ⟨by omega, he.2⟩
   ·exact mem_compL.2 ⟨by omega, h2⟩
  simp only [List.length_cons, List.length_nil] at this; omega
 ·intro h
  have : ∃ v ∈ compL n es a, v ≠ a := Classical.byContradiction fun hc => by
   have hall : ∀ v ∈ compL n es a, v = a := fun v hv => Classical.byContradiction fun q => hc ⟨v, hv, q⟩
   have := one_len nd (mem_compL.2 ⟨han, Con.refl es a⟩) hall
   omega
  obtain ⟨v, hv, hne⟩ := this
  obtain ⟨w, hw⟩ := (con_first (mem_compL.1 hv).2 (Ne.symm hne)).1
  unfold edK cntK
  have : ∃ e ∈ es, Con es a e.1.toNat := by
   rcases hw with hw | hw
   ·exact ⟨_, hw, by simpa using Con.refl es a⟩
   ·exact ⟨_, hw, by simpa using con_adj (.inr hw)⟩
  obtain ⟨e, he, hc⟩ := this
  exact List.length_pos_of_mem (List.mem_filter.2 ⟨he, by simpa using hc⟩)
end
end Go.Fw
namespace Go.Fw
open Go.Proofs
attribute [local irreducible] KO4 KO3 KO2 KO1 KO KN KX KE VK KCond KDraw KCall KLoop
set_option maxHeartbeats 16000000
set_option maxRecDepth 10000
attribute [local instance] Classical.propDecidable
theorem CloneI_any (W0 : Base) (v : Value) (xs : List Int) (h : AHeap) (hv : RL isI h v xs) (hn : xs.length ≤ 100000) : AC Try.prog W0 82 [v] h fun x h' => GI h' x xs ∧ Le h h' ∧ Apart h x := by
 obtain ⟨a, c, rfl, hs⟩ := hv.sl
 refine AC.vc (fn := Try.f82) (c := _) ⟨Try.func82, rfl, by decide⟩ Try.ntmps82 Try.results82 (by simp) fun hwf => ?_
 simp only [argFrame, argFrom, Nat.reduceAdd]
 cases a with
 | none =>
  have h0 : xs = [] := by
   cases xs with
   | nil => rfl
   | cons x l => exact absurd (hs (by simp)) (by simp)
  subst h0
  simp only [kS1, bLookup, bMapSet, wantA, isCall, stepOp, evalO, evalL, evalP, evalM, putDst, flat, kA, kB, Nat.reduceLT, ↓reduceIte, kC, Nat.reduceEqDiff, aBuiltin, abinG, guardFree, abin, aInt, aUn, aNilCheck, retQ, retQ1, aresults, aresultL, aresult, mkF, undefV, reduceCtorEq, kD, kE, kF, kG, kH, kI, kJ, kK, aExtract, calleeOf, aEq, Try.underlying38, Option.isNone_none]
  exact ⟨GI.nil _, Le.refl _, fun b hb => by simp [blk] at hb⟩
 | some a =>
  obtain ⟨h1, e1, l1, w1, o1⟩ := alloc_f hwf []
  have mk : aBuildSlice Try.prog h 38 0 [] = some (.slice (some ⟨h.next, 0, none⟩) 0 0, h1) := by rw [← e1]; rfl
  have nw : h.own h.next = none := (Le.refl h).next hwf (Nat.le_refl _)
  have g0 : GI h1 (.slice (some ⟨h.next, 0, none⟩) 0 0) [] := GS.full o1 rfl (by decide)
  have a0 : Apart h (.slice (some ⟨h.next, 0, none⟩) 0 0) := fun b hb => by injection hb with hb; subst hb; exact nw
  obtain ⟨jv, h6, e6, g6, w6, f6, -⟩ := GI.join g0 w1 (hv.le Stays.isI l1) (by simp; omega)
  obtain ⟨l6, aj⟩ := f6 h l1 a0
  simp only [kS1, bLookup, bMapSet, wantA, isCall, stepOp, evalO, evalL, evalP, evalM, putDst, flat, kA, kB, Nat.reduceLT, ↓reduceIte, kC, Nat.reduceEqDiff, aBuiltin, abinG, guardFree, abin, aInt, aUn, aNilCheck, retQ, retQ1, aresults, aresultL, aresult, mkF, undefV, reduceCtorEq, kD, kE, kF, kG, kH, kI, kJ, kK, aExtract, calleeOf, aEq, Try.underlying38, Option.isNone_some, mk, e6]
  exact ⟨by simpa using g6, l6, aj⟩
end Go.Fw
namespace Go.Fw
open Go.Proofs
set_option maxHeartbeats 16000000
set_option maxRecDepth 10000
attribute [local instance] Classical.propDecidable
def RevK (xs ys : List Int) (i : Nat) : Prop := ys.length = xs.length ∧ ∀ p, p < xs.length → ys[p]? = if p < i ∨ xs.length - i ≤ p then xs[xs.length - 1 - p]? else xs[p]?
theorem RevK.zero (xs : List Int) : RevK xs xs 0 := ⟨rfl, fun p hp => by rw [if_neg (by omega)]⟩
theorem RevK.fin {xs ys : List Int} {i : Nat} (R : RevK xs ys i) (h : xs.length ≤ 2 * i + 1) : ys = xs.reverse := by
 apply List.ext_getElem?
 intro p
 by_cases hp : p < xs.length
 ·rw [R.2 p hp, List.getElem?_reverse hp]
  split
  ·rfl
  ·congr 1; omega
 ·rw [List.getElem?_eq_none (by rw [R.1]; omega), List.getElem?_eq_none (by rw [List.length_reverse]; omega)]
theorem RevK.step {xs ys : List Int} {i : Nat} (R : RevK xs ys i) (h : 2 * i + 1 < xs.length) (h1 : i < ys.length) (h2 : xs.length - 1 - i < ys.length) :
  RevK xs ((ys.set i ys[xs.length - 1 - i]).set (xs.length - 1 - i) ys[i]) (i + 1) := by
 refine ⟨by simp [R.1], fun p hp => ?_⟩
 have e1 : ys[xs.length - 1 - i]? = xs[xs.length - 1 - i]? := by rw [R.2 _ (by omega), if_neg (by omega)]
 have e2 : ys[i]? = xs[i]? := by rw [R.2 _ (by omega), if_neg (by omega)]
 rw [List.getElem?_eq_getElem h2] at e1
 rw [List.getElem?_eq_getElem h1] at e2
 by_cases c1 : p = xs.length - 1 - i
 ·subst c1
  rw [List.getElem?_set_self (by simp; omega), if_pos (by omega), e2]; congr 1; omega
 ·rw [List.getElem?_set_ne (Ne.symm c1)]
  by_cases c2 : p = i
  ·subst c2
   rw [List.getElem?_set_self h1, if_pos (by omega), e1]
  ·rw [List.getElem?_set_ne (Ne.symm c2), R.2 p hp]
   by_cases c3 : p < i ∨ xs.length - i ≤ p
   ·rw [if_pos c3, if_pos (by omega)]
   ·rw [if_neg c3, if_neg (by omega)]
end Go.Fw
namespace Go.Fw
open Go.Proofs
attribute [local irreducible] KO4 KO3 KO2 KO1 KO KN KX KE VK KCond KDraw KCall KLoop
set_option maxHeartbeats 16000000
set_option maxRecDepth 10000
attribute [local instance] Classical.propDecidable
theorem ReverseI_any (W0 : Base) (u : Value) (xs : List Int) (h : AHeap) (g : GI h u xs) (hn : xs.length ≤ 100000) :
  AC Try.prog W0 83 [u] h fun _ h' => GI h' u xs.reverse ∧ (∀ f, Le f h → Apart f u → Le f h') ∧ ∀ b o, h.own b = some o → blk u ≠ some b → h'.own b = some o := by
 refine AC.vc (fn := Try.f83) (c := _) ⟨Try.func83, rfl, by decide⟩ Try.ntmps83 Try.results83 (by simp) fun hwf => ?_
 simp only [argFrame, argFrom, Nat.reduceAdd]
 have lu := fun g' => (GI.rl g).len (P := Try.prog) Try.underlying38 g'
 have w0 : awrap .i64 ((xs.length : Int) - 1) = (xs.length : Int) - 1 - ((0 : Nat) : Int) := by rw [awrap_i64 _ (by omega) (by omega)]; omega
 simp only [kS1, bLookup, bMapSet, wantA, isCall, stepOp, evalO, evalL, evalP, evalM, putDst, flat, kA, kB, Nat.reduceLT, ↓reduceIte, kC, Nat.reduceEqDiff, aBuiltin, abinG, guardFree, abin, aInt, aUn, aNilCheck, retQ, retQ1, aresults, aresultL, aresult, mkF, undefV, reduceCtorEq, kD, kE, kF, kG, kH, kI, kJ, kK, aExtract, calleeOf, lu, w0]
 refine KLoop.intro (fun k fr hq => ∃ (i : Nat) (ys : List Int), k = xs.length - i ∧ 2 * i ≤ xs.length ∧ fr = mkF [(0, u), (2, .int .i64 i), (3, .int .i64 ((xs.length : Int) - 1 - (i : Int)))] ∧ RevK xs ys i ∧ GI hq u ys ∧ (∀ f, Le f h → Apart f u → Le f hq) ∧ ∀ b o, h.own b = some o → blk u ≠ some b → hq.own b = some o)
  xs.length [(0, u), (2, .int .i64 (0 : Nat)), (3, .int .i64 ((xs.length : Int) - 1 - ((0 : Nat) : Int)))] (by simp only [hasAll, kS1, bLookup, bMapSet, wantA, isCall, stepOp, evalO, evalL, evalP, evalM, putDst, flat, kA, kB, Nat.reduceLT, ↓reduceIte, kC, Nat.reduceEqDiff, aBuiltin, abinG, guardFree, abin, aInt, aUn, aNilCheck, retQ, retQ1, aresults, aresultL, aresult, mkF, undefV, reduceCtorEq, kD, kE, kF, kG, kH, kI, kJ, kK, aExtract, calleeOf]; simp)
  ⟨0, xs, rfl, Nat.zero_le _, rfl, RevK.zero xs, g, fun f lf _ => lf, fun b o hb _ => hb⟩ ?_
 rintro k fr hq hwq ⟨i, ys, rfl, hi, rfl, R, gq, lq, kq⟩
 by_cases c : 2 * i + 1 < xs.length
 ·have d : decide ((i : Int) < (xs.length : Int) - 1 - (i : Int)) = true := decide_eq_true (by omega)
  have hj : (xs.length : Int) - 1 - (i : Int) = ((xs.length - 1 - i : Nat) : Int) := by omega
  have h1 : i < ys.length := by rw [R.1]; omega
  have h2 : xs.length - 1 - i < ys.length := by rw [R.1]; omega
  have ru := GI.rl gq
  have ad1 := ru.addr (P := Try.prog) Try.underlying38 Try.underlying3 (by kernel_rfl) (k := .i64) i h1
  have ad2 := ru.addr (P := Try.prog) Try.underlying38 Try.underlying3 (by kernel_rfl) (k := .i64) _ h2
  have ld1 := ru.loadI (P := Try.prog) Try.underlying3 rfl i h1
  have ld2 := ru.loadI (P := Try.prog) Try.underlying3 rfl _ h2
  obtain ⟨h5, e5, g5, w5, l5, k5⟩ := GI.store gq hwq h1 ys[xs.length - 1 - i]
  obtain ⟨h6, e6, g6, w6, l6, k6⟩ := GI.store g5 w5 (i := xs.length - 1 - i) (by rw [List.length_set]; exact h2) ys[i]
  have R6 := R.step c h1 h2
  have hwi := awrap_succ i (by omega)
  have hwj : awrap .i64 ((xs.length : Int) - 1 - (i : Int) - 1) = (xs.length : Int) - 1 - ((i + 1 : Nat) : Int) := by rw [awrap_i64 _ (by omega) (by omega)]; omega
  rw [← hj] at ad2
  simp only [kS1, bLookup, bMapSet, wantA, isCall, stepOp, evalO, evalL, evalP, evalM, putDst, flat, kA, kB, Nat.reduceLT, ↓reduceIte, kC, Nat.reduceEqDiff, aBuiltin, abinG, guardFree, abin, aInt, aUn, aNilCheck, retQ, retQ1, aresults, aresultL, aresult, mkF, undefV, reduceCtorEq, kD, kE, kF, kG, kH, kI, kJ, kK, aExtract, calleeOf, d]
  refine KDraw.intro mixed (.fl 0 (.fl 1 (.fl 2 (.fl 3 (.fl 4 (.fl 5 (.fl 6 (.fl 7 (.fl 8 (.fl 9 (.fl 10 (.fl 11 (.fl 12 (.ch 13 [0, 1, 4, 5, 6, 7, 11, 12] (.fl 14 (.ch 15 [0, 1, 2, 3, 4, 5, 6, 7, 8, 9, 10, 11, 12, 13, 14] (.done) .no)) .no)))))))))))))) (by kernel_rfl) ?_
  simp only [kS1, bLookup, bMapSet, wantA, isCall, stepOp, evalO, evalL, evalP, evalM, putDst, flat, kA, kB, Nat.reduceLT, ↓reduceIte, kC, Nat.reduceEqDiff, aBuiltin, abinG, guardFree, abin, aInt, aUn, aNilCheck, retQ, retQ1, aresults, aresultL, aresult, mkF, undefV, reduceCtorEq, kD, kE, kF, kG, kH, kI, kJ, kK, aExtract, calleeOf, kD1, Nat.reduceBEq, HoldsAll, kL, kM, kN, kO, ad1, ad2, ld1, ld2, e5, e6, hwi, hwj]
  exact loop_again (xs.length - (i + 1)) [(0, u), (2, .int .i64 (i + 1 : Nat)), (3, .int .i64 ((xs.length : Int) - 1 - ((i + 1 : Nat) : Int)))] (stp (by omega)) (by simp only [hasAll, kS1, bLookup, bMapSet, wantA, isCall, stepOp, evalO, evalL, evalP, evalM, putDst, flat, kA, kB, Nat.reduceLT, ↓reduceIte, kC, Nat.reduceEqDiff, aBuiltin, abinG, guardFree, abin, aInt, aUn, aNilCheck, retQ, retQ1, aresults, aresultL, aresult, mkF, undefV, reduceCtorEq, kD, kE, kF, kG, kH, kI, kJ, kK, aExtract, calleeOf]; simp)
   ⟨i + 1, _, rfl, by omega, rfl, R6, g6, fun f lf af => l6 f (l5 f (lq f lf af) af) af, fun b o hb hn' => k6 b o (k5 b o (kq b o hb hn') hn') hn'⟩
 ·have d : decide ((i : Int) < (xs.length : Int) - 1 - (i : Int)) = false := decide_eq_false (by omega)
  simp only [kS1, bLookup, bMapSet, wantA, isCall, stepOp, evalO, evalL, evalP, evalM, putDst, flat, kA, kB, Nat.reduceLT, ↓reduceIte, kC, Nat.reduceEqDiff, aBuiltin, abinG, guardFree, abin, aInt, aUn, aNilCheck, retQ, retQ1, aresults, aresultL, aresult, mkF, undefV, reduceCtorEq, kD, kE, kF, kG, kH, kI, kJ, kK, aExtract, calleeOf, d]
  obtain rfl := R.fin (by omega)
  exact ⟨gq, lq, kq⟩
end Go.Fw
