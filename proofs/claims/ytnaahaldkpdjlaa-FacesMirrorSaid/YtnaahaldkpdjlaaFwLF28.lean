/- A text of the proof. -/
import Derived.Test.YtnaahaldkpdjlaaFwLF19
import Derived.Test.YtnaahaldkpdjlaaFwPla
set_option linter.unusedSimpArgs false
set_option linter.unusedVariables false
namespace Go.Fw
open Go.Proofs
attribute [local irreducible] KO4 KO3 KO2 KO1 KO KN KX KE VK KCond KDraw KCall KLoop
set_option maxHeartbeats 16000000
set_option maxRecDepth 10000
attribute [local instance] Classical.propDecidable
theorem Mirror_any (W0 : Base) (v : Value) (rs : List (List Int)) (h : AHeap) (hv : RL (RL isI) h v rs) (hn : rs.length ≤ 1000) (hl : ∀ l ∈ rs, l.length ≤ 100000) :
  AC Try.prog W0 42 [v] h fun x h' => RL (RL isI) h' x (rs.map List.reverse) ∧ Le h h' := by
 refine AC.vc (fn := Try.f42) (c := _) ⟨Try.func42, rfl, by decide⟩ Try.ntmps42 Try.results42 (by simp) fun hwf => ?_
 simp only [argFrame, argFrom, Nat.reduceAdd]
 have lr := fun g => hv.len (P := Try.prog) Try.underlying52 g
 have mk := aMakeSlice1 (P := Try.prog) (t := 52) (z := .slice none 0 0) h Try.underlying52 rfl rfl rfl rfl (by kernel_rfl) Try.underlying38 (by kernel_rfl) rs.length (by omega)
 obtain ⟨h1, e1, l1, w1, o1⟩ := alloc_f hwf (List.replicate rs.length (.slice none 0 0))
 rw [e1] at mk
 have nL : h.own h.next = none := (Le.refl h).next hwf (Nat.le_refl _)
 generalize h.next = L at *
 simp only [kS1, bLookup, bMapSet, wantA, isCall, stepOp, evalO, evalL, evalP, evalM, putDst, flat, kA, kB, Nat.reduceLT, ↓reduceIte, kC, Nat.reduceEqDiff, aBuiltin, abinG, guardFree, abin, aInt, aUn, aNilCheck, retQ, retQ1, aresults, aresultL, aresult, mkF, undefV, reduceCtorEq, kD, kE, kF, kG, kH, kI, kJ, kK, aExtract, calleeOf, lr, mk]
 refine KLoop.intro (fun k fr hq => ∃ (i : Nat) (us : List Value), k = rs.length - i ∧ i ≤ rs.length ∧ fr = mkF [(3, .slice (some ⟨L, 0, none⟩) rs.length rs.length), (9, v), (10, .int .i64 rs.length), (11, .int .i64 i)] ∧
   hq.own L = some (.cells us) ∧ us.length = rs.length ∧ Le h hq ∧ ∀ (j : Nat) u r, j < i → us[j]? = some u → rs[j]? = some r → RL isI (rem [L] hq) u r.reverse)
  rs.length [(3, .slice (some ⟨L, 0, none⟩) rs.length rs.length), (9, v), (10, .int .i64 rs.length), (11, .int .i64 (0 : Nat))] (by simp only [hasAll, kS1, bLookup, bMapSet, wantA, isCall, stepOp, evalO, evalL, evalP, evalM, putDst, flat, kA, kB, Nat.reduceLT, ↓reduceIte, kC, Nat.reduceEqDiff, aBuiltin, abinG, guardFree, abin, aInt, aUn, aNilCheck, retQ, retQ1, aresults, aresultL, aresult, mkF, undefV, reduceCtorEq, kD, kE, kF, kG, kH, kI, kJ, kK, aExtract, calleeOf]; simp)
  ⟨0, _, rfl, Nat.zero_le _, rfl, o1, by simp, l1, fun j u r hj => absurd hj (Nat.not_lt_zero _)⟩ ?_
 rintro k fr hq hwq ⟨i, us, rfl, hi, rfl, oL, ul, lq, hr⟩
 simp only [kS1, bLookup, bMapSet, wantA, isCall, stepOp, evalO, evalL, evalP, evalM, putDst, flat, kA, kB, Nat.reduceLT, ↓reduceIte, kC, Nat.reduceEqDiff, aBuiltin, abinG, guardFree, abin, aInt, aUn, aNilCheck, retQ, retQ1, aresults, aresultL, aresult, mkF, undefV, reduceCtorEq, kD, kE, kF, kG, kH, kI, kJ, kK, aExtract, calleeOf]
 refine KCond.intro (fun ht => ?_) (fun hf => ?_)
 rotate_left
 ·have hge : rs.length ≤ i := lt_f hf
  obtain rfl : i = rs.length := by omega
  simp only [kS1, bLookup, bMapSet, wantA, isCall, stepOp, evalO, evalL, evalP, evalM, putDst, flat, kA, kB, Nat.reduceLT, ↓reduceIte, kC, Nat.reduceEqDiff, aBuiltin, abinG, guardFree, abin, aInt, aUn, aNilCheck, retQ, retQ1, aresults, aresultL, aresult, mkF, undefV, reduceCtorEq, kD, kE, kF, kG, kH, kI, kJ, kK, aExtract, calleeOf]
  refine ⟨⟨us, RS.whole oL ul, by rw [List.length_map, ul], fun j x u hx hu => ?_⟩, lq⟩
  rw [List.getElem?_map] at hx
  cases e : rs[j]? with
  | none => rw [e] at hx; cases hx
  | some r =>
   rw [e] at hx; injection hx with hx; subst hx
   exact (hr j u r (List.getElem?_eq_some_iff.1 e).1 hu e).le Stays.isI (rem_le _ _)
 have hlt : i < rs.length := lt_t ht
 clear ht
 have hli := hl _ (List.getElem_mem hlt)
 have hri := getElem?_of hlt
 have ar := hv.addr (P := Try.prog) Try.underlying52 Try.underlying38 (by kernel_rfl) (k := .i64) i hlt
 obtain ⟨u, lu', hu⟩ := hv.load' (P := Try.prog) Try.underlying38 rfl i hlt
 have lu := lu' hq lq
 generalize rs[i] = r at *
 simp only [kS1, bLookup, bMapSet, wantA, isCall, stepOp, evalO, evalL, evalP, evalM, putDst, flat, kA, kB, Nat.reduceLT, ↓reduceIte, kC, Nat.reduceEqDiff, aBuiltin, abinG, guardFree, abin, aInt, aUn, aNilCheck, retQ, retQ1, aresults, aresultL, aresult, mkF, undefV, reduceCtorEq, kD, kE, kF, kG, kH, kI, kJ, kK, aExtract, calleeOf, ar, lu]
 refine KCall.intro (by simp only [kS1, bLookup, bMapSet, wantA, isCall, stepOp, evalO, evalL, evalP, evalM, putDst, flat, kA, kB, Nat.reduceLT, ↓reduceIte, kC, Nat.reduceEqDiff, aBuiltin, abinG, guardFree, abin, aInt, aUn, aNilCheck, retQ, retQ1, aresults, aresultL, aresult, mkF, undefV, reduceCtorEq, kD, kE, kF, kG, kH, kI, kJ, kK, aExtract, calleeOf] <;> rfl) ⟨Try.func82, rfl, by decide⟩ (CloneI_any W0 u r hq (hu.le Stays.isI lq) hli) ?_
 rintro cv h3 w3 ⟨gc, l3, ac⟩
 have oL3 := l3.own _ _ oL
 have ix : aIndexAddr Try.prog 52 (.slice (some ⟨L, 0, none⟩) rs.length rs.length) (.int .i64 (i : Int)) = some (.pointer (some ⟨L, i, none⟩)) := by rw [aIdx Try.underlying52 Try.underlying38 (by kernel_rfl) i hlt]; simp [aadd]
 have st := aStore1 (P := Try.prog) (t := 38) (x := cv) Try.underlying38 (by kernel_rfl) oL3 (off := i) (by omega) (by obtain ⟨_, _, rfl, _⟩ := gc.rl.sl; rfl) gc.rl.one
 have cL : blk cv ≠ some L := fun e => by have := ac _ e; rw [oL] at this; cases this
 have g4 := GS.put gc (.cells (us.set i cv)) cL
 have o4 := AHeap.own_put_eq h3 L (.cells (us.set i cv))
 have F0 : Le (rem [L] hq) (h3.put L (.cells (us.set i cv))) := ((rem_le _ _).trans l3).put _ (by rw [rem_own, if_pos (by simp)])
 have lq4 : Le h (h3.put L (.cells (us.set i cv))) := (lq.trans l3).put _ nL
 have w4 : WF (h3.put L (.cells (us.set i cv))) := w3.put _ (w3.lt oL3)
 generalize h3.put L (.cells (us.set i cv)) = h4 at *
 have ld : aload Try.prog h4 38 ⟨L, i, none⟩ = some cv := by rw [aload_one Try.underlying38 rfl o4, List.getElem?_set_self (by omega)]
 simp only [kS1, bLookup, bMapSet, wantA, isCall, stepOp, evalO, evalL, evalP, evalM, putDst, flat, kA, kB, Nat.reduceLT, ↓reduceIte, kC, Nat.reduceEqDiff, aBuiltin, abinG, guardFree, abin, aInt, aUn, aNilCheck, retQ, retQ1, aresults, aresultL, aresult, mkF, undefV, reduceCtorEq, kD, kE, kF, kG, kH, kI, kJ, kK, aExtract, calleeOf, ar, lu, ix, st, ld]
 refine KCall.intro (by simp only [kS1, bLookup, bMapSet, wantA, isCall, stepOp, evalO, evalL, evalP, evalM, putDst, flat, kA, kB, Nat.reduceLT, ↓reduceIte, kC, Nat.reduceEqDiff, aBuiltin, abinG, guardFree, abin, aInt, aUn, aNilCheck, retQ, retQ1, aresults, aresultL, aresult, mkF, undefV, reduceCtorEq, kD, kE, kF, kG, kH, kI, kJ, kK, aExtract, calleeOf] <;> rfl) ⟨Try.func83, rfl, by decide⟩ (ReverseI_any W0 cv r h4 g4 hli) ?_
 rintro x h5 w5 ⟨g5, f5, k5⟩
 have aq : Apart (rem [L] hq) cv := fun b hb => (rem_le [L] hq).none (ac b hb)
 have l5 := f5 _ F0 aq
 have lh5 := f5 _ lq4 fun b hb => lq.none (ac b hb)
 have o5 := k5 _ _ o4 cL
 have hwi := awrap_succ i (by omega)
 simp only [kS1, bLookup, bMapSet, wantA, isCall, stepOp, evalO, evalL, evalP, evalM, putDst, flat, kA, kB, Nat.reduceLT, ↓reduceIte, kC, Nat.reduceEqDiff, aBuiltin, abinG, guardFree, abin, aInt, aUn, aNilCheck, retQ, retQ1, aresults, aresultL, aresult, mkF, undefV, reduceCtorEq, kD, kE, kF, kG, kH, kI, kJ, kK, aExtract, calleeOf, hwi]
 refine loop_again (rs.length - (i + 1)) [(3, .slice (some ⟨L, 0, none⟩) rs.length rs.length), (9, v), (10, .int .i64 rs.length), (11, .int .i64 (i + 1 : Nat))] (stp hlt) (by simp only [hasAll, kS1, bLookup, bMapSet, wantA, isCall, stepOp, evalO, evalL, evalP, evalM, putDst, flat, kA, kB, Nat.reduceLT, ↓reduceIte, kC, Nat.reduceEqDiff, aBuiltin, abinG, guardFree, abin, aInt, aUn, aNilCheck, retQ, retQ1, aresults, aresultL, aresult, mkF, undefV, reduceCtorEq, kD, kE, kF, kG, kH, kI, kJ, kK, aExtract, calleeOf]; simp)
  ⟨i + 1, _, rfl, hlt, rfl, o5, by simp [ul], lh5, fun j u' r' hj hu' hr' => ?_⟩
 have l5r : Le (rem [L] hq) (rem [L] h5) := l5.of_none fun b hb => by rw [List.mem_singleton] at hb; subst hb; rw [rem_own, if_pos (by simp)]
 by_cases c : i = j
 ·subst c
  rw [List.getElem?_set_self (by omega)] at hu'
  injection hu' with hu'; subst hu'
  rw [hri] at hr'; injection hr' with hr'; subst hr'
  exact RL.ofI (GS.cs (GS.to_rem g5 fun b hb => by rw [List.mem_singleton]; rintro rfl; exact cL hb)).rs
 ·rw [List.getElem?_set_ne c] at hu'
  exact (hr j u' r' (by omega) hu' hr').le Stays.isI l5r
end Go.Fw
namespace Go.Fw
open Go.Proofs
set_option maxHeartbeats 4000000
set_option maxRecDepth 10000
attribute [local instance] Classical.propDecidable
section
variable {n : Nat} {es : List Pr} {rs : List (List Int)}
theorem cr_con (hr : InR n es) (G : RotG n es rs) {a b : Nat} : Cr (rotN rs) a b ↔ Con es a b := by
 constructor
 ·intro h
  induction h with
  | refl => exact Con.refl es a
  | step _ hc ih => exact ih.step ((G.mem hr).1 hc) rfl
 ·intro h
  induction h with
  | refl _ => exact .refl _
  | step _ h2 _ ih => exact ih.step ((G.mem hr).2 h2)
theorem cmps_heads (hr : InR n es) (ha : Asc es) (G : RotG n es rs) : cmps n (rotN rs) = (heads n es).length := by
 have R := G.isRot hr ha
 rw [cmps, cls_perm (List.reverse_perm _).symm (Cr.eqv R _), cls_heads (lt := fun a b => a < b) (fun a b h g => absurd h (Nat.lt_asymm g)) _ _ rfl (range_asc n), heads]
 congr 1
 refine List.filter_congr fun v hv => ?_
 rw [decide_eq_decide]
 rw [List.mem_range] at hv
 constructor
 ·intro h u hu hc
  exact h u (List.mem_range.2 (by omega)) ((cr_con hr G).2 hc.symm) hu
 ·intro h u _ hc hu
  exact h u hu ((cr_con hr G).1 hc).symm
theorem iso_heads (hr : InR n es) (ha : Asc es) (G : RotG n es rs) : ((List.range n).filter fun v => decide (rotN rs v = [])).length = ((heads n es).filter fun a => decide (edK es es a = 0)).length := by
 refine (perm_of_mem (List.nodup_range.sublist List.filter_sublist) ((heads_nodup n es).sublist List.filter_sublist) fun v => ?_).length_eq
 rw [List.mem_filter, List.mem_filter, List.mem_range, mem_heads, decide_eq_true_eq, decide_eq_true_eq]
 constructor
 ·rintro ⟨hv, h0⟩
  have hno : ∀ w, ¬ adj es v w := fun w hw => by
   have := (G.mem hr).2 hw; rw [h0] at this; cases this
  have hc : ∀ u, Con es v u → u = v := fun u hu => Classical.byContradiction fun hne => by
   obtain ⟨w, hw⟩ := (con_first hu (Ne.symm hne)).1
   exact hno w hw
  refine ⟨⟨hv, fun u hu hcu => ?_⟩, ?_⟩
  ·have := hc u hcu.symm; omega
  ·refine Nat.eq_zero_of_not_pos fun hp => ?_
   have h1 := (ed_pos hr hv).1 hp
   have h2 : (compL n es v).length = 1 := one_len (by unfold compL; exact List.nodup_range.sublist List.filter_sublist) (x := v) (mem_compL.2 ⟨hv, Con.refl es v⟩) fun y hy => hc y (mem_compL.1 hy).2
   omega
 ·rintro ⟨⟨hv, _⟩, h0⟩
  refine ⟨hv, List.eq_nil_iff_forall_not_mem.2 fun w hw => ?_⟩
  have hadj := (G.mem hr).1 hw
  have : ∃ e ∈ es, Con es v e.1.toNat := by
   rcases hadj with h | h
   ·exact ⟨_, h, by simpa using Con.refl es v⟩
   ·exact ⟨_, h, by simpa using con_adj (.inr h)⟩
  obtain ⟨e, he, hc⟩ := this
  have : 0 < edK es es v := by
   unfold edK cntK
   exact List.length_pos_of_mem (List.mem_filter.2 ⟨he, by simpa using hc⟩)
  omega
theorem len_one_eq {l : List Nat} (h : l.length = 1) {x y : Nat} (hx : x ∈ l) (hy : y ∈ l) : x = y := by
 match l, h with
 | [z], _ => rw [List.mem_singleton] at hx hy; rw [hx, hy]
theorem sumz : ∀ (l : List Nat) (f : Nat → Nat), (l.map f).sum = 0 ↔ ∀ a ∈ l, f a = 0
 | [], f => by simp
 | a :: l, f => by
  rw [List.map_cons, List.sum_cons]
  have ih := sumz l f
  constructor
  ·intro h b hb
   rcases List.mem_cons.1 hb with rfl | hb
   ·omega
   ·exact ih.1 (by omega) b hb
  ·intro h
   have h1 := h a List.mem_cons_self
   have h2 := ih.2 fun b hb => h b (List.mem_cons_of_mem _ hb)
   omega
theorem sum_congr (f g : Nat → Nat) : ∀ l : List Nat, (∀ a ∈ l, f a = g a) → (l.map f).sum = (l.map g).sum
 | [], _ => rfl
 | a :: l, h => by
  rw [List.map_cons, List.map_cons, List.sum_cons, List.sum_cons, h a List.mem_cons_self, sum_congr f g l fun b hb => h b (List.mem_cons_of_mem _ hb)]
theorem PlaneM_flat (hr : InR n es) (ha : Asc es) (G : RotG n es rs) : PlaneM n es rs ↔ Flat n (rotN rs) := by
 have R := G.isRot hr ha
 have key : ∀ a, a ∈ heads n es → ∃ g, (compL n es a).length + (faK es (facesM n rs) a + if edK es es a = 0 then 1 else 0) + 2 * g = edK es es a + 2 ∧ (g = 0 ↔ (0 < edK es es a → (compL n es a).length + faK es (facesM n rs) a = edK es es a + 2)) := fun a hm => by
  by_cases c : 0 < edK es es a
  ·obtain ⟨g, hg⟩ := part_euler hr ha G hm c
   refine ⟨g, ?_, ?_⟩
   ·rw [if_neg (by omega)]; omega
   ·constructor
    ·intro h _; omega
    ·intro h; have := h c; omega
  ·refine ⟨0, ?_, by constructor <;> intro <;> omega⟩
   have c0 : edK es es a = 0 := by omega
   rw [if_pos c0, c0]
   have h1 : ¬ 1 < (compL n es a).length := fun q => c ((ed_pos hr (mem_heads.1 hm).1).2 q)
   have h2 : 0 < (compL n es a).length := List.length_pos_of_mem (mem_compL.2 ⟨(mem_heads.1 hm).1, Con.refl es a⟩)
   have h3 : faK es (facesM n rs) a = 0 := by
    refine Nat.eq_zero_of_not_pos fun hp => ?_
    unfold faK cntK at hp
    obtain ⟨f, hf⟩ := List.exists_mem_of_length_pos hp
    rw [List.mem_filter, decide_eq_true_eq] at hf
    obtain ⟨hf1, hf2⟩ := hf
    unfold facesM at hf1
    obtain ⟨f', hf', rfl⟩ := List.mem_map.1 hf1
    rw [facesF, List.mem_map] at hf'
    obtain ⟨d, hd, rfl⟩ := hf'
    have hd1 := ((mem_hdsF R).1 hd).1
    rw [(faceF_head R ((mem_dl R).2 hd1)).1, Int.toNat_natCast] at hf2
    have hadj := (G.mem hr).1 hd1
    have : d.2 = d.1 := by
     have e : (compL n es a).length = 1 := by omega
     exact len_one_eq e (mem_compL.2 ⟨Con.lt hr (show Con es a d.2 from hf2.step hadj rfl) (mem_heads.1 hm).1, hf2.step hadj rfl⟩) (mem_compL.2 ⟨hf2.lt hr (mem_heads.1 hm).1, hf2⟩)
    rw [this] at hd1
    exact R.ir _ hd1
   omega
 obtain ⟨g, hg⟩ := Classical.axiomOfChoice (r := fun a g => a ∈ heads n es → (compL n es a).length + (faK es (facesM n rs) a + if edK es es a = 0 then 1 else 0) + 2 * g = edK es es a + 2 ∧ (g = 0 ↔ (0 < edK es es a → (compL n es a).length + faK es (facesM n rs) a = edK es es a + 2))) fun a => by
  by_cases hm : a ∈ heads n es
  ·obtain ⟨g, h⟩ := key a hm; exact ⟨g, fun _ => h⟩
  ·exact ⟨0, fun h => absurd h hm⟩
 have S := sum_congr _ _ (heads n es) fun a hm => (hg a hm).1
 rw [sum_addP (fun a => (compL n es a).length + (faK es (facesM n rs) a + if edK es es a = 0 then 1 else 0)), sum_addP (fun a => (compL n es a).length), sum_addP (fun a => faK es (facesM n rs) a), sum_addP (fun a => edK es es a) (fun _ => 2), sum_verts hr, sum_edges hr, sum_faces hr ha G, sum_filter] at S
 have e2 : ((heads n es).map fun _ => 2).sum = 2 * (heads n es).length := by
  have : ∀ l : List Nat, (l.map fun _ => 2).sum = 2 * l.length := fun l => by
   induction l with
   | nil => rfl
   | cons a l ih => rw [List.map_cons, List.sum_cons, ih, List.length_cons]; omega
  exact this _
 have e3 : ((heads n es).map fun a => 2 * g a).sum = 2 * ((heads n es).map g).sum := by
  have : ∀ l : List Nat, (l.map fun a => 2 * g a).sum = 2 * (l.map g).sum := fun l => by
   induction l with
   | nil => rfl
   | cons a l ih => rw [List.map_cons, List.map_cons, List.sum_cons, List.sum_cons, ih]; omega
  exact this _
 rw [e2, e3] at S
 have hfc : fcs n (rotN rs) = (facesM n rs).length + ((heads n es).filter fun a => decide (edK es es a = 0)).length := by
  rw [fcs, ← hdsF_len R, iso_heads hr ha G, facesM, facesF, List.length_map, List.length_map]
 have hdl : (dl n (rotN rs)).length = 2 * es.length := dl_len R (ha.nodup) hr fun v w => G.mem hr
 have P : PlaneM n es rs ↔ ∀ a ∈ heads n es, g a = 0 := by
  constructor
  ·intro h a hm; exact (hg a hm).2.2 (h a hm)
  ·intro h a hm; exact (hg a hm).2.1 (h a hm)
 rw [P, ← sumz, Flat, cmps_heads hr ha G, hfc, hdl]
 omega
theorem face_info (hr : InR n es) (ha : Asc es) (G : RotG n es rs) {p : Nat} (hp : p < (facesM n rs).length) : ∃ d : Dart, (hdsF n (rotN rs))[p]? = some d ∧ d ∈ dl n (rotN rs) ∧ ((facesM n rs)[p]).length = ordr (fph (rotN rs)) d ∧ 2 ≤ ordr (fph (rotN rs)) d ∧
  ∀ (j : Nat) (hj : j % ((facesM n rs)[p]).length < ((facesM n rs)[p]).length), ((facesM n rs)[p])[j % ((facesM n rs)[p]).length] = (((it (fph (rotN rs)) j d).1 : Nat) : Int) := by
 have R := G.isRot hr ha
 have hp' : p < (hdsF n (rotN rs)).length := by rw [facesM, facesF, List.length_map, List.length_map] at hp; exact hp
 have hd := List.getElem_mem hp'
 have hdm : (hdsF n (rotN rs))[p] ∈ dl n (rotN rs) := (mem_dl R).2 ((mem_hdsF R).1 hd).1
 have e : (facesM n rs)[p] = nat64 (faceF (rotN rs) (hdsF n (rotN rs))[p]) := by simp [facesM, facesF]
 have hl : ((facesM n rs)[p]).length = ordr (fph (rotN rs)) (hdsF n (rotN rs))[p] := by rw [e, nat64_length, faceF, List.length_map, orbL_len]
 refine ⟨_, List.getElem?_eq_getElem hp', hdm, hl, ordr_two R hdm, fun j hj => ?_⟩
 have h1 : ((facesM n rs)[p])[j % ((facesM n rs)[p]).length]? = some (((it (fph (rotN rs)) j (hdsF n (rotN rs))[p]).1 : Nat) : Int) := by
  rw [hl, e, ← face_list, it_mod (phi_pm R) hdm j, List.getElem?_map, List.getElem?_range (by rw [hl] at hj; exact hj)]; rfl
 rw [List.getElem?_eq_getElem hj] at h1
 injection h1
theorem hds_len (n : Nat) (rs : List (List Int)) : (facesM n rs).length = (hdsF n (rotN rs)).length := by rw [facesM, facesF, List.length_map, List.length_map]
theorem hds_asc (n : Nat) (r : Nat → List Nat) : (hdsF n r).Pairwise ltD := (ddl_asc n r).filter _
theorem hds_uniq {r : Nat → List Nat} (R : IsRot n r) {p q : Nat} {d e x : Dart} (hp : (hdsF n r)[p]? = some d) (hq : (hdsF n r)[q]? = some e) (h1 : Orb (fph r) d x) (h2 : Orb (fph r) e x) : p = q := by
 have hd := List.mem_of_getElem? hp
 have he := List.mem_of_getElem? hq
 have hem : e ∈ dl n r := (mem_dl R).2 ((mem_hdsF R).1 he).1
 obtain rfl := hd_uniq R hd he (h1.trans ((phi_pm R).orb_symm hem h2))
 obtain ⟨a1, b1⟩ := List.getElem?_eq_some_iff.1 hp
 obtain ⟨a2, b2⟩ := List.getElem?_eq_some_iff.1 hq
 have nd := (List.nodup_iff_pairwise_ne).2 ((hds_asc n r).imp fun h e => by subst e; exact ltD_irr _ h)
 rw [List.nodup_iff_pairwise_ne, List.pairwise_iff_getElem] at nd
 rcases Nat.lt_trichotomy p q with c | c | c
 ·exact absurd (b1.trans b2.symm) (nd p q a1 a2 c)
 ·exact c
 ·exact absurd (b2.trans b1.symm) (nd q p a2 a1 c)
theorem hds_of {r : Nat → List Nat} (R : IsRot n r) {x : Dart} (hx : x ∈ dl n r) : ∃ (p : Nat) (d : Dart), (hdsF n r)[p]? = some d ∧ Orb (fph r) d x := by
 obtain ⟨e, he, o⟩ := hd_ex R hx
 obtain ⟨p, hp⟩ := List.mem_iff_getElem?.1 he
 exact ⟨p, e, hp, (phi_pm R).orb_symm hx o⟩
theorem rotN_mir (rs : List (List Int)) : rotN (rs.map List.reverse) = mir (rotN rs) := by
 funext v
 unfold mir rotN
 rw [← List.map_reverse]
 congr 1
 rw [List.getD_eq_getElem?_getD, List.getD_eq_getElem?_getD, List.getElem?_map]
 cases rs[v]? <;> rfl
theorem RotG.mir (G : RotG n es rs) : RotG n es (rs.map List.reverse) := by
 refine ⟨by rw [List.length_map]; exact G.len, fun v hv => ?_⟩
 have : (rs.map List.reverse).getD v [] = (rs.getD v []).reverse := by
  rw [List.getD_eq_getElem?_getD, List.getD_eq_getElem?_getD, List.getElem?_map]
  cases rs[v]? <;> rfl
 rw [this]
 exact (List.reverse_perm _).trans (G.perm v hv)
theorem mir_len (hr : InR n es) (ha : Asc es) (G : RotG n es rs) : (facesM n (rs.map List.reverse)).length = (facesM n rs).length := by
 have R := G.isRot hr ha
 have R' := G.mir.isRot hr ha
 rw [hds_len, hds_len, hdsF_len R', hdsF_len R, rotN_mir, mir_cls R]
theorem mir_plane (hr : InR n es) (ha : Asc es) (G : RotG n es rs) : PlaneM n es (rs.map List.reverse) ↔ PlaneM n es rs := by
 rw [PlaneM_flat hr ha G, PlaneM_flat hr ha G.mir, rotN_mir, mir_flat (G.isRot hr ha)]
end
end Go.Fw
