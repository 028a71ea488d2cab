/- A text of the proof. -/
import Derived.Test.YtmgcmoifdnkaoaaFwLN5
import Derived.Test.YtmgcmoifdnkaoaaFwLT5
set_option linter.unusedSimpArgs false
set_option linter.unusedVariables false
namespace Go.Fw
open Go.Proofs
attribute [local irreducible] KO4 KO3 KO2 KO1 KO KN KX KE VK KCond KDraw KCall KLoop
set_option maxHeartbeats 16000000
set_option maxRecDepth 10000
theorem Asc.nodup {es : List Pr} (h : Asc es) : es.Nodup := by
 rw [List.nodup_iff_pairwise_ne]
 refine (asc_pair.1 h).imp ?_
 rintro x y h rfl
 omega
end Go.Fw
namespace Go.Fw
open Go.Proofs
theorem adj_irr {n : Nat} {es : List Pr} (hr : InR n es) {a : Nat} (h : adj es a a) : False := by
 rcases h with h | h <;> have := (hr _ h).2.1 <;> simp at this
theorem woV_sub {es : List Pr} {v a b : Nat} (h : Con (woV es v) a b) : Con es a b := by
 induction h with
 | refl _ => exact Con.refl _ _
 | step _ a _ ih => exact .step ih (woV_adj.1 a).1 rfl
theorem woV_iso {es : List Pr} {v x : Nat} (h : Con (woV es v) v x) : x = v := by
 induction h with
 | refl _ => rfl
 | step _ a _ ih => subst ih; exact absurd rfl (woV_adj.1 a).2.1
theorem woV_reach {es : List Pr} {v x : Nat} (h : Con es v x) (hx : x ≠ v) : ∃ a, adj es v a ∧ Con (woV es v) a x := by
 induction h with
 | refl _ => exact absurd rfl hx
 | @step w x c a _ ih =>
  by_cases e : w = v
  ·subst e; exact ⟨x, a, Con.refl _ _⟩
  ·obtain ⟨b, hb, hc⟩ := ih e
   exact ⟨b, hb, .step hc (woV_adj.2 ⟨a, e, hx⟩) rfl⟩
theorem woV_far {es : List Pr} {v u x : Nat} (h : Con es u x) (hx : ¬ Con es v x) : Con (woV es v) u x := by
 induction h with
 | refl _ => exact Con.refl _ _
 | @step w x c a o ih =>
  have hw : ¬ Con es v w := fun k => hx (.step k a o)
  exact .step (ih hw) (woV_adj.2 ⟨a, fun e => hw (e ▸ Con.refl _ _), fun e => hx (e ▸ Con.refl _ _)⟩) rfl
theorem split_len {α : Type} (p : α → Bool) : ∀ (l : List α), l.length = (l.filter p).length + (l.filter fun x => !p x).length
 | [] => rfl
 | x :: l => by
  have := split_len p l
  cases h : p x <;> simp [List.filter_cons, h, this] <;> omega
theorem one_len {l : List Nat} (nd : l.Nodup) {x : Nat} (hx : x ∈ l) (h : ∀ y ∈ l, y = x) : l.length = 1 := by
 cases l with
 | nil => cases hx
 | cons a l =>
  cases l with
  | nil => rfl
  | cons b l =>
   have h1 := h a (by simp)
   have h2 := h b (by simp)
   rw [h1, h2] at nd
   simp at nd
theorem three_len {l : List Nat} (nd : l.Nodup) {v : Nat} (hv : v ∈ l) : 2 < l.length ↔ ∃ x y, x ∈ l ∧ y ∈ l ∧ x ≠ y ∧ x ≠ v ∧ y ≠ v := by
 have h1 := List.length_erase_of_mem hv
 have hp := List.length_pos_of_mem hv
 have nd1 : (l.erase v).Nodup := nd.sublist List.erase_sublist
 have m1 : ∀ x, x ∈ l.erase v ↔ x ≠ v ∧ x ∈ l := fun x => nd.mem_erase_iff
 constructor
 ·intro h
  match hl : l.erase v with
  | [] => rw [hl] at h1; simp at h1; omega
  | [_] => rw [hl] at h1; simp at h1; omega
  | x :: y :: r =>
   have hx := (m1 x).1 (by rw [hl]; simp)
   have hy := (m1 y).1 (by rw [hl]; simp)
   rw [hl] at nd1
   have : x ≠ y := by simp at nd1; exact nd1.1.1
   exact ⟨x, y, hx.2, hy.2, this, hx.1, hy.1⟩
 ·rintro ⟨x, y, hx, hy, hxy, hxv, hyv⟩
  have hx1 := (m1 x).2 ⟨hxv, hx⟩
  have hy1 := (m1 y).2 ⟨hyv, hy⟩
  have h2 := List.length_erase_of_mem hx1
  have hy2 : y ∈ (l.erase v).erase x := nd1.mem_erase_iff.2 ⟨hxy.symm, hy1⟩
  have h3 := List.length_pos_of_mem hy2
  omega
open Classical in
theorem cut_more {n : Nat} {es : List Pr} (hr : InR n es) {v : Nat} (hv : v < n) : (heads n es).length + 1 < (heads n (woV es v)).length ↔ Fo.Cut2 es v := by
 have hr' : InR n (woV es v) := fun q hq => hr q (List.mem_filter.1 hq).1
 have e1 := split_len (fun x => decide (Con es v x)) (heads n es)
 have e2 := split_len (fun x => decide (Con es v x)) (heads n (woV es v))
 have e3 : (heads n es).filter (fun x => !decide (Con es v x)) = (heads n (woV es v)).filter (fun x => !decide (Con es v x)) := by
  unfold heads
  rw [List.filter_filter, List.filter_filter]
  refine List.filter_congr fun x hx => ?_
  by_cases c : Con es v x
  ·simp [c]
  ·have : (∀ u, u < x → ¬ Con es u x) ↔ (∀ u, u < x → ¬ Con (woV es v) u x) := ⟨fun h u hu k => h u hu (woV_sub k), fun h u hu k => h u hu (woV_far k c)⟩
   simp only [this]
 obtain ⟨h0, hh0, hc0⟩ := head_ex hr v hv
 have e4 : ((heads n es).filter fun x => decide (Con es v x)).length = 1 :=
  one_len ((heads_nodup n es).sublist List.filter_sublist) (x := h0) (List.mem_filter.2 ⟨hh0, decide_eq_true hc0.symm⟩) fun y hy => by
   obtain ⟨k1, k2⟩ := List.mem_filter.1 hy
   exact heads_uniq k1 hh0 ((of_decide_eq_true k2).symm.trans hc0.symm)
 have hvm : v ∈ (heads n (woV es v)).filter fun x => decide (Con es v x) :=
  List.mem_filter.2 ⟨mem_heads.2 ⟨hv, fun u hu k => by have := woV_iso k.symm; omega⟩, decide_eq_true (Con.refl _ _)⟩
 have e5 := three_len ((heads_nodup n (woV es v)).sublist (List.filter_sublist (p := fun x => decide (Con es v x)))) hvm
 rw [← e3] at e2
 have : (heads n es).length + 1 < (heads n (woV es v)).length ↔ 2 < ((heads n (woV es v)).filter fun x => decide (Con es v x)).length := by omega
 rw [this, e5]
 constructor
 ·rintro ⟨x, y, hx, hy, hxy, hxv, hyv⟩
  obtain ⟨k1, k2⟩ := List.mem_filter.1 hx
  obtain ⟨k3, k4⟩ := List.mem_filter.1 hy
  obtain ⟨a, ha, hac⟩ := woV_reach (of_decide_eq_true k2) hxv
  obtain ⟨b, hb, hbc⟩ := woV_reach (of_decide_eq_true k4) hyv
  refine ⟨a, b, ha, hb, fun c => hxy ?_⟩
  have hav : a ≠ v := by simpa [wo] using c.off1
  exact heads_uniq k1 k3 (hac.symm.trans (((woV_con hav).2 c).trans hbc))
 ·rintro ⟨a, b, ha, hb, hn⟩
  have hav : a ≠ v := fun e => by subst e; exact adj_irr hr ha
  have hbv : b ≠ v := fun e => by subst e; exact adj_irr hr hb
  obtain ⟨x, hx, hxa⟩ := head_ex hr' a (ha.lt hr).2
  obtain ⟨y, hy, hyb⟩ := head_ex hr' b (hb.lt hr).2
  refine ⟨x, y, List.mem_filter.2 ⟨hx, decide_eq_true ((con_adj ha).trans (woV_sub hxa).symm)⟩, List.mem_filter.2 ⟨hy, decide_eq_true ((con_adj hb).trans (woV_sub hyb).symm)⟩, ?_, ?_, ?_⟩
  ·rintro rfl; exact hn ((woV_con hav).1 (hxa.symm.trans hyb))
  ·rintro rfl; exact hav (woV_iso hxa)
  ·rintro rfl; exact hbv (woV_iso hyb)
end Go.Fw
namespace Go.Fw
open Go.Proofs
attribute [local irreducible] KO4 KO3 KO2 KO1 KO KN KX KE VK KCond KDraw KCall KLoop
set_option maxHeartbeats 16000000
set_option maxRecDepth 10000
open Classical in
theorem cuts_filter {n : Nat} {es : List Pr} (hr : InR n es) : cutsM n es = (List.range n).filter fun v => decide (Fo.Cut2 es v) := by
 rw [cutsM]
 refine List.filter_congr fun v hv => ?_
 rw [List.mem_range] at hv
 rw [Bool.eq_iff_iff, decide_eq_true_eq]
 exact isCut_iff hr hv
open Classical in
theorem RCuts_any (W0 : Base) (v : Value) (G : GM) (h : AHeap) (hg : GR h v G) :
  AC Try.prog W0 24 [v] h fun x h' => Le h h' ∧ ((¬ RightG G ∧ x = .tuple #[.slice none 0 0, .int .i64 20]) ∨ (RightG G ∧ ∃ cv, x = .tuple #[cv, .int .i64 0] ∧ GI h' cv (nat64 (cutsM G.n.toNat G.es)) ∧ Apart h cv)) := by
 have hg0 := hg
 obtain ⟨gn, es⟩ := G
 obtain ⟨ev, rfl, hp⟩ := hg.open
 refine AC.vc (fn := Try.f24) (c := _) ⟨Try.func24, rfl, by decide⟩ Try.ntmps24 Try.results24 (by simp) fun hwf => ?_
 simp only [argFrame, argFrom, Nat.reduceAdd]
 obtain ⟨h1, b1, le1, wf1, -, lA⟩ := boxG (n := gn) hwf hp
 generalize h.next = B at *
 have lA1 := lA h1 (Le.refl _)
 simp only [kS1, bLookup, bMapSet, wantA, isCall, stepOp, evalO, evalL, evalP, evalM, putDst, flat, kA, kB, Nat.reduceLT, ↓reduceIte, kC, Nat.reduceEqDiff, aBuiltin, abinG, guardFree, abin, aInt, aUn, aNilCheck, retQ, retQ1, aresults, aresultL, aresult, mkF, undefV, reduceCtorEq, kD, kE, kF, kG, kH, kI, kJ, kK, aExtract, calleeOf, b1, lA1.1]
 refine KCall.intro (by simp only [kS1, bLookup, bMapSet, wantA, isCall, stepOp, evalO, evalL, evalP, evalM, putDst, flat, kA, kB, Nat.reduceLT, ↓reduceIte, kC, Nat.reduceEqDiff, aBuiltin, abinG, guardFree, abin, aInt, aUn, aNilCheck, retQ, retQ1, aresults, aresultL, aresult, mkF, undefV, reduceCtorEq, kD, kE, kF, kG, kH, kI, kJ, kK, aExtract, calleeOf] <;> rfl) ⟨Try.func56, rfl, by decide⟩ (RefRight_any W0 _ _ h1 (hg0.le le1)) ?_
 rintro x h2 w2 ⟨⟨bb, rfl, hbb⟩, l2⟩
 cases bb with
 | false =>
  simp only [kS1, bLookup, bMapSet, wantA, isCall, stepOp, evalO, evalL, evalP, evalM, putDst, flat, kA, kB, Nat.reduceLT, ↓reduceIte, kC, Nat.reduceEqDiff, aBuiltin, abinG, guardFree, abin, aInt, aUn, aNilCheck, retQ, retQ1, aresults, aresultL, aresult, mkF, undefV, reduceCtorEq, kD, kE, kF, kG, kH, kI, kJ, kK, aExtract, calleeOf]
  exact ⟨le1.trans l2, .inl ⟨(fun hr => by cases hbb.2 hr), trivial⟩⟩
 | true =>
 have hr := hbb.1 rfl
 have h0 : 0 ≤ gn := hr.n0
 obtain ⟨n, rfl⟩ := Int.eq_ofNat_of_zero_le h0
 have h200 : (n : Int) ≤ 200 := hr.n1
 have h594 : es.length ≤ 594 := hr.len
 have hR := hr.inR
 simp only [Int.toNat_natCast]
 have ap0 : Apart h1 (.slice none 0 0) := fun b hb => by cases hb
 simp only [kS1, bLookup, bMapSet, wantA, isCall, stepOp, evalO, evalL, evalP, evalM, putDst, flat, kA, kB, Nat.reduceLT, ↓reduceIte, kC, Nat.reduceEqDiff, aBuiltin, abinG, guardFree, abin, aInt, aUn, aNilCheck, retQ, retQ1, aresults, aresultL, aresult, mkF, undefV, reduceCtorEq, kD, kE, kF, kG, kH, kI, kJ, kK, aExtract, calleeOf]
 refine KLoop.intro (fun k fr hq => ∃ (i : Nat) (ov : Value), k = n - i ∧ i ≤ n ∧ fr = mkF [(1, .pointer (some ⟨B, 0, none⟩)), (4, ov), (5, .int .i64 i)] ∧
   GI hq ov (nat64 ((List.range i).filter fun v => decide (Fo.Cut2 es v))) ∧ Le h1 hq ∧ Apart h1 ov)
  n [(1, .pointer (some ⟨B, 0, none⟩)), (4, .slice none 0 0), (5, .int .i64 (0 : Nat))] (by simp only [hasAll, kS1, bLookup, bMapSet, wantA, isCall, stepOp, evalO, evalL, evalP, evalM, putDst, flat, kA, kB, Nat.reduceLT, ↓reduceIte, kC, Nat.reduceEqDiff, aBuiltin, abinG, guardFree, abin, aInt, aUn, aNilCheck, retQ, retQ1, aresults, aresultL, aresult, mkF, undefV, reduceCtorEq, kD, kE, kF, kG, kH, kI, kJ, kK, aExtract, calleeOf]; simp)
  ⟨0, _, rfl, Nat.zero_le _, rfl, GI.nil _, l2, ap0⟩ ?_
 rintro k fr hq hwq ⟨i, ov, rfl, hi, rfl, go, leq, ao⟩
 have lAq := lA hq leq
 simp only [kS1, bLookup, bMapSet, wantA, isCall, stepOp, evalO, evalL, evalP, evalM, putDst, flat, kA, kB, Nat.reduceLT, ↓reduceIte, kC, Nat.reduceEqDiff, aBuiltin, abinG, guardFree, abin, aInt, aUn, aNilCheck, retQ, retQ1, aresults, aresultL, aresult, mkF, undefV, reduceCtorEq, kD, kE, kF, kG, kH, kI, kJ, kK, aExtract, calleeOf, fg0, aadd, Nat.zero_add, lAq.2.1]
 refine KCond.intro (fun ht => ?_) (fun hf => ?_)
 rotate_left
 ·have hge : n ≤ i := lt_f hf
  obtain rfl : i = n := by omega
  simp only [kS1, bLookup, bMapSet, wantA, isCall, stepOp, evalO, evalL, evalP, evalM, putDst, flat, kA, kB, Nat.reduceLT, ↓reduceIte, kC, Nat.reduceEqDiff, aBuiltin, abinG, guardFree, abin, aInt, aUn, aNilCheck, retQ, retQ1, aresults, aresultL, aresult, mkF, undefV, reduceCtorEq, kD, kE, kF, kG, kH, kI, kJ, kK, aExtract, calleeOf]
  refine ⟨le1.trans leq, .inr ⟨hr, ov, rfl, ?_, fun b hb => le1.none (ao b hb)⟩⟩
  rw [cuts_filter hR]; exact go
 have hlt : i < n := lt_t ht
 clear ht
 have hmore := cut_more hR hlt
 have hrs : List.range (i + 1) = List.range i ++ [i] := List.range_succ
 simp only [kS1, bLookup, bMapSet, wantA, isCall, stepOp, evalO, evalL, evalP, evalM, putDst, flat, kA, kB, Nat.reduceLT, ↓reduceIte, kC, Nat.reduceEqDiff, aBuiltin, abinG, guardFree, abin, aInt, aUn, aNilCheck, retQ, retQ1, aresults, aresultL, aresult, mkF, undefV, reduceCtorEq, kD, kE, kF, kG, kH, kI, kJ, kK, aExtract, calleeOf]
 refine KDraw.intro mixed (.fl 0 (.fl 1 (.fl 6 (.ch 2 [0, 1] (.ch 3 [2] (.fl 4 (.fl 5 (.ch 7 [3, 6] (.fl 8 (.fl 9 (.done))) .no))) .no) .no)))) (by kernel_rfl) ?_
 simp only [kS1, bLookup, bMapSet, wantA, isCall, stepOp, evalO, evalL, evalP, evalM, putDst, flat, kA, kB, Nat.reduceLT, ↓reduceIte, kC, Nat.reduceEqDiff, aBuiltin, abinG, guardFree, abin, aInt, aUn, aNilCheck, retQ, retQ1, aresults, aresultL, aresult, mkF, undefV, reduceCtorEq, kD, kE, kF, kG, kH, kI, kJ, kK, aExtract, calleeOf, kD1, Nat.reduceBEq, HoldsAll, kL, kM, kN, kO, lAq.1]
 refine KGCall.intro (by simp only [kS1, bLookup, bMapSet, wantA, isCall, stepOp, evalO, evalL, evalP, evalM, putDst, flat, kA, kB, Nat.reduceLT, ↓reduceIte, kC, Nat.reduceEqDiff, aBuiltin, abinG, guardFree, abin, aInt, aUn, aNilCheck, retQ, retQ1, aresults, aresultL, aresult, mkF, undefV, reduceCtorEq, kD, kE, kF, kG, kH, kI, kJ, kK, aExtract, calleeOf] <;> rfl) ⟨Try.func65, rfl, by decide⟩ (RWithout_any W0 (.agg #[.int .i64 (n : Int), ev]) n i es hq (hg0.le (le1.trans leq)) (by omega)) ?_
 rintro x h3 w3 ⟨xv, rfl, gp3, l3, a3⟩
 have lA3 := lA h3 (leq.trans l3)
 simp only [kS1, bLookup, bMapSet, wantA, isCall, stepOp, evalO, evalL, evalP, evalM, putDst, flat, kA, kB, Nat.reduceLT, ↓reduceIte, kC, Nat.reduceEqDiff, aBuiltin, abinG, guardFree, abin, aInt, aUn, aNilCheck, retQ, retQ1, aresults, aresultL, aresult, mkF, undefV, reduceCtorEq, kD, kE, kF, kG, kH, kI, kJ, kK, aExtract, calleeOf, kD1, Nat.reduceBEq, HoldsAll, kL, kM, kN, kO, lA3.1]
 have hr' : RightG ⟨(n : Int), woV es i⟩ := hr.sub List.filter_sublist
 refine KGCall.intro (by simp only [kS1, bLookup, bMapSet, wantA, isCall, stepOp, evalO, evalL, evalP, evalM, putDst, flat, kA, kB, Nat.reduceLT, ↓reduceIte, kC, Nat.reduceEqDiff, aBuiltin, abinG, guardFree, abin, aInt, aUn, aNilCheck, retQ, retQ1, aresults, aresultL, aresult, mkF, undefV, reduceCtorEq, kD, kE, kF, kG, kH, kI, kJ, kK, aExtract, calleeOf] <;> rfl) ⟨Try.func64, rfl, by decide⟩ (RParts_any W0 _ n (woV es i) h3 ⟨xv, rfl, gp3.pr⟩ hr') ?_
 rintro x h4 w4 ⟨len4, l4⟩
 have lA4 := lA h4 (leq.trans (l3.trans l4))
 simp only [kS1, bLookup, bMapSet, wantA, isCall, stepOp, evalO, evalL, evalP, evalM, putDst, flat, kA, kB, Nat.reduceLT, ↓reduceIte, kC, Nat.reduceEqDiff, aBuiltin, abinG, guardFree, abin, aInt, aUn, aNilCheck, retQ, retQ1, aresults, aresultL, aresult, mkF, undefV, reduceCtorEq, kD, kE, kF, kG, kH, kI, kJ, kK, aExtract, calleeOf, kD1, Nat.reduceBEq, HoldsAll, kL, kM, kN, kO, len4, lA4.1]
 refine KGCall.intro (by simp only [kS1, bLookup, bMapSet, wantA, isCall, stepOp, evalO, evalL, evalP, evalM, putDst, flat, kA, kB, Nat.reduceLT, ↓reduceIte, kC, Nat.reduceEqDiff, aBuiltin, abinG, guardFree, abin, aInt, aUn, aNilCheck, retQ, retQ1, aresults, aresultL, aresult, mkF, undefV, reduceCtorEq, kD, kE, kF, kG, kH, kI, kJ, kK, aExtract, calleeOf] <;> rfl) ⟨Try.func64, rfl, by decide⟩ (RParts_any W0 _ n es h4 (hg0.le (le1.trans (leq.trans (l3.trans l4)))) hr) ?_
 rintro x h5 w5 ⟨len5, l5⟩
 have le5 := l3.trans (l4.trans l5)
 have go5 := go.le le5
 have hl2 : (heads n (woV es i)).length ≤ n := heads_length _ _
 have hw : awrap .i64 (((heads n (woV es i)).length : Int) - 1) = ((heads n (woV es i)).length : Int) - 1 := awrap_i64 _ (by omega) (by omega)
 by_cases c : Fo.Cut2 es i
 ·have d : decide (((heads n (woV es i)).length : Int) - 1 > ((heads n es).length : Int)) = true := decide_eq_true (by have := hmore.2 c; omega)
  have hfl : nat64 ((List.range (i + 1)).filter fun v => decide (Fo.Cut2 es v)) = nat64 ((List.range i).filter fun v => decide (Fo.Cut2 es v)) ++ [(i : Int)] := by rw [hrs, List.filter_append]; simp [c, nat64]
  have hpl : (nat64 ((List.range i).filter fun v => decide (Fo.Cut2 es v))).length ≤ i := by have := List.length_filter_le (fun v => decide (Fo.Cut2 es v)) (List.range i); simpa [nat64] using this
  obtain ⟨v', g1, g2, q1, q2, gp2, wg2, lg1, fg, kg⟩ := go5.push w5 (i : Int) (by omega)
  obtain ⟨lx, ax⟩ := fg h1 (leq.trans le5) ao
  simp only [kS1, bLookup, bMapSet, wantA, isCall, stepOp, evalO, evalL, evalP, evalM, putDst, flat, kA, kB, Nat.reduceLT, ↓reduceIte, kC, Nat.reduceEqDiff, aBuiltin, abinG, guardFree, abin, aInt, aUn, aNilCheck, retQ, retQ1, aresults, aresultL, aresult, mkF, undefV, reduceCtorEq, kD, kE, kF, kG, kH, kI, kJ, kK, aExtract, calleeOf, kD1, Nat.reduceBEq, HoldsAll, kL, kM, kN, kO, len4, len5, hw, d, q1, q2, awrap_succ i (by omega)]
  exact loop_again (n - (i + 1)) [(1, .pointer (some ⟨B, 0, none⟩)), (4, v'), (5, .int .i64 (i + 1 : Nat))] (by omega) (by simp only [hasAll, kS1, bLookup, bMapSet, wantA, isCall, stepOp, evalO, evalL, evalP, evalM, putDst, flat, kA, kB, Nat.reduceLT, ↓reduceIte, kC, Nat.reduceEqDiff, aBuiltin, abinG, guardFree, abin, aInt, aUn, aNilCheck, retQ, retQ1, aresults, aresultL, aresult, mkF, undefV, reduceCtorEq, kD, kE, kF, kG, kH, kI, kJ, kK, aExtract, calleeOf]; simp)
   ⟨i + 1, v', rfl, hlt, rfl, by rw [hfl]; exact gp2, lx, ax⟩
 ·have d : decide (((heads n (woV es i)).length : Int) - 1 > ((heads n es).length : Int)) = false := decide_eq_false (fun e => c (hmore.1 (by omega)))
  have hfl : (List.range (i + 1)).filter (fun v => decide (Fo.Cut2 es v)) = (List.range i).filter (fun v => decide (Fo.Cut2 es v)) := by rw [hrs, List.filter_append]; simp [c]
  simp only [kS1, bLookup, bMapSet, wantA, isCall, stepOp, evalO, evalL, evalP, evalM, putDst, flat, kA, kB, Nat.reduceLT, ↓reduceIte, kC, Nat.reduceEqDiff, aBuiltin, abinG, guardFree, abin, aInt, aUn, aNilCheck, retQ, retQ1, aresults, aresultL, aresult, mkF, undefV, reduceCtorEq, kD, kE, kF, kG, kH, kI, kJ, kK, aExtract, calleeOf, kD1, Nat.reduceBEq, HoldsAll, kL, kM, kN, kO, len4, len5, hw, d, awrap_succ i (by omega)]
  exact loop_again (n - (i + 1)) [(1, .pointer (some ⟨B, 0, none⟩)), (4, ov), (5, .int .i64 (i + 1 : Nat))] (by omega) (by simp only [hasAll, kS1, bLookup, bMapSet, wantA, isCall, stepOp, evalO, evalL, evalP, evalM, putDst, flat, kA, kB, Nat.reduceLT, ↓reduceIte, kC, Nat.reduceEqDiff, aBuiltin, abinG, guardFree, abin, aInt, aUn, aNilCheck, retQ, retQ1, aresults, aresultL, aresult, mkF, undefV, reduceCtorEq, kD, kE, kF, kG, kH, kI, kJ, kK, aExtract, calleeOf]; simp)
   ⟨i + 1, ov, rfl, hlt, rfl, by rw [hfl]; exact go5, leq.trans le5, ao⟩
end Go.Fw
