/- A text of the proof. -/
import Derived.Test.YtnaahaldkpdjlaaFwLF28
import Derived.Test.YtnaahaldkpdjlaaFwLB18
import Derived.Test.YtnaahaldkpdjlaaFwLN1
set_option linter.unusedSimpArgs false
set_option linter.unusedVariables false
namespace Go.Fw
open Go.Proofs
attribute [local irreducible] KO4 KO3 KO2 KO1 KO KN KX KE VK KCond KDraw KCall KLoop
set_option maxHeartbeats 16000000
set_option maxRecDepth 10000
attribute [local instance] Classical.propDecidable
theorem perm_of_sub {α : Type} : ∀ {A B : List α}, A.Nodup → (∀ a ∈ A, a ∈ B) → B.length ≤ A.length → A.Perm B
 | [], B, _, _, h => by rw [List.eq_nil_of_length_eq_zero (by simpa using h : B.length = 0)]
 | a :: A, B, nd, hs, h => by
  classical
  have hb := hs a List.mem_cons_self
  have nd' := List.nodup_cons.1 nd
  have p : B.Perm (a :: B.erase a) := List.perm_cons_erase hb
  have hl := p.length_eq
  simp only [List.length_cons] at hl h
  exact (List.Perm.cons a (perm_of_sub nd'.2 (fun x hx => (List.mem_erase_of_ne (by rintro rfl; exact nd'.1 hx)).2 (hs x (List.mem_cons_of_mem _ hx))) (by omega))).trans p.symm
section
variable {n : Nat} {es : List Pr} {rs : List (List Int)}
noncomputable def adjC (es : List Pr) (v j : Nat) : Nat := ((List.range j).filter fun w => decide (adj es v w)).length
theorem adjC_succ (es : List Pr) (v j : Nat) : adjC es v (j + 1) = adjC es v j + if adj es v j then 1 else 0 := by
 rw [adjC, adjC, List.range_succ, List.filter_append, List.length_append]
 by_cases c : adj es v j
 ·rw [if_pos c, List.filter_cons, if_pos (by simpa using c)]; rfl
 ·rw [if_neg c, List.filter_cons, if_neg (by simpa using c)]; rfl
theorem adjC_le (es : List Pr) (v j : Nat) : adjC es v j ≤ j := by
 have := List.length_filter_le (fun w => decide (adj es v w)) (List.range j)
 rwa [List.length_range] at this
theorem adjC_all (hr : InR n es) (ha : Asc es) (v : Nat) : adjC es v n = ((besM n es).getD v []).length := by
 have nd : ((besM n es).getD v []).Nodup := List.nodup_iff_pairwise_ne.2 ((besM_asc es hr ha v).imp fun h => by omega)
 have p : (((List.range n).filter fun w => decide (adj es v w)).map fun (w : Nat) => (w : Int)).Perm ((besM n es).getD v []) := by
  refine perm_of_mem ?_ nd fun x => ?_
  ·exact (List.nodup_iff_pairwise_ne).2 (List.pairwise_map.2 ((List.nodup_iff_pairwise_ne.1 (List.nodup_range.sublist List.filter_sublist)).imp fun h => by omega))
  ·rw [List.mem_map]
   constructor
   ·rintro ⟨w, hw, rfl⟩
    rw [List.mem_filter, decide_eq_true_eq] at hw
    exact (besM_mem hr v w).2 hw.2
   ·intro hx
    obtain ⟨w, rfl, hw⟩ := besM_nat hr hx
    exact ⟨w, List.mem_filter.2 ⟨List.mem_range.2 hw, by simpa using (besM_mem hr v w).1 hx⟩, rfl⟩
 rw [← p.length_eq, List.length_map, adjC]
theorem once_of_nodup {xs : List Int} (nd : xs.Nodup) {y : Int} (h : y ∈ xs) : ∃ i, Once xs y i := by
 obtain ⟨i, hi⟩ := List.mem_iff_getElem?.1 h
 refine ⟨i, hi, fun j hj => ?_⟩
 obtain ⟨a1, b1⟩ := List.getElem?_eq_some_iff.1 hi
 obtain ⟨a2, b2⟩ := List.getElem?_eq_some_iff.1 hj
 rw [List.nodup_iff_pairwise_ne, List.pairwise_iff_getElem] at nd
 rcases Nat.lt_trichotomy i j with c | c | c
 ·exact absurd (b1.trans b2.symm) (nd i j a1 a2 c)
 ·exact c.symm
 ·exact absurd (b2.trans b1.symm) (nd j i a2 a1 c)
def RowOK (n : Nat) (es : List Pr) (rs : List (List Int)) (v : Nat) : Prop := (rs.getD v []).Perm ((besM n es).getD v [])
theorem rowOK_iff (hr : InR n es) (ha : Asc es) (rs : List (List Int)) (v : Nat) : RowOK n es rs v ↔ (∀ w, w < n → adj es v w → ∃ i, Once (rs.getD v []) (w : Int) i) ∧ adjC es v n = (rs.getD v []).length := by
 have nd : ((besM n es).getD v []).Nodup := List.nodup_iff_pairwise_ne.2 ((besM_asc es hr ha v).imp fun h => by omega)
 rw [adjC_all hr ha v, RowOK]
 constructor
 ·intro p
  refine ⟨fun w _ hw => once_of_nodup (p.nodup_iff.2 nd) (p.mem_iff.2 ((besM_mem hr v w).2 hw)), p.length_eq.symm⟩
 ·rintro ⟨h1, h2⟩
  refine (perm_of_sub nd (fun x hx => ?_) (by omega)).symm
  obtain ⟨w, rfl, hw⟩ := besM_nat hr hx
  obtain ⟨i, hi⟩ := h1 w hw ((besM_mem hr v w).1 hx)
  exact List.mem_of_getElem? hi.1
end
theorem RRight_any (W0 : Base) (v rv : Value) (G : GM) (rs : List (List Int)) (h : AHeap) (hg : GR h v G) (hv : RL (RL isI) h rv rs) (hn : ∀ l ∈ rs, l.length ≤ 100000) :
  AC Try.prog W0 40 [v, rv] h fun x h' => BoolIs (RightG G ∧ RotG G.n.toNat G.es rs) x ∧ Le h h' := by
 have hg0 := hg
 obtain ⟨gn, es⟩ := G
 obtain ⟨ev, rfl, hp⟩ := hg.open
 refine AC.vc (fn := Try.f40) (c := _) ⟨Try.func40, rfl, by decide⟩ Try.ntmps40 Try.results40 (by simp) fun hwf => ?_
 simp only [argFrame, argFrom, Nat.reduceAdd]
 obtain ⟨h1, b1, le1, wf1, -, lA⟩ := boxG (n := gn) hwf hp
 generalize h.next = B at *
 have lA1 := lA h1 (Le.refl _)
 simp only [kS1, bLookup, bMapSet, wantA, isCall, stepOp, evalO, evalL, evalP, evalM, putDst, flat, kA, kB, Nat.reduceLT, ↓reduceIte, kC, Nat.reduceEqDiff, aBuiltin, abinG, guardFree, abin, aInt, aUn, aNilCheck, retQ, retQ1, aresults, aresultL, aresult, mkF, undefV, reduceCtorEq, kD, kE, kF, kG, kH, kI, kJ, kK, aExtract, calleeOf, b1, lA1.1]
 refine KCall.intro (by simp only [kS1, bLookup, bMapSet, wantA, isCall, stepOp, evalO, evalL, evalP, evalM, putDst, flat, kA, kB, Nat.reduceLT, ↓reduceIte, kC, Nat.reduceEqDiff, aBuiltin, abinG, guardFree, abin, aInt, aUn, aNilCheck, retQ, retQ1, aresults, aresultL, aresult, mkF, undefV, reduceCtorEq, kD, kE, kF, kG, kH, kI, kJ, kK, aExtract, calleeOf] <;> rfl) ⟨Try.func79, rfl, by decide⟩ (RefRight_any W0 _ _ h1 (hg0.le le1)) ?_
 rintro x h2 w2 ⟨⟨b, rfl, hbb⟩, l2⟩
 have lA2 := lA h2 l2
 cases b with
 | false =>
  simp only [kS1, bLookup, bMapSet, wantA, isCall, stepOp, evalO, evalL, evalP, evalM, putDst, flat, kA, kB, Nat.reduceLT, ↓reduceIte, kC, Nat.reduceEqDiff, aBuiltin, abinG, guardFree, abin, aInt, aUn, aNilCheck, retQ, retQ1, aresults, aresultL, aresult, mkF, undefV, reduceCtorEq, kD, kE, kF, kG, kH, kI, kJ, kK, aExtract, calleeOf]
  exact ⟨BoolIs.f (fun h => by cases hbb.2 h.1), le1.trans l2⟩
 | true =>
 have hr := hbb.1 rfl
 clear hbb
 have h0 : 0 ≤ gn := hr.n0
 obtain ⟨n, rfl⟩ := Int.eq_ofNat_of_zero_le h0
 have h200 : (n : Int) ≤ 200 := hr.n1
 have hR := hr.inR
 have hA := hr.asc
 have lr := fun g => hv.len (P := Try.prog) Try.underlying52 g
 by_cases c : rs.length = n
 rotate_left
 ·have d : bne (rs.length : Int) (n : Int) = true := bne_iff_ne.2 (by omega)
  simp only [kS1, bLookup, bMapSet, wantA, isCall, stepOp, evalO, evalL, evalP, evalM, putDst, flat, kA, kB, Nat.reduceLT, ↓reduceIte, kC, Nat.reduceEqDiff, aBuiltin, abinG, guardFree, abin, aInt, aUn, aNilCheck, retQ, retQ1, aresults, aresultL, aresult, mkF, undefV, reduceCtorEq, kD, kE, kF, kG, kH, kI, kJ, kK, aExtract, calleeOf, lr, fg0, aadd, Nat.zero_add, lA2.2.1, d]
  exact ⟨BoolIs.f fun h => c h.2.len, le1.trans l2⟩
 have d : bne (rs.length : Int) (n : Int) = false := by rw [c]; simp
 simp only [kS1, bLookup, bMapSet, wantA, isCall, stepOp, evalO, evalL, evalP, evalM, putDst, flat, kA, kB, Nat.reduceLT, ↓reduceIte, kC, Nat.reduceEqDiff, aBuiltin, abinG, guardFree, abin, aInt, aUn, aNilCheck, retQ, retQ1, aresults, aresultL, aresult, mkF, undefV, reduceCtorEq, kD, kE, kF, kG, kH, kI, kJ, kK, aExtract, calleeOf, lr, fg0, aadd, Nat.zero_add, lA2.2.1, d]
 refine KLoop.intro (fun k fr hq => ∃ i, k = n - i ∧ i ≤ n ∧ fr = mkF [(1, rv), (2, .pointer (some ⟨B, 0, none⟩)), (5, .int .i64 i)] ∧ Le h2 hq ∧ ∀ v, v < i → RowOK n es rs v)
  n [(1, rv), (2, .pointer (some ⟨B, 0, none⟩)), (5, .int .i64 (0 : Nat))] (by simp only [hasAll, kS1, bLookup, bMapSet, wantA, isCall, stepOp, evalO, evalL, evalP, evalM, putDst, flat, kA, kB, Nat.reduceLT, ↓reduceIte, kC, Nat.reduceEqDiff, aBuiltin, abinG, guardFree, abin, aInt, aUn, aNilCheck, retQ, retQ1, aresults, aresultL, aresult, mkF, undefV, reduceCtorEq, kD, kE, kF, kG, kH, kI, kJ, kK, aExtract, calleeOf]; simp) ⟨0, rfl, Nat.zero_le _, rfl, Le.refl _, fun v hv => absurd hv (Nat.not_lt_zero v)⟩ ?_
 rintro k fr hq hwq ⟨i, rfl, hi, rfl, lq, hrow⟩
 have lAq := lA hq (l2.trans lq)
 simp only [kS1, bLookup, bMapSet, wantA, isCall, stepOp, evalO, evalL, evalP, evalM, putDst, flat, kA, kB, Nat.reduceLT, ↓reduceIte, kC, Nat.reduceEqDiff, aBuiltin, abinG, guardFree, abin, aInt, aUn, aNilCheck, retQ, retQ1, aresults, aresultL, aresult, mkF, undefV, reduceCtorEq, kD, kE, kF, kG, kH, kI, kJ, kK, aExtract, calleeOf, fg0, aadd, Nat.zero_add, lAq.2.1]
 refine KCond.intro (fun ht => ?_) (fun hf => ?_)
 rotate_left
 ·have hge : n ≤ i := lt_f hf
  simp only [kS1, bLookup, bMapSet, wantA, isCall, stepOp, evalO, evalL, evalP, evalM, putDst, flat, kA, kB, Nat.reduceLT, ↓reduceIte, kC, Nat.reduceEqDiff, aBuiltin, abinG, guardFree, abin, aInt, aUn, aNilCheck, retQ, retQ1, aresults, aresultL, aresult, mkF, undefV, reduceCtorEq, kD, kE, kF, kG, kH, kI, kJ, kK, aExtract, calleeOf]
  refine ⟨BoolIs.t ⟨hr, by rw [Int.toNat_natCast]; exact ⟨c, fun v hv => hrow v (by omega)⟩⟩, (le1.trans l2).trans lq⟩
 have hlt : i < n := lt_t ht
 clear ht
 have hir : i < rs.length := by omega
 have ar := hv.addr (P := Try.prog) Try.underlying52 Try.underlying38 (by kernel_rfl) (k := .i64) i hir
 obtain ⟨u, lu', hu⟩ := hv.load' (P := Try.prog) Try.underlying38 rfl i hir
 have hnl := hn _ (List.getElem_mem hir)
 have hgd : rs.getD i [] = rs[i] := getD_of hir
 have hok := rowOK_iff hR hA rs i
 rw [hgd] at hok
 generalize rs[i] = r at *
 have ll := fun g => hu.len (P := Try.prog) Try.underlying38 g
 simp only [kS1, bLookup, bMapSet, wantA, isCall, stepOp, evalO, evalL, evalP, evalM, putDst, flat, kA, kB, Nat.reduceLT, ↓reduceIte, kC, Nat.reduceEqDiff, aBuiltin, abinG, guardFree, abin, aInt, aUn, aNilCheck, retQ, retQ1, aresults, aresultL, aresult, mkF, undefV, reduceCtorEq, kD, kE, kF, kG, kH, kI, kJ, kK, aExtract, calleeOf]
 refine KLoop.intro (fun k fr hz => ∃ j, k = n - j ∧ j ≤ n ∧ fr = mkF [(1, rv), (2, .pointer (some ⟨B, 0, none⟩)), (5, .int .i64 i), (6, .int .i64 (adjC es i j)), (7, .int .i64 j)] ∧ Le hq hz ∧ ∀ w, w < j → adj es i w → ∃ q, Once r (w : Int) q)
  n [(1, rv), (2, .pointer (some ⟨B, 0, none⟩)), (5, .int .i64 i), (6, .int .i64 (0 : Nat)), (7, .int .i64 (0 : Nat))] (by simp only [hasAll, kS1, bLookup, bMapSet, wantA, isCall, stepOp, evalO, evalL, evalP, evalM, putDst, flat, kA, kB, Nat.reduceLT, ↓reduceIte, kC, Nat.reduceEqDiff, aBuiltin, abinG, guardFree, abin, aInt, aUn, aNilCheck, retQ, retQ1, aresults, aresultL, aresult, mkF, undefV, reduceCtorEq, kD, kE, kF, kG, kH, kI, kJ, kK, aExtract, calleeOf]; simp) ⟨0, rfl, Nat.zero_le _, rfl, Le.refl _, fun v hv => absurd hv (Nat.not_lt_zero v)⟩ ?_
 rintro k fr hz hwz ⟨j, rfl, hj, rfl, lz, hon⟩
 have L := (l2.trans lq).trans lz
 have lAz := lA hz L
 simp only [kS1, bLookup, bMapSet, wantA, isCall, stepOp, evalO, evalL, evalP, evalM, putDst, flat, kA, kB, Nat.reduceLT, ↓reduceIte, kC, Nat.reduceEqDiff, aBuiltin, abinG, guardFree, abin, aInt, aUn, aNilCheck, retQ, retQ1, aresults, aresultL, aresult, mkF, undefV, reduceCtorEq, kD, kE, kF, kG, kH, kI, kJ, kK, aExtract, calleeOf, fg0, aadd, Nat.zero_add, lAz.2.1]
 refine KCond.intro (fun ht => ?_) (fun hf => ?_)
 ·have hjt : j < n := lt_t ht
  clear ht
  simp only [kS1, bLookup, bMapSet, wantA, isCall, stepOp, evalO, evalL, evalP, evalM, putDst, flat, kA, kB, Nat.reduceLT, ↓reduceIte, kC, Nat.reduceEqDiff, aBuiltin, abinG, guardFree, abin, aInt, aUn, aNilCheck, retQ, retQ1, aresults, aresultL, aresult, mkF, undefV, reduceCtorEq, kD, kE, kF, kG, kH, kI, kJ, kK, aExtract, calleeOf, lAz.1]
  refine KCall.intro (by simp only [kS1, bLookup, bMapSet, wantA, isCall, stepOp, evalO, evalL, evalP, evalM, putDst, flat, kA, kB, Nat.reduceLT, ↓reduceIte, kC, Nat.reduceEqDiff, aBuiltin, abinG, guardFree, abin, aInt, aUn, aNilCheck, retQ, retQ1, aresults, aresultL, aresult, mkF, undefV, reduceCtorEq, kD, kE, kF, kG, kH, kI, kJ, kK, aExtract, calleeOf] <;> rfl) ⟨Try.func80, rfl, by decide⟩ (RHas_any W0 _ n i j es hz (hg0.le (le1.trans L)) hr) ?_
  rintro x h3 w3 ⟨rfl, l3⟩
  have hwj := awrap_succ j (by omega)
  have hsc := adjC_succ es i j
  have hle := adjC_le es i j
  by_cases a : adj es i j
  ·have dA : decide (adj es i j) = true := decide_eq_true a
   have hwm := awrap_succ (adjC es i j) (by omega)
   rw [if_pos a] at hsc
   have lu := lu' h3 (((le1.trans L).trans l3))
   simp only [kS1, bLookup, bMapSet, wantA, isCall, stepOp, evalO, evalL, evalP, evalM, putDst, flat, kA, kB, Nat.reduceLT, ↓reduceIte, kC, Nat.reduceEqDiff, aBuiltin, abinG, guardFree, abin, aInt, aUn, aNilCheck, retQ, retQ1, aresults, aresultL, aresult, mkF, undefV, reduceCtorEq, kD, kE, kF, kG, kH, kI, kJ, kK, aExtract, calleeOf, dA, hwm, ar, lu]
   refine KCall.intro (by simp only [kS1, bLookup, bMapSet, wantA, isCall, stepOp, evalO, evalL, evalP, evalM, putDst, flat, kA, kB, Nat.reduceLT, ↓reduceIte, kC, Nat.reduceEqDiff, aBuiltin, abinG, guardFree, abin, aInt, aUn, aNilCheck, retQ, retQ1, aresults, aresultL, aresult, mkF, undefV, reduceCtorEq, kD, kE, kF, kG, kH, kI, kJ, kK, aExtract, calleeOf] <;> rfl) ⟨Try.func77, rfl, by decide⟩ (place_any W0 u r (j : Int) h3 (hu.le Stays.isI ((le1.trans L).trans l3)) hnl) ?_
   rintro x h4 w4 ⟨⟨k, hk, hko, rfl⟩ | ⟨rfl, hno⟩, rfl⟩
   ·have d2 : decide ((k : Int) < 0) = false := decide_eq_false (by omega)
    simp only [kS1, bLookup, bMapSet, wantA, isCall, stepOp, evalO, evalL, evalP, evalM, putDst, flat, kA, kB, Nat.reduceLT, ↓reduceIte, kC, Nat.reduceEqDiff, aBuiltin, abinG, guardFree, abin, aInt, aUn, aNilCheck, retQ, retQ1, aresults, aresultL, aresult, mkF, undefV, reduceCtorEq, kD, kE, kF, kG, kH, kI, kJ, kK, aExtract, calleeOf, d2, hwj]
    refine loop_again (n - (j + 1)) [(1, rv), (2, .pointer (some ⟨B, 0, none⟩)), (5, .int .i64 i), (6, .int .i64 (adjC es i j + 1 : Nat)), (7, .int .i64 (j + 1 : Nat))] (stq hjt) (by simp only [hasAll, kS1, bLookup, bMapSet, wantA, isCall, stepOp, evalO, evalL, evalP, evalM, putDst, flat, kA, kB, Nat.reduceLT, ↓reduceIte, kC, Nat.reduceEqDiff, aBuiltin, abinG, guardFree, abin, aInt, aUn, aNilCheck, retQ, retQ1, aresults, aresultL, aresult, mkF, undefV, reduceCtorEq, kD, kE, kF, kG, kH, kI, kJ, kK, aExtract, calleeOf]; simp) ⟨j + 1, rfl, hjt, by rw [hsc] <;> rfl, lz.trans l3, fun w hw aw => ?_⟩
    by_cases e : w = j
    ·subst e; exact ⟨k, hko⟩
    ·exact hon w (by omega) aw
   ·have d2 : decide ((-1 : Int) < 0) = true := by decide
    simp only [kS1, bLookup, bMapSet, wantA, isCall, stepOp, evalO, evalL, evalP, evalM, putDst, flat, kA, kB, Nat.reduceLT, ↓reduceIte, kC, Nat.reduceEqDiff, aBuiltin, abinG, guardFree, abin, aInt, aUn, aNilCheck, retQ, retQ1, aresults, aresultL, aresult, mkF, undefV, reduceCtorEq, kD, kE, kF, kG, kH, kI, kJ, kK, aExtract, calleeOf, d2]
    refine ⟨BoolIs.f fun q => ?_, (le1.trans L).trans l3⟩
    rw [Int.toNat_natCast] at q
    obtain ⟨k, hk⟩ := (hok.1 (q.2.perm i hlt)).1 j hjt a
    exact hno k hk
  ·have dA : decide (adj es i j) = false := decide_eq_false a
   rw [if_neg a] at hsc
   simp only [kS1, bLookup, bMapSet, wantA, isCall, stepOp, evalO, evalL, evalP, evalM, putDst, flat, kA, kB, Nat.reduceLT, ↓reduceIte, kC, Nat.reduceEqDiff, aBuiltin, abinG, guardFree, abin, aInt, aUn, aNilCheck, retQ, retQ1, aresults, aresultL, aresult, mkF, undefV, reduceCtorEq, kD, kE, kF, kG, kH, kI, kJ, kK, aExtract, calleeOf, dA, hwj]
   refine loop_again (n - (j + 1)) [(1, rv), (2, .pointer (some ⟨B, 0, none⟩)), (5, .int .i64 i), (6, .int .i64 (adjC es i j)), (7, .int .i64 (j + 1 : Nat))] (stq hjt) (by simp only [hasAll, kS1, bLookup, bMapSet, wantA, isCall, stepOp, evalO, evalL, evalP, evalM, putDst, flat, kA, kB, Nat.reduceLT, ↓reduceIte, kC, Nat.reduceEqDiff, aBuiltin, abinG, guardFree, abin, aInt, aUn, aNilCheck, retQ, retQ1, aresults, aresultL, aresult, mkF, undefV, reduceCtorEq, kD, kE, kF, kG, kH, kI, kJ, kK, aExtract, calleeOf]; simp) ⟨j + 1, rfl, hjt, by rw [hsc] <;> rfl, lz.trans l3, fun w hw aw => ?_⟩
   by_cases e : w = j
   ·subst e; exact absurd aw a
   ·exact hon w (by omega) aw
 ·have hge : n ≤ j := lt_f hf
  obtain rfl : j = n := by omega
  have lu := lu' hz (le1.trans L)
  have hwi := awrap_succ i (by omega)
  by_cases e : adjC es i j = r.length
  ·have d2 : bne ((adjC es i j : Nat) : Int) (r.length : Int) = false := by rw [e]; simp
   simp only [kS1, bLookup, bMapSet, wantA, isCall, stepOp, evalO, evalL, evalP, evalM, putDst, flat, kA, kB, Nat.reduceLT, ↓reduceIte, kC, Nat.reduceEqDiff, aBuiltin, abinG, guardFree, abin, aInt, aUn, aNilCheck, retQ, retQ1, aresults, aresultL, aresult, mkF, undefV, reduceCtorEq, kD, kE, kF, kG, kH, kI, kJ, kK, aExtract, calleeOf, ar, lu, ll, d2, hwi]
   refine loop_again (j - (i + 1)) [(1, rv), (2, .pointer (some ⟨B, 0, none⟩)), (5, .int .i64 (i + 1 : Nat))] (stq hlt) (by simp only [hasAll, kS1, bLookup, bMapSet, wantA, isCall, stepOp, evalO, evalL, evalP, evalM, putDst, flat, kA, kB, Nat.reduceLT, ↓reduceIte, kC, Nat.reduceEqDiff, aBuiltin, abinG, guardFree, abin, aInt, aUn, aNilCheck, retQ, retQ1, aresults, aresultL, aresult, mkF, undefV, reduceCtorEq, kD, kE, kF, kG, kH, kI, kJ, kK, aExtract, calleeOf]; simp) ⟨i + 1, rfl, hlt, rfl, lq.trans lz, fun v hv => ?_⟩
   by_cases e2 : v = i
   ·subst e2; exact hok.2 ⟨hon, e⟩
   ·exact hrow v (by omega)
  ·have d2 : bne ((adjC es i j : Nat) : Int) (r.length : Int) = true := bne_iff_ne.2 (by omega)
   simp only [kS1, bLookup, bMapSet, wantA, isCall, stepOp, evalO, evalL, evalP, evalM, putDst, flat, kA, kB, Nat.reduceLT, ↓reduceIte, kC, Nat.reduceEqDiff, aBuiltin, abinG, guardFree, abin, aInt, aUn, aNilCheck, retQ, retQ1, aresults, aresultL, aresult, mkF, undefV, reduceCtorEq, kD, kE, kF, kG, kH, kI, kJ, kK, aExtract, calleeOf, ar, lu, ll, d2]
   refine ⟨BoolIs.f fun q => ?_, (le1.trans L)⟩
   rw [Int.toNat_natCast] at q
   exact e (hok.1 (q.2.perm i hlt)).2
end Go.Fw
