/- A text of the proof. -/
import Derived.Test.YtnaahaldkpdjlaaFwLB14
import Derived.Test.YtnaahaldkpdjlaaFwLW3
import Derived.Test.YtnaahaldkpdjlaaFwFrame
set_option linter.unusedSimpArgs false
set_option linter.unusedVariables false
namespace Go.Fw
set_option maxRecDepth 10000
abbrev offA : Nat → Bool := fun _ => false
abbrev Con (es : List Pr) : Nat → Nat → Prop := Cn offA es
theorem Con.refl (es : List Pr) (u : Nat) : Con es u u := Cn.refl rfl
theorem con_adj {es : List Pr} {u w : Nat} (h : adj es u w) : Con es u w := .step (.refl rfl) h rfl
theorem Con.lt {n : Nat} {es : List Pr} (hr : InR n es) {u w : Nat} (h : Con es u w) (hu : u < n) : w < n := by
 induction h with
 | refl _ => exact hu
 | step _ a _ _ => exact (a.lt hr).2
theorem Dfs.con {n : Nat} {es : List Pr} {s : Nat} {o : List Nat} {up : List Int} (d : Dfs n es s o up) : ∀ v ∈ o, Con es s v := by
 induction d with
 | start => intro v hv; rw [List.mem_singleton] at hv; subst hv; exact Con.refl es _
 | step d hk ha _ _ _ ih =>
  intro x hx
  rw [List.mem_append, List.mem_singleton] at hx
  rcases hx with hx | rfl
  ·exact ih x hx
  ·exact .step (ih _ (List.mem_of_getElem? hk)) ha rfl
theorem Dfs.head {n : Nat} {es : List Pr} {s : Nat} {o : List Nat} {up : List Int} (d : Dfs n es s o up) : o[0]? = some s := by
 induction d with
 | start => rfl
 | step d _ _ _ _ _ ih => rw [List.getElem?_append_left (by have := d.len.1; omega)]; exact ih
theorem Dfs.nodup {n : Nat} {es : List Pr} {s : Nat} {o : List Nat} {up : List Int} (d : Dfs n es s o up) : o.Nodup := by
 induction d with
 | start => simp
 | step d _ _ hw _ _ ih =>
  rw [List.nodup_append]
  exact ⟨ih, by simp, fun a ha b hb e => by rw [List.mem_singleton] at hb; subst hb; subst e; exact hw ha⟩
theorem DfsFin.mem {n : Nat} {es : List Pr} {s : Nat} {o : List Nat} {up : List Int} (d : DfsFin n es s o up) (v : Nat) : v ∈ o ↔ Con es s v := by
 refine ⟨d.dfs.con v, fun h => ?_⟩
 induction h with
 | refl _ => exact List.mem_of_getElem? d.dfs.head
 | step _ a _ ih => exact d.full _ ih _ a
open Classical in
noncomputable def compL (n : Nat) (es : List Pr) (v : Nat) : List Nat := (List.range n).filter fun w => decide (Con es v w)
open Classical in
noncomputable def heads (n : Nat) (es : List Pr) : List Nat := (List.range n).filter fun v => decide (∀ u, u < v → ¬ Con es u v)
noncomputable def partsN (n : Nat) (es : List Pr) (k : Nat) : List (List Nat) := ((heads k es).map (compL n es))
theorem mem_compL {n : Nat} {es : List Pr} {v w : Nat} : w ∈ compL n es v ↔ w < n ∧ Con es v w := by simp [compL]
theorem mem_heads {n : Nat} {es : List Pr} {v : Nat} : v ∈ heads n es ↔ v < n ∧ ∀ u, u < v → ¬ Con es u v := by simp [heads]
theorem heads_succ (k : Nat) (es : List Pr) : (heads (k + 1) es = heads k es ++ [k] ∧ ∀ u, u < k → ¬ Con es u k) ∨ (heads (k + 1) es = heads k es ∧ ∃ u, u < k ∧ Con es u k) := by
 classical
 by_cases h : ∀ u, u < k → ¬ Con es u k
 ·left; refine ⟨?_, h⟩; simp only [heads, List.range_succ, List.filter_append]; congr 1; simpa using h
 ·right
  refine ⟨?_, by simpa using h⟩
  simp only [heads, List.range_succ, List.filter_append]
  rw [List.filter_cons_of_neg (by simpa using h)]; simp
theorem heads_length (k : Nat) (es : List Pr) : (heads k es).length ≤ k := by
 unfold heads; exact Nat.le_trans (List.length_filter_le _ _) (by simp)
theorem range_asc (n : Nat) : (List.range n).Pairwise (· < ·) := by
 rw [List.pairwise_iff_getElem]; intro i j hi hj hij; simpa using hij
theorem compL_asc (n : Nat) (es : List Pr) (v : Nat) : (compL n es v).Pairwise (· < ·) := (range_asc n).filter _
theorem sort_comp {n : Nat} {es : List Pr} (hr : InR n es) {s : Nat} {o : List Nat} {up : List Int} (d : DfsFin n es s o up) (hs : s < n) : sortI (nat64 o) = nat64 (compL n es s) := by
 have e1 : (nat64 (compL n es s)).Pairwise (· < ·) := by
  rw [nat64, List.pairwise_map]; exact (compL_asc n es s).imp fun h => by omega
 have e2 : (sortI (nat64 o)).Pairwise (· < ·) := by
  have nd : (sortI (nat64 o)).Nodup := by
   have hp : (sortI (nat64 o)).Perm (nat64 o) := List.mergeSort_perm _ _
   rw [hp.nodup_iff, nat64]
   have := d.dfs.nodup
   rw [List.nodup_iff_pairwise_ne] at this ⊢
   rw [List.pairwise_map]; exact this.imp fun h e => h (by omega)
  have := List.Pairwise.and (sortI_le (nat64 o)) (List.nodup_iff_pairwise_ne.1 nd)
  exact this.imp fun h => by have := h.1; have := h.2; omega
 refine sorted_eq _ _ e2 e1 fun x => ?_
 rw [sortI_mem]
 simp only [nat64, List.mem_map, mem_compL]
 constructor
 ·rintro ⟨v, hv, rfl⟩; exact ⟨v, ⟨((d.mem v).1 hv).lt hr hs, (d.mem v).1 hv⟩, rfl⟩
 ·rintro ⟨v, ⟨_, hv⟩, rfl⟩; exact ⟨v, (d.mem v).2 hv, rfl⟩
end Go.Fw
namespace Go.Fw
open Go.Proofs
attribute [local irreducible] KO4 KO3 KO2 KO1 KO KN KX KE VK KCond KDraw KCall KLoop
set_option maxHeartbeats 8000000
set_option maxRecDepth 10000
theorem mkL52 (h : AHeap) {u : Value} {n : Nat} (hu : isSl u n) : aBuildSlice Try.prog h 32 1 [(0, u)] = some (.slice (some ⟨h.next, 0, none⟩) 1 1, h.alloc (.cells [u])) := by
 obtain ⟨_, _, rfl, _⟩ := hu; rfl
theorem mkL52e (h : AHeap) : aBuildSlice Try.prog h 32 0 [] = some (.slice (some ⟨h.next, 0, none⟩) 0 0, h.alloc (.cells [])) := rfl
theorem Parts_any (W0 : Base) (v : Value) (G : GM) (h : AHeap) (hg : GR h v G) (hr : RightG G) :
  AC Try.prog W0 17 [v] h fun x h' => GRL (RL isI) h' x ((partsN G.n.toNat G.es G.n.toNat).map nat64) ∧ Le h h' ∧ Apart h x := by
 have hg0 := hg
 obtain ⟨gn, es⟩ := G
 obtain ⟨ev, rfl, hp⟩ := hg.open
 have h0 : 0 ≤ gn := hr.n0
 obtain ⟨n, rfl⟩ := Int.eq_ofNat_of_zero_le h0
 have h200 : (n : Int) ≤ 200 := hr.n1
 have h594 : es.length ≤ 594 := hr.len
 have hR := hr.inR
 have hA := hr.asc
 simp only [Int.toNat_natCast]
 refine AC.vc (fn := Try.f17) (c := _) ⟨Try.func17, rfl, by decide⟩ Try.ntmps17 Try.results17 (by simp) fun hwf => ?_
 simp only [argFrame, argFrom, Nat.reduceAdd]
 obtain ⟨h1, b1, le1, wf1, -, lA⟩ := boxG (n := (n : Int)) hwf hp
 generalize h.next = B at *
 have lA1 := lA h1 (Le.refl _)
 simp only [kS1, bLookup, bMapSet, wantA, isCall, stepOp, evalO, evalL, evalP, evalM, putDst, flat, kA, kB, Nat.reduceLT, ↓reduceIte, kC, Nat.reduceEqDiff, aBuiltin, abinG, guardFree, abin, aInt, aUn, aNilCheck, retQ, retQ1, aresults, aresultL, aresult, mkF, undefV, reduceCtorEq, kD, kE, kF, kG, kH, kI, kJ, kK, aExtract, calleeOf, b1, lA1.1]
 refine KCall.intro (by simp only [kS1, bLookup, bMapSet, wantA, isCall, stepOp, evalO, evalL, evalP, evalM, putDst, flat, kA, kB, Nat.reduceLT, ↓reduceIte, kC, Nat.reduceEqDiff, aBuiltin, abinG, guardFree, abin, aInt, aUn, aNilCheck, retQ, retQ1, aresults, aresultL, aresult, mkF, undefV, reduceCtorEq, kD, kE, kF, kG, kH, kI, kJ, kK, aExtract, calleeOf] <;> rfl) ⟨Try.func61, rfl, by decide⟩ (start_any W0 _ (.slice none 0 0) ⟨(n : Int), es⟩ [] h1 (hg0.le le1) RL.nil (by simp)) ?_
 rintro x h2 wf2 ⟨le2, lv, e, rfl, hc⟩
 obtain ⟨rfl, hrows⟩ : e = 0 ∧ RL (RL isI) h2 lv (besM n es) := by
  rcases hc with ⟨h, _⟩ | ⟨_, h, _⟩ | ⟨_, _, h, h'⟩
  ·exact absurd hr h
  ·exact absurd (by simp) h
  ·exact ⟨h, by simpa using h'⟩
 clear hc
 obtain ⟨h3, e3, l3, w3, o3⟩ := alloc_f wf2 []
 have lA3 := lA h3 (le2.trans l3)
 have mk := aMakeSlice1 (P := Try.prog) (t := 25) (z := .bool false) h3 Try.underlying25 rfl rfl rfl rfl (by kernel_rfl) Try.underlying4 (by kernel_rfl) n (by omega)
 obtain ⟨h4, e4, l4, w4, o4⟩ := alloc_f w3 (List.replicate n (.bool false))
 rw [e4] at mk
 have lA4 := lA h4 ((le2.trans l3).trans l4)
 simp only [kS1, bLookup, bMapSet, wantA, isCall, stepOp, evalO, evalL, evalP, evalM, putDst, flat, kA, kB, Nat.reduceLT, ↓reduceIte, kC, Nat.reduceEqDiff, aBuiltin, abinG, guardFree, abin, aInt, aUn, aNilCheck, retQ, retQ1, aresults, aresultL, aresult, mkF, undefV, reduceCtorEq, kD, kE, kF, kG, kH, kI, kJ, kK, aExtract, calleeOf, fg0, aadd, Nat.zero_add, mkL52e, e3, lA3.2.1, mk, lA4.2.1, bne]
 have nP : h2.own h2.next = none := (Le.refl h2).next wf2 (Nat.le_refl _)
 have nM : h3.own h3.next = none := (Le.refl h3).next w3 (Nat.le_refl _)
 have nM2 : h2.own h3.next = none := l3.none nM
 have ne : h2.next ≠ h3.next := fun e => by rw [← e, o3] at nM; cases nM
 generalize h3.next = M at *
 have oM : h4.own M = some (.cells (Bo (List.replicate n false))) := by rw [o4]; simp [Bo]
 have le14 := ((le1.trans le2).trans l3).trans l4
 have g0 : GRL (RL isI) (rem [M] h4) (.slice (some ⟨h2.next, 0, none⟩) 0 0) ((partsN n es 0).map nat64) := by
  have : (partsN n es 0).map nat64 = [] := by simp [partsN, heads]
  rw [this]; exact GRL.empty _ (rem_some.2 ⟨l4.own _ _ o3, by simpa using ne⟩)
 have ap0 : Apart h2 (.slice (some ⟨h2.next, 0, none⟩) 0 0) := fun b hb => by injection hb with hb; subst hb; exact nP
 have bp0 : blk (.slice (some ⟨h2.next, 0, none⟩) 0 0) ≠ some M := fun e => by injection e with e; exact ne e
 generalize Value.slice (some ⟨h2.next, 0, none⟩) 0 0 = pv0 at *
 have ixM : ∀ (k : IntKind) (j : Nat), j < n → aIndexAddr Try.prog 25 (.slice (some ⟨M, 0, none⟩) n n) (.int k j) = some (.pointer (some ⟨M, j, none⟩)) := fun k j hj => by rw [aIdx Try.underlying25 Try.underlying4 (by kernel_rfl) j hj]; simp [aadd]
 have ldB : ∀ (g : AHeap) (T : Nat) (L : List Bool) (j : Nat) (l : Bool), g.own T = some (.cells (Bo L)) → L[j]? = some l → aload Try.prog g 4 ⟨T, j, none⟩ = some (.bool l) := fun g T L j l ho hl => by
  rw [aload_one Try.underlying4 rfl ho]; simp [Bo, hl]
 refine KLoop.intro (fun k fr hq => ∃ (i : Nat) (pv : Value) (met : List Bool), k = n - i ∧ i ≤ n ∧ fr = mkF [(3, lv), (5, pv), (6, .slice (some ⟨M, 0, none⟩) n n), (24, .int .i64 n), (25, .int .i64 i)] ∧
   hq.own M = some (.cells (Bo met)) ∧ met.length = n ∧ GRL (RL isI) (rem [M] hq) pv ((partsN n es i).map nat64) ∧ blk pv ≠ some M ∧ Le h2 hq ∧ Apart h2 pv ∧ ∀ w, w < n → (met[w]? = some true ↔ ∃ u, u < i ∧ Con es u w))
  n [(3, lv), (5, pv0), (6, .slice (some ⟨M, 0, none⟩) n n), (24, .int .i64 n), (25, .int .i64 (0 : Nat))] (by simp only [hasAll, kS1, bLookup, bMapSet, wantA, isCall, stepOp, evalO, evalL, evalP, evalM, putDst, flat, kA, kB, Nat.reduceLT, ↓reduceIte, kC, Nat.reduceEqDiff, aBuiltin, abinG, guardFree, abin, aInt, aUn, aNilCheck, retQ, retQ1, aresults, aresultL, aresult, mkF, undefV, reduceCtorEq, kD, kE, kF, kG, kH, kI, kJ, kK, aExtract, calleeOf]; simp)
  ⟨0, _, _, rfl, Nat.zero_le _, rfl, oM, by simp, g0, bp0, l3.trans l4, ap0, fun w hw => by simp [hw]⟩ ?_
 clear ap0 bp0 g0 le14 oM ne nM nP lA4 o4 w4 l4 e4 mk lA3 o3 w3 l3 e3
 clear h4 pv0 h3
 rintro k fr hq hwq ⟨i, pv, met, rfl, hi, rfl, oM, hml, gp, np, leq, ap, hm⟩
 have hpl : ((partsN n es i).map nat64).length ≤ n := by
  have := heads_length i es
  simp only [partsN, List.length_map]; omega
 simp only [kS1, bLookup, bMapSet, wantA, isCall, stepOp, evalO, evalL, evalP, evalM, putDst, flat, kA, kB, Nat.reduceLT, ↓reduceIte, kC, Nat.reduceEqDiff, aBuiltin, abinG, guardFree, abin, aInt, aUn, aNilCheck, retQ, retQ1, aresults, aresultL, aresult, mkF, undefV, reduceCtorEq, kD, kE, kF, kG, kH, kI, kJ, kK, aExtract, calleeOf]
 refine KCond.intro (fun ht => ?_) (fun hf => ?_)
 rotate_left
 ·have hge : n ≤ i := lt_f hf
  obtain rfl : i = n := by omega
  simp only [kS1, bLookup, bMapSet, wantA, isCall, stepOp, evalO, evalL, evalP, evalM, putDst, flat, kA, kB, Nat.reduceLT, ↓reduceIte, kC, Nat.reduceEqDiff, aBuiltin, abinG, guardFree, abin, aInt, aUn, aNilCheck, retQ, retQ1, aresults, aresultL, aresult, mkF, undefV, reduceCtorEq, kD, kE, kF, kG, kH, kI, kJ, kK, aExtract, calleeOf]
  exact ⟨gp.le (Stays.RL Stays.isI) (rem_le _ _), (le1.trans le2).trans leq, fun b hb => (le1.trans le2).none (ap b hb)⟩
 have hlt : i < n := lt_t ht
 clear ht
 have hmi := getElem?_of (show i < met.length by omega)
 generalize met[i]'(by omega) = mb at hmi
 have ldm := ldB hq M met i mb oM hmi
 cases mb with
 | true =>
  have hx := (hm i hlt).1 hmi
  simp only [kS1, bLookup, bMapSet, wantA, isCall, stepOp, evalO, evalL, evalP, evalM, putDst, flat, kA, kB, Nat.reduceLT, ↓reduceIte, kC, Nat.reduceEqDiff, aBuiltin, abinG, guardFree, abin, aInt, aUn, aNilCheck, retQ, retQ1, aresults, aresultL, aresult, mkF, undefV, reduceCtorEq, kD, kE, kF, kG, kH, kI, kJ, kK, aExtract, calleeOf, ixM _ i hlt, ldm, awrap_succ i (by omega)]
  refine loop_again (n - (i + 1)) [(3, lv), (5, pv), (6, .slice (some ⟨M, 0, none⟩) n n), (24, .int .i64 n), (25, .int .i64 (i + 1 : Nat))] (by omega) (by simp only [hasAll, kS1, bLookup, bMapSet, wantA, isCall, stepOp, evalO, evalL, evalP, evalM, putDst, flat, kA, kB, Nat.reduceLT, ↓reduceIte, kC, Nat.reduceEqDiff, aBuiltin, abinG, guardFree, abin, aInt, aUn, aNilCheck, retQ, retQ1, aresults, aresultL, aresult, mkF, undefV, reduceCtorEq, kD, kE, kF, kG, kH, kI, kJ, kK, aExtract, calleeOf]; simp)
   ⟨i + 1, pv, met, rfl, hlt, rfl, oM, hml, ?_, np, leq, ap, fun w hw => ?_⟩
  ·rcases heads_succ i es with ⟨_, h⟩ | ⟨h, _⟩
   ·obtain ⟨u, hu, hc⟩ := hx; exact absurd hc (h u hu)
   ·rw [partsN, h]; exact gp
  ·rw [hm w hw]
   constructor
   ·rintro ⟨u, hu, hc⟩; exact ⟨u, by omega, hc⟩
   ·rintro ⟨u, hu, hc⟩
    by_cases e : u = i
    ·subst e; obtain ⟨u', hu', hc'⟩ := hx; exact ⟨u', hu', hc'.trans hc⟩
    ·exact ⟨u, by omega, hc⟩
 | false =>
  have hx : ∀ u, u < i → ¬ Con es u i := fun u hu hc => by have := (hm i hlt).2 ⟨u, hu, hc⟩; rw [hmi] at this; cases this
  simp only [kS1, bLookup, bMapSet, wantA, isCall, stepOp, evalO, evalL, evalP, evalM, putDst, flat, kA, kB, Nat.reduceLT, ↓reduceIte, kC, Nat.reduceEqDiff, aBuiltin, abinG, guardFree, abin, aInt, aUn, aNilCheck, retQ, retQ1, aresults, aresultL, aresult, mkF, undefV, reduceCtorEq, kD, kE, kF, kG, kH, kI, kJ, kK, aExtract, calleeOf, ixM _ i hlt, ldm]
  refine KCall.intro (by simp only [kS1, bLookup, bMapSet, wantA, isCall, stepOp, evalO, evalL, evalP, evalM, putDst, flat, kA, kB, Nat.reduceLT, ↓reduceIte, kC, Nat.reduceEqDiff, aBuiltin, abinG, guardFree, abin, aInt, aUn, aNilCheck, retQ, retQ1, aresults, aresultL, aresult, mkF, undefV, reduceCtorEq, kD, kE, kF, kG, kH, kI, kJ, kK, aExtract, calleeOf] <;> rfl) ⟨Try.func62, rfl, by decide⟩ (walk_any W0 lv n i es hq (hrows.le (Stays.RL Stays.isI) leq) hR hA (by omega) (by omega) hlt) ?_
  rintro x h5 wf5 ⟨ov, uv, o, up, rfl, go, -, D, l5, ao⟩
  have oM5 := l5.own _ _ oM
  have nov : blk ov ≠ some M := fun e => by have := ao _ e; rw [oM] at this; cases this
  have lo := fun g => go.rl.len (P := Try.prog) Try.underlying38 g
  rw [nat64_length] at lo
  have hol : o.length ≤ n := by
   have := D.dfs.nodup.length_le_of_subset (l₂ := List.range n) fun w hw => List.mem_range.2 (((D.mem w).1 hw).lt hR hlt)
   simpa using this
  simp only [kS1, bLookup, bMapSet, wantA, isCall, stepOp, evalO, evalL, evalP, evalM, putDst, flat, kA, kB, Nat.reduceLT, ↓reduceIte, kC, Nat.reduceEqDiff, aBuiltin, abinG, guardFree, abin, aInt, aUn, aNilCheck, retQ, retQ1, aresults, aresultL, aresult, mkF, undefV, reduceCtorEq, kD, kE, kF, kG, kH, kI, kJ, kK, aExtract, calleeOf, lo]
  have K0 : Le (rem [M] hq) h5 := (rem_le _ _).trans l5
  have nK : (rem [M] hq).own M = none := by rw [rem_own, if_pos (by simp)]
  have aK : Apart (rem [M] hq) ov := fun b hb => (rem_le [M] hq).none (ao b hb)
  have apv : ∀ b, blk pv = some b → blk ov ≠ some b := fun b hb hc => by
   obtain ⟨us, g1, _⟩ := gp
   have := GS.blk_own g1 hb
   exact this (aK b hc)
  refine KLoop.intro (fun k fr hh => ∃ (j : Nat) (met' : List Bool), k = o.length - j ∧ j ≤ o.length ∧ fr = mkF [(3, lv), (5, pv), (6, .slice (some ⟨M, 0, none⟩) n n), (8, ov), (24, .int .i64 n), (25, .int .i64 i), (38, ov), (39, .int .i64 o.length), (40, .int .i64 j)] ∧
    hh.own M = some (.cells (Bo met')) ∧ met'.length = n ∧ GI hh ov (nat64 o) ∧ Le (rem [M] hq) hh ∧ ∀ w, w < n → (met'[w]? = some true ↔ met[w]? = some true ∨ w ∈ o.take j))
   o.length [(3, lv), (5, pv), (6, .slice (some ⟨M, 0, none⟩) n n), (8, ov), (24, .int .i64 n), (25, .int .i64 i), (38, ov), (39, .int .i64 o.length), (40, .int .i64 (0 : Nat))] (by simp only [hasAll, kS1, bLookup, bMapSet, wantA, isCall, stepOp, evalO, evalL, evalP, evalM, putDst, flat, kA, kB, Nat.reduceLT, ↓reduceIte, kC, Nat.reduceEqDiff, aBuiltin, abinG, guardFree, abin, aInt, aUn, aNilCheck, retQ, retQ1, aresults, aresultL, aresult, mkF, undefV, reduceCtorEq, kD, kE, kF, kG, kH, kI, kJ, kK, aExtract, calleeOf]; simp)
   ⟨0, met, rfl, Nat.zero_le _, rfl, oM5, hml, go, K0, fun w hw => by simp⟩ ?_
  clear oM5 lo go l5 wf5 K0 ldm
  clear h5
  rintro k fr h5 wf5 ⟨j, met', rfl, hj, rfl, oM5, hml', go, K5, hm'⟩
  simp only [kS1, bLookup, bMapSet, wantA, isCall, stepOp, evalO, evalL, evalP, evalM, putDst, flat, kA, kB, Nat.reduceLT, ↓reduceIte, kC, Nat.reduceEqDiff, aBuiltin, abinG, guardFree, abin, aInt, aUn, aNilCheck, retQ, retQ1, aresults, aresultL, aresult, mkF, undefV, reduceCtorEq, kD, kE, kF, kG, kH, kI, kJ, kK, aExtract, calleeOf]
  refine KCond.intro (fun ht => ?_) (fun hf => ?_)
  ·have hlj : j < o.length := lt_t ht
   clear ht
   have hoj := getElem?_of hlj
   have ad := go.rl.addr (P := Try.prog) Try.underlying38 Try.underlying3 (by kernel_rfl) (k := .i64) j (by rw [nat64_length]; exact hlj)
   have ld := go.rl.loadI (P := Try.prog) Try.underlying3 rfl j (by rw [nat64_length]; exact hlj)
   rw [nat64_get hlj] at ld
   have htk : o.take (j + 1) = o.take j ++ [o[j]] := List.take_succ_eq_append_getElem hlj
   generalize o[j] = w at hoj ld htk
   have hwn : w < n := ((D.mem w).1 (List.mem_of_getElem? hoj)).lt hR hlt
   have st := aStore1 (P := Try.prog) (t := 4) (x := .bool true) Try.underlying4 (by kernel_rfl) oM5 (off := w) (by rw [Bo_length, hml']; exact hwn) rfl rfl
   rw [Bo_set] at st
   simp only [kS1, bLookup, bMapSet, wantA, isCall, stepOp, evalO, evalL, evalP, evalM, putDst, flat, kA, kB, Nat.reduceLT, ↓reduceIte, kC, Nat.reduceEqDiff, aBuiltin, abinG, guardFree, abin, aInt, aUn, aNilCheck, retQ, retQ1, aresults, aresultL, aresult, mkF, undefV, reduceCtorEq, kD, kE, kF, kG, kH, kI, kJ, kK, aExtract, calleeOf, ad, ld, ixM _ w hwn, st, awrap_succ j (by omega)]
   refine loop_again (o.length - (j + 1)) [(3, lv), (5, pv), (6, .slice (some ⟨M, 0, none⟩) n n), (8, ov), (24, .int .i64 n), (25, .int .i64 i), (38, ov), (39, .int .i64 o.length), (40, .int .i64 (j + 1 : Nat))] (by omega) (by simp only [hasAll, kS1, bLookup, bMapSet, wantA, isCall, stepOp, evalO, evalL, evalP, evalM, putDst, flat, kA, kB, Nat.reduceLT, ↓reduceIte, kC, Nat.reduceEqDiff, aBuiltin, abinG, guardFree, abin, aInt, aUn, aNilCheck, retQ, retQ1, aresults, aresultL, aresult, mkF, undefV, reduceCtorEq, kD, kE, kF, kG, kH, kI, kJ, kK, aExtract, calleeOf]; simp)
    ⟨j + 1, _, rfl, hlj, rfl, AHeap.own_put_eq _ _ _, by simp [hml'], GS.put go _ nov, K5.put _ nK, fun x hx => ?_⟩
   rw [htk, List.getElem?_set, List.mem_append, List.mem_singleton]
   by_cases e : w = x
   ·subst e; simp [hml', hwn]
   ·rw [if_neg e, hm' x hx]; simp [Ne.symm e]
  ·have hge : o.length ≤ j := lt_f hf
   rw [List.take_of_length_le hge] at hm'
   simp only [kS1, bLookup, bMapSet, wantA, isCall, stepOp, evalO, evalL, evalP, evalM, putDst, flat, kA, kB, Nat.reduceLT, ↓reduceIte, kC, Nat.reduceEqDiff, aBuiltin, abinG, guardFree, abin, aInt, aUn, aNilCheck, retQ, retQ1, aresults, aresultL, aresult, mkF, undefV, reduceCtorEq, kD, kE, kF, kG, kH, kI, kJ, kK, aExtract, calleeOf]
   refine KCall.intro (by simp only [kS1, bLookup, bMapSet, wantA, isCall, stepOp, evalO, evalL, evalP, evalM, putDst, flat, kA, kB, Nat.reduceLT, ↓reduceIte, kC, Nat.reduceEqDiff, aBuiltin, abinG, guardFree, abin, aInt, aUn, aNilCheck, retQ, retQ1, aresults, aresultL, aresult, mkF, undefV, reduceCtorEq, kD, kE, kF, kG, kH, kI, kJ, kK, aExtract, calleeOf] <;> rfl) ⟨Try.func21, rfl, by decide⟩ (Sort_any W0 go (by rw [nat64_length]; omega)) ?_
   rintro x h6 w6 ⟨rfl, go6, hf6⟩
   have oM6 := (hf6 (rem (bl ov) h5) (rem_le _ _) (fun b hb => by rw [rem_own, if_pos (mem_bl.2 hb)])).own M _ (rem_some.2 ⟨oM5, fun hm => nov (mem_bl.1 hm)⟩)
   have K6 := hf6 _ K5 aK
   rw [sort_comp hR D hlt] at go6
   have K6r : Le (rem [M] hq) (rem [M] h6) := K6.of_none fun b hb => by rw [List.mem_singleton] at hb; subst hb; exact nK
   have gp6 := gp.le (Stays.RL Stays.isI) K6r
   have hb : ∀ b, blk pv = some b → b ∉ [M] := fun b hb hm => by rw [List.mem_singleton] at hm; subst hm; exact np hb
   have gu : RL isI (rem [M] (rem (bl pv) h6)) ov (nat64 (compL n es i)) := by
    have q : GI (rem [M] (rem (bl pv) h6)) ov (nat64 (compL n es i)) := GS.to_rem (GS.to_rem go6 (l := bl pv) fun b hb hc => apv b (mem_bl.1 hc) hb) (l := [M]) fun b hb' hc => by
     rw [List.mem_singleton] at hc; exact nov (hc ▸ hb')
    exact q.rl
   obtain ⟨h7, pv', h8, e7, e8, gp8, l7, w7, f8, k8⟩ := GRL.push_rem (P := Try.prog) (t := 32) (Stays.RL Stays.isI) (by kernel_rfl) gp6 w6 gu gu.sl.one (by omega) hb (fun b hb => by rw [List.mem_singleton] at hb; subst hb; rw [oM6]; simp)
   obtain ⟨oM8, np8⟩ := k8 M _ oM6 np
   have leq6 : Le h2 h6 := (leq.of_none (l := [M]) fun b hb => by rw [List.mem_singleton] at hb; subst hb; exact nM2).trans K6
   obtain ⟨l8, a8⟩ := f8 h2 leq6 ap
   simp only [kS1, bLookup, bMapSet, wantA, isCall, stepOp, evalO, evalL, evalP, evalM, putDst, flat, kA, kB, Nat.reduceLT, ↓reduceIte, kC, Nat.reduceEqDiff, aBuiltin, abinG, guardFree, abin, aInt, aUn, aNilCheck, retQ, retQ1, aresults, aresultL, aresult, mkF, undefV, reduceCtorEq, kD, kE, kF, kG, kH, kI, kJ, kK, aExtract, calleeOf, mkL52 h6 gu.sl, e7, e8, awrap_succ i (by omega)]
   refine loop_again (n - (i + 1)) [(3, lv), (5, pv'), (6, .slice (some ⟨M, 0, none⟩) n n), (24, .int .i64 n), (25, .int .i64 (i + 1 : Nat))] (by omega) (by simp only [hasAll, kS1, bLookup, bMapSet, wantA, isCall, stepOp, evalO, evalL, evalP, evalM, putDst, flat, kA, kB, Nat.reduceLT, ↓reduceIte, kC, Nat.reduceEqDiff, aBuiltin, abinG, guardFree, abin, aInt, aUn, aNilCheck, retQ, retQ1, aresults, aresultL, aresult, mkF, undefV, reduceCtorEq, kD, kE, kF, kG, kH, kI, kJ, kK, aExtract, calleeOf]; simp)
    ⟨i + 1, pv', met', rfl, hlt, rfl, oM8, hml', ?_, np8, l8, a8, fun w hw => ?_⟩
   ·rcases heads_succ i es with ⟨h, _⟩ | ⟨_, u, hu, hc⟩
    ·rw [partsN, h, List.map_append, List.map_append]; exact gp8
    ·exact absurd hc (hx u hu)
   ·rw [hm' w hw, hm w hw, D.mem]
    constructor
    ·rintro (⟨u, hu, hc⟩ | hc)
     ·exact ⟨u, by omega, hc⟩
     ·exact ⟨i, by omega, hc⟩
    ·rintro ⟨u, hu, hc⟩
     by_cases e : u = i
     ·subst e; exact .inr hc
     ·exact .inl ⟨u, by omega, hc⟩
end Go.Fw
