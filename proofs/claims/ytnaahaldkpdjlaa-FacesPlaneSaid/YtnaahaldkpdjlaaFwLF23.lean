/- A text of the proof. -/
import Derived.Test.YtnaahaldkpdjlaaFwLF14
set_option linter.unusedSimpArgs false
set_option linter.unusedVariables false
namespace Go.Fw
open Go.Proofs
attribute [local irreducible] KO4 KO3 KO2 KO1 KO KN KX KE VK KCond KDraw KCall KLoop
set_option maxHeartbeats 16000000
set_option maxRecDepth 10000
attribute [local instance] Classical.propDecidable
attribute [local irreducible] facesM PlaneM besM heads compL partsN edK faK
theorem take_sum_le (f : Nat → Nat) (l : List Nat) (k : Nat) : ((l.take k).map f).sum ≤ (l.map f).sum := by
 have : (l.map f).sum = ((l.take k).map f).sum + ((l.drop k).map f).sum := by
  rw [← List.sum_append, ← List.map_append, List.take_append_drop]
 omega
theorem take_sum_succ (f : Nat → Nat) {l : List Nat} {k : Nat} (h : k < l.length) : ((l.take (k + 1)).map f).sum = ((l.take k).map f).sum + f l[k] := by
 rw [List.take_succ_eq_append_getElem h, List.map_append, List.sum_append]; simp
theorem up_take {v : Nat} {l : List Int} {q : Nat} (h : q < l.length) : upN v (l.take (q + 1)) = upN v (l.take q) + if (v : Int) < l[q] then 1 else 0 := by
 rw [List.take_succ_eq_append_getElem h, upN, List.filter_append, List.length_append, upN]
 congr 1
 by_cases c : (v : Int) < l[q] <;> simp [c]
theorem up_take_le (v : Nat) (l : List Int) (q : Nat) : upN v (l.take q) ≤ upN v l := ((List.take_sublist q l).filter _).length_le
theorem w_sub {c : Nat} (h : c ≤ 200) : awrap .i64 ((2 : Int) - (c : Int)) = 2 - (c : Int) + ((0 : Nat) : Int) := by rw [awrap_i64 _ (by omega) (by omega)]; omega
theorem w_inc {c T : Nat} (h : c ≤ 200) (h2 : T ≤ 594) : awrap .i64 ((2 - (c : Int) + (T : Int)) + 1) = 2 - (c : Int) + ((T + 1 : Nat) : Int) := by rw [awrap_i64 _ (by omega) (by omega)]; omega
theorem w_dec {c T m : Nat} (h : c ≤ 200) (h2 : T ≤ 594) (h3 : m ≤ 40000) : awrap .i64 ((2 - (c : Int) + (T : Int) - (m : Int)) - 1) = 2 - (c : Int) + (T : Int) - ((m + 1 : Nat) : Int) := by rw [awrap_i64 _ (by omega) (by omega)]; omega
theorem dec0 {x : Int} : x = x - ((0 : Nat) : Int) := by omega
theorem fa_snoc {es : List Pr} {l : List (List Int)} {a j : Nat} (h : j < l.length) : faK es (l.take (j + 1)) a = faK es (l.take j) a + if Con es a (l[j].headD 0).toNat then 1 else 0 := by
 rw [List.take_succ_eq_append_getElem h]; unfold faK; exact cntK_snoc _ _ _ _
def PlOK (n : Nat) (es : List Pr) (rs : List (List Int)) (a : Nat) : Prop := 0 < edK es es a → (compL n es a).length + faK es (facesM n rs) a = edK es es a + 2
theorem planeM_of {n : Nat} {es : List Pr} {rs : List (List Int)} (h : ∀ a ∈ heads n es, PlOK n es rs a) : PlaneM n es rs := by unfold PlaneM; exact h
theorem planeM_to {n : Nat} {es : List Pr} {rs : List (List Int)} (h : PlaneM n es rs) : ∀ a ∈ heads n es, PlOK n es rs a := by unfold PlaneM at h; exact h
theorem one_c {c l : Nat} (h : l = c) (h0 : 0 < l) (h1 : ¬ 1 < c) : c = 1 := by omega
theorem flat_no {H : List Nat} {j : Nat} {P : Nat → Prop} (hfl : false = true ↔ ∀ i (hi : i < H.length), i < j → P H[i]) : false = true ↔ ∀ i (hi : i < H.length), i < j + 1 → P H[i] :=
 ⟨(fun h => by cases h), fun h => hfl.2 fun i hi hj => h i hi (Nat.lt_succ_of_lt hj)⟩
theorem flat_step {H : List Nat} {j a : Nat} {b : Bool} {P : Nat → Prop} (hj : j < H.length) (ha : H[j] = a) (hfl : true = true ↔ ∀ i (hi : i < H.length), i < j → P H[i]) (hb : b = true ↔ P a) : b = true ↔ ∀ i (hi : i < H.length), i < j + 1 → P H[i] := by
 constructor
 ·intro h i hi hij
  by_cases c : i = j
  ·subst c; rw [ha]; exact hb.1 h
  ·exact hfl.1 rfl i hi (lt_ne hij c)
 ·intro h
  exact hb.2 (ha ▸ h j hj (Nat.lt_succ_self j))
theorem fa_nil (es : List Pr) (l : List (List Int)) (a : Nat) : faK es (l.take 0) a = 0 := by unfold faK cntK; rfl
theorem len_r {a n : Nat} (h : a < n) (h2 : (n : Int) ≤ 200) : a ≤ 40000 := by omega
theorem t_le {T u U e : Nat} (h : T + U ≤ e) (h2 : u ≤ U) (h3 : e ≤ 594) : T + u ≤ 594 := by omega
theorem Plane_law (W0 : Base) (v ov : Value) (G : GM) (os : List Int) (h : AHeap) (hg : GR h v G) (ho : RL isH h ov os) :
  AC Try.prog W0 8 [v, ov] h fun x h' => x = .bool true ∧ True := by
 have hg0 := hg
 obtain ⟨gn, es⟩ := G
 obtain ⟨ev, rfl, hp⟩ := hg.open
 refine AC.vc (fn := Try.f8) (c := _) ⟨Try.func8, rfl, by decide⟩ Try.ntmps8 Try.results8 (by simp) fun hwf => ?_
 simp only [argFrame, argFrom, Nat.reduceAdd]
 obtain ⟨h1, b1, le1, wf1, -, lA⟩ := boxG (n := gn) hwf hp
 generalize h.next = B at *
 have lA1 := lA h1 (Le.refl _)
 simp only [kS1, bLookup, bMapSet, wantA, isCall, stepOp, evalO, evalL, evalP, evalM, putDst, flat, kA, kB, Nat.reduceLT, ↓reduceIte, kC, Nat.reduceEqDiff, aBuiltin, abinG, guardFree, abin, aInt, aUn, aNilCheck, retQ, retQ1, aresults, aresultL, aresult, mkF, undefV, reduceCtorEq, kD, kE, kF, kG, kH, kI, kJ, kK, aExtract, calleeOf, b1, lA1.1]
 refine KCall.intro (by simp only [kS1, bLookup, bMapSet, wantA, isCall, stepOp, evalO, evalL, evalP, evalM, putDst, flat, kA, kB, Nat.reduceLT, ↓reduceIte, kC, Nat.reduceEqDiff, aBuiltin, abinG, guardFree, abin, aInt, aUn, aNilCheck, retQ, retQ1, aresults, aresultL, aresult, mkF, undefV, reduceCtorEq, kD, kE, kF, kG, kH, kI, kJ, kK, aExtract, calleeOf] <;> rfl) ⟨Try.func26, rfl, by decide⟩ (right7_any W0 _ _ h1 (hg0.le le1)) ?_
 rintro x h2 w2 ⟨⟨b, rfl, hbb⟩, l2⟩
 have lA2 := lA h2 l2
 cases b with
 | false =>
  simp only [kS1, bLookup, bMapSet, wantA, isCall, stepOp, evalO, evalL, evalP, evalM, putDst, flat, kA, kB, Nat.reduceLT, ↓reduceIte, kC, Nat.reduceEqDiff, aBuiltin, abinG, guardFree, abin, aInt, aUn, aNilCheck, retQ, retQ1, aresults, aresultL, aresult, mkF, undefV, reduceCtorEq, kD, kE, kF, kG, kH, kI, kJ, kK, aExtract, calleeOf]
  refine KCall.intro (by simp only [kS1, bLookup, bMapSet, wantA, isCall, stepOp, evalO, evalL, evalP, evalM, putDst, flat, kA, kB, Nat.reduceLT, ↓reduceIte, kC, Nat.reduceEqDiff, aBuiltin, abinG, guardFree, abin, aInt, aUn, aNilCheck, retQ, retQ1, aresults, aresultL, aresult, mkF, undefV, reduceCtorEq, kD, kE, kF, kG, kH, kI, kJ, kK, aExtract, calleeOf] <;> rfl) ⟨Try.func27, rfl, by decide⟩ (awake7_any W0 h2) ?_
  rintro x h3 w3 ⟨rfl, l3⟩
  simp only [kS1, bLookup, bMapSet, wantA, isCall, stepOp, evalO, evalL, evalP, evalM, putDst, flat, kA, kB, Nat.reduceLT, ↓reduceIte, kC, Nat.reduceEqDiff, aBuiltin, abinG, guardFree, abin, aInt, aUn, aNilCheck, retQ, retQ1, aresults, aresultL, aresult, mkF, undefV, reduceCtorEq, kD, kE, kF, kG, kH, kI, kJ, kK, aExtract, calleeOf]
  all_goals exact ⟨trivial, trivial⟩
 | true =>
 obtain ⟨hr, h30⟩ := hbb.1 rfl
 clear hbb
 have h0 : 0 ≤ gn := hr.n0
 obtain ⟨n, rfl⟩ := Int.eq_ofNat_of_zero_le h0
 have hR := hr.inR
 have hA := hr.asc
 have h594 : es.length ≤ 594 := hr.len
 have h200 : (n : Int) ≤ 200 := hr.n1
 simp only [kS1, bLookup, bMapSet, wantA, isCall, stepOp, evalO, evalL, evalP, evalM, putDst, flat, kA, kB, Nat.reduceLT, ↓reduceIte, kC, Nat.reduceEqDiff, aBuiltin, abinG, guardFree, abin, aInt, aUn, aNilCheck, retQ, retQ1, aresults, aresultL, aresult, mkF, undefV, reduceCtorEq, kD, kE, kF, kG, kH, kI, kJ, kK, aExtract, calleeOf, lA2.1]
 refine KCall.intro (by simp only [kS1, bLookup, bMapSet, wantA, isCall, stepOp, evalO, evalL, evalP, evalM, putDst, flat, kA, kB, Nat.reduceLT, ↓reduceIte, kC, Nat.reduceEqDiff, aBuiltin, abinG, guardFree, abin, aInt, aUn, aNilCheck, retQ, retQ1, aresults, aresultL, aresult, mkF, undefV, reduceCtorEq, kD, kE, kF, kG, kH, kI, kJ, kK, aExtract, calleeOf] <;> rfl) ⟨Try.func28, rfl, by decide⟩ (Around_any W0 _ ov n es os h2 (hg0.le (le1.trans l2)) (ho.le Stays.isH (le1.trans l2)) hr) ?_
 rintro rv h4 w4 ⟨rs, G, rg, l4⟩
 have rr := rlG_rl rg
 simp only [kS1, bLookup, bMapSet, wantA, isCall, stepOp, evalO, evalL, evalP, evalM, putDst, flat, kA, kB, Nat.reduceLT, ↓reduceIte, kC, Nat.reduceEqDiff, aBuiltin, abinG, guardFree, abin, aInt, aUn, aNilCheck, retQ, retQ1, aresults, aresultL, aresult, mkF, undefV, reduceCtorEq, kD, kE, kF, kG, kH, kI, kJ, kK, aExtract, calleeOf]
 refine KCall.intro (by simp only [kS1, bLookup, bMapSet, wantA, isCall, stepOp, evalO, evalL, evalP, evalM, putDst, flat, kA, kB, Nat.reduceLT, ↓reduceIte, kC, Nat.reduceEqDiff, aBuiltin, abinG, guardFree, abin, aInt, aUn, aNilCheck, retQ, retQ1, aresults, aresultL, aresult, mkF, undefV, reduceCtorEq, kD, kE, kF, kG, kH, kI, kJ, kK, aExtract, calleeOf] <;> rfl) ⟨Try.func30, rfl, by decide⟩ (Faces_any W0 rv rs h4 rr) ?_
 rintro x h5 w5 ⟨l5, ⟨rfl, hno⟩ | ⟨es1, f1, -, -, rfl, hf1⟩⟩
 ·exact absurd ⟨es, by rw [G.len]; exact hr, by rw [G.len]; exact G⟩ hno
 rw [G.len] at hf1
 have L5 := (l2.trans l4).trans l5
 have lA5 := lA h5 L5
 obtain ⟨dl1, -⟩ := dart_len hr G
 have d0 : decide ((0 : Int) = 0) = true := by decide
 simp only [kS1, bLookup, bMapSet, wantA, isCall, stepOp, evalO, evalL, evalP, evalM, putDst, flat, kA, kB, Nat.reduceLT, ↓reduceIte, kC, Nat.reduceEqDiff, aBuiltin, abinG, guardFree, abin, aInt, aUn, aNilCheck, retQ, retQ1, aresults, aresultL, aresult, mkF, undefV, reduceCtorEq, kD, kE, kF, kG, kH, kI, kJ, kK, aExtract, calleeOf, bne, d0, lA5.1]
 refine KCall.intro (by simp only [kS1, bLookup, bMapSet, wantA, isCall, stepOp, evalO, evalL, evalP, evalM, putDst, flat, kA, kB, Nat.reduceLT, ↓reduceIte, kC, Nat.reduceEqDiff, aBuiltin, abinG, guardFree, abin, aInt, aUn, aNilCheck, retQ, retQ1, aresults, aresultL, aresult, mkF, undefV, reduceCtorEq, kD, kE, kF, kG, kH, kI, kJ, kK, aExtract, calleeOf] <;> rfl) ⟨Try.func17, rfl, by decide⟩ (Parts_any W0 _ ⟨(n : Int), es⟩ h5 (hg0.le (le1.trans L5)) hr) ?_
 rintro qv h6 w6 ⟨gq, l6, -⟩
 simp only [Int.toNat_natCast] at gq
 have rq := gq.rl (Stays.RL Stays.isI)
 have lq := fun g => rq.len (P := Try.prog) Try.underlying32 g
 have hpl : ((partsN n es n).map nat64).length = (heads n es).length := by rw [List.length_map, partsN_length]
 rw [hpl] at lq
 have hhl : (heads n es).length ≤ n := heads_length _ _
 have rr6 := rr.le (Stays.RL Stays.isI) (l5.trans l6)
 have hf6 := hf1.le (Stays.RL Stays.isI) l6
 have lf1 := fun g => hf1.len (P := Try.prog) Try.underlying32 g
 have hfm := fun f (hf : f ∈ facesM n rs) => faces_at hR hA G hf
 have L6 := L5.trans l6
 have lA6 := lA h6 L6
 simp only [kS1, bLookup, bMapSet, wantA, isCall, stepOp, evalO, evalL, evalP, evalM, putDst, flat, kA, kB, Nat.reduceLT, ↓reduceIte, kC, Nat.reduceEqDiff, aBuiltin, abinG, guardFree, abin, aInt, aUn, aNilCheck, retQ, retQ1, aresults, aresultL, aresult, mkF, undefV, reduceCtorEq, kD, kE, kF, kG, kH, kI, kJ, kK, aExtract, calleeOf, lq]
 refine KLoop.intro (fun k fr hz => ∃ (j : Nat) (fl : Bool), k = (heads n es).length - j ∧ j ≤ (heads n es).length ∧ fr = mkF [(2, .pointer (some ⟨B, 0, none⟩)), (5, rv), (6, f1), (8, .bool fl), (33, qv), (34, .int .i64 (heads n es).length), (35, .int .i64 j)] ∧ (fl = true ↔ ∀ i (hi : i < (heads n es).length), i < j → PlOK n es rs (heads n es)[i]) ∧ hz = h6)
  (heads n es).length [(2, .pointer (some ⟨B, 0, none⟩)), (5, rv), (6, f1), (8, .bool true), (33, qv), (34, .int .i64 (heads n es).length), (35, .int .i64 (0 : Nat))] (by simp only [hasAll, kS1, bLookup, bMapSet, wantA, isCall, stepOp, evalO, evalL, evalP, evalM, putDst, flat, kA, kB, Nat.reduceLT, ↓reduceIte, kC, Nat.reduceEqDiff, aBuiltin, abinG, guardFree, abin, aInt, aUn, aNilCheck, retQ, retQ1, aresults, aresultL, aresult, mkF, undefV, reduceCtorEq, kD, kE, kF, kG, kH, kI, kJ, kK, aExtract, calleeOf]; simp)
  ⟨0, true, rfl, Nat.zero_le _, rfl, ⟨fun _ i _ h => absurd h (Nat.not_lt_zero _), fun _ => rfl⟩, rfl⟩ ?_
 rintro k fr hz - ⟨j, fl, rfl, hj, rfl, hfl, rfl⟩
 simp only [kS1, bLookup, bMapSet, wantA, isCall, stepOp, evalO, evalL, evalP, evalM, putDst, flat, kA, kB, Nat.reduceLT, ↓reduceIte, kC, Nat.reduceEqDiff, aBuiltin, abinG, guardFree, abin, aInt, aUn, aNilCheck, retQ, retQ1, aresults, aresultL, aresult, mkF, undefV, reduceCtorEq, kD, kE, kF, kG, kH, kI, kJ, kK, aExtract, calleeOf]
 refine KCond.intro (fun ht => ?_) (fun hf => ?_)
 ·have hlt : j < (heads n es).length := lt_t ht
  clear ht
  have hm : j < ((partsN n es n).map nat64).length := by rw [hpl]; exact hlt
  have adp := rq.addr (P := Try.prog) Try.underlying32 Try.underlying38 (by kernel_rfl) (k := .i64) j hm
  obtain ⟨u, ldu, hu'⟩ := rq.load (P := Try.prog) Try.underlying38 rfl j hm
  have hpj : ((partsN n es n).map nat64)[j] = nat64 (compL n es (heads n es)[j]) := by rw [List.getElem_map, partsN_at]
  rw [hpj] at hu'
  have lu := fun g => hu'.len (P := Try.prog) Try.underlying38 g
  rw [nat64_length] at lu
  have ham : (heads n es)[j] ∈ heads n es := List.getElem_mem hlt
  have hfs : ∀ i (hi : i < (heads n es).length), i < j + 1 → i < j ∨ (heads n es)[i] = (heads n es)[j] := fun i hi h => by
   rcases Nat.lt_or_ge i j with c | c
   ·exact .inl c
   ·obtain rfl : i = j := by omega
    exact .inr rfl
  generalize haj : (heads n es)[j] = a at *
  have hcl := compL_le n es a
  have hus := up_sum (a := a) hR hA G
  have hed : edK es es a ≤ 594 := Nat.le_trans (edK_le _ _ _) h594
  have hcm : ∀ v ∈ compL n es a, v < n ∧ Con es a v := fun v hv => mem_compL.1 hv
  have hcc := fun v : Nat => (mem_compL (n := n) (es := es) (v := a) (w := v))
  have hpos := ed_pos hR (mem_heads.1 ham).1
  have hleft := left_ok hR hA G ham
  generalize hcs : compL n es a = cs at *
  have hc200 : cs.length ≤ 200 := by omega
  have w1 := w_sub hc200
  obtain ⟨c, hc⟩ : ∃ c, cs.length = c := ⟨_, rfl⟩
  rw [hc] at lu w1 hc200 hleft hpos hcl
  simp only [kS1, bLookup, bMapSet, wantA, isCall, stepOp, evalO, evalL, evalP, evalM, putDst, flat, kA, kB, Nat.reduceLT, ↓reduceIte, kC, Nat.reduceEqDiff, aBuiltin, abinG, guardFree, abin, aInt, aUn, aNilCheck, retQ, retQ1, aresults, aresultL, aresult, mkF, undefV, reduceCtorEq, kD, kE, kF, kG, kH, kI, kJ, kK, aExtract, calleeOf, adp, ldu, lu, w1]
  refine KLoop.intro (fun k fr hx => ∃ (i : Nat), k = c - i ∧ i ≤ c ∧ fr = mkF [(2, .pointer (some ⟨B, 0, none⟩)), (5, rv), (6, f1), (8, .bool fl), (10, u), (11, .int .i64 (2 - (c : Int) + ((((cs.take i).map fun v => upN v (rs.getD v [])).sum : Nat) : Int))), (33, qv), (34, .int .i64 (heads n es).length), (35, .int .i64 j), (42, u), (43, .int .i64 c), (44, .int .i64 i)] ∧ hx = hz)
   c [(2, .pointer (some ⟨B, 0, none⟩)), (5, rv), (6, f1), (8, .bool fl), (10, u), (11, .int .i64 (2 - (c : Int) + ((0 : Nat) : Int))), (33, qv), (34, .int .i64 (heads n es).length), (35, .int .i64 j), (42, u), (43, .int .i64 c), (44, .int .i64 (0 : Nat))] (by simp only [hasAll, kS1, bLookup, bMapSet, wantA, isCall, stepOp, evalO, evalL, evalP, evalM, putDst, flat, kA, kB, Nat.reduceLT, ↓reduceIte, kC, Nat.reduceEqDiff, aBuiltin, abinG, guardFree, abin, aInt, aUn, aNilCheck, retQ, retQ1, aresults, aresultL, aresult, mkF, undefV, reduceCtorEq, kD, kE, kF, kG, kH, kI, kJ, kK, aExtract, calleeOf]; simp) ⟨0, rfl, Nat.zero_le _, rfl, rfl⟩ ?_
  rintro k fr hx - ⟨i, rfl, hi, rfl, rfl⟩
  simp only [kS1, bLookup, bMapSet, wantA, isCall, stepOp, evalO, evalL, evalP, evalM, putDst, flat, kA, kB, Nat.reduceLT, ↓reduceIte, kC, Nat.reduceEqDiff, aBuiltin, abinG, guardFree, abin, aInt, aUn, aNilCheck, retQ, retQ1, aresults, aresultL, aresult, mkF, undefV, reduceCtorEq, kD, kE, kF, kG, kH, kI, kJ, kK, aExtract, calleeOf]
  refine KCond.intro (fun ht => ?_) (fun hf => ?_)
  ·have hit : i < c := lt_t ht
   clear ht
   have hit' : i < cs.length := by rw [hc]; exact hit
   have adi := hu'.addr (P := Try.prog) Try.underlying38 Try.underlying3 (by kernel_rfl) (k := .i64) i (by rw [nat64_length]; exact hit')
   have ldi := hu'.loadI (P := Try.prog) Try.underlying3 rfl i (by rw [nat64_length]; exact hit')
   rw [nat64_get hit'] at ldi
   have hvm := hcm cs[i] (List.getElem_mem hit')
   have hts := take_sum_succ (fun v => upN v (rs.getD v [])) hit'
   have htl := take_sum_le (fun v => upN v (rs.getD v [])) cs (i + 1)
   rw [hus, hts] at htl
   generalize cs[i] = w at *
   generalize ((cs.take i).map fun v => upN v (rs.getD v [])).sum = T at *
   have hwr : w < rs.length := by rw [G.len]; exact hvm.1
   have adr := rr6.addr (P := Try.prog) Try.underlying52 Try.underlying38 (by kernel_rfl) (k := .i64) w hwr
   obtain ⟨ru, ldr, hru⟩ := rr6.load (P := Try.prog) Try.underlying38 rfl w hwr
   have hsm := row_small hR hA G hvm.1
   rw [← getD_of (d := []) hwr] at hru
   generalize rs.getD w [] = r at *
   have lru := fun g => hru.len (P := Try.prog) Try.underlying38 g
   simp only [kS1, bLookup, bMapSet, wantA, isCall, stepOp, evalO, evalL, evalP, evalM, putDst, flat, kA, kB, Nat.reduceLT, ↓reduceIte, kC, Nat.reduceEqDiff, aBuiltin, abinG, guardFree, abin, aInt, aUn, aNilCheck, retQ, retQ1, aresults, aresultL, aresult, mkF, undefV, reduceCtorEq, kD, kE, kF, kG, kH, kI, kJ, kK, aExtract, calleeOf, adi, ldi, adr, ldr, lru]
   refine KLoop.intro (fun k fr hy => ∃ (q : Nat), k = r.length - q ∧ q ≤ r.length ∧ fr = mkF [(2, .pointer (some ⟨B, 0, none⟩)), (5, rv), (6, f1), (8, .bool fl), (10, u), (11, .int .i64 (2 - (c : Int) + ((T + upN w (r.take q) : Nat) : Int))), (13, .int .i64 w), (33, qv), (34, .int .i64 (heads n es).length), (35, .int .i64 j), (42, u), (43, .int .i64 c), (44, .int .i64 i), (51, ru), (52, .int .i64 r.length), (53, .int .i64 q)] ∧ hy = hx)
    r.length [(2, .pointer (some ⟨B, 0, none⟩)), (5, rv), (6, f1), (8, .bool fl), (10, u), (11, .int .i64 (2 - (c : Int) + ((T : Nat) : Int))), (13, .int .i64 w), (33, qv), (34, .int .i64 (heads n es).length), (35, .int .i64 j), (42, u), (43, .int .i64 c), (44, .int .i64 i), (51, ru), (52, .int .i64 r.length), (53, .int .i64 (0 : Nat))] (by simp only [hasAll, kS1, bLookup, bMapSet, wantA, isCall, stepOp, evalO, evalL, evalP, evalM, putDst, flat, kA, kB, Nat.reduceLT, ↓reduceIte, kC, Nat.reduceEqDiff, aBuiltin, abinG, guardFree, abin, aInt, aUn, aNilCheck, retQ, retQ1, aresults, aresultL, aresult, mkF, undefV, reduceCtorEq, kD, kE, kF, kG, kH, kI, kJ, kK, aExtract, calleeOf]; simp) ⟨0, rfl, Nat.zero_le _, rfl, rfl⟩ ?_
   rintro k fr hy - ⟨q, rfl, hq, rfl, rfl⟩
   simp only [kS1, bLookup, bMapSet, wantA, isCall, stepOp, evalO, evalL, evalP, evalM, putDst, flat, kA, kB, Nat.reduceLT, ↓reduceIte, kC, Nat.reduceEqDiff, aBuiltin, abinG, guardFree, abin, aInt, aUn, aNilCheck, retQ, retQ1, aresults, aresultL, aresult, mkF, undefV, reduceCtorEq, kD, kE, kF, kG, kH, kI, kJ, kK, aExtract, calleeOf]
   refine KCond.intro (fun ht => ?_) (fun hf => ?_)
   ·have hqt : q < r.length := lt_t ht
    clear ht
    have adq := hru.addr (P := Try.prog) Try.underlying38 Try.underlying3 (by kernel_rfl) (k := .i64) q hqt
    have ldq := hru.loadI (P := Try.prog) Try.underlying3 rfl q hqt
    have hut := up_take (v := w) hqt
    have hle := up_take_le w r q
    have hwq := awrap_succ q (lt_big hqt (len_r hsm h200))
    have hwi := w_inc hc200 (t_le htl hle hed)
    generalize upN w (r.take q) = U at *
    by_cases c1 : (w : Int) < r[q]
    ·have d1 : decide ((w : Int) < r[q]) = true := decide_eq_true c1
     rw [if_pos c1] at hut
     simp only [kS1, bLookup, bMapSet, wantA, isCall, stepOp, evalO, evalL, evalP, evalM, putDst, flat, kA, kB, Nat.reduceLT, ↓reduceIte, kC, Nat.reduceEqDiff, aBuiltin, abinG, guardFree, abin, aInt, aUn, aNilCheck, retQ, retQ1, aresults, aresultL, aresult, mkF, undefV, reduceCtorEq, kD, kE, kF, kG, kH, kI, kJ, kK, aExtract, calleeOf, adq, ldq, d1, hwq, hwi]
     exact loop_again (r.length - (q + 1)) [(2, .pointer (some ⟨B, 0, none⟩)), (5, rv), (6, f1), (8, .bool fl), (10, u), (11, .int .i64 (2 - (c : Int) + (((T + U) + 1 : Nat) : Int))), (13, .int .i64 w), (33, qv), (34, .int .i64 (heads n es).length), (35, .int .i64 j), (42, u), (43, .int .i64 c), (44, .int .i64 i), (51, ru), (52, .int .i64 r.length), (53, .int .i64 (q + 1 : Nat))] (stp hqt) (by simp only [hasAll, kS1, bLookup, bMapSet, wantA, isCall, stepOp, evalO, evalL, evalP, evalM, putDst, flat, kA, kB, Nat.reduceLT, ↓reduceIte, kC, Nat.reduceEqDiff, aBuiltin, abinG, guardFree, abin, aInt, aUn, aNilCheck, retQ, retQ1, aresults, aresultL, aresult, mkF, undefV, reduceCtorEq, kD, kE, kF, kG, kH, kI, kJ, kK, aExtract, calleeOf]; simp) ⟨q + 1, rfl, hqt, by rw [hut]; rfl, rfl⟩
    ·have d1 : decide ((w : Int) < r[q]) = false := decide_eq_false c1
     rw [if_neg c1] at hut
     simp only [kS1, bLookup, bMapSet, wantA, isCall, stepOp, evalO, evalL, evalP, evalM, putDst, flat, kA, kB, Nat.reduceLT, ↓reduceIte, kC, Nat.reduceEqDiff, aBuiltin, abinG, guardFree, abin, aInt, aUn, aNilCheck, retQ, retQ1, aresults, aresultL, aresult, mkF, undefV, reduceCtorEq, kD, kE, kF, kG, kH, kI, kJ, kK, aExtract, calleeOf, adq, ldq, d1, hwq]
     exact loop_again (r.length - (q + 1)) [(2, .pointer (some ⟨B, 0, none⟩)), (5, rv), (6, f1), (8, .bool fl), (10, u), (11, .int .i64 (2 - (c : Int) + ((T + U : Nat) : Int))), (13, .int .i64 w), (33, qv), (34, .int .i64 (heads n es).length), (35, .int .i64 j), (42, u), (43, .int .i64 c), (44, .int .i64 i), (51, ru), (52, .int .i64 r.length), (53, .int .i64 (q + 1 : Nat))] (stp hqt) (by simp only [hasAll, kS1, bLookup, bMapSet, wantA, isCall, stepOp, evalO, evalL, evalP, evalM, putDst, flat, kA, kB, Nat.reduceLT, ↓reduceIte, kC, Nat.reduceEqDiff, aBuiltin, abinG, guardFree, abin, aInt, aUn, aNilCheck, retQ, retQ1, aresults, aresultL, aresult, mkF, undefV, reduceCtorEq, kD, kE, kF, kG, kH, kI, kJ, kK, aExtract, calleeOf]; simp) ⟨q + 1, rfl, hqt, by rw [hut]; rfl, rfl⟩
   ·have hge : r.length ≤ q := lt_f hf
    rw [List.take_of_length_le hge]
    have hwi := awrap_succ i (lt_big hit (by omega))
    simp only [kS1, bLookup, bMapSet, wantA, isCall, stepOp, evalO, evalL, evalP, evalM, putDst, flat, kA, kB, Nat.reduceLT, ↓reduceIte, kC, Nat.reduceEqDiff, aBuiltin, abinG, guardFree, abin, aInt, aUn, aNilCheck, retQ, retQ1, aresults, aresultL, aresult, mkF, undefV, reduceCtorEq, kD, kE, kF, kG, kH, kI, kJ, kK, aExtract, calleeOf, hwi]
    exact loop_again (c - (i + 1)) [(2, .pointer (some ⟨B, 0, none⟩)), (5, rv), (6, f1), (8, .bool fl), (10, u), (11, .int .i64 (2 - (c : Int) + ((T + upN w r : Nat) : Int))), (33, qv), (34, .int .i64 (heads n es).length), (35, .int .i64 j), (42, u), (43, .int .i64 c), (44, .int .i64 (i + 1 : Nat))] (stp hit) (by simp only [hasAll, kS1, bLookup, bMapSet, wantA, isCall, stepOp, evalO, evalL, evalP, evalM, putDst, flat, kA, kB, Nat.reduceLT, ↓reduceIte, kC, Nat.reduceEqDiff, aBuiltin, abinG, guardFree, abin, aInt, aUn, aNilCheck, retQ, retQ1, aresults, aresultL, aresult, mkF, undefV, reduceCtorEq, kD, kE, kF, kG, kH, kI, kJ, kK, aExtract, calleeOf]; simp) ⟨i + 1, rfl, hit, by rw [hts]; rfl, rfl⟩
  ·have hge : c ≤ i := lt_f hf
   rw [List.take_of_length_le (by omega), hus]
   clear hge hf hi
   simp only [kS1, bLookup, bMapSet, wantA, isCall, stepOp, evalO, evalL, evalP, evalM, putDst, flat, kA, kB, Nat.reduceLT, ↓reduceIte, kC, Nat.reduceEqDiff, aBuiltin, abinG, guardFree, abin, aInt, aUn, aNilCheck, retQ, retQ1, aresults, aresultL, aresult, mkF, undefV, reduceCtorEq, kD, kE, kF, kG, kH, kI, kJ, kK, aExtract, calleeOf, lf1]
   refine KLoop.intro (fun k fr hy => ∃ (m : Nat), k = (facesM n rs).length - m ∧ m ≤ (facesM n rs).length ∧ fr = mkF [(2, .pointer (some ⟨B, 0, none⟩)), (5, rv), (6, f1), (8, .bool fl), (10, u), (11, .int .i64 (2 - (c : Int) + ((edK es es a : Nat) : Int) - ((faK es ((facesM n rs).take m) a : Nat) : Int))), (33, qv), (34, .int .i64 (heads n es).length), (35, .int .i64 j), (64, f1), (65, .int .i64 (facesM n rs).length), (66, .int .i64 m)] ∧ hy = hx)
    (facesM n rs).length [(2, .pointer (some ⟨B, 0, none⟩)), (5, rv), (6, f1), (8, .bool fl), (10, u), (11, .int .i64 (2 - (c : Int) + ((edK es es a : Nat) : Int))), (33, qv), (34, .int .i64 (heads n es).length), (35, .int .i64 j), (64, f1), (65, .int .i64 (facesM n rs).length), (66, .int .i64 (0 : Nat))] (by simp only [hasAll, kS1, bLookup, bMapSet, wantA, isCall, stepOp, evalO, evalL, evalP, evalM, putDst, flat, kA, kB, Nat.reduceLT, ↓reduceIte, kC, Nat.reduceEqDiff, aBuiltin, abinG, guardFree, abin, aInt, aUn, aNilCheck, retQ, retQ1, aresults, aresultL, aresult, mkF, undefV, reduceCtorEq, kD, kE, kF, kG, kH, kI, kJ, kK, aExtract, calleeOf]; simp) ⟨0, rfl, Nat.zero_le _, by rw [fa_nil, ← dec0], rfl⟩ ?_
   rintro k fr hy - ⟨m, rfl, hm', rfl, rfl⟩
   simp only [kS1, bLookup, bMapSet, wantA, isCall, stepOp, evalO, evalL, evalP, evalM, putDst, flat, kA, kB, Nat.reduceLT, ↓reduceIte, kC, Nat.reduceEqDiff, aBuiltin, abinG, guardFree, abin, aInt, aUn, aNilCheck, retQ, retQ1, aresults, aresultL, aresult, mkF, undefV, reduceCtorEq, kD, kE, kF, kG, kH, kI, kJ, kK, aExtract, calleeOf]
   refine KCond.intro (fun ht => ?_) (fun hf => ?_)
   ·have hmt : m < (facesM n rs).length := lt_t ht
    clear ht
    have adf := hf6.addr (P := Try.prog) Try.underlying32 Try.underlying38 (by kernel_rfl) (k := .i64) m hmt
    obtain ⟨fu, ldf, hfu⟩ := hf6.load (P := Try.prog) Try.underlying38 rfl m hmt
    obtain ⟨hl0, fv, hvn, hv0⟩ := hfm (facesM n rs)[m] (List.getElem_mem hmt)
    have hsn := fa_snoc (es := es) (a := a) hmt
    have hfl' := Nat.le_trans (faK_le es ((facesM n rs).take m) a) (Nat.le_trans (Nat.le_trans (by rw [List.length_take]; exact Nat.min_le_left _ _) hm') dl1)
    have hwm := awrap_succ m (lt_big hmt dl1)
    generalize (facesM n rs)[m] = f at *
    have ad0 := hfu.addr (P := Try.prog) Try.underlying38 Try.underlying3 (by kernel_rfl) (k := .i64) 0 hl0
    have ld0 := hfu.loadI (P := Try.prog) Try.underlying3 rfl 0 hl0
    have lfu := fun g => hfu.len (P := Try.prog) Try.underlying38 g
    rw [head_get hl0, hv0] at ld0
    simp only [Int.cast_ofNat_Int] at ad0
    have dl0 : decide (((f.length : Nat) : Int) > 0) = true := decide_eq_true (Int.ofNat_lt.2 hl0)
    rw [hv0, Int.toNat_natCast] at hsn
    have hwd := w_dec hc200 hed hfl'
    generalize faK es ((facesM n rs).take m) a = M at *
    simp only [kS1, bLookup, bMapSet, wantA, isCall, stepOp, evalO, evalL, evalP, evalM, putDst, flat, kA, kB, Nat.reduceLT, ↓reduceIte, kC, Nat.reduceEqDiff, aBuiltin, abinG, guardFree, abin, aInt, aUn, aNilCheck, retQ, retQ1, aresults, aresultL, aresult, mkF, undefV, reduceCtorEq, kD, kE, kF, kG, kH, kI, kJ, kK, aExtract, calleeOf, adf, ldf, lfu, dl0, ad0, ld0]
    refine KCall.intro (by simp only [kS1, bLookup, bMapSet, wantA, isCall, stepOp, evalO, evalL, evalP, evalM, putDst, flat, kA, kB, Nat.reduceLT, ↓reduceIte, kC, Nat.reduceEqDiff, aBuiltin, abinG, guardFree, abin, aInt, aUn, aNilCheck, retQ, retQ1, aresults, aresultL, aresult, mkF, undefV, reduceCtorEq, kD, kE, kF, kG, kH, kI, kJ, kK, aExtract, calleeOf] <;> rfl) ⟨Try.func36, rfl, by decide⟩ (ContainsI_any W0 u (nat64 cs) (fv : Int) hy hu' (by rw [nat64_length]; omega)) ?_
    rintro x h7 w7 ⟨rfl, rfl⟩
    by_cases c1 : Con es a fv
    ·have d1 : decide ((fv : Int) ∈ nat64 cs) = true := decide_eq_true (List.mem_map.2 ⟨fv, (hcc fv).2 ⟨hvn, c1⟩, rfl⟩)
     rw [if_pos c1] at hsn
     simp only [kS1, bLookup, bMapSet, wantA, isCall, stepOp, evalO, evalL, evalP, evalM, putDst, flat, kA, kB, Nat.reduceLT, ↓reduceIte, kC, Nat.reduceEqDiff, aBuiltin, abinG, guardFree, abin, aInt, aUn, aNilCheck, retQ, retQ1, aresults, aresultL, aresult, mkF, undefV, reduceCtorEq, kD, kE, kF, kG, kH, kI, kJ, kK, aExtract, calleeOf, d1, hwd, hwm]
     exact loop_again ((facesM n rs).length - (m + 1)) [(2, .pointer (some ⟨B, 0, none⟩)), (5, rv), (6, f1), (8, .bool fl), (10, u), (11, .int .i64 (2 - (c : Int) + ((edK es es a : Nat) : Int) - ((M + 1 : Nat) : Int))), (33, qv), (34, .int .i64 (heads n es).length), (35, .int .i64 j), (64, f1), (65, .int .i64 (facesM n rs).length), (66, .int .i64 (m + 1 : Nat))] (stp hmt) (by simp only [hasAll, kS1, bLookup, bMapSet, wantA, isCall, stepOp, evalO, evalL, evalP, evalM, putDst, flat, kA, kB, Nat.reduceLT, ↓reduceIte, kC, Nat.reduceEqDiff, aBuiltin, abinG, guardFree, abin, aInt, aUn, aNilCheck, retQ, retQ1, aresults, aresultL, aresult, mkF, undefV, reduceCtorEq, kD, kE, kF, kG, kH, kI, kJ, kK, aExtract, calleeOf]; simp) ⟨m + 1, rfl, hmt, by rw [hsn]; rfl, rfl⟩
    ·have d1 : decide ((fv : Int) ∈ nat64 cs) = false := decide_eq_false (fun h => by
      obtain ⟨y, hy1, hy2⟩ := List.mem_map.1 h
      have : y = fv := Int.ofNat.inj hy2
      subst this; exact c1 ((hcc y).1 hy1).2)
     rw [if_neg c1] at hsn
     simp only [kS1, bLookup, bMapSet, wantA, isCall, stepOp, evalO, evalL, evalP, evalM, putDst, flat, kA, kB, Nat.reduceLT, ↓reduceIte, kC, Nat.reduceEqDiff, aBuiltin, abinG, guardFree, abin, aInt, aUn, aNilCheck, retQ, retQ1, aresults, aresultL, aresult, mkF, undefV, reduceCtorEq, kD, kE, kF, kG, kH, kI, kJ, kK, aExtract, calleeOf, d1, hwm]
     exact loop_again ((facesM n rs).length - (m + 1)) [(2, .pointer (some ⟨B, 0, none⟩)), (5, rv), (6, f1), (8, .bool fl), (10, u), (11, .int .i64 (2 - (c : Int) + ((edK es es a : Nat) : Int) - ((M : Nat) : Int))), (33, qv), (34, .int .i64 (heads n es).length), (35, .int .i64 j), (64, f1), (65, .int .i64 (facesM n rs).length), (66, .int .i64 (m + 1 : Nat))] (stp hmt) (by simp only [hasAll, kS1, bLookup, bMapSet, wantA, isCall, stepOp, evalO, evalL, evalP, evalM, putDst, flat, kA, kB, Nat.reduceLT, ↓reduceIte, kC, Nat.reduceEqDiff, aBuiltin, abinG, guardFree, abin, aInt, aUn, aNilCheck, retQ, retQ1, aresults, aresultL, aresult, mkF, undefV, reduceCtorEq, kD, kE, kF, kG, kH, kI, kJ, kK, aExtract, calleeOf]; simp) ⟨m + 1, rfl, hmt, by rw [hsn]; rfl, rfl⟩
   ·have hge : (facesM n rs).length ≤ m := lt_f hf
    rw [List.take_of_length_le hge]
    clear hge hf hm'
    have hwj := awrap_succ j (by omega)
    by_cases c1 : 1 < c
    ·obtain ⟨g, hg1, hg2⟩ := hleft c1
     rw [hg1]
     have hed0 := hpos.2 c1
     have d1 : decide ((c : Int) > 1) = true := decide_eq_true (by omega)
     have d2 : decide ((2 * (g : Int)) < 0) = false := decide_eq_false (by omega)
     have e1 : (2 * (g : Int)).tmod 2 = 0 := Int.mul_tmod_right 2 (g : Int)
     have n2 : ¬ ((2 : Int) = 0) := by decide
     have d3 : decide ((0 : Int) = 0) = true := by decide
     have d5 : decide ((c : Int) = 1) = false := decide_eq_false (by omega)
     cases fl with
     | false =>
      simp only [kS1, bLookup, bMapSet, wantA, isCall, stepOp, evalO, evalL, evalP, evalM, putDst, flat, kA, kB, Nat.reduceLT, ↓reduceIte, kC, Nat.reduceEqDiff, aBuiltin, abinG, guardFree, abin, aInt, aUn, aNilCheck, retQ, retQ1, aresults, aresultL, aresult, mkF, undefV, reduceCtorEq, kD, kE, kF, kG, kH, kI, kJ, kK, aExtract, calleeOf, lu, d1, d2, e1, n2, d3, bne, d5, hwj]
      exact loop_again ((heads n es).length - (j + 1)) [(2, .pointer (some ⟨B, 0, none⟩)), (5, rv), (6, f1), (8, .bool false), (33, qv), (34, .int .i64 (heads n es).length), (35, .int .i64 (j + 1 : Nat))] (stp hlt) (by simp only [hasAll, kS1, bLookup, bMapSet, wantA, isCall, stepOp, evalO, evalL, evalP, evalM, putDst, flat, kA, kB, Nat.reduceLT, ↓reduceIte, kC, Nat.reduceEqDiff, aBuiltin, abinG, guardFree, abin, aInt, aUn, aNilCheck, retQ, retQ1, aresults, aresultL, aresult, mkF, undefV, reduceCtorEq, kD, kE, kF, kG, kH, kI, kJ, kK, aExtract, calleeOf]; simp) ⟨j + 1, false, rfl, hlt, rfl, flat_no (P := PlOK n es rs) hfl, rfl⟩
     | true =>
      by_cases c2 : g = 0
      ·have d4 : decide ((2 * (g : Int)) = 0) = true := decide_eq_true (by omega)
       simp only [kS1, bLookup, bMapSet, wantA, isCall, stepOp, evalO, evalL, evalP, evalM, putDst, flat, kA, kB, Nat.reduceLT, ↓reduceIte, kC, Nat.reduceEqDiff, aBuiltin, abinG, guardFree, abin, aInt, aUn, aNilCheck, retQ, retQ1, aresults, aresultL, aresult, mkF, undefV, reduceCtorEq, kD, kE, kF, kG, kH, kI, kJ, kK, aExtract, calleeOf, lu, d1, d2, e1, n2, d3, bne, d4, d5, hwj]
       exact loop_again ((heads n es).length - (j + 1)) [(2, .pointer (some ⟨B, 0, none⟩)), (5, rv), (6, f1), (8, .bool true), (33, qv), (34, .int .i64 (heads n es).length), (35, .int .i64 (j + 1 : Nat))] (stp hlt) (by simp only [hasAll, kS1, bLookup, bMapSet, wantA, isCall, stepOp, evalO, evalL, evalP, evalM, putDst, flat, kA, kB, Nat.reduceLT, ↓reduceIte, kC, Nat.reduceEqDiff, aBuiltin, abinG, guardFree, abin, aInt, aUn, aNilCheck, retQ, retQ1, aresults, aresultL, aresult, mkF, undefV, reduceCtorEq, kD, kE, kF, kG, kH, kI, kJ, kK, aExtract, calleeOf]; simp) ⟨j + 1, true, rfl, hlt, rfl, flat_step (P := PlOK n es rs) hlt haj hfl (iff_of_true rfl fun _ => by rw [hcs, hc]; exact hg2.2 c2), rfl⟩
      ·have d4 : decide ((2 * (g : Int)) = 0) = false := decide_eq_false (by omega)
       simp only [kS1, bLookup, bMapSet, wantA, isCall, stepOp, evalO, evalL, evalP, evalM, putDst, flat, kA, kB, Nat.reduceLT, ↓reduceIte, kC, Nat.reduceEqDiff, aBuiltin, abinG, guardFree, abin, aInt, aUn, aNilCheck, retQ, retQ1, aresults, aresultL, aresult, mkF, undefV, reduceCtorEq, kD, kE, kF, kG, kH, kI, kJ, kK, aExtract, calleeOf, lu, d1, d2, e1, n2, d3, bne, d4, d5, hwj]
       exact loop_again ((heads n es).length - (j + 1)) [(2, .pointer (some ⟨B, 0, none⟩)), (5, rv), (6, f1), (8, .bool false), (33, qv), (34, .int .i64 (heads n es).length), (35, .int .i64 (j + 1 : Nat))] (stp hlt) (by simp only [hasAll, kS1, bLookup, bMapSet, wantA, isCall, stepOp, evalO, evalL, evalP, evalM, putDst, flat, kA, kB, Nat.reduceLT, ↓reduceIte, kC, Nat.reduceEqDiff, aBuiltin, abinG, guardFree, abin, aInt, aUn, aNilCheck, retQ, retQ1, aresults, aresultL, aresult, mkF, undefV, reduceCtorEq, kD, kE, kF, kG, kH, kI, kJ, kK, aExtract, calleeOf]; simp) ⟨j + 1, false, rfl, hlt, rfl, flat_step (P := PlOK n es rs) hlt haj hfl (iff_of_false Bool.false_ne_true fun q => c2 (hg2.1 (by have := q hed0; rw [hcs, hc] at this; exact this))), rfl⟩
    ·have c1' : c = 1 := one_c hc (List.length_pos_of_mem ((hcc a).2 ⟨(mem_heads.1 ham).1, Con.refl es a⟩)) c1
     have d1 : decide ((c : Int) > 1) = false := decide_eq_false (by omega)
     have d5 : decide ((c : Int) = 1) = true := decide_eq_true (by omega)
     have hPa : PlOK n es rs a := fun q => absurd (hpos.1 q) c1
     generalize (2 - (c : Int) + ((edK es es a : Nat) : Int) - ((faK es (facesM n rs) a : Nat) : Int)) = X
     cases fl with
     | false =>
      simp only [kS1, bLookup, bMapSet, wantA, isCall, stepOp, evalO, evalL, evalP, evalM, putDst, flat, kA, kB, Nat.reduceLT, ↓reduceIte, kC, Nat.reduceEqDiff, aBuiltin, abinG, guardFree, abin, aInt, aUn, aNilCheck, retQ, retQ1, aresults, aresultL, aresult, mkF, undefV, reduceCtorEq, kD, kE, kF, kG, kH, kI, kJ, kK, aExtract, calleeOf, lu, d1, bne, d5, hwj]
      exact loop_again ((heads n es).length - (j + 1)) [(2, .pointer (some ⟨B, 0, none⟩)), (5, rv), (6, f1), (8, .bool false), (33, qv), (34, .int .i64 (heads n es).length), (35, .int .i64 (j + 1 : Nat))] (stp hlt) (by simp only [hasAll, kS1, bLookup, bMapSet, wantA, isCall, stepOp, evalO, evalL, evalP, evalM, putDst, flat, kA, kB, Nat.reduceLT, ↓reduceIte, kC, Nat.reduceEqDiff, aBuiltin, abinG, guardFree, abin, aInt, aUn, aNilCheck, retQ, retQ1, aresults, aresultL, aresult, mkF, undefV, reduceCtorEq, kD, kE, kF, kG, kH, kI, kJ, kK, aExtract, calleeOf]; simp) ⟨j + 1, false, rfl, hlt, rfl, flat_no (P := PlOK n es rs) hfl, rfl⟩
     | true =>
      by_cases c3 : X = 0
      ·have d4 : decide (X = 0) = true := decide_eq_true c3
       simp only [kS1, bLookup, bMapSet, wantA, isCall, stepOp, evalO, evalL, evalP, evalM, putDst, flat, kA, kB, Nat.reduceLT, ↓reduceIte, kC, Nat.reduceEqDiff, aBuiltin, abinG, guardFree, abin, aInt, aUn, aNilCheck, retQ, retQ1, aresults, aresultL, aresult, mkF, undefV, reduceCtorEq, kD, kE, kF, kG, kH, kI, kJ, kK, aExtract, calleeOf, lu, d1, bne, d4, d5, hwj]
       exact loop_again ((heads n es).length - (j + 1)) [(2, .pointer (some ⟨B, 0, none⟩)), (5, rv), (6, f1), (8, .bool true), (33, qv), (34, .int .i64 (heads n es).length), (35, .int .i64 (j + 1 : Nat))] (stp hlt) (by simp only [hasAll, kS1, bLookup, bMapSet, wantA, isCall, stepOp, evalO, evalL, evalP, evalM, putDst, flat, kA, kB, Nat.reduceLT, ↓reduceIte, kC, Nat.reduceEqDiff, aBuiltin, abinG, guardFree, abin, aInt, aUn, aNilCheck, retQ, retQ1, aresults, aresultL, aresult, mkF, undefV, reduceCtorEq, kD, kE, kF, kG, kH, kI, kJ, kK, aExtract, calleeOf]; simp) ⟨j + 1, true, rfl, hlt, rfl, flat_step (P := PlOK n es rs) hlt haj hfl (iff_of_true rfl hPa), rfl⟩
      ·have d4 : decide (X = 0) = false := decide_eq_false c3
       simp only [kS1, bLookup, bMapSet, wantA, isCall, stepOp, evalO, evalL, evalP, evalM, putDst, flat, kA, kB, Nat.reduceLT, ↓reduceIte, kC, Nat.reduceEqDiff, aBuiltin, abinG, guardFree, abin, aInt, aUn, aNilCheck, retQ, retQ1, aresults, aresultL, aresult, mkF, undefV, reduceCtorEq, kD, kE, kF, kG, kH, kI, kJ, kK, aExtract, calleeOf, lu, d1, bne, d4, d5, hwj]
       exact loop_again ((heads n es).length - (j + 1)) [(2, .pointer (some ⟨B, 0, none⟩)), (5, rv), (6, f1), (8, .bool true), (33, qv), (34, .int .i64 (heads n es).length), (35, .int .i64 (j + 1 : Nat))] (stp hlt) (by simp only [hasAll, kS1, bLookup, bMapSet, wantA, isCall, stepOp, evalO, evalL, evalP, evalM, putDst, flat, kA, kB, Nat.reduceLT, ↓reduceIte, kC, Nat.reduceEqDiff, aBuiltin, abinG, guardFree, abin, aInt, aUn, aNilCheck, retQ, retQ1, aresults, aresultL, aresult, mkF, undefV, reduceCtorEq, kD, kE, kF, kG, kH, kI, kJ, kK, aExtract, calleeOf]; simp) ⟨j + 1, true, rfl, hlt, rfl, flat_step (P := PlOK n es rs) hlt haj hfl (iff_of_true rfl hPa), rfl⟩
 ·have hge : (heads n es).length ≤ j := lt_f hf
  simp only [kS1, bLookup, bMapSet, wantA, isCall, stepOp, evalO, evalL, evalP, evalM, putDst, flat, kA, kB, Nat.reduceLT, ↓reduceIte, kC, Nat.reduceEqDiff, aBuiltin, abinG, guardFree, abin, aInt, aUn, aNilCheck, retQ, retQ1, aresults, aresultL, aresult, mkF, undefV, reduceCtorEq, kD, kE, kF, kG, kH, kI, kJ, kK, aExtract, calleeOf, lA6.1]
  have hflat : fl = true ↔ PlaneM n es rs := by
   rw [hfl]
   constructor
   ·intro q
    exact planeM_of fun a ha => by
     obtain ⟨i, hi⟩ := List.mem_iff_getElem?.1 ha
     obtain ⟨hi2, rfl⟩ := List.getElem?_eq_some_iff.1 hi
     exact q i hi2 (Nat.lt_of_lt_of_le hi2 hge)
   ·intro q i hi _
    exact planeM_to q _ (List.getElem_mem hi)
  refine KCall.intro (by simp only [kS1, bLookup, bMapSet, wantA, isCall, stepOp, evalO, evalL, evalP, evalM, putDst, flat, kA, kB, Nat.reduceLT, ↓reduceIte, kC, Nat.reduceEqDiff, aBuiltin, abinG, guardFree, abin, aInt, aUn, aNilCheck, retQ, retQ1, aresults, aresultL, aresult, mkF, undefV, reduceCtorEq, kD, kE, kF, kG, kH, kI, kJ, kK, aExtract, calleeOf] <;> rfl) ⟨Try.func33, rfl, by decide⟩ (Plane_any W0 _ rv ⟨(n : Int), es⟩ rs hz (hg0.le (le1.trans L6)) rr6) ?_
  rintro x h8 w8 ⟨⟨b1', rfl, hb1⟩, l8⟩
  obtain rfl : b1' = fl := by
   rw [Bool.eq_iff_iff, hb1, hflat]
   exact ⟨fun h => h.2.2, fun h => ⟨hr, G, h⟩⟩
  have bb : (b1' == b1') = true := by simp
  simp only [kS1, bLookup, bMapSet, wantA, isCall, stepOp, evalO, evalL, evalP, evalM, putDst, flat, kA, kB, Nat.reduceLT, ↓reduceIte, kC, Nat.reduceEqDiff, aBuiltin, abinG, guardFree, abin, aInt, aUn, aNilCheck, retQ, retQ1, aresults, aresultL, aresult, mkF, undefV, reduceCtorEq, kD, kE, kF, kG, kH, kI, kJ, kK, aExtract, calleeOf, bb, aEq, Try.underlying4]
  refine KCall.intro (by simp only [kS1, bLookup, bMapSet, wantA, isCall, stepOp, evalO, evalL, evalP, evalM, putDst, flat, kA, kB, Nat.reduceLT, ↓reduceIte, kC, Nat.reduceEqDiff, aBuiltin, abinG, guardFree, abin, aInt, aUn, aNilCheck, retQ, retQ1, aresults, aresultL, aresult, mkF, undefV, reduceCtorEq, kD, kE, kF, kG, kH, kI, kJ, kK, aExtract, calleeOf] <;> rfl) ⟨Try.func27, rfl, by decide⟩ (awake7_any W0 h8) ?_
  rintro x h9 w9 ⟨rfl, l9⟩
  simp only [kS1, bLookup, bMapSet, wantA, isCall, stepOp, evalO, evalL, evalP, evalM, putDst, flat, kA, kB, Nat.reduceLT, ↓reduceIte, kC, Nat.reduceEqDiff, aBuiltin, abinG, guardFree, abin, aInt, aUn, aNilCheck, retQ, retQ1, aresults, aresultL, aresult, mkF, undefV, reduceCtorEq, kD, kE, kF, kG, kH, kI, kJ, kK, aExtract, calleeOf]
  all_goals exact ⟨trivial, trivial⟩
end Go.Fw
