/- A text of the proof. -/
import Derived.Test.YtnaahaldkpdjlaaFwLH6
import Derived.Test.YtnaahaldkpdjlaaFwLF14
set_option linter.unusedSimpArgs false
set_option linter.unusedVariables false
namespace Go.Fw
open Go.Proofs
attribute [local irreducible] KO4 KO3 KO2 KO1 KO KN KX KE VK KCond KDraw KCall KLoop
set_option maxHeartbeats 16000000
set_option maxRecDepth 10000
attribute [local instance] Classical.propDecidable
section
variable {n : Nat} {es : List Pr} {rs : List (List Int)} {a : Nat}
def dgS (rs : List (List Int)) (l : List Nat) : Nat := (l.map fun v => (rs.getD v []).length).sum
theorem dl_sum (n : Nat) (s : Nat → List Nat) : (dl n s).length = ((List.range n).map fun v => (s v).length).sum := by
 rw [dl, List.length_flatMap]
 congr 1
 exact List.map_congr_left fun v _ => by rw [List.length_map]
theorem sum_if (P : Nat → Prop) (f : Nat → Nat) : ∀ l : List Nat, (l.map fun v => if P v then f v else 0).sum = ((l.filter fun v => decide (P v)).map f).sum
 | [] => rfl
 | v :: l => by
  rw [List.map_cons, List.sum_cons, sum_if P f l, List.filter_cons]
  by_cases c : P v
  ·rw [if_pos c, if_pos (by simpa using c), List.map_cons, List.sum_cons]
  ·rw [if_neg c, if_neg (by simpa using c), Nat.zero_add]
theorem deg_sum (hr : InR n es) (ha : Asc es) (G : RotG n es rs) (a : Nat) : dgS rs (compL n es a) = 2 * edK es es a := by
 have R := G.isRot hr ha
 have S : IsRot n (keepE (fun v w => Con es a v ∧ Con es a w) (rotN rs)) := keepE_rot R fun v w h => ⟨h.2, h.1⟩
 have hms : ∀ v w, w ∈ keepE (fun v w => Con es a v ∧ Con es a w) (rotN rs) v ↔ adj es v w ∧ Con es a v := fun v w => by
  rw [mem_keepE, G.mem hr]
  exact ⟨fun h => ⟨h.1, h.2.1⟩, fun h => ⟨h.1, h.2, h.2.step h.1 rfl⟩⟩
 have hdl : (dl n (keepE (fun v w => Con es a v ∧ Con es a w) (rotN rs))).length = 2 * edK es es a := by
  unfold edK cntK
  refine dl_len S (ha.nodup.sublist List.filter_sublist) (fun p hp => hr p (List.mem_filter.1 hp).1) fun v w => ?_
  rw [hms]
  simp only [adj, List.mem_filter, decide_eq_true_eq, Int.toNat_natCast]
  constructor
  ·rintro ⟨h1 | h1, h2⟩
   ·exact .inl ⟨h1, h2⟩
   ·exact .inr ⟨h1, h2.step (.inr h1) rfl⟩
  ·rintro (⟨h1, h2⟩ | ⟨h1, h2⟩)
   ·exact ⟨.inl h1, h2⟩
   ·exact ⟨.inr h1, h2.step (.inl h1) rfl⟩
 rw [← hdl, dl_sum, dgS, compL, ← sum_if]
 congr 1
 refine List.map_congr_left fun v _ => ?_
 by_cases c : Con es a v
 ·rw [if_pos c, keepE_row fun w hw => ⟨c, c.step ((G.mem hr).1 hw) rfl⟩, rotN, List.length_map]
 ·rw [if_neg c]
  have : keepE (fun v w => Con es a v ∧ Con es a w) (rotN rs) v = [] := List.eq_nil_iff_forall_not_mem.2 fun w hw => c ((hms v w).1 hw).2
  rw [this]; rfl
theorem dgS_next (rs : List (List Int)) {l : List Nat} {k : Nat} (hk : k < l.length) : dgS rs (l.take (k + 1)) = dgS rs (l.take k) + (rs.getD l[k] []).length := by
 unfold dgS; rw [List.take_succ_eq_append_getElem hk, List.map_append, List.sum_append]; simp
theorem dgS_le (rs : List (List Int)) (N : Nat) (h : ∀ v, (rs.getD v []).length ≤ N) : ∀ l : List Nat, dgS rs l ≤ l.length * N
 | [] => by simp [dgS]
 | v :: l => by
  have := dgS_le rs N h l
  have h1 := h v
  unfold dgS at this ⊢
  rw [List.map_cons, List.sum_cons, List.length_cons, Nat.add_mul]; omega
def OKa (n : Nat) (es : List Pr) (rs : List (List Int)) (a : Nat) : Prop := 0 < edK es es a → (compL n es a).length + faK es (facesM n rs) a = edK es es a + 2
theorem plane_iff : PlaneM n es rs ↔ ∀ a ∈ heads n es, OKa n es rs a := Iff.rfl
theorem once_nat {l : List Nat} (nd : l.Nodup) (x : Nat) : (∃ i, Once (nat64 l) (x : Int) i) ↔ x ∈ l := by
 constructor
 ·rintro ⟨i, hi⟩
  exact mem_nat64.1 (List.mem_of_getElem? hi.1)
 ·intro h
  refine once_of_nodup ?_ (mem_nat64.2 h)
  unfold nat64
  exact (List.nodup_iff_pairwise_ne).2 (List.pairwise_map.2 ((List.nodup_iff_pairwise_ne.1 nd).imp fun h => by omega))
end
theorem nat_pos' (k : Nat) : decide ((k : Int) ≥ 0) = true := decide_eq_true (by omega)
theorem row_any {n : Nat} {es : List Pr} {rs : List (List Int)} (hr : RightG ⟨(n : Int), es⟩) (G : RotG n es rs) (v : Nat) : (rs.getD v []).length ≤ 1000 := by
 have h200 : (n : Int) ≤ 200 := hr.n1
 by_cases c : v < n
 ·have := row_small hr.inR hr.asc G c; omega
 ·rw [List.getD_eq_getElem?_getD, List.getElem?_eq_none (by rw [G.len]; omega)]; simp
theorem dec_eqn {a b : Nat} (h : a = b) : decide ((a : Int) = (b : Int)) = true := decide_eq_true (by omega)
theorem dec_nen {a b : Nat} (h : a ≠ b) : decide ((a : Int) = (b : Int)) = false := decide_eq_false (by omega)
theorem quo2 (a : Nat) : ((2 * a : Nat) : Int).tdiv 2 = (a : Int) := by
 show Int.ofNat ((2 * a) / 2) = _
 rw [Nat.mul_div_cancel_left a (by decide)]; rfl
theorem RPlane_any (W0 : Base) (v rv : Value) (G : GM) (rs : List (List Int)) (h : AHeap) (hg : GR h v G) (hv : RL (RL isI) h rv rs) (hl : ∀ l ∈ rs, l.length ≤ 100000) :
  AC Try.prog W0 41 [v, rv] h fun x h' => BoolIs (RightG G ∧ RotG G.n.toNat G.es rs ∧ PlaneM G.n.toNat G.es rs) x ∧ Le h h' := by
 have hg0 := hg
 obtain ⟨gn, es⟩ := G
 obtain ⟨ev, rfl, hp⟩ := hg.open
 refine AC.vc (fn := Try.f41) (c := _) ⟨Try.func41, rfl, by decide⟩ Try.ntmps41 Try.results41 (by simp) fun hwf => ?_
 simp only [argFrame, argFrom, Nat.reduceAdd]
 obtain ⟨h1, b1, le1, wf1, -, lA⟩ := boxG (n := gn) hwf hp
 generalize h.next = B at *
 have lA1 := lA h1 (Le.refl _)
 simp only [kS1, bLookup, bMapSet, wantA, isCall, stepOp, evalO, evalL, evalP, evalM, putDst, flat, kA, kB, Nat.reduceLT, ↓reduceIte, kC, Nat.reduceEqDiff, aBuiltin, abinG, guardFree, abin, aInt, aUn, aNilCheck, retQ, retQ1, aresults, aresultL, aresult, mkF, undefV, reduceCtorEq, kD, kE, kF, kG, kH, kI, kJ, kK, aExtract, calleeOf, b1, lA1.1]
 refine KCall.intro (by simp only [kS1, bLookup, bMapSet, wantA, isCall, stepOp, evalO, evalL, evalP, evalM, putDst, flat, kA, kB, Nat.reduceLT, ↓reduceIte, kC, Nat.reduceEqDiff, aBuiltin, abinG, guardFree, abin, aInt, aUn, aNilCheck, retQ, retQ1, aresults, aresultL, aresult, mkF, undefV, reduceCtorEq, kD, kE, kF, kG, kH, kI, kJ, kK, aExtract, calleeOf] <;> rfl) ⟨Try.func40, rfl, by decide⟩ (RRight_any W0 _ rv _ rs h1 (hg0.le le1) (hv.le (Stays.RL Stays.isI) le1) hl) ?_
 rintro x h2 w2 ⟨⟨b, rfl, hbb⟩, l2⟩
 have lA2 := lA h2 l2
 cases b with
 | false =>
  simp only [kS1, bLookup, bMapSet, wantA, isCall, stepOp, evalO, evalL, evalP, evalM, putDst, flat, kA, kB, Nat.reduceLT, ↓reduceIte, kC, Nat.reduceEqDiff, aBuiltin, abinG, guardFree, abin, aInt, aUn, aNilCheck, retQ, retQ1, aresults, aresultL, aresult, mkF, undefV, reduceCtorEq, kD, kE, kF, kG, kH, kI, kJ, kK, aExtract, calleeOf]
  exact ⟨BoolIs.f (fun h => by cases hbb.2 ⟨h.1, h.2.1⟩), le1.trans l2⟩
 | true =>
 obtain ⟨hr, G⟩ := hbb.1 rfl
 clear hbb
 have h0 : 0 ≤ gn := hr.n0
 obtain ⟨n, rfl⟩ := Int.eq_ofNat_of_zero_le h0
 simp only [Int.toNat_natCast] at G ⊢
 have hR := hr.inR
 have hA := hr.asc
 have h200 : (n : Int) ≤ 200 := hr.n1
 have h594 : es.length ≤ 594 := hr.len
 simp only [kS1, bLookup, bMapSet, wantA, isCall, stepOp, evalO, evalL, evalP, evalM, putDst, flat, kA, kB, Nat.reduceLT, ↓reduceIte, kC, Nat.reduceEqDiff, aBuiltin, abinG, guardFree, abin, aInt, aUn, aNilCheck, retQ, retQ1, aresults, aresultL, aresult, mkF, undefV, reduceCtorEq, kD, kE, kF, kG, kH, kI, kJ, kK, aExtract, calleeOf]
 refine KCall.intro (by simp only [kS1, bLookup, bMapSet, wantA, isCall, stepOp, evalO, evalL, evalP, evalM, putDst, flat, kA, kB, Nat.reduceLT, ↓reduceIte, kC, Nat.reduceEqDiff, aBuiltin, abinG, guardFree, abin, aInt, aUn, aNilCheck, retQ, retQ1, aresults, aresultL, aresult, mkF, undefV, reduceCtorEq, kD, kE, kF, kG, kH, kI, kJ, kK, aExtract, calleeOf] <;> rfl) ⟨Try.func39, rfl, by decide⟩ (RFaces_any W0 rv rs h2 (hv.le (Stays.RL Stays.isI) (le1.trans l2)) hl) ?_
 rintro x h3 w3 ⟨l3, ⟨rfl, hno⟩ | ⟨es1, f1, -, -, rfl, hf1⟩⟩
 ·exact absurd ⟨es, by rw [G.len]; exact hr, by rw [G.len]; exact G⟩ hno
 rw [G.len] at hf1
 have lA3 := lA h3 (l2.trans l3)
 simp only [kS1, bLookup, bMapSet, wantA, isCall, stepOp, evalO, evalL, evalP, evalM, putDst, flat, kA, kB, Nat.reduceLT, ↓reduceIte, kC, Nat.reduceEqDiff, aBuiltin, abinG, guardFree, abin, aInt, aUn, aNilCheck, retQ, retQ1, aresults, aresultL, aresult, mkF, undefV, reduceCtorEq, kD, kE, kF, kG, kH, kI, kJ, kK, aExtract, calleeOf, lA3.1]
 refine KCall.intro (by simp only [kS1, bLookup, bMapSet, wantA, isCall, stepOp, evalO, evalL, evalP, evalM, putDst, flat, kA, kB, Nat.reduceLT, ↓reduceIte, kC, Nat.reduceEqDiff, aBuiltin, abinG, guardFree, abin, aInt, aUn, aNilCheck, retQ, retQ1, aresults, aresultL, aresult, mkF, undefV, reduceCtorEq, kD, kE, kF, kG, kH, kI, kJ, kK, aExtract, calleeOf] <;> rfl) ⟨Try.func81, rfl, by decide⟩ (RPartsC_any W0 _ n es h3 (hg0.le (le1.trans (l2.trans l3))) hr) ?_
 rintro pv h4 w4 ⟨rp, l4⟩
 have L4 := (le1.trans (l2.trans l3)).trans l4
 have hv4 := hv.le (Stays.RL Stays.isI) L4
 have hf4 := hf1.le (Stays.RL Stays.isI) l4
 have lp := fun g => rp.len (P := Try.prog) Try.underlying32 g
 have lf := fun g => hf4.len (P := Try.prog) Try.underlying32 g
 have hpl : ((partsN n es n).map nat64).length = (heads n es).length := by rw [partsN, List.length_map, List.length_map]
 have hhl := heads_length n es
 have hfl := facesM_len (n := n) (es := es) (rs := rs) (by omega)
 rw [hpl] at lp
 have hPl := plane_iff (n := n) (es := es) (rs := rs)
 have hdg := fun a => deg_sum hR hA G a
 have hfa := fun {f} (hf : f ∈ facesM n rs) => faces_at hR hA G hf
 have hrl := fun v => row_any hr G v
 have hpat : ∀ {i : Nat} (hi : i < (heads n es).length) (hi' : i < ((partsN n es n).map nat64).length), ((partsN n es n).map nat64)[i] = nat64 (compL n es (heads n es)[i]) := fun hi hi' => by simp [partsN]
 simp only [kS1, bLookup, bMapSet, wantA, isCall, stepOp, evalO, evalL, evalP, evalM, putDst, flat, kA, kB, Nat.reduceLT, ↓reduceIte, kC, Nat.reduceEqDiff, aBuiltin, abinG, guardFree, abin, aInt, aUn, aNilCheck, retQ, retQ1, aresults, aresultL, aresult, mkF, undefV, reduceCtorEq, kD, kE, kF, kG, kH, kI, kJ, kK, aExtract, calleeOf]
 refine KLoop.intro (fun k fr hq => ∃ (i : Nat), k = (heads n es).length - i ∧ i ≤ (heads n es).length ∧ fr = mkF [(1, rv), (5, f1), (7, pv), (8, .int .i64 i)] ∧ hq = h4 ∧ ∀ q (hq : q < (heads n es).length), q < i → OKa n es rs (heads n es)[q])
  (heads n es).length [(1, rv), (5, f1), (7, pv), (8, .int .i64 (0 : Nat))] (by simp only [hasAll, kS1, bLookup, bMapSet, wantA, isCall, stepOp, evalO, evalL, evalP, evalM, putDst, flat, kA, kB, Nat.reduceLT, ↓reduceIte, kC, Nat.reduceEqDiff, aBuiltin, abinG, guardFree, abin, aInt, aUn, aNilCheck, retQ, retQ1, aresults, aresultL, aresult, mkF, undefV, reduceCtorEq, kD, kE, kF, kG, kH, kI, kJ, kK, aExtract, calleeOf]; simp) ⟨0, rfl, Nat.zero_le _, rfl, rfl, fun q _ h => absurd h (Nat.not_lt_zero q)⟩ ?_
 rintro k fr hq hwq ⟨i, rfl, hi, rfl, rfl, hok⟩
 simp only [kS1, bLookup, bMapSet, wantA, isCall, stepOp, evalO, evalL, evalP, evalM, putDst, flat, kA, kB, Nat.reduceLT, ↓reduceIte, kC, Nat.reduceEqDiff, aBuiltin, abinG, guardFree, abin, aInt, aUn, aNilCheck, retQ, retQ1, aresults, aresultL, aresult, mkF, undefV, reduceCtorEq, kD, kE, kF, kG, kH, kI, kJ, kK, aExtract, calleeOf, lp]
 refine KCond.intro (fun ht => ?_) (fun hf => ?_)
 rotate_left
 ·have hge : (heads n es).length ≤ i := lt_f hf
  simp only [kS1, bLookup, bMapSet, wantA, isCall, stepOp, evalO, evalL, evalP, evalM, putDst, flat, kA, kB, Nat.reduceLT, ↓reduceIte, kC, Nat.reduceEqDiff, aBuiltin, abinG, guardFree, abin, aInt, aUn, aNilCheck, retQ, retQ1, aresults, aresultL, aresult, mkF, undefV, reduceCtorEq, kD, kE, kF, kG, kH, kI, kJ, kK, aExtract, calleeOf]
  refine ⟨BoolIs.t ⟨hr, G, hPl.2 fun a ha => ?_⟩, L4⟩
  obtain ⟨q, hq, rfl⟩ := List.mem_iff_getElem.1 ha
  exact hok q hq (by omega)
 have hlt : i < (heads n es).length := lt_t ht
 clear ht
 have hlt' : i < ((partsN n es n).map nat64).length := by rw [hpl]; exact hlt
 have ar := rp.addr (P := Try.prog) Try.underlying32 Try.underlying38 (by kernel_rfl) (k := .i64) i hlt'
 obtain ⟨u, lu, hu⟩ := rp.load (P := Try.prog) Try.underlying38 rfl i hlt'
 rw [hpat hlt hlt'] at hu
 have han := (mem_heads.1 (List.getElem_mem hlt)).1
 have hnext : OKa n es rs (heads n es)[i] → ∀ q (hq : q < (heads n es).length), q < i + 1 → OKa n es rs (heads n es)[q] := fun h q hq hqi => by
  by_cases c : q = i
  ·subst c; exact h
  ·exact hok q hq (by omega)
 have hbad : ¬ OKa n es rs (heads n es)[i] → ¬ PlaneM n es rs := fun h p => h (hPl.1 p _ (List.getElem_mem hlt))
 have hda := hdg (heads n es)[i]
 generalize (heads n es)[i] = a at *
 have nd : (compL n es a).Nodup := by unfold compL; exact List.nodup_range.sublist List.filter_sublist
 have hcl : (compL n es a).length ≤ n := by
  have := List.length_filter_le (fun w => decide (Con es a w)) (List.range n)
  rw [List.length_range] at this; unfold compL; exact this
 have hcm : ∀ {k : Nat} (hk : k < (compL n es a).length), (compL n es a)[k] < n := fun hk => (mem_compL.1 (List.getElem_mem hk)).1
 have hed : edK es es a ≤ es.length := cntK_le _ _ _
 have ll := fun g => hu.len (P := Try.prog) Try.underlying38 g
 rw [nat64_length] at ll
 simp only [kS1, bLookup, bMapSet, wantA, isCall, stepOp, evalO, evalL, evalP, evalM, putDst, flat, kA, kB, Nat.reduceLT, ↓reduceIte, kC, Nat.reduceEqDiff, aBuiltin, abinG, guardFree, abin, aInt, aUn, aNilCheck, retQ, retQ1, aresults, aresultL, aresult, mkF, undefV, reduceCtorEq, kD, kE, kF, kG, kH, kI, kJ, kK, aExtract, calleeOf]
 refine KLoop.intro (fun k fr hz => ∃ (j : Nat), k = (compL n es a).length - j ∧ j ≤ (compL n es a).length ∧ fr = mkF [(1, rv), (5, f1), (7, pv), (8, .int .i64 i), (9, .int .i64 (dgS rs ((compL n es a).take j))), (10, .int .i64 0), (11, .int .i64 j)] ∧ hz = hq)
  (compL n es a).length [(1, rv), (5, f1), (7, pv), (8, .int .i64 i), (9, .int .i64 (0 : Nat)), (10, .int .i64 0), (11, .int .i64 (0 : Nat))] (by simp only [hasAll, kS1, bLookup, bMapSet, wantA, isCall, stepOp, evalO, evalL, evalP, evalM, putDst, flat, kA, kB, Nat.reduceLT, ↓reduceIte, kC, Nat.reduceEqDiff, aBuiltin, abinG, guardFree, abin, aInt, aUn, aNilCheck, retQ, retQ1, aresults, aresultL, aresult, mkF, undefV, reduceCtorEq, kD, kE, kF, kG, kH, kI, kJ, kK, aExtract, calleeOf]; simp) ⟨0, rfl, Nat.zero_le _, rfl, rfl⟩ ?_
 rintro k fr hz hwz ⟨j, rfl, hj, rfl, rfl⟩
 simp only [kS1, bLookup, bMapSet, wantA, isCall, stepOp, evalO, evalL, evalP, evalM, putDst, flat, kA, kB, Nat.reduceLT, ↓reduceIte, kC, Nat.reduceEqDiff, aBuiltin, abinG, guardFree, abin, aInt, aUn, aNilCheck, retQ, retQ1, aresults, aresultL, aresult, mkF, undefV, reduceCtorEq, kD, kE, kF, kG, kH, kI, kJ, kK, aExtract, calleeOf, ar, lu, ll]
 refine KCond.intro (fun ht => ?_) (fun hf => ?_)
 ·have hjt : j < (compL n es a).length := lt_t ht
  clear ht
  have hjn : j < (nat64 (compL n es a)).length := by rw [nat64_length]; exact hjt
  have ad := hu.addr (P := Try.prog) Try.underlying38 Try.underlying3 (by kernel_rfl) (k := .i64) j hjn
  have ld := hu.loadI (P := Try.prog) Try.underlying3 rfl j hjn
  rw [nat64_get hjt] at ld
  have hvn := hcm hjt
  have hds := dgS_next rs hjt
  have hdb := dgS_le rs 1000 hrl ((compL n es a).take (j + 1))
  have htl : ((compL n es a).take (j + 1)).length ≤ 200 := by rw [List.length_take]; omega
  have hmul : ((compL n es a).take (j + 1)).length * 1000 ≤ 200 * 1000 := Nat.mul_le_mul_right _ htl
  have hdb2 : dgS rs ((compL n es a).take (j + 1)) ≤ 200000 := Nat.le_trans hdb hmul
  generalize (compL n es a)[j] = w at *
  have hw1 : w < rs.length := by rw [G.len]; exact hvn
  have arr := hv4.addr (P := Try.prog) Try.underlying52 Try.underlying38 (by kernel_rfl) (k := .i64) w hw1
  obtain ⟨ru, lru, hru⟩ := hv4.load (P := Try.prog) Try.underlying38 rfl w hw1
  have hgd : rs.getD w [] = rs[w] := getD_of hw1
  rw [← hgd] at hru
  have lrw := fun g => hru.len (P := Try.prog) Try.underlying38 g
  have hwj := awrap_succ j (by omega)
  have hwd : awrap .i64 (((dgS rs ((compL n es a).take j) : Nat) : Int) + ((rs.getD w []).length : Int)) = ((dgS rs ((compL n es a).take (j + 1)) : Nat) : Int) := by rw [hds] at hdb2 ⊢; rw [awrap_i64 _ (by omega) (by omega)]; omega
  simp only [kS1, bLookup, bMapSet, wantA, isCall, stepOp, evalO, evalL, evalP, evalM, putDst, flat, kA, kB, Nat.reduceLT, ↓reduceIte, kC, Nat.reduceEqDiff, aBuiltin, abinG, guardFree, abin, aInt, aUn, aNilCheck, retQ, retQ1, aresults, aresultL, aresult, mkF, undefV, reduceCtorEq, kD, kE, kF, kG, kH, kI, kJ, kK, aExtract, calleeOf, ar, lu, ad, ld, arr, lru, lrw, hwd, hwj]
  exact loop_again ((compL n es a).length - (j + 1)) [(1, rv), (5, f1), (7, pv), (8, .int .i64 i), (9, .int .i64 (dgS rs ((compL n es a).take (j + 1)))), (10, .int .i64 0), (11, .int .i64 (j + 1 : Nat))] (stq hjt) (by simp only [hasAll, kS1, bLookup, bMapSet, wantA, isCall, stepOp, evalO, evalL, evalP, evalM, putDst, flat, kA, kB, Nat.reduceLT, ↓reduceIte, kC, Nat.reduceEqDiff, aBuiltin, abinG, guardFree, abin, aInt, aUn, aNilCheck, retQ, retQ1, aresults, aresultL, aresult, mkF, undefV, reduceCtorEq, kD, kE, kF, kG, kH, kI, kJ, kK, aExtract, calleeOf]; simp) ⟨j + 1, rfl, hjt, rfl, rfl⟩
 have hge : (compL n es a).length ≤ j := lt_f hf
 rw [List.take_of_length_le hge, hda]
 clear hge hf hj
 simp only [kS1, bLookup, bMapSet, wantA, isCall, stepOp, evalO, evalL, evalP, evalM, putDst, flat, kA, kB, Nat.reduceLT, ↓reduceIte, kC, Nat.reduceEqDiff, aBuiltin, abinG, guardFree, abin, aInt, aUn, aNilCheck, retQ, retQ1, aresults, aresultL, aresult, mkF, undefV, reduceCtorEq, kD, kE, kF, kG, kH, kI, kJ, kK, aExtract, calleeOf]
 refine KLoop.intro (fun k fr hy => ∃ (j : Nat), k = (facesM n rs).length - j ∧ j ≤ (facesM n rs).length ∧ fr = mkF [(1, rv), (5, f1), (7, pv), (8, .int .i64 i), (9, .int .i64 (2 * edK es es a : Nat)), (10, .int .i64 (faK es ((facesM n rs).take j) a)), (12, .int .i64 j)] ∧ hy = hz)
  (facesM n rs).length [(1, rv), (5, f1), (7, pv), (8, .int .i64 i), (9, .int .i64 (2 * edK es es a : Nat)), (10, .int .i64 (0 : Nat)), (12, .int .i64 (0 : Nat))] (by simp only [hasAll, kS1, bLookup, bMapSet, wantA, isCall, stepOp, evalO, evalL, evalP, evalM, putDst, flat, kA, kB, Nat.reduceLT, ↓reduceIte, kC, Nat.reduceEqDiff, aBuiltin, abinG, guardFree, abin, aInt, aUn, aNilCheck, retQ, retQ1, aresults, aresultL, aresult, mkF, undefV, reduceCtorEq, kD, kE, kF, kG, kH, kI, kJ, kK, aExtract, calleeOf]; simp) ⟨0, rfl, Nat.zero_le _, rfl, rfl⟩ ?_
 clear j
 rintro k fr hy hwy ⟨j, rfl, hj, rfl, rfl⟩
 simp only [kS1, bLookup, bMapSet, wantA, isCall, stepOp, evalO, evalL, evalP, evalM, putDst, flat, kA, kB, Nat.reduceLT, ↓reduceIte, kC, Nat.reduceEqDiff, aBuiltin, abinG, guardFree, abin, aInt, aUn, aNilCheck, retQ, retQ1, aresults, aresultL, aresult, mkF, undefV, reduceCtorEq, kD, kE, kF, kG, kH, kI, kJ, kK, aExtract, calleeOf, lf]
 refine KCond.intro (fun ht => ?_) (fun hf => ?_)
 ·have hjt : j < (facesM n rs).length := lt_t ht
  clear ht
  have arf := hf4.addr (P := Try.prog) Try.underlying32 Try.underlying38 (by kernel_rfl) (k := .i64) j hjt
  obtain ⟨fu, lfu, hfu⟩ := hf4.load (P := Try.prog) Try.underlying38 rfl j hjt
  obtain ⟨hf0, w, hw, hfe⟩ := hfa (List.getElem_mem hjt)
  have hst : faK es ((facesM n rs).take (j + 1)) a = faK es ((facesM n rs).take j) a + if Con es a w then 1 else 0 := by
   rw [List.take_succ_eq_append_getElem hjt]
   have := cntK_snoc (fun a (f : List Int) => Con es a (f.headD 0).toNat) ((facesM n rs).take j) (facesM n rs)[j] a
   rw [hfe, Int.toNat_natCast] at this
   exact this
  have hbd : faK es ((facesM n rs).take (j + 1)) a ≤ 40000 := by
   have := cntK_le (fun a (f : List Int) => Con es a (f.headD 0).toNat) ((facesM n rs).take (j + 1)) a
   rw [List.length_take] at this
   unfold faK; omega
  have hon := once_nat nd w
  generalize (facesM n rs)[j] = f at *
  have adf := hfu.addr (P := Try.prog) Try.underlying38 Try.underlying3 (by kernel_rfl) (k := .i64) 0 hf0
  have ldf := hfu.loadI (P := Try.prog) Try.underlying3 rfl 0 hf0
  have hf00 : f[0] = (w : Int) := by
   cases f with
   | nil => simp at hf0
   | cons y l => exact hfe
  rw [hf00] at ldf
  simp only [Int.cast_ofNat_Int] at adf
  have hwj := awrap_succ j (by omega)
  simp only [kS1, bLookup, bMapSet, wantA, isCall, stepOp, evalO, evalL, evalP, evalM, putDst, flat, kA, kB, Nat.reduceLT, ↓reduceIte, kC, Nat.reduceEqDiff, aBuiltin, abinG, guardFree, abin, aInt, aUn, aNilCheck, retQ, retQ1, aresults, aresultL, aresult, mkF, undefV, reduceCtorEq, kD, kE, kF, kG, kH, kI, kJ, kK, aExtract, calleeOf]
  refine KDraw.intro mixed (.fl 0 (.fl 1 (.fl 2 (.fl 3 (.fl 4 (.fl 5 (.fl 6 (.fl 7 (.fl 8 (.fl 9 (.ch 10 [3, 9] (.fl 11 (.done)) .no))))))))))) (by kernel_rfl) ?_
  simp only [kS1, bLookup, bMapSet, wantA, isCall, stepOp, evalO, evalL, evalP, evalM, putDst, flat, kA, kB, Nat.reduceLT, ↓reduceIte, kC, Nat.reduceEqDiff, aBuiltin, abinG, guardFree, abin, aInt, aUn, aNilCheck, retQ, retQ1, aresults, aresultL, aresult, mkF, undefV, reduceCtorEq, kD, kE, kF, kG, kH, kI, kJ, kK, aExtract, calleeOf, kD1, Nat.reduceBEq, HoldsAll, kL, kM, kN, kO, ar, lu, arf, lfu, adf, ldf]
  refine KGCall.intro (by simp only [kS1, bLookup, bMapSet, wantA, isCall, stepOp, evalO, evalL, evalP, evalM, putDst, flat, kA, kB, Nat.reduceLT, ↓reduceIte, kC, Nat.reduceEqDiff, aBuiltin, abinG, guardFree, abin, aInt, aUn, aNilCheck, retQ, retQ1, aresults, aresultL, aresult, mkF, undefV, reduceCtorEq, kD, kE, kF, kG, kH, kI, kJ, kK, aExtract, calleeOf] <;> rfl) ⟨Try.func77, rfl, by decide⟩ (place_any W0 u (nat64 (compL n es a)) (w : Int) hy hu (by rw [nat64_length]; omega)) ?_
  rintro x h5 w5 ⟨⟨k, hk, hko, rfl⟩ | ⟨rfl, hno⟩, rfl⟩
  ·have d : decide ((k : Int) ≥ 0) = true := nat_pos' k
   have hcw := (mem_compL.1 (hon.1 ⟨k, hko⟩)).2
   rw [if_pos hcw] at hst
   have hwf := awrap_succ (faK es ((facesM n rs).take j) a) (by omega)
   simp only [kS1, bLookup, bMapSet, wantA, isCall, stepOp, evalO, evalL, evalP, evalM, putDst, flat, kA, kB, Nat.reduceLT, ↓reduceIte, kC, Nat.reduceEqDiff, aBuiltin, abinG, guardFree, abin, aInt, aUn, aNilCheck, retQ, retQ1, aresults, aresultL, aresult, mkF, undefV, reduceCtorEq, kD, kE, kF, kG, kH, kI, kJ, kK, aExtract, calleeOf, kD1, Nat.reduceBEq, HoldsAll, kL, kM, kN, kO, ar, lu, arf, lfu, adf, ldf, d, hwf, hwj]
   exact loop_again ((facesM n rs).length - (j + 1)) [(1, rv), (5, f1), (7, pv), (8, .int .i64 i), (9, .int .i64 (2 * edK es es a : Nat)), (10, .int .i64 (faK es ((facesM n rs).take j) a + 1 : Nat)), (12, .int .i64 (j + 1 : Nat))] (stq hjt) (by simp only [hasAll, kS1, bLookup, bMapSet, wantA, isCall, stepOp, evalO, evalL, evalP, evalM, putDst, flat, kA, kB, Nat.reduceLT, ↓reduceIte, kC, Nat.reduceEqDiff, aBuiltin, abinG, guardFree, abin, aInt, aUn, aNilCheck, retQ, retQ1, aresults, aresultL, aresult, mkF, undefV, reduceCtorEq, kD, kE, kF, kG, kH, kI, kJ, kK, aExtract, calleeOf]; simp) ⟨j + 1, rfl, hjt, by rw [hst] <;> rfl, rfl⟩
  ·have d : decide ((-1 : Int) ≥ 0) = false := by decide
   have hcw : ¬ Con es a w := fun q => by
    obtain ⟨k, hk⟩ := hon.2 (mem_compL.2 ⟨hw, q⟩)
    exact hno k hk
   rw [if_neg hcw] at hst
   simp only [kS1, bLookup, bMapSet, wantA, isCall, stepOp, evalO, evalL, evalP, evalM, putDst, flat, kA, kB, Nat.reduceLT, ↓reduceIte, kC, Nat.reduceEqDiff, aBuiltin, abinG, guardFree, abin, aInt, aUn, aNilCheck, retQ, retQ1, aresults, aresultL, aresult, mkF, undefV, reduceCtorEq, kD, kE, kF, kG, kH, kI, kJ, kK, aExtract, calleeOf, kD1, Nat.reduceBEq, HoldsAll, kL, kM, kN, kO, ar, lu, arf, lfu, adf, ldf, d, hwj]
   exact loop_again ((facesM n rs).length - (j + 1)) [(1, rv), (5, f1), (7, pv), (8, .int .i64 i), (9, .int .i64 (2 * edK es es a : Nat)), (10, .int .i64 (faK es ((facesM n rs).take j) a)), (12, .int .i64 (j + 1 : Nat))] (stq hjt) (by simp only [hasAll, kS1, bLookup, bMapSet, wantA, isCall, stepOp, evalO, evalL, evalP, evalM, putDst, flat, kA, kB, Nat.reduceLT, ↓reduceIte, kC, Nat.reduceEqDiff, aBuiltin, abinG, guardFree, abin, aInt, aUn, aNilCheck, retQ, retQ1, aresults, aresultL, aresult, mkF, undefV, reduceCtorEq, kD, kE, kF, kG, kH, kI, kJ, kK, aExtract, calleeOf]; simp) ⟨j + 1, rfl, hjt, by rw [hst] <;> rfl, rfl⟩
 have hge : (facesM n rs).length ≤ j := lt_f hf
 rw [List.take_of_length_le hge]
 clear hge hf hj
 have hbd : faK es (facesM n rs) a ≤ 40000 := Nat.le_trans (cntK_le _ _ _) hfl
 have hwi := awrap_succ i (by omega)
 by_cases c0 : 0 < edK es es a
 ·have d0 : decide (((2 * edK es es a : Nat) : Int) > 0) = true := decide_eq_true (by omega)
  have q2 := quo2 (edK es es a)
  have n2 : ((2 : Int) = 0) = False := eq_false (by decide)
  have wq : awrap .i64 ((edK es es a : Nat) : Int) = ((edK es es a : Nat) : Int) := awrap_i64 _ (by omega) (by omega)
  have w1 : awrap .i64 (((compL n es a).length : Int) + ((faK es (facesM n rs) a : Nat) : Int)) = (((compL n es a).length + faK es (facesM n rs) a : Nat) : Int) := by rw [awrap_i64 _ (by omega) (by omega)]; omega
  have w2 : awrap .i64 (((edK es es a : Nat) : Int) + 2) = ((edK es es a + 2 : Nat) : Int) := by rw [awrap_i64 _ (by omega) (by omega)]; omega
  by_cases c1 : (compL n es a).length + faK es (facesM n rs) a = edK es es a + 2
  ·have d1 : decide ((((compL n es a).length + faK es (facesM n rs) a : Nat) : Int) = ((edK es es a + 2 : Nat) : Int)) = true := dec_eqn c1
   simp only [kS1, bLookup, bMapSet, wantA, isCall, stepOp, evalO, evalL, evalP, evalM, putDst, flat, kA, kB, Nat.reduceLT, ↓reduceIte, kC, Nat.reduceEqDiff, aBuiltin, abinG, guardFree, abin, aInt, aUn, aNilCheck, retQ, retQ1, aresults, aresultL, aresult, mkF, undefV, reduceCtorEq, kD, kE, kF, kG, kH, kI, kJ, kK, aExtract, calleeOf, ar, lu, ll, d0, q2, n2, wq, w1, w2, bne, d1, hwi]
   exact loop_again ((heads n es).length - (i + 1)) [(1, rv), (5, f1), (7, pv), (8, .int .i64 (i + 1 : Nat))] (stq hlt) (by simp only [hasAll, kS1, bLookup, bMapSet, wantA, isCall, stepOp, evalO, evalL, evalP, evalM, putDst, flat, kA, kB, Nat.reduceLT, ↓reduceIte, kC, Nat.reduceEqDiff, aBuiltin, abinG, guardFree, abin, aInt, aUn, aNilCheck, retQ, retQ1, aresults, aresultL, aresult, mkF, undefV, reduceCtorEq, kD, kE, kF, kG, kH, kI, kJ, kK, aExtract, calleeOf]; simp) ⟨i + 1, rfl, hlt, rfl, rfl, hnext fun _ => c1⟩
  ·have d1 : decide ((((compL n es a).length + faK es (facesM n rs) a : Nat) : Int) = ((edK es es a + 2 : Nat) : Int)) = false := dec_nen c1
   simp only [kS1, bLookup, bMapSet, wantA, isCall, stepOp, evalO, evalL, evalP, evalM, putDst, flat, kA, kB, Nat.reduceLT, ↓reduceIte, kC, Nat.reduceEqDiff, aBuiltin, abinG, guardFree, abin, aInt, aUn, aNilCheck, retQ, retQ1, aresults, aresultL, aresult, mkF, undefV, reduceCtorEq, kD, kE, kF, kG, kH, kI, kJ, kK, aExtract, calleeOf, ar, lu, ll, d0, q2, n2, wq, w1, w2, bne, d1]
   exact ⟨BoolIs.f fun q => hbad (fun z => c1 (z c0)) q.2.2, L4⟩
 ·have d0 : decide (((2 * edK es es a : Nat) : Int) > 0) = false := decide_eq_false (by omega)
  simp only [kS1, bLookup, bMapSet, wantA, isCall, stepOp, evalO, evalL, evalP, evalM, putDst, flat, kA, kB, Nat.reduceLT, ↓reduceIte, kC, Nat.reduceEqDiff, aBuiltin, abinG, guardFree, abin, aInt, aUn, aNilCheck, retQ, retQ1, aresults, aresultL, aresult, mkF, undefV, reduceCtorEq, kD, kE, kF, kG, kH, kI, kJ, kK, aExtract, calleeOf, d0, hwi]
  exact loop_again ((heads n es).length - (i + 1)) [(1, rv), (5, f1), (7, pv), (8, .int .i64 (i + 1 : Nat))] (stq hlt) (by simp only [hasAll, kS1, bLookup, bMapSet, wantA, isCall, stepOp, evalO, evalL, evalP, evalM, putDst, flat, kA, kB, Nat.reduceLT, ↓reduceIte, kC, Nat.reduceEqDiff, aBuiltin, abinG, guardFree, abin, aInt, aUn, aNilCheck, retQ, retQ1, aresults, aresultL, aresult, mkF, undefV, reduceCtorEq, kD, kE, kF, kG, kH, kI, kJ, kK, aExtract, calleeOf]; simp) ⟨i + 1, rfl, hlt, rfl, rfl, hnext fun q => absurd q c0⟩
end Go.Fw
