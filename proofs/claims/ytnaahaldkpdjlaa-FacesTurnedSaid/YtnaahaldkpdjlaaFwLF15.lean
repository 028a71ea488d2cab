/- A text of the proof. -/
import Derived.Test.YtnaahaldkpdjlaaFwLF13
set_option linter.unusedSimpArgs false
set_option linter.unusedVariables false
namespace Go.Fw
open Go.Proofs
attribute [local irreducible] KO4 KO3 KO2 KO1 KO KN KX KE VK KCond KDraw KCall KLoop
set_option maxHeartbeats 16000000
set_option maxRecDepth 10000
attribute [local instance] Classical.propDecidable
attribute [local irreducible] facesM PlaneM besM
theorem turn_k {m : Nat} {x : Int} (h0 : 0 ≤ x) (hm : 0 < m) (hm2 : m ≤ 1188) : ∃ k : Nat, k < m ∧ x.tmod (m : Int) = (k : Int) ∧ awrap .i64 (k : Int) = (k : Int) := by
 obtain ⟨a, rfl⟩ := Int.eq_ofNat_of_zero_le h0
 have := Nat.mod_lt a hm
 exact ⟨a % m, this, tm_nat a m, awrap_i64 _ (by omega) (by omega)⟩
theorem wrap_b {x : Int} (h0 : 0 ≤ x) (h1 : x < 256) : awrap .i64 x = x := awrap_i64 _ (by omega) (by omega)
theorem turn_snoc {rs ts : List (List Int)} {i k : Nat} (hl : ts.length = i) (h : ∀ v, v < i → ∃ k, k ≤ (rs.getD v []).length ∧ ts.getD v [] = (rs.getD v []).drop k ++ (rs.getD v []).take k) (hk : k ≤ (rs.getD i []).length) :
  (ts ++ [(rs.getD i []).drop k ++ (rs.getD i []).take k]).length = i + 1 ∧ ∀ v, v < i + 1 → ∃ k', k' ≤ (rs.getD v []).length ∧ (ts ++ [(rs.getD i []).drop k ++ (rs.getD i []).take k]).getD v [] = (rs.getD v []).drop k' ++ (rs.getD v []).take k' := by
 refine ⟨by simp [hl], fun v hv => ?_⟩
 by_cases c : v = i
 ·subst c
  refine ⟨k, hk, ?_⟩
  rw [List.getD_eq_getElem?_getD, List.getElem?_append_right (by omega), hl]; simp
 ·obtain ⟨k', h1, h2⟩ := h v (by omega)
  refine ⟨k', h1, ?_⟩
  rw [List.getD_eq_getElem?_getD, List.getElem?_append_left (by omega), ← List.getD_eq_getElem?_getD]; exact h2
theorem rlG_rl {h : AHeap} {v : Value} {rs : List (List Int)} (r : RL isG h v rs) : RL (RL isI) h v rs := r.map fun _ _ g => g.rl
theorem dart_len {n : Nat} {es : List Pr} {rs : List (List Int)} (hr : RightG ⟨(n : Int), es⟩) (G : RotG n es rs) : (facesM n rs).length ≤ 40000 ∧ ∀ f ∈ facesM n rs, f.length ≤ 40000 := by
 have h200 : (n : Int) ≤ 200 := hr.n1
 refine ⟨facesM_len (n := n) (es := es) (by omega), fun f hf => ?_⟩
 have R := G.isRot hr.inR hr.asc
 unfold facesM at hf
 rw [List.mem_map] at hf
 obtain ⟨g, hg, rfl⟩ := hf
 rw [facesF, List.mem_map] at hg
 obtain ⟨d, hd, rfl⟩ := hg
 have hd1 := (mem_hdsF R).1 hd
 have hdm : d ∈ dl n (rotN rs) := (mem_dl R).2 hd1.1
 have h1 := sub_len (orbL_nodup (phi_pm R) hdm) (B := ddl n (rotN rs)) fun z hz => (mem_ddl R).2 ((mem_dl R).1 ((phi_pm R).orb_mem hdm ((mem_orbL (phi_pm R) hdm).1 hz)))
 have h2 := rowsD_len n (rotN rs) n
 rw [rowsD_all] at h2
 have h3 : n * n ≤ 200 * 200 := Nat.mul_le_mul (by omega) (by omega)
 have h4 : (nat64 (faceF (rotN rs) d)).length = (orbL (fph (rotN rs)) d).length := by rw [nat64_length, faceF, List.length_map]
 omega
theorem Turned_law (W0 : Base) (v ov bv : Value) (G : GM) (os bs : List Int) (h : AHeap) (hg : GR h v G) (ho : RL isH h ov os) (hb : RL isB h bv bs) :
  AC Try.prog W0 5 [v, ov, bv] h fun x h' => x = .bool true ∧ True := by
 have hg0 := hg
 obtain ⟨gn, es⟩ := G
 obtain ⟨ev, rfl, hp⟩ := hg.open
 refine AC.vc (fn := Try.f5) (c := _) ⟨Try.func5, rfl, by decide⟩ Try.ntmps5 Try.results5 (by simp) fun hwf => ?_
 simp only [argFrame, argFrom, Nat.reduceAdd]
 obtain ⟨h1, b1, le1, wf1, -, lA⟩ := boxG (n := gn) hwf hp
 generalize h.next = B at *
 have lA1 := lA h1 (Le.refl _)
 simp only [kS1, bLookup, bMapSet, wantA, isCall, stepOp, evalO, evalL, evalP, evalM, putDst, flat, kA, kB, Nat.reduceLT, ↓reduceIte, kC, Nat.reduceEqDiff, aBuiltin, abinG, guardFree, abin, aInt, aUn, aNilCheck, retQ, retQ1, aresults, aresultL, aresult, mkF, undefV, reduceCtorEq, kD, kE, kF, kG, kH, kI, kJ, kK, aExtract, calleeOf, b1, lA1.1]
 refine KCall.intro (by simp only [kS1, bLookup, bMapSet, wantA, isCall, stepOp, evalO, evalL, evalP, evalM, putDst, flat, kA, kB, Nat.reduceLT, ↓reduceIte, kC, Nat.reduceEqDiff, aBuiltin, abinG, guardFree, abin, aInt, aUn, aNilCheck, retQ, retQ1, aresults, aresultL, aresult, mkF, undefV, reduceCtorEq, kD, kE, kF, kG, kH, kI, kJ, kK, aExtract, calleeOf] <;> rfl) ⟨Try.func26, rfl, by decide⟩ (right7_any W0 _ _ h1 (hg0.le le1)) ?_
 rintro x h2 w2 ⟨⟨b, rfl, hbb⟩, l2⟩
 have lA2 := lA h2 l2
 cases b with
 | false =>
  simp only [kS1, bLookup, bMapSet, wantA, isCall, stepOp, evalO, evalL, evalP, evalM, putDst, flat, kA, kB, Nat.reduceLT, ↓reduceIte, kC, Nat.reduceEqDiff, aBuiltin, abinG, guardFree, abin, aInt, aUn, aNilCheck, retQ, retQ1, aresults, aresultL, aresult, mkF, undefV, reduceCtorEq, kD, kE, kF, kG, kH, kI, kJ, kK, aExtract, calleeOf]
  refine KCall.intro (by simp only [kS1, bLookup, bMapSet, wantA, isCall, stepOp, evalO, evalL, evalP, evalM, putDst, flat, kA, kB, Nat.reduceLT, ↓reduceIte, kC, Nat.reduceEqDiff, aBuiltin, abinG, guardFree, abin, aInt, aUn, aNilCheck, retQ, retQ1, aresults, aresultL, aresult, mkF, undefV, reduceCtorEq, kD, kE, kF, kG, kH, kI, kJ, kK, aExtract, calleeOf] <;> rfl) ⟨Try.func27, rfl, by decide⟩ (awake7_any W0 h2) ?_
  rintro x h3 w3 ⟨rfl, l3⟩
  simp only [kS1, bLookup, bMapSet, wantA, isCall, stepOp, evalO, evalL, evalP, evalM, putDst, flat, kA, kB, Nat.reduceLT, ↓reduceIte, kC, Nat.reduceEqDiff, aBuiltin, abinG, guardFree, abin, aInt, aUn, aNilCheck, retQ, retQ1, aresults, aresultL, aresult, mkF, undefV, reduceCtorEq, kD, kE, kF, kG, kH, kI, kJ, kK, aExtract, calleeOf]
  all_goals exact ⟨trivial, trivial⟩
 | true =>
 obtain ⟨hr, h30⟩ := hbb.1 rfl
 clear hbb
 have h0 : 0 ≤ gn := hr.n0
 obtain ⟨n, rfl⟩ := Int.eq_ofNat_of_zero_le h0
 have hR := hr.inR
 have hA := hr.asc
 simp only [kS1, bLookup, bMapSet, wantA, isCall, stepOp, evalO, evalL, evalP, evalM, putDst, flat, kA, kB, Nat.reduceLT, ↓reduceIte, kC, Nat.reduceEqDiff, aBuiltin, abinG, guardFree, abin, aInt, aUn, aNilCheck, retQ, retQ1, aresults, aresultL, aresult, mkF, undefV, reduceCtorEq, kD, kE, kF, kG, kH, kI, kJ, kK, aExtract, calleeOf, lA2.1]
 refine KCall.intro (by simp only [kS1, bLookup, bMapSet, wantA, isCall, stepOp, evalO, evalL, evalP, evalM, putDst, flat, kA, kB, Nat.reduceLT, ↓reduceIte, kC, Nat.reduceEqDiff, aBuiltin, abinG, guardFree, abin, aInt, aUn, aNilCheck, retQ, retQ1, aresults, aresultL, aresult, mkF, undefV, reduceCtorEq, kD, kE, kF, kG, kH, kI, kJ, kK, aExtract, calleeOf] <;> rfl) ⟨Try.func28, rfl, by decide⟩ (Around_any W0 _ ov n es os h2 (hg0.le (le1.trans l2)) (ho.le Stays.isH (le1.trans l2)) hr) ?_
 rintro rv h3 w3 ⟨rs, G, rg, l3⟩
 have rr := rlG_rl rg
 have lr := fun g => rr.len (P := Try.prog) Try.underlying52 g
 have lb := fun g => hb.len (P := Try.prog) Try.underlying51 g
 have L3 := (le1.trans l2).trans l3
 have hn30 : rs.length ≤ 30 := by rw [G.len]; simp only at h30; omega
 have hsm := fun v (hv : v < rs.length) => row_small hR hA G (v := v) (by rw [← G.len]; exact hv)
 simp only [kS1, bLookup, bMapSet, wantA, isCall, stepOp, evalO, evalL, evalP, evalM, putDst, flat, kA, kB, Nat.reduceLT, ↓reduceIte, kC, Nat.reduceEqDiff, aBuiltin, abinG, guardFree, abin, aInt, aUn, aNilCheck, retQ, retQ1, aresults, aresultL, aresult, mkF, undefV, reduceCtorEq, kD, kE, kF, kG, kH, kI, kJ, kK, aExtract, calleeOf, lr]
 refine KLoop.intro (fun k fr hq => ∃ (i : Nat) (ts : List (List Int)) (tv : Value), k = rs.length - i ∧ i ≤ rs.length ∧ fr = mkF [(2, bv), (3, .pointer (some ⟨B, 0, none⟩)), (7, rv), (8, tv), (23, rv), (24, .int .i64 rs.length), (25, .int .i64 i)] ∧
   GRL (RL isI) hq tv ts ∧ Le h3 hq ∧ Apart h3 tv ∧ ts.length = i ∧ ∀ v, v < i → ∃ k, k ≤ (rs.getD v []).length ∧ ts.getD v [] = (rs.getD v []).drop k ++ (rs.getD v []).take k)
  rs.length [(2, bv), (3, .pointer (some ⟨B, 0, none⟩)), (7, rv), (8, .slice none 0 0), (23, rv), (24, .int .i64 rs.length), (25, .int .i64 (0 : Nat))] (by simp only [hasAll, kS1, bLookup, bMapSet, wantA, isCall, stepOp, evalO, evalL, evalP, evalM, putDst, flat, kA, kB, Nat.reduceLT, ↓reduceIte, kC, Nat.reduceEqDiff, aBuiltin, abinG, guardFree, abin, aInt, aUn, aNilCheck, retQ, retQ1, aresults, aresultL, aresult, mkF, undefV, reduceCtorEq, kD, kE, kF, kG, kH, kI, kJ, kK, aExtract, calleeOf]; simp)
  ⟨0, [], _, rfl, Nat.zero_le _, rfl, GRL.nil _ _, Le.refl _, fun b hb => by simp [blk] at hb, rfl, fun v hv => absurd hv (Nat.not_lt_zero _)⟩ ?_
 rintro k fr hq hwq ⟨i, ts, tv, rfl, hi, rfl, gt, lq, at', tl, tt⟩
 simp only [kS1, bLookup, bMapSet, wantA, isCall, stepOp, evalO, evalL, evalP, evalM, putDst, flat, kA, kB, Nat.reduceLT, ↓reduceIte, kC, Nat.reduceEqDiff, aBuiltin, abinG, guardFree, abin, aInt, aUn, aNilCheck, retQ, retQ1, aresults, aresultL, aresult, mkF, undefV, reduceCtorEq, kD, kE, kF, kG, kH, kI, kJ, kK, aExtract, calleeOf]
 refine KCond.intro (fun ht => ?_) (fun hf => ?_)
 ·have hlt : i < rs.length := lt_t ht
  clear ht
  have ar := rr.addr (P := Try.prog) Try.underlying52 Try.underlying38 (by kernel_rfl) (k := .i64) i hlt
  obtain ⟨u, lu', hu⟩ := rg.load' (P := Try.prog) Try.underlying38 rfl i hlt
  have lu := lu' hq lq
  have hsi := hsm i hlt
  have hgd : rs.getD i [] = rs[i] := getD_of hlt
  have htn := fun k => turn_snoc (k := k) tl tt
  rw [← hgd] at hu
  generalize rs.getD i [] = r at *
  have hul := hu.rl
  have ll := fun g => hul.len (P := Try.prog) Try.underlying38 g
  have hn' : n ≤ 30 := by rw [← G.len]; exact hn30
  have hwi := awrap_succ i (by omega)
  by_cases c1 : i < bs.length
  ·by_cases c2 : 0 < r.length
   ·have d1 : decide ((i : Int) < (bs.length : Int)) = true := decide_eq_true (by omega)
    have d2 : decide (((r.length : Nat) : Int) > 0) = true := decide_eq_true (by omega)
    have adb := hb.addr (P := Try.prog) Try.underlying51 Try.underlying5 (by kernel_rfl) (k := .i64) i c1
    obtain ⟨x, ldb, hx⟩ := (hb.le Stays.isB (L3.trans lq)).load Try.underlying5 rfl i c1
    obtain ⟨rfl, o0, o1⟩ := hx
    generalize bs[i] = x at *
    obtain ⟨k, hkl, e1, e2⟩ := turn_k o0 c2 (by omega)
    have hk : k ≤ r.length := Nat.le_of_lt hkl
    have w1 := wrap_b o0 o1
    have nz : ¬ (((r.length : Nat) : Int) = 0) := by omega
    simp only [kS1, bLookup, bMapSet, wantA, isCall, stepOp, evalO, evalL, evalP, evalM, putDst, flat, kA, kB, Nat.reduceLT, ↓reduceIte, kC, Nat.reduceEqDiff, aBuiltin, abinG, guardFree, abin, aInt, aUn, aNilCheck, retQ, retQ1, aresults, aresultL, aresult, mkF, undefV, reduceCtorEq, kD, kE, kF, kG, kH, kI, kJ, kK, aExtract, calleeOf, ar, lu, lb, ll, d1, d2, adb, ldb, aConvert, Try.underlying5, Try.underlying3, w1, nz, e1, e2]
    obtain ⟨s1, eS1, rS1⟩ := GI.up hu (i := k) hk
    obtain ⟨s2, eS2, rS2⟩ := GI.lo hu (i := k) hk
    refine KDraw.intro mixed (.fl 0 (.fl 1 (.fl 2 (.fl 3 (.fl 5 (.fl 6 (.fl 7 (.ch 4 [3] (.ch 8 [4, 7] (.ch 9 [8] (.ch 10 [0, 8, 9] (.ch 11 [0, 1, 2, 3, 4, 5, 6, 7, 8, 9, 10] (.done) .no) .no) .no) .no) .no)))))))) (by kernel_rfl) ?_
    simp only [kS1, bLookup, bMapSet, wantA, isCall, stepOp, evalO, evalL, evalP, evalM, putDst, flat, kA, kB, Nat.reduceLT, ↓reduceIte, kC, Nat.reduceEqDiff, aBuiltin, abinG, guardFree, abin, aInt, aUn, aNilCheck, retQ, retQ1, aresults, aresultL, aresult, mkF, undefV, reduceCtorEq, kD, kE, kF, kG, kH, kI, kJ, kK, aExtract, calleeOf, kD1, Nat.reduceBEq, HoldsAll, kL, kM, kN, kO, eS1, eS2]
    refine KGCall.intro (by simp only [kS1, bLookup, bMapSet, wantA, isCall, stepOp, evalO, evalL, evalP, evalM, putDst, flat, kA, kB, Nat.reduceLT, ↓reduceIte, kC, Nat.reduceEqDiff, aBuiltin, abinG, guardFree, abin, aInt, aUn, aNilCheck, retQ, retQ1, aresults, aresultL, aresult, mkF, undefV, reduceCtorEq, kD, kE, kF, kG, kH, kI, kJ, kK, aExtract, calleeOf] <;> rfl) ⟨Try.func29, rfl, by decide⟩ (CopyInts_any W0 s1 (r.drop k) hq (rS1.le Stays.isI lq) (by rw [List.length_drop]; omega)) ?_
    rintro cv h5 w5 ⟨gc, l5, ac⟩
    obtain ⟨jv, h6, e6, g6, w6, f6, -⟩ := GI.join gc w5 (rS2.le Stays.isI (lq.trans l5)) (by rw [List.length_drop, List.length_take]; omega)
    obtain ⟨l6, aj⟩ := f6 hq l5 ac
    have gt6 := gt.le (Stays.RL Stays.isI) l6
    have hcb : ∀ b, blk jv = some b → b ∉ bl tv := fun b hb hm => by
     obtain ⟨us, g1, _⟩ := gt
     exact GS.blk_own g1 (mem_bl.1 hm) (aj b hb)
    have gu : RL isI (rem (bl tv) h6) jv (r.drop k ++ r.take k) := GI.rl (GS.to_rem g6 hcb)
    obtain ⟨h7, pv', h8, e7, e8, gp, l7, w7, f8, k8⟩ := GRL.push (P := Try.prog) (t := 52) (Stays.RL Stays.isI) (by kernel_rfl) gt6 w6 gu gu.sl.one (by omega)
    obtain ⟨l8, a8⟩ := f8 h3 (lq.trans l6) at'
    have bs' : aBuildSlice Try.prog h6 52 1 [(0, jv)] = some (.slice (some ⟨h6.next, 0, none⟩) 1 1, h7) := by rw [mkR h6 gu.sl, e7]
    obtain ⟨tl', tt'⟩ := htn k hk
    simp only [kS1, bLookup, bMapSet, wantA, isCall, stepOp, evalO, evalL, evalP, evalM, putDst, flat, kA, kB, Nat.reduceLT, ↓reduceIte, kC, Nat.reduceEqDiff, aBuiltin, abinG, guardFree, abin, aInt, aUn, aNilCheck, retQ, retQ1, aresults, aresultL, aresult, mkF, undefV, reduceCtorEq, kD, kE, kF, kG, kH, kI, kJ, kK, aExtract, calleeOf, kD1, Nat.reduceBEq, HoldsAll, kL, kM, kN, kO, eS1, eS2, e6, bs', e8, hwi]
    exact loop_again (rs.length - (i + 1)) [(2, bv), (3, .pointer (some ⟨B, 0, none⟩)), (7, rv), (8, pv'), (23, rv), (24, .int .i64 rs.length), (25, .int .i64 (i + 1 : Nat))] (stp hlt) (by simp only [hasAll, kS1, bLookup, bMapSet, wantA, isCall, stepOp, evalO, evalL, evalP, evalM, putDst, flat, kA, kB, Nat.reduceLT, ↓reduceIte, kC, Nat.reduceEqDiff, aBuiltin, abinG, guardFree, abin, aInt, aUn, aNilCheck, retQ, retQ1, aresults, aresultL, aresult, mkF, undefV, reduceCtorEq, kD, kE, kF, kG, kH, kI, kJ, kK, aExtract, calleeOf]; simp) ⟨i + 1, _, pv', rfl, hlt, rfl, gp, l8, a8, tl', tt'⟩
   ·have d1 : decide ((i : Int) < (bs.length : Int)) = true := decide_eq_true (by omega)
    have d2 : decide (((r.length : Nat) : Int) > 0) = false := decide_eq_false (by omega)
    simp only [kS1, bLookup, bMapSet, wantA, isCall, stepOp, evalO, evalL, evalP, evalM, putDst, flat, kA, kB, Nat.reduceLT, ↓reduceIte, kC, Nat.reduceEqDiff, aBuiltin, abinG, guardFree, abin, aInt, aUn, aNilCheck, retQ, retQ1, aresults, aresultL, aresult, mkF, undefV, reduceCtorEq, kD, kE, kF, kG, kH, kI, kJ, kK, aExtract, calleeOf, ar, lu, lb, ll, d1, d2]
    obtain ⟨s1, eS1, rS1⟩ := GI.up hu (i := 0) (Nat.zero_le _)
    obtain ⟨s2, eS2, rS2⟩ := GI.lo hu (i := 0) (Nat.zero_le _)
    simp only [Int.cast_ofNat_Int] at eS1 eS2
    refine KDraw.intro mixed (.fl 0 (.fl 1 (.fl 2 (.fl 3 (.fl 5 (.fl 6 (.fl 7 (.ch 4 [3] (.ch 8 [4, 7] (.ch 9 [8] (.ch 10 [0, 8, 9] (.ch 11 [0, 1, 2, 3, 4, 5, 6, 7, 8, 9, 10] (.done) .no) .no) .no) .no) .no)))))))) (by kernel_rfl) ?_
    simp only [kS1, bLookup, bMapSet, wantA, isCall, stepOp, evalO, evalL, evalP, evalM, putDst, flat, kA, kB, Nat.reduceLT, ↓reduceIte, kC, Nat.reduceEqDiff, aBuiltin, abinG, guardFree, abin, aInt, aUn, aNilCheck, retQ, retQ1, aresults, aresultL, aresult, mkF, undefV, reduceCtorEq, kD, kE, kF, kG, kH, kI, kJ, kK, aExtract, calleeOf, kD1, Nat.reduceBEq, HoldsAll, kL, kM, kN, kO, eS1, eS2]
    refine KGCall.intro (by simp only [kS1, bLookup, bMapSet, wantA, isCall, stepOp, evalO, evalL, evalP, evalM, putDst, flat, kA, kB, Nat.reduceLT, ↓reduceIte, kC, Nat.reduceEqDiff, aBuiltin, abinG, guardFree, abin, aInt, aUn, aNilCheck, retQ, retQ1, aresults, aresultL, aresult, mkF, undefV, reduceCtorEq, kD, kE, kF, kG, kH, kI, kJ, kK, aExtract, calleeOf] <;> rfl) ⟨Try.func29, rfl, by decide⟩ (CopyInts_any W0 s1 (r.drop 0) hq (rS1.le Stays.isI lq) (by rw [List.length_drop]; omega)) ?_
    rintro cv h5 w5 ⟨gc, l5, ac⟩
    obtain ⟨jv, h6, e6, g6, w6, f6, -⟩ := GI.join gc w5 (rS2.le Stays.isI (lq.trans l5)) (by rw [List.length_drop, List.length_take]; omega)
    obtain ⟨l6, aj⟩ := f6 hq l5 ac
    have gt6 := gt.le (Stays.RL Stays.isI) l6
    have hcb : ∀ b, blk jv = some b → b ∉ bl tv := fun b hb hm => by
     obtain ⟨us, g1, _⟩ := gt
     exact GS.blk_own g1 (mem_bl.1 hm) (aj b hb)
    have gu : RL isI (rem (bl tv) h6) jv (r.drop 0 ++ r.take 0) := GI.rl (GS.to_rem g6 hcb)
    obtain ⟨h7, pv', h8, e7, e8, gp, l7, w7, f8, k8⟩ := GRL.push (P := Try.prog) (t := 52) (Stays.RL Stays.isI) (by kernel_rfl) gt6 w6 gu gu.sl.one (by omega)
    obtain ⟨l8, a8⟩ := f8 h3 (lq.trans l6) at'
    have bs' : aBuildSlice Try.prog h6 52 1 [(0, jv)] = some (.slice (some ⟨h6.next, 0, none⟩) 1 1, h7) := by rw [mkR h6 gu.sl, e7]
    obtain ⟨tl', tt'⟩ := htn 0 (Nat.zero_le _)
    simp only [kS1, bLookup, bMapSet, wantA, isCall, stepOp, evalO, evalL, evalP, evalM, putDst, flat, kA, kB, Nat.reduceLT, ↓reduceIte, kC, Nat.reduceEqDiff, aBuiltin, abinG, guardFree, abin, aInt, aUn, aNilCheck, retQ, retQ1, aresults, aresultL, aresult, mkF, undefV, reduceCtorEq, kD, kE, kF, kG, kH, kI, kJ, kK, aExtract, calleeOf, kD1, Nat.reduceBEq, HoldsAll, kL, kM, kN, kO, eS1, eS2, e6, bs', e8, hwi]
    exact loop_again (rs.length - (i + 1)) [(2, bv), (3, .pointer (some ⟨B, 0, none⟩)), (7, rv), (8, pv'), (23, rv), (24, .int .i64 rs.length), (25, .int .i64 (i + 1 : Nat))] (stp hlt) (by simp only [hasAll, kS1, bLookup, bMapSet, wantA, isCall, stepOp, evalO, evalL, evalP, evalM, putDst, flat, kA, kB, Nat.reduceLT, ↓reduceIte, kC, Nat.reduceEqDiff, aBuiltin, abinG, guardFree, abin, aInt, aUn, aNilCheck, retQ, retQ1, aresults, aresultL, aresult, mkF, undefV, reduceCtorEq, kD, kE, kF, kG, kH, kI, kJ, kK, aExtract, calleeOf]; simp) ⟨i + 1, _, pv', rfl, hlt, rfl, gp, l8, a8, tl', tt'⟩
  ·have d1 : decide ((i : Int) < (bs.length : Int)) = false := decide_eq_false (by omega)
   simp only [kS1, bLookup, bMapSet, wantA, isCall, stepOp, evalO, evalL, evalP, evalM, putDst, flat, kA, kB, Nat.reduceLT, ↓reduceIte, kC, Nat.reduceEqDiff, aBuiltin, abinG, guardFree, abin, aInt, aUn, aNilCheck, retQ, retQ1, aresults, aresultL, aresult, mkF, undefV, reduceCtorEq, kD, kE, kF, kG, kH, kI, kJ, kK, aExtract, calleeOf, ar, lu, lb, ll, d1]
   obtain ⟨s1, eS1, rS1⟩ := GI.up hu (i := 0) (Nat.zero_le _)
   obtain ⟨s2, eS2, rS2⟩ := GI.lo hu (i := 0) (Nat.zero_le _)
   simp only [Int.cast_ofNat_Int] at eS1 eS2
   refine KDraw.intro mixed (.fl 0 (.fl 1 (.fl 2 (.fl 3 (.fl 5 (.fl 6 (.fl 7 (.ch 4 [3] (.ch 8 [4, 7] (.ch 9 [8] (.ch 10 [0, 8, 9] (.ch 11 [0, 1, 2, 3, 4, 5, 6, 7, 8, 9, 10] (.done) .no) .no) .no) .no) .no)))))))) (by kernel_rfl) ?_
   simp only [kS1, bLookup, bMapSet, wantA, isCall, stepOp, evalO, evalL, evalP, evalM, putDst, flat, kA, kB, Nat.reduceLT, ↓reduceIte, kC, Nat.reduceEqDiff, aBuiltin, abinG, guardFree, abin, aInt, aUn, aNilCheck, retQ, retQ1, aresults, aresultL, aresult, mkF, undefV, reduceCtorEq, kD, kE, kF, kG, kH, kI, kJ, kK, aExtract, calleeOf, kD1, Nat.reduceBEq, HoldsAll, kL, kM, kN, kO, eS1, eS2]
   refine KGCall.intro (by simp only [kS1, bLookup, bMapSet, wantA, isCall, stepOp, evalO, evalL, evalP, evalM, putDst, flat, kA, kB, Nat.reduceLT, ↓reduceIte, kC, Nat.reduceEqDiff, aBuiltin, abinG, guardFree, abin, aInt, aUn, aNilCheck, retQ, retQ1, aresults, aresultL, aresult, mkF, undefV, reduceCtorEq, kD, kE, kF, kG, kH, kI, kJ, kK, aExtract, calleeOf] <;> rfl) ⟨Try.func29, rfl, by decide⟩ (CopyInts_any W0 s1 (r.drop 0) hq (rS1.le Stays.isI lq) (by rw [List.length_drop]; omega)) ?_
   rintro cv h5 w5 ⟨gc, l5, ac⟩
   obtain ⟨jv, h6, e6, g6, w6, f6, -⟩ := GI.join gc w5 (rS2.le Stays.isI (lq.trans l5)) (by rw [List.length_drop, List.length_take]; omega)
   obtain ⟨l6, aj⟩ := f6 hq l5 ac
   have gt6 := gt.le (Stays.RL Stays.isI) l6
   have hcb : ∀ b, blk jv = some b → b ∉ bl tv := fun b hb hm => by
    obtain ⟨us, g1, _⟩ := gt
    exact GS.blk_own g1 (mem_bl.1 hm) (aj b hb)
   have gu : RL isI (rem (bl tv) h6) jv (r.drop 0 ++ r.take 0) := GI.rl (GS.to_rem g6 hcb)
   obtain ⟨h7, pv', h8, e7, e8, gp, l7, w7, f8, k8⟩ := GRL.push (P := Try.prog) (t := 52) (Stays.RL Stays.isI) (by kernel_rfl) gt6 w6 gu gu.sl.one (by omega)
   obtain ⟨l8, a8⟩ := f8 h3 (lq.trans l6) at'
   have bs' : aBuildSlice Try.prog h6 52 1 [(0, jv)] = some (.slice (some ⟨h6.next, 0, none⟩) 1 1, h7) := by rw [mkR h6 gu.sl, e7]
   obtain ⟨tl', tt'⟩ := htn 0 (Nat.zero_le _)
   simp only [kS1, bLookup, bMapSet, wantA, isCall, stepOp, evalO, evalL, evalP, evalM, putDst, flat, kA, kB, Nat.reduceLT, ↓reduceIte, kC, Nat.reduceEqDiff, aBuiltin, abinG, guardFree, abin, aInt, aUn, aNilCheck, retQ, retQ1, aresults, aresultL, aresult, mkF, undefV, reduceCtorEq, kD, kE, kF, kG, kH, kI, kJ, kK, aExtract, calleeOf, kD1, Nat.reduceBEq, HoldsAll, kL, kM, kN, kO, eS1, eS2, e6, bs', e8, hwi]
   exact loop_again (rs.length - (i + 1)) [(2, bv), (3, .pointer (some ⟨B, 0, none⟩)), (7, rv), (8, pv'), (23, rv), (24, .int .i64 rs.length), (25, .int .i64 (i + 1 : Nat))] (stp hlt) (by simp only [hasAll, kS1, bLookup, bMapSet, wantA, isCall, stepOp, evalO, evalL, evalP, evalM, putDst, flat, kA, kB, Nat.reduceLT, ↓reduceIte, kC, Nat.reduceEqDiff, aBuiltin, abinG, guardFree, abin, aInt, aUn, aNilCheck, retQ, retQ1, aresults, aresultL, aresult, mkF, undefV, reduceCtorEq, kD, kE, kF, kG, kH, kI, kJ, kK, aExtract, calleeOf]; simp) ⟨i + 1, _, pv', rfl, hlt, rfl, gp, l8, a8, tl', tt'⟩
 have hge : rs.length ≤ i := lt_f hf
 obtain rfl : i = rs.length := by omega
 have T : Turned rs ts := ⟨tl, tt⟩
 have rt := gt.rl (Stays.RL Stays.isI)
 clear hge hf hi
 simp only [kS1, bLookup, bMapSet, wantA, isCall, stepOp, evalO, evalL, evalP, evalM, putDst, flat, kA, kB, Nat.reduceLT, ↓reduceIte, kC, Nat.reduceEqDiff, aBuiltin, abinG, guardFree, abin, aInt, aUn, aNilCheck, retQ, retQ1, aresults, aresultL, aresult, mkF, undefV, reduceCtorEq, kD, kE, kF, kG, kH, kI, kJ, kK, aExtract, calleeOf]
 refine KCall.intro (by simp only [kS1, bLookup, bMapSet, wantA, isCall, stepOp, evalO, evalL, evalP, evalM, putDst, flat, kA, kB, Nat.reduceLT, ↓reduceIte, kC, Nat.reduceEqDiff, aBuiltin, abinG, guardFree, abin, aInt, aUn, aNilCheck, retQ, retQ1, aresults, aresultL, aresult, mkF, undefV, reduceCtorEq, kD, kE, kF, kG, kH, kI, kJ, kK, aExtract, calleeOf] <;> rfl) ⟨Try.func30, rfl, by decide⟩ (Faces_any W0 rv rs hq (rr.le (Stays.RL Stays.isI) lq)) ?_
 rintro x h4 w4 ⟨l4, ⟨rfl, hno⟩ | ⟨es1, f1, -, -, rfl, hf1⟩⟩
 ·exact absurd ⟨es, by rw [G.len]; exact hr, by rw [G.len]; exact G⟩ hno
 simp only [kS1, bLookup, bMapSet, wantA, isCall, stepOp, evalO, evalL, evalP, evalM, putDst, flat, kA, kB, Nat.reduceLT, ↓reduceIte, kC, Nat.reduceEqDiff, aBuiltin, abinG, guardFree, abin, aInt, aUn, aNilCheck, retQ, retQ1, aresults, aresultL, aresult, mkF, undefV, reduceCtorEq, kD, kE, kF, kG, kH, kI, kJ, kK, aExtract, calleeOf]
 have G2 := T.rotG G
 refine KCall.intro (by simp only [kS1, bLookup, bMapSet, wantA, isCall, stepOp, evalO, evalL, evalP, evalM, putDst, flat, kA, kB, Nat.reduceLT, ↓reduceIte, kC, Nat.reduceEqDiff, aBuiltin, abinG, guardFree, abin, aInt, aUn, aNilCheck, retQ, retQ1, aresults, aresultL, aresult, mkF, undefV, reduceCtorEq, kD, kE, kF, kG, kH, kI, kJ, kK, aExtract, calleeOf] <;> rfl) ⟨Try.func30, rfl, by decide⟩ (Faces_any W0 tv ts h4 (rt.le (Stays.RL Stays.isI) l4)) ?_
 rintro x h5 w5 ⟨l5, ⟨rfl, hno⟩ | ⟨es2, f2, -, -, rfl, hf2⟩⟩
 ·exact absurd ⟨es, by rw [G2.len]; exact hr, by rw [G2.len]; exact G2⟩ hno
 rw [G.len] at hf1
 rw [G2.len, T.faces hR hA G] at hf2
 have aw0 : awrap .i64 (0 + 0) = 0 := by decide
 have d0 : decide ((0 : Int) = 0) = true := by decide
 have L5 := ((((l2.trans l3).trans lq).trans l4).trans l5)
 have A5 := lA h5 L5
 simp only [kS1, bLookup, bMapSet, wantA, isCall, stepOp, evalO, evalL, evalP, evalM, putDst, flat, kA, kB, Nat.reduceLT, ↓reduceIte, kC, Nat.reduceEqDiff, aBuiltin, abinG, guardFree, abin, aInt, aUn, aNilCheck, retQ, retQ1, aresults, aresultL, aresult, mkF, undefV, reduceCtorEq, kD, kE, kF, kG, kH, kI, kJ, kK, aExtract, calleeOf]
 refine KDraw.intro mixed (.fl 0 (.fl 1 (.fl 2 (.fl 3 (.fl 4 (.fl 5 (.fl 6 (.ch 7 [4, 5, 6] (.fl 8 (.fl 9 (.fl 10 (.fl 11 (.ch 12 [9, 10, 11] (.fl 13 (.fl 14 (.fl 15 (.fl 16 (.fl 18 (.fl 19 (.ch 17 [14, 15, 16] (.ch 20 [14, 17, 18, 19] (.fl 21 (.fl 22 (.fl 23 (.ch 24 [23] (.fl 25 (.fl 26 (.done))) .no)))) .no) .no))))))) .no))))) .no)))))))) (by kernel_rfl) ?_
 simp only [kS1, bLookup, bMapSet, wantA, isCall, stepOp, evalO, evalL, evalP, evalM, putDst, flat, kA, kB, Nat.reduceLT, ↓reduceIte, kC, Nat.reduceEqDiff, aBuiltin, abinG, guardFree, abin, aInt, aUn, aNilCheck, retQ, retQ1, aresults, aresultL, aresult, mkF, undefV, reduceCtorEq, kD, kE, kF, kG, kH, kI, kJ, kK, aExtract, calleeOf, kD1, Nat.reduceBEq, HoldsAll, kL, kM, kN, kO, aw0, d0, A5.1]
 have rt5 := rt.le (Stays.RL Stays.isI) (l4.trans l5)
 have rr5 := rr.le (Stays.RL Stays.isI) ((lq.trans l4).trans l5)
 obtain ⟨dl1, dl2⟩ := dart_len hr G
 refine KGCall.intro (by simp only [kS1, bLookup, bMapSet, wantA, isCall, stepOp, evalO, evalL, evalP, evalM, putDst, flat, kA, kB, Nat.reduceLT, ↓reduceIte, kC, Nat.reduceEqDiff, aBuiltin, abinG, guardFree, abin, aInt, aUn, aNilCheck, retQ, retQ1, aresults, aresultL, aresult, mkF, undefV, reduceCtorEq, kD, kE, kF, kG, kH, kI, kJ, kK, aExtract, calleeOf] <;> rfl) ⟨Try.func31, rfl, by decide⟩ (FRight_any W0 _ tv ⟨(n : Int), es⟩ ts h5 (hg0.le (le1.trans L5)) rt5) ?_
 rintro x h6 w6 ⟨⟨b, rfl, hb6⟩, l6⟩
 obtain rfl : b = true := hb6.2 ⟨hr, G2⟩
 simp only [kS1, bLookup, bMapSet, wantA, isCall, stepOp, evalO, evalL, evalP, evalM, putDst, flat, kA, kB, Nat.reduceLT, ↓reduceIte, kC, Nat.reduceEqDiff, aBuiltin, abinG, guardFree, abin, aInt, aUn, aNilCheck, retQ, retQ1, aresults, aresultL, aresult, mkF, undefV, reduceCtorEq, kD, kE, kF, kG, kH, kI, kJ, kK, aExtract, calleeOf, kD1, Nat.reduceBEq, HoldsAll, kL, kM, kN, kO, aw0, d0, A5.1]
 refine KGCall.intro (by simp only [kS1, bLookup, bMapSet, wantA, isCall, stepOp, evalO, evalL, evalP, evalM, putDst, flat, kA, kB, Nat.reduceLT, ↓reduceIte, kC, Nat.reduceEqDiff, aBuiltin, abinG, guardFree, abin, aInt, aUn, aNilCheck, retQ, retQ1, aresults, aresultL, aresult, mkF, undefV, reduceCtorEq, kD, kE, kF, kG, kH, kI, kJ, kK, aExtract, calleeOf] <;> rfl) ⟨Try.func32, rfl, by decide⟩ (SameLists_any W0 f1 f2 _ _ h6 (hf1.le (Stays.RL Stays.isI) (l5.trans l6)) (hf2.le (Stays.RL Stays.isI) l6) (by omega) (fun f hf => by have := dl2 f hf; omega)) ?_
 rintro x h7 w7 ⟨rfl, rfl⟩
 have dd : decide (facesM n rs = facesM n rs) = true := decide_eq_true rfl
 have A7 := lA h7 (L5.trans l6)
 simp only [kS1, bLookup, bMapSet, wantA, isCall, stepOp, evalO, evalL, evalP, evalM, putDst, flat, kA, kB, Nat.reduceLT, ↓reduceIte, kC, Nat.reduceEqDiff, aBuiltin, abinG, guardFree, abin, aInt, aUn, aNilCheck, retQ, retQ1, aresults, aresultL, aresult, mkF, undefV, reduceCtorEq, kD, kE, kF, kG, kH, kI, kJ, kK, aExtract, calleeOf, kD1, Nat.reduceBEq, HoldsAll, kL, kM, kN, kO, aw0, d0, A5.1, dd, A7.1]
 refine KGCall.intro (by simp only [kS1, bLookup, bMapSet, wantA, isCall, stepOp, evalO, evalL, evalP, evalM, putDst, flat, kA, kB, Nat.reduceLT, ↓reduceIte, kC, Nat.reduceEqDiff, aBuiltin, abinG, guardFree, abin, aInt, aUn, aNilCheck, retQ, retQ1, aresults, aresultL, aresult, mkF, undefV, reduceCtorEq, kD, kE, kF, kG, kH, kI, kJ, kK, aExtract, calleeOf] <;> rfl) ⟨Try.func33, rfl, by decide⟩ (Plane_any W0 _ rv ⟨(n : Int), es⟩ rs h7 (hg0.le (le1.trans (L5.trans l6))) (rr5.le (Stays.RL Stays.isI) l6)) ?_
 rintro x h8 w8 ⟨⟨b1', rfl, hb1⟩, l8⟩
 have A8 := lA h8 ((L5.trans l6).trans l8)
 simp only [kS1, bLookup, bMapSet, wantA, isCall, stepOp, evalO, evalL, evalP, evalM, putDst, flat, kA, kB, Nat.reduceLT, ↓reduceIte, kC, Nat.reduceEqDiff, aBuiltin, abinG, guardFree, abin, aInt, aUn, aNilCheck, retQ, retQ1, aresults, aresultL, aresult, mkF, undefV, reduceCtorEq, kD, kE, kF, kG, kH, kI, kJ, kK, aExtract, calleeOf, kD1, Nat.reduceBEq, HoldsAll, kL, kM, kN, kO, aw0, d0, A5.1, dd, A7.1, A8.1]
 refine KGCall.intro (by simp only [kS1, bLookup, bMapSet, wantA, isCall, stepOp, evalO, evalL, evalP, evalM, putDst, flat, kA, kB, Nat.reduceLT, ↓reduceIte, kC, Nat.reduceEqDiff, aBuiltin, abinG, guardFree, abin, aInt, aUn, aNilCheck, retQ, retQ1, aresults, aresultL, aresult, mkF, undefV, reduceCtorEq, kD, kE, kF, kG, kH, kI, kJ, kK, aExtract, calleeOf] <;> rfl) ⟨Try.func33, rfl, by decide⟩ (Plane_any W0 _ tv ⟨(n : Int), es⟩ ts h8 (hg0.le (le1.trans ((L5.trans l6).trans l8))) ((rt5.le (Stays.RL Stays.isI) l6).le (Stays.RL Stays.isI) l8)) ?_
 rintro x h9 w9 ⟨⟨b2', rfl, hb2⟩, l9⟩
 have hpl := T.plane hR hA G
 obtain rfl : b1' = b2' := by
  rw [Bool.eq_iff_iff, hb1, hb2]
  exact ⟨fun h => ⟨h.1, G2, hpl.2 h.2.2⟩, fun h => ⟨h.1, G, hpl.1 h.2.2⟩⟩
 clear hb1 hb2 hpl
 have bb : (b1' == b1') = true := by simp
 simp only [kS1, bLookup, bMapSet, wantA, isCall, stepOp, evalO, evalL, evalP, evalM, putDst, flat, kA, kB, Nat.reduceLT, ↓reduceIte, kC, Nat.reduceEqDiff, aBuiltin, abinG, guardFree, abin, aInt, aUn, aNilCheck, retQ, retQ1, aresults, aresultL, aresult, mkF, undefV, reduceCtorEq, kD, kE, kF, kG, kH, kI, kJ, kK, aExtract, calleeOf, kD1, Nat.reduceBEq, HoldsAll, kL, kM, kN, kO, aw0, d0, A5.1, dd, A7.1, A8.1, bb, aEq, Try.underlying4]
 refine KGCall.intro (by simp only [kS1, bLookup, bMapSet, wantA, isCall, stepOp, evalO, evalL, evalP, evalM, putDst, flat, kA, kB, Nat.reduceLT, ↓reduceIte, kC, Nat.reduceEqDiff, aBuiltin, abinG, guardFree, abin, aInt, aUn, aNilCheck, retQ, retQ1, aresults, aresultL, aresult, mkF, undefV, reduceCtorEq, kD, kE, kF, kG, kH, kI, kJ, kK, aExtract, calleeOf] <;> rfl) ⟨Try.func27, rfl, by decide⟩ (awake7_any W0 h9) ?_
 rintro x h10 w10 ⟨rfl, l10⟩
 simp only [kS1, bLookup, bMapSet, wantA, isCall, stepOp, evalO, evalL, evalP, evalM, putDst, flat, kA, kB, Nat.reduceLT, ↓reduceIte, kC, Nat.reduceEqDiff, aBuiltin, abinG, guardFree, abin, aInt, aUn, aNilCheck, retQ, retQ1, aresults, aresultL, aresult, mkF, undefV, reduceCtorEq, kD, kE, kF, kG, kH, kI, kJ, kK, aExtract, calleeOf, kD1, Nat.reduceBEq, HoldsAll, kL, kM, kN, kO, aw0, d0, A5.1, dd, A7.1, A8.1, bb, aEq, Try.underlying4]
end Go.Fw
