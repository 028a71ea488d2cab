/- A text of the proof. -/
import Derived.Test.YtnaahaldkpdjlaaFwLF7
import Derived.Test.YtnaahaldkpdjlaaFwLF2
set_option linter.unusedSimpArgs false
set_option linter.unusedVariables false
namespace Go.Fw
open Go.Proofs
attribute [local irreducible] KO4 KO3 KO2 KO1 KO KN KX KE VK KCond KDraw KCall KLoop
set_option maxHeartbeats 16000000
set_option maxRecDepth 10000
attribute [local instance] Classical.propDecidable
attribute [local irreducible] facesM edK faK heads compL partsN
theorem cnt_ok {a : Nat} (h : a ≤ 40000) : awrap .i64 ((a : Int) + 1) = (a : Int) + 1 := awrap_i64 _ (by omega) (by omega)
theorem cnt_ok2 {a : Nat} (h : a ≤ 40000) : awrap .i64 ((a : Int) + 2) = (a : Int) + 2 := awrap_i64 _ (by omega) (by omega)
theorem cnt_ok3 {a b : Nat} (h : a ≤ 40000) (g : b ≤ 40000) : awrap .i64 ((a : Int) + (b : Int)) = (a : Int) + (b : Int) := awrap_i64 _ (by omega) (by omega)
theorem pl_iff {a b c : Nat} : ((a : Int) + (b : Int) = (c : Int) + 2) ↔ a + b = c + 2 := by omega
theorem pl_pos {c : Nat} : ((c : Int) > 0) ↔ 0 < c := by omega
theorem lt_ne {j i : Nat} (h : j < i + 1) (c : ¬ j = i) : j < i := by omega
theorem rep_map (n : Nat) : List.replicate n (Value.int .i64 0) = I64 (List.replicate n 0) := by simp [I64]
theorem partsN_length (n : Nat) (es : List Pr) (k : Nat) : (partsN n es k).length = (heads k es).length := by unfold partsN; simp
theorem partsN_at (n : Nat) (es : List Pr) (k i : Nat) (h : i < (heads k es).length) : (partsN n es k)[i]'(by rw [partsN_length]; exact h) = compL n es (heads k es)[i] := by unfold partsN; simp
theorem edK_nil (n : Nat) (es es' : List Pr) : (List.replicate (heads n es').length (0 : Int)) = (heads n es').map fun a => ((edK es ([] : List Pr) a : Nat) : Int) := by
 apply List.ext_getElem <;> simp [edK, cntK]
theorem faK_nil (n : Nat) (es es' : List Pr) : (List.replicate (heads n es').length (0 : Int)) = (heads n es').map fun a => ((faK es ([] : List (List Int)) a : Nat) : Int) := by
 apply List.ext_getElem <;> simp [faK, cntK]
theorem edK_step {n : Nat} {es : List Pr} (hr : InR n es) {l : List Pr} {e : Pr} {q : Nat} (hq : q < (heads n es).length) (hc : Con es (heads n es)[q] e.1.toNat) :
  ((heads n es).map fun a => ((edK es (l ++ [e]) a : Nat) : Int)) = ((heads n es).map fun a => ((edK es l a : Nat) : Int)).set q (((edK es l (heads n es)[q] : Nat) : Int) + 1) := by
 unfold edK; exact cntK_step hq hc (heads_idx hr hq hc)
theorem faK_step {n : Nat} {es : List Pr} (hr : InR n es) {l : List (List Int)} {e : List Int} {q : Nat} (hq : q < (heads n es).length) (hc : Con es (heads n es)[q] (e.headD 0).toNat) :
  ((heads n es).map fun a => ((faK es (l ++ [e]) a : Nat) : Int)) = ((heads n es).map fun a => ((faK es l a : Nat) : Int)).set q (((faK es l (heads n es)[q] : Nat) : Int) + 1) := by
 unfold faK; exact cntK_step hq hc (heads_idx hr hq hc)
theorem edK_le (es l : List Pr) (a : Nat) : edK es l a ≤ l.length := by unfold edK; exact cntK_le _ _ _
theorem faK_le (es : List Pr) (l : List (List Int)) (a : Nat) : faK es l a ≤ l.length := by unfold faK; exact cntK_le _ _ _
theorem compL_le (n : Nat) (es : List Pr) (a : Nat) : (compL n es a).length ≤ n := by
 unfold compL; exact Nat.le_trans (List.length_filter_le _ _) (by simp)
theorem map_get {l : List Nat} {f : Nat → Int} {i : Nat} (h : i < l.length) : (l.map f)[i]? = some (f l[i]) := by simp [h]
theorem head_get {l : List Int} (h : 0 < l.length) : l[0] = l.headD 0 := by
 cases l with
 | nil => exact absurd h (Nat.lt_irrefl 0)
 | cons x l => rfl
theorem PlaneM.not {n : Nat} {es : List Pr} {rs : List (List Int)} {i : Nat} (h : i < (heads n es).length) (h1 : 0 < edK es es (heads n es)[i]) (h2 : ¬ (compL n es (heads n es)[i]).length + faK es (facesM n rs) (heads n es)[i] = edK es es (heads n es)[i] + 2) : ¬ PlaneM n es rs := fun H => h2 (H _ (List.getElem_mem h) h1)
theorem Plane_any (W0 : Base) (v rv : Value) (G : GM) (rs : List (List Int)) (h : AHeap) (hg : GR h v G) (hv : RL (RL isI) h rv rs) :
  AC Try.prog W0 33 [v, rv] h fun x h' => BoolIs (RightG G ∧ RotG G.n.toNat G.es rs ∧ PlaneM G.n.toNat G.es rs) x ∧ Le h h' := by
 have hg0 := hg
 obtain ⟨gn, es⟩ := G
 obtain ⟨ev, rfl, hp⟩ := hg.open
 refine AC.vc (fn := Try.f33) (c := _) ⟨Try.func33, rfl, by decide⟩ Try.ntmps33 Try.results33 (by simp) fun hwf => ?_
 simp only [argFrame, argFrom, Nat.reduceAdd]
 obtain ⟨h1, b1, le1, wf1, -, lA⟩ := boxG (n := gn) hwf hp
 generalize h.next = B at *
 have lA1 := lA h1 (Le.refl _)
 simp only [kS1, bLookup, bMapSet, wantA, isCall, stepOp, evalO, evalL, evalP, evalM, putDst, flat, kA, kB, Nat.reduceLT, ↓reduceIte, kC, Nat.reduceEqDiff, aBuiltin, abinG, guardFree, abin, aInt, aUn, aNilCheck, retQ, retQ1, aresults, aresultL, aresult, mkF, undefV, reduceCtorEq, kD, kE, kF, kG, kH, kI, kJ, kK, aExtract, calleeOf, b1, lA1.1]
 refine KCall.intro (by simp only [kS1, bLookup, bMapSet, wantA, isCall, stepOp, evalO, evalL, evalP, evalM, putDst, flat, kA, kB, Nat.reduceLT, ↓reduceIte, kC, Nat.reduceEqDiff, aBuiltin, abinG, guardFree, abin, aInt, aUn, aNilCheck, retQ, retQ1, aresults, aresultL, aresult, mkF, undefV, reduceCtorEq, kD, kE, kF, kG, kH, kI, kJ, kK, aExtract, calleeOf] <;> rfl) ⟨Try.func31, rfl, by decide⟩ (FRight_any W0 _ rv ⟨gn, es⟩ rs h1 (hg0.le le1) (hv.le (Stays.RL Stays.isI) le1)) ?_
 rintro x h2 w2 ⟨⟨b, rfl, hb⟩, l2⟩
 cases b
 ·simp only [kS1, bLookup, bMapSet, wantA, isCall, stepOp, evalO, evalL, evalP, evalM, putDst, flat, kA, kB, Nat.reduceLT, ↓reduceIte, kC, Nat.reduceEqDiff, aBuiltin, abinG, guardFree, abin, aInt, aUn, aNilCheck, retQ, retQ1, aresults, aresultL, aresult, mkF, undefV, reduceCtorEq, kD, kE, kF, kG, kH, kI, kJ, kK, aExtract, calleeOf]
  exact ⟨⟨false, rfl, by simp only [Bool.false_eq_true, false_iff]; exact fun hh => Bool.false_ne_true (hb.2 ⟨hh.1, hh.2.1⟩)⟩, le1.trans l2⟩
 obtain ⟨hr, G⟩ := hb.1 rfl
 have h0 : 0 ≤ gn := hr.n0
 obtain ⟨n, rfl⟩ := Int.eq_ofNat_of_zero_le h0
 simp only [Int.toNat_natCast] at G ⊢
 have hR := hr.inR
 have hA := hr.asc
 have h200 : (n : Int) ≤ 200 := hr.n1
 have h594 : es.length ≤ 594 := hr.len
 have hn200 : n ≤ 200 := by omega
 have fin : ∀ b, (b = true ↔ PlaneM n es rs) → ∀ hz, Le h hz → BoolIs (RightG ⟨(n : Int), es⟩ ∧ RotG n es rs ∧ PlaneM n es rs) (.bool b) ∧ Le h hz := fun b hb hz lz => ⟨⟨b, rfl, hb.trans ⟨fun p => ⟨hr, G, p⟩, fun p => p.2.2⟩⟩, lz⟩
 have lA2 := lA h2 l2
 simp only [kS1, bLookup, bMapSet, wantA, isCall, stepOp, evalO, evalL, evalP, evalM, putDst, flat, kA, kB, Nat.reduceLT, ↓reduceIte, kC, Nat.reduceEqDiff, aBuiltin, abinG, guardFree, abin, aInt, aUn, aNilCheck, retQ, retQ1, aresults, aresultL, aresult, mkF, undefV, reduceCtorEq, kD, kE, kF, kG, kH, kI, kJ, kK, aExtract, calleeOf]
 refine KCall.intro (by simp only [kS1, bLookup, bMapSet, wantA, isCall, stepOp, evalO, evalL, evalP, evalM, putDst, flat, kA, kB, Nat.reduceLT, ↓reduceIte, kC, Nat.reduceEqDiff, aBuiltin, abinG, guardFree, abin, aInt, aUn, aNilCheck, retQ, retQ1, aresults, aresultL, aresult, mkF, undefV, reduceCtorEq, kD, kE, kF, kG, kH, kI, kJ, kK, aExtract, calleeOf] <;> rfl) ⟨Try.func30, rfl, by decide⟩ (Faces_any W0 rv rs h2 (hv.le (Stays.RL Stays.isI) (le1.trans l2))) ?_
 rintro x h3 w3 ⟨l3, ⟨rfl, hno⟩ | ⟨es', fv, hr', G', rfl, hf⟩⟩
 ·exact absurd ⟨es, by rw [G.len]; exact hr, by rw [G.len]; exact G⟩ hno
 clear hr' G' es'
 rw [G.len] at hf
 have d0 : decide ((0 : Int) = 0) = true := by decide
 have lA3 := lA h3 (l2.trans l3)
 simp only [kS1, bLookup, bMapSet, wantA, isCall, stepOp, evalO, evalL, evalP, evalM, putDst, flat, kA, kB, Nat.reduceLT, ↓reduceIte, kC, Nat.reduceEqDiff, aBuiltin, abinG, guardFree, abin, aInt, aUn, aNilCheck, retQ, retQ1, aresults, aresultL, aresult, mkF, undefV, reduceCtorEq, kD, kE, kF, kG, kH, kI, kJ, kK, aExtract, calleeOf, bne, d0, lA3.1]
 refine KCall.intro (by simp only [kS1, bLookup, bMapSet, wantA, isCall, stepOp, evalO, evalL, evalP, evalM, putDst, flat, kA, kB, Nat.reduceLT, ↓reduceIte, kC, Nat.reduceEqDiff, aBuiltin, abinG, guardFree, abin, aInt, aUn, aNilCheck, retQ, retQ1, aresults, aresultL, aresult, mkF, undefV, reduceCtorEq, kD, kE, kF, kG, kH, kI, kJ, kK, aExtract, calleeOf] <;> rfl) ⟨Try.func17, rfl, by decide⟩ (Parts_any W0 _ ⟨(n : Int), es⟩ h3 (hg0.le ((le1.trans l2).trans l3)) hr) ?_
 rintro pv h4 w4 ⟨gp, l4, -⟩
 simp only [Int.toNat_natCast] at gp
 have rp := gp.rl (Stays.RL Stays.isI)
 have lp := fun g => rp.len (P := Try.prog) Try.underlying32 g
 have hpl : ((partsN n es n).map nat64).length = (heads n es).length := by rw [List.length_map, partsN_length]
 rw [hpl] at lp
 have hhl : (heads n es).length ≤ n := heads_length _ _
 have hf4 := hf.le (Stays.RL Stays.isI) l4
 have l14 := (l2.trans l3).trans l4
 have l04 := le1.trans l14
 have lA4 := lA h4 l14
 have mkN := fun g : AHeap => aMakeSlice1 (P := Try.prog) (t := 38) (z := .int .i64 0) g Try.underlying38 rfl rfl rfl rfl (by kernel_rfl) Try.underlying3 (by kernel_rfl) n (by omega)
 have mkH := fun g : AHeap => aMakeSlice1 (P := Try.prog) (t := 38) (z := .int .i64 0) g Try.underlying38 rfl rfl rfl rfl (by kernel_rfl) Try.underlying3 (by kernel_rfl) (heads n es).length (by omega)
 obtain ⟨h5, e5, l5, w5, o5⟩ := alloc_f w4 (List.replicate n (.int .i64 0))
 have nH : h4.own h4.next = none := (Le.refl h4).next w4 (Nat.le_refl _)
 simp only [kS1, bLookup, bMapSet, wantA, isCall, stepOp, evalO, evalL, evalP, evalM, putDst, flat, kA, kB, Nat.reduceLT, ↓reduceIte, kC, Nat.reduceEqDiff, aBuiltin, abinG, guardFree, abin, aInt, aUn, aNilCheck, retQ, retQ1, aresults, aresultL, aresult, mkF, undefV, reduceCtorEq, kD, kE, kF, kG, kH, kI, kJ, kK, aExtract, calleeOf, fg0, aadd, Nat.zero_add, lA4.2.1, mkN, e5]
 generalize h4.next = HM at *
 apply byOne2 (F := fun (fr : AFrame) (h' : AHeap) => ∃ A C D, hasAll fr [(2, .pointer (some ⟨B, 0, none⟩)), (5, fv), (7, pv), (8, .slice (some ⟨HM, 0, none⟩) n n), (9, .slice (some ⟨A, 0, none⟩) (heads n es).length (heads n es).length), (10, .slice (some ⟨C, 0, none⟩) (heads n es).length (heads n es).length), (11, .slice (some ⟨D, 0, none⟩) (heads n es).length (heads n es).length)] ∧ NewT3 h5 h' A C D (List.replicate (heads n es).length (.int .i64 0)))
 ·intro cont
  refine KDraw.intro mixed (.fl 0 (.fl 1 (.fl 3 (.fl 4 (.fl 6 (.fl 7 (.ch 2 [1] (.fl 9 (.ch 5 [4] (.fl 10 (.ch 8 [7] (.fl 11 (.done)) .no)) (.ch 8 [7] (.ch 5 [4] (.fl 10 (.fl 11 (.done))) .no) .no))) (.ch 5 [4] (.ch 2 [1] (.fl 9 (.fl 10 (.ch 8 [7] (.fl 11 (.done)) .no))) (.ch 8 [7] (.ch 2 [1] (.fl 9 (.fl 10 (.fl 11 (.done)))) .no) .no)) (.ch 8 [7] (.ch 2 [1] (.fl 9 (.ch 5 [4] (.fl 10 (.fl 11 (.done))) .no)) (.ch 5 [4] (.ch 2 [1] (.fl 9 (.fl 10 (.fl 11 (.done)))) .no) .no)) .no))))))))) (by kernel_rfl) ?_
  simp only [kJ1, bLookup, bMapSet, wantA, isCall, stepOp, evalO, evalL, evalP, evalM, putDst, flat, kA, kB, Nat.reduceLT, ↓reduceIte, kC, Nat.reduceEqDiff, aBuiltin, abinG, guardFree, abin, aInt, aUn, aNilCheck, retQ, retQ1, aresults, aresultL, aresult, mkF, undefV, reduceCtorEq, kD, kE, kF, kG, kH, kI, kJ, kK, aExtract, calleeOf, kD1, Nat.reduceBEq, HoldsAll, kL, kM, kN, kO, lp, mkH, next_alloc]
  have N := new3 w5 (List.replicate (heads n es).length (.int .i64 0))
  refine ⟨⟨?_, ?_⟩, ⟨?_, ?_⟩, ?_, ?_⟩
  all_goals
   refine KN.gen2 fun fr' h' e1 e2 => cont fr' h' ?_
   subst e1 e2
   first
    | (refine ⟨_, _, _, ?_, N⟩; simp only [hasAll, kS1, bLookup, bMapSet, wantA, isCall, stepOp, evalO, evalL, evalP, evalM, putDst, flat, kA, kB, Nat.reduceLT, ↓reduceIte, kC, Nat.reduceEqDiff, aBuiltin, abinG, guardFree, abin, aInt, aUn, aNilCheck, retQ, retQ1, aresults, aresultL, aresult, mkF, undefV, reduceCtorEq, kD, kE, kF, kG, kH, kI, kJ, kK, aExtract, calleeOf]; simp; done)
    | (refine ⟨_, _, _, ?_, N.s12⟩; simp only [hasAll, kS1, bLookup, bMapSet, wantA, isCall, stepOp, evalO, evalL, evalP, evalM, putDst, flat, kA, kB, Nat.reduceLT, ↓reduceIte, kC, Nat.reduceEqDiff, aBuiltin, abinG, guardFree, abin, aInt, aUn, aNilCheck, retQ, retQ1, aresults, aresultL, aresult, mkF, undefV, reduceCtorEq, kD, kE, kF, kG, kH, kI, kJ, kK, aExtract, calleeOf]; simp; done)
    | (refine ⟨_, _, _, ?_, N.s23⟩; simp only [hasAll, kS1, bLookup, bMapSet, wantA, isCall, stepOp, evalO, evalL, evalP, evalM, putDst, flat, kA, kB, Nat.reduceLT, ↓reduceIte, kC, Nat.reduceEqDiff, aBuiltin, abinG, guardFree, abin, aInt, aUn, aNilCheck, retQ, retQ1, aresults, aresultL, aresult, mkF, undefV, reduceCtorEq, kD, kE, kF, kG, kH, kI, kJ, kK, aExtract, calleeOf]; simp; done)
    | (refine ⟨_, _, _, ?_, N.s12.s23⟩; simp only [hasAll, kS1, bLookup, bMapSet, wantA, isCall, stepOp, evalO, evalL, evalP, evalM, putDst, flat, kA, kB, Nat.reduceLT, ↓reduceIte, kC, Nat.reduceEqDiff, aBuiltin, abinG, guardFree, abin, aInt, aUn, aNilCheck, retQ, retQ1, aresults, aresultL, aresult, mkF, undefV, reduceCtorEq, kD, kE, kF, kG, kH, kI, kJ, kK, aExtract, calleeOf]; simp; done)
    | (refine ⟨_, _, _, ?_, N.s23.s12⟩; simp only [hasAll, kS1, bLookup, bMapSet, wantA, isCall, stepOp, evalO, evalL, evalP, evalM, putDst, flat, kA, kB, Nat.reduceLT, ↓reduceIte, kC, Nat.reduceEqDiff, aBuiltin, abinG, guardFree, abin, aInt, aUn, aNilCheck, retQ, retQ1, aresults, aresultL, aresult, mkF, undefV, reduceCtorEq, kD, kE, kF, kG, kH, kI, kJ, kK, aExtract, calleeOf]; simp; done)
    | (refine ⟨_, _, _, ?_, N.s12.s23.s12⟩; simp only [hasAll, kS1, bLookup, bMapSet, wantA, isCall, stepOp, evalO, evalL, evalP, evalM, putDst, flat, kA, kB, Nat.reduceLT, ↓reduceIte, kC, Nat.reduceEqDiff, aBuiltin, abinG, guardFree, abin, aInt, aUn, aNilCheck, retQ, retQ1, aresults, aresultL, aresult, mkF, undefV, reduceCtorEq, kD, kE, kF, kG, kH, kI, kJ, kK, aExtract, calleeOf]; simp; done)
 rintro fr h6 ⟨A, C, D, hfr, N⟩
 simp only [hasAll] at hfr
 obtain ⟨f2, f5, f7, f8, f9, f10, f11, -⟩ := hfr
 simp only [kS1, bLookup, bMapSet, wantA, isCall, stepOp, evalO, evalL, evalP, evalM, putDst, flat, kA, kB, Nat.reduceLT, ↓reduceIte, kC, Nat.reduceEqDiff, aBuiltin, abinG, guardFree, abin, aInt, aUn, aNilCheck, retQ, retQ1, aresults, aresultL, aresult, mkF, undefV, reduceCtorEq, kD, kE, kF, kG, kH, kI, kJ, kK, aExtract, calleeOf, f7, lp]
 have l6 := l5.trans N.le
 have oH6 := N.le.own _ _ o5
 have oA6 := N.oA
 have oC6 := N.oB
 have oD6 := N.oC
 rw [rep_map] at oH6 oA6 oC6 oD6
 have hHA : HM ≠ A := fun e => by have := N.nA; rw [← e, o5] at this; cases this
 have hHC : HM ≠ C := fun e => by have := N.nB; rw [← e, o5] at this; cases this
 have hHD : HM ≠ D := fun e => by have := N.nC; rw [← e, o5] at this; cases this
 have hAC := N.ab
 have hAD := N.ac
 have hCD := N.bc
 have nA : h4.own A = none := l5.none N.nA
 have nC : h4.own C = none := l5.none N.nB
 have nD : h4.own D = none := l5.none N.nC
 have w6 := N.wf
 clear N o5 w5
 refine KLoop.intro (fun k fr hq => ∃ (i : Nat) (L V : List Int), k = (heads n es).length - i ∧ i ≤ (heads n es).length ∧ fr = mkF [(2, .pointer (some ⟨B, 0, none⟩)), (5, fv), (7, pv), (8, .slice (some ⟨HM, 0, none⟩) n n), (9, .slice (some ⟨A, 0, none⟩) (heads n es).length (heads n es).length), (10, .slice (some ⟨C, 0, none⟩) (heads n es).length (heads n es).length), (11, .slice (some ⟨D, 0, none⟩) (heads n es).length (heads n es).length), (46, pv), (47, .int .i64 (heads n es).length), (48, .int .i64 i)] ∧
   hq.own HM = some (.cells (I64 L)) ∧ HomeP n es i L ∧ hq.own A = some (.cells (I64 V)) ∧ V.length = (heads n es).length ∧ (∀ j (hj : j < (heads n es).length), j < i → V[j]? = some (((compL n es (heads n es)[j]).length : Nat) : Int)) ∧ hq.own C = some (.cells (I64 (List.replicate (heads n es).length 0))) ∧ hq.own D = some (.cells (I64 (List.replicate (heads n es).length 0))) ∧ Le h4 hq)
  (heads n es).length [(2, .pointer (some ⟨B, 0, none⟩)), (5, fv), (7, pv), (8, .slice (some ⟨HM, 0, none⟩) n n), (9, .slice (some ⟨A, 0, none⟩) (heads n es).length (heads n es).length), (10, .slice (some ⟨C, 0, none⟩) (heads n es).length (heads n es).length), (11, .slice (some ⟨D, 0, none⟩) (heads n es).length (heads n es).length), (46, pv), (47, .int .i64 (heads n es).length), (48, .int .i64 (0 : Nat))] (by simp only [hasAll, kS1, bLookup, bMapSet, wantA, isCall, stepOp, evalO, evalL, evalP, evalM, putDst, flat, kA, kB, Nat.reduceLT, ↓reduceIte, kC, Nat.reduceEqDiff, aBuiltin, abinG, guardFree, abin, aInt, aUn, aNilCheck, retQ, retQ1, aresults, aresultL, aresult, mkF, undefV, reduceCtorEq, kD, kE, kF, kG, kH, kI, kJ, kK, aExtract, calleeOf, f2, f5, f7, f8, f9, f10, f11]; simp)
  ⟨0, _, _, rfl, Nat.zero_le _, rfl, oH6, HomeP.zero, oA6, by simp, fun j _ h => absurd h (Nat.not_lt_zero _), oC6, oD6, l6⟩ ?_
 clear oH6 oA6 oC6 oD6 w6 f2 f5 f7 f8 f9 f10 f11 l6
 clear l5 e5
 clear h6
 rintro k fr hq hwq ⟨i, L, V, rfl, hi, rfl, oH, HP, oA, hV, hVs, oC, oD, lq⟩
 simp only [kS1, bLookup, bMapSet, wantA, isCall, stepOp, evalO, evalL, evalP, evalM, putDst, flat, kA, kB, Nat.reduceLT, ↓reduceIte, kC, Nat.reduceEqDiff, aBuiltin, abinG, guardFree, abin, aInt, aUn, aNilCheck, retQ, retQ1, aresults, aresultL, aresult, mkF, undefV, reduceCtorEq, kD, kE, kF, kG, kH, kI, kJ, kK, aExtract, calleeOf]
 refine KCond.intro (fun ht => ?_) (fun hf => ?_)
 ·have hlt : i < (heads n es).length := lt_t ht
  clear ht
  have hm : i < ((partsN n es n).map nat64).length := by rw [hpl]; exact hlt
  have adp := rp.addr (P := Try.prog) Try.underlying32 Try.underlying38 (by kernel_rfl) (k := .i64) i hm
  obtain ⟨u, ldu', hu'⟩ := rp.load' (P := Try.prog) Try.underlying38 rfl i hm
  have ldu := ldu' hq lq
  have hpj : ((partsN n es n).map nat64)[i] = nat64 (compL n es (heads n es)[i]) := by rw [List.getElem_map, partsN_at]
  rw [hpj] at hu'
  have lu := fun g => hu'.len (P := Try.prog) Try.underlying38 g
  rw [nat64_length] at lu
  have hai := List.getElem?_eq_getElem hlt
  have st := stI oA (i := i) (by rw [hV]; exact hlt) (((compL n es (heads n es)[i]).length : Nat) : Int)
  have ixA := ixI A (heads n es).length .i64 i hlt
  simp only [kS1, bLookup, bMapSet, wantA, isCall, stepOp, evalO, evalL, evalP, evalM, putDst, flat, kA, kB, Nat.reduceLT, ↓reduceIte, kC, Nat.reduceEqDiff, aBuiltin, abinG, guardFree, abin, aInt, aUn, aNilCheck, retQ, retQ1, aresults, aresultL, aresult, mkF, undefV, reduceCtorEq, kD, kE, kF, kG, kH, kI, kJ, kK, aExtract, calleeOf, adp, ldu, lu, ixA, st]
  have hwj : ∀ j, j < i + 1 → ∀ (hj : j < (heads n es).length), (V.set i (((compL n es (heads n es)[i]).length : Nat) : Int))[j]? = some (((compL n es (heads n es)[j]).length : Nat) : Int) := fun j hji hj => by
   by_cases c : i = j
   ·subst c; rw [List.getElem?_set_self (by rw [hV]; exact hlt)]
   ·rw [List.getElem?_set_ne c]; exact hVs j hj (by omega)
  have hV' : (V.set i (((compL n es (heads n es)[i]).length : Nat) : Int)).length = (heads n es).length := by rw [List.length_set]; exact hV
  generalize V.set i (((compL n es (heads n es)[i]).length : Nat) : Int) = V2 at *
  have w7 : WF (hq.put A (.cells (I64 V2))) := hwq.put _ (hwq.lt oA)
  have l7 : Le h4 (hq.put A (.cells (I64 V2))) := lq.put _ nA
  have oA7 : (hq.put A (.cells (I64 V2))).own A = some (.cells (I64 V2)) := AHeap.own_put_eq _ _ _
  have oH7 : (hq.put A (.cells (I64 V2))).own HM = some (.cells (I64 L)) := by rw [AHeap.own_put_ne _ _ _ _ hHA]; exact oH
  have oC7 : (hq.put A (.cells (I64 V2))).own C = some (.cells (I64 (List.replicate (heads n es).length 0))) := by rw [AHeap.own_put_ne _ _ _ _ hAC.symm]; exact oC
  have oD7 : (hq.put A (.cells (I64 V2))).own D = some (.cells (I64 (List.replicate (heads n es).length 0))) := by rw [AHeap.own_put_ne _ _ _ _ hAD.symm]; exact oD
  generalize hq.put A (.cells (I64 V2)) = h7 at *
  have hcm : ∀ v ∈ compL n es (heads n es)[i], v < n ∧ Con es (heads n es)[i] v := fun v hv => mem_compL.1 hv
  generalize (heads n es)[i] = a at *
  have hcl := compL_le n es a
  generalize hcp : compL n es a = cs at *
  refine KLoop.intro (fun k fr hz => ∃ (j : Nat) (L : List Int), k = cs.length - j ∧ j ≤ cs.length ∧ fr = mkF [(2, .pointer (some ⟨B, 0, none⟩)), (5, fv), (7, pv), (8, .slice (some ⟨HM, 0, none⟩) n n), (9, .slice (some ⟨A, 0, none⟩) (heads n es).length (heads n es).length), (10, .slice (some ⟨C, 0, none⟩) (heads n es).length (heads n es).length), (11, .slice (some ⟨D, 0, none⟩) (heads n es).length (heads n es).length), (12, .int .i64 i), (46, pv), (47, .int .i64 (heads n es).length), (48, .int .i64 i), (58, u), (59, .int .i64 cs.length), (60, .int .i64 j)] ∧
    hz.own HM = some (.cells (I64 L)) ∧ HomeP n es i L ∧ (∀ v ∈ cs.take j, L[v]? = some (i : Int)) ∧ hz.own A = some (.cells (I64 V2)) ∧ hz.own C = some (.cells (I64 (List.replicate (heads n es).length 0))) ∧ hz.own D = some (.cells (I64 (List.replicate (heads n es).length 0))) ∧ Le h4 hz)
   cs.length [(2, .pointer (some ⟨B, 0, none⟩)), (5, fv), (7, pv), (8, .slice (some ⟨HM, 0, none⟩) n n), (9, .slice (some ⟨A, 0, none⟩) (heads n es).length (heads n es).length), (10, .slice (some ⟨C, 0, none⟩) (heads n es).length (heads n es).length), (11, .slice (some ⟨D, 0, none⟩) (heads n es).length (heads n es).length), (12, .int .i64 i), (46, pv), (47, .int .i64 (heads n es).length), (48, .int .i64 i), (58, u), (59, .int .i64 cs.length), (60, .int .i64 (0 : Nat))] (by simp only [hasAll, kS1, bLookup, bMapSet, wantA, isCall, stepOp, evalO, evalL, evalP, evalM, putDst, flat, kA, kB, Nat.reduceLT, ↓reduceIte, kC, Nat.reduceEqDiff, aBuiltin, abinG, guardFree, abin, aInt, aUn, aNilCheck, retQ, retQ1, aresults, aresultL, aresult, mkF, undefV, reduceCtorEq, kD, kE, kF, kG, kH, kI, kJ, kK, aExtract, calleeOf]; simp)
   ⟨0, L, rfl, Nat.zero_le _, rfl, oH7, HP, fun v hv => absurd hv List.not_mem_nil, oA7, oC7, oD7, l7⟩ ?_
  clear oH7 HP oA7 oC7 oD7 l7 w7 oA oH oC oD lq hVs st hwq ldu
  clear h7 hq L
  rintro k fr hz hwz ⟨j, L, rfl, hj, rfl, oH, HP, hLs, oA, oC, oD, lz⟩
  simp only [kS1, bLookup, bMapSet, wantA, isCall, stepOp, evalO, evalL, evalP, evalM, putDst, flat, kA, kB, Nat.reduceLT, ↓reduceIte, kC, Nat.reduceEqDiff, aBuiltin, abinG, guardFree, abin, aInt, aUn, aNilCheck, retQ, retQ1, aresults, aresultL, aresult, mkF, undefV, reduceCtorEq, kD, kE, kF, kG, kH, kI, kJ, kK, aExtract, calleeOf]
  refine KCond.intro (fun ht => ?_) (fun hf => ?_)
  ·have hjt : j < cs.length := lt_t ht
   clear ht
   have hgi := nat64_get hjt
   have adj' := hu'.addr (P := Try.prog) Try.underlying38 Try.underlying3 (by kernel_rfl) (k := .i64) j (by rw [nat64_length]; exact hjt)
   have ldj := (hu'.le Stays.isI lz).loadI (P := Try.prog) Try.underlying3 rfl j (by rw [nat64_length]; exact hjt)
   rw [hgi] at ldj
   have hvm := hcm cs[j] (List.getElem_mem hjt)
   have htk : cs.take (j + 1) = cs.take j ++ [cs[j]] := List.take_succ_eq_append_getElem hjt
   generalize cs[j] = v at *
   have sth := stI oH (i := v) (by rw [HP.1]; exact hvm.1) (i : Int)
   have ixh := ixI HM n .i64 v hvm.1
   have hwj' := awrap_succ j (by omega)
   simp only [kS1, bLookup, bMapSet, wantA, isCall, stepOp, evalO, evalL, evalP, evalM, putDst, flat, kA, kB, Nat.reduceLT, ↓reduceIte, kC, Nat.reduceEqDiff, aBuiltin, abinG, guardFree, abin, aInt, aUn, aNilCheck, retQ, retQ1, aresults, aresultL, aresult, mkF, undefV, reduceCtorEq, kD, kE, kF, kG, kH, kI, kJ, kK, aExtract, calleeOf, adj', ldj, ixh, sth, hwj']
   refine loop_again (cs.length - (j + 1)) [(2, .pointer (some ⟨B, 0, none⟩)), (5, fv), (7, pv), (8, .slice (some ⟨HM, 0, none⟩) n n), (9, .slice (some ⟨A, 0, none⟩) (heads n es).length (heads n es).length), (10, .slice (some ⟨C, 0, none⟩) (heads n es).length (heads n es).length), (11, .slice (some ⟨D, 0, none⟩) (heads n es).length (heads n es).length), (12, .int .i64 i), (46, pv), (47, .int .i64 (heads n es).length), (48, .int .i64 i), (58, u), (59, .int .i64 cs.length), (60, .int .i64 (j + 1 : Nat))] (stp hjt) (by simp only [hasAll, kS1, bLookup, bMapSet, wantA, isCall, stepOp, evalO, evalL, evalP, evalM, putDst, flat, kA, kB, Nat.reduceLT, ↓reduceIte, kC, Nat.reduceEqDiff, aBuiltin, abinG, guardFree, abin, aInt, aUn, aNilCheck, retQ, retQ1, aresults, aresultL, aresult, mkF, undefV, reduceCtorEq, kD, kE, kF, kG, kH, kI, kJ, kK, aExtract, calleeOf]; simp)
    ⟨j + 1, L.set v (i : Int), rfl, hjt, rfl, AHeap.own_put_eq _ _ _, HP.put hR hai hvm.2, fun w hw => ?_, by rw [AHeap.own_put_ne _ _ _ _ hHA.symm]; exact oA, by rw [AHeap.own_put_ne _ _ _ _ hHC.symm]; exact oC, by rw [AHeap.own_put_ne _ _ _ _ hHD.symm]; exact oD, lz.put _ nH⟩
   rw [htk, List.mem_append, List.mem_singleton] at hw
   by_cases c : v = w
   ·subst c; rw [List.getElem?_set_self (by rw [HP.1]; exact hvm.1)]
   ·rw [List.getElem?_set_ne c]
    rcases hw with hw | hw
    ·exact hLs w hw
    ·exact absurd hw.symm c
  ·have hge : cs.length ≤ j := lt_f hf
   rw [List.take_of_length_le hge, ← hcp] at hLs
   have hwi := awrap_succ i (by omega)
   simp only [kS1, bLookup, bMapSet, wantA, isCall, stepOp, evalO, evalL, evalP, evalM, putDst, flat, kA, kB, Nat.reduceLT, ↓reduceIte, kC, Nat.reduceEqDiff, aBuiltin, abinG, guardFree, abin, aInt, aUn, aNilCheck, retQ, retQ1, aresults, aresultL, aresult, mkF, undefV, reduceCtorEq, kD, kE, kF, kG, kH, kI, kJ, kK, aExtract, calleeOf, hwi]
   exact loop_again ((heads n es).length - (i + 1)) [(2, .pointer (some ⟨B, 0, none⟩)), (5, fv), (7, pv), (8, .slice (some ⟨HM, 0, none⟩) n n), (9, .slice (some ⟨A, 0, none⟩) (heads n es).length (heads n es).length), (10, .slice (some ⟨C, 0, none⟩) (heads n es).length (heads n es).length), (11, .slice (some ⟨D, 0, none⟩) (heads n es).length (heads n es).length), (46, pv), (47, .int .i64 (heads n es).length), (48, .int .i64 (i + 1 : Nat))] (stp hlt) (by simp only [hasAll, kS1, bLookup, bMapSet, wantA, isCall, stepOp, evalO, evalL, evalP, evalM, putDst, flat, kA, kB, Nat.reduceLT, ↓reduceIte, kC, Nat.reduceEqDiff, aBuiltin, abinG, guardFree, abin, aInt, aUn, aNilCheck, retQ, retQ1, aresults, aresultL, aresult, mkF, undefV, reduceCtorEq, kD, kE, kF, kG, kH, kI, kJ, kK, aExtract, calleeOf]; simp)
    ⟨i + 1, L, V2, rfl, hlt, rfl, oH, HP.next hai hLs, oA, hV', fun j hj hji => hwj j hji hj, oC, oD, lz⟩
 have hge : (heads n es).length ≤ i := lt_f hf
 obtain rfl : i = (heads n es).length := by omega
 clear hge hf hi
 have lAq := lA hq (l14.trans lq)
 have le_ := fun g => hp.len g
 simp only [kS1, bLookup, bMapSet, wantA, isCall, stepOp, evalO, evalL, evalP, evalM, putDst, flat, kA, kB, Nat.reduceLT, ↓reduceIte, kC, Nat.reduceEqDiff, aBuiltin, abinG, guardFree, abin, aInt, aUn, aNilCheck, retQ, retQ1, aresults, aresultL, aresult, mkF, undefV, reduceCtorEq, kD, kE, kF, kG, kH, kI, kJ, kK, aExtract, calleeOf, fg1, aadd, Nat.zero_add, lAq.2.2, le_]
 have oC0 := oC
 rw [edK_nil n es es] at oC0
 have hrng : ∀ p ∈ es, 0 ≤ p.1 ∧ p.1 < p.2 ∧ p.2 < (n : Int) := fun p hpm => by
  obtain ⟨i, hi⟩ := List.mem_iff_getElem?.1 hpm
  exact (hr.ok i (List.getElem?_eq_some_iff.1 hi).1 p hi).1
 refine KLoop.intro (fun k fr hz => ∃ (j : Nat), k = es.length - j ∧ j ≤ es.length ∧ fr = mkF [(5, fv), (7, pv), (8, .slice (some ⟨HM, 0, none⟩) n n), (9, .slice (some ⟨A, 0, none⟩) (heads n es).length (heads n es).length), (10, .slice (some ⟨C, 0, none⟩) (heads n es).length (heads n es).length), (11, .slice (some ⟨D, 0, none⟩) (heads n es).length (heads n es).length), (71, ev), (72, .int .i64 es.length), (73, .int .i64 j)] ∧
   hz.own HM = some (.cells (I64 L)) ∧ hz.own A = some (.cells (I64 V)) ∧ hz.own C = some (.cells (I64 ((heads n es).map fun a => ((edK es (es.take j) a : Nat) : Int)))) ∧ hz.own D = some (.cells (I64 (List.replicate (heads n es).length 0))) ∧ Le h4 hz)
  es.length [(5, fv), (7, pv), (8, .slice (some ⟨HM, 0, none⟩) n n), (9, .slice (some ⟨A, 0, none⟩) (heads n es).length (heads n es).length), (10, .slice (some ⟨C, 0, none⟩) (heads n es).length (heads n es).length), (11, .slice (some ⟨D, 0, none⟩) (heads n es).length (heads n es).length), (71, ev), (72, .int .i64 es.length), (73, .int .i64 (0 : Nat))] (by simp only [hasAll, kS1, bLookup, bMapSet, wantA, isCall, stepOp, evalO, evalL, evalP, evalM, putDst, flat, kA, kB, Nat.reduceLT, ↓reduceIte, kC, Nat.reduceEqDiff, aBuiltin, abinG, guardFree, abin, aInt, aUn, aNilCheck, retQ, retQ1, aresults, aresultL, aresult, mkF, undefV, reduceCtorEq, kD, kE, kF, kG, kH, kI, kJ, kK, aExtract, calleeOf]; simp)
  ⟨0, rfl, Nat.zero_le _, rfl, oH, oA, oC0, oD, lq⟩ ?_
 clear oC0 oC oD oA oH lq lAq hwq
 clear hq
 rintro k fr hq hwq ⟨j, rfl, hj, rfl, oH, oA, oC, oD, lq⟩
 simp only [kS1, bLookup, bMapSet, wantA, isCall, stepOp, evalO, evalL, evalP, evalM, putDst, flat, kA, kB, Nat.reduceLT, ↓reduceIte, kC, Nat.reduceEqDiff, aBuiltin, abinG, guardFree, abin, aInt, aUn, aNilCheck, retQ, retQ1, aresults, aresultL, aresult, mkF, undefV, reduceCtorEq, kD, kE, kF, kG, kH, kI, kJ, kK, aExtract, calleeOf]
 refine KCond.intro (fun ht => ?_) (fun hf => ?_)
 ·have hjt : j < es.length := lt_t ht
  clear ht
  have hpm := getElem?_of hjt
  have hpr := hrng es[j] (List.getElem_mem hjt)
  have htk : es.take (j + 1) = es.take j ++ [es[j]] := List.take_succ_eq_append_getElem hjt
  generalize es[j] = p at hpm htk hpr
  have adp := hp.addr (k := .i64) j hjt
  have ldp := (hp.le (l04.trans lq)).load hpm
  obtain ⟨h7', h7, e7, e7s, l7, w7, o7⟩ := new42 hwq p
  have nE : h4.own hq.next = none := lq.none ((Le.refl hq).next hwq (Nat.le_refl _))
  generalize hq.next = E at *
  have m0 := own0 o7
  obtain ⟨x1, x2⟩ := p
  obtain ⟨v, rfl⟩ := Int.eq_ofNat_of_zero_le hpr.1
  have hvn : v < n := by have := hpr.2; simp only at this; omega
  obtain ⟨q, hq', hLq, hcq⟩ := HP.get hR hvn
  have oH7 := l7.own _ _ oH
  have oA7 := l7.own _ _ oA
  have oC7 := l7.own _ _ oC
  have oD7 := l7.own _ _ oD
  have ixh := ixI HM n .i64 v hvn
  have ldh := ldI oH7 hLq
  have ixc := ixI C (heads n es).length .i64 q hq'
  have ldc := ldI oC7 (map_get (f := fun a => ((edK es (es.take j) a : Nat) : Int)) hq')
  have hle : edK es (es.take j) (heads n es)[q] ≤ 40000 := Nat.le_trans (edK_le _ _ _) (by rw [List.length_take]; omega)
  have hw1 := cnt_ok hle
  have stc := stI oC7 (i := q) (by rw [List.length_map]; exact hq') (((edK es (es.take j) (heads n es)[q] : Nat) : Int) + 1)
  have hst := edK_step hR (l := es.take j) (e := ((v : Int), x2)) hq' (by simpa using hcq)
  rw [← htk] at hst
  rw [← hst] at stc
  have hwj := awrap_succ j (by omega)
  simp only [kS1, bLookup, bMapSet, wantA, isCall, stepOp, evalO, evalL, evalP, evalM, putDst, flat, kA, kB, Nat.reduceLT, ↓reduceIte, kC, Nat.reduceEqDiff, aBuiltin, abinG, guardFree, abin, aInt, aUn, aNilCheck, retQ, retQ1, aresults, aresultL, aresult, mkF, undefV, reduceCtorEq, kD, kE, kF, kG, kH, kI, kJ, kK, aExtract, calleeOf, adp, ldp, e7, e7s, pa0, aadd, Nat.zero_add, m0, ixh, ldh, ixc, ldc, hw1, stc, hwj]
  exact loop_again (es.length - (j + 1)) [(5, fv), (7, pv), (8, .slice (some ⟨HM, 0, none⟩) n n), (9, .slice (some ⟨A, 0, none⟩) (heads n es).length (heads n es).length), (10, .slice (some ⟨C, 0, none⟩) (heads n es).length (heads n es).length), (11, .slice (some ⟨D, 0, none⟩) (heads n es).length (heads n es).length), (71, ev), (72, .int .i64 es.length), (73, .int .i64 (j + 1 : Nat))] (stp hjt) (by simp only [hasAll, kS1, bLookup, bMapSet, wantA, isCall, stepOp, evalO, evalL, evalP, evalM, putDst, flat, kA, kB, Nat.reduceLT, ↓reduceIte, kC, Nat.reduceEqDiff, aBuiltin, abinG, guardFree, abin, aInt, aUn, aNilCheck, retQ, retQ1, aresults, aresultL, aresult, mkF, undefV, reduceCtorEq, kD, kE, kF, kG, kH, kI, kJ, kK, aExtract, calleeOf]; simp)
   ⟨j + 1, rfl, hjt, rfl, by rw [AHeap.own_put_ne _ _ _ _ hHC]; exact oH7, by rw [AHeap.own_put_ne _ _ _ _ hAC]; exact oA7, AHeap.own_put_eq _ _ _, by rw [AHeap.own_put_ne _ _ _ _ hCD.symm]; exact oD7, (lq.trans l7).put _ nC⟩
 have hge : es.length ≤ j := lt_f hf
 rw [List.take_of_length_le hge] at oC
 clear hge hf hj
 have lF := fun g => hf4.len (P := Try.prog) Try.underlying32 g
 have hFl := facesM_len (n := n) (es := es) (rs := rs) hn200
 have oD0 := oD
 rw [faK_nil n es es] at oD0
 have hfm := fun f (hf : f ∈ facesM n rs) => faces_at hR hA G hf
 simp only [kS1, bLookup, bMapSet, wantA, isCall, stepOp, evalO, evalL, evalP, evalM, putDst, flat, kA, kB, Nat.reduceLT, ↓reduceIte, kC, Nat.reduceEqDiff, aBuiltin, abinG, guardFree, abin, aInt, aUn, aNilCheck, retQ, retQ1, aresults, aresultL, aresult, mkF, undefV, reduceCtorEq, kD, kE, kF, kG, kH, kI, kJ, kK, aExtract, calleeOf, lF]
 refine KLoop.intro (fun k fr hz => ∃ (j : Nat), k = (facesM n rs).length - j ∧ j ≤ (facesM n rs).length ∧ fr = mkF [(7, pv), (8, .slice (some ⟨HM, 0, none⟩) n n), (9, .slice (some ⟨A, 0, none⟩) (heads n es).length (heads n es).length), (10, .slice (some ⟨C, 0, none⟩) (heads n es).length (heads n es).length), (11, .slice (some ⟨D, 0, none⟩) (heads n es).length (heads n es).length), (88, fv), (89, .int .i64 (facesM n rs).length), (90, .int .i64 j)] ∧
   hz.own HM = some (.cells (I64 L)) ∧ hz.own A = some (.cells (I64 V)) ∧ hz.own C = some (.cells (I64 ((heads n es).map fun a => ((edK es es a : Nat) : Int)))) ∧ hz.own D = some (.cells (I64 ((heads n es).map fun a => ((faK es ((facesM n rs).take j) a : Nat) : Int)))) ∧ Le h4 hz)
  (facesM n rs).length [(7, pv), (8, .slice (some ⟨HM, 0, none⟩) n n), (9, .slice (some ⟨A, 0, none⟩) (heads n es).length (heads n es).length), (10, .slice (some ⟨C, 0, none⟩) (heads n es).length (heads n es).length), (11, .slice (some ⟨D, 0, none⟩) (heads n es).length (heads n es).length), (88, fv), (89, .int .i64 (facesM n rs).length), (90, .int .i64 (0 : Nat))] (by simp only [hasAll, kS1, bLookup, bMapSet, wantA, isCall, stepOp, evalO, evalL, evalP, evalM, putDst, flat, kA, kB, Nat.reduceLT, ↓reduceIte, kC, Nat.reduceEqDiff, aBuiltin, abinG, guardFree, abin, aInt, aUn, aNilCheck, retQ, retQ1, aresults, aresultL, aresult, mkF, undefV, reduceCtorEq, kD, kE, kF, kG, kH, kI, kJ, kK, aExtract, calleeOf]; simp)
  ⟨0, rfl, Nat.zero_le _, rfl, oH, oA, oC, oD0, lq⟩ ?_
 clear oD0 oC oD oA oH lq hwq
 clear hq j
 rintro k fr hq hwq ⟨j, rfl, hj, rfl, oH, oA, oC, oD, lq⟩
 simp only [kS1, bLookup, bMapSet, wantA, isCall, stepOp, evalO, evalL, evalP, evalM, putDst, flat, kA, kB, Nat.reduceLT, ↓reduceIte, kC, Nat.reduceEqDiff, aBuiltin, abinG, guardFree, abin, aInt, aUn, aNilCheck, retQ, retQ1, aresults, aresultL, aresult, mkF, undefV, reduceCtorEq, kD, kE, kF, kG, kH, kI, kJ, kK, aExtract, calleeOf]
 refine KCond.intro (fun ht => ?_) (fun hf => ?_)
 ·have hjt : j < (facesM n rs).length := lt_t ht
  clear ht
  have adf := hf4.addr (P := Try.prog) Try.underlying32 Try.underlying38 (by kernel_rfl) (k := .i64) j hjt
  obtain ⟨u, ldu', hu⟩ := hf4.load' (P := Try.prog) Try.underlying38 rfl j hjt
  have ldu := ldu' hq lq
  obtain ⟨hl0, v, hvn, hv0⟩ := hfm (facesM n rs)[j] (List.getElem_mem hjt)
  have htk : (facesM n rs).take (j + 1) = (facesM n rs).take j ++ [(facesM n rs)[j]] := List.take_succ_eq_append_getElem hjt
  generalize (facesM n rs)[j] = f at *
  have ad0 := hu.addr (P := Try.prog) Try.underlying38 Try.underlying3 (by kernel_rfl) (k := .i64) 0 hl0
  have ld0 := (hu.le Stays.isI lq).loadI (P := Try.prog) Try.underlying3 rfl 0 hl0
  rw [head_get hl0, hv0] at ld0
  simp only [Int.cast_ofNat_Int] at ad0
  obtain ⟨q, hq', hLq, hcq⟩ := HP.get hR hvn
  have ixh := ixI HM n .i64 v hvn
  have ldh := ldI oH hLq
  have ixd := ixI D (heads n es).length .i64 q hq'
  have ldd := ldI oD (map_get (f := fun a => ((faK es ((facesM n rs).take j) a : Nat) : Int)) hq')
  have hle : faK es ((facesM n rs).take j) (heads n es)[q] ≤ 40000 := Nat.le_trans (faK_le _ _ _) (by rw [List.length_take]; omega)
  have hw1 := cnt_ok hle
  have std := stI oD (i := q) (by rw [List.length_map]; exact hq') (((faK es ((facesM n rs).take j) (heads n es)[q] : Nat) : Int) + 1)
  have hst := faK_step hR (l := (facesM n rs).take j) (e := f) hq' (by rw [hv0]; simpa using hcq)
  rw [← htk] at hst
  rw [← hst] at std
  have hwj := awrap_succ j (by omega)
  simp only [kS1, bLookup, bMapSet, wantA, isCall, stepOp, evalO, evalL, evalP, evalM, putDst, flat, kA, kB, Nat.reduceLT, ↓reduceIte, kC, Nat.reduceEqDiff, aBuiltin, abinG, guardFree, abin, aInt, aUn, aNilCheck, retQ, retQ1, aresults, aresultL, aresult, mkF, undefV, reduceCtorEq, kD, kE, kF, kG, kH, kI, kJ, kK, aExtract, calleeOf, adf, ldu, ad0, ld0, ixh, ldh, ixd, ldd, hw1, std, hwj]
  exact loop_again ((facesM n rs).length - (j + 1)) [(7, pv), (8, .slice (some ⟨HM, 0, none⟩) n n), (9, .slice (some ⟨A, 0, none⟩) (heads n es).length (heads n es).length), (10, .slice (some ⟨C, 0, none⟩) (heads n es).length (heads n es).length), (11, .slice (some ⟨D, 0, none⟩) (heads n es).length (heads n es).length), (88, fv), (89, .int .i64 (facesM n rs).length), (90, .int .i64 (j + 1 : Nat))] (stp hjt) (by simp only [hasAll, kS1, bLookup, bMapSet, wantA, isCall, stepOp, evalO, evalL, evalP, evalM, putDst, flat, kA, kB, Nat.reduceLT, ↓reduceIte, kC, Nat.reduceEqDiff, aBuiltin, abinG, guardFree, abin, aInt, aUn, aNilCheck, retQ, retQ1, aresults, aresultL, aresult, mkF, undefV, reduceCtorEq, kD, kE, kF, kG, kH, kI, kJ, kK, aExtract, calleeOf]; simp)
   ⟨j + 1, rfl, hjt, rfl, by rw [AHeap.own_put_ne _ _ _ _ hHD]; exact oH, by rw [AHeap.own_put_ne _ _ _ _ hAD]; exact oA, by rw [AHeap.own_put_ne _ _ _ _ hCD]; exact oC, AHeap.own_put_eq _ _ _, lq.put _ nD⟩
 have hge : (facesM n rs).length ≤ j := lt_f hf
 rw [List.take_of_length_le hge] at oD
 clear hge hf hj
 simp only [kS1, bLookup, bMapSet, wantA, isCall, stepOp, evalO, evalL, evalP, evalM, putDst, flat, kA, kB, Nat.reduceLT, ↓reduceIte, kC, Nat.reduceEqDiff, aBuiltin, abinG, guardFree, abin, aInt, aUn, aNilCheck, retQ, retQ1, aresults, aresultL, aresult, mkF, undefV, reduceCtorEq, kD, kE, kF, kG, kH, kI, kJ, kK, aExtract, calleeOf, lp]
 refine KLoop.intro (fun k fr hz => ∃ (i : Nat), k = (heads n es).length - i ∧ i ≤ (heads n es).length ∧ fr = mkF [(9, .slice (some ⟨A, 0, none⟩) (heads n es).length (heads n es).length), (10, .slice (some ⟨C, 0, none⟩) (heads n es).length (heads n es).length), (11, .slice (some ⟨D, 0, none⟩) (heads n es).length (heads n es).length), (107, .int .i64 (heads n es).length), (108, .int .i64 i)] ∧
   (∀ j (hj : j < (heads n es).length), j < i → 0 < edK es es (heads n es)[j] → (compL n es (heads n es)[j]).length + faK es (facesM n rs) (heads n es)[j] = edK es es (heads n es)[j] + 2) ∧ hz = hq)
  (heads n es).length [(9, .slice (some ⟨A, 0, none⟩) (heads n es).length (heads n es).length), (10, .slice (some ⟨C, 0, none⟩) (heads n es).length (heads n es).length), (11, .slice (some ⟨D, 0, none⟩) (heads n es).length (heads n es).length), (107, .int .i64 (heads n es).length), (108, .int .i64 (0 : Nat))] (by simp only [hasAll, kS1, bLookup, bMapSet, wantA, isCall, stepOp, evalO, evalL, evalP, evalM, putDst, flat, kA, kB, Nat.reduceLT, ↓reduceIte, kC, Nat.reduceEqDiff, aBuiltin, abinG, guardFree, abin, aInt, aUn, aNilCheck, retQ, retQ1, aresults, aresultL, aresult, mkF, undefV, reduceCtorEq, kD, kE, kF, kG, kH, kI, kJ, kK, aExtract, calleeOf]; simp)
  ⟨0, rfl, Nat.zero_le _, rfl, fun j _ h => absurd h (Nat.not_lt_zero _), rfl⟩ ?_
 rintro k fr hz - ⟨i, rfl, hi, rfl, hall, rfl⟩
 simp only [kS1, bLookup, bMapSet, wantA, isCall, stepOp, evalO, evalL, evalP, evalM, putDst, flat, kA, kB, Nat.reduceLT, ↓reduceIte, kC, Nat.reduceEqDiff, aBuiltin, abinG, guardFree, abin, aInt, aUn, aNilCheck, retQ, retQ1, aresults, aresultL, aresult, mkF, undefV, reduceCtorEq, kD, kE, kF, kG, kH, kI, kJ, kK, aExtract, calleeOf]
 refine KCond.intro (fun ht => ?_) (fun hf => ?_)
 ·have hlt : i < (heads n es).length := lt_t ht
  clear ht
  have ixa := ixI A (heads n es).length .i64 i hlt
  have ixc := ixI C (heads n es).length .i64 i hlt
  have ixd := ixI D (heads n es).length .i64 i hlt
  have lda := ldI oA (hVs i hlt hlt)
  have ldc := ldI oC (map_get (f := fun a => ((edK es es a : Nat) : Int)) hlt)
  have ldd := ldI oD (map_get (f := fun a => ((faK es (facesM n rs) a : Nat) : Int)) hlt)
  have hle : edK es es (heads n es)[i] ≤ 40000 := Nat.le_trans (edK_le _ _ _) (by omega)
  have hlf : faK es (facesM n rs) (heads n es)[i] ≤ 40000 := Nat.le_trans (faK_le _ _ _) (by omega)
  have hlc : (compL n es (heads n es)[i]).length ≤ 40000 := Nat.le_trans (compL_le _ _ _) (by omega)
  have hw1 := cnt_ok2 hle
  have hw2 := cnt_ok3 hlc hlf
  have hwi := awrap_succ i (by omega)
  by_cases c1 : 0 < edK es es (heads n es)[i]
  ·have d1 : decide (((edK es es (heads n es)[i] : Nat) : Int) > 0) = true := decide_eq_true (pl_pos.2 c1)
   by_cases c2 : (compL n es (heads n es)[i]).length + faK es (facesM n rs) (heads n es)[i] = edK es es (heads n es)[i] + 2
   ·have d2 : decide ((((compL n es (heads n es)[i]).length : Nat) : Int) + ((faK es (facesM n rs) (heads n es)[i] : Nat) : Int) = ((edK es es (heads n es)[i] : Nat) : Int) + 2) = true := decide_eq_true (pl_iff.2 c2)
    simp only [kS1, bLookup, bMapSet, wantA, isCall, stepOp, evalO, evalL, evalP, evalM, putDst, flat, kA, kB, Nat.reduceLT, ↓reduceIte, kC, Nat.reduceEqDiff, aBuiltin, abinG, guardFree, abin, aInt, aUn, aNilCheck, retQ, retQ1, aresults, aresultL, aresult, mkF, undefV, reduceCtorEq, kD, kE, kF, kG, kH, kI, kJ, kK, aExtract, calleeOf]
    refine KDraw.intro mixed (.fl 0 (.fl 1 (.fl 2 (.fl 3 (.fl 4 (.fl 5 (.fl 6 (.fl 7 (.fl 8 (.fl 9 (.fl 10 (.fl 11 (.fl 12 (.fl 13 (.fl 14 (.fl 15 (.fl 16 (.fl 17 (.fl 18 (.fl 19 (.fl 20 (.fl 21 (.done))))))))))))))))))))))) (by kernel_rfl) ?_
    simp only [kS1, bLookup, bMapSet, wantA, isCall, stepOp, evalO, evalL, evalP, evalM, putDst, flat, kA, kB, Nat.reduceLT, ↓reduceIte, kC, Nat.reduceEqDiff, aBuiltin, abinG, guardFree, abin, aInt, aUn, aNilCheck, retQ, retQ1, aresults, aresultL, aresult, mkF, undefV, reduceCtorEq, kD, kE, kF, kG, kH, kI, kJ, kK, aExtract, calleeOf, kD1, Nat.reduceBEq, HoldsAll, kL, kM, kN, kO, ixa, ixc, ixd, lda, ldc, ldd, hw1, hw2, d1, d2, bne, hwi]
    refine loop_again ((heads n es).length - (i + 1)) [(9, .slice (some ⟨A, 0, none⟩) (heads n es).length (heads n es).length), (10, .slice (some ⟨C, 0, none⟩) (heads n es).length (heads n es).length), (11, .slice (some ⟨D, 0, none⟩) (heads n es).length (heads n es).length), (107, .int .i64 (heads n es).length), (108, .int .i64 (i + 1 : Nat))] (stp hlt) (by simp only [hasAll, kS1, bLookup, bMapSet, wantA, isCall, stepOp, evalO, evalL, evalP, evalM, putDst, flat, kA, kB, Nat.reduceLT, ↓reduceIte, kC, Nat.reduceEqDiff, aBuiltin, abinG, guardFree, abin, aInt, aUn, aNilCheck, retQ, retQ1, aresults, aresultL, aresult, mkF, undefV, reduceCtorEq, kD, kE, kF, kG, kH, kI, kJ, kK, aExtract, calleeOf]; simp)
     ⟨i + 1, rfl, hlt, rfl, fun j hj hji hp => ?_, rfl⟩
    by_cases c : j = i
    ·subst c; exact c2
    ·exact hall j hj (lt_ne hji c) hp
   ·have d2 : decide ((((compL n es (heads n es)[i]).length : Nat) : Int) + ((faK es (facesM n rs) (heads n es)[i] : Nat) : Int) = ((edK es es (heads n es)[i] : Nat) : Int) + 2) = false := decide_eq_false (fun e => c2 (pl_iff.1 e))
    simp only [kS1, bLookup, bMapSet, wantA, isCall, stepOp, evalO, evalL, evalP, evalM, putDst, flat, kA, kB, Nat.reduceLT, ↓reduceIte, kC, Nat.reduceEqDiff, aBuiltin, abinG, guardFree, abin, aInt, aUn, aNilCheck, retQ, retQ1, aresults, aresultL, aresult, mkF, undefV, reduceCtorEq, kD, kE, kF, kG, kH, kI, kJ, kK, aExtract, calleeOf]
    refine KDraw.intro mixed (.fl 0 (.fl 1 (.fl 2 (.fl 3 (.fl 4 (.fl 5 (.fl 6 (.fl 7 (.fl 8 (.fl 9 (.fl 10 (.fl 11 (.fl 12 (.fl 13 (.fl 14 (.fl 15 (.fl 16 (.fl 17 (.fl 18 (.fl 19 (.fl 20 (.fl 21 (.done))))))))))))))))))))))) (by kernel_rfl) ?_
    simp only [kS1, bLookup, bMapSet, wantA, isCall, stepOp, evalO, evalL, evalP, evalM, putDst, flat, kA, kB, Nat.reduceLT, ↓reduceIte, kC, Nat.reduceEqDiff, aBuiltin, abinG, guardFree, abin, aInt, aUn, aNilCheck, retQ, retQ1, aresults, aresultL, aresult, mkF, undefV, reduceCtorEq, kD, kE, kF, kG, kH, kI, kJ, kK, aExtract, calleeOf, kD1, Nat.reduceBEq, HoldsAll, kL, kM, kN, kO, ixa, ixc, ixd, lda, ldc, ldd, hw1, hw2, d1, d2, bne]
    exact fin false ⟨(fun e => by cases e), fun e => absurd e (PlaneM.not hlt c1 c2)⟩ _ (l04.trans lq)
  ·have d1 : decide (((edK es es (heads n es)[i] : Nat) : Int) > 0) = false := decide_eq_false (fun e => c1 (pl_pos.1 e))
   simp only [kS1, bLookup, bMapSet, wantA, isCall, stepOp, evalO, evalL, evalP, evalM, putDst, flat, kA, kB, Nat.reduceLT, ↓reduceIte, kC, Nat.reduceEqDiff, aBuiltin, abinG, guardFree, abin, aInt, aUn, aNilCheck, retQ, retQ1, aresults, aresultL, aresult, mkF, undefV, reduceCtorEq, kD, kE, kF, kG, kH, kI, kJ, kK, aExtract, calleeOf]
   refine KDraw.intro mixed (.fl 0 (.fl 1 (.fl 2 (.fl 3 (.fl 4 (.fl 5 (.fl 6 (.fl 7 (.fl 8 (.fl 9 (.fl 10 (.fl 11 (.fl 12 (.fl 13 (.fl 14 (.fl 15 (.fl 16 (.fl 17 (.fl 18 (.fl 19 (.fl 20 (.fl 21 (.done))))))))))))))))))))))) (by kernel_rfl) ?_
   simp only [kS1, bLookup, bMapSet, wantA, isCall, stepOp, evalO, evalL, evalP, evalM, putDst, flat, kA, kB, Nat.reduceLT, ↓reduceIte, kC, Nat.reduceEqDiff, aBuiltin, abinG, guardFree, abin, aInt, aUn, aNilCheck, retQ, retQ1, aresults, aresultL, aresult, mkF, undefV, reduceCtorEq, kD, kE, kF, kG, kH, kI, kJ, kK, aExtract, calleeOf, kD1, Nat.reduceBEq, HoldsAll, kL, kM, kN, kO, ixa, ixc, ixd, lda, ldc, ldd, hw1, hw2, d1, bne, hwi]
   refine loop_again ((heads n es).length - (i + 1)) [(9, .slice (some ⟨A, 0, none⟩) (heads n es).length (heads n es).length), (10, .slice (some ⟨C, 0, none⟩) (heads n es).length (heads n es).length), (11, .slice (some ⟨D, 0, none⟩) (heads n es).length (heads n es).length), (107, .int .i64 (heads n es).length), (108, .int .i64 (i + 1 : Nat))] (stp hlt) (by simp only [hasAll, kS1, bLookup, bMapSet, wantA, isCall, stepOp, evalO, evalL, evalP, evalM, putDst, flat, kA, kB, Nat.reduceLT, ↓reduceIte, kC, Nat.reduceEqDiff, aBuiltin, abinG, guardFree, abin, aInt, aUn, aNilCheck, retQ, retQ1, aresults, aresultL, aresult, mkF, undefV, reduceCtorEq, kD, kE, kF, kG, kH, kI, kJ, kK, aExtract, calleeOf]; simp)
    ⟨i + 1, rfl, hlt, rfl, fun j hj hji hp => ?_, rfl⟩
   by_cases c : j = i
   ·subst c; exact absurd hp c1
   ·exact hall j hj (lt_ne hji c) hp
 have hge : (heads n es).length ≤ i := lt_f hf
 simp only [kS1, bLookup, bMapSet, wantA, isCall, stepOp, evalO, evalL, evalP, evalM, putDst, flat, kA, kB, Nat.reduceLT, ↓reduceIte, kC, Nat.reduceEqDiff, aBuiltin, abinG, guardFree, abin, aInt, aUn, aNilCheck, retQ, retQ1, aresults, aresultL, aresult, mkF, undefV, reduceCtorEq, kD, kE, kF, kG, kH, kI, kJ, kK, aExtract, calleeOf]
 refine fin true ⟨fun _ a ha hp => ?_, fun _ => rfl⟩ _ (l04.trans lq)
 obtain ⟨q, hq1⟩ := List.mem_iff_getElem?.1 ha
 obtain ⟨hq2, rfl⟩ := List.getElem?_eq_some_iff.1 hq1
 exact hall q hq2 (Nat.lt_of_lt_of_le hq2 hge) hp
end Go.Fw
