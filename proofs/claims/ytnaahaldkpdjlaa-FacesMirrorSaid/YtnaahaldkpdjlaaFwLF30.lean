/- A text of the proof. -/
import Derived.Test.YtnaahaldkpdjlaaFwLF28
import Derived.Test.YtnaahaldkpdjlaaFwLF13
set_option linter.unusedSimpArgs false
set_option linter.unusedVariables false
namespace Go.Fw
open Go.Proofs
attribute [local irreducible] KO4 KO3 KO2 KO1 KO KN KX KE VK KCond KDraw KCall KLoop
set_option maxHeartbeats 16000000
set_option maxRecDepth 10000
attribute [local instance] Classical.propDecidable
attribute [local irreducible] facesM PlaneM besM
def OfP (n : Nat) (r : Nat → List Nat) (m : List (Pr × Int)) (i : Nat) : Prop := ∀ (t : Nat) (d : Dart), t < i → (hdsF n r)[t]? = some d → ∀ e, Orb (fph r) d e → lookK m (castD e) = some (t : Int)
theorem OfP.zero (n : Nat) (r : Nat → List Nat) : OfP n r [] 0 := fun t _ h => absurd h (Nat.not_lt_zero t)
theorem OfP.put {n : Nat} {r : Nat → List Nat} (R : IsRot n r) {m : List (Pr × Int)} {i : Nat} (O : OfP n r m i) {d : Dart} (hi : (hdsF n r)[i]? = some d) (j : Nat) (v : Int) : OfP n r (setK m (castD (it (fph r) j d)) v) i := fun t e ht he x hx => by
 rw [lookK_set, if_neg]
 ·exact O t e ht he x hx
 ·intro q
  have := castD_inj q
  have := hds_uniq R hi he ⟨j, this⟩ hx
  omega
theorem OfP.next {n : Nat} {r : Nat → List Nat} (R : IsRot n r) {m : List (Pr × Int)} {i : Nat} (O : OfP n r m i) {d : Dart} (hi : (hdsF n r)[i]? = some d) (hj : ∀ s, s < ordr (fph r) d → lookK m (castD (it (fph r) s d)) = some (i : Int)) : OfP n r m (i + 1) := fun t e ht he x hx => by
 by_cases c : t = i
 ·subst c
  rw [hi] at he; injection he with he; subst he
  have hdm : d ∈ dl n r := (mem_dl R).2 ((mem_hdsF R).1 (List.mem_of_getElem? hi)).1
  obtain ⟨s, rfl⟩ := hx
  rw [it_mod (phi_pm R) hdm]
  exact hj _ (Nat.mod_lt _ (ordr_spec (phi_pm R) hdm).1)
 ·exact O t e (by omega) he x hx
theorem OfP.at {n : Nat} {r : Nat → List Nat} (R : IsRot n r) {m : List (Pr × Int)} {d : Dart} (hd : d ∈ dl n r) {i j : Nat} (hj : j < ordr (fph r) d) (hs : ∀ s, s < j → lookK m (castD (it (fph r) s d)) = some (i : Int)) (s : Nat) (h : s < j + 1) : lookK (setK m (castD (it (fph r) j d)) (i : Int)) (castD (it (fph r) s d)) = some (i : Int) := by
 rw [lookK_set]
 by_cases c : s = j
 ·subst c; exact if_pos rfl
 ·rw [if_neg fun q => it_first (phi_pm R) hd hj (show s < j by omega) (castD_inj q).symm]
  exact hs s (by omega)
theorem mir_face_len {n : Nat} {es : List Pr} {rs : List (List Int)} (hr : InR n es) (ha : Asc es) (G : RotG n es rs) {t : Nat} {d d' : Dart} (htd : (hdsF n (rotN (rs.map List.reverse)))[t]? = some d') (hd : d ∈ dl n (rotN rs)) (ho : Orb (fph (rotN (rs.map List.reverse))) d' (inv d)) (ht : t < (facesM n (rs.map List.reverse)).length) :
  ((facesM n (rs.map List.reverse))[t]).length = ordr (fph (rotN rs)) d := by
 have R := G.isRot hr ha
 have R' := G.mir.isRot hr ha
 obtain ⟨d2, h1, h2, h3, _⟩ := face_info hr ha G.mir ht
 rw [htd] at h1; injection h1 with h1; subst h1
 rw [h3, ← ordr_orb (phi_pm R') h2 ho, rotN_mir, mir_ordr R hd]
theorem Mirror_law (W0 : Base) (v ov : Value) (G : GM) (os : List Int) (h : AHeap) (hg : GR h v G) (ho : RL isH h ov os) :
  AC Try.prog W0 10 [v, ov] h fun x h' => x = .bool true ∧ True := by
 have hg0 := hg
 obtain ⟨gn, es⟩ := G
 obtain ⟨ev, rfl, hp⟩ := hg.open
 refine AC.vc (fn := Try.f10) (c := _) ⟨Try.func10, rfl, by decide⟩ Try.ntmps10 Try.results10 (by simp) fun hwf => ?_
 simp only [argFrame, argFrom, Nat.reduceAdd]
 obtain ⟨h1, b1, le1, wf1, -, lA⟩ := boxG (n := gn) hwf hp
 generalize h.next = B at *
 have lA1 := lA h1 (Le.refl _)
 simp only [kS1, bLookup, bMapSet, wantA, isCall, stepOp, evalO, evalL, evalP, evalM, putDst, flat, kA, kB, Nat.reduceLT, ↓reduceIte, kC, Nat.reduceEqDiff, aBuiltin, abinG, guardFree, abin, aInt, aUn, aNilCheck, retQ, retQ1, aresults, aresultL, aresult, mkF, undefV, reduceCtorEq, kD, kE, kF, kG, kH, kI, kJ, kK, aExtract, calleeOf, b1, lA1.1]
 refine KCall.intro (by simp only [kS1, bLookup, bMapSet, wantA, isCall, stepOp, evalO, evalL, evalP, evalM, putDst, flat, kA, kB, Nat.reduceLT, ↓reduceIte, kC, Nat.reduceEqDiff, aBuiltin, abinG, guardFree, abin, aInt, aUn, aNilCheck, retQ, retQ1, aresults, aresultL, aresult, mkF, undefV, reduceCtorEq, kD, kE, kF, kG, kH, kI, kJ, kK, aExtract, calleeOf] <;> rfl) ⟨Try.func26, rfl, by decide⟩ (right7_any W0 _ _ h1 (hg0.le le1)) ?_
 rintro x h2 w2 ⟨⟨b, rfl, hbb⟩, l2⟩
 have lA2 := lA h2 l2
 cases b with
 | false =>
  simp only [kS1, bLookup, bMapSet, wantA, isCall, stepOp, evalO, evalL, evalP, evalM, putDst, flat, kA, kB, Nat.reduceLT, ↓reduceIte, kC, Nat.reduceEqDiff, aBuiltin, abinG, guardFree, abin, aInt, aUn, aNilCheck, retQ, retQ1, aresults, aresultL, aresult, mkF, undefV, reduceCtorEq, kD, kE, kF, kG, kH, kI, kJ, kK, aExtract, calleeOf]
  refine KCall.intro (by simp only [kS1, bLookup, bMapSet, wantA, isCall, stepOp, evalO, evalL, evalP, evalM, putDst, flat, kA, kB, Nat.reduceLT, ↓reduceIte, kC, Nat.reduceEqDiff, aBuiltin, abinG, guardFree, abin, aInt, aUn, aNilCheck, retQ, retQ1, aresults, aresultL, aresult, mkF, undefV, reduceCtorEq, kD, kE, kF, kG, kH, kI, kJ, kK, aExtract, calleeOf] <;> rfl) ⟨Try.func27, rfl, by decide⟩ (awake7_any W0 h2) ?_
  rintro x h3 w3 ⟨rfl, l3⟩
  simp only [kS1, bLookup, bMapSet, wantA, isCall, stepOp, evalO, evalL, evalP, evalM, putDst, flat, kA, kB, Nat.reduceLT, ↓reduceIte, kC, Nat.reduceEqDiff, aBuiltin, abinG, guardFree, abin, aInt, aUn, aNilCheck, retQ, retQ1, aresults, aresultL, aresult, mkF, undefV, reduceCtorEq, kD, kE, kF, kG, kH, kI, kJ, kK, aExtract, calleeOf]
  all_goals exact ⟨trivial, trivial⟩
 | true =>
 obtain ⟨hr, h30⟩ := hbb.1 rfl
 clear hbb
 have h0 : 0 ≤ gn := hr.n0
 obtain ⟨n, rfl⟩ := Int.eq_ofNat_of_zero_le h0
 have hR := hr.inR
 have hA := hr.asc
 simp only [kS1, bLookup, bMapSet, wantA, isCall, stepOp, evalO, evalL, evalP, evalM, putDst, flat, kA, kB, Nat.reduceLT, ↓reduceIte, kC, Nat.reduceEqDiff, aBuiltin, abinG, guardFree, abin, aInt, aUn, aNilCheck, retQ, retQ1, aresults, aresultL, aresult, mkF, undefV, reduceCtorEq, kD, kE, kF, kG, kH, kI, kJ, kK, aExtract, calleeOf, lA2.1]
 refine KCall.intro (by simp only [kS1, bLookup, bMapSet, wantA, isCall, stepOp, evalO, evalL, evalP, evalM, putDst, flat, kA, kB, Nat.reduceLT, ↓reduceIte, kC, Nat.reduceEqDiff, aBuiltin, abinG, guardFree, abin, aInt, aUn, aNilCheck, retQ, retQ1, aresults, aresultL, aresult, mkF, undefV, reduceCtorEq, kD, kE, kF, kG, kH, kI, kJ, kK, aExtract, calleeOf] <;> rfl) ⟨Try.func28, rfl, by decide⟩ (Around_any W0 _ ov n es os h2 (hg0.le (le1.trans l2)) (ho.le Stays.isH (le1.trans l2)) hr) ?_
 rintro rv h3 w3 ⟨rs, G, rg, l3⟩
 have rr := rlG_rl rg
 have L3 := (le1.trans l2).trans l3
 have hn30 : rs.length ≤ 30 := by rw [G.len]; simp only at h30; omega
 have hsm : ∀ l ∈ rs, l.length ≤ 1000 := fun l hl => by
  obtain ⟨v, hv, rfl⟩ := List.mem_iff_getElem.1 hl
  have := row_small hR hA G (v := v) (by rw [← G.len]; exact hv)
  rw [getD_of hv] at this
  rw [← G.len] at this; omega
 simp only [kS1, bLookup, bMapSet, wantA, isCall, stepOp, evalO, evalL, evalP, evalM, putDst, flat, kA, kB, Nat.reduceLT, ↓reduceIte, kC, Nat.reduceEqDiff, aBuiltin, abinG, guardFree, abin, aInt, aUn, aNilCheck, retQ, retQ1, aresults, aresultL, aresult, mkF, undefV, reduceCtorEq, kD, kE, kF, kG, kH, kI, kJ, kK, aExtract, calleeOf]
 refine KCall.intro (by simp only [kS1, bLookup, bMapSet, wantA, isCall, stepOp, evalO, evalL, evalP, evalM, putDst, flat, kA, kB, Nat.reduceLT, ↓reduceIte, kC, Nat.reduceEqDiff, aBuiltin, abinG, guardFree, abin, aInt, aUn, aNilCheck, retQ, retQ1, aresults, aresultL, aresult, mkF, undefV, reduceCtorEq, kD, kE, kF, kG, kH, kI, kJ, kK, aExtract, calleeOf] <;> rfl) ⟨Try.func42, rfl, by decide⟩ (Mirror_any W0 rv rs h3 rr (by omega) (fun l hl => by have := hsm l hl; omega)) ?_
 rintro mv h4 w4 ⟨rm, l4⟩
 have G2 := G.mir
 simp only [kS1, bLookup, bMapSet, wantA, isCall, stepOp, evalO, evalL, evalP, evalM, putDst, flat, kA, kB, Nat.reduceLT, ↓reduceIte, kC, Nat.reduceEqDiff, aBuiltin, abinG, guardFree, abin, aInt, aUn, aNilCheck, retQ, retQ1, aresults, aresultL, aresult, mkF, undefV, reduceCtorEq, kD, kE, kF, kG, kH, kI, kJ, kK, aExtract, calleeOf]
 refine KCall.intro (by simp only [kS1, bLookup, bMapSet, wantA, isCall, stepOp, evalO, evalL, evalP, evalM, putDst, flat, kA, kB, Nat.reduceLT, ↓reduceIte, kC, Nat.reduceEqDiff, aBuiltin, abinG, guardFree, abin, aInt, aUn, aNilCheck, retQ, retQ1, aresults, aresultL, aresult, mkF, undefV, reduceCtorEq, kD, kE, kF, kG, kH, kI, kJ, kK, aExtract, calleeOf] <;> rfl) ⟨Try.func30, rfl, by decide⟩ (Faces_any W0 rv rs h4 (rr.le (Stays.RL Stays.isI) l4)) ?_
 rintro x h5 w5 ⟨l5, ⟨rfl, hno⟩ | ⟨es1, f1, -, -, rfl, hf1⟩⟩
 ·exact absurd ⟨es, by rw [G.len]; exact hr, by rw [G.len]; exact G⟩ hno
 simp only [kS1, bLookup, bMapSet, wantA, isCall, stepOp, evalO, evalL, evalP, evalM, putDst, flat, kA, kB, Nat.reduceLT, ↓reduceIte, kC, Nat.reduceEqDiff, aBuiltin, abinG, guardFree, abin, aInt, aUn, aNilCheck, retQ, retQ1, aresults, aresultL, aresult, mkF, undefV, reduceCtorEq, kD, kE, kF, kG, kH, kI, kJ, kK, aExtract, calleeOf]
 refine KCall.intro (by simp only [kS1, bLookup, bMapSet, wantA, isCall, stepOp, evalO, evalL, evalP, evalM, putDst, flat, kA, kB, Nat.reduceLT, ↓reduceIte, kC, Nat.reduceEqDiff, aBuiltin, abinG, guardFree, abin, aInt, aUn, aNilCheck, retQ, retQ1, aresults, aresultL, aresult, mkF, undefV, reduceCtorEq, kD, kE, kF, kG, kH, kI, kJ, kK, aExtract, calleeOf] <;> rfl) ⟨Try.func30, rfl, by decide⟩ (Faces_any W0 mv (rs.map List.reverse) h5 (rm.le (Stays.RL Stays.isI) l5)) ?_
 rintro x h6 w6 ⟨l6, ⟨rfl, hno⟩ | ⟨es2, f2, -, -, rfl, hf2⟩⟩
 ·exact absurd ⟨es, by rw [G2.len]; exact hr, by rw [G2.len]; exact G2⟩ hno
 rw [G.len] at hf1
 rw [G2.len] at hf2
 have aw0 : awrap .i64 (0 + 0) = 0 := by decide
 have d0 : decide ((0 : Int) = 0) = true := by decide
 have L36 := (l4.trans l5).trans l6
 have A6 := lA h6 ((l2.trans l3).trans L36)
 have rr6 := rr.le (Stays.RL Stays.isI) L36
 have rm6 := rm.le (Stays.RL Stays.isI) (l5.trans l6)
 have ln1 := fun g => hf1.len (P := Try.prog) Try.underlying32 g
 have ln2 := fun g => hf2.len (P := Try.prog) Try.underlying32 g
 have hml := mir_len hR hA G
 have hmr : (rs.map List.reverse).map List.reverse = rs := by simp [List.map_map, Function.comp_def]
 simp only [kS1, bLookup, bMapSet, wantA, isCall, stepOp, evalO, evalL, evalP, evalM, putDst, flat, kA, kB, Nat.reduceLT, ↓reduceIte, kC, Nat.reduceEqDiff, aBuiltin, abinG, guardFree, abin, aInt, aUn, aNilCheck, retQ, retQ1, aresults, aresultL, aresult, mkF, undefV, reduceCtorEq, kD, kE, kF, kG, kH, kI, kJ, kK, aExtract, calleeOf, aw0]
 refine KDraw.intro mixed (.fl 0 (.fl 1 (.fl 2 (.fl 3 (.fl 4 (.fl 5 (.fl 7 (.ch 6 [4, 5] (.ch 8 [4, 6, 7] (.fl 9 (.fl 10 (.fl 11 (.fl 12 (.fl 13 (.ch 14 [11, 12, 13] (.fl 15 (.fl 16 (.fl 17 (.fl 18 (.fl 19 (.fl 20 (.fl 21 (.fl 22 (.fl 23 (.fl 24 (.fl 25 (.fl 26 (.fl 28 (.fl 29 (.ch 27 [24, 25, 26] (.ch 30 [24, 27, 28, 29] (.fl 31 (.fl 32 (.done))) .no) .no))))))))))))))) .no)))))) .no) .no)))))))) (by kernel_rfl) ?_
 simp only [kS1, bLookup, bMapSet, wantA, isCall, stepOp, evalO, evalL, evalP, evalM, putDst, flat, kA, kB, Nat.reduceLT, ↓reduceIte, kC, Nat.reduceEqDiff, aBuiltin, abinG, guardFree, abin, aInt, aUn, aNilCheck, retQ, retQ1, aresults, aresultL, aresult, mkF, undefV, reduceCtorEq, kD, kE, kF, kG, kH, kI, kJ, kK, aExtract, calleeOf, kD1, Nat.reduceBEq, HoldsAll, kL, kM, kN, kO, aw0, bne, d0]
 refine KGCall.intro (by simp only [kS1, bLookup, bMapSet, wantA, isCall, stepOp, evalO, evalL, evalP, evalM, putDst, flat, kA, kB, Nat.reduceLT, ↓reduceIte, kC, Nat.reduceEqDiff, aBuiltin, abinG, guardFree, abin, aInt, aUn, aNilCheck, retQ, retQ1, aresults, aresultL, aresult, mkF, undefV, reduceCtorEq, kD, kE, kF, kG, kH, kI, kJ, kK, aExtract, calleeOf] <;> rfl) ⟨Try.func42, rfl, by decide⟩ (Mirror_any W0 mv (rs.map List.reverse) h6 rm6 (by rw [List.length_map]; omega) (fun l hl => by obtain ⟨l', hl', rfl⟩ := List.mem_map.1 hl; have := hsm l' hl'; rw [List.length_reverse]; omega)) ?_
 rintro m2 h7 w7 ⟨rm2, l7⟩
 rw [hmr] at rm2
 simp only [kS1, bLookup, bMapSet, wantA, isCall, stepOp, evalO, evalL, evalP, evalM, putDst, flat, kA, kB, Nat.reduceLT, ↓reduceIte, kC, Nat.reduceEqDiff, aBuiltin, abinG, guardFree, abin, aInt, aUn, aNilCheck, retQ, retQ1, aresults, aresultL, aresult, mkF, undefV, reduceCtorEq, kD, kE, kF, kG, kH, kI, kJ, kK, aExtract, calleeOf, kD1, Nat.reduceBEq, HoldsAll, kL, kM, kN, kO, aw0, bne, d0]
 refine KGCall.intro (by simp only [kS1, bLookup, bMapSet, wantA, isCall, stepOp, evalO, evalL, evalP, evalM, putDst, flat, kA, kB, Nat.reduceLT, ↓reduceIte, kC, Nat.reduceEqDiff, aBuiltin, abinG, guardFree, abin, aInt, aUn, aNilCheck, retQ, retQ1, aresults, aresultL, aresult, mkF, undefV, reduceCtorEq, kD, kE, kF, kG, kH, kI, kJ, kK, aExtract, calleeOf] <;> rfl) ⟨Try.func32, rfl, by decide⟩ (SameLists_any W0 m2 rv _ _ h7 rm2 (rr6.le (Stays.RL Stays.isI) l7) (by omega) (fun f hf => by have := hsm f hf; omega)) ?_
 rintro x h8 w8 ⟨rfl, rfl⟩
 have dd : decide (rs = rs) = true := decide_eq_true rfl
 have A8 := lA h8 (((l2.trans l3).trans L36).trans l7)
 simp only [kS1, bLookup, bMapSet, wantA, isCall, stepOp, evalO, evalL, evalP, evalM, putDst, flat, kA, kB, Nat.reduceLT, ↓reduceIte, kC, Nat.reduceEqDiff, aBuiltin, abinG, guardFree, abin, aInt, aUn, aNilCheck, retQ, retQ1, aresults, aresultL, aresult, mkF, undefV, reduceCtorEq, kD, kE, kF, kG, kH, kI, kJ, kK, aExtract, calleeOf, kD1, Nat.reduceBEq, HoldsAll, kL, kM, kN, kO, aw0, bne, d0, dd, A8.1]
 refine KGCall.intro (by simp only [kS1, bLookup, bMapSet, wantA, isCall, stepOp, evalO, evalL, evalP, evalM, putDst, flat, kA, kB, Nat.reduceLT, ↓reduceIte, kC, Nat.reduceEqDiff, aBuiltin, abinG, guardFree, abin, aInt, aUn, aNilCheck, retQ, retQ1, aresults, aresultL, aresult, mkF, undefV, reduceCtorEq, kD, kE, kF, kG, kH, kI, kJ, kK, aExtract, calleeOf] <;> rfl) ⟨Try.func31, rfl, by decide⟩ (FRight_any W0 _ mv ⟨(n : Int), es⟩ (rs.map List.reverse) h8 (hg0.le (le1.trans (((l2.trans l3).trans L36).trans l7))) (rm6.le (Stays.RL Stays.isI) l7)) ?_
 rintro x h9 w9 ⟨⟨b, rfl, hb9⟩, l9⟩
 obtain rfl : b = true := hb9.2 ⟨hr, G2⟩
 have L9 := (((l2.trans l3).trans L36).trans l7).trans l9
 have A9 := lA h9 L9
 have dl : decide ((((facesM n rs).length : Nat) : Int) = (((facesM n (rs.map List.reverse)).length : Nat) : Int)) = true := decide_eq_true (by rw [hml])
 simp only [kS1, bLookup, bMapSet, wantA, isCall, stepOp, evalO, evalL, evalP, evalM, putDst, flat, kA, kB, Nat.reduceLT, ↓reduceIte, kC, Nat.reduceEqDiff, aBuiltin, abinG, guardFree, abin, aInt, aUn, aNilCheck, retQ, retQ1, aresults, aresultL, aresult, mkF, undefV, reduceCtorEq, kD, kE, kF, kG, kH, kI, kJ, kK, aExtract, calleeOf, kD1, Nat.reduceBEq, HoldsAll, kL, kM, kN, kO, aw0, bne, d0, dd, ln1, ln2, dl, A9.1]
 have rr9 := rr6.le (Stays.RL Stays.isI) (l7.trans l9)
 refine KGCall.intro (by simp only [kS1, bLookup, bMapSet, wantA, isCall, stepOp, evalO, evalL, evalP, evalM, putDst, flat, kA, kB, Nat.reduceLT, ↓reduceIte, kC, Nat.reduceEqDiff, aBuiltin, abinG, guardFree, abin, aInt, aUn, aNilCheck, retQ, retQ1, aresults, aresultL, aresult, mkF, undefV, reduceCtorEq, kD, kE, kF, kG, kH, kI, kJ, kK, aExtract, calleeOf] <;> rfl) ⟨Try.func33, rfl, by decide⟩ (Plane_any W0 _ rv ⟨(n : Int), es⟩ rs h9 (hg0.le (le1.trans L9)) rr9) ?_
 rintro x h10 w10 ⟨⟨b1', rfl, hb1⟩, l10⟩
 have A10 := lA h10 (L9.trans l10)
 simp only [kS1, bLookup, bMapSet, wantA, isCall, stepOp, evalO, evalL, evalP, evalM, putDst, flat, kA, kB, Nat.reduceLT, ↓reduceIte, kC, Nat.reduceEqDiff, aBuiltin, abinG, guardFree, abin, aInt, aUn, aNilCheck, retQ, retQ1, aresults, aresultL, aresult, mkF, undefV, reduceCtorEq, kD, kE, kF, kG, kH, kI, kJ, kK, aExtract, calleeOf, kD1, Nat.reduceBEq, HoldsAll, kL, kM, kN, kO, aw0, bne, d0, dd, ln1, ln2, dl, A9.1, A10.1]
 refine KGCall.intro (by simp only [kS1, bLookup, bMapSet, wantA, isCall, stepOp, evalO, evalL, evalP, evalM, putDst, flat, kA, kB, Nat.reduceLT, ↓reduceIte, kC, Nat.reduceEqDiff, aBuiltin, abinG, guardFree, abin, aInt, aUn, aNilCheck, retQ, retQ1, aresults, aresultL, aresult, mkF, undefV, reduceCtorEq, kD, kE, kF, kG, kH, kI, kJ, kK, aExtract, calleeOf] <;> rfl) ⟨Try.func33, rfl, by decide⟩ (Plane_any W0 _ mv ⟨(n : Int), es⟩ (rs.map List.reverse) h10 (hg0.le (le1.trans (L9.trans l10))) (rm6.le (Stays.RL Stays.isI) ((l7.trans l9).trans l10))) ?_
 rintro x h11 w11 ⟨⟨b2', rfl, hb2⟩, l11⟩
 have hpl := mir_plane hR hA G
 obtain rfl : b1' = b2' := by
  rw [Bool.eq_iff_iff, hb1, hb2]
  exact ⟨fun h => ⟨h.1, G2, hpl.2 h.2.2⟩, fun h => ⟨h.1, G, hpl.1 h.2.2⟩⟩
 clear hb1 hb2 hpl hb9
 have bb : (b1' == b1') = true := by simp
 have A11 := lA h11 ((L9.trans l10).trans l11)
 obtain ⟨h12, e12, l12, w12, o12⟩ : ∃ h12, h11.alloc (.map []) = h12 ∧ Le h11 h12 ∧ WF h12 ∧ h12.own h11.next = some (.map []) := ⟨_, rfl, (Le.refl h11).alloc w11 _, w11.alloc _, AHeap.own_alloc_eq _ _⟩
 have nM : h11.own h11.next = none := (Le.refl h11).next w11 (Nat.le_refl _)
 have L6 := ((l7.trans l9).trans l10).trans l11
 have hk := hf2.le (Stays.RL Stays.isI) L6
 have hl := hf1.le (Stays.RL Stays.isI) (l6.trans L6)
 have R := G.isRot hR hA
 have R' := G2.isRot hR hA
 have inf2 := fun {p : Nat} (hp : p < (facesM n (rs.map List.reverse)).length) => face_info hR hA G2 hp
 have inf1 := fun {p : Nat} (hp : p < (facesM n rs).length) => face_info hR hA G hp
 have hl2 : (facesM n (rs.map List.reverse)).length = (hdsF n (rotN (rs.map List.reverse))).length := hds_len n _
 have hrm := rotN_mir rs
 obtain ⟨q1, q2⟩ := dart_len hr G
 obtain ⟨q3, q4⟩ := dart_len hr G2
 have q2' : ∀ {i : Nat} (h : i < (facesM n rs).length), ((facesM n rs)[i]).length ≤ 40000 := fun h => q2 _ (List.getElem_mem h)
 have q4' : ∀ {i : Nat} (h : i < (facesM n (rs.map List.reverse)).length), ((facesM n (rs.map List.reverse))[i]).length ≤ 40000 := fun h => q4 _ (List.getElem_mem h)
 simp only [kS1, bLookup, bMapSet, wantA, isCall, stepOp, evalO, evalL, evalP, evalM, putDst, flat, kA, kB, Nat.reduceLT, ↓reduceIte, kC, Nat.reduceEqDiff, aBuiltin, abinG, guardFree, abin, aInt, aUn, aNilCheck, retQ, retQ1, aresults, aresultL, aresult, mkF, undefV, reduceCtorEq, kD, kE, kF, kG, kH, kI, kJ, kK, aExtract, calleeOf, kD1, Nat.reduceBEq, HoldsAll, kL, kM, kN, kO, aw0, bne, d0, dd, ln1, ln2, dl, A9.1, A10.1, A11.1, bb, aEq, Try.underlying4, e12]
 generalize h11.next = MM at *
 clear dl dd ln1 A9 A10 A11 hg0 hg A6
 refine KLoop.intro (fun k fr hq => ∃ (i : Nat) (m : List (Pr × Int)), k = (facesM n (rs.map List.reverse)).length - i ∧ i ≤ (facesM n (rs.map List.reverse)).length ∧ fr = mkF [(7, f1), (9, f2), (11, .map (some MM)), (77, f2), (78, .int .i64 (facesM n (rs.map List.reverse)).length), (79, .int .i64 i)] ∧
   hq.own MM = some (.map (mapP m)) ∧ Le h11 hq ∧ OfP n (rotN (rs.map List.reverse)) m i)
  (facesM n (rs.map List.reverse)).length [(7, f1), (9, f2), (11, .map (some MM)), (77, f2), (78, .int .i64 (facesM n (rs.map List.reverse)).length), (79, .int .i64 (0 : Nat))] (by simp only [hasAll, kS1, bLookup, bMapSet, wantA, isCall, stepOp, evalO, evalL, evalP, evalM, putDst, flat, kA, kB, Nat.reduceLT, ↓reduceIte, kC, Nat.reduceEqDiff, aBuiltin, abinG, guardFree, abin, aInt, aUn, aNilCheck, retQ, retQ1, aresults, aresultL, aresult, mkF, undefV, reduceCtorEq, kD, kE, kF, kG, kH, kI, kJ, kK, aExtract, calleeOf]; simp)
  ⟨0, [], rfl, Nat.zero_le _, rfl, o12, l12, OfP.zero _ _⟩ ?_
 clear o12 l12 w12 e12
 clear h12
 rintro k fr hq hwq ⟨i, m, rfl, hi, rfl, oM, lq, O⟩
 simp only [kS1, bLookup, bMapSet, wantA, isCall, stepOp, evalO, evalL, evalP, evalM, putDst, flat, kA, kB, Nat.reduceLT, ↓reduceIte, kC, Nat.reduceEqDiff, aBuiltin, abinG, guardFree, abin, aInt, aUn, aNilCheck, retQ, retQ1, aresults, aresultL, aresult, mkF, undefV, reduceCtorEq, kD, kE, kF, kG, kH, kI, kJ, kK, aExtract, calleeOf]
 refine KCond.intro (fun ht => ?_) (fun hf => ?_)
 ·have hlt : i < (facesM n (rs.map List.reverse)).length := lt_t ht
  clear ht
  have ar := hk.addr (P := Try.prog) Try.underlying32 Try.underlying38 (by kernel_rfl) (k := .i64) i hlt
  obtain ⟨u, lu', hu⟩ := hk.load' (P := Try.prog) Try.underlying38 rfl i hlt
  have lu := lu' hq lq
  obtain ⟨d, hdi, hdm, hxl, hx2, hat⟩ := inf2 hlt
  have hx4 := q4' hlt
  generalize (facesM n (rs.map List.reverse))[i] = x at *
  have ll := fun g => hu.len (P := Try.prog) Try.underlying38 g
  have hwi := awrap_succ i (by omega)
  simp only [kS1, bLookup, bMapSet, wantA, isCall, stepOp, evalO, evalL, evalP, evalM, putDst, flat, kA, kB, Nat.reduceLT, ↓reduceIte, kC, Nat.reduceEqDiff, aBuiltin, abinG, guardFree, abin, aInt, aUn, aNilCheck, retQ, retQ1, aresults, aresultL, aresult, mkF, undefV, reduceCtorEq, kD, kE, kF, kG, kH, kI, kJ, kK, aExtract, calleeOf, ar, lu, ll]
  refine KLoop.intro (fun k fr hz => ∃ (j : Nat) (m : List (Pr × Int)), k = x.length - j ∧ j ≤ x.length ∧ fr = mkF [(7, f1), (9, f2), (11, .map (some MM)), (12, .int .i64 i), (13, u), (77, f2), (78, .int .i64 (facesM n (rs.map List.reverse)).length), (79, .int .i64 i), (84, u), (85, .int .i64 x.length), (86, .int .i64 j)] ∧
    hz.own MM = some (.map (mapP m)) ∧ Le h11 hz ∧ OfP n (rotN (rs.map List.reverse)) m i ∧ ∀ s, s < j → lookK m (castD (it (fph (rotN (rs.map List.reverse))) s d)) = some (i : Int))
   x.length [(7, f1), (9, f2), (11, .map (some MM)), (12, .int .i64 i), (13, u), (77, f2), (78, .int .i64 (facesM n (rs.map List.reverse)).length), (79, .int .i64 i), (84, u), (85, .int .i64 x.length), (86, .int .i64 (0 : Nat))] (by simp only [hasAll, kS1, bLookup, bMapSet, wantA, isCall, stepOp, evalO, evalL, evalP, evalM, putDst, flat, kA, kB, Nat.reduceLT, ↓reduceIte, kC, Nat.reduceEqDiff, aBuiltin, abinG, guardFree, abin, aInt, aUn, aNilCheck, retQ, retQ1, aresults, aresultL, aresult, mkF, undefV, reduceCtorEq, kD, kE, kF, kG, kH, kI, kJ, kK, aExtract, calleeOf]; simp)
   ⟨0, m, rfl, Nat.zero_le _, rfl, oM, lq, O, fun s hs => absurd hs (Nat.not_lt_zero s)⟩ ?_
  clear oM lq O lu
  clear m
  rintro k fr hz hwz ⟨j, m, rfl, hj, rfl, oM, lz, O, hs⟩
  simp only [kS1, bLookup, bMapSet, wantA, isCall, stepOp, evalO, evalL, evalP, evalM, putDst, flat, kA, kB, Nat.reduceLT, ↓reduceIte, kC, Nat.reduceEqDiff, aBuiltin, abinG, guardFree, abin, aInt, aUn, aNilCheck, retQ, retQ1, aresults, aresultL, aresult, mkF, undefV, reduceCtorEq, kD, kE, kF, kG, kH, kI, kJ, kK, aExtract, calleeOf]
  refine KCond.intro (fun ht => ?_) (fun hf => ?_)
  ·have hjt : j < x.length := lt_t ht
   clear ht
   have HZ := hu.le Stays.isI lz
   have ad := HZ.addr (P := Try.prog) Try.underlying38 Try.underlying3 (by kernel_rfl) (k := .i64) j hjt
   have ld := HZ.loadI (P := Try.prog) Try.underlying3 rfl j hjt
   have hmod : (j + 1) % x.length < x.length := Nat.mod_lt _ (by omega)
   have ad2 := HZ.addr (P := Try.prog) Try.underlying38 Try.underlying3 (by kernel_rfl) (k := .i64) ((j + 1) % x.length) hmod
   have ld2 := HZ.loadI (P := Try.prog) Try.underlying3 rfl ((j + 1) % x.length) hmod
   have hx0 := hat j (Nat.mod_lt _ (by omega))
   simp only [Nat.mod_eq_of_lt hjt] at hx0
   have hx1 : x[(j + 1) % x.length] = (((it (fph (rotN (rs.map List.reverse))) j d).2 : Nat) : Int) := hat (j + 1) hmod
   rw [hx0] at ld
   rw [hx1] at ld2
   have hwj := awrap_succ j (by omega)
   have tm := tm_nat (j + 1) x.length
   have dz : ((x.length : Int) = 0) = False := eq_false (by omega)
   have st := mapP_set oM (castD (it (fph (rotN (rs.map List.reverse))) j d)) (i : Int)
   have O' := OfP.put R' O hdi j (i : Int)
   simp only [castD] at st
   simp only [kS1, bLookup, bMapSet, wantA, isCall, stepOp, evalO, evalL, evalP, evalM, putDst, flat, kA, kB, Nat.reduceLT, ↓reduceIte, kC, Nat.reduceEqDiff, aBuiltin, abinG, guardFree, abin, aInt, aUn, aNilCheck, retQ, retQ1, aresults, aresultL, aresult, mkF, undefV, reduceCtorEq, kD, kE, kF, kG, kH, kI, kJ, kK, aExtract, calleeOf, ad, ld, build42, hwj, ll, tm, dz, ad2, ld2, setP_none, st]
   have hs' := OfP.at R' hdm (by rw [← hxl]; exact hjt) hs
   refine loop_again (x.length - (j + 1)) [(7, f1), (9, f2), (11, .map (some MM)), (12, .int .i64 i), (13, u), (77, f2), (78, .int .i64 (facesM n (rs.map List.reverse)).length), (79, .int .i64 i), (84, u), (85, .int .i64 x.length), (86, .int .i64 (j + 1 : Nat))] (stp hjt) (by simp only [hasAll, kS1, bLookup, bMapSet, wantA, isCall, stepOp, evalO, evalL, evalP, evalM, putDst, flat, kA, kB, Nat.reduceLT, ↓reduceIte, kC, Nat.reduceEqDiff, aBuiltin, abinG, guardFree, abin, aInt, aUn, aNilCheck, retQ, retQ1, aresults, aresultL, aresult, mkF, undefV, reduceCtorEq, kD, kE, kF, kG, kH, kI, kJ, kK, aExtract, calleeOf]; simp)
    ⟨j + 1, _, rfl, hjt, rfl, AHeap.own_put_eq _ _ _, lz.put _ nM, O', hs'⟩
  ·have hge : x.length ≤ j := lt_f hf
   obtain rfl : j = x.length := by omega
   have O' := OfP.next R' O hdi fun s h => hs s (by omega)
   simp only [kS1, bLookup, bMapSet, wantA, isCall, stepOp, evalO, evalL, evalP, evalM, putDst, flat, kA, kB, Nat.reduceLT, ↓reduceIte, kC, Nat.reduceEqDiff, aBuiltin, abinG, guardFree, abin, aInt, aUn, aNilCheck, retQ, retQ1, aresults, aresultL, aresult, mkF, undefV, reduceCtorEq, kD, kE, kF, kG, kH, kI, kJ, kK, aExtract, calleeOf, hwi]
   exact loop_again ((facesM n (rs.map List.reverse)).length - (i + 1)) [(7, f1), (9, f2), (11, .map (some MM)), (77, f2), (78, .int .i64 (facesM n (rs.map List.reverse)).length), (79, .int .i64 (i + 1 : Nat))] (stp hlt) (by simp only [hasAll, kS1, bLookup, bMapSet, wantA, isCall, stepOp, evalO, evalL, evalP, evalM, putDst, flat, kA, kB, Nat.reduceLT, ↓reduceIte, kC, Nat.reduceEqDiff, aBuiltin, abinG, guardFree, abin, aInt, aUn, aNilCheck, retQ, retQ1, aresults, aresultL, aresult, mkF, undefV, reduceCtorEq, kD, kE, kF, kG, kH, kI, kJ, kK, aExtract, calleeOf]; simp) ⟨i + 1, m, rfl, hlt, rfl, oM, lz, O'⟩
 have hge : (facesM n (rs.map List.reverse)).length ≤ i := lt_f hf
 obtain rfl : i = (facesM n (rs.map List.reverse)).length := by omega
 clear hge hf hi
 have hl' := hl.le (Stays.RL Stays.isI) lq
 have hk' := hk.le (Stays.RL Stays.isI) lq
 have ln1 := fun g => hl'.len (P := Try.prog) Try.underlying32 g
 simp only [kS1, bLookup, bMapSet, wantA, isCall, stepOp, evalO, evalL, evalP, evalM, putDst, flat, kA, kB, Nat.reduceLT, ↓reduceIte, kC, Nat.reduceEqDiff, aBuiltin, abinG, guardFree, abin, aInt, aUn, aNilCheck, retQ, retQ1, aresults, aresultL, aresult, mkF, undefV, reduceCtorEq, kD, kE, kF, kG, kH, kI, kJ, kK, aExtract, calleeOf, ln1]
 refine KLoop.intro (fun k fr hz => ∃ (i : Nat), k = (facesM n rs).length - i ∧ i ≤ (facesM n rs).length ∧ fr = mkF [(9, f2), (11, .map (some MM)), (105, f1), (106, .int .i64 (facesM n rs).length), (107, .int .i64 i)] ∧ hz = hq)
  (facesM n rs).length [(9, f2), (11, .map (some MM)), (105, f1), (106, .int .i64 (facesM n rs).length), (107, .int .i64 (0 : Nat))] (by simp only [hasAll, kS1, bLookup, bMapSet, wantA, isCall, stepOp, evalO, evalL, evalP, evalM, putDst, flat, kA, kB, Nat.reduceLT, ↓reduceIte, kC, Nat.reduceEqDiff, aBuiltin, abinG, guardFree, abin, aInt, aUn, aNilCheck, retQ, retQ1, aresults, aresultL, aresult, mkF, undefV, reduceCtorEq, kD, kE, kF, kG, kH, kI, kJ, kK, aExtract, calleeOf]; simp)
  ⟨0, rfl, Nat.zero_le _, rfl, rfl⟩ ?_
 rintro k fr hz hwz ⟨i, rfl, hi, rfl, rfl⟩
 simp only [kS1, bLookup, bMapSet, wantA, isCall, stepOp, evalO, evalL, evalP, evalM, putDst, flat, kA, kB, Nat.reduceLT, ↓reduceIte, kC, Nat.reduceEqDiff, aBuiltin, abinG, guardFree, abin, aInt, aUn, aNilCheck, retQ, retQ1, aresults, aresultL, aresult, mkF, undefV, reduceCtorEq, kD, kE, kF, kG, kH, kI, kJ, kK, aExtract, calleeOf]
 refine KCond.intro (fun ht => ?_) (fun hf => ?_)
 rotate_left
 ·simp only [kS1, bLookup, bMapSet, wantA, isCall, stepOp, evalO, evalL, evalP, evalM, putDst, flat, kA, kB, Nat.reduceLT, ↓reduceIte, kC, Nat.reduceEqDiff, aBuiltin, abinG, guardFree, abin, aInt, aUn, aNilCheck, retQ, retQ1, aresults, aresultL, aresult, mkF, undefV, reduceCtorEq, kD, kE, kF, kG, kH, kI, kJ, kK, aExtract, calleeOf]
  refine KCall.intro (by simp only [kS1, bLookup, bMapSet, wantA, isCall, stepOp, evalO, evalL, evalP, evalM, putDst, flat, kA, kB, Nat.reduceLT, ↓reduceIte, kC, Nat.reduceEqDiff, aBuiltin, abinG, guardFree, abin, aInt, aUn, aNilCheck, retQ, retQ1, aresults, aresultL, aresult, mkF, undefV, reduceCtorEq, kD, kE, kF, kG, kH, kI, kJ, kK, aExtract, calleeOf] <;> rfl) ⟨Try.func27, rfl, by decide⟩ (awake7_any W0 hz) ?_
  rintro x h3 w3 ⟨rfl, l3⟩
  simp only [kS1, bLookup, bMapSet, wantA, isCall, stepOp, evalO, evalL, evalP, evalM, putDst, flat, kA, kB, Nat.reduceLT, ↓reduceIte, kC, Nat.reduceEqDiff, aBuiltin, abinG, guardFree, abin, aInt, aUn, aNilCheck, retQ, retQ1, aresults, aresultL, aresult, mkF, undefV, reduceCtorEq, kD, kE, kF, kG, kH, kI, kJ, kK, aExtract, calleeOf]
  all_goals exact ⟨trivial, trivial⟩
 have hlt : i < (facesM n rs).length := lt_t ht
 clear ht
 have ar := hl'.addr (P := Try.prog) Try.underlying32 Try.underlying38 (by kernel_rfl) (k := .i64) i hlt
 obtain ⟨u, lu, hu⟩ := hl'.load (P := Try.prog) Try.underlying38 rfl i hlt
 obtain ⟨d, hdi, hdm, hxl, hx2, hat⟩ := inf1 hlt
 have hx4 := q2' hlt
 generalize (facesM n rs)[i] = x at *
 have ll := fun g => hu.len (P := Try.prog) Try.underlying38 g
 have hwi := awrap_succ i (by omega)
 have him : inv d ∈ dl n (rotN (rs.map List.reverse)) := by rw [hrm]; exact (dl_mir R).2 ((dl_inv R).2 hdm)
 obtain ⟨t, d', htd, hto⟩ := hds_of R' him
 have htl : t < (facesM n (rs.map List.reverse)).length := by rw [hl2]; exact (List.getElem?_eq_some_iff.1 htd).1
 have hd'm : d' ∈ dl n (rotN (rs.map List.reverse)) := (mem_dl R').2 ((mem_hdsF R').1 (List.mem_of_getElem? htd)).1
 have hkey : ∀ j, lookK m (castD (inv (it (fph (rotN rs)) j d))) = some (t : Int) := fun j => O t d' htl htd _ (hto.trans (by rw [hrm]; exact mir_orb1 R hdm ⟨j, rfl⟩))
 have hkl : ((facesM n (rs.map List.reverse))[t]).length = x.length := by
  rw [mir_face_len hR hA G htd hdm hto htl, hxl]
 have ark := hk'.addr (P := Try.prog) Try.underlying32 Try.underlying38 (by kernel_rfl) (k := .i64) t htl
 obtain ⟨y, ly, hy⟩ := hk'.load (P := Try.prog) Try.underlying38 rfl t htl
 have lly := fun g => hy.len (P := Try.prog) Try.underlying38 g
 rw [hkl] at lly
 have lkk := fun j => mapP_look oM (castD (inv (it (fph (rotN rs)) j d))) true
 simp only [hkey, Option.getD_some, Option.isSome_some, cond_true] at lkk
 have dk : ∀ j : Nat, ∀ hj : j < x.length, aIndexAddr Try.prog 38 u (.int .i64 (j : Int)) = some (.pointer (some (elemAddr u j))) ∧ aload Try.prog hz 3 (elemAddr u j) = some (.int .i64 (((it (fph (rotN rs)) j d).1 : Nat) : Int)) := fun j hj => by
  have hx0 := hat j (Nat.mod_lt _ (by omega))
  simp only [Nat.mod_eq_of_lt hj] at hx0
  have ld := hu.loadI (P := Try.prog) Try.underlying3 rfl j hj
  rw [hx0] at ld
  exact ⟨hu.addr (P := Try.prog) Try.underlying38 Try.underlying3 (by kernel_rfl) (k := .i64) j hj, ld⟩
 have dn : ∀ j : Nat, aIndexAddr Try.prog 38 u (.int .i64 (((j + 1) % x.length : Nat) : Int)) = some (.pointer (some (elemAddr u ((j + 1) % x.length)))) ∧ aload Try.prog hz 3 (elemAddr u ((j + 1) % x.length)) = some (.int .i64 (((it (fph (rotN rs)) j d).2 : Nat) : Int)) := fun j => by
  have hmod : (j + 1) % x.length < x.length := Nat.mod_lt _ (by omega)
  have ld := hu.loadI (P := Try.prog) Try.underlying3 rfl _ hmod
  rw [hat (j + 1) hmod] at ld
  exact ⟨hu.addr (P := Try.prog) Try.underlying38 Try.underlying3 (by kernel_rfl) (k := .i64) _ hmod, ld⟩
 have dz : ((x.length : Int) = 0) = False := eq_false (by omega)
 have tm1 : (1 : Int).tmod (x.length : Int) = (((0 + 1) % x.length : Nat) : Int) := tm_nat 1 x.length
 obtain ⟨k1, k2⟩ := dk 0 (by omega)
 obtain ⟨k3, k4⟩ := dn 0
 have lk0 := lkk 0
 have ek : decide (((x.length : Nat) : Int) = ((x.length : Nat) : Int)) = true := decide_eq_true rfl
 simp only [Int.cast_ofNat_Int] at k1
 simp only [castD, inv] at lk0
 simp only [kS1, bLookup, bMapSet, wantA, isCall, stepOp, evalO, evalL, evalP, evalM, putDst, flat, kA, kB, Nat.reduceLT, ↓reduceIte, kC, Nat.reduceEqDiff, aBuiltin, abinG, guardFree, abin, aInt, aUn, aNilCheck, retQ, retQ1, aresults, aresultL, aresult, mkF, undefV, reduceCtorEq, kD, kE, kF, kG, kH, kI, kJ, kK, aExtract, calleeOf, ar, lu]
 refine KDraw.intro mixed (.fl 0 (.fl 1 (.fl 2 (.fl 3 (.fl 4 (.fl 5 (.fl 6 (.fl 7 (.fl 8 (.fl 9 (.fl 10 (.ch 11 [0, 10] (.fl 12 (.fl 13 (.fl 14 (.fl 15 (.fl 16 (.done)))))) .no)))))))))))) (by kernel_rfl) ?_
 simp only [kS1, bLookup, bMapSet, wantA, isCall, stepOp, evalO, evalL, evalP, evalM, putDst, flat, kA, kB, Nat.reduceLT, ↓reduceIte, kC, Nat.reduceEqDiff, aBuiltin, abinG, guardFree, abin, aInt, aUn, aNilCheck, retQ, retQ1, aresults, aresultL, aresult, mkF, undefV, reduceCtorEq, kD, kE, kF, kG, kH, kI, kJ, kK, aExtract, calleeOf, kD1, Nat.reduceBEq, HoldsAll, kL, kM, kN, kO, ll, dz, tm1, k1, k2, k3, k4, build42, lookP_none, lk0, lly, ark, ly, ek, bne]
 have et : decide ((t : Int) = (t : Int)) = true := decide_eq_true rfl
 refine KLoop.intro (fun k fr hy => ∃ (j : Nat), k = x.length - j ∧ j ≤ x.length ∧ fr = mkF [(9, f2), (11, .map (some MM)), (17, u), (18, .int .i64 t), (105, f1), (106, .int .i64 (facesM n rs).length), (107, .int .i64 i), (138, u), (139, .int .i64 x.length), (140, .int .i64 j)] ∧ hy = hz)
  x.length [(9, f2), (11, .map (some MM)), (17, u), (18, .int .i64 t), (105, f1), (106, .int .i64 (facesM n rs).length), (107, .int .i64 i), (138, u), (139, .int .i64 x.length), (140, .int .i64 (0 : Nat))] (by simp only [hasAll, kS1, bLookup, bMapSet, wantA, isCall, stepOp, evalO, evalL, evalP, evalM, putDst, flat, kA, kB, Nat.reduceLT, ↓reduceIte, kC, Nat.reduceEqDiff, aBuiltin, abinG, guardFree, abin, aInt, aUn, aNilCheck, retQ, retQ1, aresults, aresultL, aresult, mkF, undefV, reduceCtorEq, kD, kE, kF, kG, kH, kI, kJ, kK, aExtract, calleeOf]; simp) ⟨0, rfl, Nat.zero_le _, rfl, rfl⟩ ?_
 rintro k fr hy hwy ⟨j, rfl, hj, rfl, rfl⟩
 simp only [kS1, bLookup, bMapSet, wantA, isCall, stepOp, evalO, evalL, evalP, evalM, putDst, flat, kA, kB, Nat.reduceLT, ↓reduceIte, kC, Nat.reduceEqDiff, aBuiltin, abinG, guardFree, abin, aInt, aUn, aNilCheck, retQ, retQ1, aresults, aresultL, aresult, mkF, undefV, reduceCtorEq, kD, kE, kF, kG, kH, kI, kJ, kK, aExtract, calleeOf]
 refine KCond.intro (fun ht => ?_) (fun hf => ?_)
 ·have hjt : j < x.length := lt_t ht
  clear ht
  obtain ⟨k5, k6⟩ := dk j hjt
  obtain ⟨k7, k8⟩ := dn j
  have lkj := lkk j
  simp only [castD, inv] at lkj
  have hwj := awrap_succ j (by omega)
  have tm := tm_nat (j + 1) x.length
  simp only [kS1, bLookup, bMapSet, wantA, isCall, stepOp, evalO, evalL, evalP, evalM, putDst, flat, kA, kB, Nat.reduceLT, ↓reduceIte, kC, Nat.reduceEqDiff, aBuiltin, abinG, guardFree, abin, aInt, aUn, aNilCheck, retQ, retQ1, aresults, aresultL, aresult, mkF, undefV, reduceCtorEq, kD, kE, kF, kG, kH, kI, kJ, kK, aExtract, calleeOf, ll, dz, k5, k6, hwj, tm, k7, k8, build42, lookP_none, lkj, et, bne]
  exact loop_again (x.length - (j + 1)) [(9, f2), (11, .map (some MM)), (17, u), (18, .int .i64 t), (105, f1), (106, .int .i64 (facesM n rs).length), (107, .int .i64 i), (138, u), (139, .int .i64 x.length), (140, .int .i64 (j + 1 : Nat))] (stp hjt) (by simp only [hasAll, kS1, bLookup, bMapSet, wantA, isCall, stepOp, evalO, evalL, evalP, evalM, putDst, flat, kA, kB, Nat.reduceLT, ↓reduceIte, kC, Nat.reduceEqDiff, aBuiltin, abinG, guardFree, abin, aInt, aUn, aNilCheck, retQ, retQ1, aresults, aresultL, aresult, mkF, undefV, reduceCtorEq, kD, kE, kF, kG, kH, kI, kJ, kK, aExtract, calleeOf]; simp) ⟨j + 1, rfl, hjt, rfl, rfl⟩
 ·simp only [kS1, bLookup, bMapSet, wantA, isCall, stepOp, evalO, evalL, evalP, evalM, putDst, flat, kA, kB, Nat.reduceLT, ↓reduceIte, kC, Nat.reduceEqDiff, aBuiltin, abinG, guardFree, abin, aInt, aUn, aNilCheck, retQ, retQ1, aresults, aresultL, aresult, mkF, undefV, reduceCtorEq, kD, kE, kF, kG, kH, kI, kJ, kK, aExtract, calleeOf, hwi]
  exact loop_again ((facesM n rs).length - (i + 1)) [(9, f2), (11, .map (some MM)), (105, f1), (106, .int .i64 (facesM n rs).length), (107, .int .i64 (i + 1 : Nat))] (stp hlt) (by simp only [hasAll, kS1, bLookup, bMapSet, wantA, isCall, stepOp, evalO, evalL, evalP, evalM, putDst, flat, kA, kB, Nat.reduceLT, ↓reduceIte, kC, Nat.reduceEqDiff, aBuiltin, abinG, guardFree, abin, aInt, aUn, aNilCheck, retQ, retQ1, aresults, aresultL, aresult, mkF, undefV, reduceCtorEq, kD, kE, kF, kG, kH, kI, kJ, kK, aExtract, calleeOf]; simp) ⟨i + 1, rfl, hlt, rfl, rfl⟩
end Go.Fw
