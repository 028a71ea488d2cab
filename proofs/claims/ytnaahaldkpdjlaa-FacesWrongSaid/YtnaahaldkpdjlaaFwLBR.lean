/- A text of the proof. -/
import Derived.Test.YtnaahaldkpdjlaaFwLB2
import Derived.Test.YtnaahaldkpdjlaaFwRep2
import Derived.Deep.Strs
import Derived.Test.YtnaahaldkpdjlaaRows
import Derived.Test.YtnaahaldkpdjlaaFwLB7
set_option linter.unusedSimpArgs false
set_option linter.unusedVariables false
namespace Go.Fw
open Go.Proofs Go.ChangeShapes Go.WideShapes Go.RowKit Go.ChangeAt
open Go.Proofs.Ytnaahaldkpdjlaa
set_option maxRecDepth 100000
section
variable {H : Type} {enc : TypeId × Value → H} {W : World}
theorem pairs_flat : ∀ (n : Nat) (C : List Value), C.length = n * 2 → (∀ i, i < n → ∃ a b, (C.drop (i * 2)).take 2 = [.int .i64 a, .int .i64 b]) → ∃ ps : List Pr, ps.length = n ∧ C = flatP ps
 | 0, C, hl, _ => ⟨[], rfl, List.eq_nil_of_length_eq_zero (by omega)⟩
 | n + 1, C, hl, h => by
  obtain ⟨a, b, e⟩ := h 0 (by omega)
  obtain ⟨ps, h1, h2⟩ := pairs_flat n (C.drop 2) (by simp; omega) fun i hi => by
   obtain ⟨a, b, e⟩ := h (i + 1) (by omega)
   refine ⟨a, b, ?_⟩
   rw [List.drop_drop, show 2 + i * 2 = (i + 1) * 2 by omega]; exact e
  refine ⟨(a, b) :: ps, by simp [h1], ?_⟩
  have : C = C.take 2 ++ C.drop 2 := (List.take_append_drop 2 C).symm
  rw [this, h2]
  simp only [Nat.zero_mul, List.drop_zero] at e
  rw [e]; rfl
theorem rd_pairs {fuel : Nat} {cs : List Value} {x : DataW H × List MemPlace} (h : DataW.trod enc Try.prog W 0 (fun _ => true) true fuel 22 cs = some x) : ∃ v' v ps, cs = [v'] ∧ tag v' = some v ∧ PR (ext0 W) v ps := by
 obtain ⟨v', v, n, C, h1, h2, h3, h4⟩ := rd_sliceK Try.underlying22 (by kernel_rfl) (by omega) (rd_pair Try.underlying61 Try.underlying3 (by kernel_rfl) (by kernel_rfl)) _ _ _ h
 obtain ⟨ps, h5, rfl⟩ := pairs_flat n C h3.len h4
 exact ⟨v', v, ps, h1, h2, by rw [PR, h5]; exact h3⟩
theorem open_graph {v : Value} {d : DataW H} {ps : List MemPlace} {b0 : Nat} (hval : Value.okWide Try.prog W .any b0 24 v) (h : DataW.Trod enc Try.prog W 0 (fun _ => true) true 24 v d ps) (m : CMap) :
  ∃ u G, VR 0 m u v ∧ GR (ext0 W) u G := by
 obtain ⟨fuel, h⟩ := h
 simp only [Value.okWide, Try.underlying24] at hval
 obtain ⟨cs, rfl, hsz, _⟩ := hval
 have c24 : Try.prog.cellsOf 24 = 2 := by kernel_rfl
 have c3 : Try.prog.cellsOf 3 = 1 := by kernel_rfl
 have c22 : Try.prog.cellsOf 22 = 1 := by kernel_rfl
 obtain ⟨l⟩ := cs
 rw [c24] at hsz
 match l, hsz with
 | [x, y], _ =>
  obtain ⟨y0, y1, n, -, -, h0, h1⟩ := trod_struct2 Try.underlying24 h
  simp only [c3, c22, Value.cells, List.drop_zero, List.drop_succ_cons, List.take_succ_cons, List.take_zero, List.drop_nil, List.take_nil] at h0 h1
  obtain ⟨a, ea, _, _⟩ := DataW.trod_int Try.underlying3 h0
  obtain ⟨v', v, V, e1, t1, q1⟩ := rd_pairs h1
  injection ea with ea; injection e1 with e1
  subst ea e1
  refine ⟨_, ⟨a, V⟩, ?_, v, rfl, q1⟩
  refine .agg (by simp) fun i a b ha hb => ?_
  match i with
  | 0 => simp at ha hb; subst ha hb; exact .flat rfl
  | 1 => simp at ha hb; subst ha hb; exact VR.of_tag t1
  | i + 2 => simp at ha
theorem tcons {P : Program} {w : World} {base : Nat} {spare : Nat → Bool} {held : Bool} {t : TypeId} {ts : List TypeId} {v : Value} {vs : List Value} {d : DataW H} {ds : List (DataW H)} {p p' : List MemPlace}
  (h : DataW.Trod enc P w base spare held t v d p) (hs : DataW.TrodAll enc P w base spare held ts vs ds p') : DataW.TrodAll enc P w base spare held (t :: ts) (v :: vs) (d :: ds) (p ++ p') := ⟨p, p', h, hs, rfl⟩
end
end Go.Fw
namespace Go.Fw
open Go.Proofs
attribute [local irreducible] KO4 KO3 KO2 KO1 KO KN KX KE VK KCond KDraw KCall KLoop
set_option maxHeartbeats 4000000
set_option maxRecDepth 10000
theorem Beside_g (W0 : Base) (v : Value) (n : Nat) (es : List Pr) (h : AHeap) (hg : GR h v ⟨(n : Int), es⟩) (hr : RightG ⟨(n : Int), es⟩) : AC Try.prog W0 55 [v] h fun x h' => RL isG h' x (besM n es) ∧ Le h h' := by
 have hg0 := hg
 obtain ⟨ev, rfl, hp⟩ := hg.open
 have h200 : (n : Int) ≤ 200 := hr.n1
 have h594 : es.length ≤ 594 := hr.len
 have hrng : ∀ p ∈ es, 0 ≤ p.1 ∧ p.1 < p.2 ∧ p.2 < (n : Int) := fun p hpm => by
  obtain ⟨i, hi⟩ := List.mem_iff_getElem?.1 hpm
  exact (hr.ok i (List.getElem?_eq_some_iff.1 hi).1 p hi).1
 refine AC.vc (fn := Try.f55) (c := _) ⟨Try.func55, rfl, by decide⟩ Try.ntmps55 Try.results55 (by simp) fun hwf => ?_
 simp only [argFrame, argFrom, Nat.reduceAdd]
 obtain ⟨h1, b1, le1, wf1, -, lA⟩ := boxG (n := (n : Int)) hwf hp
 generalize h.next = B at *
 have lA1 := lA h1 (Le.refl _)
 have ll := fun g => hp.len g
 simp only [kS1, bLookup, bMapSet, wantA, isCall, stepOp, evalO, evalL, evalP, evalM, putDst, flat, kA, kB, Nat.reduceLT, ↓reduceIte, kC, Nat.reduceEqDiff, aBuiltin, abinG, guardFree, abin, aInt, aUn, aNilCheck, retQ, retQ1, aresults, aresultL, aresult, mkF, undefV, reduceCtorEq, kD, kE, kF, kG, kH, kI, kJ, kK, aExtract, calleeOf, b1, lA1.1]
 refine KCall.intro (by simp only [kS1, bLookup, bMapSet, wantA, isCall, stepOp, evalO, evalL, evalP, evalM, putDst, flat, kA, kB, Nat.reduceLT, ↓reduceIte, kC, Nat.reduceEqDiff, aBuiltin, abinG, guardFree, abin, aInt, aUn, aNilCheck, retQ, retQ1, aresults, aresultL, aresult, mkF, undefV, reduceCtorEq, kD, kE, kF, kG, kH, kI, kJ, kK, aExtract, calleeOf] <;> rfl) ⟨Try.func57, rfl, by decide⟩ (Right_any W0 _ _ h1 (hg0.le le1)) ?_
 rintro x h2 wf2 ⟨⟨bb, rfl, hbb⟩, le2⟩
 obtain rfl : bb = true := hbb.2 hr
 have lA2 := lA h2 le2
 have mk := aMakeSlice1 (P := Try.prog) (t := 32) (z := .slice none 0 0) h2 Try.underlying32 rfl rfl rfl rfl (by kernel_rfl) Try.underlying38 (by kernel_rfl) n (by omega)
 obtain ⟨h3, e3, le3, wf3, o3⟩ := alloc_f wf2 (List.replicate n (.slice none 0 0))
 rw [e3] at mk
 have nL : h2.own h2.next = none := (Le.refl h2).next wf2 (Nat.le_refl _)
 generalize h2.next = L at *
 have lA3 := lA h3 (le2.trans le3)
 simp only [kS1, bLookup, bMapSet, wantA, isCall, stepOp, evalO, evalL, evalP, evalM, putDst, flat, kA, kB, Nat.reduceLT, ↓reduceIte, kC, Nat.reduceEqDiff, aBuiltin, abinG, guardFree, abin, aInt, aUn, aNilCheck, retQ, retQ1, aresults, aresultL, aresult, mkF, undefV, reduceCtorEq, kD, kE, kF, kG, kH, kI, kJ, kK, aExtract, calleeOf, fg0, fg1, aadd, Nat.zero_add, lA2.2.1, mk, lA3.2.2, ll]
 have R0 : Rows h2 h3 L (List.replicate n (.slice none 0 0)) (besM n (es.take 0)) := by
  have : besM n (es.take 0) = List.replicate n [] := by simp [besM]
  rw [this]; exact Rows.start o3 le3 nL
 refine KLoop.intro (fun k fr hh => ∃ (i : Nat) (us : List Value), k = es.length - i ∧ i ≤ es.length ∧ fr = mkF [(3, .slice (some ⟨L, 0, none⟩) n n), (13, ev), (14, .int .i64 es.length), (15, .int .i64 i)] ∧ Rows h2 hh L us (besM n (es.take i)))
  es.length [(3, .slice (some ⟨L, 0, none⟩) n n), (13, ev), (14, .int .i64 es.length), (15, .int .i64 (0 : Nat))] (by simp only [hasAll, kS1, bLookup, bMapSet, wantA, isCall, stepOp, evalO, evalL, evalP, evalM, putDst, flat, kA, kB, Nat.reduceLT, ↓reduceIte, kC, Nat.reduceEqDiff, aBuiltin, abinG, guardFree, abin, aInt, aUn, aNilCheck, retQ, retQ1, aresults, aresultL, aresult, mkF, undefV, reduceCtorEq, kD, kE, kF, kG, kH, kI, kJ, kK, aExtract, calleeOf]; simp) ⟨0, _, rfl, Nat.zero_le _, rfl, R0⟩ ?_
 rintro k fr hh hwh ⟨i, us, rfl, hi, rfl, R⟩
 simp only [kS1, bLookup, bMapSet, wantA, isCall, stepOp, evalO, evalL, evalP, evalM, putDst, flat, kA, kB, Nat.reduceLT, ↓reduceIte, kC, Nat.reduceEqDiff, aBuiltin, abinG, guardFree, abin, aInt, aUn, aNilCheck, retQ, retQ1, aresults, aresultL, aresult, mkF, undefV, reduceCtorEq, kD, kE, kF, kG, kH, kI, kJ, kK, aExtract, calleeOf]
 refine KCond.intro (fun ht => ?_) (fun hf => ?_)
 rotate_left
 ·have hge : es.length ≤ i := lt_f hf
  rw [List.take_of_length_le hge] at R
  simp only [kS1, bLookup, bMapSet, wantA, isCall, stepOp, evalO, evalL, evalP, evalM, putDst, flat, kA, kB, Nat.reduceLT, ↓reduceIte, kC, Nat.reduceEqDiff, aBuiltin, abinG, guardFree, abin, aInt, aUn, aNilCheck, retQ, retQ1, aresults, aresultL, aresult, mkF, undefV, reduceCtorEq, kD, kE, kF, kG, kH, kI, kJ, kK, aExtract, calleeOf]
  exact ⟨R.rlG (by rw [R.len, besM_length]), (le1.trans le2).trans R.le⟩
 have hlt : i < es.length := lt_t ht
 clear ht
 have hpi := getElem?_of hlt
 have htk : es.take (i + 1) = es.take i ++ [es[i]] := List.take_succ_eq_append_getElem hlt
 generalize es[i] = p at hpi htk
 obtain ⟨p1, p2, p3⟩ := hrng p (List.mem_of_getElem? hpi)
 have hph := hp.le ((le1.trans le2).trans R.le)
 have ad := hp.addr (k := .i64) i hlt
 have ld := hph.load hpi
 obtain ⟨h4', h4, e4, e4s, le4, wf4, o4⟩ := new42 hwh p
 have nE2 : hh.own hh.next = none := (Le.refl hh).next hwh (Nat.le_refl _)
 obtain ⟨a, c⟩ := p
 simp only at p1 p2 p3
 obtain ⟨a, rfl⟩ := Int.eq_ofNat_of_zero_le p1
 obtain ⟨c, rfl⟩ := Int.eq_ofNat_of_zero_le (show 0 ≤ c by omega)
 have R4 := R.up le4
 have hnE : ∀ (v : Nat) u, us[v]? = some u → blk u ≠ some hh.next := fun v u hu hb => by
  have hgs : ∃ q, (besM n (es.take i))[v]? = some q := ⟨_, getElem?_of (by rw [← R.len]; exact (List.getElem?_eq_some_iff.1 hu).1)⟩
  obtain ⟨q, hq⟩ := hgs
  exact (R.gs v u q hu hq).blk_own hb nE2
 have hEL : hh.next ≠ L := fun e => by have := R.oL; rw [← e, nE2] at this; cases this
 generalize hh.next = E at *
 simp only [kS1, bLookup, bMapSet, wantA, isCall, stepOp, evalO, evalL, evalP, evalM, putDst, flat, kA, kB, Nat.reduceLT, ↓reduceIte, kC, Nat.reduceEqDiff, aBuiltin, abinG, guardFree, abin, aInt, aUn, aNilCheck, retQ, retQ1, aresults, aresultL, aresult, mkF, undefV, reduceCtorEq, kD, kE, kF, kG, kH, kI, kJ, kK, aExtract, calleeOf, ad, ld, e4, e4s]
 have hrows := besM_rows n (es.take i)
 have htl : (es.take i).length ≤ 594 := by rw [List.length_take]; omega
 have ixL : ∀ (k : IntKind) (j : Nat), j < n → aIndexAddr Try.prog 32 (.slice (some ⟨L, 0, none⟩) n n) (.int k j) = some (.pointer (some ⟨L, j, none⟩)) := fun k j hj => by rw [aIdx Try.underlying32 Try.underlying38 (by kernel_rfl) j hj]; simp [aadd]
 have hba : a < (besM n (es.take i)).length := by rw [besM_length]; omega
 have hra := getElem?_of hba
 have hga : (besM n (es.take i)).getD a [] = (besM n (es.take i))[a] := getD_of hba
 have hla : ((besM n (es.take i))[a]).length ≤ 100000 := by have := hrows _ (List.getElem_mem hba); omega
 generalize (besM n (es.take i))[a] = ra at hra hga hla
 obtain ⟨u, u', h5, h6, h7, hu, e5, e6, e7, l5, l6, oL6, R7, wf7, keep⟩ := R4.push wf4 hra (c : Int) hla
 obtain ⟨keepE6, keepE7, hnE7⟩ := keep _ _ o4 hEL hnE
 have m4a := own0 o4
 have m4b := own1 o4
 have m5a := own0 (l5.own _ _ o4)
 have m5b := own1 (l5.own _ _ o4)
 have m6a := own0 keepE6
 have m6b := own1 keepE6
 have m7a := own0 keepE7
 have m7b := own1 keepE7
 simp only at m4a m4b m5a m5b m6a m6b m7a m7b
 have lu4 : aload Try.prog h4 38 ⟨L, a, none⟩ = some u := by rw [aload_one Try.underlying38 rfl R4.oL]; exact hu
 have lu5 : aload Try.prog h5 38 ⟨L, a, none⟩ = some u := by rw [aload_one Try.underlying38 rfl (l5.own _ _ R4.oL)]; exact hu
 have bs : aBuildSlice Try.prog h4 38 1 [(0, .int .i64 (c : Int))] = some (.slice (some ⟨h4.next, 0, none⟩) 1 1, h5) := by rw [mk1, e5]
 refine KDraw.intro mixed (.fl 0 (.fl 1 (.fl 2 (.fl 3 (.fl 4 (.fl 5 (.fl 6 (.fl 7 (.fl 8 (.fl 9 (.ch 10 [9] (.ch 11 [7, 10] (.fl 12 (.ch 13 [0, 1, 2, 3, 4, 5, 6, 7, 8, 9, 10, 11, 12] (.done) .no)) .no) .no))))))))))) (by kernel_rfl) ?_
 simp only [kS1, bLookup, bMapSet, wantA, isCall, stepOp, evalO, evalL, evalP, evalM, putDst, flat, kA, kB, Nat.reduceLT, ↓reduceIte, kC, Nat.reduceEqDiff, aBuiltin, abinG, guardFree, abin, aInt, aUn, aNilCheck, retQ, retQ1, aresults, aresultL, aresult, mkF, undefV, reduceCtorEq, kD, kE, kF, kG, kH, kI, kJ, kK, aExtract, calleeOf, kD1, Nat.reduceBEq, HoldsAll, kL, kM, kN, kO, pa0, pa1, aadd, Nat.zero_add, m4a, m4b, m5a, m5b, m6a, m6b, ixL _ a (by omega), lu4, lu5, bs, e6, e7]
 -- the other end
 have hl7 : ((besM n (es.take i)).set a (ra ++ [(c : Int)])).length = n := by simp [besM_length]
 have hbc : c < ((besM n (es.take i)).set a (ra ++ [(c : Int)])).length := by omega
 have hrc := getElem?_of hbc
 have hgc : ((besM n (es.take i)).set a (ra ++ [(c : Int)])).getD c [] = ((besM n (es.take i)).set a (ra ++ [(c : Int)]))[c] := getD_of hbc
 have hlc : (((besM n (es.take i)).set a (ra ++ [(c : Int)]))[c]).length ≤ 100000 := by
  rcases List.mem_or_eq_of_mem_set (List.getElem_mem hbc) with e | e
  ·have := hrows _ e; omega
  ·rw [e]; simp; have := hrows ra (List.mem_of_getElem? hra); omega
 generalize ((besM n (es.take i)).set a (ra ++ [(c : Int)]))[c] = rc at hrc hgc hlc
 obtain ⟨w, w', h8, h9, h10, hw, e8, e9, e10, l8, l9, oL9, R10, wf10, keep2⟩ := R7.push wf7 hrc (a : Int) hlc
 obtain ⟨keepE9, keepE10, -⟩ := keep2 _ _ keepE7 hEL hnE7
 have m8a := own0 (l8.own _ _ keepE7)
 have m8b := own1 (l8.own _ _ keepE7)
 have m9a := own0 keepE9
 have m9b := own1 keepE9
 simp only at m8a m8b m9a m9b
 have lw7 : aload Try.prog h7 38 ⟨L, c, none⟩ = some w := by rw [aload_one Try.underlying38 rfl R7.oL]; exact hw
 have lw8 : aload Try.prog h8 38 ⟨L, c, none⟩ = some w := by rw [aload_one Try.underlying38 rfl (l8.own _ _ R7.oL)]; exact hw
 have bs2 : aBuildSlice Try.prog h7 38 1 [(0, .int .i64 (a : Int))] = some (.slice (some ⟨h7.next, 0, none⟩) 1 1, h8) := by rw [mk1, e8]
 refine KDraw.intro mixed (.fl 0 (.fl 1 (.fl 2 (.fl 3 (.fl 4 (.fl 5 (.fl 6 (.fl 7 (.fl 8 (.fl 9 (.ch 10 [9] (.ch 11 [7, 10] (.fl 12 (.ch 13 [0, 1, 2, 3, 4, 5, 6, 7, 8, 9, 10, 11, 12] (.done) .no)) .no) .no))))))))))) (by kernel_rfl) ?_
 simp only [kS1, bLookup, bMapSet, wantA, isCall, stepOp, evalO, evalL, evalP, evalM, putDst, flat, kA, kB, Nat.reduceLT, ↓reduceIte, kC, Nat.reduceEqDiff, aBuiltin, abinG, guardFree, abin, aInt, aUn, aNilCheck, retQ, retQ1, aresults, aresultL, aresult, mkF, undefV, reduceCtorEq, kD, kE, kF, kG, kH, kI, kJ, kK, aExtract, calleeOf, kD1, Nat.reduceBEq, HoldsAll, kL, kM, kN, kO, pa0, pa1, aadd, Nat.zero_add, m7a, m7b, m8a, m8b, m9a, m9b, ixL _ c (by omega), lw7, lw8, bs2, e9, e10, awrap_succ i (by omega)]
 have : besStep (besM n (es.take i)) ((a : Int), (c : Int)) = ((besM n (es.take i)).set a (ra ++ [(c : Int)])).set c (rc ++ [(a : Int)]) := by
  simp only [besStep, Int.toNat_natCast, hga, hgc]
 rw [← this, ← besM_snoc, ← htk] at R10
 exact loop_again (es.length - (i + 1)) [(3, .slice (some ⟨L, 0, none⟩) n n), (13, ev), (14, .int .i64 es.length), (15, .int .i64 (i + 1 : Nat))] (by omega) (by simp only [hasAll, kS1, bLookup, bMapSet, wantA, isCall, stepOp, evalO, evalL, evalP, evalM, putDst, flat, kA, kB, Nat.reduceLT, ↓reduceIte, kC, Nat.reduceEqDiff, aBuiltin, abinG, guardFree, abin, aInt, aUn, aNilCheck, retQ, retQ1, aresults, aresultL, aresult, mkF, undefV, reduceCtorEq, kD, kE, kF, kG, kH, kI, kJ, kK, aExtract, calleeOf]; simp) ⟨i + 1, _, rfl, hlt, rfl, R10⟩
theorem Beside_any (W0 : Base) (v : Value) (n : Nat) (es : List Pr) (h : AHeap) (hg : GR h v ⟨(n : Int), es⟩) (hr : RightG ⟨(n : Int), es⟩) : AC Try.prog W0 55 [v] h fun x h' => RL (RL isI) h' x (besM n es) ∧ Le h h' :=
 (Beside_g W0 v n es h hg hr).mono fun _ _ h => ⟨h.1.map fun _ _ g => g.rl, h.2⟩
end Go.Fw
