/- A text of the proof. -/
import Derived.Test.YtnaahaldkpdjlaaFwLB18
import Derived.Test.YtnaahaldkpdjlaaFwLB2
import Derived.Test.YtnaahaldkpdjlaaFwLB14
import Derived.Test.YtnaahaldkpdjlaaFwLBR
set_option linter.unusedSimpArgs false
set_option linter.unusedVariables false
namespace Go.Fw
open Go.Proofs
attribute [local irreducible] KO4 KO3 KO2 KO1 KO KN KX KE VK KCond KDraw KCall KLoop
set_option maxHeartbeats 8000000
set_option maxRecDepth 10000
theorem Values_any (W0 : Base) (v : Value) (xs : List Int) (h : AHeap) (hv : RL isI h v xs) : AC Try.prog W0 75 [v] h fun x h' => ∃ B, x = .func (.func 111) #[] #[.pointer (some ⟨B, 0, none⟩)] ∧ h.next ≤ B ∧ h'.own B = some (.cells [v]) ∧ Le h h' := by
 refine AC.vc (fn := Try.f75) (c := _) ⟨Try.func75, rfl, by decide⟩ Try.ntmps75 Try.results75 (by simp) fun hwf => ?_
 simp only [argFrame, argFrom, Nat.reduceAdd]
 obtain ⟨h1, e1, l1, w1, o1⟩ := alloc_f hwf [v]
 have b1 : aBox h v = some (.pointer (some ⟨h.next, 0, none⟩), h1) := by
  rw [← e1]; obtain ⟨_, _, rfl, _⟩ := hv.sl; rfl
 simp only [kS1, bLookup, bMapSet, wantA, isCall, stepOp, evalO, evalL, evalP, evalM, putDst, flat, kA, kB, Nat.reduceLT, ↓reduceIte, kC, Nat.reduceEqDiff, aBuiltin, abinG, guardFree, abin, aInt, aUn, aNilCheck, retQ, retQ1, aresults, aresultL, aresult, mkF, undefV, reduceCtorEq, kD, kE, kF, kG, kH, kI, kJ, kK, aExtract, calleeOf, b1]
 exact ⟨h.next, rfl, Nat.le_refl _, o1, l1⟩
theorem Values1_any (W1 : Base) (lp B : Nat) (v : Value) (xs : List Int) (I : Nat → AHeap → Prop) (h : AHeap) (hn : xs.length < 1000000)
  (hI : ∀ i g, I i g → g.own B = some (.cells [v]) ∧ RL isI g v xs) (h0 : I 0 h)
  (hy : ∀ i g (hi : i < xs.length), WF g → h.next ≤ g.next → I i g → AY Try.prog W1 lp [.int .i64 xs[i]] g fun x g' => x = .bool true ∧ h.next ≤ g'.next ∧ I (i + 1) g') :
  AC Try.prog W1 111 [yieldV lp, .pointer (some ⟨B, 0, none⟩)] h fun _ h' => I xs.length h' := by
 have ld : ∀ i g, I i g → aload Try.prog g 38 ⟨B, 0, none⟩ = some v := fun i g hi => by rw [aload_one Try.underlying38 rfl (hI i g hi).1]; rfl
 refine AC.vc (fn := Try.f111) (c := _) ⟨Try.func111, rfl, by decide⟩ Try.ntmps111 Try.results111 (by simp) fun hwf => ?_
 simp only [argFrame, argFrom, Nat.reduceAdd]
 have ll := fun g => (hI _ _ h0).2.len (P := Try.prog) Try.underlying38 g
 simp only [kS1, bLookup, bMapSet, wantA, isCall, stepOp, evalO, evalL, evalP, evalM, putDst, flat, kA, kB, Nat.reduceLT, ↓reduceIte, kC, Nat.reduceEqDiff, aBuiltin, abinG, guardFree, abin, aInt, aUn, aNilCheck, retQ, retQ1, aresults, aresultL, aresult, mkF, undefV, reduceCtorEq, kD, kE, kF, kG, kH, kI, kJ, kK, aExtract, calleeOf, ld _ _ h0, ll]
 refine KLoop.intro (fun k fr g => ∃ i : Nat, k = xs.length - i ∧ i ≤ xs.length ∧ fr = mkF [(0, yieldV lp), (5, v), (6, .int .i64 xs.length), (7, .int .i64 i)] ∧ h.next ≤ g.next ∧ I i g) xs.length [(0, yieldV lp), (5, v), (6, .int .i64 xs.length), (7, .int .i64 (0 : Nat))] (by simp only [hasAll, kS1, bLookup, bMapSet, wantA, isCall, stepOp, evalO, evalL, evalP, evalM, putDst, flat, kA, kB, Nat.reduceLT, ↓reduceIte, kC, Nat.reduceEqDiff, aBuiltin, abinG, guardFree, abin, aInt, aUn, aNilCheck, retQ, retQ1, aresults, aresultL, aresult, mkF, undefV, reduceCtorEq, kD, kE, kF, kG, kH, kI, kJ, kK, aExtract, calleeOf]; simp) ⟨0, rfl, Nat.zero_le _, rfl, Nat.le_refl _, h0⟩ ?_
 rintro k fr g wg ⟨i, rfl, hi, rfl, hle, hIi⟩
 simp only [kS1, bLookup, bMapSet, wantA, isCall, stepOp, evalO, evalL, evalP, evalM, putDst, flat, kA, kB, Nat.reduceLT, ↓reduceIte, kC, Nat.reduceEqDiff, aBuiltin, abinG, guardFree, abin, aInt, aUn, aNilCheck, retQ, retQ1, aresults, aresultL, aresult, mkF, undefV, reduceCtorEq, kD, kE, kF, kG, kH, kI, kJ, kK, aExtract, calleeOf]
 refine KCond.intro (fun ht => ?_) (fun hf => ?_)
 ·have hj : i < xs.length := lt_t ht
  have ad := (hI _ _ hIi).2.addr (k := .i64) Try.underlying38 Try.underlying3 rfl i hj
  have le := (hI _ _ hIi).2.loadI (P := Try.prog) Try.underlying3 rfl i hj
  simp only [kS1, bLookup, bMapSet, wantA, isCall, stepOp, evalO, evalL, evalP, evalM, putDst, flat, kA, kB, Nat.reduceLT, ↓reduceIte, kC, Nat.reduceEqDiff, aBuiltin, abinG, guardFree, abin, aInt, aUn, aNilCheck, retQ, retQ1, aresults, aresultL, aresult, mkF, undefV, reduceCtorEq, kD, kE, kF, kG, kH, kI, kJ, kK, aExtract, calleeOf, ad, le]
  refine KCall.yield (by simp only [kS1, bLookup, bMapSet, wantA, isCall, stepOp, evalO, evalL, evalP, evalM, putDst, flat, kA, kB, Nat.reduceLT, ↓reduceIte, kC, Nat.reduceEqDiff, aBuiltin, abinG, guardFree, abin, aInt, aUn, aNilCheck, retQ, retQ1, aresults, aresultL, aresult, mkF, undefV, reduceCtorEq, kD, kE, kF, kG, kH, kI, kJ, kK, aExtract, calleeOf, yieldOf] <;> rfl) (hy i g hj wg hle hIi) ?_
  rintro x g' wg' ⟨rfl, hle', hI'⟩
  simp only [kS1, bLookup, bMapSet, wantA, isCall, stepOp, evalO, evalL, evalP, evalM, putDst, flat, kA, kB, Nat.reduceLT, ↓reduceIte, kC, Nat.reduceEqDiff, aBuiltin, abinG, guardFree, abin, aInt, aUn, aNilCheck, retQ, retQ1, aresults, aresultL, aresult, mkF, undefV, reduceCtorEq, kD, kE, kF, kG, kH, kI, kJ, kK, aExtract, calleeOf, awrap_succ i (by omega)]
  exact loop_again (xs.length - (i + 1)) [(0, yieldV lp), (5, v), (6, .int .i64 xs.length), (7, .int .i64 (i + 1 : Nat))] (by omega) (by simp only [hasAll, kS1, bLookup, bMapSet, wantA, isCall, stepOp, evalO, evalL, evalP, evalM, putDst, flat, kA, kB, Nat.reduceLT, ↓reduceIte, kC, Nat.reduceEqDiff, aBuiltin, abinG, guardFree, abin, aInt, aUn, aNilCheck, retQ, retQ1, aresults, aresultL, aresult, mkF, undefV, reduceCtorEq, kD, kE, kF, kG, kH, kI, kJ, kK, aExtract, calleeOf]; simp) ⟨i + 1, rfl, hj, rfl, hle', hI'⟩
 ·have hge : xs.length ≤ i := lt_f hf
  obtain rfl : i = xs.length := by omega
  simp only [kS1, bLookup, bMapSet, wantA, isCall, stepOp, evalO, evalL, evalP, evalM, putDst, flat, kA, kB, Nat.reduceLT, ↓reduceIte, kC, Nat.reduceEqDiff, aBuiltin, abinG, guardFree, abin, aInt, aUn, aNilCheck, retQ, retQ1, aresults, aresultL, aresult, mkF, undefV, reduceCtorEq, kD, kE, kF, kG, kH, kI, kJ, kK, aExtract, calleeOf]
  exact hIi
theorem AppSeq_any (W0 : Base) (B : Nat) (v : Value) (xs : List Int) (h : AHeap) (hB : h.own B = some (.cells [v])) (hv : RL isI h v xs) (hn : xs.length ≤ 1000) :
  AC Try.prog W0 126 [.slice none 0 0, .func (.func 111) #[] #[.pointer (some ⟨B, 0, none⟩)]] h fun x h' => GI h' x xs ∧ Le h h' ∧ Apart h x := by
 refine AC.vc (fn := Try.f126) (c := _) ⟨Try.func126, rfl, by decide⟩ Try.ntmps126 Try.results126 (by simp) fun hwf => ?_
 simp only [argFrame, argFrom, Nat.reduceAdd]
 obtain ⟨h1, e1, l1, w1, o1⟩ := alloc_f hwf [.slice none 0 0]
 have b1 : aBox h (.slice none 0 0) = some (.pointer (some ⟨h.next, 0, none⟩), h1) := by rw [← e1]; rfl
 have nS : h.own h.next = none := (Le.refl h).next hwf (Nat.le_refl _)
 have hn1 : h1.next = h.next + 1 := by rw [← e1]; rfl
 simp only [kS1, bLookup, bMapSet, wantA, isCall, stepOp, evalO, evalL, evalP, evalM, putDst, flat, kA, kB, Nat.reduceLT, ↓reduceIte, kC, Nat.reduceEqDiff, aBuiltin, abinG, guardFree, abin, aInt, aUn, aNilCheck, retQ, retQ1, aresults, aresultL, aresult, mkF, undefV, reduceCtorEq, kD, kE, kF, kG, kH, kI, kJ, kK, aExtract, calleeOf, b1]
 generalize h.next = S at *
 refine VK.rangeFunc (gf := 111) (first := #[]) (cap := #[.pointer (some ⟨B, 0, none⟩)]) (by simp only [kS1, bLookup, bMapSet, wantA, isCall, stepOp, evalO, evalL, evalP, evalM, putDst, flat, kA, kB, Nat.reduceLT, ↓reduceIte, kC, Nat.reduceEqDiff, aBuiltin, abinG, guardFree, abin, aInt, aUn, aNilCheck, retQ, retQ1, aresults, aresultL, aresult, mkF, undefV, reduceCtorEq, kD, kE, kF, kG, kH, kI, kJ, kK, aExtract, calleeOf]) ⟨Try.func111, rfl, by decide⟩ (by decide) fun W1 lp hy => ?_
 refine (Values1_any W1 lp B v xs (fun k g => ∃ xv, g.own S = some (.cells [xv]) ∧ GI g xv (xs.take k) ∧ Le h g ∧ Apart h xv ∧ blk xv ≠ some S) h1 (by omega) (fun k g ⟨_, _, _, lg, _⟩ => ⟨lg.own _ _ hB, hv.le Stays.isI lg⟩) ⟨_, o1, GI.nil _, l1, (fun b hb => by cases hb), by simp [blk]⟩ ?_).mono fun _ h8 hh8 hw8 => ?_
 ·intro k g hk wg hle hSg
  obtain ⟨xv, oS, gx, lg, ax, nx⟩ := hSg
  refine hy _ _ _ rfl hle ?_
  have tk : xs.take (k + 1) = xs.take k ++ [xs[k]] := List.take_succ_eq_append_getElem hk
  have hl : (xs.take k).length = k := by rw [List.length_take]; omega
  generalize xs[k] = y at *
  have lS : aload Try.prog g 38 ⟨S, 0, none⟩ = some xv := by rw [aload_one Try.underlying38 rfl oS]; rfl
  obtain ⟨v', h14, h15, e14, e15, g15, w15, l14, f15, k15⟩ := gx.push wg y (by rw [hl]; omega)
  obtain ⟨l15, a15⟩ := f15 h lg ax
  obtain ⟨o15, n15⟩ := k15 S _ oS nx
  have st := aStore1 (P := Try.prog) (t := 38) (x := v') Try.underlying38 (by kernel_rfl) o15 (off := 0) (by simp) (by obtain ⟨a, c, e, _⟩ := (GS.cs g15).sl; rw [e]; rfl) (GS.cs g15).sl.one
  have oo := AHeap.own_put_eq h15 S (.cells [v'])
  simp only [kS1, bLookup, bMapSet, wantA, isCall, stepOp, evalO, evalL, evalP, evalM, putDst, flat, kA, kB, Nat.reduceLT, ↓reduceIte, kC, Nat.reduceEqDiff, aBuiltin, abinG, guardFree, abin, aInt, aUn, aNilCheck, retQ, retQ1, aresults, aresultL, aresult, mkF, undefV, reduceCtorEq, kD, kE, kF, kG, kH, kI, kJ, kK, aExtract, calleeOf, putPs, Array.toList, lS, e14, e15, st, List.set_cons_zero, rndQ_normal]
  have hlt : h1.next ≤ (h15.put S (.cells [v'])).next := by rw [hn1]; exact w15.lt o15
  refine ⟨trivial, hlt, v', oo, ?_, l15.put _ nS, a15, n15⟩
  rw [tk]; exact GS.put g15 _ n15
 ·obtain ⟨xv, oS, gx, lg, ax, nx⟩ := hh8
  rw [List.take_length] at gx
  have lS : aload Try.prog h8 38 ⟨S, 0, none⟩ = some xv := by rw [aload_one Try.underlying38 rfl oS]; rfl
  simp only [kS1, bLookup, bMapSet, wantA, isCall, stepOp, evalO, evalL, evalP, evalM, putDst, flat, kA, kB, Nat.reduceLT, ↓reduceIte, kC, Nat.reduceEqDiff, aBuiltin, abinG, guardFree, abin, aInt, aUn, aNilCheck, retQ, retQ1, aresults, aresultL, aresult, mkF, undefV, reduceCtorEq, kD, kE, kF, kG, kH, kI, kJ, kK, aExtract, calleeOf, lS]
  exact ⟨gx, lg, ax⟩
theorem Collect_any (W0 : Base) (B : Nat) (v : Value) (xs : List Int) (h : AHeap) (hB : h.own B = some (.cells [v])) (hv : RL isI h v xs) (hn : xs.length ≤ 1000) :
  AC Try.prog W0 110 [.func (.func 111) #[] #[.pointer (some ⟨B, 0, none⟩)]] h fun x h' => GI h' x xs ∧ Le h h' ∧ Apart h x := by
 refine AC.vc (fn := Try.f110) (c := _) ⟨Try.func110, rfl, by decide⟩ Try.ntmps110 Try.results110 (by simp) fun hwf => ?_
 simp only [argFrame, argFrom, Nat.reduceAdd]
 simp only [kS1, bLookup, bMapSet, wantA, isCall, stepOp, evalO, evalL, evalP, evalM, putDst, flat, kA, kB, Nat.reduceLT, ↓reduceIte, kC, Nat.reduceEqDiff, aBuiltin, abinG, guardFree, abin, aInt, aUn, aNilCheck, retQ, retQ1, aresults, aresultL, aresult, mkF, undefV, reduceCtorEq, kD, kE, kF, kG, kH, kI, kJ, kK, aExtract, calleeOf]
 refine KCall.intro (by simp only [kS1, bLookup, bMapSet, wantA, isCall, stepOp, evalO, evalL, evalP, evalM, putDst, flat, kA, kB, Nat.reduceLT, ↓reduceIte, kC, Nat.reduceEqDiff, aBuiltin, abinG, guardFree, abin, aInt, aUn, aNilCheck, retQ, retQ1, aresults, aresultL, aresult, mkF, undefV, reduceCtorEq, kD, kE, kF, kG, kH, kI, kJ, kK, aExtract, calleeOf] <;> rfl) ⟨Try.func126, rfl, by decide⟩ (AppSeq_any W0 B v xs h hB hv hn) ?_
 rintro x h2 w2 ⟨g2, l2, a2⟩
 simp only [kS1, bLookup, bMapSet, wantA, isCall, stepOp, evalO, evalL, evalP, evalM, putDst, flat, kA, kB, Nat.reduceLT, ↓reduceIte, kC, Nat.reduceEqDiff, aBuiltin, abinG, guardFree, abin, aInt, aUn, aNilCheck, retQ, retQ1, aresults, aresultL, aresult, mkF, undefV, reduceCtorEq, kD, kE, kF, kG, kH, kI, kJ, kK, aExtract, calleeOf]
 exact ⟨g2, l2, a2⟩
theorem Sorted_any (W0 : Base) (B : Nat) (v : Value) (xs : List Int) (h : AHeap) (hB : h.own B = some (.cells [v])) (hv : RL isI h v xs) (hn : xs.length ≤ 1000) :
  AC Try.prog W0 74 [.func (.func 111) #[] #[.pointer (some ⟨B, 0, none⟩)]] h fun x h' => GI h' x (sortI xs) ∧ Le h h' ∧ Apart h x := by
 refine AC.vc (fn := Try.f74) (c := _) ⟨Try.func74, rfl, by decide⟩ Try.ntmps74 Try.results74 (by simp) fun hwf => ?_
 simp only [argFrame, argFrom, Nat.reduceAdd]
 simp only [kS1, bLookup, bMapSet, wantA, isCall, stepOp, evalO, evalL, evalP, evalM, putDst, flat, kA, kB, Nat.reduceLT, ↓reduceIte, kC, Nat.reduceEqDiff, aBuiltin, abinG, guardFree, abin, aInt, aUn, aNilCheck, retQ, retQ1, aresults, aresultL, aresult, mkF, undefV, reduceCtorEq, kD, kE, kF, kG, kH, kI, kJ, kK, aExtract, calleeOf]
 refine KCall.intro (by simp only [kS1, bLookup, bMapSet, wantA, isCall, stepOp, evalO, evalL, evalP, evalM, putDst, flat, kA, kB, Nat.reduceLT, ↓reduceIte, kC, Nat.reduceEqDiff, aBuiltin, abinG, guardFree, abin, aInt, aUn, aNilCheck, retQ, retQ1, aresults, aresultL, aresult, mkF, undefV, reduceCtorEq, kD, kE, kF, kG, kH, kI, kJ, kK, aExtract, calleeOf] <;> rfl) ⟨Try.func110, rfl, by decide⟩ (Collect_any W0 B v xs h hB hv hn) ?_
 rintro x h2 w2 ⟨g2, l2, a2⟩
 simp only [kS1, bLookup, bMapSet, wantA, isCall, stepOp, evalO, evalL, evalP, evalM, putDst, flat, kA, kB, Nat.reduceLT, ↓reduceIte, kC, Nat.reduceEqDiff, aBuiltin, abinG, guardFree, abin, aInt, aUn, aNilCheck, retQ, retQ1, aresults, aresultL, aresult, mkF, undefV, reduceCtorEq, kD, kE, kF, kG, kH, kI, kJ, kK, aExtract, calleeOf]
 refine KCall.intro (by simp only [kS1, bLookup, bMapSet, wantA, isCall, stepOp, evalO, evalL, evalP, evalM, putDst, flat, kA, kB, Nat.reduceLT, ↓reduceIte, kC, Nat.reduceEqDiff, aBuiltin, abinG, guardFree, abin, aInt, aUn, aNilCheck, retQ, retQ1, aresults, aresultL, aresult, mkF, undefV, reduceCtorEq, kD, kE, kF, kG, kH, kI, kJ, kK, aExtract, calleeOf] <;> rfl) ⟨Try.func21, rfl, by decide⟩ (Sort_any W0 g2 (by omega)) ?_
 rintro y h3 w3 ⟨rfl, g3, f3⟩
 simp only [kS1, bLookup, bMapSet, wantA, isCall, stepOp, evalO, evalL, evalP, evalM, putDst, flat, kA, kB, Nat.reduceLT, ↓reduceIte, kC, Nat.reduceEqDiff, aBuiltin, abinG, guardFree, abin, aInt, aUn, aNilCheck, retQ, retQ1, aresults, aresultL, aresult, mkF, undefV, reduceCtorEq, kD, kE, kF, kG, kH, kI, kJ, kK, aExtract, calleeOf]
 exact ⟨g3, f3 h l2 a2, a2⟩
theorem Equal_any (W0 : Base) (v w : Value) (xs ys : List Int) (h : AHeap) (hv : RL isI h v xs) (hw : RL isI h w ys) (hn : xs.length ≤ 100000) :
  AC Try.prog W0 73 [v, w] h fun x h' => x = .bool (decide (xs = ys)) ∧ h' = h := by
 refine AC.vc (fn := Try.f73) (c := _) ⟨Try.func73, rfl, by decide⟩ Try.ntmps73 Try.results73 (by simp) fun hwf => ?_
 simp only [argFrame, argFrom, Nat.reduceAdd]
 have lv := fun g => hv.len (P := Try.prog) Try.underlying38 g
 have lw := fun g => hw.len (P := Try.prog) Try.underlying38 g
 by_cases c : (xs.length : Int) = ys.length
 rotate_left
 ·have d : decide ((xs.length : Int) = ys.length) = false := decide_eq_false c
  simp only [kS1, bLookup, bMapSet, wantA, isCall, stepOp, evalO, evalL, evalP, evalM, putDst, flat, kA, kB, Nat.reduceLT, ↓reduceIte, kC, Nat.reduceEqDiff, aBuiltin, abinG, guardFree, abin, aInt, aUn, aNilCheck, retQ, retQ1, aresults, aresultL, aresult, mkF, undefV, reduceCtorEq, kD, kE, kF, kG, kH, kI, kJ, kK, aExtract, calleeOf, lv, lw, bne, d]
  exact ⟨by rw [decide_eq_false (fun e => c (by rw [e]))], trivial⟩
 have c' : xs.length = ys.length := by omega
 have d : decide ((xs.length : Int) = ys.length) = true := decide_eq_true c
 simp only [kS1, bLookup, bMapSet, wantA, isCall, stepOp, evalO, evalL, evalP, evalM, putDst, flat, kA, kB, Nat.reduceLT, ↓reduceIte, kC, Nat.reduceEqDiff, aBuiltin, abinG, guardFree, abin, aInt, aUn, aNilCheck, retQ, retQ1, aresults, aresultL, aresult, mkF, undefV, reduceCtorEq, kD, kE, kF, kG, kH, kI, kJ, kK, aExtract, calleeOf, lv, lw, bne, d]
 refine KLoop.intro (fun k fr hh => ∃ i : Nat, k = xs.length - i ∧ i ≤ xs.length ∧ hh = h ∧ fr = mkF [(0, v), (1, w), (12, .int .i64 xs.length), (13, .int .i64 i)] ∧ xs.take i = ys.take i)
  xs.length [(0, v), (1, w), (12, .int .i64 xs.length), (13, .int .i64 (0 : Nat))] (by simp only [hasAll, kS1, bLookup, bMapSet, wantA, isCall, stepOp, evalO, evalL, evalP, evalM, putDst, flat, kA, kB, Nat.reduceLT, ↓reduceIte, kC, Nat.reduceEqDiff, aBuiltin, abinG, guardFree, abin, aInt, aUn, aNilCheck, retQ, retQ1, aresults, aresultL, aresult, mkF, undefV, reduceCtorEq, kD, kE, kF, kG, kH, kI, kJ, kK, aExtract, calleeOf]; simp) ⟨0, rfl, Nat.zero_le _, rfl, rfl, rfl⟩ ?_
 rintro k fr hh - ⟨i, rfl, hi, rfl, rfl, he⟩
 simp only [kS1, bLookup, bMapSet, wantA, isCall, stepOp, evalO, evalL, evalP, evalM, putDst, flat, kA, kB, Nat.reduceLT, ↓reduceIte, kC, Nat.reduceEqDiff, aBuiltin, abinG, guardFree, abin, aInt, aUn, aNilCheck, retQ, retQ1, aresults, aresultL, aresult, mkF, undefV, reduceCtorEq, kD, kE, kF, kG, kH, kI, kJ, kK, aExtract, calleeOf]
 refine KCond.intro (fun ht => ?_) (fun hf => ?_)
 ·have hlt : i < xs.length := lt_t ht
  have t1 : xs.take (i + 1) = xs.take i ++ [xs[i]] := List.take_succ_eq_append_getElem hlt
  have t2 : ys.take (i + 1) = ys.take i ++ [ys[i]'(by omega)] := List.take_succ_eq_append_getElem (by omega)
  have ad := hv.addr (P := Try.prog) Try.underlying38 Try.underlying3 (by kernel_rfl) (k := .i64) i hlt
  have ld := hv.loadI (P := Try.prog) Try.underlying3 rfl i hlt
  have ad2 := hw.addr (P := Try.prog) Try.underlying38 Try.underlying3 (by kernel_rfl) (k := .i64) i (by omega)
  have ld2 := hw.loadI (P := Try.prog) Try.underlying3 rfl i (by omega)
  have hx := getElem?_of hlt
  have hy := getElem?_of (show i < ys.length by omega)
  generalize xs[i] = x at *
  generalize ys[i]'(by omega) = y at *
  simp only [kS1, bLookup, bMapSet, wantA, isCall, stepOp, evalO, evalL, evalP, evalM, putDst, flat, kA, kB, Nat.reduceLT, ↓reduceIte, kC, Nat.reduceEqDiff, aBuiltin, abinG, guardFree, abin, aInt, aUn, aNilCheck, retQ, retQ1, aresults, aresultL, aresult, mkF, undefV, reduceCtorEq, kD, kE, kF, kG, kH, kI, kJ, kK, aExtract, calleeOf]
  refine KDraw.intro mixed (.fl 0 (.fl 1 (.fl 2 (.fl 3 (.fl 4 (.fl 5 (.fl 6 (.fl 7 (.fl 8 (.done)))))))))) (by kernel_rfl) ?_
  by_cases e : x = y
  ·have d2 : decide (x = y) = true := decide_eq_true e
   simp only [kS1, bLookup, bMapSet, wantA, isCall, stepOp, evalO, evalL, evalP, evalM, putDst, flat, kA, kB, Nat.reduceLT, ↓reduceIte, kC, Nat.reduceEqDiff, aBuiltin, abinG, guardFree, abin, aInt, aUn, aNilCheck, retQ, retQ1, aresults, aresultL, aresult, mkF, undefV, reduceCtorEq, kD, kE, kF, kG, kH, kI, kJ, kK, aExtract, calleeOf, kD1, Nat.reduceBEq, HoldsAll, kL, kM, kN, kO, ad, ld, ad2, ld2, bne, d2, awrap_succ i (by omega)]
   exact loop_again (xs.length - (i + 1)) [(0, v), (1, w), (12, .int .i64 xs.length), (13, .int .i64 (i + 1 : Nat))] (by omega) (by simp only [hasAll, kS1, bLookup, bMapSet, wantA, isCall, stepOp, evalO, evalL, evalP, evalM, putDst, flat, kA, kB, Nat.reduceLT, ↓reduceIte, kC, Nat.reduceEqDiff, aBuiltin, abinG, guardFree, abin, aInt, aUn, aNilCheck, retQ, retQ1, aresults, aresultL, aresult, mkF, undefV, reduceCtorEq, kD, kE, kF, kG, kH, kI, kJ, kK, aExtract, calleeOf]; simp) ⟨i + 1, rfl, hlt, rfl, rfl, by rw [t1, t2, he, e]⟩
  ·have d2 : decide (x = y) = false := decide_eq_false e
   simp only [kS1, bLookup, bMapSet, wantA, isCall, stepOp, evalO, evalL, evalP, evalM, putDst, flat, kA, kB, Nat.reduceLT, ↓reduceIte, kC, Nat.reduceEqDiff, aBuiltin, abinG, guardFree, abin, aInt, aUn, aNilCheck, retQ, retQ1, aresults, aresultL, aresult, mkF, undefV, reduceCtorEq, kD, kE, kF, kG, kH, kI, kJ, kK, aExtract, calleeOf, kD1, Nat.reduceBEq, HoldsAll, kL, kM, kN, kO, ad, ld, ad2, ld2, bne, d2]
   exact by rw [decide_eq_false (fun e' => e (by subst e'; rw [hx] at hy; injection hy))]
 ·have hge : xs.length ≤ i := lt_f hf
  rw [List.take_of_length_le hge, List.take_of_length_le (by omega)] at he
  simp only [kS1, bLookup, bMapSet, wantA, isCall, stepOp, evalO, evalL, evalP, evalM, putDst, flat, kA, kB, Nat.reduceLT, ↓reduceIte, kC, Nat.reduceEqDiff, aBuiltin, abinG, guardFree, abin, aInt, aUn, aNilCheck, retQ, retQ1, aresults, aresultL, aresult, mkF, undefV, reduceCtorEq, kD, kE, kF, kG, kH, kI, kJ, kK, aExtract, calleeOf]
  exact ⟨by rw [decide_eq_true he], trivial⟩
end Go.Fw
namespace Go.Fw
open Go.Proofs
attribute [local irreducible] KO4 KO3 KO2 KO1 KO KN KX KE VK KCond KDraw KCall KLoop
set_option maxHeartbeats 16000000
set_option maxRecDepth 10000
theorem FRight_any (W0 : Base) (v rv : Value) (G : GM) (rs : List (List Int)) (h : AHeap) (hg : GR h v G) (hv : RL (RL isI) h rv rs) : AC Try.prog W0 31 [v, rv] h fun x h' => BoolIs (RightG G ∧ RotG G.n.toNat G.es rs) x ∧ Le h h' := by
 have hg0 := hg
 obtain ⟨gn, es⟩ := G
 obtain ⟨ev, rfl, hp⟩ := hg.open
 refine AC.vc (fn := Try.f31) (c := _) ⟨Try.func31, rfl, by decide⟩ Try.ntmps31 Try.results31 (by simp) fun hwf => ?_
 simp only [argFrame, argFrom, Nat.reduceAdd]
 obtain ⟨h1, b1, le1, wf1, -, lA⟩ := boxG (n := gn) hwf hp
 generalize h.next = B at *
 have lA1 := lA h1 (Le.refl _)
 have lr := fun g => hv.len (P := Try.prog) Try.underlying52 g
 simp only [kS1, bLookup, bMapSet, wantA, isCall, stepOp, evalO, evalL, evalP, evalM, putDst, flat, kA, kB, Nat.reduceLT, ↓reduceIte, kC, Nat.reduceEqDiff, aBuiltin, abinG, guardFree, abin, aInt, aUn, aNilCheck, retQ, retQ1, aresults, aresultL, aresult, mkF, undefV, reduceCtorEq, kD, kE, kF, kG, kH, kI, kJ, kK, aExtract, calleeOf, b1, lA1.1]
 refine KCall.intro (by simp only [kS1, bLookup, bMapSet, wantA, isCall, stepOp, evalO, evalL, evalP, evalM, putDst, flat, kA, kB, Nat.reduceLT, ↓reduceIte, kC, Nat.reduceEqDiff, aBuiltin, abinG, guardFree, abin, aInt, aUn, aNilCheck, retQ, retQ1, aresults, aresultL, aresult, mkF, undefV, reduceCtorEq, kD, kE, kF, kG, kH, kI, kJ, kK, aExtract, calleeOf] <;> rfl) ⟨Try.func57, rfl, by decide⟩ (Right_any W0 _ _ h1 (hg0.le le1)) ?_
 rintro x h2 wf2 ⟨⟨bb, rfl, hbb⟩, le2⟩
 have lA2 := lA h2 le2
 cases bb with
 | false =>
  simp only [kS1, bLookup, bMapSet, wantA, isCall, stepOp, evalO, evalL, evalP, evalM, putDst, flat, kA, kB, Nat.reduceLT, ↓reduceIte, kC, Nat.reduceEqDiff, aBuiltin, abinG, guardFree, abin, aInt, aUn, aNilCheck, retQ, retQ1, aresults, aresultL, aresult, mkF, undefV, reduceCtorEq, kD, kE, kF, kG, kH, kI, kJ, kK, aExtract, calleeOf]
  exact ⟨.f fun A => Bool.noConfusion (hbb.2 A.1), le1.trans le2⟩
 | true =>
 have hr := hbb.1 rfl
 clear hbb
 have h0 : 0 ≤ gn := hr.n0
 obtain ⟨n, rfl⟩ := Int.eq_ofNat_of_zero_le h0
 have hR := hr.inR
 have hn200 : (n : Int) ≤ 200 := hr.n1
 have h594 : es.length ≤ 594 := hr.len
 have hA := hr.asc
 simp only [Int.toNat_natCast]
 by_cases c1 : (rs.length : Int) = n
 rotate_left
 ·have d1 : decide ((rs.length : Int) = n) = false := decide_eq_false c1
  simp only [kS1, bLookup, bMapSet, wantA, isCall, stepOp, evalO, evalL, evalP, evalM, putDst, flat, kA, kB, Nat.reduceLT, ↓reduceIte, kC, Nat.reduceEqDiff, aBuiltin, abinG, guardFree, abin, aInt, aUn, aNilCheck, retQ, retQ1, aresults, aresultL, aresult, mkF, undefV, reduceCtorEq, kD, kE, kF, kG, kH, kI, kJ, kK, aExtract, calleeOf, lr, fg0, aadd, Nat.zero_add, lA2.2.1, bne, d1]
  exact ⟨.f fun A => c1 (by have := A.2.len; omega), le1.trans le2⟩
 have d1 : decide ((rs.length : Int) = n) = true := decide_eq_true c1
 have hrl : rs.length = n := by omega
 simp only [kS1, bLookup, bMapSet, wantA, isCall, stepOp, evalO, evalL, evalP, evalM, putDst, flat, kA, kB, Nat.reduceLT, ↓reduceIte, kC, Nat.reduceEqDiff, aBuiltin, abinG, guardFree, abin, aInt, aUn, aNilCheck, retQ, retQ1, aresults, aresultL, aresult, mkF, undefV, reduceCtorEq, kD, kE, kF, kG, kH, kI, kJ, kK, aExtract, calleeOf, lr, fg0, aadd, Nat.zero_add, lA2.2.1, bne, d1, lA2.1]
 refine KCall.intro (by simp only [kS1, bLookup, bMapSet, wantA, isCall, stepOp, evalO, evalL, evalP, evalM, putDst, flat, kA, kB, Nat.reduceLT, ↓reduceIte, kC, Nat.reduceEqDiff, aBuiltin, abinG, guardFree, abin, aInt, aUn, aNilCheck, retQ, retQ1, aresults, aresultL, aresult, mkF, undefV, reduceCtorEq, kD, kE, kF, kG, kH, kI, kJ, kK, aExtract, calleeOf] <;> rfl) ⟨Try.func55, rfl, by decide⟩ (Beside_any W0 _ n es h2 (hg0.le (le1.trans le2)) hr) ?_
 rintro x h3 wf3 ⟨hb, le3⟩
 have hbl := besM_length n es
 have lb := fun g => hb.len (P := Try.prog) Try.underlying32 g
 rw [hbl] at lb
 have le03 := (le1.trans le2).trans le3
 have hrow : ∀ v, v < n → ((besM n es).getD v []).length ≤ 1200 := fun v hv => by
  have := besM_rows n es _ (List.getElem_mem (show v < (besM n es).length by omega))
  rw [getD_of (by omega)]; omega
 simp only [kS1, bLookup, bMapSet, wantA, isCall, stepOp, evalO, evalL, evalP, evalM, putDst, flat, kA, kB, Nat.reduceLT, ↓reduceIte, kC, Nat.reduceEqDiff, aBuiltin, abinG, guardFree, abin, aInt, aUn, aNilCheck, retQ, retQ1, aresults, aresultL, aresult, mkF, undefV, reduceCtorEq, kD, kE, kF, kG, kH, kI, kJ, kK, aExtract, calleeOf, lb]
 refine KLoop.intro (fun k fr hq => ∃ (i : Nat), k = n - i ∧ i ≤ n ∧ fr = mkF [(1, rv), (18, x), (19, .int .i64 n), (20, .int .i64 i)] ∧ Le h3 hq ∧ ∀ v, v < i → (rs.getD v []).Perm ((besM n es).getD v []))
  n [(1, rv), (18, x), (19, .int .i64 n), (20, .int .i64 (0 : Nat))] (by simp only [hasAll, kS1, bLookup, bMapSet, wantA, isCall, stepOp, evalO, evalL, evalP, evalM, putDst, flat, kA, kB, Nat.reduceLT, ↓reduceIte, kC, Nat.reduceEqDiff, aBuiltin, abinG, guardFree, abin, aInt, aUn, aNilCheck, retQ, retQ1, aresults, aresultL, aresult, mkF, undefV, reduceCtorEq, kD, kE, kF, kG, kH, kI, kJ, kK, aExtract, calleeOf]; simp) ⟨0, rfl, Nat.zero_le _, rfl, Le.refl _, fun v hv => by omega⟩ ?_
 rintro k fr hq hwq ⟨i, rfl, hi, rfl, lq, hpm⟩
 simp only [kS1, bLookup, bMapSet, wantA, isCall, stepOp, evalO, evalL, evalP, evalM, putDst, flat, kA, kB, Nat.reduceLT, ↓reduceIte, kC, Nat.reduceEqDiff, aBuiltin, abinG, guardFree, abin, aInt, aUn, aNilCheck, retQ, retQ1, aresults, aresultL, aresult, mkF, undefV, reduceCtorEq, kD, kE, kF, kG, kH, kI, kJ, kK, aExtract, calleeOf]
 refine KCond.intro (fun ht => ?_) (fun hf => ?_)
 rotate_left
 ·have hge : n ≤ i := lt_f hf
  simp only [kS1, bLookup, bMapSet, wantA, isCall, stepOp, evalO, evalL, evalP, evalM, putDst, flat, kA, kB, Nat.reduceLT, ↓reduceIte, kC, Nat.reduceEqDiff, aBuiltin, abinG, guardFree, abin, aInt, aUn, aNilCheck, retQ, retQ1, aresults, aresultL, aresult, mkF, undefV, reduceCtorEq, kD, kE, kF, kG, kH, kI, kJ, kK, aExtract, calleeOf]
  exact ⟨.t ⟨hr, hrl, fun v hv => hpm v (by omega)⟩, le03.trans lq⟩
 have hlt : i < n := lt_t ht
 clear ht
 have HB := hb.le (Stays.RL Stays.isI) lq
 have ab := HB.addr (P := Try.prog) Try.underlying32 Try.underlying38 (by kernel_rfl) (k := .i64) i (by omega)
 obtain ⟨bu, lbu, hbu⟩ := HB.load (P := Try.prog) Try.underlying38 rfl i (by omega)
 have HR := hv.le (Stays.RL Stays.isI) (le03.trans lq)
 have ar := HR.addr (P := Try.prog) Try.underlying52 Try.underlying38 (by kernel_rfl) (k := .i64) i (by omega)
 obtain ⟨ru, lru, hru⟩ := HR.load (P := Try.prog) Try.underlying38 rfl i (by omega)
 rw [← getD_of (d := []) (by omega)] at hbu hru
 have lbl := fun g => hbu.len (P := Try.prog) Try.underlying38 g
 have lrl := fun g => hru.len (P := Try.prog) Try.underlying38 g
 have hb1200 := hrow i hlt
 by_cases c2 : ((rs.getD i []).length : Int) = ((besM n es).getD i []).length
 rotate_left
 ·have d2 : decide (((rs.getD i []).length : Int) = ((besM n es).getD i []).length) = false := decide_eq_false c2
  simp only [kS1, bLookup, bMapSet, wantA, isCall, stepOp, evalO, evalL, evalP, evalM, putDst, flat, kA, kB, Nat.reduceLT, ↓reduceIte, kC, Nat.reduceEqDiff, aBuiltin, abinG, guardFree, abin, aInt, aUn, aNilCheck, retQ, retQ1, aresults, aresultL, aresult, mkF, undefV, reduceCtorEq, kD, kE, kF, kG, kH, kI, kJ, kK, aExtract, calleeOf, ab, lbu, ar, lru, lbl, lrl, bne, d2]
  exact ⟨.f fun A => c2 (by have := A.2.len_eq hlt; omega), le03.trans lq⟩
 have d2 : decide (((rs.getD i []).length : Int) = ((besM n es).getD i []).length) = true := decide_eq_true c2
 have hdeg : ((besM n es).getD i []).length ≤ 1000 := by
  have hasc := besM_asc es hR hA i
  have nd : ((besM n es).getD i []).Nodup := List.nodup_iff_pairwise_ne.2 (hasc.imp fun h e => by omega)
  have := sub_len nd (B := (List.range n).map fun (v : Nat) => (v : Int)) fun y hy => by
   obtain ⟨w, rfl, hw⟩ := besM_nat hR hy
   exact List.mem_map.2 ⟨w, List.mem_range.2 hw, rfl⟩
  rw [List.length_map, List.length_range] at this
  omega
 simp only [kS1, bLookup, bMapSet, wantA, isCall, stepOp, evalO, evalL, evalP, evalM, putDst, flat, kA, kB, Nat.reduceLT, ↓reduceIte, kC, Nat.reduceEqDiff, aBuiltin, abinG, guardFree, abin, aInt, aUn, aNilCheck, retQ, retQ1, aresults, aresultL, aresult, mkF, undefV, reduceCtorEq, kD, kE, kF, kG, kH, kI, kJ, kK, aExtract, calleeOf, ab, lbu, ar, lru, lbl, lrl, bne, d2]
 refine KCall.intro (by simp only [kS1, bLookup, bMapSet, wantA, isCall, stepOp, evalO, evalL, evalP, evalM, putDst, flat, kA, kB, Nat.reduceLT, ↓reduceIte, kC, Nat.reduceEqDiff, aBuiltin, abinG, guardFree, abin, aInt, aUn, aNilCheck, retQ, retQ1, aresults, aresultL, aresult, mkF, undefV, reduceCtorEq, kD, kE, kF, kG, kH, kI, kJ, kK, aExtract, calleeOf] <;> rfl) ⟨Try.func75, rfl, by decide⟩ (Values_any W0 ru _ hq hru) ?_
 rintro y h5 w5 ⟨VB, rfl, -, oV, l5⟩
 simp only [kS1, bLookup, bMapSet, wantA, isCall, stepOp, evalO, evalL, evalP, evalM, putDst, flat, kA, kB, Nat.reduceLT, ↓reduceIte, kC, Nat.reduceEqDiff, aBuiltin, abinG, guardFree, abin, aInt, aUn, aNilCheck, retQ, retQ1, aresults, aresultL, aresult, mkF, undefV, reduceCtorEq, kD, kE, kF, kG, kH, kI, kJ, kK, aExtract, calleeOf]
 refine KCall.intro (by simp only [kS1, bLookup, bMapSet, wantA, isCall, stepOp, evalO, evalL, evalP, evalM, putDst, flat, kA, kB, Nat.reduceLT, ↓reduceIte, kC, Nat.reduceEqDiff, aBuiltin, abinG, guardFree, abin, aInt, aUn, aNilCheck, retQ, retQ1, aresults, aresultL, aresult, mkF, undefV, reduceCtorEq, kD, kE, kF, kG, kH, kI, kJ, kK, aExtract, calleeOf] <;> rfl) ⟨Try.func74, rfl, by decide⟩ (Sorted_any W0 VB ru _ h5 oV (hru.le Stays.isI l5) (by omega)) ?_
 rintro y h6 w6 ⟨g6, l6, -⟩
 simp only [kS1, bLookup, bMapSet, wantA, isCall, stepOp, evalO, evalL, evalP, evalM, putDst, flat, kA, kB, Nat.reduceLT, ↓reduceIte, kC, Nat.reduceEqDiff, aBuiltin, abinG, guardFree, abin, aInt, aUn, aNilCheck, retQ, retQ1, aresults, aresultL, aresult, mkF, undefV, reduceCtorEq, kD, kE, kF, kG, kH, kI, kJ, kK, aExtract, calleeOf]
 refine KCall.intro (by simp only [kS1, bLookup, bMapSet, wantA, isCall, stepOp, evalO, evalL, evalP, evalM, putDst, flat, kA, kB, Nat.reduceLT, ↓reduceIte, kC, Nat.reduceEqDiff, aBuiltin, abinG, guardFree, abin, aInt, aUn, aNilCheck, retQ, retQ1, aresults, aresultL, aresult, mkF, undefV, reduceCtorEq, kD, kE, kF, kG, kH, kI, kJ, kK, aExtract, calleeOf] <;> rfl) ⟨Try.func73, rfl, by decide⟩ (Equal_any W0 y bu _ _ h6 g6.rl (hbu.le Stays.isI (l5.trans l6)) (by rw [sortI_length]; omega)) ?_
 rintro z h7 w7 ⟨rfl, rfl⟩
 have lq7 := (lq.trans l5).trans l6
 by_cases c3 : sortI (rs.getD i []) = (besM n es).getD i []
 ·have d3 : decide (sortI (rs.getD i []) = (besM n es).getD i []) = true := decide_eq_true c3
  simp only [kS1, bLookup, bMapSet, wantA, isCall, stepOp, evalO, evalL, evalP, evalM, putDst, flat, kA, kB, Nat.reduceLT, ↓reduceIte, kC, Nat.reduceEqDiff, aBuiltin, abinG, guardFree, abin, aInt, aUn, aNilCheck, retQ, retQ1, aresults, aresultL, aresult, mkF, undefV, reduceCtorEq, kD, kE, kF, kG, kH, kI, kJ, kK, aExtract, calleeOf, d3, awrap_succ i (by omega)]
  exact loop_again (n - (i + 1)) [(1, rv), (18, x), (19, .int .i64 n), (20, .int .i64 (i + 1 : Nat))] (stp hlt) (by simp only [hasAll, kS1, bLookup, bMapSet, wantA, isCall, stepOp, evalO, evalL, evalP, evalM, putDst, flat, kA, kB, Nat.reduceLT, ↓reduceIte, kC, Nat.reduceEqDiff, aBuiltin, abinG, guardFree, abin, aInt, aUn, aNilCheck, retQ, retQ1, aresults, aresultL, aresult, mkF, undefV, reduceCtorEq, kD, kE, kF, kG, kH, kI, kJ, kK, aExtract, calleeOf]; simp) ⟨i + 1, rfl, hlt, rfl, lq7, fun v hv => by
   by_cases e : v = i
   ·subst e; exact (sort_bes hR hA).1 c3
   ·exact hpm v (by omega)⟩
 ·have d3 : decide (sortI (rs.getD i []) = (besM n es).getD i []) = false := decide_eq_false c3
  simp only [kS1, bLookup, bMapSet, wantA, isCall, stepOp, evalO, evalL, evalP, evalM, putDst, flat, kA, kB, Nat.reduceLT, ↓reduceIte, kC, Nat.reduceEqDiff, aBuiltin, abinG, guardFree, abin, aInt, aUn, aNilCheck, retQ, retQ1, aresults, aresultL, aresult, mkF, undefV, reduceCtorEq, kD, kE, kF, kG, kH, kI, kJ, kK, aExtract, calleeOf, d3]
  exact ⟨.f fun A => c3 ((sort_bes hR hA).2 (A.2.perm i hlt)), le03.trans lq7⟩
end Go.Fw
