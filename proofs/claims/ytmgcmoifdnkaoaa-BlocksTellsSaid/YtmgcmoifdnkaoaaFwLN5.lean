/- A text of the proof. -/
import Derived.Test.YtmgcmoifdnkaoaaFwLN4
import Derived.Test.YtmgcmoifdnkaoaaFwLW4
import Derived.Test.YtmgcmoifdnkaoaaFwLW8
import Derived.Test.YtmgcmoifdnkaoaaFwLT5
set_option linter.unusedSimpArgs false
set_option linter.unusedVariables false
namespace Go.Fw
open Go.Proofs
attribute [local irreducible] KO4 KO3 KO2 KO1 KO KN KX KE VK KCond KDraw KCall KLoop
set_option maxHeartbeats 16000000
set_option maxRecDepth 10000
theorem GI.join {h : AHeap} {v x : Value} {xs ys : List Int} (g : GI h v xs) (hwf : WF h) (hx : RL isI h x ys) (hn : xs.length + ys.length ≤ 1000000000) :
  ∃ v' h5, aAppend Try.prog h 35 35 v x = some (v', h5) ∧ GI h5 v' (xs ++ ys) ∧ WF h5 ∧
   (∀ f, Le f h → Apart f v → Le f h5 ∧ Apart f v') ∧ (∀ b o, h.own b = some o → blk v ≠ some b → h5.own b = some o ∧ blk v' ≠ some b) := by
 have hc : CS 1 h x ys.length (I64 ys) := by
  have := RS.cs hx.cellsI
  simpa [I64] using this
 obtain ⟨v', h5, e5, g5, hf⟩ := GS.append (P := Try.prog) (t := 35) (xt := 35) (k := 1) (by kernel_rfl) g (fun e he => CS.src he hc) (I64_one _) (I64_one _) (by simp [I64]) hn
 refine ⟨v', h5, e5, ?_, aAppend_wf hwf e5, fun f lf af => hf f hwf lf af, fun b o ho hb => keep_own hf hwf ho hb⟩
 have : I64 xs ++ I64 ys = I64 (xs ++ ys) := by simp [I64]
 rw [GI, ← this, List.length_append]; exact g5
theorem RParts_any (W0 : Base) (v : Value) (n : Nat) (es : List Pr) (h : AHeap) (hg : GR h v ⟨(n : Int), es⟩) (hr : RightG ⟨(n : Int), es⟩) :
  AC Try.prog W0 64 [v] h fun x h' => (∀ g, aLen Try.prog g 57 x = some (.int .i64 (heads n es).length)) ∧ Le h h' := by
 have hg0 := hg
 obtain ⟨ev, rfl, hp⟩ := hg.open
 have h200 : (n : Int) ≤ 200 := hr.n1
 have hR := hr.inR
 refine AC.vc (fn := Try.f64) (c := _) ⟨Try.func64, rfl, by decide⟩ Try.ntmps64 Try.results64 (by simp) fun hwf => ?_
 simp only [argFrame, argFrom, Nat.reduceAdd]
 obtain ⟨h1, b1, le1, wf1, -, lA⟩ := boxG (n := (n : Int)) hwf hp
 generalize h.next = B at *
 have lA1 := lA h1 (Le.refl _)
 simp only [kS1, bLookup, bMapSet, wantA, isCall, stepOp, evalO, evalL, evalP, evalM, putDst, flat, kA, kB, Nat.reduceLT, ↓reduceIte, kC, Nat.reduceEqDiff, aBuiltin, abinG, guardFree, abin, aInt, aUn, aNilCheck, retQ, retQ1, aresults, aresultL, aresult, mkF, undefV, reduceCtorEq, kD, kE, kF, kG, kH, kI, kJ, kK, aExtract, calleeOf, b1, lA1.1]
 refine KCall.intro (by simp only [kS1, bLookup, bMapSet, wantA, isCall, stepOp, evalO, evalL, evalP, evalM, putDst, flat, kA, kB, Nat.reduceLT, ↓reduceIte, kC, Nat.reduceEqDiff, aBuiltin, abinG, guardFree, abin, aInt, aUn, aNilCheck, retQ, retQ1, aresults, aresultL, aresult, mkF, undefV, reduceCtorEq, kD, kE, kF, kG, kH, kI, kJ, kK, aExtract, calleeOf] <;> rfl) ⟨Try.func56, rfl, by decide⟩ (RefRight_any W0 _ _ h1 (hg0.le le1)) ?_
 rintro x h2 w2 ⟨⟨bb, rfl, hbb⟩, l2⟩
 obtain rfl : bb = true := hbb.2 hr
 have ap0 : Apart h1 (.slice none 0 0) := fun b hb => by cases hb
 simp only [kS1, bLookup, bMapSet, wantA, isCall, stepOp, evalO, evalL, evalP, evalM, putDst, flat, kA, kB, Nat.reduceLT, ↓reduceIte, kC, Nat.reduceEqDiff, aBuiltin, abinG, guardFree, abin, aInt, aUn, aNilCheck, retQ, retQ1, aresults, aresultL, aresult, mkF, undefV, reduceCtorEq, kD, kE, kF, kG, kH, kI, kJ, kK, aExtract, calleeOf]
 refine KLoop.intro (fun k fr hq => ∃ (i : Nat) (ov sv : Value) (us : List Value) (seen : List Int), k = n - i ∧ i ≤ n ∧ fr = mkF [(1, .pointer (some ⟨B, 0, none⟩)), (3, ov), (4, sv), (5, .int .i64 i)] ∧ GS 1 hq ov us.length us ∧ us.all (·.oneCell') = true ∧ us.length = (heads i es).length ∧ GI hq sv seen ∧ seen.length ≤ i * n ∧ (∀ b, blk ov = some b → blk sv ≠ some b) ∧
   (∀ x : Nat, x < n → ((x : Int) ∈ seen ↔ ∃ u, u < i ∧ Con es u x)) ∧ Le h1 hq ∧ Apart h1 ov ∧ Apart h1 sv)
  n [(1, .pointer (some ⟨B, 0, none⟩)), (3, .slice none 0 0), (4, .slice none 0 0), (5, .int .i64 (0 : Nat))] (by simp only [hasAll, kS1, bLookup, bMapSet, wantA, isCall, stepOp, evalO, evalL, evalP, evalM, putDst, flat, kA, kB, Nat.reduceLT, ↓reduceIte, kC, Nat.reduceEqDiff, aBuiltin, abinG, guardFree, abin, aInt, aUn, aNilCheck, retQ, retQ1, aresults, aresultL, aresult, mkF, undefV, reduceCtorEq, kD, kE, kF, kG, kH, kI, kJ, kK, aExtract, calleeOf]; simp)
  ⟨0, _, _, [], [], rfl, Nat.zero_le _, rfl, GS.nil 1 _, rfl, by simp [heads], GI.nil _, by simp, fun b hb => (by cases hb), fun x hx => (by simp), l2, ap0, ap0⟩ ?_
 rintro k fr hq hwq ⟨i, ov, sv, us, seen, rfl, hi, rfl, go, g1c, hul, gs, hsl, dj, hseen, leq, ao, as_⟩
 have hhl := heads_length i es
 have hsn : i * n ≤ 40000 := Nat.le_trans (Nat.mul_le_mul (show i ≤ 200 by omega) (show n ≤ 200 by omega)) (by decide)
 have lAq := lA hq leq
 simp only [kS1, bLookup, bMapSet, wantA, isCall, stepOp, evalO, evalL, evalP, evalM, putDst, flat, kA, kB, Nat.reduceLT, ↓reduceIte, kC, Nat.reduceEqDiff, aBuiltin, abinG, guardFree, abin, aInt, aUn, aNilCheck, retQ, retQ1, aresults, aresultL, aresult, mkF, undefV, reduceCtorEq, kD, kE, kF, kG, kH, kI, kJ, kK, aExtract, calleeOf, fg0, aadd, Nat.zero_add, lAq.2.1]
 refine KCond.intro (fun ht => ?_) (fun hf => ?_)
 rotate_left
 ·have hge : n ≤ i := lt_f hf
  obtain rfl : i = n := by omega
  simp only [kS1, bLookup, bMapSet, wantA, isCall, stepOp, evalO, evalL, evalP, evalM, putDst, flat, kA, kB, Nat.reduceLT, ↓reduceIte, kC, Nat.reduceEqDiff, aBuiltin, abinG, guardFree, abin, aInt, aUn, aNilCheck, retQ, retQ1, aresults, aresultL, aresult, mkF, undefV, reduceCtorEq, kD, kE, kF, kG, kH, kI, kJ, kK, aExtract, calleeOf]
  refine ⟨fun g => ?_, le1.trans leq⟩
  obtain ⟨a, c, rfl, _⟩ := (GS.cs go).sl
  rw [aLenS Try.underlying57, hul]
 have hlt : i < n := lt_t ht
 clear ht
 simp only [kS1, bLookup, bMapSet, wantA, isCall, stepOp, evalO, evalL, evalP, evalM, putDst, flat, kA, kB, Nat.reduceLT, ↓reduceIte, kC, Nat.reduceEqDiff, aBuiltin, abinG, guardFree, abin, aInt, aUn, aNilCheck, retQ, retQ1, aresults, aresultL, aresult, mkF, undefV, reduceCtorEq, kD, kE, kF, kG, kH, kI, kJ, kK, aExtract, calleeOf]
 refine KCall.intro (by simp only [kS1, bLookup, bMapSet, wantA, isCall, stepOp, evalO, evalL, evalP, evalM, putDst, flat, kA, kB, Nat.reduceLT, ↓reduceIte, kC, Nat.reduceEqDiff, aBuiltin, abinG, guardFree, abin, aInt, aUn, aNilCheck, retQ, retQ1, aresults, aresultL, aresult, mkF, undefV, reduceCtorEq, kD, kE, kF, kG, kH, kI, kJ, kK, aExtract, calleeOf] <;> rfl) ⟨Try.func92, rfl, by decide⟩ (Rhas_any W0 sv seen (i : Int) hq gs.rl (by omega)) ?_
 rintro x h3 w3 ⟨rfl, rfl⟩
 by_cases c : (i : Int) ∈ seen
 ·have d : decide ((i : Int) ∈ seen) = true := decide_eq_true c
  simp only [kS1, bLookup, bMapSet, wantA, isCall, stepOp, evalO, evalL, evalP, evalM, putDst, flat, kA, kB, Nat.reduceLT, ↓reduceIte, kC, Nat.reduceEqDiff, aBuiltin, abinG, guardFree, abin, aInt, aUn, aNilCheck, retQ, retQ1, aresults, aresultL, aresult, mkF, undefV, reduceCtorEq, kD, kE, kF, kG, kH, kI, kJ, kK, aExtract, calleeOf, d, awrap_succ i (by omega)]
  have hx := (hseen i hlt).1 c
  have hh : heads (i + 1) es = heads i es := by
   rcases heads_succ i es with ⟨_, h⟩ | ⟨h, _⟩
   ·obtain ⟨u, hu, hc⟩ := hx; exact absurd hc (h u hu)
   ·exact h
  exact loop_again (n - (i + 1)) [(1, .pointer (some ⟨B, 0, none⟩)), (3, ov), (4, sv), (5, .int .i64 (i + 1 : Nat))] (by omega) (by simp only [hasAll, kS1, bLookup, bMapSet, wantA, isCall, stepOp, evalO, evalL, evalP, evalM, putDst, flat, kA, kB, Nat.reduceLT, ↓reduceIte, kC, Nat.reduceEqDiff, aBuiltin, abinG, guardFree, abin, aInt, aUn, aNilCheck, retQ, retQ1, aresults, aresultL, aresult, mkF, undefV, reduceCtorEq, kD, kE, kF, kG, kH, kI, kJ, kK, aExtract, calleeOf]; simp)
   ⟨i + 1, ov, sv, us, seen, rfl, hlt, rfl, go, g1c, by rw [hh]; exact hul, gs, by rw [Nat.add_mul]; omega, dj, fun x hx' => by
    rw [hseen x hx']
    constructor
    ·rintro ⟨u, hu, hc⟩; exact ⟨u, by omega, hc⟩
    ·rintro ⟨u, hu, hc⟩
     by_cases e : u = i
     ·subst e; obtain ⟨u', hu', hc'⟩ := hx; exact ⟨u', hu', hc'.trans hc⟩
     ·exact ⟨u, by omega, hc⟩, leq, ao, as_⟩
 have d : decide ((i : Int) ∈ seen) = false := decide_eq_false c
 have hx : ∀ u, u < i → ¬ Con es u i := fun u hu hc => c ((hseen i hlt).2 ⟨u, hu, hc⟩)
 simp only [kS1, bLookup, bMapSet, wantA, isCall, stepOp, evalO, evalL, evalP, evalM, putDst, flat, kA, kB, Nat.reduceLT, ↓reduceIte, kC, Nat.reduceEqDiff, aBuiltin, abinG, guardFree, abin, aInt, aUn, aNilCheck, retQ, retQ1, aresults, aresultL, aresult, mkF, undefV, reduceCtorEq, kD, kE, kF, kG, kH, kI, kJ, kK, aExtract, calleeOf, d, lAq.1]
 refine KCall.intro (by simp only [kS1, bLookup, bMapSet, wantA, isCall, stepOp, evalO, evalL, evalP, evalM, putDst, flat, kA, kB, Nat.reduceLT, ↓reduceIte, kC, Nat.reduceEqDiff, aBuiltin, abinG, guardFree, abin, aInt, aUn, aNilCheck, retQ, retQ1, aresults, aresultL, aresult, mkF, undefV, reduceCtorEq, kD, kE, kF, kG, kH, kI, kJ, kK, aExtract, calleeOf] <;> rfl) ⟨Try.func68, rfl, by decide⟩ (RAway_any W0 (.agg #[.int .i64 (n : Int), ev]) n i es h3 (hg0.le (le1.trans leq)) hr hlt) ?_
 rintro x h4 w4 ⟨dv, L, rfl, gl, hLl, hL, l4, ad⟩
 have leq4 := leq.trans l4
 simp only [kS1, bLookup, bMapSet, wantA, isCall, stepOp, evalO, evalL, evalP, evalM, putDst, flat, kA, kB, Nat.reduceLT, ↓reduceIte, kC, Nat.reduceEqDiff, aBuiltin, abinG, guardFree, abin, aInt, aUn, aNilCheck, retQ, retQ1, aresults, aresultL, aresult, mkF, undefV, reduceCtorEq, kD, kE, kF, kG, kH, kI, kJ, kK, aExtract, calleeOf]
 -- the part
 refine KLoop.intro (fun k fr hz => ∃ (j : Nat) (pv : Value) (part : List Int), k = n - j ∧ j ≤ n ∧ fr = mkF [(1, .pointer (some ⟨B, 0, none⟩)), (3, ov), (4, sv), (5, .int .i64 i), (6, dv), (8, pv), (9, .int .i64 j)] ∧ GI hz pv part ∧ part.length ≤ j ∧ (∀ x : Nat, (x : Int) ∈ part ↔ x < j ∧ Con es i x) ∧ Le h4 hz ∧ Apart h4 pv)
  n [(1, .pointer (some ⟨B, 0, none⟩)), (3, ov), (4, sv), (5, .int .i64 i), (6, dv), (8, .slice none 0 0), (9, .int .i64 (0 : Nat))] (by simp only [hasAll, kS1, bLookup, bMapSet, wantA, isCall, stepOp, evalO, evalL, evalP, evalM, putDst, flat, kA, kB, Nat.reduceLT, ↓reduceIte, kC, Nat.reduceEqDiff, aBuiltin, abinG, guardFree, abin, aInt, aUn, aNilCheck, retQ, retQ1, aresults, aresultL, aresult, mkF, undefV, reduceCtorEq, kD, kE, kF, kG, kH, kI, kJ, kK, aExtract, calleeOf]; simp)
  ⟨0, _, [], rfl, Nat.zero_le _, rfl, GI.nil _, by simp, fun x => (by simp), Le.refl _, fun b hb => (by cases hb)⟩ ?_
 rintro k fr hz hwz ⟨j, pv, part, rfl, hj, rfl, gp, hpl, hpart, lez, ap⟩
 have lAz := lA hz (leq4.trans lez)
 simp only [kS1, bLookup, bMapSet, wantA, isCall, stepOp, evalO, evalL, evalP, evalM, putDst, flat, kA, kB, Nat.reduceLT, ↓reduceIte, kC, Nat.reduceEqDiff, aBuiltin, abinG, guardFree, abin, aInt, aUn, aNilCheck, retQ, retQ1, aresults, aresultL, aresult, mkF, undefV, reduceCtorEq, kD, kE, kF, kG, kH, kI, kJ, kK, aExtract, calleeOf, fg0, aadd, Nat.zero_add, lAz.2.1]
 refine KCond.intro (fun ht => ?_) (fun hf => ?_)
 ·have hlj : j < n := lt_t ht
  clear ht
  have hjl : j < L.length := by omega
  have hgj := getElem?_of hjl
  have adj_ := gl.rl.addr (P := Try.prog) Try.underlying35 Try.underlying3 (by kernel_rfl) (k := .i64) j hjl
  have ldj := (gl.le lez).rl.loadI (P := Try.prog) Try.underlying3 rfl j hjl
  have hiff := hL j _ hgj
  generalize L[j] = y at *
  by_cases c2 : y ≥ 0
  ·have d2 : decide (y ≥ 0) = true := decide_eq_true c2
   obtain ⟨v', h5, h6, e5, e6, g6, w6, l5, f6, k6⟩ := gp.push hwz (j : Int) (by omega)
   obtain ⟨l6, a6⟩ := f6 h4 lez ap
   simp only [kS1, bLookup, bMapSet, wantA, isCall, stepOp, evalO, evalL, evalP, evalM, putDst, flat, kA, kB, Nat.reduceLT, ↓reduceIte, kC, Nat.reduceEqDiff, aBuiltin, abinG, guardFree, abin, aInt, aUn, aNilCheck, retQ, retQ1, aresults, aresultL, aresult, mkF, undefV, reduceCtorEq, kD, kE, kF, kG, kH, kI, kJ, kK, aExtract, calleeOf, adj_, ldj, d2, e5, e6, awrap_succ j (by omega)]
   exact loop_again (n - (j + 1)) [(1, .pointer (some ⟨B, 0, none⟩)), (3, ov), (4, sv), (5, .int .i64 i), (6, dv), (8, v'), (9, .int .i64 (j + 1 : Nat))] (by omega) (by simp only [hasAll, kS1, bLookup, bMapSet, wantA, isCall, stepOp, evalO, evalL, evalP, evalM, putDst, flat, kA, kB, Nat.reduceLT, ↓reduceIte, kC, Nat.reduceEqDiff, aBuiltin, abinG, guardFree, abin, aInt, aUn, aNilCheck, retQ, retQ1, aresults, aresultL, aresult, mkF, undefV, reduceCtorEq, kD, kE, kF, kG, kH, kI, kJ, kK, aExtract, calleeOf]; simp)
    ⟨j + 1, v', part ++ [(j : Int)], rfl, hlj, rfl, g6, by simp; omega, fun x => by
     rw [List.mem_append, List.mem_singleton, hpart]
     constructor
     ·rintro (⟨h1, h2⟩ | h)
      ·exact ⟨by omega, h2⟩
      ·have : x = j := by omega
       subst this; exact ⟨by omega, hiff.1 c2⟩
     ·rintro ⟨h1, h2⟩
      by_cases e : x = j
      ·exact .inr (by rw [e])
      ·exact .inl ⟨by omega, h2⟩, l6, a6⟩
  ·have d2 : decide (y ≥ 0) = false := decide_eq_false c2
   simp only [kS1, bLookup, bMapSet, wantA, isCall, stepOp, evalO, evalL, evalP, evalM, putDst, flat, kA, kB, Nat.reduceLT, ↓reduceIte, kC, Nat.reduceEqDiff, aBuiltin, abinG, guardFree, abin, aInt, aUn, aNilCheck, retQ, retQ1, aresults, aresultL, aresult, mkF, undefV, reduceCtorEq, kD, kE, kF, kG, kH, kI, kJ, kK, aExtract, calleeOf, adj_, ldj, d2, awrap_succ j (by omega)]
   exact loop_again (n - (j + 1)) [(1, .pointer (some ⟨B, 0, none⟩)), (3, ov), (4, sv), (5, .int .i64 i), (6, dv), (8, pv), (9, .int .i64 (j + 1 : Nat))] (by omega) (by simp only [hasAll, kS1, bLookup, bMapSet, wantA, isCall, stepOp, evalO, evalL, evalP, evalM, putDst, flat, kA, kB, Nat.reduceLT, ↓reduceIte, kC, Nat.reduceEqDiff, aBuiltin, abinG, guardFree, abin, aInt, aUn, aNilCheck, retQ, retQ1, aresults, aresultL, aresult, mkF, undefV, reduceCtorEq, kD, kE, kF, kG, kH, kI, kJ, kK, aExtract, calleeOf]; simp)
    ⟨j + 1, pv, part, rfl, hlj, rfl, gp, by omega, fun x => by
     rw [hpart]
     constructor
     ·rintro ⟨h1, h2⟩; exact ⟨by omega, h2⟩
     ·rintro ⟨h1, h2⟩
      refine ⟨?_, h2⟩
      have : x ≠ j := fun e => by subst e; exact c2 (hiff.2 h2)
      omega, lez, ap⟩
 have hge : n ≤ j := lt_f hf
 obtain rfl : j = n := by omega
 have le4z := l4.trans lez
 obtain ⟨sv', h5, e5, gs5, w5, f5, k5⟩ := (gs.le le4z).join hwz gp.rl (by omega)
 obtain ⟨l5, a5⟩ := f5 h1 (leq4.trans lez) as_
 have go5 : GS 1 h5 ov us.length us := GS.kept (GS.le go le4z) fun b o hb ho => (k5 b o ho (dj b hb)).1
 have dj5 : ∀ b, blk ov = some b → blk sv' ≠ some b := fun b hb => by
  have := GS.blk_own (GS.le go le4z) hb
  cases ho : hz.own b with
  | none => exact absurd ho this
  | some o => exact (k5 b o ho (dj b hb)).2
 obtain ⟨h6, e6, l6, w6, o6⟩ := alloc_f w5 [pv]
 have mk6 := mkL52 h5 gp.rl.sl
 rw [e6] at mk6
 obtain ⟨ov', h7, e7, go7, f7⟩ := GS.push (P := Try.prog) (t := 57) (by kernel_rfl) (GS.le go5 l6) o6 g1c gp.rl.sl.one (by omega)
 have k7 := fun b o ho hb => keep_own (a := b) (o := o) (h := h6) (h' := h7) (v := ov) (v' := ov') f7 w6 ho hb
 obtain ⟨l7, a7⟩ := f7 h1 w6 (l5.trans l6) ao
 have gs7 : GI h7 sv' (seen ++ part) := GS.kept (GS.le gs5 l6) fun b o hb ho => (k7 b o ho (fun e => dj5 b e hb)).1
 have dj7 : ∀ b, blk ov' = some b → blk sv' ≠ some b := fun b hb e => by
  have := GS.blk_own (GS.le gs5 l6) e
  cases ho : h6.own b with
  | none => exact this ho
  | some o => exact (k7 b o ho (fun e' => dj5 b e' e)).2 hb
 have hh : heads (i + 1) es = heads i es ++ [i] := by
  rcases heads_succ i es with ⟨h, _⟩ | ⟨_, u, hu, hc⟩
  ·exact h
  ·exact absurd hc (hx u hu)
 simp only [kS1, bLookup, bMapSet, wantA, isCall, stepOp, evalO, evalL, evalP, evalM, putDst, flat, kA, kB, Nat.reduceLT, ↓reduceIte, kC, Nat.reduceEqDiff, aBuiltin, abinG, guardFree, abin, aInt, aUn, aNilCheck, retQ, retQ1, aresults, aresultL, aresult, mkF, undefV, reduceCtorEq, kD, kE, kF, kG, kH, kI, kJ, kK, aExtract, calleeOf, e5, mk6, e7, awrap_succ i (by omega)]
 exact loop_again (j - (i + 1)) [(1, .pointer (some ⟨B, 0, none⟩)), (3, ov'), (4, sv'), (5, .int .i64 (i + 1 : Nat))] (by omega) (by simp only [hasAll, kS1, bLookup, bMapSet, wantA, isCall, stepOp, evalO, evalL, evalP, evalM, putDst, flat, kA, kB, Nat.reduceLT, ↓reduceIte, kC, Nat.reduceEqDiff, aBuiltin, abinG, guardFree, abin, aInt, aUn, aNilCheck, retQ, retQ1, aresults, aresultL, aresult, mkF, undefV, reduceCtorEq, kD, kE, kF, kG, kH, kI, kJ, kK, aExtract, calleeOf]; simp)
  ⟨i + 1, ov', sv', us ++ [pv], seen ++ part, rfl, hlt, rfl, by rw [List.length_append]; exact go7, by simpa [gp.rl.sl.one] using g1c, by rw [hh]; simp [hul], gs7, by rw [List.length_append, Nat.add_mul]; omega, dj7, fun x hx' => by
   rw [List.mem_append, hseen x hx', hpart]
   constructor
   ·rintro (⟨u, hu, hc⟩ | ⟨_, hc⟩)
    ·exact ⟨u, by omega, hc⟩
    ·exact ⟨i, by omega, hc⟩
   ·rintro ⟨u, hu, hc⟩
    by_cases e : u = i
    ·subst e; exact .inr ⟨hx', hc⟩
    ·exact .inl ⟨u, by omega, hc⟩, l7, a7, a5⟩
end Go.Fw
namespace Go.Fw
open Go.Proofs
attribute [local irreducible] KO4 KO3 KO2 KO1 KO KN KX KE VK KCond KDraw KCall KLoop
set_option maxHeartbeats 16000000
set_option maxRecDepth 10000
theorem GX.push2 {h : AHeap} {X : Nat} {n : Int} {ev : Value} {ps : List Pr} (g : GX h X n ev ps) (hw : WF h) (p : Pr) (hn : ps.length + 1 ≤ 100000) :
  ∃ v' h4 h5 h6, aBuildSlice Try.prog h 22 1 [(0, valP p)] = some (.slice (some ⟨h.next, 0, none⟩) 1 1, h4) ∧ aAppend Try.prog h4 22 22 ev (.slice (some ⟨h.next, 0, none⟩) 1 1) = some (v', h5) ∧ aStore Try.prog h5 22 (.pointer (some ⟨X, 1, none⟩)) v' = some h6 ∧
   GX h6 X n v' (ps ++ [p]) ∧ WF h6 ∧ Le h h4 ∧ (∀ f, Le f h → f.own X = none → Apart f ev → Le f h6 ∧ Apart f v') ∧ (∀ b o, h.own b = some o → b ≠ X → blk ev ≠ some b → h6.own b = some o ∧ blk v' ≠ some b) ∧
   (∀ f, Le f h → Apart f ev → Le f h5) ∧ h5.own X = some (.cells [.int .i64 n, ev]) := by
 obtain ⟨v', h4, h5, e4, e5, g5, w5, l4, hf, hk⟩ := g.gp.push hw p hn
 obtain ⟨ox5, nx5⟩ := hk X _ g.ox g.ne
 have one := g5.pr.sl.one
 have hc : v'.cells = #[v'] := by obtain ⟨_, _, rfl, _⟩ := g5.pr.sl; rfl
 have st := aStore1 (P := Try.prog) (t := 22) (x := v') Try.underlying22 (by kernel_rfl) ox5 (off := 1) (by simp) hc one
 refine ⟨v', h4, h5, _, e4, e5, st, ⟨AHeap.own_put_eq _ _ _, GS.put g5 _ nx5, nx5⟩, w5.put _ (w5.lt ox5), l4, fun f lf nf af => ?_, fun b o hb hx he => ?_, fun f lf af => (hf f lf af).1, ox5⟩
 ·obtain ⟨l5, a5⟩ := hf f lf af
  exact ⟨l5.put _ nf, a5⟩
 ·obtain ⟨q1, q2⟩ := hk b o hb he
  exact ⟨by rw [AHeap.own_put_ne _ _ _ _ hx]; exact q1, q2⟩
theorem RWithout_any (W0 : Base) (v : Value) (n w : Nat) (es : List Pr) (h : AHeap) (hg : GR h v ⟨(n : Int), es⟩) (hn : es.length ≤ 1000) :
  AC Try.prog W0 65 [v, .int .i64 (w : Int)] h fun x h' => ∃ ev, x = .agg #[.int .i64 (n : Int), ev] ∧ GP h' ev (woV es w) ∧ Le h h' ∧ Apart h ev := by
 have hg0 := hg
 obtain ⟨ev, rfl, hp⟩ := hg.open
 refine AC.vc (fn := Try.f65) (c := _) ⟨Try.func65, rfl, by decide⟩ Try.ntmps65 Try.results65 (by simp) fun hwf => ?_
 simp only [argFrame, argFrom, Nat.reduceAdd]
 obtain ⟨h1, b1, le1, wf1, -, lA⟩ := boxG (n := (n : Int)) hwf hp
 generalize h.next = B at *
 obtain ⟨h2, e2, l2, w2, o2⟩ := alloc_f wf1 [.int .i64 0, .slice none 0 0]
 have lA2 := lA h2 l2
 have nR : h1.own h1.next = none := (Le.refl h1).next wf1 (Nat.le_refl _)
 obtain ⟨h3, h4, e3, e4, l4, w4, nX, gx4⟩ := GX.new w2 (n : Int)
 have lA4 := lA h4 (l2.trans l4)
 have neXR : h2.next ≠ h1.next := fun e => by rw [e, o2] at nX; cases nX
 have oR4 := l4.own _ _ o2
 have hlen := fun g => hp.len g
 have al := alloc24 h1
 rw [e2] at al
 simp only [kS1, bLookup, bMapSet, wantA, isCall, stepOp, evalO, evalL, evalP, evalM, putDst, flat, kA, kB, Nat.reduceLT, ↓reduceIte, kC, Nat.reduceEqDiff, aBuiltin, abinG, guardFree, abin, aInt, aUn, aNilCheck, retQ, retQ1, aresults, aresultL, aresult, mkF, undefV, reduceCtorEq, kD, kE, kF, kG, kH, kI, kJ, kK, aExtract, calleeOf, b1, al, fg0, fg1, aadd, Nat.zero_add, lA2.2.1, build24e, e3, e4]
 have nX1 := l2.none nX
 generalize h2.next = X at *
 generalize h1.next = R at *
 have aX : Apart h1 (.slice none 0 0) := fun b hb => by cases hb
 refine KLoop.intro (fun k fr hq => ∃ (i : Nat) (xv : Value), k = es.length - i ∧ i ≤ es.length ∧ fr = mkF [(1, .int .i64 (w : Int)), (2, .pointer (some ⟨B, 0, none⟩)), (4, .pointer (some ⟨R, 0, none⟩)), (5, .pointer (some ⟨X, 0, none⟩)), (6, .int .i64 i)] ∧
   GX hq X (n : Int) xv ((es.take i).filter fun p => !incB (w : Int) p) ∧ Le h1 hq ∧ Apart h1 xv ∧ hq.own R = some (.cells [.int .i64 0, .slice none 0 0]) ∧ blk xv ≠ some R)
  es.length [(1, .int .i64 (w : Int)), (2, .pointer (some ⟨B, 0, none⟩)), (4, .pointer (some ⟨R, 0, none⟩)), (5, .pointer (some ⟨X, 0, none⟩)), (6, .int .i64 (0 : Nat))] (by simp only [hasAll, kS1, bLookup, bMapSet, wantA, isCall, stepOp, evalO, evalL, evalP, evalM, putDst, flat, kA, kB, Nat.reduceLT, ↓reduceIte, kC, Nat.reduceEqDiff, aBuiltin, abinG, guardFree, abin, aInt, aUn, aNilCheck, retQ, retQ1, aresults, aresultL, aresult, mkF, undefV, reduceCtorEq, kD, kE, kF, kG, kH, kI, kJ, kK, aExtract, calleeOf]; simp)
  ⟨0, _, rfl, Nat.zero_le _, rfl, gx4, l2.trans l4, aX, oR4, by simp [blk]⟩ ?_
 clear gx4 aX oR4 lA4 w4 l4 e4 e3 o2 e2 lA2
 clear h3 h4
 rintro k fr hq hwq ⟨i, xv, rfl, hi, rfl, gx, leq, ax, oR, nxR⟩
 have lAq := lA hq leq
 simp only [kS1, bLookup, bMapSet, wantA, isCall, stepOp, evalO, evalL, evalP, evalM, putDst, flat, kA, kB, Nat.reduceLT, ↓reduceIte, kC, Nat.reduceEqDiff, aBuiltin, abinG, guardFree, abin, aInt, aUn, aNilCheck, retQ, retQ1, aresults, aresultL, aresult, mkF, undefV, reduceCtorEq, kD, kE, kF, kG, kH, kI, kJ, kK, aExtract, calleeOf, fg1, aadd, Nat.zero_add, lAq.2.2, hlen]
 refine KCond.intro (fun ht => ?_) (fun hf => ?_)
 ·have hlt : i < es.length := lt_t ht
  clear ht
  have hpi := getElem?_of hlt
  have htk : es.take (i + 1) = es.take i ++ [es[i]] := List.take_succ_eq_append_getElem hlt
  generalize es[i] = p at hpi htk
  have ad := hp.addr (k := .i64) i hlt
  have hpq := hp.le (le1.trans leq)
  have ld := hpq.load hpi
  have q0 := hpq.l0 hpi
  have q1 := hpq.l1 hpi
  simp only [aadd] at q0 q1
  simp only [Nat.add_zero] at q0
  have skip : incB (w : Int) p = true → (es.take (i + 1)).filter (fun p => !incB (w : Int) p) = (es.take i).filter (fun p => !incB (w : Int) p) := fun hb => by rw [htk, List.filter_append]; simp [hb]
  by_cases c1 : p.1 = (w : Int)
  ·have d1 : decide (p.1 = (w : Int)) = true := decide_eq_true c1
   simp only [kS1, bLookup, bMapSet, wantA, isCall, stepOp, evalO, evalL, evalP, evalM, putDst, flat, kA, kB, Nat.reduceLT, ↓reduceIte, kC, Nat.reduceEqDiff, aBuiltin, abinG, guardFree, abin, aInt, aUn, aNilCheck, retQ, retQ1, aresults, aresultL, aresult, mkF, undefV, reduceCtorEq, kD, kE, kF, kG, kH, kI, kJ, kK, aExtract, calleeOf, bne, fg1, aadd, Nat.zero_add, Nat.add_zero, lAq.2.2, ad, pa0, q0, d1, awrap_succ i (by omega)]
   exact loop_again (es.length - (i + 1)) [(1, .int .i64 (w : Int)), (2, .pointer (some ⟨B, 0, none⟩)), (4, .pointer (some ⟨R, 0, none⟩)), (5, .pointer (some ⟨X, 0, none⟩)), (6, .int .i64 (i + 1 : Nat))] (by omega) (by simp only [hasAll, kS1, bLookup, bMapSet, wantA, isCall, stepOp, evalO, evalL, evalP, evalM, putDst, flat, kA, kB, Nat.reduceLT, ↓reduceIte, kC, Nat.reduceEqDiff, aBuiltin, abinG, guardFree, abin, aInt, aUn, aNilCheck, retQ, retQ1, aresults, aresultL, aresult, mkF, undefV, reduceCtorEq, kD, kE, kF, kG, kH, kI, kJ, kK, aExtract, calleeOf]; simp)
    ⟨i + 1, xv, rfl, hlt, rfl, by rw [skip (by simp [incB, c1])]; exact gx, leq, ax, oR, nxR⟩
  have d1 : decide (p.1 = (w : Int)) = false := decide_eq_false c1
  by_cases c2 : p.2 = (w : Int)
  ·have d2 : decide (p.2 = (w : Int)) = true := decide_eq_true c2
   simp only [kS1, bLookup, bMapSet, wantA, isCall, stepOp, evalO, evalL, evalP, evalM, putDst, flat, kA, kB, Nat.reduceLT, ↓reduceIte, kC, Nat.reduceEqDiff, aBuiltin, abinG, guardFree, abin, aInt, aUn, aNilCheck, retQ, retQ1, aresults, aresultL, aresult, mkF, undefV, reduceCtorEq, kD, kE, kF, kG, kH, kI, kJ, kK, aExtract, calleeOf, bne, fg1, aadd, Nat.zero_add, Nat.add_zero, lAq.2.2, ad, pa0, pa1, q0, q1, d1, d2, awrap_succ i (by omega)]
   exact loop_again (es.length - (i + 1)) [(1, .int .i64 (w : Int)), (2, .pointer (some ⟨B, 0, none⟩)), (4, .pointer (some ⟨R, 0, none⟩)), (5, .pointer (some ⟨X, 0, none⟩)), (6, .int .i64 (i + 1 : Nat))] (by omega) (by simp only [hasAll, kS1, bLookup, bMapSet, wantA, isCall, stepOp, evalO, evalL, evalP, evalM, putDst, flat, kA, kB, Nat.reduceLT, ↓reduceIte, kC, Nat.reduceEqDiff, aBuiltin, abinG, guardFree, abin, aInt, aUn, aNilCheck, retQ, retQ1, aresults, aresultL, aresult, mkF, undefV, reduceCtorEq, kD, kE, kF, kG, kH, kI, kJ, kK, aExtract, calleeOf]; simp)
    ⟨i + 1, xv, rfl, hlt, rfl, by rw [skip (by simp [incB, c2])]; exact gx, leq, ax, oR, nxR⟩
  have d2 : decide (p.2 = (w : Int)) = false := decide_eq_false c2
  have hfl : (es.take (i + 1)).filter (fun p => !incB (w : Int) p) = (es.take i).filter (fun p => !incB (w : Int) p) ++ [p] := by rw [htk, List.filter_append]; simp [incB, c1, c2]
  have hbl : ((es.take i).filter fun p => !incB (w : Int) p).length ≤ i := by have := List.length_filter_le (fun p => !incB (w : Int) p) (es.take i); simp at this; omega
  obtain ⟨v', g4, g5, g6, q4, q5, q6, gx9, w9, lq4, f9, k9, f5, oX5⟩ := gx.push2 hwq p (by omega)
  have le5 := f5 h1 leq ax
  have lA5 := lA g5 le5
  have glg5 : aload Try.prog g5 22 ⟨X, 1, none⟩ = some xv := aload_one Try.underlying22 rfl oX5
  have ld5 := (hp.le (le1.trans le5)).load hpi
  obtain ⟨l9, a9⟩ := f9 h1 leq nX1 ax
  obtain ⟨oR9, nR9⟩ := k9 R _ oR (Ne.symm neXR) nxR
  have gl := gx.ld
  have lAg4 := lA g4 (leq.trans lq4)
  have glg4 := (gx.le lq4).ld
  have ld4 := (hpq.le lq4).load hpi
  simp only [kS1, bLookup, bMapSet, wantA, isCall, stepOp, evalO, evalL, evalP, evalM, putDst, flat, kA, kB, Nat.reduceLT, ↓reduceIte, kC, Nat.reduceEqDiff, aBuiltin, abinG, guardFree, abin, aInt, aUn, aNilCheck, retQ, retQ1, aresults, aresultL, aresult, mkF, undefV, reduceCtorEq, kD, kE, kF, kG, kH, kI, kJ, kK, aExtract, calleeOf, bne, fg1, aadd, Nat.zero_add, Nat.add_zero, lAq.2.2, ad, pa0, pa1, q0, q1, d1, d2]
  refine KDraw.intro mixed (.fl 0 (.fl 1 (.fl 2 (.fl 3 (.fl 4 (.fl 5 (.fl 6 (.ch 7 [6] (.ch 8 [1, 7] (.fl 9 (.ch 10 [0, 1, 2, 3, 4, 5, 6, 7, 8, 9] (.done) .no)) .no) .no)))))))) (by kernel_rfl) ?_
  simp only [kS1, bLookup, bMapSet, wantA, isCall, stepOp, evalO, evalL, evalP, evalM, putDst, flat, kA, kB, Nat.reduceLT, ↓reduceIte, kC, Nat.reduceEqDiff, aBuiltin, abinG, guardFree, abin, aInt, aUn, aNilCheck, retQ, retQ1, aresults, aresultL, aresult, mkF, undefV, reduceCtorEq, kD, kE, kF, kG, kH, kI, kJ, kK, aExtract, calleeOf, kD1, Nat.reduceBEq, HoldsAll, kL, kM, kN, kO, fg1, aadd, Nat.zero_add, Nat.add_zero, gl.2.2, glg4.2.2, glg5, lAq.2.2, lAg4.2.2, lA5.2.2, ad, ld, ld4, ld5, q4, q5, q6, awrap_succ i (by omega)]
  exact loop_again (es.length - (i + 1)) [(1, .int .i64 (w : Int)), (2, .pointer (some ⟨B, 0, none⟩)), (4, .pointer (some ⟨R, 0, none⟩)), (5, .pointer (some ⟨X, 0, none⟩)), (6, .int .i64 (i + 1 : Nat))] (by omega) (by simp only [hasAll, kS1, bLookup, bMapSet, wantA, isCall, stepOp, evalO, evalL, evalP, evalM, putDst, flat, kA, kB, Nat.reduceLT, ↓reduceIte, kC, Nat.reduceEqDiff, aBuiltin, abinG, guardFree, abin, aInt, aUn, aNilCheck, retQ, retQ1, aresults, aresultL, aresult, mkF, undefV, reduceCtorEq, kD, kE, kF, kG, kH, kI, kJ, kK, aExtract, calleeOf]; simp)
   ⟨i + 1, v', rfl, hlt, rfl, by rw [hfl]; exact gx9, l9, a9, oR9, nR9⟩
 ·have hge : es.length ≤ i := lt_f hf
  rw [List.take_of_length_le hge] at gx
  have gl := gx.ld
  have ts24 : tsize Try.prog 24 = 2 := by kernel_rfl
  have one := gx.gp.pr.sl.one
  have st : aStore Try.prog hq 24 (.pointer (some ⟨R, 0, none⟩)) (.agg #[.int .i64 (n : Int), xv]) = some (hq.put R (.cells [.int .i64 (n : Int), xv])) := by
   have hc : (Value.agg #[.int .i64 (n : Int), xv]).cells = #[.int .i64 (n : Int), xv] := rfl
   have h0 : (Value.int IntKind.i64 (n : Int)).oneCell' = true := rfl
   simp [aStore, oR, hc, ts24, putCells, Try.underlying24, one, h0]
  have oo := AHeap.own_put_eq hq R (.cells [.int .i64 (n : Int), xv])
  have ldR : aload Try.prog (hq.put R (.cells [.int .i64 (n : Int), xv])) 24 ⟨R, 0, none⟩ = some (.agg #[.int .i64 (n : Int), xv]) := by
   rw [aload_own Try.underlying24 rfl ts24 oo (by simp)]; rfl
  simp only [kS1, bLookup, bMapSet, wantA, isCall, stepOp, evalO, evalL, evalP, evalM, putDst, flat, kA, kB, Nat.reduceLT, ↓reduceIte, kC, Nat.reduceEqDiff, aBuiltin, abinG, guardFree, abin, aInt, aUn, aNilCheck, retQ, retQ1, aresults, aresultL, aresult, mkF, undefV, reduceCtorEq, kD, kE, kF, kG, kH, kI, kJ, kK, aExtract, calleeOf, gl.1, st, ldR]
  exact ⟨xv, rfl, GS.put gx.gp _ nxR, (le1.trans leq).put _ (le1.none nR), fun b hb => le1.none (ax b hb)⟩
end Go.Fw
