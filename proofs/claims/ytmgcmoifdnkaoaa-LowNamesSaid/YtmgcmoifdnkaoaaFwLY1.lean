/- One of the texts of the layer and the walks: it proves what its theorems say of the functions of the seat, with no condition beyond theirs. -/
import Derived.Test.YtmgcmoifdnkaoaaFwLB1
set_option linter.unusedSimpArgs false
set_option linter.unusedVariables false
namespace Go.Fw
open Go.Proofs
attribute [local irreducible] KO4 KO3 KO2 KO1 KO KN KX KE VK KCond KDraw KCall KLoop
set_option maxHeartbeats 8000000
set_option maxRecDepth 10000
theorem Back_any (W0 : Base) (v : Value) (xs : List Int) (h : AHeap) (hv : RL isI h v xs) : AC Try.prog W0 86 [v] h fun x h' => ∃ B, x = .func (.func 96) #[] #[.pointer (some ⟨B, 0, none⟩)] ∧ h.next ≤ B ∧ h'.own B = some (.cells [v]) ∧ Le h h' := by
  refine AC.vc (fn := Try.f86) (c := _) ⟨Try.func86, rfl, by decide⟩ Try.ntmps86 Try.results86 (by simp) fun hwf => ?_
  simp only [argFrame, argFrom, Nat.reduceAdd]
  obtain ⟨h1, e1, l1, w1, o1⟩ := alloc_f hwf [v]
  have b1 : aBox h v = some (.pointer (some ⟨h.next, 0, none⟩), h1) := by
    rw [← e1]; obtain ⟨_, _, rfl, _⟩ := hv.sl; rfl
  simp only [kS1, bLookup, bMapSet, wantA, isCall, stepOp, evalO, evalL, evalP, evalM, putDst, flat, kA, kB, Nat.reduceLT, ↓reduceIte, kC, Nat.reduceEqDiff, aBuiltin, abinG, guardFree, abin, aInt, aUn, aNilCheck, retQ, retQ1, aresults, aresultL, aresult, mkF, undefV, reduceCtorEq, kD, kE, kF, kG, kH, kI, kJ, kK, aExtract, calleeOf, b1]
  exact ⟨h.next, rfl, Nat.le_refl _, o1, l1⟩
theorem Back1_any (W1 : Base) (lp B : Nat) (v : Value) (xs : List Int) (I : Nat → AHeap → Prop) (h : AHeap) (hn : xs.length < 1000000)
    (hI : ∀ i g, I i g → g.own B = some (.cells [v]) ∧ RL isI g v xs) (h0 : I xs.length h)
    (hy : ∀ i g (hi : i < xs.length), WF g → h.next ≤ g.next → I (i + 1) g → AY Try.prog W1 lp [.int .i64 i, .int .i64 xs[i]] g fun x g' => x = .bool true ∧ h.next ≤ g'.next ∧ I i g') :
    AC Try.prog W1 96 [yieldV lp, .pointer (some ⟨B, 0, none⟩)] h fun _ h' => I 0 h' := by
  have ld : ∀ i g, I i g → aload Try.prog g 35 ⟨B, 0, none⟩ = some v := fun i g hi => by rw [aload_one Try.underlying35 rfl (hI i g hi).1]; rfl
  refine AC.vc (fn := Try.f96) (c := _) ⟨Try.func96, rfl, by decide⟩ Try.ntmps96 Try.results96 (by simp) fun hwf => ?_
  simp only [argFrame, argFrom, Nat.reduceAdd]
  have w1 : awrap .i64 ((xs.length : Int) - 1) = (xs.length : Int) - 1 := awrap_i64 _ (by omega) (by omega)
  simp only [kS1, bLookup, bMapSet, wantA, isCall, stepOp, evalO, evalL, evalP, evalM, putDst, flat, kA, kB, Nat.reduceLT, ↓reduceIte, kC, Nat.reduceEqDiff, aBuiltin, abinG, guardFree, abin, aInt, aUn, aNilCheck, retQ, retQ1, aresults, aresultL, aresult, mkF, undefV, reduceCtorEq, kD, kE, kF, kG, kH, kI, kJ, kK, aExtract, calleeOf, ld _ _ h0, (hI _ _ h0).2.len Try.underlying35, w1]
  refine KLoop.intro (fun k fr g => ∃ i : Nat, k = i ∧ i ≤ xs.length ∧ fr = mkF [(0, yieldV lp), (1, .pointer (some ⟨B, 0, none⟩)), (3, .int .i64 ((i : Int) - 1))] ∧ h.next ≤ g.next ∧ I i g) xs.length [(0, yieldV lp), (1, .pointer (some ⟨B, 0, none⟩)), (3, .int .i64 ((xs.length : Int) - 1))] (by simp only [hasAll, kS1, bLookup, bMapSet, wantA, isCall, stepOp, evalO, evalL, evalP, evalM, putDst, flat, kA, kB, Nat.reduceLT, ↓reduceIte, kC, Nat.reduceEqDiff, aBuiltin, abinG, guardFree, abin, aInt, aUn, aNilCheck, retQ, retQ1, aresults, aresultL, aresult, mkF, undefV, reduceCtorEq, kD, kE, kF, kG, kH, kI, kJ, kK, aExtract, calleeOf]; simp) ⟨xs.length, rfl, Nat.le_refl _, rfl, Nat.le_refl _, h0⟩ ?_
  rintro k fr g wg ⟨i, rfl, hi, rfl, hle, hIi⟩
  simp only [kS1, bLookup, bMapSet, wantA, isCall, stepOp, evalO, evalL, evalP, evalM, putDst, flat, kA, kB, Nat.reduceLT, ↓reduceIte, kC, Nat.reduceEqDiff, aBuiltin, abinG, guardFree, abin, aInt, aUn, aNilCheck, retQ, retQ1, aresults, aresultL, aresult, mkF, undefV, reduceCtorEq, kD, kE, kF, kG, kH, kI, kJ, kK, aExtract, calleeOf]
  refine KCond.intro (fun ht => ?_) (fun hf => ?_)
  · have hi0 : 1 ≤ k := by simp at ht; omega
    obtain ⟨j, rfl⟩ : ∃ j, k = j + 1 := ⟨k - 1, by omega⟩
    have hj : j < xs.length := by omega
    have ej : ((j + 1 : Nat) : Int) - 1 = (j : Int) := by omega
    have ad := (hI _ _ hIi).2.addr (k := .i64) Try.underlying35 Try.underlying3 rfl j hj
    have le := (hI _ _ hIi).2.loadI (P := Try.prog) Try.underlying3 rfl j hj
    simp only [kS1, bLookup, bMapSet, wantA, isCall, stepOp, evalO, evalL, evalP, evalM, putDst, flat, kA, kB, Nat.reduceLT, ↓reduceIte, kC, Nat.reduceEqDiff, aBuiltin, abinG, guardFree, abin, aInt, aUn, aNilCheck, retQ, retQ1, aresults, aresultL, aresult, mkF, undefV, reduceCtorEq, kD, kE, kF, kG, kH, kI, kJ, kK, aExtract, calleeOf, ej, ld _ _ hIi, ad, le]
    refine KCall.yield (by simp only [kS1, bLookup, bMapSet, wantA, isCall, stepOp, evalO, evalL, evalP, evalM, putDst, flat, kA, kB, Nat.reduceLT, ↓reduceIte, kC, Nat.reduceEqDiff, aBuiltin, abinG, guardFree, abin, aInt, aUn, aNilCheck, retQ, retQ1, aresults, aresultL, aresult, mkF, undefV, reduceCtorEq, kD, kE, kF, kG, kH, kI, kJ, kK, aExtract, calleeOf, yieldOf] <;> rfl) (hy j g hj wg hle hIi) ?_
    rintro x g' wg' ⟨rfl, hle', hI'⟩
    have w2 : awrap .i64 ((j : Int) - 1) = (j : Int) - 1 := awrap_i64 _ (by omega) (by omega)
    simp only [kS1, bLookup, bMapSet, wantA, isCall, stepOp, evalO, evalL, evalP, evalM, putDst, flat, kA, kB, Nat.reduceLT, ↓reduceIte, kC, Nat.reduceEqDiff, aBuiltin, abinG, guardFree, abin, aInt, aUn, aNilCheck, retQ, retQ1, aresults, aresultL, aresult, mkF, undefV, reduceCtorEq, kD, kE, kF, kG, kH, kI, kJ, kK, aExtract, calleeOf, w2]
    exact loop_again j [(0, yieldV lp), (1, .pointer (some ⟨B, 0, none⟩)), (3, .int .i64 ((j : Int) - 1))] (by omega) (by simp only [hasAll, kS1, bLookup, bMapSet, wantA, isCall, stepOp, evalO, evalL, evalP, evalM, putDst, flat, kA, kB, Nat.reduceLT, ↓reduceIte, kC, Nat.reduceEqDiff, aBuiltin, abinG, guardFree, abin, aInt, aUn, aNilCheck, retQ, retQ1, aresults, aresultL, aresult, mkF, undefV, reduceCtorEq, kD, kE, kF, kG, kH, kI, kJ, kK, aExtract, calleeOf]; simp) ⟨j, rfl, by omega, rfl, hle', hI'⟩
  · have hi0 : k = 0 := by simp at hf; omega
    subst hi0
    simp only [kS1, bLookup, bMapSet, wantA, isCall, stepOp, evalO, evalL, evalP, evalM, putDst, flat, kA, kB, Nat.reduceLT, ↓reduceIte, kC, Nat.reduceEqDiff, aBuiltin, abinG, guardFree, abin, aInt, aUn, aNilCheck, retQ, retQ1, aresults, aresultL, aresult, mkF, undefV, reduceCtorEq, kD, kE, kF, kG, kH, kI, kJ, kK, aExtract, calleeOf]
    exact hIi
end Go.Fw
