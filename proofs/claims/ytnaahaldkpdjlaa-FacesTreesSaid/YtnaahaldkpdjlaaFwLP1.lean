/- A text of the proof. -/
import Derived.Test.YtnaahaldkpdjlaaFwLB14
import Derived.Test.YtnaahaldkpdjlaaFwLBR
import Derived.Test.YtnaahaldkpdjlaaFwFrame
set_option linter.unusedSimpArgs false
set_option linter.unusedVariables false
namespace Go.Fw
open Go.Proofs
set_option maxHeartbeats 4000000
set_option maxRecDepth 10000
theorem sorted_eq : ∀ (a b : List Int), a.Pairwise (· < ·) → b.Pairwise (· < ·) → (∀ x, x ∈ a ↔ x ∈ b) → a = b
 | [], [], _, _, _ => rfl
 | [], y :: b, _, _, h => by have := (h y).2 (by simp); simp at this
 | x :: a, [], _, _, h => by have := (h x).1 (by simp); simp at this
 | x :: a, y :: b, ha, hb, h => by
  rw [List.pairwise_cons] at ha hb
  have e : x = y := by
   have h1 := (h x).1 (by simp)
   have h2 := (h y).2 (by simp)
   rw [List.mem_cons] at h1 h2
   rcases h1 with h1 | h1
   ·exact h1
   ·rcases h2 with h2 | h2
    ·exact h2.symm
    ·have := hb.1 x h1; have := ha.1 y h2; omega
  subst e
  rw [sorted_eq a b ha.2 hb.2 fun z => ?_]
  constructor
  ·intro hz
   have := (h z).1 (by simp [hz])
   rw [List.mem_cons] at this
   rcases this with rfl | h'
   ·have := ha.1 z hz; omega
   ·exact h'
  ·intro hz
   have := (h z).2 (by simp [hz])
   rw [List.mem_cons] at this
   rcases this with rfl | h'
   ·have := hb.1 z hz; omega
   ·exact h'
theorem sortI_mem (l : List Int) (x : Int) : x ∈ sortI l ↔ x ∈ l := by simp [sortI]
theorem sortI_le (l : List Int) : (sortI l).Pairwise (· ≤ ·) := by
 have := List.pairwise_mergeSort (le := fun x y : Int => decide (x ≤ y)) (fun a b c h1 h2 => by simp at *; omega) (fun a b => by simp; omega) l
 simpa [sortI] using this
end Go.Fw
namespace Go.Fw
open Go.Proofs
attribute [local irreducible] KO4 KO3 KO2 KO1 KO KN KX KE VK KCond KDraw KCall KLoop
set_option maxHeartbeats 8000000
set_option maxRecDepth 10000
theorem start_any (W0 : Base) (v wv : Value) (G : GM) (xs : List Int) (h : AHeap) (hg : GR h v G) (hw : RL isI h wv xs) (hn : xs.length ≤ 100000) :
  AC Try.prog W0 61 [v, wv] h fun x h' => Le h h' ∧ ∃ lv e, x = .tuple #[lv, .int .i64 e] ∧
   ((¬ RightG G ∧ lv = .slice none 0 0 ∧ e = 20) ∨ (RightG G ∧ (¬ ∀ x ∈ xs, 0 ≤ x ∧ x < G.n) ∧ lv = .slice none 0 0 ∧ e = 2) ∨
    (RightG G ∧ (∀ x ∈ xs, 0 ≤ x ∧ x < G.n) ∧ e = 0 ∧ RL (RL isI) h' lv (besM G.n.toNat G.es))) := by
 have hg0 := hg
 obtain ⟨gn, es⟩ := G
 obtain ⟨ev, rfl, hp⟩ := hg.open
 refine AC.vc (fn := Try.f61) (c := _) ⟨Try.func61, rfl, by decide⟩ Try.ntmps61 Try.results61 (by simp) fun hwf => ?_
 simp only [argFrame, argFrom, Nat.reduceAdd]
 obtain ⟨h1, b1, le1, wf1, -, lA⟩ := boxG (n := gn) hwf hp
 generalize h.next = B at *
 have lA1 := lA h1 (Le.refl _)
 simp only [kS1, bLookup, bMapSet, wantA, isCall, stepOp, evalO, evalL, evalP, evalM, putDst, flat, kA, kB, Nat.reduceLT, ↓reduceIte, kC, Nat.reduceEqDiff, aBuiltin, abinG, guardFree, abin, aInt, aUn, aNilCheck, retQ, retQ1, aresults, aresultL, aresult, mkF, undefV, reduceCtorEq, kD, kE, kF, kG, kH, kI, kJ, kK, aExtract, calleeOf, b1, lA1.1]
 refine KCall.intro (by simp only [kS1, bLookup, bMapSet, wantA, isCall, stepOp, evalO, evalL, evalP, evalM, putDst, flat, kA, kB, Nat.reduceLT, ↓reduceIte, kC, Nat.reduceEqDiff, aBuiltin, abinG, guardFree, abin, aInt, aUn, aNilCheck, retQ, retQ1, aresults, aresultL, aresult, mkF, undefV, reduceCtorEq, kD, kE, kF, kG, kH, kI, kJ, kK, aExtract, calleeOf] <;> rfl) ⟨Try.func57, rfl, by decide⟩ (Right_any W0 _ _ h1 (hg0.le le1)) ?_
 rintro x h2 wf2 ⟨⟨bb, rfl, hbb⟩, le2⟩
 cases bb with
 | false =>
  simp only [kS1, bLookup, bMapSet, wantA, isCall, stepOp, evalO, evalL, evalP, evalM, putDst, flat, kA, kB, Nat.reduceLT, ↓reduceIte, kC, Nat.reduceEqDiff, aBuiltin, abinG, guardFree, abin, aInt, aUn, aNilCheck, retQ, retQ1, aresults, aresultL, aresult, mkF, undefV, reduceCtorEq, kD, kE, kF, kG, kH, kI, kJ, kK, aExtract, calleeOf]
  exact ⟨le1.trans le2, _, _, rfl, .inl ⟨(fun hr => by cases hbb.2 hr), rfl, rfl⟩⟩
 | true =>
 have hr := hbb.1 rfl
 have h0 : 0 ≤ gn := hr.n0
 obtain ⟨n, rfl⟩ := Int.eq_ofNat_of_zero_le h0
 have lw := fun g => hw.len (P := Try.prog) Try.underlying38 g
 simp only [kS1, bLookup, bMapSet, wantA, isCall, stepOp, evalO, evalL, evalP, evalM, putDst, flat, kA, kB, Nat.reduceLT, ↓reduceIte, kC, Nat.reduceEqDiff, aBuiltin, abinG, guardFree, abin, aInt, aUn, aNilCheck, retQ, retQ1, aresults, aresultL, aresult, mkF, undefV, reduceCtorEq, kD, kE, kF, kG, kH, kI, kJ, kK, aExtract, calleeOf, lw]
 refine KLoop.intro (fun k fr hq => ∃ i : Nat, k = xs.length - i ∧ i ≤ xs.length ∧ fr = mkF [(2, .pointer (some ⟨B, 0, none⟩)), (11, wv), (12, .int .i64 xs.length), (13, .int .i64 i)] ∧ hq = h2 ∧ ∀ (j : Nat) x, j < i → xs[j]? = some x → 0 ≤ x ∧ x < (n : Int))
  xs.length [(2, .pointer (some ⟨B, 0, none⟩)), (11, wv), (12, .int .i64 xs.length), (13, .int .i64 (0 : Nat))] (by simp only [hasAll, kS1, bLookup, bMapSet, wantA, isCall, stepOp, evalO, evalL, evalP, evalM, putDst, flat, kA, kB, Nat.reduceLT, ↓reduceIte, kC, Nat.reduceEqDiff, aBuiltin, abinG, guardFree, abin, aInt, aUn, aNilCheck, retQ, retQ1, aresults, aresultL, aresult, mkF, undefV, reduceCtorEq, kD, kE, kF, kG, kH, kI, kJ, kK, aExtract, calleeOf]; simp) ⟨0, rfl, Nat.zero_le _, rfl, rfl, by omega⟩ ?_
 rintro k fr hq hwq ⟨i, rfl, hi, rfl, rfl, hall⟩
 have lA2 := lA hq le2
 simp only [kS1, bLookup, bMapSet, wantA, isCall, stepOp, evalO, evalL, evalP, evalM, putDst, flat, kA, kB, Nat.reduceLT, ↓reduceIte, kC, Nat.reduceEqDiff, aBuiltin, abinG, guardFree, abin, aInt, aUn, aNilCheck, retQ, retQ1, aresults, aresultL, aresult, mkF, undefV, reduceCtorEq, kD, kE, kF, kG, kH, kI, kJ, kK, aExtract, calleeOf]
 refine KCond.intro (fun ht => ?_) (fun hf => ?_)
 ·have hlt : i < xs.length := lt_t ht
  clear ht
  have hxi := getElem?_of hlt
  have ad := hw.addr (P := Try.prog) Try.underlying38 Try.underlying3 (by kernel_rfl) (k := .i64) i hlt
  have ld := (hw.le Stays.isI (le1.trans le2)).loadI (P := Try.prog) Try.underlying3 rfl i hlt
  generalize xs[i] = y at hxi ld
  by_cases c1 : y < 0
  ·simp only [kS1, bLookup, bMapSet, wantA, isCall, stepOp, evalO, evalL, evalP, evalM, putDst, flat, kA, kB, Nat.reduceLT, ↓reduceIte, kC, Nat.reduceEqDiff, aBuiltin, abinG, guardFree, abin, aInt, aUn, aNilCheck, retQ, retQ1, aresults, aresultL, aresult, mkF, undefV, reduceCtorEq, kD, kE, kF, kG, kH, kI, kJ, kK, aExtract, calleeOf, ad, ld, c1]
   exact ⟨le1.trans le2, _, _, rfl, .inr (.inl ⟨hr, fun hh => by have := hh y (List.mem_of_getElem? hxi); omega, rfl, rfl⟩)⟩
  by_cases c2 : y ≥ (n : Int)
  ·simp only [kS1, bLookup, bMapSet, wantA, isCall, stepOp, evalO, evalL, evalP, evalM, putDst, flat, kA, kB, Nat.reduceLT, ↓reduceIte, kC, Nat.reduceEqDiff, aBuiltin, abinG, guardFree, abin, aInt, aUn, aNilCheck, retQ, retQ1, aresults, aresultL, aresult, mkF, undefV, reduceCtorEq, kD, kE, kF, kG, kH, kI, kJ, kK, aExtract, calleeOf, ad, ld, c1, c2, fg0, aadd, Nat.zero_add, lA2.2.1]
   exact ⟨le1.trans le2, _, _, rfl, .inr (.inl ⟨hr, fun hh => by have := hh y (List.mem_of_getElem? hxi); omega, rfl, rfl⟩)⟩
  simp only [kS1, bLookup, bMapSet, wantA, isCall, stepOp, evalO, evalL, evalP, evalM, putDst, flat, kA, kB, Nat.reduceLT, ↓reduceIte, kC, Nat.reduceEqDiff, aBuiltin, abinG, guardFree, abin, aInt, aUn, aNilCheck, retQ, retQ1, aresults, aresultL, aresult, mkF, undefV, reduceCtorEq, kD, kE, kF, kG, kH, kI, kJ, kK, aExtract, calleeOf, ad, ld, c1, c2, fg0, aadd, Nat.zero_add, lA2.2.1, awrap_succ i (by omega)]
  exact loop_again (xs.length - (i + 1)) [(2, .pointer (some ⟨B, 0, none⟩)), (11, wv), (12, .int .i64 xs.length), (13, .int .i64 (i + 1 : Nat))] (by omega) (by simp only [hasAll, kS1, bLookup, bMapSet, wantA, isCall, stepOp, evalO, evalL, evalP, evalM, putDst, flat, kA, kB, Nat.reduceLT, ↓reduceIte, kC, Nat.reduceEqDiff, aBuiltin, abinG, guardFree, abin, aInt, aUn, aNilCheck, retQ, retQ1, aresults, aresultL, aresult, mkF, undefV, reduceCtorEq, kD, kE, kF, kG, kH, kI, kJ, kK, aExtract, calleeOf]; simp) ⟨i + 1, rfl, hlt, rfl, rfl, fun j x hj hx => by
   by_cases e : j = i
   ·subst e; rw [hxi] at hx; injection hx with hx; subst hx; omega
   ·exact hall j x (by omega) hx⟩
 ·have hge : xs.length ≤ i := lt_f hf
  simp only [kS1, bLookup, bMapSet, wantA, isCall, stepOp, evalO, evalL, evalP, evalM, putDst, flat, kA, kB, Nat.reduceLT, ↓reduceIte, kC, Nat.reduceEqDiff, aBuiltin, abinG, guardFree, abin, aInt, aUn, aNilCheck, retQ, retQ1, aresults, aresultL, aresult, mkF, undefV, reduceCtorEq, kD, kE, kF, kG, kH, kI, kJ, kK, aExtract, calleeOf, lA2.1]
  refine KCall.intro (by simp only [kS1, bLookup, bMapSet, wantA, isCall, stepOp, evalO, evalL, evalP, evalM, putDst, flat, kA, kB, Nat.reduceLT, ↓reduceIte, kC, Nat.reduceEqDiff, aBuiltin, abinG, guardFree, abin, aInt, aUn, aNilCheck, retQ, retQ1, aresults, aresultL, aresult, mkF, undefV, reduceCtorEq, kD, kE, kF, kG, kH, kI, kJ, kK, aExtract, calleeOf] <;> rfl) ⟨Try.func55, rfl, by decide⟩ (Beside_any W0 _ n es hq (hg0.le (le1.trans le2)) hr) ?_
  rintro rv h3 wf3 ⟨hrows, le3⟩
  simp only [kS1, bLookup, bMapSet, wantA, isCall, stepOp, evalO, evalL, evalP, evalM, putDst, flat, kA, kB, Nat.reduceLT, ↓reduceIte, kC, Nat.reduceEqDiff, aBuiltin, abinG, guardFree, abin, aInt, aUn, aNilCheck, retQ, retQ1, aresults, aresultL, aresult, mkF, undefV, reduceCtorEq, kD, kE, kF, kG, kH, kI, kJ, kK, aExtract, calleeOf]
  refine ⟨(le1.trans le2).trans le3, _, _, rfl, .inr (.inr ⟨hr, fun x hx => ?_, rfl, hrows⟩)⟩
  obtain ⟨j, hj⟩ := List.mem_iff_getElem?.1 hx
  exact hall j x (by have := (List.getElem?_eq_some_iff.1 hj).1; omega) hj
def GU (h : AHeap) (v : Value) (xs : List Int) : Prop := GT 1 h v xs.length (I64 xs)
theorem GU.le {h h' : AHeap} {v : Value} {xs : List Int} (g : GU h v xs) (e : Le h h') : GU h' v xs := GT.le g e
theorem GU.rl {h : AHeap} {v : Value} {xs : List Int} (g : GU h v xs) : RL isI h v xs := RL.ofI (GT.cs g).rs
theorem GU.push {h : AHeap} {v : Value} {xs : List Int} (g : GU h v xs) (hwf : WF h) (x : Int) (hn : xs.length ≤ 100000) :
  ∃ v' h4 h5, aBuildSlice Try.prog h 38 1 [(0, .int .i64 x)] = some (.slice (some ⟨h.next, 0, none⟩) 1 1, h4) ∧ aAppend Try.prog h4 38 38 v (.slice (some ⟨h.next, 0, none⟩) 1 1) = some (v', h5) ∧ GU h5 v' (xs ++ [x]) ∧ WF h5 ∧ Le h h4 ∧
   (∀ f, Le f h → Apart f v → Le f h5 ∧ Apart f v') ∧ (∀ b o, h.own b = some o → blk v ≠ some b → h5.own b = some o ∧ blk v' ≠ some b) := by
 obtain ⟨h4, e4, l4, w4, o4⟩ := alloc_f hwf [.int .i64 x]
 obtain ⟨v', h5, e5, g5, hf⟩ := (GT.le g l4).push (P := Try.prog) (t := 38) (by kernel_rfl) o4 (I64_one _) rfl (by omega)
 refine ⟨v', h4, h5, by rw [mk1, e4], e5, ?_, aAppend_wf w4 e5, l4, fun f lf af => hf f w4 (lf.trans l4) af, fun b o ho hb => keep_own hf w4 (l4.own _ _ ho) hb⟩
 have : I64 xs ++ [.int .i64 x] = I64 (xs ++ [x]) := by simp [I64]
 rw [GU, ← this, List.length_append]; exact g5
theorem GU.cut {h : AHeap} {v : Value} {xs : List Int} (g : GU h v xs) (m : Nat) (hm : m ≤ xs.length) : ∃ v', aSlice Try.prog 38 v none (some (.int .i64 m)) none = some v' ∧ GU h v' (xs.take m) ∧ blk v' = blk v := by
 obtain ⟨v', e, g', b⟩ := GT.cut (P := Try.prog) Try.underlying38 Try.underlying3 (by kernel_rfl) g m hm
 refine ⟨v', e, ?_, b⟩
 rw [GU, I64, List.map_take, List.length_take, Nat.min_eq_left hm]
 simpa [I64] using g'
theorem GU.kept {h h' : AHeap} {v : Value} {xs : List Int} (g : GU h v xs) (hk : ∀ b o, blk v = some b → h.own b = some o → h'.own b = some o) : GU h' v xs := GT.kept g hk
def Bo (l : List Bool) : List Value := l.map Value.bool
theorem Bo_length (l : List Bool) : (Bo l).length = l.length := by simp [Bo]
theorem Bo_set (l : List Bool) (i : Nat) (b : Bool) : (Bo l).set i (.bool b) = Bo (l.set i b) := by simp [Bo, List.map_set]
end Go.Fw
