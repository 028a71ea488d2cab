/- A text of the proof. -/
import Derived.Test.YtnaahaldkpdjlaaFwLW4
import Derived.Test.YtnaahaldkpdjlaaFwLW1
import Derived.Test.YtnaahaldkpdjlaaFwLB13
import Derived.Test.YtnaahaldkpdjlaaFwLB9
import Derived.Test.YtnaahaldkpdjlaaFwLB3
set_option linter.unusedSimpArgs false
set_option linter.unusedVariables false
namespace Go.Fw
open Go.Proofs
set_option maxHeartbeats 8000000
set_option maxRecDepth 10000
structure FarI (n : Nat) (es : List Pr) (s : Nat) (L : List Int) (met : List Nat) (cl : Nat → Nat → Prop) : Prop where
 len : L.length = n
 val : ∀ (v : Nat) (x : Int), L[v]? = some x → x = -1 ∨ 0 ≤ x ∧ v ∈ met
 mm : ∀ v ∈ met, v < n ∧ Con es s v ∧ ∃ x : Int, L[v]? = some x ∧ 0 ≤ x
 nd : met.Nodup
 s0 : L[s]? = some 0
 ms : s ∈ met
 pre : ∀ (v : Nat) (x : Int), L[v]? = some x → 0 < x → ∃ w, adj es v w ∧ L[w]? = some (x - 1)
 zero : ∀ (v : Nat), L[v]? = some 0 → v = s
 cl : ∀ u w, cl u w → w ∈ met
 bd : ∀ (v : Nat) (x : Int), L[v]? = some x → x + 1 ≤ met.length
structure Far (n : Nat) (es : List Pr) (s : Nat) (L : List Int) : Prop where
 len : L.length = n
 pos : ∀ (v : Nat) (x : Int), L[v]? = some x → (0 ≤ x ↔ Con es s v)
 pre : ∀ (v : Nat) (x : Int), L[v]? = some x → 0 < x → ∃ w, adj es v w ∧ L[w]? = some (x - 1)
 zero : ∀ (v : Nat), L[v]? = some 0 → v = s
 bd : ∀ (v : Nat) (x : Int), L[v]? = some x → -1 ≤ x ∧ x + 1 ≤ n
theorem FarI.start {n : Nat} {es : List Pr} {s : Nat} (hs : s < n) (cl : Nat → Nat → Prop) (hcl : ∀ u w, ¬ cl u w) : FarI n es s ((List.replicate n (-1)).set s 0) [s] cl := by
 have gs : ∀ (v : Nat) (x : Int), ((List.replicate n (-1 : Int)).set s 0)[v]? = some x → v = s ∧ x = 0 ∨ x = -1 := by
  intro v x h
  rw [List.getElem?_set] at h
  split at h
  ·rename_i e; split at h
   ·injection h with h; exact .inl ⟨e.symm, h.symm⟩
   ·cases h
  ·rw [List.getElem?_replicate] at h
   split at h
   ·injection h with h; exact .inr h.symm
   ·cases h
 have h0 : ((List.replicate n (-1 : Int)).set s 0)[s]? = some 0 := by rw [List.getElem?_set]; simp [hs]
 refine ⟨by simp, fun v x h => ?_, fun v hv => ?_, by simp, h0, by simp, fun v x h hx => ?_, fun v h => ?_, fun u w h => absurd h (hcl u w), fun v x h => ?_⟩
 ·rcases gs v x h with ⟨rfl, rfl⟩ | rfl
  ·exact .inr ⟨Int.le_refl _, by simp⟩
  ·exact .inl rfl
 ·rw [List.mem_singleton] at hv; subst hv; exact ⟨hs, Con.refl es _, 0, h0, Int.le_refl _⟩
 ·rcases gs v x h with ⟨rfl, rfl⟩ | rfl <;> omega
 ·rcases gs v 0 h with ⟨rfl, _⟩ | e
  ·rfl
  ·omega
 ·rcases gs v x h with ⟨rfl, rfl⟩ | rfl <;> simp
end Go.Fw
namespace Go.Fw
open Go.Proofs
attribute [local irreducible] KO4 KO3 KO2 KO1 KO KN KX KE VK KCond KDraw KCall KLoop
set_option maxHeartbeats 8000000
set_option maxRecDepth 10000
theorem d20 : decide ((20 : Int) = 0) = false := by decide
theorem d2 : decide ((2 : Int) = 0) = false := by decide
end Go.Fw
namespace Go.Fw
open Go.Proofs
set_option maxHeartbeats 4000000
set_option maxRecDepth 10000
theorem build24 {n : Int} {v : Value} {k : Nat} (hv : isSl v k) : aBuild Try.prog 24 [(0, .int .i64 n), (1, v)] = some (.agg #[.int .i64 n, v]) := by
 obtain ⟨_, _, rfl, _⟩ := hv
 kernel_rfl
theorem alloc24 (h : AHeap) : aAlloc Try.prog h 24 = some (.pointer (some ⟨h.next, 0, none⟩), h.alloc (.cells [.int .i64 0, .slice none 0 0])) := rfl
theorem newG {h : AHeap} (hw : WF h) {n : Int} {ev : Value} {es : List Pr} (r : PR h ev es) : ∃ h1 h2, aAlloc Try.prog h 24 = some (.pointer (some ⟨h.next, 0, none⟩), h1) ∧ aStore Try.prog h1 24 (.pointer (some ⟨h.next, 0, none⟩)) (.agg #[.int .i64 n, ev]) = some h2 ∧ Le h h2 ∧ WF h2 ∧
  ∀ g, Le h2 g → aload Try.prog g 24 ⟨h.next, 0, none⟩ = some (.agg #[.int .i64 n, ev]) ∧ aload Try.prog g 3 ⟨h.next, 0, none⟩ = some (.int .i64 n) ∧ aload Try.prog g 22 ⟨h.next, 1, none⟩ = some ev := by
 obtain ⟨h1, e1, l1, w1, o1⟩ := alloc_f hw [.int .i64 0, .slice none 0 0]
 have nw : h.own h.next = none := (Le.refl h).next hw (Nat.le_refl _)
 have one := r.sl.one
 have ts24 : tsize Try.prog 24 = 2 := by kernel_rfl
 have hc : (Value.agg #[.int .i64 n, ev]).cells = #[.int .i64 n, ev] := rfl
 have h0 : (Value.int IntKind.i64 n).oneCell' = true := rfl
 have ho : (h1.put h.next (.cells [.int .i64 n, ev])).own h.next = some (.cells [.int .i64 n, ev]) := AHeap.own_put_eq _ _ _
 refine ⟨h1, h1.put h.next (.cells [.int .i64 n, ev]), by rw [alloc24, e1], ?_, l1.put _ nw, w1.put _ (w1.lt o1), fun g e => ⟨?_, aload_one Try.underlying3 rfl (e.own _ _ ho), aload_one Try.underlying22 rfl (e.own _ _ ho)⟩⟩
 ·simp [aStore, o1, hc, ts24, putCells, Try.underlying24, one, h0]
 ·rw [aload_own Try.underlying24 rfl ts24 (e.own _ _ ho) (by simp)]; rfl
theorem mkP8 (h : AHeap) (p0 p1 p2 p3 p4 p5 p6 p7 : Pr) : aBuildSlice Try.prog h 22 8 [(0, valP p0), (1, valP p1), (2, valP p2), (3, valP p3), (4, valP p4), (5, valP p5), (6, valP p6), (7, valP p7)] = some (.slice (some ⟨h.next, 0, none⟩) 8 8, h.alloc (.cells (flatP [p0, p1, p2, p3, p4, p5, p6, p7]))) := by kernel_rfl
theorem mkP4 (h : AHeap) (p0 p1 p2 p3 : Pr) : aBuildSlice Try.prog h 22 4 [(0, valP p0), (1, valP p1), (2, valP p2), (3, valP p3)] = some (.slice (some ⟨h.next, 0, none⟩) 4 4, h.alloc (.cells (flatP [p0, p1, p2, p3]))) := by kernel_rfl
theorem mkP2 (h : AHeap) (p0 p1 : Pr) : aBuildSlice Try.prog h 22 2 [(0, valP p0), (1, valP p1)] = some (.slice (some ⟨h.next, 0, none⟩) 2 2, h.alloc (.cells (flatP [p0, p1]))) := by kernel_rfl
theorem mkP1' (h : AHeap) (p0 : Pr) : aBuildSlice Try.prog h 22 1 [(0, valP p0)] = some (.slice (some ⟨h.next, 0, none⟩) 1 1, h.alloc (.cells (flatP [p0]))) := by kernel_rfl
theorem mkP3 (h : AHeap) (p0 p1 p2 : Pr) : aBuildSlice Try.prog h 22 3 [(0, valP p0), (1, valP p1), (2, valP p2)] = some (.slice (some ⟨h.next, 0, none⟩) 3 3, h.alloc (.cells (flatP [p0, p1, p2]))) := by kernel_rfl
theorem mkI3 (h : AHeap) (a b c : Int) : aBuildSlice Try.prog h 38 3 [(0, .int .i64 a), (1, .int .i64 b), (2, .int .i64 c)] = some (.slice (some ⟨h.next, 0, none⟩) 3 3, h.alloc (.cells [.int .i64 a, .int .i64 b, .int .i64 c])) := by kernel_rfl
theorem PR.made {h : AHeap} {id : Nat} {ps : List Pr} (ho : h.own id = some (.cells (flatP ps))) {k : Nat} (hk : ps.length = k) : PR h (.slice (some ⟨id, 0, none⟩) k k) ps := by
 have := CS.own (k := 2) (off := 0) (n := k) (cap := k) ho (by rw [flatP_length, hk]; omega)
 rw [List.drop_zero, List.take_of_length_le (by rw [flatP_length, hk]; exact Nat.le_refl _)] at this
 rw [PR, hk]; exact this
structure GX (h : AHeap) (X : Nat) (n : Int) (ev : Value) (ps : List Pr) : Prop where
 ox : h.own X = some (.cells [.int .i64 n, ev])
 gp : GP h ev ps
 ne : blk ev ≠ some X
theorem GX.new {h : AHeap} (hw : WF h) (n : Int) : ∃ h1 h2, aAlloc Try.prog h 24 = some (.pointer (some ⟨h.next, 0, none⟩), h1) ∧ aStore Try.prog h1 24 (.pointer (some ⟨h.next, 0, none⟩)) (.agg #[.int .i64 n, .slice none 0 0]) = some h2 ∧ Le h h2 ∧ WF h2 ∧ h.own h.next = none ∧ GX h2 h.next n (.slice none 0 0) [] := by
 obtain ⟨h1, e1, l1, w1, o1⟩ := alloc_f hw [.int .i64 0, .slice none 0 0]
 have nw : h.own h.next = none := (Le.refl h).next hw (Nat.le_refl _)
 have ts24 : tsize Try.prog 24 = 2 := by kernel_rfl
 have hc : (Value.agg #[.int .i64 n, .slice none 0 0]).cells = #[.int .i64 n, .slice none 0 0] := rfl
 have h0 : (Value.int IntKind.i64 n).oneCell' = true := rfl
 have h1' : (Value.slice none 0 0).oneCell' = true := rfl
 have ho : (h1.put h.next (.cells [.int .i64 n, .slice none 0 0])).own h.next = some (.cells [.int .i64 n, .slice none 0 0]) := AHeap.own_put_eq _ _ _
 refine ⟨h1, h1.put h.next (.cells [.int .i64 n, .slice none 0 0]), by rw [alloc24, e1], ?_, l1.put _ nw, w1.put _ (w1.lt o1), nw, ⟨ho, GP.nil _, by simp [blk]⟩⟩
 simp [aStore, o1, hc, ts24, putCells, Try.underlying24, h0, h1']
theorem GX.le {h h' : AHeap} {X : Nat} {n : Int} {ev : Value} {ps : List Pr} (g : GX h X n ev ps) (e : Le h h') : GX h' X n ev ps := ⟨e.own _ _ g.ox, g.gp.le e, g.ne⟩
theorem GX.put {h : AHeap} {X : Nat} {n : Int} {ev : Value} {ps : List Pr} (g : GX h X n ev ps) {id : Nat} (o : AObj) (h1 : X ≠ id) (h2 : blk ev ≠ some id) : GX (h.put id o) X n ev ps :=
 ⟨by rw [AHeap.own_put_ne _ _ _ _ h1]; exact g.ox, GS.put g.gp _ h2, g.ne⟩
end Go.Fw
namespace Go.Fw
open Go.Proofs
attribute [local irreducible] KO4 KO3 KO2 KO1 KO KN KX KE VK KCond KDraw KCall KLoop
set_option maxHeartbeats 8000000
set_option maxRecDepth 10000
theorem Back_any (W0 : Base) (v : Value) (xs : List Int) (h : AHeap) (hv : RL isI h v xs) : AC Try.prog W0 94 [v] h fun x h' => ∃ B, x = .func (.func 117) #[] #[.pointer (some ⟨B, 0, none⟩)] ∧ h.next ≤ B ∧ h'.own B = some (.cells [v]) ∧ Le h h' := by
 refine AC.vc (fn := Try.f94) (c := _) ⟨Try.func94, rfl, by decide⟩ Try.ntmps94 Try.results94 (by simp) fun hwf => ?_
 simp only [argFrame, argFrom, Nat.reduceAdd]
 obtain ⟨h1, e1, l1, w1, o1⟩ := alloc_f hwf [v]
 have b1 : aBox h v = some (.pointer (some ⟨h.next, 0, none⟩), h1) := by
  rw [← e1]; obtain ⟨_, _, rfl, _⟩ := hv.sl; rfl
 simp only [kS1, bLookup, bMapSet, wantA, isCall, stepOp, evalO, evalL, evalP, evalM, putDst, flat, kA, kB, Nat.reduceLT, ↓reduceIte, kC, Nat.reduceEqDiff, aBuiltin, abinG, guardFree, abin, aInt, aUn, aNilCheck, retQ, retQ1, aresults, aresultL, aresult, mkF, undefV, reduceCtorEq, kD, kE, kF, kG, kH, kI, kJ, kK, aExtract, calleeOf, b1]
 exact ⟨h.next, rfl, Nat.le_refl _, o1, l1⟩
theorem Back1_any (W1 : Base) (lp B : Nat) (v : Value) (xs : List Int) (I : Nat → AHeap → Prop) (h : AHeap) (hn : xs.length < 1000000)
  (hI : ∀ i g, I i g → g.own B = some (.cells [v]) ∧ RL isI g v xs) (h0 : I xs.length h)
  (hy : ∀ i g (hi : i < xs.length), WF g → h.next ≤ g.next → I (i + 1) g → AY Try.prog W1 lp [.int .i64 i, .int .i64 xs[i]] g fun x g' => x = .bool true ∧ h.next ≤ g'.next ∧ I i g') :
  AC Try.prog W1 117 [yieldV lp, .pointer (some ⟨B, 0, none⟩)] h fun _ h' => I 0 h' := by
 have ld : ∀ i g, I i g → aload Try.prog g 38 ⟨B, 0, none⟩ = some v := fun i g hi => by rw [aload_one Try.underlying38 rfl (hI i g hi).1]; rfl
 refine AC.vc (fn := Try.f117) (c := _) ⟨Try.func117, rfl, by decide⟩ Try.ntmps117 Try.results117 (by simp) fun hwf => ?_
 simp only [argFrame, argFrom, Nat.reduceAdd]
 have w1 : awrap .i64 ((xs.length : Int) - 1) = (xs.length : Int) - 1 := awrap_i64 _ (by omega) (by omega)
 simp only [kS1, bLookup, bMapSet, wantA, isCall, stepOp, evalO, evalL, evalP, evalM, putDst, flat, kA, kB, Nat.reduceLT, ↓reduceIte, kC, Nat.reduceEqDiff, aBuiltin, abinG, guardFree, abin, aInt, aUn, aNilCheck, retQ, retQ1, aresults, aresultL, aresult, mkF, undefV, reduceCtorEq, kD, kE, kF, kG, kH, kI, kJ, kK, aExtract, calleeOf, ld _ _ h0, (hI _ _ h0).2.len Try.underlying38, w1]
 refine KLoop.intro (fun k fr g => ∃ i : Nat, k = i ∧ i ≤ xs.length ∧ fr = mkF [(0, yieldV lp), (1, .pointer (some ⟨B, 0, none⟩)), (3, .int .i64 ((i : Int) - 1))] ∧ h.next ≤ g.next ∧ I i g) xs.length [(0, yieldV lp), (1, .pointer (some ⟨B, 0, none⟩)), (3, .int .i64 ((xs.length : Int) - 1))] (by simp only [hasAll, kS1, bLookup, bMapSet, wantA, isCall, stepOp, evalO, evalL, evalP, evalM, putDst, flat, kA, kB, Nat.reduceLT, ↓reduceIte, kC, Nat.reduceEqDiff, aBuiltin, abinG, guardFree, abin, aInt, aUn, aNilCheck, retQ, retQ1, aresults, aresultL, aresult, mkF, undefV, reduceCtorEq, kD, kE, kF, kG, kH, kI, kJ, kK, aExtract, calleeOf]; simp) ⟨xs.length, rfl, Nat.le_refl _, rfl, Nat.le_refl _, h0⟩ ?_
 rintro k fr g wg ⟨i, rfl, hi, rfl, hle, hIi⟩
 simp only [kS1, bLookup, bMapSet, wantA, isCall, stepOp, evalO, evalL, evalP, evalM, putDst, flat, kA, kB, Nat.reduceLT, ↓reduceIte, kC, Nat.reduceEqDiff, aBuiltin, abinG, guardFree, abin, aInt, aUn, aNilCheck, retQ, retQ1, aresults, aresultL, aresult, mkF, undefV, reduceCtorEq, kD, kE, kF, kG, kH, kI, kJ, kK, aExtract, calleeOf]
 refine KCond.intro (fun ht => ?_) (fun hf => ?_)
 ·have hi0 : 1 ≤ k := by simp at ht; omega
  obtain ⟨j, rfl⟩ : ∃ j, k = j + 1 := ⟨k - 1, by omega⟩
  have hj : j < xs.length := by omega
  have ej : ((j + 1 : Nat) : Int) - 1 = (j : Int) := by omega
  have ad := (hI _ _ hIi).2.addr (k := .i64) Try.underlying38 Try.underlying3 rfl j hj
  have le := (hI _ _ hIi).2.loadI (P := Try.prog) Try.underlying3 rfl j hj
  simp only [kS1, bLookup, bMapSet, wantA, isCall, stepOp, evalO, evalL, evalP, evalM, putDst, flat, kA, kB, Nat.reduceLT, ↓reduceIte, kC, Nat.reduceEqDiff, aBuiltin, abinG, guardFree, abin, aInt, aUn, aNilCheck, retQ, retQ1, aresults, aresultL, aresult, mkF, undefV, reduceCtorEq, kD, kE, kF, kG, kH, kI, kJ, kK, aExtract, calleeOf, ej, ld _ _ hIi, ad, le]
  refine KCall.yield (by simp only [kS1, bLookup, bMapSet, wantA, isCall, stepOp, evalO, evalL, evalP, evalM, putDst, flat, kA, kB, Nat.reduceLT, ↓reduceIte, kC, Nat.reduceEqDiff, aBuiltin, abinG, guardFree, abin, aInt, aUn, aNilCheck, retQ, retQ1, aresults, aresultL, aresult, mkF, undefV, reduceCtorEq, kD, kE, kF, kG, kH, kI, kJ, kK, aExtract, calleeOf, yieldOf] <;> rfl) (hy j g hj wg hle hIi) ?_
  rintro x g' wg' ⟨rfl, hle', hI'⟩
  have w2 : awrap .i64 ((j : Int) - 1) = (j : Int) - 1 := awrap_i64 _ (by omega) (by omega)
  simp only [kS1, bLookup, bMapSet, wantA, isCall, stepOp, evalO, evalL, evalP, evalM, putDst, flat, kA, kB, Nat.reduceLT, ↓reduceIte, kC, Nat.reduceEqDiff, aBuiltin, abinG, guardFree, abin, aInt, aUn, aNilCheck, retQ, retQ1, aresults, aresultL, aresult, mkF, undefV, reduceCtorEq, kD, kE, kF, kG, kH, kI, kJ, kK, aExtract, calleeOf, w2]
  exact loop_again j [(0, yieldV lp), (1, .pointer (some ⟨B, 0, none⟩)), (3, .int .i64 ((j : Int) - 1))] (by omega) (by simp only [hasAll, kS1, bLookup, bMapSet, wantA, isCall, stepOp, evalO, evalL, evalP, evalM, putDst, flat, kA, kB, Nat.reduceLT, ↓reduceIte, kC, Nat.reduceEqDiff, aBuiltin, abinG, guardFree, abin, aInt, aUn, aNilCheck, retQ, retQ1, aresults, aresultL, aresult, mkF, undefV, reduceCtorEq, kD, kE, kF, kG, kH, kI, kJ, kK, aExtract, calleeOf]; simp) ⟨j, rfl, by omega, rfl, hle', hI'⟩
 ·have hi0 : k = 0 := by simp at hf; omega
  subst hi0
  simp only [kS1, bLookup, bMapSet, wantA, isCall, stepOp, evalO, evalL, evalP, evalM, putDst, flat, kA, kB, Nat.reduceLT, ↓reduceIte, kC, Nat.reduceEqDiff, aBuiltin, abinG, guardFree, abin, aInt, aUn, aNilCheck, retQ, retQ1, aresults, aresultL, aresult, mkF, undefV, reduceCtorEq, kD, kE, kF, kG, kH, kI, kJ, kK, aExtract, calleeOf]
  exact hIi
end Go.Fw
