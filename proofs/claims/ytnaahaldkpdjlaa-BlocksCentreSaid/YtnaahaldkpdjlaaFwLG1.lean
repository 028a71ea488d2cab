/- A text of the proof. -/
import Derived.Test.YtnaahaldkpdjlaaFwLB12
import Derived.Test.YtnaahaldkpdjlaaFwLB9
import Derived.Test.YtnaahaldkpdjlaaFwLW8
import Derived.Test.YtnaahaldkpdjlaaFwLB3
set_option linter.unusedSimpArgs false
set_option linter.unusedVariables false
namespace Go.Fw
open Go.Proofs
set_option maxHeartbeats 4000000
set_option maxRecDepth 10000
theorem build24 {n : Int} {v : Value} {k : Nat} (hv : isSl v k) : aBuild Try.prog 24 [(0, .int .i64 n), (1, v)] = some (.agg #[.int .i64 n, v]) := by
 obtain ⟨_, _, rfl, _⟩ := hv
 kernel_rfl
theorem alloc24 (h : AHeap) : aAlloc Try.prog h 24 = some (.pointer (some ⟨h.next, 0, none⟩), h.alloc (.cells [.int .i64 0, .slice none 0 0])) := rfl
theorem newG {h : AHeap} (hw : WF h) {n : Int} {ev : Value} {es : List Pr} (r : PR h ev es) : ∃ h1 h2, aAlloc Try.prog h 24 = some (.pointer (some ⟨h.next, 0, none⟩), h1) ∧ aStore Try.prog h1 24 (.pointer (some ⟨h.next, 0, none⟩)) (.agg #[.int .i64 n, ev]) = some h2 ∧ Le h h2 ∧ WF h2 ∧
  ∀ g, Le h2 g → aload Try.prog g 24 ⟨h.next, 0, none⟩ = some (.agg #[.int .i64 n, ev]) ∧ aload Try.prog g 3 ⟨h.next, 0, none⟩ = some (.int .i64 n) ∧ aload Try.prog g 22 ⟨h.next, 1, none⟩ = some ev := by
 obtain ⟨h1, e1, l1, w1, o1⟩ := alloc_f hw [.int .i64 0, .slice none 0 0]
 have nw : h.own h.next = none := (Le.refl h).next hw (Nat.le_refl _)
 have one := r.sl.one
 have ts24 : tsize Try.prog 24 = 2 := by kernel_rfl
 have hc : (Value.agg #[.int .i64 n, ev]).cells = #[.int .i64 n, ev] := rfl
 have h0 : (Value.int IntKind.i64 n).oneCell' = true := rfl
 have ho : (h1.put h.next (.cells [.int .i64 n, ev])).own h.next = some (.cells [.int .i64 n, ev]) := AHeap.own_put_eq _ _ _
 refine ⟨h1, h1.put h.next (.cells [.int .i64 n, ev]), by rw [alloc24, e1], ?_, l1.put _ nw, w1.put _ (w1.lt o1), fun g e => ⟨?_, aload_one Try.underlying3 rfl (e.own _ _ ho), aload_one Try.underlying22 rfl (e.own _ _ ho)⟩⟩
 ·simp [aStore, o1, hc, ts24, putCells, Try.underlying24, one, h0]
 ·rw [aload_own Try.underlying24 rfl ts24 (e.own _ _ ho) (by simp)]; rfl
theorem mkP4 (h : AHeap) (p0 p1 p2 p3 : Pr) : aBuildSlice Try.prog h 22 4 [(0, valP p0), (1, valP p1), (2, valP p2), (3, valP p3)] = some (.slice (some ⟨h.next, 0, none⟩) 4 4, h.alloc (.cells (flatP [p0, p1, p2, p3]))) := by kernel_rfl
theorem mkP2 (h : AHeap) (p0 p1 : Pr) : aBuildSlice Try.prog h 22 2 [(0, valP p0), (1, valP p1)] = some (.slice (some ⟨h.next, 0, none⟩) 2 2, h.alloc (.cells (flatP [p0, p1]))) := by kernel_rfl
theorem PR.made {h : AHeap} {id : Nat} {ps : List Pr} (ho : h.own id = some (.cells (flatP ps))) {k : Nat} (hk : ps.length = k) : PR h (.slice (some ⟨id, 0, none⟩) k k) ps := by
 have := CS.own (k := 2) (off := 0) (n := k) (cap := k) ho (by rw [flatP_length, hk]; omega)
 rw [List.drop_zero, List.take_of_length_le (by rw [flatP_length, hk]; exact Nat.le_refl _)] at this
 rw [PR, hk]; exact this
structure GX (h : AHeap) (X : Nat) (n : Int) (ev : Value) (ps : List Pr) : Prop where
 ox : h.own X = some (.cells [.int .i64 n, ev])
 gp : GP h ev ps
 ne : blk ev ≠ some X
end Go.Fw
namespace Go.Fw
open Go.Proofs
attribute [local irreducible] KO4 KO3 KO2 KO1 KO KN KX KE VK KCond KDraw KCall KLoop
set_option maxHeartbeats 8000000
set_option maxRecDepth 10000
theorem build42 (x y : Int) : aBuild Try.prog 61 [(0, .int .i64 x), (1, .int .i64 y)] = some (valP (x, y)) := by kernel_rfl
end Go.Fw
namespace Go.Fw
open Go.Proofs
set_option maxRecDepth 10000
section
variable {α : Type} [DecidableEq α]
def setK : List (α × Int) → α → Int → List (α × Int)
 | [], k, v => [(k, v)]
 | (a, b) :: r, k, v => if a = k then (k, v) :: r else (a, b) :: setK r k v
def lookK : List (α × Int) → α → Option Int
 | [], _ => none
 | (a, b) :: r, k => if a = k then some b else lookK r k
theorem lookK_set (l : List (α × Int)) (k k' : α) (v : Int) : lookK (setK l k v) k' = if k = k' then some v else lookK l k' := by
 induction l with
 | nil => simp [setK, lookK]
 | cons x r ih =>
  obtain ⟨a, b⟩ := x
  simp only [setK]
  by_cases h : a = k
  ·subst h; rw [if_pos rfl]; simp only [lookK]; split <;> simp_all
  ·rw [if_neg h]; simp only [lookK, ih]
   by_cases h2 : a = k'
   ·subst h2; simp [Ne.symm h]
   ·simp [h2]
theorem lookK_mem {l : List (α × Int)} {k : α} : lookK l k ≠ none ↔ k ∈ l.map (·.1) := by
 induction l with
 | nil => simp [lookK]
 | cons x r ih =>
  obtain ⟨a, b⟩ := x
  simp only [lookK, List.map_cons, List.mem_cons]
  by_cases h : a = k
  ·simp [h]
  ·rw [if_neg h, ih]; simp [Ne.symm h]
theorem setK_keys (l : List (α × Int)) (k k' : α) (v : Int) : k' ∈ (setK l k v).map (·.1) ↔ k' = k ∨ k' ∈ l.map (·.1) := by
 rw [← lookK_mem, lookK_set, ← lookK_mem]
 by_cases h : k = k'
 ·simp [h]
 ·simp [h, Ne.symm h]
theorem setK_at (l : List (α × Int)) (k : α) (v : Int) : (lookK l k = none ∧ setK l k v = l ++ [(k, v)]) ∨ ∃ (j : Nat) (b : Int), lookK l k = some b ∧ l[j]? = some (k, b) ∧ (∀ i, i < j → ∀ x, l[i]? = some x → x.1 ≠ k) ∧ setK l k v = l.set j (k, v) := by
 induction l with
 | nil => exact .inl ⟨rfl, rfl⟩
 | cons x r ih =>
  obtain ⟨a, b⟩ := x
  simp only [setK, lookK]
  by_cases h : a = k
  ·subst h
   rw [if_pos rfl, if_pos rfl]
   exact .inr ⟨0, b, rfl, rfl, by omega, rfl⟩
  ·rw [if_neg h, if_neg h]
   rcases ih with ⟨h1, h2⟩ | ⟨j, c, h1, h2, h3, h4⟩
   ·exact .inl ⟨h1, by rw [h2]; rfl⟩
   ·refine .inr ⟨j + 1, c, h1, by simpa using h2, fun i hi x hx => ?_, by rw [h4]; rfl⟩
    cases i with
    | zero => simp at hx; subst hx; exact h
    | succ i => exact h3 i (by omega) x (by simpa using hx)
end
def mapP (l : List (Pr × Int)) : List (Value × Value) := l.map fun x => (valP x.1, .int .i64 x.2)
theorem afind_mapP (k : Pr) : ∀ (l : List (Pr × Int)) (i : Nat), (lookK l k = none → afind Try.prog 61 (valP k) (mapP l) i = some none) ∧ ∀ (j : Nat) b, l[j]? = some (k, b) → (∀ q, q < j → ∀ x, l[q]? = some x → x.1 ≠ k) → afind Try.prog 61 (valP k) (mapP l) i = some (some (i + j, .int .i64 b))
 | [], i => ⟨fun _ => rfl, fun j b h => by simp at h⟩
 | (a, b) :: r, i => by
  obtain ⟨h1, h2⟩ := afind_mapP k r (i + 1)
  have un : afind Try.prog 61 (valP k) (mapP ((a, b) :: r)) i = match aEq Try.prog 61 (valP k) (valP a) with | some true => some (some (i, .int .i64 b)) | some false => afind Try.prog 61 (valP k) (mapP r) (i + 1) | none => none := rfl
  rw [un, eqP]
  constructor
  ·intro h
   simp only [lookK] at h
   by_cases e : a = k
   ·rw [if_pos e] at h; cases h
   ·rw [if_neg e] at h
    have : decide (k = a) = false := by simpa using Ne.symm e
    rw [this]; exact h1 h
  ·intro j c hj hlt
   cases j with
   | zero =>
    simp at hj
    obtain ⟨rfl, rfl⟩ := hj
    have : decide (a = a) = true := by simp
    rw [this]; rfl
   | succ j =>
    have e : a ≠ k := hlt 0 (by omega) (a, b) rfl
    have : decide (k = a) = false := by simpa using Ne.symm e
    rw [this]
    show afind Try.prog 61 (valP k) (mapP r) (i + 1) = _
    rw [h2 j c (by simpa using hj) fun q hq x hx => hlt (q + 1) (by omega) x (by simpa using hx)]
    congr 3; omega
theorem keyP (p : Pr) : keyArr Try.prog 61 (valP p) = true := by
 have : allInts [.int .i64 p.1, .int .i64 p.2] = some [(IntKind.i64, p.1), (IntKind.i64, p.2)] := rfl
 simp [keyArr, Try.underlying61, Try.underlying3, valP, this, ts3]
theorem lookP_none {h : AHeap} {x : Value} (p : Pr) (ok : Bool) : aLookup Try.prog h 70 x (valP p) ok = none := by
 simp only [aLookup, Try.underlying70, valP]
theorem setP_none {h : AHeap} {x v : Value} (p : Pr) : aMapSet Try.prog h 70 x (valP p) v = none := by
 simp only [aMapSet, Try.underlying70, valP]
theorem mapP_look {h : AHeap} {M : Nat} {l : List (Pr × Int)} (ho : h.own M = some (.map (mapP l))) (k : Pr) (ok : Bool) :
  aLookupA Try.prog h 70 (.map (some M)) (valP k) ok = some (bif ok then .tuple #[.int .i64 ((lookK l k).getD 0), .bool (lookK l k).isSome] else .int .i64 ((lookK l k).getD 0)) := by
 have hz : azero Try.prog 3 = some (.int .i64 0) := by kernel_rfl
 simp only [aLookupA, Try.underlying70, keyP, ho, hz, show flat (.int .i64 0) = true from rfl, if_true]
 rcases setK_at l k 0 with ⟨h1, _⟩ | ⟨j, b, h1, h2, h3, _⟩
 ·rw [(afind_mapP k l 0).1 h1, h1]; rfl
 ·rw [(afind_mapP k l 0).2 j b h2 h3, h1]; rfl
theorem mapP_set {h : AHeap} {M : Nat} {l : List (Pr × Int)} (ho : h.own M = some (.map (mapP l))) (k : Pr) (v : Int) : aMapSetA Try.prog h 70 (.map (some M)) (valP k) (.int .i64 v) = some (h.put M (.map (mapP (setK l k v)))) := by
 simp only [aMapSetA, Try.underlying70, keyP, ho, if_true]
 rcases setK_at l k v with ⟨h1, h4⟩ | ⟨j, b, h1, h2, h3, h4⟩
 ·rw [(afind_mapP k l 0).1 h1, h4]; simp [mapP]
 ·rw [(afind_mapP k l 0).2 j b h2 h3, h4]; simp [mapP, List.map_set]
end Go.Fw
namespace Go.Fw
open Go.Proofs
attribute [local irreducible] KO4 KO3 KO2 KO1 KO KN KX KE VK KCond KDraw KCall KLoop
set_option maxHeartbeats 8000000
set_option maxRecDepth 10000
theorem Back_any (W0 : Base) (v : Value) (xs : List Int) (h : AHeap) (hv : RL isI h v xs) : AC Try.prog W0 94 [v] h fun x h' => ∃ B, x = .func (.func 117) #[] #[.pointer (some ⟨B, 0, none⟩)] ∧ h.next ≤ B ∧ h'.own B = some (.cells [v]) ∧ Le h h' := by
 refine AC.vc (fn := Try.f94) (c := _) ⟨Try.func94, rfl, by decide⟩ Try.ntmps94 Try.results94 (by simp) fun hwf => ?_
 simp only [argFrame, argFrom, Nat.reduceAdd]
 obtain ⟨h1, e1, l1, w1, o1⟩ := alloc_f hwf [v]
 have b1 : aBox h v = some (.pointer (some ⟨h.next, 0, none⟩), h1) := by
  rw [← e1]; obtain ⟨_, _, rfl, _⟩ := hv.sl; rfl
 simp only [kS1, bLookup, bMapSet, wantA, isCall, stepOp, evalO, evalL, evalP, evalM, putDst, flat, kA, kB, Nat.reduceLT, ↓reduceIte, kC, Nat.reduceEqDiff, aBuiltin, abinG, guardFree, abin, aInt, aUn, aNilCheck, retQ, retQ1, aresults, aresultL, aresult, mkF, undefV, reduceCtorEq, kD, kE, kF, kG, kH, kI, kJ, kK, aExtract, calleeOf, b1]
 exact ⟨h.next, rfl, Nat.le_refl _, o1, l1⟩
theorem Back1_any (W1 : Base) (lp B : Nat) (v : Value) (xs : List Int) (I : Nat → AHeap → Prop) (h : AHeap) (hn : xs.length < 1000000)
  (hI : ∀ i g, I i g → g.own B = some (.cells [v]) ∧ RL isI g v xs) (h0 : I xs.length h)
  (hy : ∀ i g (hi : i < xs.length), WF g → h.next ≤ g.next → I (i + 1) g → AY Try.prog W1 lp [.int .i64 i, .int .i64 xs[i]] g fun x g' => x = .bool true ∧ h.next ≤ g'.next ∧ I i g') :
  AC Try.prog W1 117 [yieldV lp, .pointer (some ⟨B, 0, none⟩)] h fun _ h' => I 0 h' := by
 have ld : ∀ i g, I i g → aload Try.prog g 38 ⟨B, 0, none⟩ = some v := fun i g hi => by rw [aload_one Try.underlying38 rfl (hI i g hi).1]; rfl
 refine AC.vc (fn := Try.f117) (c := _) ⟨Try.func117, rfl, by decide⟩ Try.ntmps117 Try.results117 (by simp) fun hwf => ?_
 simp only [argFrame, argFrom, Nat.reduceAdd]
 have w1 : awrap .i64 ((xs.length : Int) - 1) = (xs.length : Int) - 1 := awrap_i64 _ (by omega) (by omega)
 simp only [kS1, bLookup, bMapSet, wantA, isCall, stepOp, evalO, evalL, evalP, evalM, putDst, flat, kA, kB, Nat.reduceLT, ↓reduceIte, kC, Nat.reduceEqDiff, aBuiltin, abinG, guardFree, abin, aInt, aUn, aNilCheck, retQ, retQ1, aresults, aresultL, aresult, mkF, undefV, reduceCtorEq, kD, kE, kF, kG, kH, kI, kJ, kK, aExtract, calleeOf, ld _ _ h0, (hI _ _ h0).2.len Try.underlying38, w1]
 refine KLoop.intro (fun k fr g => ∃ i : Nat, k = i ∧ i ≤ xs.length ∧ fr = mkF [(0, yieldV lp), (1, .pointer (some ⟨B, 0, none⟩)), (3, .int .i64 ((i : Int) - 1))] ∧ h.next ≤ g.next ∧ I i g) xs.length [(0, yieldV lp), (1, .pointer (some ⟨B, 0, none⟩)), (3, .int .i64 ((xs.length : Int) - 1))] (by simp only [hasAll, kS1, bLookup, bMapSet, wantA, isCall, stepOp, evalO, evalL, evalP, evalM, putDst, flat, kA, kB, Nat.reduceLT, ↓reduceIte, kC, Nat.reduceEqDiff, aBuiltin, abinG, guardFree, abin, aInt, aUn, aNilCheck, retQ, retQ1, aresults, aresultL, aresult, mkF, undefV, reduceCtorEq, kD, kE, kF, kG, kH, kI, kJ, kK, aExtract, calleeOf]; simp) ⟨xs.length, rfl, Nat.le_refl _, rfl, Nat.le_refl _, h0⟩ ?_
 rintro k fr g wg ⟨i, rfl, hi, rfl, hle, hIi⟩
 simp only [kS1, bLookup, bMapSet, wantA, isCall, stepOp, evalO, evalL, evalP, evalM, putDst, flat, kA, kB, Nat.reduceLT, ↓reduceIte, kC, Nat.reduceEqDiff, aBuiltin, abinG, guardFree, abin, aInt, aUn, aNilCheck, retQ, retQ1, aresults, aresultL, aresult, mkF, undefV, reduceCtorEq, kD, kE, kF, kG, kH, kI, kJ, kK, aExtract, calleeOf]
 refine KCond.intro (fun ht => ?_) (fun hf => ?_)
 ·have hi0 : 1 ≤ k := by simp at ht; omega
  obtain ⟨j, rfl⟩ : ∃ j, k = j + 1 := ⟨k - 1, by omega⟩
  have hj : j < xs.length := by omega
  have ej : ((j + 1 : Nat) : Int) - 1 = (j : Int) := by omega
  have ad := (hI _ _ hIi).2.addr (k := .i64) Try.underlying38 Try.underlying3 rfl j hj
  have le := (hI _ _ hIi).2.loadI (P := Try.prog) Try.underlying3 rfl j hj
  simp only [kS1, bLookup, bMapSet, wantA, isCall, stepOp, evalO, evalL, evalP, evalM, putDst, flat, kA, kB, Nat.reduceLT, ↓reduceIte, kC, Nat.reduceEqDiff, aBuiltin, abinG, guardFree, abin, aInt, aUn, aNilCheck, retQ, retQ1, aresults, aresultL, aresult, mkF, undefV, reduceCtorEq, kD, kE, kF, kG, kH, kI, kJ, kK, aExtract, calleeOf, ej, ld _ _ hIi, ad, le]
  refine KCall.yield (by simp only [kS1, bLookup, bMapSet, wantA, isCall, stepOp, evalO, evalL, evalP, evalM, putDst, flat, kA, kB, Nat.reduceLT, ↓reduceIte, kC, Nat.reduceEqDiff, aBuiltin, abinG, guardFree, abin, aInt, aUn, aNilCheck, retQ, retQ1, aresults, aresultL, aresult, mkF, undefV, reduceCtorEq, kD, kE, kF, kG, kH, kI, kJ, kK, aExtract, calleeOf, yieldOf] <;> rfl) (hy j g hj wg hle hIi) ?_
  rintro x g' wg' ⟨rfl, hle', hI'⟩
  have w2 : awrap .i64 ((j : Int) - 1) = (j : Int) - 1 := awrap_i64 _ (by omega) (by omega)
  simp only [kS1, bLookup, bMapSet, wantA, isCall, stepOp, evalO, evalL, evalP, evalM, putDst, flat, kA, kB, Nat.reduceLT, ↓reduceIte, kC, Nat.reduceEqDiff, aBuiltin, abinG, guardFree, abin, aInt, aUn, aNilCheck, retQ, retQ1, aresults, aresultL, aresult, mkF, undefV, reduceCtorEq, kD, kE, kF, kG, kH, kI, kJ, kK, aExtract, calleeOf, w2]
  exact loop_again j [(0, yieldV lp), (1, .pointer (some ⟨B, 0, none⟩)), (3, .int .i64 ((j : Int) - 1))] (by omega) (by simp only [hasAll, kS1, bLookup, bMapSet, wantA, isCall, stepOp, evalO, evalL, evalP, evalM, putDst, flat, kA, kB, Nat.reduceLT, ↓reduceIte, kC, Nat.reduceEqDiff, aBuiltin, abinG, guardFree, abin, aInt, aUn, aNilCheck, retQ, retQ1, aresults, aresultL, aresult, mkF, undefV, reduceCtorEq, kD, kE, kF, kG, kH, kI, kJ, kK, aExtract, calleeOf]; simp) ⟨j, rfl, by omega, rfl, hle', hI'⟩
 ·have hi0 : k = 0 := by simp at hf; omega
  subst hi0
  simp only [kS1, bLookup, bMapSet, wantA, isCall, stepOp, evalO, evalL, evalP, evalM, putDst, flat, kA, kB, Nat.reduceLT, ↓reduceIte, kC, Nat.reduceEqDiff, aBuiltin, abinG, guardFree, abin, aInt, aUn, aNilCheck, retQ, retQ1, aresults, aresultL, aresult, mkF, undefV, reduceCtorEq, kD, kE, kF, kG, kH, kI, kJ, kK, aExtract, calleeOf]
  exact hIi
end Go.Fw
