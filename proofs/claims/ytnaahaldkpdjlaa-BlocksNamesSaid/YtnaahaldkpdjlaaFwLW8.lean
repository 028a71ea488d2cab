/- A text of the proof. -/
import Derived.Test.YtnaahaldkpdjlaaFwLW4
import Derived.Test.YtnaahaldkpdjlaaFwLW1
import Derived.Test.YtnaahaldkpdjlaaFwLB12
import Derived.Test.YtnaahaldkpdjlaaFwLB9
import Derived.Test.YtnaahaldkpdjlaaFwLB3
import Derived.Test.YtnaahaldkpdjlaaFwLW3
set_option linter.unusedSimpArgs false
set_option linter.unusedVariables false
namespace Go.Fw
open Go.Proofs
set_option maxHeartbeats 8000000
set_option maxRecDepth 10000
structure FarI (n : Nat) (es : List Pr) (s : Nat) (L : List Int) (met : List Nat) (cl : Nat → Nat → Prop) : Prop where
 len : L.length = n
 val : ∀ (v : Nat) (x : Int), L[v]? = some x → x = -1 ∨ 0 ≤ x ∧ v ∈ met
 mm : ∀ v ∈ met, v < n ∧ Con es s v ∧ ∃ x : Int, L[v]? = some x ∧ 0 ≤ x
 nd : met.Nodup
 s0 : L[s]? = some 0
 ms : s ∈ met
 pre : ∀ (v : Nat) (x : Int), L[v]? = some x → 0 < x → ∃ w, adj es v w ∧ L[w]? = some (x - 1)
 zero : ∀ (v : Nat), L[v]? = some 0 → v = s
 cl : ∀ u w, cl u w → w ∈ met
 bd : ∀ (v : Nat) (x : Int), L[v]? = some x → x + 1 ≤ met.length
structure Far (n : Nat) (es : List Pr) (s : Nat) (L : List Int) : Prop where
 len : L.length = n
 pos : ∀ (v : Nat) (x : Int), L[v]? = some x → (0 ≤ x ↔ Con es s v)
 pre : ∀ (v : Nat) (x : Int), L[v]? = some x → 0 < x → ∃ w, adj es v w ∧ L[w]? = some (x - 1)
 zero : ∀ (v : Nat), L[v]? = some 0 → v = s
 bd : ∀ (v : Nat) (x : Int), L[v]? = some x → -1 ≤ x ∧ x + 1 ≤ n
end Go.Fw
namespace Go.Fw
open Go.Proofs
attribute [local irreducible] KO4 KO3 KO2 KO1 KO KN KX KE VK KCond KDraw KCall KLoop
set_option maxHeartbeats 8000000
set_option maxRecDepth 10000
theorem d20 : decide ((20 : Int) = 0) = false := by decide
theorem d2 : decide ((2 : Int) = 0) = false := by decide
end Go.Fw
namespace Go.Fw
open Go.Proofs
set_option maxHeartbeats 4000000
set_option maxRecDepth 10000
theorem build24 {n : Int} {v : Value} {k : Nat} (hv : isSl v k) : aBuild Try.prog 24 [(0, .int .i64 n), (1, v)] = some (.agg #[.int .i64 n, v]) := by
 obtain ⟨_, _, rfl, _⟩ := hv
 kernel_rfl
theorem alloc24 (h : AHeap) : aAlloc Try.prog h 24 = some (.pointer (some ⟨h.next, 0, none⟩), h.alloc (.cells [.int .i64 0, .slice none 0 0])) := rfl
theorem newG {h : AHeap} (hw : WF h) {n : Int} {ev : Value} {es : List Pr} (r : PR h ev es) : ∃ h1 h2, aAlloc Try.prog h 24 = some (.pointer (some ⟨h.next, 0, none⟩), h1) ∧ aStore Try.prog h1 24 (.pointer (some ⟨h.next, 0, none⟩)) (.agg #[.int .i64 n, ev]) = some h2 ∧ Le h h2 ∧ WF h2 ∧
  ∀ g, Le h2 g → aload Try.prog g 24 ⟨h.next, 0, none⟩ = some (.agg #[.int .i64 n, ev]) ∧ aload Try.prog g 3 ⟨h.next, 0, none⟩ = some (.int .i64 n) ∧ aload Try.prog g 22 ⟨h.next, 1, none⟩ = some ev := by
 obtain ⟨h1, e1, l1, w1, o1⟩ := alloc_f hw [.int .i64 0, .slice none 0 0]
 have nw : h.own h.next = none := (Le.refl h).next hw (Nat.le_refl _)
 have one := r.sl.one
 have ts24 : tsize Try.prog 24 = 2 := by kernel_rfl
 have hc : (Value.agg #[.int .i64 n, ev]).cells = #[.int .i64 n, ev] := rfl
 have h0 : (Value.int IntKind.i64 n).oneCell' = true := rfl
 have ho : (h1.put h.next (.cells [.int .i64 n, ev])).own h.next = some (.cells [.int .i64 n, ev]) := AHeap.own_put_eq _ _ _
 refine ⟨h1, h1.put h.next (.cells [.int .i64 n, ev]), by rw [alloc24, e1], ?_, l1.put _ nw, w1.put _ (w1.lt o1), fun g e => ⟨?_, aload_one Try.underlying3 rfl (e.own _ _ ho), aload_one Try.underlying22 rfl (e.own _ _ ho)⟩⟩
 ·simp [aStore, o1, hc, ts24, putCells, Try.underlying24, one, h0]
 ·rw [aload_own Try.underlying24 rfl ts24 (e.own _ _ ho) (by simp)]; rfl
theorem mkP4 (h : AHeap) (p0 p1 p2 p3 : Pr) : aBuildSlice Try.prog h 22 4 [(0, valP p0), (1, valP p1), (2, valP p2), (3, valP p3)] = some (.slice (some ⟨h.next, 0, none⟩) 4 4, h.alloc (.cells (flatP [p0, p1, p2, p3]))) := by kernel_rfl
theorem mkP2 (h : AHeap) (p0 p1 : Pr) : aBuildSlice Try.prog h 22 2 [(0, valP p0), (1, valP p1)] = some (.slice (some ⟨h.next, 0, none⟩) 2 2, h.alloc (.cells (flatP [p0, p1]))) := by kernel_rfl
theorem PR.made {h : AHeap} {id : Nat} {ps : List Pr} (ho : h.own id = some (.cells (flatP ps))) {k : Nat} (hk : ps.length = k) : PR h (.slice (some ⟨id, 0, none⟩) k k) ps := by
 have := CS.own (k := 2) (off := 0) (n := k) (cap := k) ho (by rw [flatP_length, hk]; omega)
 rw [List.drop_zero, List.take_of_length_le (by rw [flatP_length, hk]; exact Nat.le_refl _)] at this
 rw [PR, hk]; exact this
structure GX (h : AHeap) (X : Nat) (n : Int) (ev : Value) (ps : List Pr) : Prop where
 ox : h.own X = some (.cells [.int .i64 n, ev])
 gp : GP h ev ps
 ne : blk ev ≠ some X
end Go.Fw
namespace Go.Fw
open Go.Proofs
attribute [local irreducible] KO4 KO3 KO2 KO1 KO KN KX KE VK KCond KDraw KCall KLoop
set_option maxHeartbeats 8000000
set_option maxRecDepth 10000
theorem build42 (x y : Int) : aBuild Try.prog 61 [(0, .int .i64 x), (1, .int .i64 y)] = some (valP (x, y)) := by kernel_rfl
theorem Index_any (W0 : Base) (wv : Value) (ps : List Pr) (p : Pr) (h : AHeap) (hw : PR h wv ps) (hn : ps.length ≤ 1000000) :
  AC Try.prog W0 92 [wv, valP p] h fun x h' => (∃ i : Int, x = .int .i64 i ∧ (0 ≤ i ↔ p ∈ ps)) ∧ Le h h' := by
 refine AC.vc (fn := Try.f92) (c := _) ⟨Try.func92, rfl, by decide⟩ Try.ntmps92 Try.results92 (by simp) fun hwf => ?_
 simp only [argFrame, argFrom, Nat.reduceAdd]
 have ll := fun g => hw.len g
 obtain ⟨h1, e1, l1, w1, o1⟩ := alloc_f hwf (cellsP p)
 have nE : h.own h.next = none := (Le.refl h).next hwf (Nat.le_refl _)
 simp only [kS1, bLookup, bMapSet, wantA, isCall, stepOp, evalO, evalL, evalP, evalM, putDst, flat, kA, kB, Nat.reduceLT, ↓reduceIte, kC, Nat.reduceEqDiff, aBuiltin, abinG, guardFree, abin, aInt, aUn, aNilCheck, retQ, retQ1, aresults, aresultL, aresult, mkF, undefV, reduceCtorEq, kD, kE, kF, kG, kH, kI, kJ, kK, aExtract, calleeOf, box42, e1, ll]
 generalize h.next = E at *
 refine KLoop.intro (fun k fr hq => ∃ i : Nat, k = ps.length - i ∧ i ≤ ps.length ∧ fr = mkF [(0, wv), (3, .pointer (some ⟨E, 0, none⟩)), (7, .int .i64 ps.length), (8, .int .i64 i)] ∧ hq = h1 ∧ p ∉ ps.take i)
  ps.length [(0, wv), (3, .pointer (some ⟨E, 0, none⟩)), (7, .int .i64 ps.length), (8, .int .i64 (0 : Nat))] (by simp only [hasAll, kS1, bLookup, bMapSet, wantA, isCall, stepOp, evalO, evalL, evalP, evalM, putDst, flat, kA, kB, Nat.reduceLT, ↓reduceIte, kC, Nat.reduceEqDiff, aBuiltin, abinG, guardFree, abin, aInt, aUn, aNilCheck, retQ, retQ1, aresults, aresultL, aresult, mkF, undefV, reduceCtorEq, kD, kE, kF, kG, kH, kI, kJ, kK, aExtract, calleeOf]; simp) ⟨0, rfl, Nat.zero_le _, rfl, rfl, by simp⟩ ?_
 rintro k fr hq hwq ⟨i, rfl, hi, rfl, rfl, hno⟩
 simp only [kS1, bLookup, bMapSet, wantA, isCall, stepOp, evalO, evalL, evalP, evalM, putDst, flat, kA, kB, Nat.reduceLT, ↓reduceIte, kC, Nat.reduceEqDiff, aBuiltin, abinG, guardFree, abin, aInt, aUn, aNilCheck, retQ, retQ1, aresults, aresultL, aresult, mkF, undefV, reduceCtorEq, kD, kE, kF, kG, kH, kI, kJ, kK, aExtract, calleeOf]
 refine KCond.intro (fun ht => ?_) (fun hf => ?_)
 rotate_left
 ·have hge : ps.length ≤ i := lt_f hf
  rw [List.take_of_length_le hge] at hno
  simp only [kS1, bLookup, bMapSet, wantA, isCall, stepOp, evalO, evalL, evalP, evalM, putDst, flat, kA, kB, Nat.reduceLT, ↓reduceIte, kC, Nat.reduceEqDiff, aBuiltin, abinG, guardFree, abin, aInt, aUn, aNilCheck, retQ, retQ1, aresults, aresultL, aresult, mkF, undefV, reduceCtorEq, kD, kE, kF, kG, kH, kI, kJ, kK, aExtract, calleeOf]
  exact ⟨⟨-1, rfl, by simp [hno]⟩, l1⟩
 have hlt : i < ps.length := lt_t ht
 clear ht
 have hpi := getElem?_of hlt
 have htk : ps.take (i + 1) = ps.take i ++ [ps[i]] := List.take_succ_eq_append_getElem hlt
 generalize ps[i] = q at hpi htk
 have ad := hw.addr (k := .i64) i hlt
 have ld := (hw.le l1).load hpi
 have lE := own42 o1
 simp only [kS1, bLookup, bMapSet, wantA, isCall, stepOp, evalO, evalL, evalP, evalM, putDst, flat, kA, kB, Nat.reduceLT, ↓reduceIte, kC, Nat.reduceEqDiff, aBuiltin, abinG, guardFree, abin, aInt, aUn, aNilCheck, retQ, retQ1, aresults, aresultL, aresult, mkF, undefV, reduceCtorEq, kD, kE, kF, kG, kH, kI, kJ, kK, aExtract, calleeOf]
 refine KDraw.intro mixed (.fl 0 (.fl 1 (.fl 2 (.fl 3 (.fl 4 (.fl 5 (.done))))))) (by kernel_rfl) ?_
 have hv := (abinP p q).1
 by_cases c : p = q
 ·have hd : decide (p = q) = true := by simpa using c
  rw [hd] at hv
  simp only [kS1, bLookup, bMapSet, wantA, isCall, stepOp, evalO, evalL, evalP, evalM, putDst, flat, kA, kB, Nat.reduceLT, ↓reduceIte, kC, Nat.reduceEqDiff, aBuiltin, abinG, guardFree, abin, aInt, aUn, aNilCheck, retQ, retQ1, aresults, aresultL, aresult, mkF, undefV, reduceCtorEq, kD, kE, kF, kG, kH, kI, kJ, kK, aExtract, calleeOf, kD1, Nat.reduceBEq, HoldsAll, kL, kM, kN, kO, ad, ld, lE, hv, -abinG]
  exact ⟨⟨i, rfl, by subst c; simp [List.mem_of_getElem? hpi]⟩, l1⟩
 ·have hd : decide (p = q) = false := by simpa using c
  rw [hd] at hv
  simp only [kS1, bLookup, bMapSet, wantA, isCall, stepOp, evalO, evalL, evalP, evalM, putDst, flat, kA, kB, Nat.reduceLT, ↓reduceIte, kC, Nat.reduceEqDiff, aBuiltin, abinG, guardFree, abin, aInt, aUn, aNilCheck, retQ, retQ1, aresults, aresultL, aresult, mkF, undefV, reduceCtorEq, kD, kE, kF, kG, kH, kI, kJ, kK, aExtract, calleeOf, kD1, Nat.reduceBEq, HoldsAll, kL, kM, kN, kO, ad, ld, lE, hv, -abinG, awrap_succ i (by omega)]
  refine loop_again (ps.length - (i + 1)) [(0, wv), (3, .pointer (some ⟨E, 0, none⟩)), (7, .int .i64 ps.length), (8, .int .i64 (i + 1 : Nat))] (by omega) (by simp only [hasAll, kS1, bLookup, bMapSet, wantA, isCall, stepOp, evalO, evalL, evalP, evalM, putDst, flat, kA, kB, Nat.reduceLT, ↓reduceIte, kC, Nat.reduceEqDiff, aBuiltin, abinG, guardFree, abin, aInt, aUn, aNilCheck, retQ, retQ1, aresults, aresultL, aresult, mkF, undefV, reduceCtorEq, kD, kE, kF, kG, kH, kI, kJ, kK, aExtract, calleeOf]; simp) ⟨i + 1, rfl, hlt, rfl, rfl, ?_⟩
  rw [htk]; simp [hno, c]
theorem Contains_any (W0 : Base) (wv : Value) (ps : List Pr) (p : Pr) (h : AHeap) (hw : PR h wv ps) (hn : ps.length ≤ 1000000) :
  AC Try.prog W0 56 [wv, valP p] h fun x h' => x = .bool (decide (p ∈ ps)) ∧ Le h h' := by
 refine AC.vc (fn := Try.f56) (c := _) ⟨Try.func56, rfl, by decide⟩ Try.ntmps56 Try.results56 (by simp) fun hwf => ?_
 simp only [argFrame, argFrom, Nat.reduceAdd]
 obtain ⟨h1, e1, l1, w1, o1⟩ := alloc_f hwf (cellsP p)
 have lE := own42 o1
 simp only [kS1, bLookup, bMapSet, wantA, isCall, stepOp, evalO, evalL, evalP, evalM, putDst, flat, kA, kB, Nat.reduceLT, ↓reduceIte, kC, Nat.reduceEqDiff, aBuiltin, abinG, guardFree, abin, aInt, aUn, aNilCheck, retQ, retQ1, aresults, aresultL, aresult, mkF, undefV, reduceCtorEq, kD, kE, kF, kG, kH, kI, kJ, kK, aExtract, calleeOf, box42, e1, lE]
 refine KCall.intro (by simp only [kS1, bLookup, bMapSet, wantA, isCall, stepOp, evalO, evalL, evalP, evalM, putDst, flat, kA, kB, Nat.reduceLT, ↓reduceIte, kC, Nat.reduceEqDiff, aBuiltin, abinG, guardFree, abin, aInt, aUn, aNilCheck, retQ, retQ1, aresults, aresultL, aresult, mkF, undefV, reduceCtorEq, kD, kE, kF, kG, kH, kI, kJ, kK, aExtract, calleeOf] <;> rfl) ⟨Try.func92, rfl, by decide⟩ (Index_any W0 wv ps p h1 (hw.le l1) hn) ?_
 rintro x h2 wf2 ⟨⟨i, rfl, hi⟩, le2⟩
 have : decide (i ≥ 0) = decide (p ∈ ps) := by simp only [decide_eq_decide]; exact hi
 simp only [kS1, bLookup, bMapSet, wantA, isCall, stepOp, evalO, evalL, evalP, evalM, putDst, flat, kA, kB, Nat.reduceLT, ↓reduceIte, kC, Nat.reduceEqDiff, aBuiltin, abinG, guardFree, abin, aInt, aUn, aNilCheck, retQ, retQ1, aresults, aresultL, aresult, mkF, undefV, reduceCtorEq, kD, kE, kF, kG, kH, kI, kJ, kK, aExtract, calleeOf, this]
 exact ⟨trivial, l1.trans le2⟩
end Go.Fw
namespace Go.Fw
open Go.Proofs
set_option maxRecDepth 10000
section
variable {α : Type} [DecidableEq α]
def setK : List (α × Int) → α → Int → List (α × Int)
 | [], k, v => [(k, v)]
 | (a, b) :: r, k, v => if a = k then (k, v) :: r else (a, b) :: setK r k v
def lookK : List (α × Int) → α → Option Int
 | [], _ => none
 | (a, b) :: r, k => if a = k then some b else lookK r k
theorem lookK_set (l : List (α × Int)) (k k' : α) (v : Int) : lookK (setK l k v) k' = if k = k' then some v else lookK l k' := by
 induction l with
 | nil => simp [setK, lookK]
 | cons x r ih =>
  obtain ⟨a, b⟩ := x
  simp only [setK]
  by_cases h : a = k
  ·subst h; rw [if_pos rfl]; simp only [lookK]; split <;> simp_all
  ·rw [if_neg h]; simp only [lookK, ih]
   by_cases h2 : a = k'
   ·subst h2; simp [Ne.symm h]
   ·simp [h2]
theorem lookK_mem {l : List (α × Int)} {k : α} : lookK l k ≠ none ↔ k ∈ l.map (·.1) := by
 induction l with
 | nil => simp [lookK]
 | cons x r ih =>
  obtain ⟨a, b⟩ := x
  simp only [lookK, List.map_cons, List.mem_cons]
  by_cases h : a = k
  ·simp [h]
  ·rw [if_neg h, ih]; simp [Ne.symm h]
theorem setK_keys (l : List (α × Int)) (k k' : α) (v : Int) : k' ∈ (setK l k v).map (·.1) ↔ k' = k ∨ k' ∈ l.map (·.1) := by
 rw [← lookK_mem, lookK_set, ← lookK_mem]
 by_cases h : k = k'
 ·simp [h]
 ·simp [h, Ne.symm h]
theorem setK_at (l : List (α × Int)) (k : α) (v : Int) : (lookK l k = none ∧ setK l k v = l ++ [(k, v)]) ∨ ∃ (j : Nat) (b : Int), lookK l k = some b ∧ l[j]? = some (k, b) ∧ (∀ i, i < j → ∀ x, l[i]? = some x → x.1 ≠ k) ∧ setK l k v = l.set j (k, v) := by
 induction l with
 | nil => exact .inl ⟨rfl, rfl⟩
 | cons x r ih =>
  obtain ⟨a, b⟩ := x
  simp only [setK, lookK]
  by_cases h : a = k
  ·subst h
   rw [if_pos rfl, if_pos rfl]
   exact .inr ⟨0, b, rfl, rfl, by omega, rfl⟩
  ·rw [if_neg h, if_neg h]
   rcases ih with ⟨h1, h2⟩ | ⟨j, c, h1, h2, h3, h4⟩
   ·exact .inl ⟨h1, by rw [h2]; rfl⟩
   ·refine .inr ⟨j + 1, c, h1, by simpa using h2, fun i hi x hx => ?_, by rw [h4]; rfl⟩
    cases i with
    | zero => simp at hx; subst hx; exact h
    | succ i => exact h3 i (by omega) x (by simpa using hx)
end
def mapP (l : List (Pr × Int)) : List (Value × Value) := l.map fun x => (valP x.1, .int .i64 x.2)
theorem afind_mapP (k : Pr) : ∀ (l : List (Pr × Int)) (i : Nat), (lookK l k = none → afind Try.prog 61 (valP k) (mapP l) i = some none) ∧ ∀ (j : Nat) b, l[j]? = some (k, b) → (∀ q, q < j → ∀ x, l[q]? = some x → x.1 ≠ k) → afind Try.prog 61 (valP k) (mapP l) i = some (some (i + j, .int .i64 b))
 | [], i => ⟨fun _ => rfl, fun j b h => by simp at h⟩
 | (a, b) :: r, i => by
  obtain ⟨h1, h2⟩ := afind_mapP k r (i + 1)
  have un : afind Try.prog 61 (valP k) (mapP ((a, b) :: r)) i = match aEq Try.prog 61 (valP k) (valP a) with | some true => some (some (i, .int .i64 b)) | some false => afind Try.prog 61 (valP k) (mapP r) (i + 1) | none => none := rfl
  rw [un, eqP]
  constructor
  ·intro h
   simp only [lookK] at h
   by_cases e : a = k
   ·rw [if_pos e] at h; cases h
   ·rw [if_neg e] at h
    have : decide (k = a) = false := by simpa using Ne.symm e
    rw [this]; exact h1 h
  ·intro j c hj hlt
   cases j with
   | zero =>
    simp at hj
    obtain ⟨rfl, rfl⟩ := hj
    have : decide (a = a) = true := by simp
    rw [this]; rfl
   | succ j =>
    have e : a ≠ k := hlt 0 (by omega) (a, b) rfl
    have : decide (k = a) = false := by simpa using Ne.symm e
    rw [this]
    show afind Try.prog 61 (valP k) (mapP r) (i + 1) = _
    rw [h2 j c (by simpa using hj) fun q hq x hx => hlt (q + 1) (by omega) x (by simpa using hx)]
    congr 3; omega
theorem keyP (p : Pr) : keyArr Try.prog 61 (valP p) = true := by
 have : allInts [.int .i64 p.1, .int .i64 p.2] = some [(IntKind.i64, p.1), (IntKind.i64, p.2)] := rfl
 simp [keyArr, Try.underlying61, Try.underlying3, valP, this, ts3]
theorem lookP_none {h : AHeap} {x : Value} (p : Pr) (ok : Bool) : aLookup Try.prog h 70 x (valP p) ok = none := by
 simp only [aLookup, Try.underlying70, valP]
theorem setP_none {h : AHeap} {x v : Value} (p : Pr) : aMapSet Try.prog h 70 x (valP p) v = none := by
 simp only [aMapSet, Try.underlying70, valP]
theorem mapP_look {h : AHeap} {M : Nat} {l : List (Pr × Int)} (ho : h.own M = some (.map (mapP l))) (k : Pr) (ok : Bool) :
  aLookupA Try.prog h 70 (.map (some M)) (valP k) ok = some (bif ok then .tuple #[.int .i64 ((lookK l k).getD 0), .bool (lookK l k).isSome] else .int .i64 ((lookK l k).getD 0)) := by
 have hz : azero Try.prog 3 = some (.int .i64 0) := by kernel_rfl
 simp only [aLookupA, Try.underlying70, keyP, ho, hz, show flat (.int .i64 0) = true from rfl, if_true]
 rcases setK_at l k 0 with ⟨h1, _⟩ | ⟨j, b, h1, h2, h3, _⟩
 ·rw [(afind_mapP k l 0).1 h1, h1]; rfl
 ·rw [(afind_mapP k l 0).2 j b h2 h3, h1]; rfl
theorem mapP_set {h : AHeap} {M : Nat} {l : List (Pr × Int)} (ho : h.own M = some (.map (mapP l))) (k : Pr) (v : Int) : aMapSetA Try.prog h 70 (.map (some M)) (valP k) (.int .i64 v) = some (h.put M (.map (mapP (setK l k v)))) := by
 simp only [aMapSetA, Try.underlying70, keyP, ho, if_true]
 rcases setK_at l k v with ⟨h1, h4⟩ | ⟨j, b, h1, h2, h3, h4⟩
 ·rw [(afind_mapP k l 0).1 h1, h4]; simp [mapP]
 ·rw [(afind_mapP k l 0).2 j b h2 h3, h4]; simp [mapP, List.map_set]
end Go.Fw
namespace Go.Fw
open Go.Proofs
attribute [local irreducible] KO4 KO3 KO2 KO1 KO KN KX KE VK KCond KDraw KCall KLoop
set_option maxHeartbeats 8000000
set_option maxRecDepth 10000
theorem Back_any (W0 : Base) (v : Value) (xs : List Int) (h : AHeap) (hv : RL isI h v xs) : AC Try.prog W0 94 [v] h fun x h' => ∃ B, x = .func (.func 117) #[] #[.pointer (some ⟨B, 0, none⟩)] ∧ h.next ≤ B ∧ h'.own B = some (.cells [v]) ∧ Le h h' := by
 refine AC.vc (fn := Try.f94) (c := _) ⟨Try.func94, rfl, by decide⟩ Try.ntmps94 Try.results94 (by simp) fun hwf => ?_
 simp only [argFrame, argFrom, Nat.reduceAdd]
 obtain ⟨h1, e1, l1, w1, o1⟩ := alloc_f hwf [v]
 have b1 : aBox h v = some (.pointer (some ⟨h.next, 0, none⟩), h1) := by
  rw [← e1]; obtain ⟨_, _, rfl, _⟩ := hv.sl; rfl
 simp only [kS1, bLookup, bMapSet, wantA, isCall, stepOp, evalO, evalL, evalP, evalM, putDst, flat, kA, kB, Nat.reduceLT, ↓reduceIte, kC, Nat.reduceEqDiff, aBuiltin, abinG, guardFree, abin, aInt, aUn, aNilCheck, retQ, retQ1, aresults, aresultL, aresult, mkF, undefV, reduceCtorEq, kD, kE, kF, kG, kH, kI, kJ, kK, aExtract, calleeOf, b1]
 exact ⟨h.next, rfl, Nat.le_refl _, o1, l1⟩
theorem Back1_any (W1 : Base) (lp B : Nat) (v : Value) (xs : List Int) (I : Nat → AHeap → Prop) (h : AHeap) (hn : xs.length < 1000000)
  (hI : ∀ i g, I i g → g.own B = some (.cells [v]) ∧ RL isI g v xs) (h0 : I xs.length h)
  (hy : ∀ i g (hi : i < xs.length), WF g → h.next ≤ g.next → I (i + 1) g → AY Try.prog W1 lp [.int .i64 i, .int .i64 xs[i]] g fun x g' => x = .bool true ∧ h.next ≤ g'.next ∧ I i g') :
  AC Try.prog W1 117 [yieldV lp, .pointer (some ⟨B, 0, none⟩)] h fun _ h' => I 0 h' := by
 have ld : ∀ i g, I i g → aload Try.prog g 38 ⟨B, 0, none⟩ = some v := fun i g hi => by rw [aload_one Try.underlying38 rfl (hI i g hi).1]; rfl
 refine AC.vc (fn := Try.f117) (c := _) ⟨Try.func117, rfl, by decide⟩ Try.ntmps117 Try.results117 (by simp) fun hwf => ?_
 simp only [argFrame, argFrom, Nat.reduceAdd]
 have w1 : awrap .i64 ((xs.length : Int) - 1) = (xs.length : Int) - 1 := awrap_i64 _ (by omega) (by omega)
 simp only [kS1, bLookup, bMapSet, wantA, isCall, stepOp, evalO, evalL, evalP, evalM, putDst, flat, kA, kB, Nat.reduceLT, ↓reduceIte, kC, Nat.reduceEqDiff, aBuiltin, abinG, guardFree, abin, aInt, aUn, aNilCheck, retQ, retQ1, aresults, aresultL, aresult, mkF, undefV, reduceCtorEq, kD, kE, kF, kG, kH, kI, kJ, kK, aExtract, calleeOf, ld _ _ h0, (hI _ _ h0).2.len Try.underlying38, w1]
 refine KLoop.intro (fun k fr g => ∃ i : Nat, k = i ∧ i ≤ xs.length ∧ fr = mkF [(0, yieldV lp), (1, .pointer (some ⟨B, 0, none⟩)), (3, .int .i64 ((i : Int) - 1))] ∧ h.next ≤ g.next ∧ I i g) xs.length [(0, yieldV lp), (1, .pointer (some ⟨B, 0, none⟩)), (3, .int .i64 ((xs.length : Int) - 1))] (by simp only [hasAll, kS1, bLookup, bMapSet, wantA, isCall, stepOp, evalO, evalL, evalP, evalM, putDst, flat, kA, kB, Nat.reduceLT, ↓reduceIte, kC, Nat.reduceEqDiff, aBuiltin, abinG, guardFree, abin, aInt, aUn, aNilCheck, retQ, retQ1, aresults, aresultL, aresult, mkF, undefV, reduceCtorEq, kD, kE, kF, kG, kH, kI, kJ, kK, aExtract, calleeOf]; simp) ⟨xs.length, rfl, Nat.le_refl _, rfl, Nat.le_refl _, h0⟩ ?_
 rintro k fr g wg ⟨i, rfl, hi, rfl, hle, hIi⟩
 simp only [kS1, bLookup, bMapSet, wantA, isCall, stepOp, evalO, evalL, evalP, evalM, putDst, flat, kA, kB, Nat.reduceLT, ↓reduceIte, kC, Nat.reduceEqDiff, aBuiltin, abinG, guardFree, abin, aInt, aUn, aNilCheck, retQ, retQ1, aresults, aresultL, aresult, mkF, undefV, reduceCtorEq, kD, kE, kF, kG, kH, kI, kJ, kK, aExtract, calleeOf]
 refine KCond.intro (fun ht => ?_) (fun hf => ?_)
 ·have hi0 : 1 ≤ k := by simp at ht; omega
  obtain ⟨j, rfl⟩ : ∃ j, k = j + 1 := ⟨k - 1, by omega⟩
  have hj : j < xs.length := by omega
  have ej : ((j + 1 : Nat) : Int) - 1 = (j : Int) := by omega
  have ad := (hI _ _ hIi).2.addr (k := .i64) Try.underlying38 Try.underlying3 rfl j hj
  have le := (hI _ _ hIi).2.loadI (P := Try.prog) Try.underlying3 rfl j hj
  simp only [kS1, bLookup, bMapSet, wantA, isCall, stepOp, evalO, evalL, evalP, evalM, putDst, flat, kA, kB, Nat.reduceLT, ↓reduceIte, kC, Nat.reduceEqDiff, aBuiltin, abinG, guardFree, abin, aInt, aUn, aNilCheck, retQ, retQ1, aresults, aresultL, aresult, mkF, undefV, reduceCtorEq, kD, kE, kF, kG, kH, kI, kJ, kK, aExtract, calleeOf, ej, ld _ _ hIi, ad, le]
  refine KCall.yield (by simp only [kS1, bLookup, bMapSet, wantA, isCall, stepOp, evalO, evalL, evalP, evalM, putDst, flat, kA, kB, Nat.reduceLT, ↓reduceIte, kC, Nat.reduceEqDiff, aBuiltin, abinG, guardFree, abin, aInt, aUn, aNilCheck, retQ, retQ1, aresults, aresultL, aresult, mkF, undefV, reduceCtorEq, kD, kE, kF, kG, kH, kI, kJ, kK, aExtract, calleeOf, yieldOf] <;> rfl) (hy j g hj wg hle hIi) ?_
  rintro x g' wg' ⟨rfl, hle', hI'⟩
  have w2 : awrap .i64 ((j : Int) - 1) = (j : Int) - 1 := awrap_i64 _ (by omega) (by omega)
  simp only [kS1, bLookup, bMapSet, wantA, isCall, stepOp, evalO, evalL, evalP, evalM, putDst, flat, kA, kB, Nat.reduceLT, ↓reduceIte, kC, Nat.reduceEqDiff, aBuiltin, abinG, guardFree, abin, aInt, aUn, aNilCheck, retQ, retQ1, aresults, aresultL, aresult, mkF, undefV, reduceCtorEq, kD, kE, kF, kG, kH, kI, kJ, kK, aExtract, calleeOf, w2]
  exact loop_again j [(0, yieldV lp), (1, .pointer (some ⟨B, 0, none⟩)), (3, .int .i64 ((j : Int) - 1))] (by omega) (by simp only [hasAll, kS1, bLookup, bMapSet, wantA, isCall, stepOp, evalO, evalL, evalP, evalM, putDst, flat, kA, kB, Nat.reduceLT, ↓reduceIte, kC, Nat.reduceEqDiff, aBuiltin, abinG, guardFree, abin, aInt, aUn, aNilCheck, retQ, retQ1, aresults, aresultL, aresult, mkF, undefV, reduceCtorEq, kD, kE, kF, kG, kH, kI, kJ, kK, aExtract, calleeOf]; simp) ⟨j, rfl, by omega, rfl, hle', hI'⟩
 ·have hi0 : k = 0 := by simp at hf; omega
  subst hi0
  simp only [kS1, bLookup, bMapSet, wantA, isCall, stepOp, evalO, evalL, evalP, evalM, putDst, flat, kA, kB, Nat.reduceLT, ↓reduceIte, kC, Nat.reduceEqDiff, aBuiltin, abinG, guardFree, abin, aInt, aUn, aNilCheck, retQ, retQ1, aresults, aresultL, aresult, mkF, undefV, reduceCtorEq, kD, kE, kF, kG, kH, kI, kJ, kK, aExtract, calleeOf]
  exact hIi
end Go.Fw
namespace Go.Fw
open Go.Proofs
attribute [local irreducible] KO4 KO3 KO2 KO1 KO KN KX KE VK KCond KDraw KCall KLoop
set_option maxHeartbeats 8000000
set_option maxRecDepth 10000
theorem Walk_any (W0 : Base) (v : Value) (n s : Nat) (es : List Pr) (h : AHeap) (hg : GR h v ⟨(n : Int), es⟩) (hr : RightG ⟨(n : Int), es⟩) (hs : s < n) :
  AC Try.prog W0 93 [v, .int .i64 (s : Int)] h fun x h' => ∃ ov U o up, x = .tuple #[ov, .slice (some ⟨U, 0, none⟩) n n, .int .i64 0] ∧ GI h' ov (nat64 o) ∧ (h'.own U = some (.cells (I64 up)) ∧ blk ov ≠ some U ∧ h.own U = none) ∧ DfsFin n es s o up ∧ Le h h' ∧ Apart h ov := by
 have hg0 := hg
 obtain ⟨ev, rfl, hp⟩ := hg.open
 have h200 : (n : Int) ≤ 200 := hr.n1
 have h594 : es.length ≤ 594 := hr.len
 refine AC.vc (fn := Try.f93) (c := _) ⟨Try.func93, rfl, by decide⟩ Try.ntmps93 Try.results93 (by simp) fun hwf => ?_
 simp only [argFrame, argFrom, Nat.reduceAdd]
 obtain ⟨h1, b1, le1, wf1, -, lA⟩ := boxG (n := (n : Int)) hwf hp
 generalize h.next = B at *
 have lA1 := lA h1 (Le.refl _)
 obtain ⟨h2, e2, l2, w2, o2⟩ := alloc_f wf1 [.int .i64 (s : Int)]
 have rs : RL isI h2 (.slice (some ⟨h1.next, 0, none⟩) 1 1) [(s : Int)] := RL.ofI (RS.whole o2 rfl)
 simp only [kS1, bLookup, bMapSet, wantA, isCall, stepOp, evalO, evalL, evalP, evalM, putDst, flat, kA, kB, Nat.reduceLT, ↓reduceIte, kC, Nat.reduceEqDiff, aBuiltin, abinG, guardFree, abin, aInt, aUn, aNilCheck, retQ, retQ1, aresults, aresultL, aresult, mkF, undefV, reduceCtorEq, kD, kE, kF, kG, kH, kI, kJ, kK, aExtract, calleeOf, b1, lA1.1, mk1, e2]
 generalize Value.slice (some ⟨h1.next, 0, none⟩) 1 1 = sv at *
 refine KCall.intro (by simp only [kS1, bLookup, bMapSet, wantA, isCall, stepOp, evalO, evalL, evalP, evalM, putDst, flat, kA, kB, Nat.reduceLT, ↓reduceIte, kC, Nat.reduceEqDiff, aBuiltin, abinG, guardFree, abin, aInt, aUn, aNilCheck, retQ, retQ1, aresults, aresultL, aresult, mkF, undefV, reduceCtorEq, kD, kE, kF, kG, kH, kI, kJ, kK, aExtract, calleeOf] <;> rfl) ⟨Try.func61, rfl, by decide⟩ (start_any W0 _ sv ⟨(n : Int), es⟩ [(s : Int)] h2 (hg0.le (le1.trans l2)) rs (by simp)) ?_
 rintro x h3 wf3 ⟨le3, lv, e, rfl, hc⟩
 have le03 := (le1.trans l2).trans le3
 have hall : ∀ x ∈ [(s : Int)], 0 ≤ x ∧ x < (n : Int) := fun x hx => by rw [List.mem_singleton] at hx; subst hx; omega
 rcases hc with ⟨hnr, _, _⟩ | ⟨_, hns, _, _⟩ | ⟨_, _, rfl, hrows⟩
 ·exact absurd hr hnr
 ·exact absurd hall hns
 ·simp only [Int.toNat_natCast] at hrows
  simp only [kS1, bLookup, bMapSet, wantA, isCall, stepOp, evalO, evalL, evalP, evalM, putDst, flat, kA, kB, Nat.reduceLT, ↓reduceIte, kC, Nat.reduceEqDiff, aBuiltin, abinG, guardFree, abin, aInt, aUn, aNilCheck, retQ, retQ1, aresults, aresultL, aresult, mkF, undefV, reduceCtorEq, kD, kE, kF, kG, kH, kI, kJ, kK, aExtract, calleeOf, bne]
  refine KCall.intro (by simp only [kS1, bLookup, bMapSet, wantA, isCall, stepOp, evalO, evalL, evalP, evalM, putDst, flat, kA, kB, Nat.reduceLT, ↓reduceIte, kC, Nat.reduceEqDiff, aBuiltin, abinG, guardFree, abin, aInt, aUn, aNilCheck, retQ, retQ1, aresults, aresultL, aresult, mkF, undefV, reduceCtorEq, kD, kE, kF, kG, kH, kI, kJ, kK, aExtract, calleeOf] <;> rfl) ⟨Try.func62, rfl, by decide⟩ (walk_any W0 lv n s es h3 hrows hr.inR hr.asc (by omega) (by omega) hs) ?_
  rintro x h4 wf4 ⟨ov, uv, o, up, rfl, ho, hu, hd, le4, ap⟩
  simp only [kS1, bLookup, bMapSet, wantA, isCall, stepOp, evalO, evalL, evalP, evalM, putDst, flat, kA, kB, Nat.reduceLT, ↓reduceIte, kC, Nat.reduceEqDiff, aBuiltin, abinG, guardFree, abin, aInt, aUn, aNilCheck, retQ, retQ1, aresults, aresultL, aresult, mkF, undefV, reduceCtorEq, kD, kE, kF, kG, kH, kI, kJ, kK, aExtract, calleeOf]
  refine ⟨ov, uv, o, up, rfl, ho, ⟨hu.1, hu.2.1, le03.none hu.2.2⟩, hd, le03.trans le4, ?_⟩
  intro b hb
  cases ho : h.own b with
  | none => rfl
  | some o => have := ap b hb; rw [le03.own _ _ ho] at this; cases this
end Go.Fw
namespace Go.Fw
set_option maxRecDepth 10000
instance adjDec (es : List Pr) (u w : Nat) : Decidable (adj es u w) := by unfold adj; infer_instance
def nxtF (n : Nat) (es : List Pr) (o : List Nat) (v : Nat) : Option Nat := (List.range n).find? fun w => decide (adj es v w) && !o.contains w
def lastF (n : Nat) (es : List Pr) (o : List Nat) : List Nat → Option (Nat × Nat)
  | [] => none
  | v :: r => match nxtF n es o v with
    | some w => some (v, w)
    | none => lastF n es o r
def walkS (n : Nat) (es : List Pr) (st : List Nat × List Int) : List Nat × List Int :=
 match lastF n es st.1 st.1.reverse with
 | some (v, w) => (st.1 ++ [w], st.2.set w (v : Int))
 | none => st
def walkN (n : Nat) (es : List Pr) : Nat → List Nat × List Int → List Nat × List Int
 | 0, st => st
 | k + 1, st => walkN n es k (walkS n es st)
def walkF (n : Nat) (es : List Pr) (s : Nat) : List Nat × List Int := walkN n es n ([s], List.replicate n (-1))
theorem nxtF_some {n : Nat} {es : List Pr} {o : List Nat} {v w : Nat} (hr : InR n es) (h : nxtF n es o v = some w) : adj es v w ∧ w ∉ o ∧ ∀ y, adj es v y → y ∉ o → w ≤ y := by
 unfold nxtF at h
 have h1 := List.find?_some h
 simp only [Bool.and_eq_true, decide_eq_true_eq, Bool.not_eq_true', List.contains_eq_mem, decide_eq_false_iff_not] at h1
 refine ⟨h1.1, h1.2, fun y hy ho => ?_⟩
 rw [List.find?_range_eq_some] at h
 rcases Nat.lt_or_ge y w with hlt | hge
 ·have := h.2.2 y hlt
  simp [hy, ho] at this
 ·exact hge
theorem nxtF_none {n : Nat} {es : List Pr} {o : List Nat} {v : Nat} (hr : InR n es) (h : nxtF n es o v = none) : Full es o v := by
 intro y hy
 unfold nxtF at h
 rw [List.find?_eq_none] at h
 have := h y (List.mem_range.2 (hy.lt hr).2)
 simpa [hy] using this
theorem lastF_none {n : Nat} {es : List Pr} {o : List Nat} (hr : InR n es) : ∀ {l : List Nat}, lastF n es o l = none → ∀ x ∈ l, Full es o x
 | [], _, x, hx => by simp at hx
 | v :: r, h, x, hx => by
  simp only [lastF] at h
  split at h
  ·cases h
  ·rename_i hn
   rcases List.mem_cons.1 hx with rfl | hx
   ·exact nxtF_none hr hn
   ·exact lastF_none hr h x hx
theorem lastF_some {n : Nat} {es : List Pr} {o : List Nat} (hr : InR n es) : ∀ {l : List Nat} {v w : Nat}, lastF n es o l = some (v, w) → ∃ i, l[i]? = some v ∧ nxtF n es o v = some w ∧ ∀ (j x : Nat), j < i → l[j]? = some x → Full es o x
 | [], v, w, h => by cases h
 | u :: r, v, w, h => by
  simp only [lastF] at h
  split at h
  ·rename_i w' hn
   injection h with h; injection h with h1 h2; subst h1 h2
   exact ⟨0, rfl, hn, by omega⟩
  ·rename_i hn
   obtain ⟨i, h1, h2, h3⟩ := lastF_some hr h
   refine ⟨i + 1, by simpa using h1, h2, fun j x hj hx => ?_⟩
   cases j with
   | zero => simp at hx; subst hx; exact nxtF_none hr hn
   | succ j => exact h3 j x (by omega) (by simpa using hx)
theorem Dfs.ndlt {n : Nat} {es : List Pr} {s : Nat} {o : List Nat} {up : List Int} (hr : InR n es) (hs : s < n) (d : Dfs n es s o up) : o.Nodup ∧ ∀ x ∈ o, x < n := by
 induction d with
 | start => simp [hs]
 | @step o up k v w d hk ha hw hm hf ih =>
  refine ⟨?_, fun x hx => ?_⟩
  ·rw [List.nodup_append]
   exact ⟨ih.1, by simp, fun a hm' b hb e => by rw [List.mem_singleton] at hb; subst hb; subst e; exact hw hm'⟩
  ·rw [List.mem_append, List.mem_singleton] at hx
   rcases hx with hx | rfl
   ·exact ih.2 x hx
   ·exact (ha.lt hr).2
theorem Dfs.boundF {n : Nat} {es : List Pr} {s : Nat} {o : List Nat} {up : List Int} (hr : InR n es) (hs : s < n) (d : Dfs n es s o up) : o.length ≤ n := by
 have := (d.ndlt hr hs).1.length_le_of_subset (l₂ := List.range n) fun v hv => List.mem_range.2 ((d.ndlt hr hs).2 v hv)
 simpa using this
theorem walkN_fin {n : Nat} {es : List Pr} {s : Nat} (hr : InR n es) (hs : s < n) : ∀ (k : Nat) {o : List Nat} {up : List Int}, Dfs n es s o up → n < o.length + k → DfsFin n es s (walkN n es k (o, up)).1 (walkN n es k (o, up)).2
 | 0, o, up, d, h => by have := d.boundF hr hs; omega
 | k + 1, o, up, d, h => by
  simp only [walkN, walkS]
  split
  ·rename_i v w hl
   obtain ⟨i, h1, h2, h3⟩ := lastF_some hr hl
   obtain ⟨q1, q2, q3⟩ := nxtF_some hr h2
   have hi : i < o.length := by have := (List.getElem?_eq_some_iff.1 h1).1; simpa using this
   refine walkN_fin hr hs k (.step (k := o.length - 1 - i) d ?_ q1 q2 q3 fun j x hj hx => ?_) (by simp; omega)
   ·rw [List.getElem?_reverse hi] at h1; exact h1
   ·have hjl := (List.getElem?_eq_some_iff.1 hx).1
    refine h3 (o.length - 1 - j) x (by omega) ?_
    rw [List.getElem?_reverse (by omega)]
    have : o.length - 1 - (o.length - 1 - j) = j := by omega
    rw [this]; exact hx
  ·rename_i hl
   have hf : ∀ x ∈ o, Full es o x := fun x hx => lastF_none hr hl x (List.mem_reverse.2 hx)
   have : ∀ k, walkN n es k (o, up) = (o, up) := by
    intro k
    induction k with
    | zero => rfl
    | succ k ih => simp only [walkN, walkS]; rw [hl]; exact ih
   rw [this]
   exact ⟨d, hf⟩
theorem walkF_fin {n : Nat} {es : List Pr} {s : Nat} (hr : InR n es) (hs : s < n) : DfsFin n es s (walkF n es s).1 (walkF n es s).2 := walkN_fin hr hs n .start (by simp)
theorem DfsFin.eq {n : Nat} {es : List Pr} {s : Nat} {o : List Nat} {up : List Int} (hr : InR n es) (hs : s < n) (d : DfsFin n es s o up) : o = (walkF n es s).1 ∧ up = (walkF n es s).2 := d.uniq (walkF_fin hr hs)
end Go.Fw
