/- A text of the proof. -/
import Derived.Test.YtnaahaldkpdjlaaFwLBR
set_option linter.unusedSimpArgs false
set_option linter.unusedVariables false
namespace Go.Fw
open Go.Proofs
set_option maxHeartbeats 4000000
set_option maxRecDepth 10000
def endB (p : Pr) (v : Int) : Bool := decide (p.1 = v) || decide (p.2 = v)
def onE (ps : List Pr) (v : Int) : Bool := ps.any fun p => endB p v
theorem eqP (p q : Pr) : aEq Try.prog 61 (valP p) (valP q) = some (decide (p = q)) := by
 have e : p = q ↔ p.1 = q.1 ∧ p.2 = q.2 := Prod.ext_iff
 simp only [aEq, Try.underlying61, Try.underlying3, valP, allInts, ts3]
 by_cases h1 : p.1 = q.1
 ·by_cases h2 : p.2 = q.2
  ·simp [e, h1, h2]
  ·simp [e, h1, h2]
 ·simp [e, h1]
end Go.Fw
namespace Go.Fw
open Go.Proofs
attribute [local irreducible] KO4 KO3 KO2 KO1 KO KN KX KE VK KCond KDraw KCall KLoop
set_option maxHeartbeats 4000000
set_option maxRecDepth 10000
def meetB (a b : Pr) (web : List Pr) : Bool := (endB b a.1 && !onE web a.1) || (endB b a.2 && !onE web a.2)
theorem SameInts_any (W0 : Base) (v w : Value) (xs ys : List Int) (h : AHeap) (hv : RL isI h v xs) (hw : RL isI h w ys) (hn : xs.length ≤ 100000) : AC Try.prog W0 25 [v, w] h fun x h' => x = .bool (decide (xs = ys)) ∧ h' = h := by
 refine AC.vc (fn := Try.f25) (c := _) ⟨Try.func25, rfl, by decide⟩ Try.ntmps25 Try.results25 (by simp) fun hwf => ?_
 simp only [argFrame, argFrom, Nat.reduceAdd]
 have lv := fun g => hv.len (P := Try.prog) Try.underlying38 g
 have lw := fun g => hw.len (P := Try.prog) Try.underlying38 g
 simp only [kS1, bLookup, bMapSet, wantA, isCall, stepOp, evalO, evalL, evalP, evalM, putDst, flat, kA, kB, Nat.reduceLT, ↓reduceIte, kC, Nat.reduceEqDiff, aBuiltin, abinG, guardFree, abin, aInt, aUn, aNilCheck, retQ, retQ1, aresults, aresultL, aresult, mkF, undefV, reduceCtorEq, kD, kE, kF, kG, kH, kI, kJ, kK, aExtract, calleeOf]
 refine KLoop.intro (fun k fr hh => ∃ i : Nat, k = xs.length - i ∧ i ≤ xs.length ∧ i ≤ ys.length ∧ hh = h ∧ fr = mkF [(0, v), (1, w), (5, .int .i64 i)] ∧ xs.take i = ys.take i)
  xs.length [(0, v), (1, w), (5, .int .i64 (0 : Nat))] (by simp only [hasAll, kS1, bLookup, bMapSet, wantA, isCall, stepOp, evalO, evalL, evalP, evalM, putDst, flat, kA, kB, Nat.reduceLT, ↓reduceIte, kC, Nat.reduceEqDiff, aBuiltin, abinG, guardFree, abin, aInt, aUn, aNilCheck, retQ, retQ1, aresults, aresultL, aresult, mkF, undefV, reduceCtorEq, kD, kE, kF, kG, kH, kI, kJ, kK, aExtract, calleeOf]; simp) ⟨0, rfl, Nat.zero_le _, Nat.zero_le _, rfl, rfl, rfl⟩ ?_
 rintro k fr hh - ⟨i, rfl, hi, hi2, rfl, rfl, he⟩
 have stop : ∀ b : Bool, (b = true ↔ xs.length = i ∧ ys.length = i) → (i < xs.length → i < ys.length → False ∨ xs[i]? ≠ ys[i]?) → b = decide (xs = ys) := fun b hb hne => by
  by_cases e : xs = ys
  ·rw [decide_eq_true e]
   rw [hb]
   subst e
   by_cases c : i < xs.length
   ·rcases hne c c with h | h
    ·exact h.elim
    ·exact absurd rfl h
   ·omega
  ·rw [decide_eq_false e]
   cases b with
   | false => rfl
   | true =>
    obtain ⟨h1, h2⟩ := hb.1 rfl
    rw [List.take_of_length_le (by omega), List.take_of_length_le (by omega)] at he
    exact absurd he e
 by_cases c1 : i < xs.length
 ·have z1 : ((i : Int) < (xs.length : Int)) = True := eq_true (by omega)
  have y1 : ((i : Int) = (xs.length : Int)) = False := eq_false (by omega)
  by_cases c2 : i < ys.length
  ·have z2 : ((i : Int) < (ys.length : Int)) = True := eq_true (by omega)
   have y2 : ((i : Int) = (ys.length : Int)) = False := eq_false (by omega)
   have ad := hv.addr (P := Try.prog) Try.underlying38 Try.underlying3 (by kernel_rfl) (k := .i64) i c1
   have ld := hv.loadI (P := Try.prog) Try.underlying3 rfl i c1
   have ad2 := hw.addr (P := Try.prog) Try.underlying38 Try.underlying3 (by kernel_rfl) (k := .i64) i c2
   have ld2 := hw.loadI (P := Try.prog) Try.underlying3 rfl i c2
   by_cases c3 : xs[i] = ys[i]
   ·simp only [kS1, bLookup, bMapSet, wantA, isCall, stepOp, evalO, evalL, evalP, evalM, putDst, flat, kA, kB, Nat.reduceLT, ↓reduceIte, kC, Nat.reduceEqDiff, aBuiltin, abinG, guardFree, abin, aInt, aUn, aNilCheck, retQ, retQ1, aresults, aresultL, aresult, mkF, undefV, reduceCtorEq, kD, kE, kF, kG, kH, kI, kJ, kK, aExtract, calleeOf]
    refine KDraw.intro mixed (.fl 0 (.fl 1 (.fl 2 (.fl 3 (.fl 4 (.fl 5 (.fl 6 (.fl 7 (.fl 8 (.fl 9 (.fl 10 (.fl 11 (.fl 12 (.fl 13 (.fl 14 (.fl 15 (.fl 16 (.fl 17 (.fl 18 (.fl 19 (.fl 20 (.done)))))))))))))))))))))) (by kernel_rfl) ?_
    simp only [kS1, bLookup, bMapSet, wantA, isCall, stepOp, evalO, evalL, evalP, evalM, putDst, flat, kA, kB, Nat.reduceLT, ↓reduceIte, kC, Nat.reduceEqDiff, aBuiltin, abinG, guardFree, abin, aInt, aUn, aNilCheck, retQ, retQ1, aresults, aresultL, aresult, mkF, undefV, reduceCtorEq, kD, kE, kF, kG, kH, kI, kJ, kK, aExtract, calleeOf, kD1, Nat.reduceBEq, HoldsAll, kL, kM, kN, kO, lv, lw, z1, z2, ad, ld, ad2, ld2, eq_true c3, awrap_succ i (by omega)]
    exact loop_again (xs.length - (i + 1)) [(0, v), (1, w), (5, .int .i64 (i + 1 : Nat))] (by omega) (by simp only [hasAll, kS1, bLookup, bMapSet, wantA, isCall, stepOp, evalO, evalL, evalP, evalM, putDst, flat, kA, kB, Nat.reduceLT, ↓reduceIte, kC, Nat.reduceEqDiff, aBuiltin, abinG, guardFree, abin, aInt, aUn, aNilCheck, retQ, retQ1, aresults, aresultL, aresult, mkF, undefV, reduceCtorEq, kD, kE, kF, kG, kH, kI, kJ, kK, aExtract, calleeOf]; simp) ⟨i + 1, rfl, c1, c2, rfl, rfl, by rw [List.take_succ_eq_append_getElem c1, List.take_succ_eq_append_getElem c2, he, c3]⟩
   ·simp only [kS1, bLookup, bMapSet, wantA, isCall, stepOp, evalO, evalL, evalP, evalM, putDst, flat, kA, kB, Nat.reduceLT, ↓reduceIte, kC, Nat.reduceEqDiff, aBuiltin, abinG, guardFree, abin, aInt, aUn, aNilCheck, retQ, retQ1, aresults, aresultL, aresult, mkF, undefV, reduceCtorEq, kD, kE, kF, kG, kH, kI, kJ, kK, aExtract, calleeOf]
    refine KDraw.intro mixed (.fl 0 (.fl 1 (.fl 2 (.fl 3 (.fl 4 (.fl 5 (.fl 6 (.fl 7 (.fl 8 (.fl 9 (.fl 10 (.fl 11 (.fl 12 (.fl 13 (.fl 14 (.fl 15 (.fl 16 (.fl 17 (.fl 18 (.fl 19 (.fl 20 (.done)))))))))))))))))))))) (by kernel_rfl) ?_
    simp only [kS1, bLookup, bMapSet, wantA, isCall, stepOp, evalO, evalL, evalP, evalM, putDst, flat, kA, kB, Nat.reduceLT, ↓reduceIte, kC, Nat.reduceEqDiff, aBuiltin, abinG, guardFree, abin, aInt, aUn, aNilCheck, retQ, retQ1, aresults, aresultL, aresult, mkF, undefV, reduceCtorEq, kD, kE, kF, kG, kH, kI, kJ, kK, aExtract, calleeOf, kD1, Nat.reduceBEq, HoldsAll, kL, kM, kN, kO, lv, lw, z1, z2, ad, ld, ad2, ld2, eq_false c3, y1, y2]
    exact by rw [← stop false ⟨(fun e => by cases e), fun e => by omega⟩ (fun _ _ => .inr (by rw [getElem?_of c1, getElem?_of c2]; simpa using c3))]
  ·have z2 : ((i : Int) < (ys.length : Int)) = False := eq_false (by omega)
   simp only [kS1, bLookup, bMapSet, wantA, isCall, stepOp, evalO, evalL, evalP, evalM, putDst, flat, kA, kB, Nat.reduceLT, ↓reduceIte, kC, Nat.reduceEqDiff, aBuiltin, abinG, guardFree, abin, aInt, aUn, aNilCheck, retQ, retQ1, aresults, aresultL, aresult, mkF, undefV, reduceCtorEq, kD, kE, kF, kG, kH, kI, kJ, kK, aExtract, calleeOf]
   refine KDraw.intro mixed (.fl 0 (.fl 1 (.fl 2 (.fl 3 (.fl 4 (.fl 5 (.fl 6 (.fl 7 (.fl 8 (.fl 9 (.fl 10 (.fl 11 (.fl 12 (.fl 13 (.fl 14 (.fl 15 (.fl 16 (.fl 17 (.fl 18 (.fl 19 (.fl 20 (.done)))))))))))))))))))))) (by kernel_rfl) ?_
   simp only [kS1, bLookup, bMapSet, wantA, isCall, stepOp, evalO, evalL, evalP, evalM, putDst, flat, kA, kB, Nat.reduceLT, ↓reduceIte, kC, Nat.reduceEqDiff, aBuiltin, abinG, guardFree, abin, aInt, aUn, aNilCheck, retQ, retQ1, aresults, aresultL, aresult, mkF, undefV, reduceCtorEq, kD, kE, kF, kG, kH, kI, kJ, kK, aExtract, calleeOf, kD1, Nat.reduceBEq, HoldsAll, kL, kM, kN, kO, lv, lw, z1, z2, y1]
   exact by rw [← stop false ⟨(fun e => by cases e), fun e => by omega⟩ (fun _ e => absurd e c2)]
 ·have z1 : ((i : Int) < (xs.length : Int)) = False := eq_false (by omega)
  have y1 : ((i : Int) = (xs.length : Int)) = True := eq_true (by omega)
  simp only [kS1, bLookup, bMapSet, wantA, isCall, stepOp, evalO, evalL, evalP, evalM, putDst, flat, kA, kB, Nat.reduceLT, ↓reduceIte, kC, Nat.reduceEqDiff, aBuiltin, abinG, guardFree, abin, aInt, aUn, aNilCheck, retQ, retQ1, aresults, aresultL, aresult, mkF, undefV, reduceCtorEq, kD, kE, kF, kG, kH, kI, kJ, kK, aExtract, calleeOf]
  refine KDraw.intro mixed (.fl 0 (.fl 1 (.fl 2 (.fl 3 (.fl 4 (.fl 5 (.fl 6 (.fl 7 (.fl 8 (.fl 9 (.fl 10 (.fl 11 (.fl 12 (.fl 13 (.fl 14 (.fl 15 (.fl 16 (.fl 17 (.fl 18 (.fl 19 (.fl 20 (.done)))))))))))))))))))))) (by kernel_rfl) ?_
  simp only [kS1, bLookup, bMapSet, wantA, isCall, stepOp, evalO, evalL, evalP, evalM, putDst, flat, kA, kB, Nat.reduceLT, ↓reduceIte, kC, Nat.reduceEqDiff, aBuiltin, abinG, guardFree, abin, aInt, aUn, aNilCheck, retQ, retQ1, aresults, aresultL, aresult, mkF, undefV, reduceCtorEq, kD, kE, kF, kG, kH, kI, kJ, kK, aExtract, calleeOf, kD1, Nat.reduceBEq, HoldsAll, kL, kM, kN, kO, lv, lw, z1, y1]
  exact by rw [← stop (decide ((i : Int) = (ys.length : Int))) (by rw [decide_eq_true_iff]; omega) (fun e => absurd e c1)]
end Go.Fw
namespace Go.Fw
open Go.Proofs
set_option maxHeartbeats 1000000
set_option maxRecDepth 10000
theorem getD_set {α : Type} (l : List α) (i j : Nat) (a d : α) : (l.set i a).getD j d = if i = j ∧ i < l.length then a else l.getD j d := by
 simp only [List.getD_eq_getElem?_getD, List.getElem?_set]
 by_cases h1 : i = j
 ·subst h1
  by_cases h2 : i < l.length
  ·simp [h2]
  ·simp [h2]
 ·simp [h1]
def InR (n : Nat) (es : List Pr) : Prop := ∀ p ∈ es, 0 ≤ p.1 ∧ p.1 < p.2 ∧ p.2 < (n : Int)
theorem RightG.inR {n : Nat} {es : List Pr} (hr : RightG ⟨(n : Int), es⟩) : InR n es := fun p hpm => by
 obtain ⟨i, hi⟩ := List.mem_iff_getElem?.1 hpm
 exact (hr.ok i (List.getElem?_eq_some_iff.1 hi).1 p hi).1
def adj (es : List Pr) (u w : Nat) : Prop := ((u : Int), (w : Int)) ∈ es ∨ ((w : Int), (u : Int)) ∈ es
theorem adj.symm {es : List Pr} {u w : Nat} (h : adj es u w) : adj es w u := Or.symm h
theorem adj.lt {n : Nat} {es : List Pr} (hr : InR n es) {u w : Nat} (h : adj es u w) : u < n ∧ w < n := by
 rcases h with h | h <;> have := hr _ h <;> simp only at this <;> omega
theorem bes_step (rows : List (List Int)) (p : Pr) (u : Nat) (x : Int) (h1 : p.1.toNat < rows.length) (h2 : p.2.toNat < rows.length) :
  x ∈ (besStep rows p).getD u [] ↔ x ∈ rows.getD u [] ∨ (p.1.toNat = u ∧ x = p.2) ∨ (p.2.toNat = u ∧ x = p.1) := by
 simp only [besStep, getD_set, List.length_set]
 by_cases e2 : p.2.toNat = u
 ·subst e2
  by_cases e1 : p.1.toNat = p.2.toNat
  ·simp [e1, h2, or_assoc]
  ·simp [e1, h2]
 ·by_cases e1 : p.1.toNat = u
  ·subst e1; simp [e2, h1]
  ·simp [e1, e2]
theorem bes_fold (n : Nat) : ∀ (es : List Pr) (rows : List (List Int)), rows.length = n → InR n es → ∀ (u : Nat) (x : Int), x ∈ (es.foldl besStep rows).getD u [] ↔ x ∈ rows.getD u [] ∨ ∃ p ∈ es, (p.1.toNat = u ∧ x = p.2) ∨ (p.2.toNat = u ∧ x = p.1)
 | [], rows, _, _, u, x => by simp
 | p :: es, rows, hl, hr, u, x => by
  have hp := hr p (by simp)
  rw [List.foldl_cons, bes_fold n es _ (by rw [besStep_length, hl]) (fun q hq => hr q (by simp [hq])) u x, bes_step rows p u x (by omega) (by omega)]
  simp only [List.mem_cons, exists_eq_or_imp]
  constructor
  ·rintro ((h | h) | h)
   ·exact .inl h
   ·exact .inr (.inl h)
   ·exact .inr (.inr h)
  ·rintro (h | h | h)
   ·exact .inl (.inl h)
   ·exact .inl (.inr h)
   ·exact .inr h
theorem besM_mem {n : Nat} {es : List Pr} (hr : InR n es) (u w : Nat) : (w : Int) ∈ (besM n es).getD u [] ↔ adj es u w := by
 have hnil : (List.replicate n ([] : List Int)).getD u [] = [] := by
  simp only [List.getD_eq_getElem?_getD, List.getElem?_replicate]; split <;> rfl
 rw [besM, bes_fold n es _ (by simp) hr, hnil]
 simp only [List.not_mem_nil, false_or, adj]
 constructor
 ·rintro ⟨⟨a, b⟩, hp, ⟨h1, h2⟩ | ⟨h1, h2⟩⟩
  ·have := hr _ hp; simp only at this h1 h2
   left; have : a = (u : Int) := by omega
   rw [← this, h2]; exact hp
  ·have := hr _ hp; simp only at this h1 h2
   right; have : b = (u : Int) := by omega
   rw [← this, h2]; exact hp
 ·rintro (h | h)
  ·exact ⟨_, h, .inl ⟨by simp, rfl⟩⟩
  ·exact ⟨_, h, .inr ⟨by simp, rfl⟩⟩
theorem besM_nat {n : Nat} {es : List Pr} (hr : InR n es) {u : Nat} {x : Int} (hx : x ∈ (besM n es).getD u []) : ∃ w : Nat, x = (w : Int) ∧ w < n := by
 have hnil : (List.replicate n ([] : List Int)).getD u [] = [] := by
  simp only [List.getD_eq_getElem?_getD, List.getElem?_replicate]; split <;> rfl
 rw [besM, bes_fold n es _ (by simp) hr, hnil] at hx
 simp only [List.not_mem_nil, false_or] at hx
 obtain ⟨p, hp, ⟨_, rfl⟩ | ⟨_, rfl⟩⟩ := hx
 ·have := hr _ hp; exact ⟨p.2.toNat, by omega, by omega⟩
 ·have := hr _ hp; exact ⟨p.1.toNat, by omega, by omega⟩
inductive Cn (on : Nat → Bool) (es : List Pr) : Nat → Nat → Prop
 | refl {u : Nat} : on u = false → Cn on es u u
 | step {u w x : Nat} : Cn on es u w → adj es w x → on x = false → Cn on es u x
theorem Cn.off2 {on : Nat → Bool} {es : List Pr} {u w : Nat} (h : Cn on es u w) : on w = false := by
 cases h with
 | refl h => exact h
 | step _ _ h => exact h
theorem Cn.trans {on : Nat → Bool} {es : List Pr} {u w x : Nat} (h : Cn on es u w) (k : Cn on es w x) : Cn on es u x := by
 induction k with
 | refl _ => exact h
 | step _ a o ih => exact ih.step a o
theorem Cn.symm {on : Nat → Bool} {es : List Pr} {u w : Nat} (h : Cn on es u w) : Cn on es w u := by
 induction h with
 | refl h => exact .refl h
 | step h a o ih => exact ((Cn.refl o).step a.symm h.off2).trans ih
structure TO (n : Nat) (on : Nat → Bool) (es : List Pr) (v : Nat) (L : List Int) : Prop where
 len : L.length = n
 val : ∀ (u : Nat) l, L[u]? = some l → l = -1 ∨ on u = false ∧ ∃ k : Nat, k < v ∧ l = (k : Int) ∧ Cn on es k u
 old : ∀ (u w : Nat) l, L[u]? = some l → 0 ≤ l → adj es u w → on w = false → L[w]? = some l
 low : ∀ u, u < v → u < n → on u = false → L[u]? ≠ some (-1)
structure TI (n : Nat) (on : Nat → Bool) (es : List Pr) (v : Nat) (L : List Int) (met : List Nat) (cl : Nat → Nat → Prop) : Prop where
 len : L.length = n
 val : ∀ (u : Nat) l, L[u]? = some l → l = -1 ∨ on u = false ∧ ∃ k : Nat, k ≤ v ∧ l = (k : Int) ∧ Cn on es k u
 old : ∀ (u w : Nat) l, L[u]? = some l → 0 ≤ l → l < (v : Int) → adj es u w → on w = false → L[w]? = some l
 low : ∀ u, u ≤ v → u < n → on u = false → L[u]? ≠ some (-1)
 mm : ∀ u, u ∈ met ↔ L[u]? = some (v : Int)
 nd : met.Nodup
 cl : ∀ u w, cl u w → L[w]? = some (v : Int)
theorem TO.start (n : Nat) (on : Nat → Bool) (es : List Pr) : TO n on es 0 (List.replicate n (-1)) :=
 ⟨by simp, fun u l h => .inl (List.eq_of_mem_replicate (List.mem_of_getElem? h)), fun u w l h h0 => by have := List.eq_of_mem_replicate (List.mem_of_getElem? h); omega, fun u h => by omega⟩
theorem TI.mono {n : Nat} {on : Nat → Bool} {es : List Pr} {v : Nat} {L : List Int} {met : List Nat} {cl cl' : Nat → Nat → Prop} (t : TI n on es v L met cl) (h : ∀ u w, cl' u w → cl u w) : TI n on es v L met cl' :=
 ⟨t.len, t.val, t.old, t.low, t.mm, t.nd, fun u w k => t.cl u w (h u w k)⟩
structure TogM (n : Nat) (on : Nat → Bool) (es : List Pr) (L : List Int) : Prop where
 len : L.length = n
 off : ∀ u, u < n → on u = false → ∃ k : Nat, k < n ∧ L[u]? = some (k : Int) ∧ Cn on es k u
 same : ∀ u w, u < n → w < n → on u = false → on w = false → (L[u]? = L[w]? ↔ Cn on es u w)
end Go.Fw
namespace Go.Fw
open Go.Proofs
attribute [local irreducible] KO4 KO3 KO2 KO1 KO KN KX KE VK KCond KDraw KCall KLoop
set_option maxHeartbeats 4000000
set_option maxRecDepth 10000
def GI (h : AHeap) (v : Value) (xs : List Int) : Prop := GS 1 h v xs.length (I64 xs)
theorem GI.le {h h' : AHeap} {v : Value} {xs : List Int} (g : GI h v xs) (e : Le h h') : GI h' v xs := GS.le g e
theorem GI.rl {h : AHeap} {v : Value} {xs : List Int} (g : GI h v xs) : RL isI h v xs := RL.ofI (GS.cs g).rs
theorem GI.nil (h : AHeap) : GI h (.slice none 0 0) [] := GS.nil 1 h
theorem GI.push {h : AHeap} {v : Value} {xs : List Int} (g : GI h v xs) (hwf : WF h) (x : Int) (hn : xs.length ≤ 100000) :
  ∃ v' h4 h5, aBuildSlice Try.prog h 38 1 [(0, .int .i64 x)] = some (.slice (some ⟨h.next, 0, none⟩) 1 1, h4) ∧ aAppend Try.prog h4 38 38 v (.slice (some ⟨h.next, 0, none⟩) 1 1) = some (v', h5) ∧ GI h5 v' (xs ++ [x]) ∧ WF h5 ∧ Le h h4 ∧
   (∀ f, Le f h → Apart f v → Le f h5 ∧ Apart f v') ∧ (∀ b o, h.own b = some o → blk v ≠ some b → h5.own b = some o ∧ blk v' ≠ some b) := by
 obtain ⟨h4, e4, l4, w4, o4⟩ := alloc_f hwf [.int .i64 x]
 obtain ⟨v', h5, e5, g5, hf⟩ := (GS.le g l4).push (P := Try.prog) (t := 38) (by kernel_rfl) o4 (I64_one _) rfl (by omega)
 refine ⟨v', h4, h5, by rw [mk1, e4], e5, ?_, aAppend_wf w4 e5, l4, fun f lf af => hf f w4 (lf.trans l4) af, fun b o ho hb => keep_own hf w4 (l4.own _ _ ho) hb⟩
 have : I64 xs ++ [.int .i64 x] = I64 (xs ++ [x]) := by simp [I64]
 rw [GI, ← this, List.length_append]; exact g5
def GP (h : AHeap) (v : Value) (ps : List Pr) : Prop := GS 2 h v ps.length (flatP ps)
theorem GP.le {h h' : AHeap} {v : Value} {ps : List Pr} (g : GP h v ps) (e : Le h h') : GP h' v ps := GS.le g e
theorem GP.pr {h : AHeap} {v : Value} {ps : List Pr} (g : GP h v ps) : PR h v ps := GS.cs g
theorem GP.nil (h : AHeap) : GP h (.slice none 0 0) [] := GS.nil 2 h
theorem GP.join {h : AHeap} {v x : Value} {ps qs : List Pr} (g : GP h v ps) (hwf : WF h) (hx : PR h x qs) (hn : ps.length + qs.length ≤ 1000000000) :
  ∃ v' h5, aAppend Try.prog h 22 22 v x = some (v', h5) ∧ GP h5 v' (ps ++ qs) ∧ WF h5 ∧
   (∀ f, Le f h → Apart f v → Le f h5 ∧ Apart f v') ∧ (∀ b o, h.own b = some o → blk v ≠ some b → h5.own b = some o ∧ blk v' ≠ some b) := by
 obtain ⟨v', h5, e5, g5, hf⟩ := GS.append (P := Try.prog) (t := 22) (xt := 22) (k := 2) (by kernel_rfl) g (fun e he => CS.src he hx) (flatP_one _) (flatP_one _) (flatP_length _) (by omega)
 refine ⟨v', h5, e5, ?_, aAppend_wf hwf e5, fun f lf af => hf f hwf lf af, fun b o ho hb => keep_own hf hwf ho hb⟩
 rw [GP, List.length_append, flatP_append]; exact g5
theorem mkP1 (h : AHeap) (p : Pr) : aBuildSlice Try.prog h 22 1 [(0, valP p)] = some (.slice (some ⟨h.next, 0, none⟩) 1 1, h.alloc (.cells (cellsP p))) := rfl
theorem GP.push {h : AHeap} {v : Value} {ps : List Pr} (g : GP h v ps) (hwf : WF h) (p : Pr) (hn : ps.length + 1 ≤ 100000) :
  ∃ v' h4 h5, aBuildSlice Try.prog h 22 1 [(0, valP p)] = some (.slice (some ⟨h.next, 0, none⟩) 1 1, h4) ∧ aAppend Try.prog h4 22 22 v (.slice (some ⟨h.next, 0, none⟩) 1 1) = some (v', h5) ∧ GP h5 v' (ps ++ [p]) ∧ WF h5 ∧ Le h h4 ∧
   (∀ f, Le f h → Apart f v → Le f h5 ∧ Apart f v') ∧ (∀ b o, h.own b = some o → blk v ≠ some b → h5.own b = some o ∧ blk v' ≠ some b) := by
 obtain ⟨h4, e4, l4, w4, o4⟩ := alloc_f hwf (cellsP p)
 have hx : PR h4 (.slice (some ⟨h.next, 0, none⟩) 1 1) [p] := by
  have := CS.own (k := 2) (off := 0) (n := 1) (cap := 1) o4 (by simp [cellsP])
  exact this
 obtain ⟨v', h5, e5, g5, w5, hf, hk⟩ := (g.le l4).join w4 hx (by simp; omega)
 exact ⟨v', h4, h5, by rw [mkP1, e4], e5, g5, w5, l4, fun f lf af => hf f (lf.trans l4) af, fun b o ho hb => hk b o (l4.own _ _ ho) hb⟩
theorem I64_set (L : List Int) (i : Nat) (x : Int) : (I64 L).set i (.int .i64 x) = I64 (L.set i x) := by simp [I64, List.map_set]
def nat64 (l : List Nat) : List Int := l.map fun (x : Nat) => (x : Int)
theorem nat64_length (l : List Nat) : (nat64 l).length = l.length := by simp [nat64]
theorem nat64_get {l : List Nat} {i : Nat} (hi : i < l.length) : (nat64 l)[i]'(by rw [nat64_length]; exact hi) = ((l[i] : Nat) : Int) := by simp [nat64]
end Go.Fw
