/- A text of the proof. -/
import Derived.Test.YtnaahaldkpdjlaaFwLF11
set_option linter.unusedSimpArgs false
set_option linter.unusedVariables false
namespace Go.Fw
open Go.Proofs
set_option maxHeartbeats 16000000
set_option maxRecDepth 10000
attribute [local instance] Classical.propDecidable
theorem GI.up {h : AHeap} {v : Value} {xs : List Int} (g : GI h v xs) {i : Nat} (hi : i ≤ xs.length) : ∃ v', aSlice Try.prog 38 v (some (.int .i64 i)) none none = some v' ∧ RL isI h v' (xs.drop i) := by
 have gc := GI.rl g
 obtain ⟨hl, ⟨rfl, hn⟩ | ⟨id, c, cap, rfl, ho, ht, hc⟩⟩ := g
 ·obtain rfl : xs = [] := List.eq_nil_of_length_eq_zero hn
  obtain rfl : i = 0 := by simpa using hi
  refine ⟨.slice none 0 0, ?_, by simpa using gc⟩
  have : ¬ UNK ≤ 0 := by decide
  simp [aSlice, Try.underlying38, Try.underlying3, this, aBounds, aBound]
 ·have n1 : (0 : Int) ≤ i := by omega
  have n2 : (i : Int) ≤ xs.length := by omega
  have ts : tsize Try.prog 3 = 1 := by kernel_rfl
  have rs := (RL.cellsI gc)
  have hx : (((xs.map (Value.int .i64)).drop i).take (xs.length - i)) = (xs.drop i).map (Value.int .i64) := by
   rw [← List.map_drop, List.take_of_length_le (by simp)]
  rcases hc with rfl | ⟨rfl, hn⟩
  ·have hp := rs.part (cap' := UNK + 1) (lo := i) (hi := xs.length) hi (Nat.le_refl _) (by simp)
   rw [hx] at hp
   refine ⟨.slice (some (aadd ⟨id, 0, none⟩ i)) (xs.length - i) (UNK + 1), ?_, RL.ofI hp⟩
   simp [aSlice, Try.underlying38, Try.underlying3, ts, aBounds, aBound, n1, n2]
  ·have hno : ¬ UNK ≤ xs.length := Nat.not_le.2 (Nat.lt_of_lt_of_le hn (by decide))
   have hp := rs.part (cap' := xs.length - i) (lo := i) (hi := xs.length) hi (Nat.le_refl _) (by simp)
   rw [hx] at hp
   by_cases c : xs.length = i
   ·refine ⟨.slice (some ⟨id, 0, none⟩) 0 0, ?_, ?_⟩
    ·simp [aSlice, Try.underlying38, Try.underlying3, aBounds, aBound, n1, n2, hno, c.symm]
    ·rw [List.drop_of_length_le (by omega)]; exact RL.ofI (RS.none' (a := none) (cap := 0) rfl)
   ·refine ⟨.slice (some (aadd ⟨id, 0, none⟩ i)) (xs.length - i) (xs.length - i), ?_, RL.ofI hp⟩
    simp [aSlice, Try.underlying38, Try.underlying3, ts, aBounds, aBound, n1, n2, hno, c]
section
variable {n : Nat} {es : List Pr} {rs ts : List (List Int)}
end
end Go.Fw
namespace Go.Fw
open Go.Proofs
attribute [local irreducible] KO4 KO3 KO2 KO1 KO KN KX KE VK KCond KDraw KCall KLoop
set_option maxHeartbeats 16000000
set_option maxRecDepth 10000
attribute [local instance] Classical.propDecidable
attribute [local irreducible] facesM PlaneM besM
theorem dart_len {n : Nat} {es : List Pr} {rs : List (List Int)} (hr : RightG ⟨(n : Int), es⟩) (G : RotG n es rs) : (facesM n rs).length ≤ 40000 ∧ ∀ f ∈ facesM n rs, f.length ≤ 40000 := by
 have h200 : (n : Int) ≤ 200 := hr.n1
 refine ⟨facesM_len (n := n) (es := es) (by omega), fun f hf => ?_⟩
 have R := G.isRot hr.inR hr.asc
 unfold facesM at hf
 rw [List.mem_map] at hf
 obtain ⟨g, hg, rfl⟩ := hf
 rw [facesF, List.mem_map] at hg
 obtain ⟨d, hd, rfl⟩ := hg
 have hd1 := (mem_hdsF R).1 hd
 have hdm : d ∈ dl n (rotN rs) := (mem_dl R).2 hd1.1
 have h1 := sub_len (orbL_nodup (phi_pm R) hdm) (B := ddl n (rotN rs)) fun z hz => (mem_ddl R).2 ((mem_dl R).1 ((phi_pm R).orb_mem hdm ((mem_orbL (phi_pm R) hdm).1 hz)))
 have h2 := rowsD_len n (rotN rs) n
 rw [rowsD_all] at h2
 have h3 : n * n ≤ 200 * 200 := Nat.mul_le_mul (by omega) (by omega)
 have h4 : (nat64 (faceF (rotN rs) d)).length = (orbL (fph (rotN rs)) d).length := by rw [nat64_length, faceF, List.length_map]
 omega
end Go.Fw
namespace Go.Fw
set_option maxHeartbeats 4000000
set_option maxRecDepth 10000
attribute [local instance] Classical.propDecidable
theorem keepE_row {P : Nat → Nat → Prop} {r : Nat → List Nat} {v : Nat} (h : ∀ w ∈ r v, P v w) : keepE P r v = r v := by
 rw [keepE, List.filter_eq_self]; intro w hw; simpa using h w hw
theorem dl_len {n : Nat} {s : Nat → List Nat} (S : IsRot n s) {l : List Pr} (nd : l.Nodup) (hl : InR n l) (h : ∀ v w, w ∈ s v ↔ adj l v w) : (dl n s).length = 2 * l.length := by
 have key : ∀ l : List Pr, (l.flatMap fun p => [(p.1.toNat, p.2.toNat), (p.2.toNat, p.1.toNat)]).length = 2 * l.length := by
  intro l
  induction l with
  | nil => rfl
  | cons p l ih => rw [List.flatMap_cons, List.length_append, ih]; simp; omega
 rw [← key l]
 refine (perm_of_mem (dl_nodup S) ?_ fun d => ?_).length_eq
 ·rw [List.nodup_iff_pairwise_ne, List.pairwise_flatMap]
  refine ⟨fun p hp => ?_, ?_⟩
  ·have := hl p hp
   simp only [List.pairwise_cons, List.mem_singleton, forall_eq, List.not_mem_nil, false_implies, implies_true, List.Pairwise.nil, and_true]
   intro e; injection e with e1 e2; omega
  ·rw [List.nodup_iff_pairwise_ne] at nd
   refine List.Pairwise.imp_of_mem (fun {p q} hp hq hne => ?_) nd
   have h1 := hl p hp
   have h2 := hl q hq
   have hne' : p.1 ≠ q.1 ∨ p.2 ≠ q.2 := Classical.byContradiction fun hc => hne (Prod.ext (by omega) (by omega))
   intro x hx y hy e
   subst e
   simp only [List.mem_cons, List.not_mem_nil, or_false] at hx hy
   rcases hx with rfl | rfl <;> rcases hy with e | e <;> (injection e with e1 e2; omega)
 ·rw [mem_dl S, h, List.mem_flatMap]
  obtain ⟨v, w⟩ := d
  simp only [adj, List.mem_cons, List.not_mem_nil, or_false, Prod.mk.injEq]
  constructor
  ·rintro (h | h)
   ·exact ⟨_, h, .inl ⟨by simp, by simp⟩⟩
   ·exact ⟨_, h, .inr ⟨by simp, by simp⟩⟩
  ·rintro ⟨p, hp, ⟨rfl, rfl⟩ | ⟨rfl, rfl⟩⟩
   ·have := hl p hp
    left
    rw [Int.toNat_of_nonneg (by omega), Int.toNat_of_nonneg (by omega)]; exact hp
   ·have := hl p hp
    right
    rw [Int.toNat_of_nonneg (by omega), Int.toNat_of_nonneg (by omega)]; exact hp
section
variable {n : Nat} {es : List Pr} {rs : List (List Int)} {a : Nat}
end
end Go.Fw
namespace Go.Fw
open Go.Proofs
attribute [local irreducible] KO4 KO3 KO2 KO1 KO KN KX KE VK KCond KDraw KCall KLoop
set_option maxHeartbeats 16000000
set_option maxRecDepth 10000
attribute [local instance] Classical.propDecidable
theorem CloneI_any (W0 : Base) (v : Value) (xs : List Int) (h : AHeap) (hv : RL isI h v xs) (hn : xs.length ≤ 100000) : AC Try.prog W0 82 [v] h fun x h' => GI h' x xs ∧ Le h h' ∧ Apart h x := by
 obtain ⟨a, c, rfl, hs⟩ := hv.sl
 refine AC.vc (fn := Try.f82) (c := _) ⟨Try.func82, rfl, by decide⟩ Try.ntmps82 Try.results82 (by simp) fun hwf => ?_
 simp only [argFrame, argFrom, Nat.reduceAdd]
 cases a with
 | none =>
  have h0 : xs = [] := by
   cases xs with
   | nil => rfl
   | cons x l => exact absurd (hs (by simp)) (by simp)
  subst h0
  simp only [kS1, bLookup, bMapSet, wantA, isCall, stepOp, evalO, evalL, evalP, evalM, putDst, flat, kA, kB, Nat.reduceLT, ↓reduceIte, kC, Nat.reduceEqDiff, aBuiltin, abinG, guardFree, abin, aInt, aUn, aNilCheck, retQ, retQ1, aresults, aresultL, aresult, mkF, undefV, reduceCtorEq, kD, kE, kF, kG, kH, kI, kJ, kK, aExtract, calleeOf, aEq, Try.underlying38, Option.isNone_none]
  exact ⟨GI.nil _, Le.refl _, fun b hb => by simp [blk] at hb⟩
 | some a =>
  obtain ⟨h1, e1, l1, w1, o1⟩ := alloc_f hwf []
  have mk : aBuildSlice Try.prog h 38 0 [] = some (.slice (some ⟨h.next, 0, none⟩) 0 0, h1) := by rw [← e1]; rfl
  have nw : h.own h.next = none := (Le.refl h).next hwf (Nat.le_refl _)
  have g0 : GI h1 (.slice (some ⟨h.next, 0, none⟩) 0 0) [] := GS.full o1 rfl (by decide)
  have a0 : Apart h (.slice (some ⟨h.next, 0, none⟩) 0 0) := fun b hb => by injection hb with hb; subst hb; exact nw
  obtain ⟨jv, h6, e6, g6, w6, f6, -⟩ := GI.join g0 w1 (hv.le Stays.isI l1) (by simp; omega)
  obtain ⟨l6, aj⟩ := f6 h l1 a0
  simp only [kS1, bLookup, bMapSet, wantA, isCall, stepOp, evalO, evalL, evalP, evalM, putDst, flat, kA, kB, Nat.reduceLT, ↓reduceIte, kC, Nat.reduceEqDiff, aBuiltin, abinG, guardFree, abin, aInt, aUn, aNilCheck, retQ, retQ1, aresults, aresultL, aresult, mkF, undefV, reduceCtorEq, kD, kE, kF, kG, kH, kI, kJ, kK, aExtract, calleeOf, aEq, Try.underlying38, Option.isNone_some, mk, e6]
  exact ⟨by simpa using g6, l6, aj⟩
end Go.Fw
namespace Go.Fw
open Go.Proofs
set_option maxHeartbeats 16000000
set_option maxRecDepth 10000
attribute [local instance] Classical.propDecidable
def RevK (xs ys : List Int) (i : Nat) : Prop := ys.length = xs.length ∧ ∀ p, p < xs.length → ys[p]? = if p < i ∨ xs.length - i ≤ p then xs[xs.length - 1 - p]? else xs[p]?
theorem RevK.zero (xs : List Int) : RevK xs xs 0 := ⟨rfl, fun p hp => by rw [if_neg (by omega)]⟩
theorem RevK.fin {xs ys : List Int} {i : Nat} (R : RevK xs ys i) (h : xs.length ≤ 2 * i + 1) : ys = xs.reverse := by
 apply List.ext_getElem?
 intro p
 by_cases hp : p < xs.length
 ·rw [R.2 p hp, List.getElem?_reverse hp]
  split
  ·rfl
  ·congr 1; omega
 ·rw [List.getElem?_eq_none (by rw [R.1]; omega), List.getElem?_eq_none (by rw [List.length_reverse]; omega)]
theorem RevK.step {xs ys : List Int} {i : Nat} (R : RevK xs ys i) (h : 2 * i + 1 < xs.length) (h1 : i < ys.length) (h2 : xs.length - 1 - i < ys.length) :
  RevK xs ((ys.set i ys[xs.length - 1 - i]).set (xs.length - 1 - i) ys[i]) (i + 1) := by
 refine ⟨by simp [R.1], fun p hp => ?_⟩
 have e1 : ys[xs.length - 1 - i]? = xs[xs.length - 1 - i]? := by rw [R.2 _ (by omega), if_neg (by omega)]
 have e2 : ys[i]? = xs[i]? := by rw [R.2 _ (by omega), if_neg (by omega)]
 rw [List.getElem?_eq_getElem h2] at e1
 rw [List.getElem?_eq_getElem h1] at e2
 by_cases c1 : p = xs.length - 1 - i
 ·subst c1
  rw [List.getElem?_set_self (by simp; omega), if_pos (by omega), e2]; congr 1; omega
 ·rw [List.getElem?_set_ne (Ne.symm c1)]
  by_cases c2 : p = i
  ·subst c2
   rw [List.getElem?_set_self h1, if_pos (by omega), e1]
  ·rw [List.getElem?_set_ne (Ne.symm c2), R.2 p hp]
   by_cases c3 : p < i ∨ xs.length - i ≤ p
   ·rw [if_pos c3, if_pos (by omega)]
   ·rw [if_neg c3, if_neg (by omega)]
end Go.Fw
namespace Go.Fw
open Go.Proofs
attribute [local irreducible] KO4 KO3 KO2 KO1 KO KN KX KE VK KCond KDraw KCall KLoop
set_option maxHeartbeats 16000000
set_option maxRecDepth 10000
attribute [local instance] Classical.propDecidable
theorem ReverseI_any (W0 : Base) (u : Value) (xs : List Int) (h : AHeap) (g : GI h u xs) (hn : xs.length ≤ 100000) :
  AC Try.prog W0 83 [u] h fun _ h' => GI h' u xs.reverse ∧ (∀ f, Le f h → Apart f u → Le f h') ∧ ∀ b o, h.own b = some o → blk u ≠ some b → h'.own b = some o := by
 refine AC.vc (fn := Try.f83) (c := _) ⟨Try.func83, rfl, by decide⟩ Try.ntmps83 Try.results83 (by simp) fun hwf => ?_
 simp only [argFrame, argFrom, Nat.reduceAdd]
 have lu := fun g' => (GI.rl g).len (P := Try.prog) Try.underlying38 g'
 have w0 : awrap .i64 ((xs.length : Int) - 1) = (xs.length : Int) - 1 - ((0 : Nat) : Int) := by rw [awrap_i64 _ (by omega) (by omega)]; omega
 simp only [kS1, bLookup, bMapSet, wantA, isCall, stepOp, evalO, evalL, evalP, evalM, putDst, flat, kA, kB, Nat.reduceLT, ↓reduceIte, kC, Nat.reduceEqDiff, aBuiltin, abinG, guardFree, abin, aInt, aUn, aNilCheck, retQ, retQ1, aresults, aresultL, aresult, mkF, undefV, reduceCtorEq, kD, kE, kF, kG, kH, kI, kJ, kK, aExtract, calleeOf, lu, w0]
 refine KLoop.intro (fun k fr hq => ∃ (i : Nat) (ys : List Int), k = xs.length - i ∧ 2 * i ≤ xs.length ∧ fr = mkF [(0, u), (2, .int .i64 i), (3, .int .i64 ((xs.length : Int) - 1 - (i : Int)))] ∧ RevK xs ys i ∧ GI hq u ys ∧ (∀ f, Le f h → Apart f u → Le f hq) ∧ ∀ b o, h.own b = some o → blk u ≠ some b → hq.own b = some o)
  xs.length [(0, u), (2, .int .i64 (0 : Nat)), (3, .int .i64 ((xs.length : Int) - 1 - ((0 : Nat) : Int)))] (by simp only [hasAll, kS1, bLookup, bMapSet, wantA, isCall, stepOp, evalO, evalL, evalP, evalM, putDst, flat, kA, kB, Nat.reduceLT, ↓reduceIte, kC, Nat.reduceEqDiff, aBuiltin, abinG, guardFree, abin, aInt, aUn, aNilCheck, retQ, retQ1, aresults, aresultL, aresult, mkF, undefV, reduceCtorEq, kD, kE, kF, kG, kH, kI, kJ, kK, aExtract, calleeOf]; simp)
  ⟨0, xs, rfl, Nat.zero_le _, rfl, RevK.zero xs, g, fun f lf _ => lf, fun b o hb _ => hb⟩ ?_
 rintro k fr hq hwq ⟨i, ys, rfl, hi, rfl, R, gq, lq, kq⟩
 by_cases c : 2 * i + 1 < xs.length
 ·have d : decide ((i : Int) < (xs.length : Int) - 1 - (i : Int)) = true := decide_eq_true (by omega)
  have hj : (xs.length : Int) - 1 - (i : Int) = ((xs.length - 1 - i : Nat) : Int) := by omega
  have h1 : i < ys.length := by rw [R.1]; omega
  have h2 : xs.length - 1 - i < ys.length := by rw [R.1]; omega
  have ru := GI.rl gq
  have ad1 := ru.addr (P := Try.prog) Try.underlying38 Try.underlying3 (by kernel_rfl) (k := .i64) i h1
  have ad2 := ru.addr (P := Try.prog) Try.underlying38 Try.underlying3 (by kernel_rfl) (k := .i64) _ h2
  have ld1 := ru.loadI (P := Try.prog) Try.underlying3 rfl i h1
  have ld2 := ru.loadI (P := Try.prog) Try.underlying3 rfl _ h2
  obtain ⟨h5, e5, g5, w5, l5, k5⟩ := GI.store gq hwq h1 ys[xs.length - 1 - i]
  obtain ⟨h6, e6, g6, w6, l6, k6⟩ := GI.store g5 w5 (i := xs.length - 1 - i) (by rw [List.length_set]; exact h2) ys[i]
  have R6 := R.step c h1 h2
  have hwi := awrap_succ i (by omega)
  have hwj : awrap .i64 ((xs.length : Int) - 1 - (i : Int) - 1) = (xs.length : Int) - 1 - ((i + 1 : Nat) : Int) := by rw [awrap_i64 _ (by omega) (by omega)]; omega
  rw [← hj] at ad2
  simp only [kS1, bLookup, bMapSet, wantA, isCall, stepOp, evalO, evalL, evalP, evalM, putDst, flat, kA, kB, Nat.reduceLT, ↓reduceIte, kC, Nat.reduceEqDiff, aBuiltin, abinG, guardFree, abin, aInt, aUn, aNilCheck, retQ, retQ1, aresults, aresultL, aresult, mkF, undefV, reduceCtorEq, kD, kE, kF, kG, kH, kI, kJ, kK, aExtract, calleeOf, d]
  refine KDraw.intro mixed (.fl 0 (.fl 1 (.fl 2 (.fl 3 (.fl 4 (.fl 5 (.fl 6 (.fl 7 (.fl 8 (.fl 9 (.fl 10 (.fl 11 (.fl 12 (.ch 13 [0, 1, 4, 5, 6, 7, 11, 12] (.fl 14 (.ch 15 [0, 1, 2, 3, 4, 5, 6, 7, 8, 9, 10, 11, 12, 13, 14] (.done) .no)) .no)))))))))))))) (by kernel_rfl) ?_
  simp only [kS1, bLookup, bMapSet, wantA, isCall, stepOp, evalO, evalL, evalP, evalM, putDst, flat, kA, kB, Nat.reduceLT, ↓reduceIte, kC, Nat.reduceEqDiff, aBuiltin, abinG, guardFree, abin, aInt, aUn, aNilCheck, retQ, retQ1, aresults, aresultL, aresult, mkF, undefV, reduceCtorEq, kD, kE, kF, kG, kH, kI, kJ, kK, aExtract, calleeOf, kD1, Nat.reduceBEq, HoldsAll, kL, kM, kN, kO, ad1, ad2, ld1, ld2, e5, e6, hwi, hwj]
  exact loop_again (xs.length - (i + 1)) [(0, u), (2, .int .i64 (i + 1 : Nat)), (3, .int .i64 ((xs.length : Int) - 1 - ((i + 1 : Nat) : Int)))] (stp (by omega)) (by simp only [hasAll, kS1, bLookup, bMapSet, wantA, isCall, stepOp, evalO, evalL, evalP, evalM, putDst, flat, kA, kB, Nat.reduceLT, ↓reduceIte, kC, Nat.reduceEqDiff, aBuiltin, abinG, guardFree, abin, aInt, aUn, aNilCheck, retQ, retQ1, aresults, aresultL, aresult, mkF, undefV, reduceCtorEq, kD, kE, kF, kG, kH, kI, kJ, kK, aExtract, calleeOf]; simp)
   ⟨i + 1, _, rfl, by omega, rfl, R6, g6, fun f lf af => l6 f (l5 f (lq f lf af) af) af, fun b o hb hn' => k6 b o (k5 b o (kq b o hb hn') hn') hn'⟩
 ·have d : decide ((i : Int) < (xs.length : Int) - 1 - (i : Int)) = false := decide_eq_false (by omega)
  simp only [kS1, bLookup, bMapSet, wantA, isCall, stepOp, evalO, evalL, evalP, evalM, putDst, flat, kA, kB, Nat.reduceLT, ↓reduceIte, kC, Nat.reduceEqDiff, aBuiltin, abinG, guardFree, abin, aInt, aUn, aNilCheck, retQ, retQ1, aresults, aresultL, aresult, mkF, undefV, reduceCtorEq, kD, kE, kF, kG, kH, kI, kJ, kK, aExtract, calleeOf, d]
  obtain rfl := R.fin (by omega)
  exact ⟨gq, lq, kq⟩
end Go.Fw
