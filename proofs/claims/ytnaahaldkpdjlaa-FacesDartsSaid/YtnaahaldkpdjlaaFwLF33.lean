/- A text of the proof. -/
import Derived.Test.YtnaahaldkpdjlaaFwLF14
set_option linter.unusedSimpArgs false
set_option linter.unusedVariables false
namespace Go.Fw
open Go.Proofs
attribute [local irreducible] KO4 KO3 KO2 KO1 KO KN KX KE VK KCond KDraw KCall KLoop
set_option maxHeartbeats 16000000
set_option maxRecDepth 10000
attribute [local instance] Classical.propDecidable
attribute [local irreducible] facesM PlaneM besM
noncomputable def lastP (n : Nat) (r : Nat → List Nat) (p : Nat) : Pr := match p with | 0 => (-1, -1) | p + 1 => match (hdsF n r)[p]? with | some d => castD d | none => (-1, -1)
theorem lastP_lt {n : Nat} {r : Nat → List Nat} {p : Nat} {d : Dart} (hp : (hdsF n r)[p]? = some d) : (lastP n r p).1 < (castD d).1 ∨ (lastP n r p).1 = (castD d).1 ∧ (lastP n r p).2 < (castD d).2 := by
 cases p with
 | zero => exact .inl (by simp only [lastP, castD]; omega)
 | succ p =>
  obtain ⟨h1, h2⟩ := List.getElem?_eq_some_iff.1 hp
  have hq : (hdsF n r)[p]? = some (hdsF n r)[p] := List.getElem?_eq_getElem (by omega)
  have := hds_asc n r
  rw [List.pairwise_iff_getElem] at this
  have h3 := this p (p + 1) (by omega) h1 (by omega)
  rw [h2] at h3
  simp only [lastP, hq, castD]
  rcases h3 with h3 | h3
  ·exact .inl (by omega)
  ·exact .inr (by omega)
theorem lastP_next {n : Nat} {r : Nat → List Nat} {p : Nat} {d : Dart} (hp : (hdsF n r)[p]? = some d) : lastP n r (p + 1) = castD d := by simp only [lastP, hp]
def cum (L : List (List Int)) (p : Nat) : Nat := ((L.take p).map List.length).sum
theorem cum_next {L : List (List Int)} {p : Nat} (hp : p < L.length) : cum L (p + 1) = cum L p + (L[p]).length := by
 unfold cum; rw [List.take_succ_eq_append_getElem hp, List.map_append, List.sum_append]; simp
theorem cum_all (L : List (List Int)) : cum L L.length = (L.map List.length).sum := by unfold cum; rw [List.take_length]
theorem head_no {n : Nat} {r : Nat → List Nat} {p : Nat} {d : Dart} (R : IsRot n r) (hp : (hdsF n r)[p]? = some d) (i : Nat) : ¬ ((castD (it (fph r) i d)).1 < (castD d).1 ∨ (castD (it (fph r) i d)).1 = (castD d).1 ∧ (castD (it (fph r) i d)).2 < (castD d).2) := fun h => by
 have := ((mem_hdsF R).1 (List.mem_of_getElem? hp)).2 (it (fph r) i d) ⟨i, rfl⟩
 apply this
 simp only [castD] at h
 rcases h with h | h
 ·exact .inl (by omega)
 ·exact .inr (by omega)
theorem has_dart {n : Nat} {es : List Pr} {rs : List (List Int)} (hr : InR n es) (G : RotG n es rs) {e : Dart} (he : e.2 ∈ rotN rs e.1) : (min ((e.1 : Nat) : Int) ((e.2 : Nat) : Int), max ((e.1 : Nat) : Int) ((e.2 : Nat) : Int)) ∈ es := by
 rcases (G.mem hr).1 he with h | h
 ·have := hr _ h
  simp only at this
  rw [Int.min_eq_left (by omega), Int.max_eq_right (by omega)]; exact h
 ·have := hr _ h
  simp only at this
  rw [Int.min_eq_right (by omega), Int.max_eq_left (by omega)]; exact h
theorem sum_darts {n : Nat} {es : List Pr} {rs : List (List Int)} (hr : InR n es) (ha : Asc es) (G : RotG n es rs) : cum (facesM n rs) (facesM n rs).length = 2 * es.length := by
 rw [cum_all, faces_sum (G.isRot hr ha), dl_len (G.isRot hr ha) ha.nodup hr fun v w => G.mem hr]
theorem cum_le {n : Nat} {es : List Pr} {rs : List (List Int)} (hr : InR n es) (ha : Asc es) (G : RotG n es rs) : ∀ p, cum (facesM n rs) p ≤ 2 * es.length := fun p => by
 rw [← sum_darts hr ha G]
 have : ∀ (L : List (List Int)) (p : Nat), cum L p ≤ cum L L.length := fun L => by
  induction L with
  | nil => intro p; simp [cum]
  | cons x l ih =>
   intro p
   cases p with
   | zero => simp [cum]
   | succ p =>
    have := ih p
    simp only [cum, List.take_succ_cons, List.map_cons, List.sum_cons, List.length_cons] at this ⊢
    omega
 exact this _ p
theorem aw_two {j N : Nat} (h : j < N) (hN : N ≤ 40000) : awrap .i64 ((j : Int) + 2) = ((j + 2 : Nat) : Int) := awrap_i64 _ (by omega) (by omega)
theorem aw_row {q N : Nat} (h : q < N) (hN : N ≤ 100000) : awrap .i64 ((q : Int) + 1) = ((q + 1 : Nat) : Int) := awrap_succ q (by omega)
theorem nat_nlt (q : Nat) : decide ((q : Int) < 0) = false := decide_eq_false (by omega)
theorem nat_nz {q N : Nat} (h : q < N) : ((N : Int) = 0) = False := eq_false (by omega)
theorem Darts_law (W0 : Base) (v ov : Value) (G : GM) (os : List Int) (h : AHeap) (hg : GR h v G) (ho : RL isH h ov os) :
  AC Try.prog W0 11 [v, ov] h fun x h' => x = .bool true ∧ True := by
 have hg0 := hg
 obtain ⟨gn, es⟩ := G
 obtain ⟨ev, rfl, hp⟩ := hg.open
 refine AC.vc (fn := Try.f11) (c := _) ⟨Try.func11, rfl, by decide⟩ Try.ntmps11 Try.results11 (by simp) fun hwf => ?_
 simp only [argFrame, argFrom, Nat.reduceAdd]
 obtain ⟨h1, b1, le1, wf1, -, lA⟩ := boxG (n := gn) hwf hp
 generalize h.next = B at *
 have lA1 := lA h1 (Le.refl _)
 simp only [kS1, bLookup, bMapSet, wantA, isCall, stepOp, evalO, evalL, evalP, evalM, putDst, flat, kA, kB, Nat.reduceLT, ↓reduceIte, kC, Nat.reduceEqDiff, aBuiltin, abinG, guardFree, abin, aInt, aUn, aNilCheck, retQ, retQ1, aresults, aresultL, aresult, mkF, undefV, reduceCtorEq, kD, kE, kF, kG, kH, kI, kJ, kK, aExtract, calleeOf, b1, lA1.1]
 refine KCall.intro (by simp only [kS1, bLookup, bMapSet, wantA, isCall, stepOp, evalO, evalL, evalP, evalM, putDst, flat, kA, kB, Nat.reduceLT, ↓reduceIte, kC, Nat.reduceEqDiff, aBuiltin, abinG, guardFree, abin, aInt, aUn, aNilCheck, retQ, retQ1, aresults, aresultL, aresult, mkF, undefV, reduceCtorEq, kD, kE, kF, kG, kH, kI, kJ, kK, aExtract, calleeOf] <;> rfl) ⟨Try.func26, rfl, by decide⟩ (right7_any W0 _ _ h1 (hg0.le le1)) ?_
 rintro x h2 w2 ⟨⟨b, rfl, hbb⟩, l2⟩
 have lA2 := lA h2 l2
 cases b with
 | false =>
  simp only [kS1, bLookup, bMapSet, wantA, isCall, stepOp, evalO, evalL, evalP, evalM, putDst, flat, kA, kB, Nat.reduceLT, ↓reduceIte, kC, Nat.reduceEqDiff, aBuiltin, abinG, guardFree, abin, aInt, aUn, aNilCheck, retQ, retQ1, aresults, aresultL, aresult, mkF, undefV, reduceCtorEq, kD, kE, kF, kG, kH, kI, kJ, kK, aExtract, calleeOf]
  refine KCall.intro (by simp only [kS1, bLookup, bMapSet, wantA, isCall, stepOp, evalO, evalL, evalP, evalM, putDst, flat, kA, kB, Nat.reduceLT, ↓reduceIte, kC, Nat.reduceEqDiff, aBuiltin, abinG, guardFree, abin, aInt, aUn, aNilCheck, retQ, retQ1, aresults, aresultL, aresult, mkF, undefV, reduceCtorEq, kD, kE, kF, kG, kH, kI, kJ, kK, aExtract, calleeOf] <;> rfl) ⟨Try.func27, rfl, by decide⟩ (awake7_any W0 h2) ?_
  rintro x h3 w3 ⟨rfl, l3⟩
  simp only [kS1, bLookup, bMapSet, wantA, isCall, stepOp, evalO, evalL, evalP, evalM, putDst, flat, kA, kB, Nat.reduceLT, ↓reduceIte, kC, Nat.reduceEqDiff, aBuiltin, abinG, guardFree, abin, aInt, aUn, aNilCheck, retQ, retQ1, aresults, aresultL, aresult, mkF, undefV, reduceCtorEq, kD, kE, kF, kG, kH, kI, kJ, kK, aExtract, calleeOf]
  all_goals exact ⟨trivial, trivial⟩
 | true =>
 obtain ⟨hr, h30⟩ := hbb.1 rfl
 clear hbb
 have h0 : 0 ≤ gn := hr.n0
 obtain ⟨n, rfl⟩ := Int.eq_ofNat_of_zero_le h0
 have hR := hr.inR
 have hA := hr.asc
 have h594 : es.length ≤ 594 := hr.len
 simp only [kS1, bLookup, bMapSet, wantA, isCall, stepOp, evalO, evalL, evalP, evalM, putDst, flat, kA, kB, Nat.reduceLT, ↓reduceIte, kC, Nat.reduceEqDiff, aBuiltin, abinG, guardFree, abin, aInt, aUn, aNilCheck, retQ, retQ1, aresults, aresultL, aresult, mkF, undefV, reduceCtorEq, kD, kE, kF, kG, kH, kI, kJ, kK, aExtract, calleeOf, lA2.1]
 refine KCall.intro (by simp only [kS1, bLookup, bMapSet, wantA, isCall, stepOp, evalO, evalL, evalP, evalM, putDst, flat, kA, kB, Nat.reduceLT, ↓reduceIte, kC, Nat.reduceEqDiff, aBuiltin, abinG, guardFree, abin, aInt, aUn, aNilCheck, retQ, retQ1, aresults, aresultL, aresult, mkF, undefV, reduceCtorEq, kD, kE, kF, kG, kH, kI, kJ, kK, aExtract, calleeOf] <;> rfl) ⟨Try.func28, rfl, by decide⟩ (Around_any W0 _ ov n es os h2 (hg0.le (le1.trans l2)) (ho.le Stays.isH (le1.trans l2)) hr) ?_
 rintro rv h3 w3 ⟨rs, G, rg, l3⟩
 have rr := rlG_rl rg
 simp only [kS1, bLookup, bMapSet, wantA, isCall, stepOp, evalO, evalL, evalP, evalM, putDst, flat, kA, kB, Nat.reduceLT, ↓reduceIte, kC, Nat.reduceEqDiff, aBuiltin, abinG, guardFree, abin, aInt, aUn, aNilCheck, retQ, retQ1, aresults, aresultL, aresult, mkF, undefV, reduceCtorEq, kD, kE, kF, kG, kH, kI, kJ, kK, aExtract, calleeOf]
 refine KCall.intro (by simp only [kS1, bLookup, bMapSet, wantA, isCall, stepOp, evalO, evalL, evalP, evalM, putDst, flat, kA, kB, Nat.reduceLT, ↓reduceIte, kC, Nat.reduceEqDiff, aBuiltin, abinG, guardFree, abin, aInt, aUn, aNilCheck, retQ, retQ1, aresults, aresultL, aresult, mkF, undefV, reduceCtorEq, kD, kE, kF, kG, kH, kI, kJ, kK, aExtract, calleeOf] <;> rfl) ⟨Try.func30, rfl, by decide⟩ (Faces_any W0 rv rs h3 rr) ?_
 rintro x h5 w5 ⟨l5, ⟨rfl, hno⟩ | ⟨es1, f1, -, -, rfl, hf1⟩⟩
 ·exact absurd ⟨es, by rw [G.len]; exact hr, by rw [G.len]; exact G⟩ hno
 rw [G.len] at hf1
 have d0 : decide ((0 : Int) = 0) = true := by decide
 have A5 := lA h5 ((l2.trans l3).trans l5)
 simp only [kS1, bLookup, bMapSet, wantA, isCall, stepOp, evalO, evalL, evalP, evalM, putDst, flat, kA, kB, Nat.reduceLT, ↓reduceIte, kC, Nat.reduceEqDiff, aBuiltin, abinG, guardFree, abin, aInt, aUn, aNilCheck, retQ, retQ1, aresults, aresultL, aresult, mkF, undefV, reduceCtorEq, kD, kE, kF, kG, kH, kI, kJ, kK, aExtract, calleeOf, bne, d0, A5.1]
 refine KCall.intro (by simp only [kS1, bLookup, bMapSet, wantA, isCall, stepOp, evalO, evalL, evalP, evalM, putDst, flat, kA, kB, Nat.reduceLT, ↓reduceIte, kC, Nat.reduceEqDiff, aBuiltin, abinG, guardFree, abin, aInt, aUn, aNilCheck, retQ, retQ1, aresults, aresultL, aresult, mkF, undefV, reduceCtorEq, kD, kE, kF, kG, kH, kI, kJ, kK, aExtract, calleeOf] <;> rfl) ⟨Try.func31, rfl, by decide⟩ (FRight_any W0 _ rv ⟨(n : Int), es⟩ rs h5 (hg0.le (le1.trans ((l2.trans l3).trans l5))) (rr.le (Stays.RL Stays.isI) l5)) ?_
 rintro x h6 w6 ⟨⟨b, rfl, hb6⟩, l6⟩
 obtain rfl : b = true := hb6.2 ⟨hr, G⟩
 clear hb6
 obtain ⟨h7, e7, l7, w7, o7⟩ : ∃ h7, h6.alloc (.map []) = h7 ∧ Le h6 h7 ∧ WF h7 ∧ h7.own h6.next = some (.map []) := ⟨_, rfl, (Le.refl h6).alloc w6 _, w6.alloc _, AHeap.own_alloc_eq _ _⟩
 have nM : h6.own h6.next = none := (Le.refl h6).next w6 (Nat.le_refl _)
 obtain ⟨h8', h8, e8, s8, l8, w8, o8⟩ := new42 w7 ((-1 : Int), (-1 : Int))
 have nE7 : h7.own h7.next = none := (Le.refl h7).next w7 (Nat.le_refl _)
 have nE := l7.none nE7
 have neE : h7.next ≠ h6.next := fun e => by rw [e, o7] at nE7; cases nE7
 have oM8 := l8.own _ _ o7
 have ln1 := fun g => hf1.len (P := Try.prog) Try.underlying32 g
 simp only [kS1, bLookup, bMapSet, wantA, isCall, stepOp, evalO, evalL, evalP, evalM, putDst, flat, kA, kB, Nat.reduceLT, ↓reduceIte, kC, Nat.reduceEqDiff, aBuiltin, abinG, guardFree, abin, aInt, aUn, aNilCheck, retQ, retQ1, aresults, aresultL, aresult, mkF, undefV, reduceCtorEq, kD, kE, kF, kG, kH, kI, kJ, kK, aExtract, calleeOf, e7, build42, e8, s8, ln1]
 generalize h7.next = E at *
 generalize h6.next = MM at *
 have R := G.isRot hR hA
 have inf1 := fun {p : Nat} (hp : p < (facesM n rs).length) => face_info hR hA G hp
 have hcn := fun {p : Nat} (hp : p < (facesM n rs).length) => cum_next hp
 have hcl := cum_le hR hA G
 have hsd := sum_darts hR hA G
 obtain ⟨q1, q2⟩ := dart_len hr G
 have q2' : ∀ {i : Nat} (h : i < (facesM n rs).length), ((facesM n rs)[i]).length ≤ 40000 := fun h => q2 _ (List.getElem_mem h)
 have hf6 := hf1.le (Stays.RL Stays.isI) l6
 have rr6 := rr.le (Stays.RL Stays.isI) (l5.trans l6)
 have L6 := ((l2.trans l3).trans l5).trans l6
 have S0 : SeenP n (rotN rs) [] (Met2 n (rotN rs) 0 (0, 0) 0) := fun e _ => .inl ⟨rfl, fun q => q.elim (fun ⟨q, x, h, _⟩ => absurd h (Nat.not_lt_zero q)) fun ⟨s, h, _⟩ => absurd h (Nat.not_lt_zero s)⟩
 refine KLoop.intro (fun k fr hq => ∃ (i : Nat) (m : List (Pr × Int)), k = (facesM n rs).length - i ∧ i ≤ (facesM n rs).length ∧ fr = mkF [(2, .pointer (some ⟨B, 0, none⟩)), (5, rv), (8, .map (some MM)), (9, .pointer (some ⟨E, 0, none⟩)), (10, .func (.func 45) #[] #[]), (41, f1), (42, .int .i64 (facesM n rs).length), (43, .int .i64 i)] ∧
   hq.own MM = some (.map (mapP m)) ∧ hq.own E = some (.cells (cellsP (lastP n (rotN rs) i))) ∧ Le h6 hq ∧ m.length = cum (facesM n rs) i ∧ SeenP n (rotN rs) m (Met2 n (rotN rs) i (0, 0) 0))
  (facesM n rs).length [(2, .pointer (some ⟨B, 0, none⟩)), (5, rv), (8, .map (some MM)), (9, .pointer (some ⟨E, 0, none⟩)), (10, .func (.func 45) #[] #[]), (41, f1), (42, .int .i64 (facesM n rs).length), (43, .int .i64 (0 : Nat))] (by simp only [hasAll, kS1, bLookup, bMapSet, wantA, isCall, stepOp, evalO, evalL, evalP, evalM, putDst, flat, kA, kB, Nat.reduceLT, ↓reduceIte, kC, Nat.reduceEqDiff, aBuiltin, abinG, guardFree, abin, aInt, aUn, aNilCheck, retQ, retQ1, aresults, aresultL, aresult, mkF, undefV, reduceCtorEq, kD, kE, kF, kG, kH, kI, kJ, kK, aExtract, calleeOf]; simp)
  ⟨0, [], rfl, Nat.zero_le _, rfl, oM8, o8, l7.trans l8, rfl, S0⟩ ?_
 clear S0 oM8 o8 l8 w8 s8 e8 nE7 o7 w7 l7 e7
 clear h8 h8' h7
 rintro k fr hq hwq ⟨i, m, rfl, hi, rfl, oM, oE, lq, hm, S⟩
 simp only [kS1, bLookup, bMapSet, wantA, isCall, stepOp, evalO, evalL, evalP, evalM, putDst, flat, kA, kB, Nat.reduceLT, ↓reduceIte, kC, Nat.reduceEqDiff, aBuiltin, abinG, guardFree, abin, aInt, aUn, aNilCheck, retQ, retQ1, aresults, aresultL, aresult, mkF, undefV, reduceCtorEq, kD, kE, kF, kG, kH, kI, kJ, kK, aExtract, calleeOf]
 refine KCond.intro (fun ht => ?_) (fun hf => ?_)
 rotate_left
 ·have hge : (facesM n rs).length ≤ i := lt_f hf
  obtain rfl : i = (facesM n rs).length := by omega
  have Aq := lA hq (L6.trans lq)
  have mlen := mapP_len oM
  have hpl := fun g => hp.len g
  rw [hm, hsd] at mlen
  have w2e : awrap .i64 (2 * (es.length : Int)) = ((2 * es.length : Nat) : Int) := by rw [awrap_i64 _ (by omega) (by omega)]; omega
  have deq : decide (((2 * es.length : Nat) : Int) = ((2 * es.length : Nat) : Int)) = true := decide_eq_true rfl
  simp only [kS1, bLookup, bMapSet, wantA, isCall, stepOp, evalO, evalL, evalP, evalM, putDst, flat, kA, kB, Nat.reduceLT, ↓reduceIte, kC, Nat.reduceEqDiff, aBuiltin, abinG, guardFree, abin, aInt, aUn, aNilCheck, retQ, retQ1, aresults, aresultL, aresult, mkF, undefV, reduceCtorEq, kD, kE, kF, kG, kH, kI, kJ, kK, aExtract, calleeOf, mlen, fg1, aadd, Nat.zero_add, Aq.2.2, hpl, w2e, deq]
  refine KCall.intro (by simp only [kS1, bLookup, bMapSet, wantA, isCall, stepOp, evalO, evalL, evalP, evalM, putDst, flat, kA, kB, Nat.reduceLT, ↓reduceIte, kC, Nat.reduceEqDiff, aBuiltin, abinG, guardFree, abin, aInt, aUn, aNilCheck, retQ, retQ1, aresults, aresultL, aresult, mkF, undefV, reduceCtorEq, kD, kE, kF, kG, kH, kI, kJ, kK, aExtract, calleeOf] <;> rfl) ⟨Try.func27, rfl, by decide⟩ (awake7_any W0 hq) ?_
  rintro x h9 w9 ⟨rfl, l9⟩
  simp only [kS1, bLookup, bMapSet, wantA, isCall, stepOp, evalO, evalL, evalP, evalM, putDst, flat, kA, kB, Nat.reduceLT, ↓reduceIte, kC, Nat.reduceEqDiff, aBuiltin, abinG, guardFree, abin, aInt, aUn, aNilCheck, retQ, retQ1, aresults, aresultL, aresult, mkF, undefV, reduceCtorEq, kD, kE, kF, kG, kH, kI, kJ, kK, aExtract, calleeOf]
  exact ⟨trivial, trivial⟩
 have hlt : i < (facesM n rs).length := lt_t ht
 clear ht
 have ar := hf6.addr (P := Try.prog) Try.underlying32 Try.underlying38 (by kernel_rfl) (k := .i64) i hlt
 obtain ⟨u, lu', hu⟩ := hf6.load' (P := Try.prog) Try.underlying38 rfl i hlt
 have lu := lu' hq lq
 obtain ⟨d, hdi, hdm, hxl, hx2, hat⟩ := inf1 hlt
 have hx4 := q2' hlt
 have hci := hcn hlt
 generalize (facesM n rs)[i] = x at *
 have ll := fun g => hu.len (P := Try.prog) Try.underlying38 g
 have hwi := awrap_succ i (by omega)
 have dk : ∀ g, Le h6 g → ∀ j : Nat, aIndexAddr Try.prog 38 u (.int .i64 ((j % x.length : Nat) : Int)) = some (.pointer (some (elemAddr u (j % x.length)))) ∧ aload Try.prog g 3 (elemAddr u (j % x.length)) = some (.int .i64 (((it (fph (rotN rs)) j d).1 : Nat) : Int)) := fun g lg j => by
  have hmod : j % x.length < x.length := Nat.mod_lt _ (by omega)
  have ld := (hu.le Stays.isI lg).loadI (P := Try.prog) Try.underlying3 rfl _ hmod
  rw [hat j hmod] at ld
  exact ⟨hu.addr (P := Try.prog) Try.underlying38 Try.underlying3 (by kernel_rfl) (k := .i64) _ hmod, ld⟩
 have d2 : decide (((x.length : Nat) : Int) < 2) = false := decide_eq_false (by omega)
 obtain ⟨k1, k2⟩ := dk hq lq 0
 obtain ⟨k3, k4⟩ := dk hq lq 1
 have m0 : (0 : Nat) % x.length = 0 := Nat.zero_mod _
 have m1 : 1 % x.length = 1 := Nat.mod_eq_of_lt (by omega)
 rw [m0] at k1 k2
 rw [m1] at k3 k4
 simp only [Int.cast_ofNat_Int] at k1 k3
 have ldE := own42 oE
 simp only [kS1, bLookup, bMapSet, wantA, isCall, stepOp, evalO, evalL, evalP, evalM, putDst, flat, kA, kB, Nat.reduceLT, ↓reduceIte, kC, Nat.reduceEqDiff, aBuiltin, abinG, guardFree, abin, aInt, aUn, aNilCheck, retQ, retQ1, aresults, aresultL, aresult, mkF, undefV, reduceCtorEq, kD, kE, kF, kG, kH, kI, kJ, kK, aExtract, calleeOf, ar, lu, ll, d2]
 refine KDraw.intro mixed (.fl 0 (.fl 1 (.fl 2 (.fl 3 (.fl 4 (.fl 5 (.fl 6 (.fl 7 (.fl 8 (.fl 9 (.fl 10 (.fl 11 (.fl 12 (.ch 13 [3, 4, 5, 12] (.fl 14 (.fl 15 (.done))) .no)))))))))))))) (by kernel_rfl) ?_
 simp only [kS1, bLookup, bMapSet, wantA, isCall, stepOp, evalO, evalL, evalP, evalM, putDst, flat, kA, kB, Nat.reduceLT, ↓reduceIte, kC, Nat.reduceEqDiff, aBuiltin, abinG, guardFree, abin, aInt, aUn, aNilCheck, retQ, retQ1, aresults, aresultL, aresult, mkF, undefV, reduceCtorEq, kD, kE, kF, kG, kH, kI, kJ, kK, aExtract, calleeOf, kD1, Nat.reduceBEq, HoldsAll, kL, kM, kN, kO, ll, d2, k1, k2, k3, k4, build42, ldE]
 refine KGCall.intro (by simp only [kS1, bLookup, bMapSet, wantA, isCall, stepOp, evalO, evalL, evalP, evalM, putDst, flat, kA, kB, Nat.reduceLT, ↓reduceIte, kC, Nat.reduceEqDiff, aBuiltin, abinG, guardFree, abin, aInt, aUn, aNilCheck, retQ, retQ1, aresults, aresultL, aresult, mkF, undefV, reduceCtorEq, kD, kE, kF, kG, kH, kI, kJ, kK, aExtract, calleeOf] <;> rfl) ⟨Try.func45, rfl, by decide⟩ (less45_any W0 (lastP n (rotN rs) i) (castD d) hq) ?_
 rintro y h9 w9 ⟨rfl, l9⟩
 have dl : decide ((lastP n (rotN rs) i).1 < (castD d).1 ∨ (lastP n (rotN rs) i).1 = (castD d).1 ∧ (lastP n (rotN rs) i).2 < (castD d).2) = true := decide_eq_true (lastP_lt hdi)
 have lq9 := lq.trans l9
 have oM9 := l9.own _ _ oM
 have oE9 := l9.own _ _ oE
 have ldE9 := own42 oE9
 have k2' := (dk h9 lq9 0).2
 have k4' := (dk h9 lq9 1).2
 rw [m0] at k2'
 rw [m1] at k4'
 have st : aStore Try.prog h9 61 (.pointer (some ⟨E, 0, none⟩)) (valP ((((it (fph (rotN rs)) 0 d).1 : Nat) : Int), (((it (fph (rotN rs)) 1 d).1 : Nat) : Int))) = some (h9.put E (.cells (cellsP (castD d)))) := store42 (p := castD d) oE9
 simp only [kS1, bLookup, bMapSet, wantA, isCall, stepOp, evalO, evalL, evalP, evalM, putDst, flat, kA, kB, Nat.reduceLT, ↓reduceIte, kC, Nat.reduceEqDiff, aBuiltin, abinG, guardFree, abin, aInt, aUn, aNilCheck, retQ, retQ1, aresults, aresultL, aresult, mkF, undefV, reduceCtorEq, kD, kE, kF, kG, kH, kI, kJ, kK, aExtract, calleeOf, kD1, Nat.reduceBEq, HoldsAll, kL, kM, kN, kO, ll, d2, k1, k2, k3, k4, k2', k4', build42, ldE, ldE9, dl]
 have neM : MM ≠ E := fun e => neE e.symm
 have oE10 := AHeap.own_put_eq h9 E (.cells (cellsP (castD d)))
 have oM10 : (h9.put E (.cells (cellsP (castD d)))).own MM = some (.map (mapP m)) := by rw [AHeap.own_put_ne _ _ _ _ neM]; exact oM9
 have l10 : Le h6 (h9.put E (.cells (cellsP (castD d)))) := lq9.put _ nE
 have w10 : WF (h9.put E (.cells (cellsP (castD d)))) := w9.put _ (w9.lt oE9)
 refine KDraw.intro mixed (.fl 0 (.fl 1 (.fl 2 (.fl 3 (.fl 4 (.fl 5 (.fl 6 (.ch 7 [0, 1, 2, 3, 4, 5, 6] (.done) .no)))))))) (by kernel_rfl) ?_
 simp only [kS1, bLookup, bMapSet, wantA, isCall, stepOp, evalO, evalL, evalP, evalM, putDst, flat, kA, kB, Nat.reduceLT, ↓reduceIte, kC, Nat.reduceEqDiff, aBuiltin, abinG, guardFree, abin, aInt, aUn, aNilCheck, retQ, retQ1, aresults, aresultL, aresult, mkF, undefV, reduceCtorEq, kD, kE, kF, kG, kH, kI, kJ, kK, aExtract, calleeOf, kD1, Nat.reduceBEq, HoldsAll, kL, kM, kN, kO, ll, k1, k2', k3, k4', build42, st]
 generalize h9.put E (.cells (cellsP (castD d))) = h10 at *
 clear st k2' k4' ldE9 oE9 oM9 ldE
 have S1 : SeenP n (rotN rs) m (Met2 n (rotN rs) i d 0) := fun e he => by
  rcases S e he with ⟨h1, h2⟩ | ⟨h1, h2⟩
  ·exact .inl ⟨h1, fun q => h2 (q.elim .inl fun ⟨s, hs, _⟩ => absurd hs (Nat.not_lt_zero s))⟩
  ·exact .inr ⟨h1, h2.elim .inl fun ⟨s, hs, _⟩ => absurd hs (Nat.not_lt_zero s)⟩
 refine KLoop.intro (fun k fr hz => ∃ (j : Nat) (m : List (Pr × Int)), k = x.length - j ∧ j ≤ x.length ∧ fr = mkF [(2, .pointer (some ⟨B, 0, none⟩)), (5, rv), (8, .map (some MM)), (9, .pointer (some ⟨E, 0, none⟩)), (10, .func (.func 45) #[] #[]), (12, u), (41, f1), (42, .int .i64 (facesM n rs).length), (43, .int .i64 i), (70, u), (71, .int .i64 x.length), (72, .int .i64 j)] ∧
   hz.own MM = some (.map (mapP m)) ∧ hz.own E = some (.cells (cellsP (castD d))) ∧ Le h6 hz ∧ m.length = cum (facesM n rs) i + j ∧ SeenP n (rotN rs) m (Met2 n (rotN rs) i d j))
  x.length [(2, .pointer (some ⟨B, 0, none⟩)), (5, rv), (8, .map (some MM)), (9, .pointer (some ⟨E, 0, none⟩)), (10, .func (.func 45) #[] #[]), (12, u), (41, f1), (42, .int .i64 (facesM n rs).length), (43, .int .i64 i), (70, u), (71, .int .i64 x.length), (72, .int .i64 (0 : Nat))] (by simp only [hasAll, kS1, bLookup, bMapSet, wantA, isCall, stepOp, evalO, evalL, evalP, evalM, putDst, flat, kA, kB, Nat.reduceLT, ↓reduceIte, kC, Nat.reduceEqDiff, aBuiltin, abinG, guardFree, abin, aInt, aUn, aNilCheck, retQ, retQ1, aresults, aresultL, aresult, mkF, undefV, reduceCtorEq, kD, kE, kF, kG, kH, kI, kJ, kK, aExtract, calleeOf]; simp)
  ⟨0, m, rfl, Nat.zero_le _, rfl, oM10, oE10, l10, hm, S1⟩ ?_
 clear S1 oM10 oE10 l10 w10 S hm oM oE lu
 clear h10 m
 rintro k fr hz hwz ⟨j, m, rfl, hj, rfl, oM, oE, lz, hm, S⟩
 simp only [kS1, bLookup, bMapSet, wantA, isCall, stepOp, evalO, evalL, evalP, evalM, putDst, flat, kA, kB, Nat.reduceLT, ↓reduceIte, kC, Nat.reduceEqDiff, aBuiltin, abinG, guardFree, abin, aInt, aUn, aNilCheck, retQ, retQ1, aresults, aresultL, aresult, mkF, undefV, reduceCtorEq, kD, kE, kF, kG, kH, kI, kJ, kK, aExtract, calleeOf]
 refine KCond.intro (fun ht => ?_) (fun hf => ?_)
 rotate_left
 ·have hge : x.length ≤ j := lt_f hf
  obtain rfl : j = x.length := by omega
  have Sn : SeenP n (rotN rs) m (Met2 n (rotN rs) (i + 1) (0, 0) 0) := fun e he => by
   have q := Met2.fin R hdi (d' := (0, 0)) e
   rw [← hxl] at q
   rcases S e he with ⟨h1, h2⟩ | ⟨h1, h2⟩
   ·exact .inl ⟨h1, fun z => h2 (q.2 z)⟩
   ·exact .inr ⟨h1, q.1 h2⟩
  have hln := lastP_next hdi
  simp only [kS1, bLookup, bMapSet, wantA, isCall, stepOp, evalO, evalL, evalP, evalM, putDst, flat, kA, kB, Nat.reduceLT, ↓reduceIte, kC, Nat.reduceEqDiff, aBuiltin, abinG, guardFree, abin, aInt, aUn, aNilCheck, retQ, retQ1, aresults, aresultL, aresult, mkF, undefV, reduceCtorEq, kD, kE, kF, kG, kH, kI, kJ, kK, aExtract, calleeOf, hwi]
  exact loop_again ((facesM n rs).length - (i + 1)) [(2, .pointer (some ⟨B, 0, none⟩)), (5, rv), (8, .map (some MM)), (9, .pointer (some ⟨E, 0, none⟩)), (10, .func (.func 45) #[] #[]), (41, f1), (42, .int .i64 (facesM n rs).length), (43, .int .i64 (i + 1 : Nat))] (stp hlt) (by simp only [hasAll, kS1, bLookup, bMapSet, wantA, isCall, stepOp, evalO, evalL, evalP, evalM, putDst, flat, kA, kB, Nat.reduceLT, ↓reduceIte, kC, Nat.reduceEqDiff, aBuiltin, abinG, guardFree, abin, aInt, aUn, aNilCheck, retQ, retQ1, aresults, aresultL, aresult, mkF, undefV, reduceCtorEq, kD, kE, kF, kG, kH, kI, kJ, kK, aExtract, calleeOf]; simp)
   ⟨i + 1, m, rfl, hlt, rfl, oM, by rw [hln]; exact oE, lz, by rw [hci]; exact hm, Sn⟩
 have hjt : j < x.length := lt_t ht
 clear ht
 have dz : ((x.length : Int) = 0) = False := eq_false (by omega)
 have hwj := awrap_succ j (by omega)
 have hwj2 : awrap .i64 ((j : Int) + 2) = ((j + 2 : Nat) : Int) := aw_two hjt hx4
 have tm1 := tm_nat (j + 1) x.length
 have tm2 := tm_nat (j + 2) x.length
 obtain ⟨k1, k2⟩ := dk hz lz j
 obtain ⟨k3, k4⟩ := dk hz lz (j + 1)
 obtain ⟨k5, k6⟩ := dk hz lz (j + 2)
 rw [Nat.mod_eq_of_lt hjt] at k1 k2
 simp only [kS1, bLookup, bMapSet, wantA, isCall, stepOp, evalO, evalL, evalP, evalM, putDst, flat, kA, kB, Nat.reduceLT, ↓reduceIte, kC, Nat.reduceEqDiff, aBuiltin, abinG, guardFree, abin, aInt, aUn, aNilCheck, retQ, retQ1, aresults, aresultL, aresult, mkF, undefV, reduceCtorEq, kD, kE, kF, kG, kH, kI, kJ, kK, aExtract, calleeOf, k1, k2]
 refine KDraw.intro mixed (.fl 0 (.fl 1 (.fl 2 (.fl 3 (.fl 4 (.fl 5 (.fl 6 (.fl 7 (.fl 8 (.fl 9 (.fl 10 (.fl 11 (.fl 12 (.fl 13 (.fl 14 (.fl 15 (.fl 16 (.fl 17 (.done))))))))))))))))))) (by kernel_rfl) ?_
 simp only [kS1, bLookup, bMapSet, wantA, isCall, stepOp, evalO, evalL, evalP, evalM, putDst, flat, kA, kB, Nat.reduceLT, ↓reduceIte, kC, Nat.reduceEqDiff, aBuiltin, abinG, guardFree, abin, aInt, aUn, aNilCheck, retQ, retQ1, aresults, aresultL, aresult, mkF, undefV, reduceCtorEq, kD, kE, kF, kG, kH, kI, kJ, kK, aExtract, calleeOf, kD1, Nat.reduceBEq, HoldsAll, kL, kM, kN, kO, ll, dz, hwj, hwj2, tm1, tm2, k3, k4, k5, k6]
 obtain ⟨g1', g1, e1, s1, lg1, wg1, og1⟩ := new42 hwz ((((it (fph (rotN rs)) j d).1 : Nat) : Int), (((it (fph (rotN rs)) (j + 1) d).1 : Nat) : Int))
 have nD : hz.own hz.next = none := (Le.refl hz).next hwz (Nat.le_refl _)
 have hjo : j < ordr (fph (rotN rs)) d := by rw [← hxl]; exact hjt
 have hno := Met2.no R hdi hjo
 have hdj := (phi_pm R).it_mem hdm j
 have oM1 := lg1.own _ _ oM
 have oE1 := lg1.own _ _ oE
 have lk : aLookupA Try.prog g1 70 (.map (some MM)) (valP ((((it (fph (rotN rs)) j d).1 : Nat) : Int), (((it (fph (rotN rs)) (j + 1) d).1 : Nat) : Int))) false = some (.int .i64 0) := by
  have := mapP_look0 oM1 (castD (it (fph (rotN rs)) j d))
  rcases S _ hdj with ⟨h1, _⟩ | ⟨_, h2⟩
  ·rw [h1] at this; exact this
  ·exact absurd h2 hno
 have d01 : decide ((0 : Int) = 1) = false := by decide
 have ldD := own42 og1
 have ldE := own42 oE1
 simp only [kS1, bLookup, bMapSet, wantA, isCall, stepOp, evalO, evalL, evalP, evalM, putDst, flat, kA, kB, Nat.reduceLT, ↓reduceIte, kC, Nat.reduceEqDiff, aBuiltin, abinG, guardFree, abin, aInt, aUn, aNilCheck, retQ, retQ1, aresults, aresultL, aresult, mkF, undefV, reduceCtorEq, kD, kE, kF, kG, kH, kI, kJ, kK, aExtract, calleeOf, build42, e1, s1, ldD, ldE, lookP_none, lk, d01]
 refine KCall.intro (by simp only [kS1, bLookup, bMapSet, wantA, isCall, stepOp, evalO, evalL, evalP, evalM, putDst, flat, kA, kB, Nat.reduceLT, ↓reduceIte, kC, Nat.reduceEqDiff, aBuiltin, abinG, guardFree, abin, aInt, aUn, aNilCheck, retQ, retQ1, aresults, aresultL, aresult, mkF, undefV, reduceCtorEq, kD, kE, kF, kG, kH, kI, kJ, kK, aExtract, calleeOf] <;> rfl) ⟨Try.func45, rfl, by decide⟩ (less45_any W0 (castD (it (fph (rotN rs)) j d)) (castD d) g1) ?_
 rintro y g2 wg2 ⟨rfl, lg2⟩
 have dn : decide ((castD (it (fph (rotN rs)) j d)).1 < (castD d).1 ∨ (castD (it (fph (rotN rs)) j d)).1 = (castD d).1 ∧ (castD (it (fph (rotN rs)) j d)).2 < (castD d).2) = false := decide_eq_false (head_no R hdi j)
 have Lg2 := (L6.trans lz).trans (lg1.trans lg2)
 have A2 := lA g2 Lg2
 simp only [kS1, bLookup, bMapSet, wantA, isCall, stepOp, evalO, evalL, evalP, evalM, putDst, flat, kA, kB, Nat.reduceLT, ↓reduceIte, kC, Nat.reduceEqDiff, aBuiltin, abinG, guardFree, abin, aInt, aUn, aNilCheck, retQ, retQ1, aresults, aresultL, aresult, mkF, undefV, reduceCtorEq, kD, kE, kF, kG, kH, kI, kJ, kK, aExtract, calleeOf, dn, A2.1]
 refine KCall.intro (by simp only [kS1, bLookup, bMapSet, wantA, isCall, stepOp, evalO, evalL, evalP, evalM, putDst, flat, kA, kB, Nat.reduceLT, ↓reduceIte, kC, Nat.reduceEqDiff, aBuiltin, abinG, guardFree, abin, aInt, aUn, aNilCheck, retQ, retQ1, aresults, aresultL, aresult, mkF, undefV, reduceCtorEq, kD, kE, kF, kG, kH, kI, kJ, kK, aExtract, calleeOf] <;> rfl) ⟨Try.func46, rfl, by decide⟩ (Has_any W0 _ ⟨(n : Int), es⟩ (((it (fph (rotN rs)) j d).1 : Nat) : Int) (((it (fph (rotN rs)) (j + 1) d).1 : Nat) : Int) g2 (hg0.le (le1.trans Lg2))) ?_
 rintro y g3 wg3 ⟨⟨b, rfl, hb⟩, lg3⟩
 obtain rfl : b = true := hb.2 ⟨hr, has_dart hR G (e := it (fph (rotN rs)) j d) ((mem_dl R).1 hdj)⟩
 clear hb
 have lz3 := lg1.trans (lg2.trans lg3)
 have oM3 := lz3.own _ _ oM
 have oE3 := lz3.own _ _ oE
 have ldD3 := own42 ((lg2.trans lg3).own _ _ og1)
 have st : aMapSetA Try.prog g3 70 (.map (some MM)) (valP ((((it (fph (rotN rs)) j d).1 : Nat) : Int), (((it (fph (rotN rs)) (j + 1) d).1 : Nat) : Int))) (.int .i64 1) = some (g3.put MM (.map (mapP (setK m (castD (it (fph (rotN rs)) j d)) 1)))) := mapP_set oM3 (castD (it (fph (rotN rs)) j d)) 1
 have oM4 := AHeap.own_put_eq g3 MM (.map (mapP (setK m (castD (it (fph (rotN rs)) j d)) 1)))
 have neM' : E ≠ MM := neE
 have oE4 : (g3.put MM (.map (mapP (setK m (castD (it (fph (rotN rs)) j d)) 1)))).own E = some (.cells (cellsP (castD d))) := by rw [AHeap.own_put_ne _ _ _ _ neM']; exact oE3
 have l4 : Le h6 (g3.put MM (.map (mapP (setK m (castD (it (fph (rotN rs)) j d)) 1)))) := (lz.trans lz3).put _ nM
 have w4 : WF (g3.put MM (.map (mapP (setK m (castD (it (fph (rotN rs)) j d)) 1)))) := wg3.put _ (wg3.lt oM3)
 obtain ⟨S', hm'⟩ := S.put hdj hno fun e => Met2.succ (p := i) (i := j) (d := d) e
 rw [hm] at hm'
 simp only [kS1, bLookup, bMapSet, wantA, isCall, stepOp, evalO, evalL, evalP, evalM, putDst, flat, kA, kB, Nat.reduceLT, ↓reduceIte, kC, Nat.reduceEqDiff, aBuiltin, abinG, guardFree, abin, aInt, aUn, aNilCheck, retQ, retQ1, aresults, aresultL, aresult, mkF, undefV, reduceCtorEq, kD, kE, kF, kG, kH, kI, kJ, kK, aExtract, calleeOf, ldD3, setP_none, st]
 generalize g3.put MM (.map (mapP (setK m (castD (it (fph (rotN rs)) j d)) 1))) = g4 at *
 have hdj1 := (mem_dl R).1 hdj
 obtain ⟨hbn, q, hon, hat2⟩ := beh_eq hR hA G (a := (it (fph (rotN rs)) j d).1) (b := (it (fph (rotN rs)) j d).2) hdj1
 have hb1 : (it (fph (rotN rs)) j d).2 < rs.length := by rw [G.len]; exact hbn
 have arr := rr6.addr (P := Try.prog) Try.underlying52 Try.underlying38 (by kernel_rfl) (k := .i64) _ hb1
 obtain ⟨ru, lru', hru⟩ := rr6.load' (P := Try.prog) Try.underlying38 rfl _ hb1
 have lru := lru' g4 l4
 have hgd : rs.getD (it (fph (rotN rs)) j d).2 [] = rs[(it (fph (rotN rs)) j d).2] := getD_of hb1
 have hrl := row_len hr G hbn
 simp only [hgd] at hon hat2 hrl
 have e12 : (it (fph (rotN rs)) (j + 1) d).1 = (it (fph (rotN rs)) j d).2 := rfl
 have e22 : (it (fph (rotN rs)) (j + 2) d).1 = (fph (rotN rs) (it (fph (rotN rs)) j d)).2 := rfl
 generalize rs[(it (fph (rotN rs)) j d).2] = rw at *
 have lrw := fun g => hru.len (P := Try.prog) Try.underlying38 g
 simp only [kS1, bLookup, bMapSet, wantA, isCall, stepOp, evalO, evalL, evalP, evalM, putDst, flat, kA, kB, Nat.reduceLT, ↓reduceIte, kC, Nat.reduceEqDiff, aBuiltin, abinG, guardFree, abin, aInt, aUn, aNilCheck, retQ, retQ1, aresults, aresultL, aresult, mkF, undefV, reduceCtorEq, kD, kE, kF, kG, kH, kI, kJ, kK, aExtract, calleeOf, e12, arr, lru]
 refine KCall.intro (by simp only [kS1, bLookup, bMapSet, wantA, isCall, stepOp, evalO, evalL, evalP, evalM, putDst, flat, kA, kB, Nat.reduceLT, ↓reduceIte, kC, Nat.reduceEqDiff, aBuiltin, abinG, guardFree, abin, aInt, aUn, aNilCheck, retQ, retQ1, aresults, aresultL, aresult, mkF, undefV, reduceCtorEq, kD, kE, kF, kG, kH, kI, kJ, kK, aExtract, calleeOf] <;> rfl) ⟨Try.func47, rfl, by decide⟩ (IndexI_any W0 ru rw (((it (fph (rotN rs)) j d).1 : Nat) : Int) g4 (hru.le Stays.isI l4) hrl) ?_
 rintro y g5 wg5 ⟨⟨rfl, hnot⟩ | ⟨q', hq', rfl, hqe, -⟩, rfl⟩
 ·exact absurd (List.mem_of_getElem? hon.1) hnot
 obtain rfl : q' = q := hon.2 q' (by rw [List.getElem?_eq_getElem hq', hqe])
 have hmod : (q' + 1) % rw.length < rw.length := Nat.mod_lt _ (Nat.lt_of_le_of_lt (Nat.zero_le _) hq')
 have hv2 := hat2 hmod
 rw [← e22] at hv2
 have adr := hru.addr (P := Try.prog) Try.underlying38 Try.underlying3 (by kernel_rfl) (k := .i64) _ hmod
 have ldr := (hru.le Stays.isI l4).loadI (P := Try.prog) Try.underlying3 rfl _ hmod
 rw [hv2] at ldr
 have q0 : decide ((q' : Int) < 0) = false := nat_nlt q'
 have hwq' := aw_row hq' hrl
 have tmr := tm_nat (q' + 1) rw.length
 have dzr : ((rw.length : Int) = 0) = False := nat_nz hq'
 have exx : decide ((((it (fph (rotN rs)) (j + 2) d).1 : Nat) : Int) = (((it (fph (rotN rs)) (j + 2) d).1 : Nat) : Int)) = true := decide_eq_true rfl
 simp only [kS1, bLookup, bMapSet, wantA, isCall, stepOp, evalO, evalL, evalP, evalM, putDst, flat, kA, kB, Nat.reduceLT, ↓reduceIte, kC, Nat.reduceEqDiff, aBuiltin, abinG, guardFree, abin, aInt, aUn, aNilCheck, retQ, retQ1, aresults, aresultL, aresult, mkF, undefV, reduceCtorEq, kD, kE, kF, kG, kH, kI, kJ, kK, aExtract, calleeOf, q0]
 refine KDraw.intro mixed (.fl 0 (.fl 1 (.fl 2 (.fl 3 (.fl 4 (.fl 5 (.fl 6 (.fl 7 (.fl 8 (.fl 9 (.fl 10 (.fl 11 (.fl 12 (.fl 13 (.fl 14 (.fl 15 (.fl 16 (.fl 17 (.fl 18 (.fl 19 (.done))))))))))))))))))))) (by kernel_rfl) ?_
 simp only [kS1, bLookup, bMapSet, wantA, isCall, stepOp, evalO, evalL, evalP, evalM, putDst, flat, kA, kB, Nat.reduceLT, ↓reduceIte, kC, Nat.reduceEqDiff, aBuiltin, abinG, guardFree, abin, aInt, aUn, aNilCheck, retQ, retQ1, aresults, aresultL, aresult, mkF, undefV, reduceCtorEq, kD, kE, kF, kG, kH, kI, kJ, kK, aExtract, calleeOf, kD1, Nat.reduceBEq, HoldsAll, kL, kM, kN, kO, q0, arr, lru, lrw, hwq', tmr, dzr, adr, ldr, bne, exx, hwj]
 exact loop_again (x.length - (j + 1)) [(2, .pointer (some ⟨B, 0, none⟩)), (5, rv), (8, .map (some MM)), (9, .pointer (some ⟨E, 0, none⟩)), (10, .func (.func 45) #[] #[]), (12, u), (41, f1), (42, .int .i64 (facesM n rs).length), (43, .int .i64 i), (70, u), (71, .int .i64 x.length), (72, .int .i64 (j + 1 : Nat))] (stp hjt) (by simp only [hasAll, kS1, bLookup, bMapSet, wantA, isCall, stepOp, evalO, evalL, evalP, evalM, putDst, flat, kA, kB, Nat.reduceLT, ↓reduceIte, kC, Nat.reduceEqDiff, aBuiltin, abinG, guardFree, abin, aInt, aUn, aNilCheck, retQ, retQ1, aresults, aresultL, aresult, mkF, undefV, reduceCtorEq, kD, kE, kF, kG, kH, kI, kJ, kK, aExtract, calleeOf]; simp)
  ⟨j + 1, _, rfl, hjt, rfl, oM4, oE4, l4, hm', S'⟩
end Go.Fw
