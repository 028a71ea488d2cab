/- One of the texts of the layer and the walks: it proves what its theorems say of the functions of the seat, with no condition beyond theirs. -/
import Derived.Test.YtmgcmoifdnkaoaaFwLM3
import Derived.Test.YtmgcmoifdnkaoaaFwLT1
set_option linter.unusedSimpArgs false
set_option linter.unusedVariables false
namespace Go.Fw
open Go.Proofs
attribute [local irreducible] KO4 KO3 KO2 KO1 KO KN KX KE VK KCond KDraw KCall KLoop
set_option maxHeartbeats 16000000
set_option maxRecDepth 10000
attribute [local irreducible] lowM bridgesM cutsM blocksM
theorem right_any (W0 : Base) (v : Value) (G : GM) (h : AHeap) (hg : GR h v G) : AC Try.prog W0 31 [v] h fun x h' => BoolIs (RightG G ∧ G.n ≤ 24) x ∧ Le h h' := by
  have hg0 := hg
  obtain ⟨gn, es⟩ := G
  obtain ⟨ev, rfl, hp⟩ := hg.open
  refine AC.vc (fn := Try.f31) (c := _) ⟨Try.func31, rfl, by decide⟩ Try.ntmps31 Try.results31 (by simp) fun hwf => ?_
  simp only [argFrame, argFrom, Nat.reduceAdd]
  obtain ⟨h1, b1, le1, wf1, -, lA⟩ := boxG (n := gn) hwf hp
  generalize h.next = B at *
  have lA1 := lA h1 (Le.refl _)
  simp only [kS1, bLookup, bMapSet, wantA, isCall, stepOp, evalO, evalL, evalP, evalM, putDst, flat, kA, kB, Nat.reduceLT, ↓reduceIte, kC, Nat.reduceEqDiff, aBuiltin, abinG, guardFree, abin, aInt, aUn, aNilCheck, retQ, retQ1, aresults, aresultL, aresult, mkF, undefV, reduceCtorEq, kD, kE, kF, kG, kH, kI, kJ, kK, aExtract, calleeOf, b1, lA1.1]
  refine KCall.intro (by simp only [kS1, bLookup, bMapSet, wantA, isCall, stepOp, evalO, evalL, evalP, evalM, putDst, flat, kA, kB, Nat.reduceLT, ↓reduceIte, kC, Nat.reduceEqDiff, aBuiltin, abinG, guardFree, abin, aInt, aUn, aNilCheck, retQ, retQ1, aresults, aresultL, aresult, mkF, undefV, reduceCtorEq, kD, kE, kF, kG, kH, kI, kJ, kK, aExtract, calleeOf] <;> rfl) ⟨Try.func48, rfl, by decide⟩ (Right_any W0 _ _ h1 (hg0.le le1)) ?_
  rintro x h2 wf2 ⟨⟨bb, rfl, hbb⟩, le2⟩
  have lA2 := lA h2 le2
  cases bb with
  | false =>
    simp only [kS1, bLookup, bMapSet, wantA, isCall, stepOp, evalO, evalL, evalP, evalM, putDst, flat, kA, kB, Nat.reduceLT, ↓reduceIte, kC, Nat.reduceEqDiff, aBuiltin, abinG, guardFree, abin, aInt, aUn, aNilCheck, retQ, retQ1, aresults, aresultL, aresult, mkF, undefV, reduceCtorEq, kD, kE, kF, kG, kH, kI, kJ, kK, aExtract, calleeOf]
    exact ⟨.f fun k => (by cases hbb.2 k.1), le1.trans le2⟩
  | true =>
    simp only [kS1, bLookup, bMapSet, wantA, isCall, stepOp, evalO, evalL, evalP, evalM, putDst, flat, kA, kB, Nat.reduceLT, ↓reduceIte, kC, Nat.reduceEqDiff, aBuiltin, abinG, guardFree, abin, aInt, aUn, aNilCheck, retQ, retQ1, aresults, aresultL, aresult, mkF, undefV, reduceCtorEq, kD, kE, kF, kG, kH, kI, kJ, kK, aExtract, calleeOf, fg0, aadd, Nat.zero_add, lA2.2.1]
    exact ⟨⟨_, rfl, by simp [hbb.1 rfl]⟩, le1.trans le2⟩
theorem new51 {h : AHeap} (hw : WF h) (p : Lw) : ∃ h1 h2, aAlloc Try.prog h 51 = some (.pointer (some ⟨h.next, 0, none⟩), h1) ∧ aStore Try.prog h1 51 (.pointer (some ⟨h.next, 0, none⟩)) (valL p) = some h2 ∧ Le h h2 ∧ WF h2 ∧ h2.own h.next = some (.cells (cellsL p)) ∧
    ∀ g, Le h2 g → aload Try.prog g 3 ⟨h.next, 0, none⟩ = some (.int .i64 p.1) ∧ aload Try.prog g 3 ⟨h.next, 1, none⟩ = some (.int .i64 p.2.1) ∧ aload Try.prog g 3 ⟨h.next, 2, none⟩ = some (.int .i64 p.2.2) := by
  obtain ⟨h1, e1, l1, w1, o1⟩ := alloc_f hw [.int .i64 0, .int .i64 0, .int .i64 0]
  have nw : h.own h.next = none := (Le.refl h).next hw (Nat.le_refl _)
  have oo := AHeap.own_put_eq h1 h.next (.cells (cellsL p))
  refine ⟨h1, h1.put h.next (.cells (cellsL p)), by rw [← e1]; rfl, ?_, l1.put _ nw, w1.put _ (w1.lt o1), oo, fun g l => ⟨by rw [aload_one Try.underlying3 rfl (l.own _ _ oo)]; rfl, by rw [aload_one Try.underlying3 rfl (l.own _ _ oo)]; rfl, by rw [aload_one Try.underlying3 rfl (l.own _ _ oo)]; rfl⟩⟩
  simp [aStore, o1, valL, Value.cells, ts51, putCells, cellsL, Try.underlying51]
  exact ⟨rfl, rfl, rfl⟩
theorem adj_mem {n : Nat} {es : List Pr} (hr : InR n es) {a b : Nat} (h : adj es a b) : (min (a : Int) (b : Int), max (a : Int) (b : Int)) ∈ es := by
  rcases h with h | h
  · have := hr _ h; simp only at this
    rw [Int.min_eq_left (by omega), Int.max_eq_right (by omega)]; exact h
  · have := hr _ h; simp only at this
    rw [Int.min_eq_right (by omega), Int.max_eq_left (by omega)]; exact h
theorem LowSearch_law (W0 : Base) (v : Value) (G : GM) (h : AHeap) (hg : GR h v G) : AC Try.prog W0 5 [v] h fun x h' => x = .bool true := by
  have hg0 := hg
  obtain ⟨gn, es⟩ := G
  obtain ⟨ev, rfl, hp⟩ := hg.open
  refine AC.vc (fn := Try.f5) (c := _) ⟨Try.func5, rfl, by decide⟩ Try.ntmps5 Try.results5 (by simp) fun hwf => ?_
  simp only [argFrame, argFrom, Nat.reduceAdd]
  obtain ⟨h1, b1, le1, wf1, -, lA⟩ := boxG (n := gn) hwf hp
  generalize h.next = B at *
  have lA1 := lA h1 (Le.refl _)
  simp only [kS1, bLookup, bMapSet, wantA, isCall, stepOp, evalO, evalL, evalP, evalM, putDst, flat, kA, kB, Nat.reduceLT, ↓reduceIte, kC, Nat.reduceEqDiff, aBuiltin, abinG, guardFree, abin, aInt, aUn, aNilCheck, retQ, retQ1, aresults, aresultL, aresult, mkF, undefV, reduceCtorEq, kD, kE, kF, kG, kH, kI, kJ, kK, aExtract, calleeOf, b1, lA1.1]
  refine KCall.intro (by simp only [kS1, bLookup, bMapSet, wantA, isCall, stepOp, evalO, evalL, evalP, evalM, putDst, flat, kA, kB, Nat.reduceLT, ↓reduceIte, kC, Nat.reduceEqDiff, aBuiltin, abinG, guardFree, abin, aInt, aUn, aNilCheck, retQ, retQ1, aresults, aresultL, aresult, mkF, undefV, reduceCtorEq, kD, kE, kF, kG, kH, kI, kJ, kK, aExtract, calleeOf] <;> rfl) ⟨Try.func31, rfl, by decide⟩ (right_any W0 _ _ h1 (hg0.le le1)) ?_
  rintro x h2 wf2 ⟨⟨bb, rfl, hbb⟩, le2⟩
  cases bb with
  | false =>
    simp only [kS1, bLookup, bMapSet, wantA, isCall, stepOp, evalO, evalL, evalP, evalM, putDst, flat, kA, kB, Nat.reduceLT, ↓reduceIte, kC, Nat.reduceEqDiff, aBuiltin, abinG, guardFree, abin, aInt, aUn, aNilCheck, retQ, retQ1, aresults, aresultL, aresult, mkF, undefV, reduceCtorEq, kD, kE, kF, kG, kH, kI, kJ, kK, aExtract, calleeOf]
    refine KCall.intro (by simp only [kS1, bLookup, bMapSet, wantA, isCall, stepOp, evalO, evalL, evalP, evalM, putDst, flat, kA, kB, Nat.reduceLT, ↓reduceIte, kC, Nat.reduceEqDiff, aBuiltin, abinG, guardFree, abin, aInt, aUn, aNilCheck, retQ, retQ1, aresults, aresultL, aresult, mkF, undefV, reduceCtorEq, kD, kE, kF, kG, kH, kI, kJ, kK, aExtract, calleeOf] <;> rfl) ⟨Try.func15, rfl, by decide⟩ (awake_any W0 h2) ?_
    rintro x h3 w3 ⟨rfl, l3⟩
    simp only [kS1, bLookup, bMapSet, wantA, isCall, stepOp, evalO, evalL, evalP, evalM, putDst, flat, kA, kB, Nat.reduceLT, ↓reduceIte, kC, Nat.reduceEqDiff, aBuiltin, abinG, guardFree, abin, aInt, aUn, aNilCheck, retQ, retQ1, aresults, aresultL, aresult, mkF, undefV, reduceCtorEq, kD, kE, kF, kG, kH, kI, kJ, kK, aExtract, calleeOf]
  | true =>
  obtain ⟨hr, hn24⟩ := hbb.1 rfl
  clear hbb
  have h0 : 0 ≤ gn := hr.n0
  obtain ⟨n, rfl⟩ := Int.eq_ofNat_of_zero_le h0
  simp only at hn24
  have hR := hr.inR
  have h594 : es.length ≤ 594 := hr.len
  have lA2 := lA h2 le2
  simp only [kS1, bLookup, bMapSet, wantA, isCall, stepOp, evalO, evalL, evalP, evalM, putDst, flat, kA, kB, Nat.reduceLT, ↓reduceIte, kC, Nat.reduceEqDiff, aBuiltin, abinG, guardFree, abin, aInt, aUn, aNilCheck, retQ, retQ1, aresults, aresultL, aresult, mkF, undefV, reduceCtorEq, kD, kE, kF, kG, kH, kI, kJ, kK, aExtract, calleeOf, lA2.1]
  refine KCall.intro (by simp only [kS1, bLookup, bMapSet, wantA, isCall, stepOp, evalO, evalL, evalP, evalM, putDst, flat, kA, kB, Nat.reduceLT, ↓reduceIte, kC, Nat.reduceEqDiff, aBuiltin, abinG, guardFree, abin, aInt, aUn, aNilCheck, retQ, retQ1, aresults, aresultL, aresult, mkF, undefV, reduceCtorEq, kD, kE, kF, kG, kH, kI, kJ, kK, aExtract, calleeOf] <;> rfl) ⟨Try.func17, rfl, by decide⟩ (LowSearch_any W0 _ _ h2 (hg0.le (le1.trans le2))) ?_
  rintro x h3 w3 ⟨l3, ⟨hn, _⟩ | ⟨_, lv, rfl, hl⟩⟩
  · exact absurd hr hn
  obtain ⟨num, up, SS⟩ := lowM_S hR
  simp only [Int.toNat_natCast] at hl
  generalize (lowM n es).1 = ls at *
  generalize (lowM n es).2 = o at *
  have le23 := le2.trans l3
  have lA3 := lA h3 le23
  have ll := fun g => hl.len g
  simp only [SS.len] at ll
  simp only [kS1, bLookup, bMapSet, wantA, isCall, stepOp, evalO, evalL, evalP, evalM, putDst, flat, kA, kB, Nat.reduceLT, ↓reduceIte, kC, Nat.reduceEqDiff, aBuiltin, abinG, guardFree, abin, aInt, aUn, aNilCheck, retQ, retQ1, aresults, aresultL, aresult, mkF, undefV, reduceCtorEq, kD, kE, kF, kG, kH, kI, kJ, kK, aExtract, calleeOf, bne, ll, fg0, aadd, Nat.zero_add, lA3.2.1]
  have mk := aMakeSlice1 (P := Try.prog) (t := 35) (z := .int .i64 0) h3 Try.underlying35 rfl rfl rfl rfl (by kernel_rfl) Try.underlying3 (by kernel_rfl) n (by omega)
  obtain ⟨h4, e4, l4, w4, o4⟩ := alloc_f w3 (List.replicate n (.int .i64 0))
  rw [e4] at mk
  obtain ⟨h5, e5, l5, w5, o5⟩ : ∃ h5, h4.alloc (.map []) = h5 ∧ Le h4 h5 ∧ WF h5 ∧ h5.own h4.next = some (.map []) := ⟨_, rfl, (Le.refl h4).alloc w4 _, w4.alloc _, AHeap.own_alloc_eq _ _⟩
  simp only [kS1, bLookup, bMapSet, wantA, isCall, stepOp, evalO, evalL, evalP, evalM, putDst, flat, kA, kB, Nat.reduceLT, ↓reduceIte, kC, Nat.reduceEqDiff, aBuiltin, abinG, guardFree, abin, aInt, aUn, aNilCheck, retQ, retQ1, aresults, aresultL, aresult, mkF, undefV, reduceCtorEq, kD, kE, kF, kG, kH, kI, kJ, kK, aExtract, calleeOf, mk, e5, ll]
  have nT : h3.own h3.next = none := (Le.refl h3).next w3 (Nat.le_refl _)
  have nM : h4.own h4.next = none := (Le.refl h4).next w4 (Nat.le_refl _)
  have nM3 := l4.none nM
  have neTM : h3.next ≠ h4.next := fun e => by rw [← e, o4] at nM; cases nM
  have oT5 : h5.own h3.next = some (.cells (I64 (List.replicate n 0))) := by rw [l5.own _ _ o4]; simp [I64]
  generalize h4.next = M at *
  generalize h3.next = T at *
  have l35 := l4.trans l5
  have ixT : ∀ (k : IntKind) (j : Nat), j < n → aIndexAddr Try.prog 35 (.slice (some ⟨T, 0, none⟩) n n) (.int k j) = some (.pointer (some ⟨T, j, none⟩)) := fun k j hj => by rw [aIdx Try.underlying35 Try.underlying3 (by kernel_rfl) j hj]; simp [aadd]
  have ldT : ∀ (g : AHeap) (c : List Int) (j : Nat), g.own T = some (.cells (I64 c)) → c.length = n → j < n → aload Try.prog g 3 ⟨T, j, none⟩ = some (.int .i64 (c.getD j 0)) := fun g c j ho hl hj => by
    rw [aload_one Try.underlying3 rfl ho, getD_of (by omega)]; simp [I64, getElem?_of (show j < c.length by omega)]
  have numr : ∀ v, v < n → 1 ≤ num v ∧ num v ≤ n := fun v hv => by
    obtain ⟨k, hk⟩ := List.mem_iff_getElem?.1 ((SS.mem v).2 hv)
    have h1 := SS.ord k v hk
    have h2 := (List.getElem?_eq_some_iff.1 hk).1
    have := SS.olen; omega
  refine KLoop.intro (fun k fr hq => ∃ (i : Nat) (c : List Int) (al : List (Int × Int)), k = n - i ∧ i ≤ n ∧ fr = mkF [(1, .pointer (some ⟨B, 0, none⟩)), (3, lv), (5, .slice (some ⟨T, 0, none⟩) n n), (6, .map (some M)), (40, lv), (41, .int .i64 n), (42, .int .i64 i)] ∧
      hq.own T = some (.cells (I64 c)) ∧ c.length = n ∧ (∀ v, v < i → c.getD v 0 = (num v : Int)) ∧ hq.own M = some (.map (mapI al)) ∧ (∀ k x, lookK al k = some x ↔ ∃ v : Nat, v < i ∧ (num v : Int) = k ∧ x = (v : Int)) ∧ Le h3 hq)
    n [(1, .pointer (some ⟨B, 0, none⟩)), (3, lv), (5, .slice (some ⟨T, 0, none⟩) n n), (6, .map (some M)), (40, lv), (41, .int .i64 n), (42, .int .i64 (0 : Nat))] (by simp only [hasAll, kS1, bLookup, bMapSet, wantA, isCall, stepOp, evalO, evalL, evalP, evalM, putDst, flat, kA, kB, Nat.reduceLT, ↓reduceIte, kC, Nat.reduceEqDiff, aBuiltin, abinG, guardFree, abin, aInt, aUn, aNilCheck, retQ, retQ1, aresults, aresultL, aresult, mkF, undefV, reduceCtorEq, kD, kE, kF, kG, kH, kI, kJ, kK, aExtract, calleeOf]; simp)
    ⟨0, _, [], rfl, Nat.zero_le _, rfl, oT5, by simp, fun v hv => by omega, o5, fun k x => by simp [lookK], l35⟩ ?_
  clear oT5 o5 w5 l5 e5 o4 w4 l4 e4 mk l35 nM
  clear h5 h4
  rintro k fr hq hwq ⟨i, c, al, rfl, hi, rfl, oT, hcl, hcv, oM, hal, leq⟩
  simp only [kS1, bLookup, bMapSet, wantA, isCall, stepOp, evalO, evalL, evalP, evalM, putDst, flat, kA, kB, Nat.reduceLT, ↓reduceIte, kC, Nat.reduceEqDiff, aBuiltin, abinG, guardFree, abin, aInt, aUn, aNilCheck, retQ, retQ1, aresults, aresultL, aresult, mkF, undefV, reduceCtorEq, kD, kE, kF, kG, kH, kI, kJ, kK, aExtract, calleeOf]
  refine KCond.intro (fun ht => ?_) (fun hf => ?_)
  · have hlt : i < n := lt_t ht
    clear ht
    have gi := getL_of (ls := ls) (v := i) (by rw [SS.len]; exact hlt)
    have ad := hl.addr (k := .i64) i (by rw [SS.len]; exact hlt)
    have ld := (hl.le leq).load gi
    obtain ⟨h6', h6, e6, e6s, l6, w6, o6, q6⟩ := new51 hwq (getL ls i)
    have nE : hq.own hq.next = none := (Le.refl hq).next hwq (Nat.le_refl _)
    have neT : hq.next ≠ T := fun e => by rw [e, oT] at nE; cases nE
    have neM : hq.next ≠ M := fun e => by rw [e, oM] at nE; cases nE
    generalize hq.next = E at *
    have oT6 := l6.own _ _ oT
    have oM6 := l6.own _ _ oM
    have st := aStore1 (P := Try.prog) (t := 3) (x := .int .i64 (getL ls i).1) Try.underlying3 (by kernel_rfl) oT6 (off := i) (by simp [I64]; omega) rfl rfl
    rw [I64_set] at st
    obtain ⟨f0, f1, f2⟩ := q6 h6 (Le.refl _)
    simp only [kS1, bLookup, bMapSet, wantA, isCall, stepOp, evalO, evalL, evalP, evalM, putDst, flat, kA, kB, Nat.reduceLT, ↓reduceIte, kC, Nat.reduceEqDiff, aBuiltin, abinG, guardFree, abin, aInt, aUn, aNilCheck, retQ, retQ1, aresults, aresultL, aresult, mkF, undefV, reduceCtorEq, kD, kE, kF, kG, kH, kI, kJ, kK, aExtract, calleeOf, ad, ld, e6, e6s, fl0, aadd, Nat.add_zero, Nat.zero_add, f0, ixT _ i hlt, st]
    have w7 := w6.put (.cells (I64 (c.set i (getL ls i).1))) (w6.lt oT6)
    have oT7 := AHeap.own_put_eq h6 T (.cells (I64 (c.set i (getL ls i).1)))
    have oM7 : (h6.put T (.cells (I64 (c.set i (getL ls i).1)))).own M = some (.map (mapI al)) := by rw [AHeap.own_put_ne _ _ _ _ (Ne.symm neTM)]; exact oM6
    have oE7 : (h6.put T (.cells (I64 (c.set i (getL ls i).1)))).own E = some (.cells (cellsL (getL ls i))) := by rw [AHeap.own_put_ne _ _ _ _ neT]; exact o6
    have l7 := (leq.trans l6).put (.cells (I64 (c.set i (getL ls i).1))) nT
    generalize h6.put T (.cells (I64 (c.set i (getL ls i).1))) = h7 at *
    have fE : ∀ g, Le h7 g → aload Try.prog g 3 ⟨E, 0, none⟩ = some (.int .i64 (getL ls i).1) ∧ aload Try.prog g 3 ⟨E, 1, none⟩ = some (.int .i64 (getL ls i).2.1) := fun g l => ⟨by rw [aload_one Try.underlying3 rfl (l.own _ _ oE7)]; rfl, by rw [aload_one Try.underlying3 rfl (l.own _ _ oE7)]; rfl⟩
    obtain ⟨fE0, fE1⟩ := fE h7 (Le.refl _)
    have hnone : lookK al (getL ls i).1 = none := by
      cases hk : lookK al (getL ls i).1 with
      | none => rfl
      | some x =>
        obtain ⟨v, hv, h1, _⟩ := (hal _ _).1 hk
        rw [SS.nums i hlt] at h1
        have := SS.fo.inj v i (by omega) hlt (by omega)
        omega
    have lk := mapI_look oM7 (getL ls i).1 true
    rw [hnone] at lk
    simp only [cond_true, Option.isSome_none] at lk
    simp only [kS1, bLookup, bMapSet, wantA, isCall, stepOp, evalO, evalL, evalP, evalM, putDst, flat, kA, kB, Nat.reduceLT, ↓reduceIte, kC, Nat.reduceEqDiff, aBuiltin, abinG, guardFree, abin, aInt, aUn, aNilCheck, retQ, retQ1, aresults, aresultL, aresult, mkF, undefV, reduceCtorEq, kD, kE, kF, kG, kH, kI, kJ, kK, aExtract, calleeOf, fl0, aadd, Nat.add_zero, Nat.zero_add, fE0, lk]
    have lA7 := lA h7 (le23.trans l7)
    have nr := numr i hlt
    have nn := SS.nums i hlt
    have ur := SS.upr i hlt
    have d1 : decide ((getL ls i).1 < 1) = false := decide_eq_false (by omega)
    have d2 : decide ((getL ls i).1 > (n : Int)) = false := decide_eq_false (by omega)
    have d3 : decide ((getL ls i).2.1 < -1) = false := decide_eq_false (by omega)
    have d4 : decide ((getL ls i).2.1 ≥ (n : Int)) = false := decide_eq_false (by omega)
    have hcv' : ∀ v, v < i + 1 → (c.set i (getL ls i).1).getD v 0 = (num v : Int) := fun v hv => by
      rw [getD_set]
      by_cases e : i = v
      · subst e; rw [if_pos ⟨rfl, by omega⟩]; exact nn
      · rw [if_neg (fun h => e h.1)]; exact hcv v (by omega)
    have hal' : ∀ k x, lookK (setK al (getL ls i).1 (i : Int)) k = some x ↔ ∃ v : Nat, v < i + 1 ∧ (num v : Int) = k ∧ x = (v : Int) := fun k x => by
      rw [lookK_set, nn]
      by_cases e : (num i : Int) = k
      · rw [if_pos e]
        constructor
        · intro h; injection h with h; exact ⟨i, by omega, e, h.symm⟩
        · rintro ⟨v, hv, h1, rfl⟩
          have := SS.fo.inj v i (by omega) hlt (by omega)
          rw [this]
      · rw [if_neg e, hal]
        constructor
        · rintro ⟨v, hv, h1, h2⟩; exact ⟨v, by omega, h1, h2⟩
        · rintro ⟨v, hv, h1, h2⟩
          exact ⟨v, by have : v ≠ i := fun e' => e (by rw [← e']; exact h1)
                       omega, h1, h2⟩
    refine KDraw.intro mixed (.fl 0 (.fl 1 (.fl 2 (.fl 3 (.fl 4 (.fl 5 (.fl 6 (.fl 7 (.fl 8 (.fl 9 (.fl 10 (.fl 11 (.fl 12 (.fl 13 (.fl 14 (.fl 15 (.fl 16 (.fl 17 (.fl 18 (.fl 19 (.fl 20 (.fl 21 (.fl 22 (.fl 23 (.fl 24 (.fl 25 (.fl 26 (.fl 27 (.fl 28 (.fl 29 (.fl 30 (.fl 31 (.fl 32 (.fl 33 (.ch 34 [29, 30, 31, 33] (.fl 35 (.fl 36 (.fl 37 (.fl 38 (.fl 39 (.fl 40 (.fl 41 (.fl 42 (.fl 43 (.fl 44 (.fl 45 (.fl 46 (.fl 47 (.fl 48 (.done))))))))))))))) .no))))))))))))))))))))))))))))))))))) (by kernel_rfl) ?_
    by_cases c5 : (getL ls i).2.1 ≥ 0
    · have d5 : decide ((getL ls i).2.1 ≥ 0) = true := decide_eq_true c5
      simp only [kS1, bLookup, bMapSet, wantA, isCall, stepOp, evalO, evalL, evalP, evalM, putDst, flat, kA, kB, Nat.reduceLT, ↓reduceIte, kC, Nat.reduceEqDiff, aBuiltin, abinG, guardFree, abin, aInt, aUn, aNilCheck, retQ, retQ1, aresults, aresultL, aresult, mkF, undefV, reduceCtorEq, kD, kE, kF, kG, kH, kI, kJ, kK, aExtract, calleeOf, kD1, Nat.reduceBEq, HoldsAll, kL, kM, kN, kO, fl0, fl1, fg0, aadd, Nat.add_zero, Nat.zero_add, fE0, fE1, lA7.2.1, lA7.1, d1, d2, d3, d4, d5]
      obtain ⟨u, hu⟩ := Int.eq_ofNat_of_zero_le c5
      have hun : u < n := by omega
      have hup : up i = some u := by rw [← SS.ups i hlt, hu, upI_nat]
      obtain ⟨hadj, hlt2⟩ := SS.fo.upa i u hlt hup
      rw [hu] at fE1 fE d3 d4 d5
      simp only [hu]
      refine KGCall.intro (by simp only [kS1, bLookup, bMapSet, wantA, isCall, stepOp, evalO, evalL, evalP, evalM, putDst, flat, kA, kB, Nat.reduceLT, ↓reduceIte, kC, Nat.reduceEqDiff, aBuiltin, abinG, guardFree, abin, aInt, aUn, aNilCheck, retQ, retQ1, aresults, aresultL, aresult, mkF, undefV, reduceCtorEq, kD, kE, kF, kG, kH, kI, kJ, kK, aExtract, calleeOf] <;> rfl) ⟨Try.func32, rfl, by decide⟩ (Has_any W0 _ ⟨(n : Int), es⟩ (i : Int) (u : Int) h7 (hg0.le ((le1.trans le23).trans l7))) ?_
      rintro x h8 w8 ⟨⟨bh, rfl, hbh⟩, l8⟩
      have hbt : bh = true := hbh.2 ⟨hr, adj_mem hR hadj.symm⟩
      subst hbt
      obtain ⟨fE80, fE81⟩ := fE h8 l8
      have gu := getL_of (ls := ls) (v := u) (by rw [SS.len]; exact hun)
      have adu := hl.addr (k := .i64) u (by rw [SS.len]; exact hun)
      have ldu := (hl.le (l7.trans l8)).l0 gu
      simp only [aadd, Nat.add_zero] at ldu
      have ldu7 := (hl.le l7).l0 gu
      simp only [aadd, Nat.add_zero] at ldu7
      have lA8 := lA h8 (le23.trans (l7.trans l8))
      have hnu := SS.nums u hun
      have d6 : decide ((getL ls u).1 ≥ (getL ls i).1) = false := decide_eq_false (by omega)
      have st9 := mapI_set (l8.own _ _ oM7) (getL ls i).1 (i : Int)
      have w9 := w8.put (.map (mapI (setK al (getL ls i).1 (i : Int)))) (w8.lt (l8.own _ _ oM7))
      simp only [kS1, bLookup, bMapSet, wantA, isCall, stepOp, evalO, evalL, evalP, evalM, putDst, flat, kA, kB, Nat.reduceLT, ↓reduceIte, kC, Nat.reduceEqDiff, aBuiltin, abinG, guardFree, abin, aInt, aUn, aNilCheck, retQ, retQ1, aresults, aresultL, aresult, mkF, undefV, reduceCtorEq, kD, kE, kF, kG, kH, kI, kJ, kK, aExtract, calleeOf, kD1, Nat.reduceBEq, HoldsAll, kL, kM, kN, kO, fl0, fl1, fg0, aadd, Nat.add_zero, Nat.zero_add, fE0, fE1, fE80, fE81, adu, ldu, ldu7, lA7.2.1, lA7.1, lA8.2.1, lA8.1, d1, d2, d3, d4, d5, d6, st9, awrap_succ i (by omega)]
      refine loop_again (n - (i + 1)) [(1, .pointer (some ⟨B, 0, none⟩)), (3, lv), (5, .slice (some ⟨T, 0, none⟩) n n), (6, .map (some M)), (40, lv), (41, .int .i64 n), (42, .int .i64 (i + 1 : Nat))] (by omega) (by simp only [hasAll, kS1, bLookup, bMapSet, wantA, isCall, stepOp, evalO, evalL, evalP, evalM, putDst, flat, kA, kB, Nat.reduceLT, ↓reduceIte, kC, Nat.reduceEqDiff, aBuiltin, abinG, guardFree, abin, aInt, aUn, aNilCheck, retQ, retQ1, aresults, aresultL, aresult, mkF, undefV, reduceCtorEq, kD, kE, kF, kG, kH, kI, kJ, kK, aExtract, calleeOf]; simp)
        ⟨i + 1, c.set i (getL ls i).1, setK al (getL ls i).1 (i : Int), rfl, hlt, rfl, by rw [AHeap.own_put_ne _ _ _ _ neTM]; exact l8.own _ _ oT7, by simpa using hcl, hcv' , AHeap.own_put_eq _ _ _, hal', (l7.trans l8).put _ nM3⟩
    · have d5 : decide ((getL ls i).2.1 ≥ 0) = false := decide_eq_false c5
      have st9 := mapI_set oM7 (getL ls i).1 (i : Int)
      simp only [kS1, bLookup, bMapSet, wantA, isCall, stepOp, evalO, evalL, evalP, evalM, putDst, flat, kA, kB, Nat.reduceLT, ↓reduceIte, kC, Nat.reduceEqDiff, aBuiltin, abinG, guardFree, abin, aInt, aUn, aNilCheck, retQ, retQ1, aresults, aresultL, aresult, mkF, undefV, reduceCtorEq, kD, kE, kF, kG, kH, kI, kJ, kK, aExtract, calleeOf, kD1, Nat.reduceBEq, HoldsAll, kL, kM, kN, kO, fl0, fl1, fg0, aadd, Nat.add_zero, Nat.zero_add, fE0, fE1, lA7.2.1, lA7.1, d1, d2, d3, d4, d5, st9, awrap_succ i (by omega)]
      refine loop_again (n - (i + 1)) [(1, .pointer (some ⟨B, 0, none⟩)), (3, lv), (5, .slice (some ⟨T, 0, none⟩) n n), (6, .map (some M)), (40, lv), (41, .int .i64 n), (42, .int .i64 (i + 1 : Nat))] (by omega) (by simp only [hasAll, kS1, bLookup, bMapSet, wantA, isCall, stepOp, evalO, evalL, evalP, evalM, putDst, flat, kA, kB, Nat.reduceLT, ↓reduceIte, kC, Nat.reduceEqDiff, aBuiltin, abinG, guardFree, abin, aInt, aUn, aNilCheck, retQ, retQ1, aresults, aresultL, aresult, mkF, undefV, reduceCtorEq, kD, kE, kF, kG, kH, kI, kJ, kK, aExtract, calleeOf]; simp)
        ⟨i + 1, c.set i (getL ls i).1, setK al (getL ls i).1 (i : Int), rfl, hlt, rfl, by rw [AHeap.own_put_ne _ _ _ _ neTM]; exact oT7, by simpa using hcl, hcv', AHeap.own_put_eq _ _ _, hal', l7.put _ nM3⟩
  have hge : n ≤ i := lt_f hf
  obtain rfl : i = n := by omega
  clear hge hf hi
  have S0 : LowFn i [] num up (fun a b => a = b) (fun v => c.getD v 0) := fun v hv => ⟨num v, hcv v hv, Nat.le_refl _, fun u w _ k => (by rcases k.1 with k | k <;> simp at k), .inl rfl⟩
  have hM : ∀ k : Nat, k < o.length → ((lookK al ((k + 1 : Nat) : Int)).getD 0) = ((o.getD k 0 : Nat) : Int) := fun k hk => by
    have hk' := getElem?_of hk
    have h1 := SS.ord k _ hk'
    have h2 : lookK al ((k + 1 : Nat) : Int) = some ((o[k] : Nat) : Int) := (hal _ _).2 ⟨o[k], (SS.mem _).1 (List.mem_of_getElem? hk'), by rw [h1], rfl⟩
    rw [h2, getD_of hk]; rfl
  clear hcv hal
  have lAq := lA hq (le23.trans leq)
  simp only [kS1, bLookup, bMapSet, wantA, isCall, stepOp, evalO, evalL, evalP, evalM, putDst, flat, kA, kB, Nat.reduceLT, ↓reduceIte, kC, Nat.reduceEqDiff, aBuiltin, abinG, guardFree, abin, aInt, aUn, aNilCheck, retQ, retQ1, aresults, aresultL, aresult, mkF, undefV, reduceCtorEq, kD, kE, kF, kG, kH, kI, kJ, kK, aExtract, calleeOf, fg1, aadd, Nat.zero_add, lAq.2.2, hp.len]
  refine KLoop.intro (fun k fr hh => ∃ (j : Nat) (cs : List Int), k = es.length - j ∧ j ≤ es.length ∧ fr = mkF [(1, .pointer (some ⟨B, 0, none⟩)), (3, lv), (5, .slice (some ⟨T, 0, none⟩) i i), (6, .map (some M)), (114, ev), (115, .int .i64 es.length), (116, .int .i64 j)] ∧
      hh.own T = some (.cells (I64 cs)) ∧ cs.length = i ∧ LowFn i (es.take j) num up (fun a b => a = b) (fun v => cs.getD v 0) ∧ hh.own M = some (.map (mapI al)) ∧ Le h3 hh)
    es.length [(1, .pointer (some ⟨B, 0, none⟩)), (3, lv), (5, .slice (some ⟨T, 0, none⟩) i i), (6, .map (some M)), (114, ev), (115, .int .i64 es.length), (116, .int .i64 (0 : Nat))] (by simp only [hasAll, kS1, bLookup, bMapSet, wantA, isCall, stepOp, evalO, evalL, evalP, evalM, putDst, flat, kA, kB, Nat.reduceLT, ↓reduceIte, kC, Nat.reduceEqDiff, aBuiltin, abinG, guardFree, abin, aInt, aUn, aNilCheck, retQ, retQ1, aresults, aresultL, aresult, mkF, undefV, reduceCtorEq, kD, kE, kF, kG, kH, kI, kJ, kK, aExtract, calleeOf]; simp)
    ⟨0, c, rfl, Nat.zero_le _, rfl, oT, hcl, S0, oM, leq⟩ ?_
  clear S0 oT oM leq hwq lAq hcl
  clear hq c
  rintro k fr hq hwq ⟨j, cs, rfl, hj, rfl, oT, hcl, S, oM, leq⟩
  simp only [kS1, bLookup, bMapSet, wantA, isCall, stepOp, evalO, evalL, evalP, evalM, putDst, flat, kA, kB, Nat.reduceLT, ↓reduceIte, kC, Nat.reduceEqDiff, aBuiltin, abinG, guardFree, abin, aInt, aUn, aNilCheck, retQ, retQ1, aresults, aresultL, aresult, mkF, undefV, reduceCtorEq, kD, kE, kF, kG, kH, kI, kJ, kK, aExtract, calleeOf]
  refine KCond.intro (fun ht => ?_) (fun hf => ?_)
  · have hlt : j < es.length := lt_t ht
    clear ht
    have hej := getElem?_of hlt
    have htk : es.take (j + 1) = es.take j ++ [es[j]] := List.take_succ_eq_append_getElem hlt
    have hpos := hR es[j] (List.getElem_mem hlt)
    generalize es[j] = p at hej htk hpos
    have ad := hp.addr (k := .i64) j hlt
    have ld := (hp.le ((le1.trans le23).trans leq)).load hej
    obtain ⟨a, c⟩ := p
    simp only at hpos
    obtain ⟨a, rfl⟩ := Int.eq_ofNat_of_zero_le hpos.1
    obtain ⟨c, rfl⟩ := Int.eq_ofNat_of_zero_le (show 0 ≤ c by omega)
    have han : a < i := by omega
    have hcn : c < i := by omega
    have hadj : adj es a c := .inl (List.mem_of_getElem? hej)
    have hne := SS.fo.num_ne hadj
    obtain ⟨h6', h6, e6, e6s, l6, w6, o6⟩ := new42 hwq ((a : Int), (c : Int))
    have oT6 := l6.own _ _ oT
    have oM6 := l6.own _ _ oM
    have leq6 := leq.trans l6
    have m4a := own0 o6
    have m4b := own1 o6
    simp only at m4a m4b
    generalize hq.next = E at *
    have ga := getL_of (ls := ls) (v := a) (by rw [SS.len]; exact han)
    have gc := getL_of (ls := ls) (v := c) (by rw [SS.len]; exact hcn)
    have ada := hl.addr (k := .i64) a (by rw [SS.len]; exact han)
    have adc := hl.addr (k := .i64) c (by rw [SS.len]; exact hcn)
    have na := (hl.le leq6).l0 ga
    have nc := (hl.le leq6).l0 gc
    simp only [aadd, Nat.add_zero] at na nc
    simp only [kS1, bLookup, bMapSet, wantA, isCall, stepOp, evalO, evalL, evalP, evalM, putDst, flat, kA, kB, Nat.reduceLT, ↓reduceIte, kC, Nat.reduceEqDiff, aBuiltin, abinG, guardFree, abin, aInt, aUn, aNilCheck, retQ, retQ1, aresults, aresultL, aresult, mkF, undefV, reduceCtorEq, kD, kE, kF, kG, kH, kI, kJ, kK, aExtract, calleeOf, ad, ld, e6, e6s]
    refine KDraw.intro mixed (.fl 0 (.fl 1 (.fl 2 (.fl 3 (.fl 4 (.fl 5 (.done))))))) (by kernel_rfl) ?_
    simp only [kS1, bLookup, bMapSet, wantA, isCall, stepOp, evalO, evalL, evalP, evalM, putDst, flat, kA, kB, Nat.reduceLT, ↓reduceIte, kC, Nat.reduceEqDiff, aBuiltin, abinG, guardFree, abin, aInt, aUn, aNilCheck, retQ, retQ1, aresults, aresultL, aresult, mkF, undefV, reduceCtorEq, kD, kE, kF, kG, kH, kI, kJ, kK, aExtract, calleeOf, kD1, Nat.reduceBEq, HoldsAll, kL, kM, kN, kO, pa0, pa1, aadd, Nat.add_zero, Nat.zero_add, m4a, m4b]
    refine KDraw.intro mixed (.fl 0 (.fl 1 (.fl 2 (.fl 3 (.fl 4 (.fl 5 (.fl 6 (.fl 7 (.fl 8 (.fl 9 (.fl 10 (.done)))))))))))) (by kernel_rfl) ?_
    simp only [kS1, bLookup, bMapSet, wantA, isCall, stepOp, evalO, evalL, evalP, evalM, putDst, flat, kA, kB, Nat.reduceLT, ↓reduceIte, kC, Nat.reduceEqDiff, aBuiltin, abinG, guardFree, abin, aInt, aUn, aNilCheck, retQ, retQ1, aresults, aresultL, aresult, mkF, undefV, reduceCtorEq, kD, kE, kF, kG, kH, kI, kJ, kK, aExtract, calleeOf, kD1, Nat.reduceBEq, HoldsAll, kL, kM, kN, kO, ada, adc, fl0, aadd, Nat.add_zero, na, nc]
    by_cases q : num a < num c
    · -- c is the lower one, a the upper one
      have hh : isE a c c a := .inr ⟨rfl, rfl⟩
      have hnum : num a < num c := q
      have gh := getL_of (ls := ls) (v := c) (by rw [SS.len]; omega)
      have gl := getL_of (ls := ls) (v := a) (by rw [SS.len]; omega)
      have adh := hl.addr (k := .i64) c (by rw [SS.len]; omega)
      have uh := (hl.le leq6).l1 gh
      have nl := (hl.le leq6).l0 gl
      have adl := hl.addr (k := .i64) a (by rw [SS.len]; omega)
      simp only [aadd, Nat.add_zero] at uh nl
      have dn : decide ((getL ls a).1 < (getL ls c).1) = true := by simp only [SS.nums a han, SS.nums c hcn, decide_eq_true_eq, decide_eq_false_iff_not]; omega
      simp only [dn, kS1, bLookup, bMapSet, wantA, isCall, stepOp, evalO, evalL, evalP, evalM, putDst, flat, kA, kB, Nat.reduceLT, ↓reduceIte, kC, Nat.reduceEqDiff, aBuiltin, abinG, guardFree, abin, aInt, aUn, aNilCheck, retQ, retQ1, aresults, aresultL, aresult, mkF, undefV, reduceCtorEq, kD, kE, kF, kG, kH, kI, kJ, kK, aExtract, calleeOf, adh, fl1, aadd, uh]
      by_cases t : up c = some a
      · have tu : (getL ls c).2.1 = (a : Int) := upI_iff.1 ((SS.ups c (by omega)).trans t)
        have du : decide ((getL ls c).2.1 = (a : Int)) = true := decide_eq_true tu
        simp only [du, kS1, bLookup, bMapSet, wantA, isCall, stepOp, evalO, evalL, evalP, evalM, putDst, flat, kA, kB, Nat.reduceLT, ↓reduceIte, kC, Nat.reduceEqDiff, aBuiltin, abinG, guardFree, abin, aInt, aUn, aNilCheck, retQ, retQ1, aresults, aresultL, aresult, mkF, undefV, reduceCtorEq, kD, kE, kF, kG, kH, kI, kJ, kK, aExtract, calleeOf, bne, awrap_succ j (by omega)]
        refine loop_again (es.length - (j + 1)) [(1, .pointer (some ⟨B, 0, none⟩)), (3, lv), (5, .slice (some ⟨T, 0, none⟩) i i), (6, .map (some M)), (114, ev), (115, .int .i64 es.length), (116, .int .i64 (j + 1 : Nat))] (by omega) (by simp only [hasAll, kS1, bLookup, bMapSet, wantA, isCall, stepOp, evalO, evalL, evalP, evalM, putDst, flat, kA, kB, Nat.reduceLT, ↓reduceIte, kC, Nat.reduceEqDiff, aBuiltin, abinG, guardFree, abin, aInt, aUn, aNilCheck, retQ, retQ1, aresults, aresultL, aresult, mkF, undefV, reduceCtorEq, kD, kE, kF, kG, kH, kI, kJ, kK, aExtract, calleeOf]; simp)
          ⟨j + 1, cs, rfl, hlt, rfl, oT6, hcl, ?_, oM6, leq6⟩
        rw [htk]
        refine ed_step SS.fo hh han hcn hnum S fun v hv => ?_
        rw [if_neg (fun k => k.2 t)]
      · have tu : ¬ (getL ls c).2.1 = (a : Int) := fun e => t ((SS.ups c (by omega)).symm.trans (upI_iff.2 e))
        have du : decide ((getL ls c).2.1 = (a : Int)) = false := decide_eq_false tu
        have st := aStore1 (P := Try.prog) (t := 3) (x := .int .i64 (min (cs.getD c 0) (getL ls a).1)) Try.underlying3 (by kernel_rfl) oT6 (off := c) (by simp [I64]; omega) rfl rfl
        rw [I64_set] at st
        simp only [du, kS1, bLookup, bMapSet, wantA, isCall, stepOp, evalO, evalL, evalP, evalM, putDst, flat, kA, kB, Nat.reduceLT, ↓reduceIte, kC, Nat.reduceEqDiff, aBuiltin, abinG, guardFree, abin, aInt, aUn, aNilCheck, retQ, retQ1, aresults, aresultL, aresult, mkF, undefV, reduceCtorEq, kD, kE, kF, kG, kH, kI, kJ, kK, aExtract, calleeOf, bne]
        refine KDraw.intro mixed (.fl 0 (.fl 1 (.fl 2 (.fl 3 (.fl 4 (.fl 5 (.fl 6 (.fl 7 (.fl 8 (.fl 9 (.fl 10 (.fl 11 (.fl 12 (.ch 13 [0, 1, 2, 3, 4, 5, 6, 7, 8, 9, 10, 11, 12] (.done) .no)))))))))))))) (by kernel_rfl) ?_
        simp only [kS1, bLookup, bMapSet, wantA, isCall, stepOp, evalO, evalL, evalP, evalM, putDst, flat, kA, kB, Nat.reduceLT, ↓reduceIte, kC, Nat.reduceEqDiff, aBuiltin, abinG, guardFree, abin, aInt, aUn, aNilCheck, retQ, retQ1, aresults, aresultL, aresult, mkF, undefV, reduceCtorEq, kD, kE, kF, kG, kH, kI, kJ, kK, aExtract, calleeOf, kD1, Nat.reduceBEq, HoldsAll, kL, kM, kN, kO, ixT _ c (by omega), ldT h6 cs c oT6 hcl (by omega), adl, fl0, aadd, Nat.add_zero, nl, amin_i, st, awrap_succ j (by omega)]
        refine loop_again (es.length - (j + 1)) [(1, .pointer (some ⟨B, 0, none⟩)), (3, lv), (5, .slice (some ⟨T, 0, none⟩) i i), (6, .map (some M)), (114, ev), (115, .int .i64 es.length), (116, .int .i64 (j + 1 : Nat))] (by omega) (by simp only [hasAll, kS1, bLookup, bMapSet, wantA, isCall, stepOp, evalO, evalL, evalP, evalM, putDst, flat, kA, kB, Nat.reduceLT, ↓reduceIte, kC, Nat.reduceEqDiff, aBuiltin, abinG, guardFree, abin, aInt, aUn, aNilCheck, retQ, retQ1, aresults, aresultL, aresult, mkF, undefV, reduceCtorEq, kD, kE, kF, kG, kH, kI, kJ, kK, aExtract, calleeOf]; simp)
          ⟨j + 1, _, rfl, hlt, rfl, AHeap.own_put_eq _ _ _, by simpa using hcl, ?_, by rw [AHeap.own_put_ne _ _ _ _ (Ne.symm neTM)]; exact oM6, leq6.put _ nT⟩
        rw [htk]
        refine ed_step SS.fo hh han hcn hnum S fun v hv => ?_
        rw [getD_set, SS.nums a (by omega)]
        by_cases e : v = c
        · subst e; rw [if_pos ⟨rfl, by omega⟩, if_pos ⟨rfl, t⟩]
        · rw [if_neg (fun k => e k.1.symm), if_neg (fun k => e k.1)]
    · -- a is the lower one, c the upper one
      have hh : isE a c a c := .inl ⟨rfl, rfl⟩
      have hnum : num c < num a := (by omega)
      have gh := getL_of (ls := ls) (v := a) (by rw [SS.len]; omega)
      have gl := getL_of (ls := ls) (v := c) (by rw [SS.len]; omega)
      have adh := hl.addr (k := .i64) a (by rw [SS.len]; omega)
      have uh := (hl.le leq6).l1 gh
      have nl := (hl.le leq6).l0 gl
      have adl := hl.addr (k := .i64) c (by rw [SS.len]; omega)
      simp only [aadd, Nat.add_zero] at uh nl
      have dn : decide ((getL ls a).1 < (getL ls c).1) = false := by simp only [SS.nums a han, SS.nums c hcn, decide_eq_true_eq, decide_eq_false_iff_not]; omega
      simp only [dn, kS1, bLookup, bMapSet, wantA, isCall, stepOp, evalO, evalL, evalP, evalM, putDst, flat, kA, kB, Nat.reduceLT, ↓reduceIte, kC, Nat.reduceEqDiff, aBuiltin, abinG, guardFree, abin, aInt, aUn, aNilCheck, retQ, retQ1, aresults, aresultL, aresult, mkF, undefV, reduceCtorEq, kD, kE, kF, kG, kH, kI, kJ, kK, aExtract, calleeOf, adh, fl1, aadd, uh]
      by_cases t : up a = some c
      · have tu : (getL ls a).2.1 = (c : Int) := upI_iff.1 ((SS.ups a (by omega)).trans t)
        have du : decide ((getL ls a).2.1 = (c : Int)) = true := decide_eq_true tu
        simp only [du, kS1, bLookup, bMapSet, wantA, isCall, stepOp, evalO, evalL, evalP, evalM, putDst, flat, kA, kB, Nat.reduceLT, ↓reduceIte, kC, Nat.reduceEqDiff, aBuiltin, abinG, guardFree, abin, aInt, aUn, aNilCheck, retQ, retQ1, aresults, aresultL, aresult, mkF, undefV, reduceCtorEq, kD, kE, kF, kG, kH, kI, kJ, kK, aExtract, calleeOf, bne, awrap_succ j (by omega)]
        refine loop_again (es.length - (j + 1)) [(1, .pointer (some ⟨B, 0, none⟩)), (3, lv), (5, .slice (some ⟨T, 0, none⟩) i i), (6, .map (some M)), (114, ev), (115, .int .i64 es.length), (116, .int .i64 (j + 1 : Nat))] (by omega) (by simp only [hasAll, kS1, bLookup, bMapSet, wantA, isCall, stepOp, evalO, evalL, evalP, evalM, putDst, flat, kA, kB, Nat.reduceLT, ↓reduceIte, kC, Nat.reduceEqDiff, aBuiltin, abinG, guardFree, abin, aInt, aUn, aNilCheck, retQ, retQ1, aresults, aresultL, aresult, mkF, undefV, reduceCtorEq, kD, kE, kF, kG, kH, kI, kJ, kK, aExtract, calleeOf]; simp)
          ⟨j + 1, cs, rfl, hlt, rfl, oT6, hcl, ?_, oM6, leq6⟩
        rw [htk]
        refine ed_step SS.fo hh han hcn hnum S fun v hv => ?_
        rw [if_neg (fun k => k.2 t)]
      · have tu : ¬ (getL ls a).2.1 = (c : Int) := fun e => t ((SS.ups a (by omega)).symm.trans (upI_iff.2 e))
        have du : decide ((getL ls a).2.1 = (c : Int)) = false := decide_eq_false tu
        have st := aStore1 (P := Try.prog) (t := 3) (x := .int .i64 (min (cs.getD a 0) (getL ls c).1)) Try.underlying3 (by kernel_rfl) oT6 (off := a) (by simp [I64]; omega) rfl rfl
        rw [I64_set] at st
        simp only [du, kS1, bLookup, bMapSet, wantA, isCall, stepOp, evalO, evalL, evalP, evalM, putDst, flat, kA, kB, Nat.reduceLT, ↓reduceIte, kC, Nat.reduceEqDiff, aBuiltin, abinG, guardFree, abin, aInt, aUn, aNilCheck, retQ, retQ1, aresults, aresultL, aresult, mkF, undefV, reduceCtorEq, kD, kE, kF, kG, kH, kI, kJ, kK, aExtract, calleeOf, bne]
        refine KDraw.intro mixed (.fl 0 (.fl 1 (.fl 2 (.fl 3 (.fl 4 (.fl 5 (.fl 6 (.fl 7 (.fl 8 (.fl 9 (.fl 10 (.fl 11 (.fl 12 (.ch 13 [0, 1, 2, 3, 4, 5, 6, 7, 8, 9, 10, 11, 12] (.done) .no)))))))))))))) (by kernel_rfl) ?_
        simp only [kS1, bLookup, bMapSet, wantA, isCall, stepOp, evalO, evalL, evalP, evalM, putDst, flat, kA, kB, Nat.reduceLT, ↓reduceIte, kC, Nat.reduceEqDiff, aBuiltin, abinG, guardFree, abin, aInt, aUn, aNilCheck, retQ, retQ1, aresults, aresultL, aresult, mkF, undefV, reduceCtorEq, kD, kE, kF, kG, kH, kI, kJ, kK, aExtract, calleeOf, kD1, Nat.reduceBEq, HoldsAll, kL, kM, kN, kO, ixT _ a (by omega), ldT h6 cs a oT6 hcl (by omega), adl, fl0, aadd, Nat.add_zero, nl, amin_i, st, awrap_succ j (by omega)]
        refine loop_again (es.length - (j + 1)) [(1, .pointer (some ⟨B, 0, none⟩)), (3, lv), (5, .slice (some ⟨T, 0, none⟩) i i), (6, .map (some M)), (114, ev), (115, .int .i64 es.length), (116, .int .i64 (j + 1 : Nat))] (by omega) (by simp only [hasAll, kS1, bLookup, bMapSet, wantA, isCall, stepOp, evalO, evalL, evalP, evalM, putDst, flat, kA, kB, Nat.reduceLT, ↓reduceIte, kC, Nat.reduceEqDiff, aBuiltin, abinG, guardFree, abin, aInt, aUn, aNilCheck, retQ, retQ1, aresults, aresultL, aresult, mkF, undefV, reduceCtorEq, kD, kE, kF, kG, kH, kI, kJ, kK, aExtract, calleeOf]; simp)
          ⟨j + 1, _, rfl, hlt, rfl, AHeap.own_put_eq _ _ _, by simpa using hcl, ?_, by rw [AHeap.own_put_ne _ _ _ _ (Ne.symm neTM)]; exact oM6, leq6.put _ nT⟩
        rw [htk]
        refine ed_step SS.fo hh han hcn hnum S fun v hv => ?_
        rw [getD_set, SS.nums c (by omega)]
        by_cases e : v = a
        · subst e; rw [if_pos ⟨rfl, by omega⟩, if_pos ⟨rfl, t⟩]
        · rw [if_neg (fun k => e k.1.symm), if_neg (fun k => e k.1)]
  have hge : es.length ≤ j := lt_f hf
  rw [List.take_of_length_le hge] at S
  clear hge hf hj
  have S1 : LowFn i es num up (DT_ up (o.drop i)) (fun v => cs.getD v 0) := by
    have : o.drop i = [] := List.drop_eq_nil_of_le (by rw [SS.olen]; exact Nat.le_refl _)
    rw [this]
    intro v hv
    obtain ⟨x, h1, h2⟩ := S v hv
    refine ⟨x, h1, h2.congrD hR fun u _ => ?_⟩
    simp [DT_]; exact eq_comm
  have lAq := lA hq (le23.trans leq)
  simp only [kS1, bLookup, bMapSet, wantA, isCall, stepOp, evalO, evalL, evalP, evalM, putDst, flat, kA, kB, Nat.reduceLT, ↓reduceIte, kC, Nat.reduceEqDiff, aBuiltin, abinG, guardFree, abin, aInt, aUn, aNilCheck, retQ, retQ1, aresults, aresultL, aresult, mkF, undefV, reduceCtorEq, kD, kE, kF, kG, kH, kI, kJ, kK, aExtract, calleeOf, fg0, aadd, Nat.zero_add, lAq.2.1]
  refine KLoop.intro (fun k fr hh => ∃ (cs : List Int), k ≤ i ∧ fr = mkF [(3, lv), (5, .slice (some ⟨T, 0, none⟩) i i), (6, .map (some M)), (15, .int .i64 k)] ∧
      hh.own T = some (.cells (I64 cs)) ∧ cs.length = i ∧ LowFn i es num up (DT_ up (o.drop k)) (fun v => cs.getD v 0) ∧ hh.own M = some (.map (mapI al)) ∧ Le h3 hh)
    i [(3, lv), (5, .slice (some ⟨T, 0, none⟩) i i), (6, .map (some M)), (15, .int .i64 i)] (by simp only [hasAll, kS1, bLookup, bMapSet, wantA, isCall, stepOp, evalO, evalL, evalP, evalM, putDst, flat, kA, kB, Nat.reduceLT, ↓reduceIte, kC, Nat.reduceEqDiff, aBuiltin, abinG, guardFree, abin, aInt, aUn, aNilCheck, retQ, retQ1, aresults, aresultL, aresult, mkF, undefV, reduceCtorEq, kD, kE, kF, kG, kH, kI, kJ, kK, aExtract, calleeOf]; simp)
    ⟨cs, Nat.le_refl _, rfl, oT, hcl, S1, oM, leq⟩ ?_
  clear S S1 oT oM leq hwq lAq hcl
  clear hq cs
  rintro k fr hq hwq ⟨cs, hk, rfl, oT, hcl, S, oM, leq⟩
  simp only [kS1, bLookup, bMapSet, wantA, isCall, stepOp, evalO, evalL, evalP, evalM, putDst, flat, kA, kB, Nat.reduceLT, ↓reduceIte, kC, Nat.reduceEqDiff, aBuiltin, abinG, guardFree, abin, aInt, aUn, aNilCheck, retQ, retQ1, aresults, aresultL, aresult, mkF, undefV, reduceCtorEq, kD, kE, kF, kG, kH, kI, kJ, kK, aExtract, calleeOf]
  refine KCond.intro (fun ht => ?_) (fun hf => ?_)
  · obtain ⟨k, rfl⟩ : ∃ j, k = j + 1 := ⟨k - 1, by simp at ht; omega⟩
    clear ht
    have hko : k < o.length := by rw [SS.olen]; omega
    have lk := mapI_look oM ((k + 1 : Nat) : Int) false
    simp only [cond_false, hM k hko] at lk
    rw [getD_of hko] at lk
    have hdk : o.drop k = o[k] :: o.drop (k + 1) := List.drop_eq_getElem_cons hko
    have hsp : o = o.take k ++ (o[k] :: o.drop (k + 1)) := by rw [← hdk, List.take_append_drop]
    have hvm := List.getElem_mem hko
    generalize o[k] = v at *
    have hvn := (SS.mem v).1 hvm
    have hall : ∀ u, u < i → u ∈ o.take k ++ (v :: o.drop (k + 1)) := fun u hu => by rw [← hsp]; exact (SS.mem u).2 hu
    have hpair : (o.take k ++ (v :: o.drop (k + 1))).Pairwise fun a b => num a < num b := by
      rw [← hsp, List.pairwise_iff_getElem]
      intro x y hx hy hxy
      rw [SS.ord x _ (List.getElem?_eq_getElem hx), SS.ord y _ (List.getElem?_eq_getElem hy)]; omega
    have gv := getL_of (ls := ls) (v := v) (by rw [SS.len]; exact hvn)
    have adv := hl.addr (k := .i64) v (by rw [SS.len]; exact hvn)
    have lwv := (hl.le leq).l2 gv
    have upv := (hl.le leq).l1 gv
    simp only [aadd, Nat.add_zero] at lwv upv
    have key := fun f' hf => up_step SS.fo (f' := f') hall hpair hvn S hf
    obtain ⟨y, hy1, hy2⟩ := (key (fun u => if up v = some u then min (cs.getD u 0) (cs.getD v 0) else cs.getD u 0) (fun u hu => rfl)).2
    obtain ⟨z, hz1, hz2⟩ := SS.low v hvn
    have heq : (getL ls v).2.2 = cs.getD v 0 := by
      have := hy2.uniq hz2
      rw [hz1, hy1, this]
    have dl : decide ((getL ls v).2.2 = cs.getD v 0) = true := decide_eq_true heq
    have wk : awrap .i64 (((k + 1 : Nat) : Int) - 1) = (k : Int) := by rw [awrap_i64 _ (by omega) (by omega)]; omega
    simp only [kS1, bLookup, bMapSet, wantA, isCall, stepOp, evalO, evalL, evalP, evalM, putDst, flat, kA, kB, Nat.reduceLT, ↓reduceIte, kC, Nat.reduceEqDiff, aBuiltin, abinG, guardFree, abin, aInt, aUn, aNilCheck, retQ, retQ1, aresults, aresultL, aresult, mkF, undefV, reduceCtorEq, kD, kE, kF, kG, kH, kI, kJ, kK, aExtract, calleeOf, lk]
    refine KDraw.intro mixed (.fl 0 (.fl 1 (.fl 2 (.fl 3 (.fl 4 (.fl 5 (.fl 6 (.fl 7 (.fl 8 (.fl 9 (.done))))))))))) (by kernel_rfl) ?_
    simp only [kS1, bLookup, bMapSet, wantA, isCall, stepOp, evalO, evalL, evalP, evalM, putDst, flat, kA, kB, Nat.reduceLT, ↓reduceIte, kC, Nat.reduceEqDiff, aBuiltin, abinG, guardFree, abin, aInt, aUn, aNilCheck, retQ, retQ1, aresults, aresultL, aresult, mkF, undefV, reduceCtorEq, kD, kE, kF, kG, kH, kI, kJ, kK, aExtract, calleeOf, kD1, Nat.reduceBEq, HoldsAll, kL, kM, kN, kO, adv, fl1, fl2, aadd, lwv, ixT _ v hvn, ldT hq cs v oT hcl hvn, dl, bne, upv]
    by_cases c : (getL ls v).2.1 ≥ 0
    · obtain ⟨u, hu⟩ := Int.eq_ofNat_of_zero_le c
      have hui : u < i := by have := (SS.upr v hvn).2; omega
      have hup : up v = some u := by rw [← SS.ups v hvn, hu, upI_nat]
      have d : decide ((u : Int) ≥ 0) = true := decide_eq_true (by omega)
      have st := aStore1 (P := Try.prog) (t := 3) (x := .int .i64 (min (cs.getD u 0) (cs.getD v 0))) Try.underlying3 (by kernel_rfl) oT (off := u) (by simp [I64]; omega) rfl rfl
      rw [I64_set] at st
      simp only [hu, d, kS1, bLookup, bMapSet, wantA, isCall, stepOp, evalO, evalL, evalP, evalM, putDst, flat, kA, kB, Nat.reduceLT, ↓reduceIte, kC, Nat.reduceEqDiff, aBuiltin, abinG, guardFree, abin, aInt, aUn, aNilCheck, retQ, retQ1, aresults, aresultL, aresult, mkF, undefV, reduceCtorEq, kD, kE, kF, kG, kH, kI, kJ, kK, aExtract, calleeOf]
      refine KDraw.intro mixed (.fl 0 (.fl 1 (.fl 2 (.fl 3 (.fl 4 (.fl 5 (.fl 6 (.fl 7 (.fl 8 (.fl 9 (.fl 10 (.fl 11 (.ch 12 [0, 1, 2, 3, 4, 5, 6, 7, 8, 9, 10, 11] (.done) .no))))))))))))) (by kernel_rfl) ?_
      simp only [kS1, bLookup, bMapSet, wantA, isCall, stepOp, evalO, evalL, evalP, evalM, putDst, flat, kA, kB, Nat.reduceLT, ↓reduceIte, kC, Nat.reduceEqDiff, aBuiltin, abinG, guardFree, abin, aInt, aUn, aNilCheck, retQ, retQ1, aresults, aresultL, aresult, mkF, undefV, reduceCtorEq, kD, kE, kF, kG, kH, kI, kJ, kK, aExtract, calleeOf, kD1, Nat.reduceBEq, HoldsAll, kL, kM, kN, kO, ixT _ v hvn, ixT _ u hui, ldT hq cs v oT hcl hvn, ldT hq cs u oT hcl hui, amin_i, st, wk]
      refine loop_again k [(3, lv), (5, .slice (some ⟨T, 0, none⟩) i i), (6, .map (some M)), (15, .int .i64 k)] (by omega) (by simp only [hasAll, kS1, bLookup, bMapSet, wantA, isCall, stepOp, evalO, evalL, evalP, evalM, putDst, flat, kA, kB, Nat.reduceLT, ↓reduceIte, kC, Nat.reduceEqDiff, aBuiltin, abinG, guardFree, abin, aInt, aUn, aNilCheck, retQ, retQ1, aresults, aresultL, aresult, mkF, undefV, reduceCtorEq, kD, kE, kF, kG, kH, kI, kJ, kK, aExtract, calleeOf]; simp)
        ⟨_, by omega, rfl, AHeap.own_put_eq _ _ _, by simpa using hcl, ?_, by rw [AHeap.own_put_ne _ _ _ _ (Ne.symm neTM)]; exact oM, leq.put _ nT⟩
      rw [hdk]
      refine (key _ fun w hw => ?_).1
      rw [getD_set, hup]
      by_cases e : u = w
      · subst e; rw [if_pos ⟨rfl, by omega⟩, if_pos rfl]
      · rw [if_neg (fun k => e k.1), if_neg (fun k => e (by injection k))]
    · have d : decide ((getL ls v).2.1 ≥ 0) = false := decide_eq_false c
      have hup : up v = none := by rw [← SS.ups v hvn]; unfold upI; rw [if_neg c]
      simp only [d, kS1, bLookup, bMapSet, wantA, isCall, stepOp, evalO, evalL, evalP, evalM, putDst, flat, kA, kB, Nat.reduceLT, ↓reduceIte, kC, Nat.reduceEqDiff, aBuiltin, abinG, guardFree, abin, aInt, aUn, aNilCheck, retQ, retQ1, aresults, aresultL, aresult, mkF, undefV, reduceCtorEq, kD, kE, kF, kG, kH, kI, kJ, kK, aExtract, calleeOf, wk]
      refine loop_again k [(3, lv), (5, .slice (some ⟨T, 0, none⟩) i i), (6, .map (some M)), (15, .int .i64 k)] (by omega) (by simp only [hasAll, kS1, bLookup, bMapSet, wantA, isCall, stepOp, evalO, evalL, evalP, evalM, putDst, flat, kA, kB, Nat.reduceLT, ↓reduceIte, kC, Nat.reduceEqDiff, aBuiltin, abinG, guardFree, abin, aInt, aUn, aNilCheck, retQ, retQ1, aresults, aresultL, aresult, mkF, undefV, reduceCtorEq, kD, kE, kF, kG, kH, kI, kJ, kK, aExtract, calleeOf]; simp)
        ⟨cs, by omega, rfl, oT, hcl, ?_, oM, leq⟩
      rw [hdk]
      refine (key _ fun w hw => ?_).1
      rw [hup, if_neg (by simp)]
  · simp only [kS1, bLookup, bMapSet, wantA, isCall, stepOp, evalO, evalL, evalP, evalM, putDst, flat, kA, kB, Nat.reduceLT, ↓reduceIte, kC, Nat.reduceEqDiff, aBuiltin, abinG, guardFree, abin, aInt, aUn, aNilCheck, retQ, retQ1, aresults, aresultL, aresult, mkF, undefV, reduceCtorEq, kD, kE, kF, kG, kH, kI, kJ, kK, aExtract, calleeOf]
    refine KCall.intro (by simp only [kS1, bLookup, bMapSet, wantA, isCall, stepOp, evalO, evalL, evalP, evalM, putDst, flat, kA, kB, Nat.reduceLT, ↓reduceIte, kC, Nat.reduceEqDiff, aBuiltin, abinG, guardFree, abin, aInt, aUn, aNilCheck, retQ, retQ1, aresults, aresultL, aresult, mkF, undefV, reduceCtorEq, kD, kE, kF, kG, kH, kI, kJ, kK, aExtract, calleeOf] <;> rfl) ⟨Try.func15, rfl, by decide⟩ (awake_any W0 hq) ?_
    rintro x h9 w9 ⟨rfl, l9⟩
    simp only [kS1, bLookup, bMapSet, wantA, isCall, stepOp, evalO, evalL, evalP, evalM, putDst, flat, kA, kB, Nat.reduceLT, ↓reduceIte, kC, Nat.reduceEqDiff, aBuiltin, abinG, guardFree, abin, aInt, aUn, aNilCheck, retQ, retQ1, aresults, aresultL, aresult, mkF, undefV, reduceCtorEq, kD, kE, kF, kG, kH, kI, kJ, kK, aExtract, calleeOf]
end Go.Fw
