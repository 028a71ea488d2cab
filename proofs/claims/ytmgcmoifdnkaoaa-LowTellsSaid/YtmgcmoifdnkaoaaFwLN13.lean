/- One of the texts of the layer and the walks: it proves what its theorems say of the functions of the seat, with no condition beyond theirs. -/
import Derived.Test.YtmgcmoifdnkaoaaFwLN11
import Derived.Test.YtmgcmoifdnkaoaaFwLM10
import Derived.Test.YtmgcmoifdnkaoaaFwLN7
set_option linter.unusedSimpArgs false
set_option linter.unusedVariables false
namespace Go.Fw
open Go.Proofs
attribute [local irreducible] KO4 KO3 KO2 KO1 KO KN KX KE VK KCond KDraw KCall KLoop
set_option maxHeartbeats 16000000
set_option maxRecDepth 10000
theorem LR.nil (h : AHeap) : LR h (.slice none 0 0) [] := CS.nil 3 h
def GRC (h : AHeap) (v : Value) (G : GM) : Prop := ∃ ev, v = .agg #[.int .i64 G.n, ev] ∧ PR h ev G.es ∧ Ct ev G.es.length
theorem blocksM_len (n : Nat) (es : List Pr) : (blocksM n es).length ≤ es.length ∧ ∀ p ∈ blocksM n es, p.length ≤ es.length := by
  obtain ⟨_, _, h3, h4, _⟩ := grpsM_ok (fun p _ => keyE n es p) es [] es.length
  refine ⟨by rw [blocksM, List.length_map]; exact h4, fun p hp => ?_⟩
  rw [blocksM, List.mem_map] at hp
  obtain ⟨g, hg, rfl⟩ := hp
  exact h3 g hg
open Classical in
theorem pickE {R : Prop} {E : Int} (h0 : R → E = 0) (h1 : ¬ R → E = 20) {α : Type} {x : Value} {Q : Value → List α → Prop} {L : List α} (hn : Q (.slice none 0 0) [])
    (h : (¬ R ∧ x = .tuple #[.slice none 0 0, .int .i64 20]) ∨ (R ∧ ∃ v, x = .tuple #[v, .int .i64 0] ∧ Q v L)) : ∃ v, x = .tuple #[v, .int .i64 E] ∧ Q v (if R then L else []) := by
  rcases h with ⟨r, rfl⟩ | ⟨r, v, rfl, q⟩
  · exact ⟨_, by rw [h1 r], by rw [if_neg r]; exact hn⟩
  · exact ⟨v, by rw [h0 r], by rw [if_pos r]; exact q⟩
open Classical in
theorem LowTells_law (W0 : Base) (v : Value) (G : GM) (h : AHeap) (hgc : GRC h v G) : AC Try.prog W0 3 [v] h fun x h' => x = .bool true ∧ Le h h' := by
  obtain ⟨gn, es⟩ := G
  obtain ⟨ev, rfl, hp, ct⟩ := hgc
  have hg0 : GR h (.agg #[.int .i64 gn, ev]) ⟨gn, es⟩ := ⟨ev, rfl, hp⟩
  refine AC.vc (fn := Try.f3) (c := _) ⟨Try.func3, rfl, by decide⟩ Try.ntmps3 Try.results3 (by simp) fun hwf => ?_
  simp only [argFrame, argFrom, Nat.reduceAdd]
  obtain ⟨h1, b1, le1, wf1, -, lA⟩ := boxG (n := gn) hwf hp
  have lA1 := lA h1 (Le.refl _)
  generalize h.next = B at *
  have ll := fun g => hp.len g
  by_cases c1 : gn > 16
  · have d1 : decide (gn > 16) = true := decide_eq_true c1
    simp only [kS1, bLookup, bMapSet, wantA, isCall, stepOp, evalO, evalL, evalP, evalM, putDst, flat, kA, kB, Nat.reduceLT, ↓reduceIte, kC, Nat.reduceEqDiff, aBuiltin, abinG, guardFree, abin, aInt, aUn, aNilCheck, retQ, retQ1, aresults, aresultL, aresult, mkF, undefV, reduceCtorEq, kD, kE, kF, kG, kH, kI, kJ, kK, aExtract, calleeOf, b1, fg0, fg1, aadd, Nat.zero_add, lA1.2.1, d1]
    refine KCall.intro (by simp only [kS1, bLookup, bMapSet, wantA, isCall, stepOp, evalO, evalL, evalP, evalM, putDst, flat, kA, kB, Nat.reduceLT, ↓reduceIte, kC, Nat.reduceEqDiff, aBuiltin, abinG, guardFree, abin, aInt, aUn, aNilCheck, retQ, retQ1, aresults, aresultL, aresult, mkF, undefV, reduceCtorEq, kD, kE, kF, kG, kH, kI, kJ, kK, aExtract, calleeOf] <;> rfl) ⟨Try.func15, rfl, by decide⟩ (awake_any W0 h1) ?_
    rintro x h2 w2 ⟨rfl, l2⟩
    simp only [kS1, bLookup, bMapSet, wantA, isCall, stepOp, evalO, evalL, evalP, evalM, putDst, flat, kA, kB, Nat.reduceLT, ↓reduceIte, kC, Nat.reduceEqDiff, aBuiltin, abinG, guardFree, abin, aInt, aUn, aNilCheck, retQ, retQ1, aresults, aresultL, aresult, mkF, undefV, reduceCtorEq, kD, kE, kF, kG, kH, kI, kJ, kK, aExtract, calleeOf]
    exact ⟨trivial, le1.trans l2⟩
  have d1 : decide (gn > 16) = false := decide_eq_false c1
  by_cases c2 : (es.length : Int) > 60
  · have d2 : decide ((es.length : Int) > 60) = true := decide_eq_true c2
    simp only [kS1, bLookup, bMapSet, wantA, isCall, stepOp, evalO, evalL, evalP, evalM, putDst, flat, kA, kB, Nat.reduceLT, ↓reduceIte, kC, Nat.reduceEqDiff, aBuiltin, abinG, guardFree, abin, aInt, aUn, aNilCheck, retQ, retQ1, aresults, aresultL, aresult, mkF, undefV, reduceCtorEq, kD, kE, kF, kG, kH, kI, kJ, kK, aExtract, calleeOf, b1, fg0, fg1, aadd, Nat.zero_add, lA1.2.1, lA1.2.2, ll, d1, d2]
    refine KCall.intro (by simp only [kS1, bLookup, bMapSet, wantA, isCall, stepOp, evalO, evalL, evalP, evalM, putDst, flat, kA, kB, Nat.reduceLT, ↓reduceIte, kC, Nat.reduceEqDiff, aBuiltin, abinG, guardFree, abin, aInt, aUn, aNilCheck, retQ, retQ1, aresults, aresultL, aresult, mkF, undefV, reduceCtorEq, kD, kE, kF, kG, kH, kI, kJ, kK, aExtract, calleeOf] <;> rfl) ⟨Try.func15, rfl, by decide⟩ (awake_any W0 h1) ?_
    rintro x h2 w2 ⟨rfl, l2⟩
    simp only [kS1, bLookup, bMapSet, wantA, isCall, stepOp, evalO, evalL, evalP, evalM, putDst, flat, kA, kB, Nat.reduceLT, ↓reduceIte, kC, Nat.reduceEqDiff, aBuiltin, abinG, guardFree, abin, aInt, aUn, aNilCheck, retQ, retQ1, aresults, aresultL, aresult, mkF, undefV, reduceCtorEq, kD, kE, kF, kG, kH, kI, kJ, kK, aExtract, calleeOf]
    exact ⟨trivial, le1.trans l2⟩
  have d2 : decide ((es.length : Int) > 60) = false := decide_eq_false c2
  have hes : es.length ≤ 60 := by omega
  simp only [kS1, bLookup, bMapSet, wantA, isCall, stepOp, evalO, evalL, evalP, evalM, putDst, flat, kA, kB, Nat.reduceLT, ↓reduceIte, kC, Nat.reduceEqDiff, aBuiltin, abinG, guardFree, abin, aInt, aUn, aNilCheck, retQ, retQ1, aresults, aresultL, aresult, mkF, undefV, reduceCtorEq, kD, kE, kF, kG, kH, kI, kJ, kK, aExtract, calleeOf, b1, fg0, fg1, aadd, Nat.zero_add, lA1.2.1, lA1.2.2, ll, d1, d2]
  have hp1 := hp.le le1
  apply byOne2 (F := fun (fr : AFrame) (h5 : AHeap) => ∃ (X : Nat) (cv : Value), hasAll fr [(1, .pointer (some ⟨B, 0, none⟩)), (3, .pointer (some ⟨X, 0, none⟩))] ∧ Le h1 h5 ∧ WF h5 ∧ PR h5 cv es ∧ ∀ g, Le h5 g → aload Try.prog g 24 ⟨X, 0, none⟩ = some (.agg #[.int .i64 gn, cv]))
  · intro cont
    refine KDraw.intro mixed (.fl 0 (.fl 1 (.fl 2 (.fl 3 (.ch 4 [3] (.fl 5 (.ch 6 [] (.ch 7 [0, 1, 2, 3, 4, 5, 6] (.done) .no) .no)) (.ch 6 [] (.ch 4 [3] (.fl 5 (.ch 7 [0, 1, 2, 3, 4, 5, 6] (.done) .no)) .no) .no)))))) (by kernel_rfl) ?_
    have alX : ∃ g, h1.alloc (.cells [.int .i64 0, .slice none 0 0]) = g ∧ Le h1 g ∧ WF g ∧ g.own h1.next = some (.cells [.int .i64 0, .slice none 0 0]) := alloc_f wf1 _
    obtain ⟨q1, y1, m1, v1, u1⟩ := alX
    have al1 : aAlloc Try.prog h1 24 = some (.pointer (some ⟨h1.next, 0, none⟩), q1) := by rw [alloc24, y1]
    have Q1 := lA q1 m1
    simp only [kJ1, bLookup, bMapSet, wantA, isCall, stepOp, evalO, evalL, evalP, evalM, putDst, flat, kA, kB, Nat.reduceLT, ↓reduceIte, kC, Nat.reduceEqDiff, aBuiltin, abinG, guardFree, abin, aInt, aUn, aNilCheck, retQ, retQ1, aresults, aresultL, aresult, mkF, undefV, reduceCtorEq, kD, kE, kF, kG, kH, kI, kJ, kK, aExtract, calleeOf, kD1, Nat.reduceBEq, HoldsAll, kL, kM, kN, kO, fg0, fg1, aadd, Nat.zero_add, lA1.2.1, lA1.2.2, al1, Q1.2.1, Q1.2.2]
    refine ⟨?_, ?_⟩
    · refine KGCall.intro (by simp only [kS1, bLookup, bMapSet, wantA, isCall, stepOp, evalO, evalL, evalP, evalM, putDst, flat, kA, kB, Nat.reduceLT, ↓reduceIte, kC, Nat.reduceEqDiff, aBuiltin, abinG, guardFree, abin, aInt, aUn, aNilCheck, retQ, retQ1, aresults, aresultL, aresult, mkF, undefV, reduceCtorEq, kD, kE, kF, kG, kH, kI, kJ, kK, aExtract, calleeOf] <;> rfl) ⟨Try.func16, rfl, by decide⟩ (CopyPairs_any W0 ev es h1 hp1 (by omega)) ?_
      rintro cv h2 w2 ⟨gc, l2, -⟩
      have A2 := lA h2 l2
      have bld := build24 (n := gn) gc.pr.sl
      obtain ⟨h3, h4, a3, s3, l4, w4, lG⟩ := newG (n := gn) w2 gc.pr
      have A4 := lA h4 (l2.trans l4)
      have A3 : Le h2 h3 := by
        have := alloc24 h2; rw [a3] at this; injection this with this; injection this with _ this; rw [this]; exact (Le.refl h2).alloc w2 _
      have A3 := lA h3 (l2.trans A3)
      simp only [kJ1, bLookup, bMapSet, wantA, isCall, stepOp, evalO, evalL, evalP, evalM, putDst, flat, kA, kB, Nat.reduceLT, ↓reduceIte, kC, Nat.reduceEqDiff, aBuiltin, abinG, guardFree, abin, aInt, aUn, aNilCheck, retQ, retQ1, aresults, aresultL, aresult, mkF, undefV, reduceCtorEq, kD, kE, kF, kG, kH, kI, kJ, kK, aExtract, calleeOf, kD1, Nat.reduceBEq, HoldsAll, kL, kM, kN, kO, fg0, fg1, aadd, Nat.zero_add, A2.2.1, A2.2.2, bld, a3, s3, A3.2.1, A3.2.2, A4.2.1, A4.2.2]
      refine KN.gen2 fun fr' h' x y => cont fr' h' ?_
      subst x y
      exact ⟨_, cv, (by simp only [hasAll, kS1, bLookup, bMapSet, wantA, isCall, stepOp, evalO, evalL, evalP, evalM, putDst, flat, kA, kB, Nat.reduceLT, ↓reduceIte, kC, Nat.reduceEqDiff, aBuiltin, abinG, guardFree, abin, aInt, aUn, aNilCheck, retQ, retQ1, aresults, aresultL, aresult, mkF, undefV, reduceCtorEq, kD, kE, kF, kG, kH, kI, kJ, kK, aExtract, calleeOf]; simp), l2.trans l4, w4, gc.pr.le l4, fun g l => (lG g l).1⟩
    · refine KGCall.intro (by simp only [kS1, bLookup, bMapSet, wantA, isCall, stepOp, evalO, evalL, evalP, evalM, putDst, flat, kA, kB, Nat.reduceLT, ↓reduceIte, kC, Nat.reduceEqDiff, aBuiltin, abinG, guardFree, abin, aInt, aUn, aNilCheck, retQ, retQ1, aresults, aresultL, aresult, mkF, undefV, reduceCtorEq, kD, kE, kF, kG, kH, kI, kJ, kK, aExtract, calleeOf] <;> rfl) ⟨Try.func16, rfl, by decide⟩ (CopyPairs_any W0 ev es q1 (hp1.le m1) (by omega)) ?_
      rintro cv h2 w2 ⟨gc, l2, ac⟩
      have A2 := lA h2 (m1.trans l2)
      have bld := build24 (n := gn) gc.pr.sl
      have nX : blk cv ≠ some h1.next := fun e => by have := ac _ e; rw [u1] at this; cases this
      have oX := l2.own _ _ u1
      have n1 : h1.own h1.next = none := (Le.refl h1).next wf1 (Nat.le_refl _)
      have one := gc.pr.sl.one
      have ts24 : tsize Try.prog 24 = 2 := by kernel_rfl
      have hc : (Value.agg #[.int .i64 gn, cv]).cells = #[.int .i64 gn, cv] := rfl
      have hz0 : (Value.int IntKind.i64 gn).oneCell' = true := rfl
      have st : aStore Try.prog h2 24 (.pointer (some ⟨h1.next, 0, none⟩)) (.agg #[.int .i64 gn, cv]) = some (h2.put h1.next (.cells [.int .i64 gn, cv])) := by
        simp [aStore, oX, hc, ts24, putCells, Try.underlying24, one, hz0]
      have ho : (h2.put h1.next (.cells [.int .i64 gn, cv])).own h1.next = some (.cells [.int .i64 gn, cv]) := AHeap.own_put_eq _ _ _
      have l4 : Le h1 (h2.put h1.next (.cells [.int .i64 gn, cv])) := (m1.trans l2).put _ n1
      have A4 := lA _ l4
      simp only [kJ1, bLookup, bMapSet, wantA, isCall, stepOp, evalO, evalL, evalP, evalM, putDst, flat, kA, kB, Nat.reduceLT, ↓reduceIte, kC, Nat.reduceEqDiff, aBuiltin, abinG, guardFree, abin, aInt, aUn, aNilCheck, retQ, retQ1, aresults, aresultL, aresult, mkF, undefV, reduceCtorEq, kD, kE, kF, kG, kH, kI, kJ, kK, aExtract, calleeOf, kD1, Nat.reduceBEq, HoldsAll, kL, kM, kN, kO, fg0, fg1, aadd, Nat.zero_add, A2.2.1, A2.2.2, bld, st, A4.2.1, A4.2.2]
      refine KN.gen2 fun fr' h' x y => cont fr' h' ?_
      subst x y
      exact ⟨h1.next, cv, (by simp only [hasAll, kS1, bLookup, bMapSet, wantA, isCall, stepOp, evalO, evalL, evalP, evalM, putDst, flat, kA, kB, Nat.reduceLT, ↓reduceIte, kC, Nat.reduceEqDiff, aBuiltin, abinG, guardFree, abin, aInt, aUn, aNilCheck, retQ, retQ1, aresults, aresultL, aresult, mkF, undefV, reduceCtorEq, kD, kE, kF, kG, kH, kI, kJ, kK, aExtract, calleeOf]; simp), l4, w2.put _ (w2.lt oX), GP.pr (GS.put gc _ nX), fun g l => by rw [aload_own Try.underlying24 rfl ts24 (l.own _ _ ho) (by simp)]; rfl⟩
  rintro fr h5 ⟨X, cv, hfr, le5, wf5, pc, lX⟩
  simp only [hasAll] at hfr
  obtain ⟨f1, f3, -⟩ := hfr
  obtain ⟨E, E0, E1⟩ : ∃ E : Int, (RightG ⟨gn, es⟩ → E = 0) ∧ (¬ RightG ⟨gn, es⟩ → E = 20) := by
    by_cases r : RightG ⟨gn, es⟩
    · exact ⟨0, fun _ => rfl, fun k => absurd r k⟩
    · exact ⟨20, fun k => absurd k r, fun _ => rfl⟩
  have dee : decide (E = E) = true := by simp
  have gX : ∀ g, Le h5 g → GR g (.agg #[.int .i64 gn, cv]) ⟨gn, es⟩ := fun g l => ⟨cv, rfl, pc.le l⟩
  have gA : ∀ g, Le h5 g → GR g (.agg #[.int .i64 gn, ev]) ⟨gn, es⟩ := fun g l => hg0.le (le1.trans (le5.trans l))
  have n1 : (if RightG ⟨gn, es⟩ then (lowM gn.toNat es).1 else []).length ≤ 100000 := by
    split
    · rename_i r; have h0 : 0 ≤ gn := r.n0
      obtain ⟨n, rfl⟩ := Int.eq_ofNat_of_zero_le h0
      have := (lowM_R r.inR).len
      simp only [Int.toNat_natCast]; omega
    · simp
  have n2 : (if RightG ⟨gn, es⟩ then bridgesM gn.toNat es else []).length ≤ 100000 := by
    split
    · rename_i r; have h0 : 0 ≤ gn := r.n0
      obtain ⟨n, rfl⟩ := Int.eq_ofNat_of_zero_le h0
      simp only [Int.toNat_natCast]
      rw [bridges_eq r.inR r.asc]
      have := List.length_filter_le (fun p => decide (Br es p)) es
      omega
    · simp
  have n3 : (if RightG ⟨gn, es⟩ then nat64 (cutsM gn.toNat es) else []).length ≤ 100000 := by
    split
    · have := List.length_filter_le (isCut (lowM gn.toNat es).1 (cntM (lowM gn.toNat es).1 (lowM gn.toNat es).2 gn.toNat)) (List.range gn.toNat)
      rw [nat64_length, cutsM]; rw [List.length_range] at this; omega
    · simp
  have n4 : (if RightG ⟨gn, es⟩ then blocksM gn.toNat es else []).length ≤ 100000 ∧ ∀ p ∈ (if RightG ⟨gn, es⟩ then blocksM gn.toNat es else []), p.length ≤ 100000 := by
    split
    · obtain ⟨k1, k2⟩ := blocksM_len gn.toNat es
      exact ⟨by omega, fun p hp => by have := k2 p hp; omega⟩
    · simp
  have L5 := lX h5 (Le.refl _)
  simp only [kS1, bLookup, bMapSet, wantA, isCall, stepOp, evalO, evalL, evalP, evalM, putDst, flat, kA, kB, Nat.reduceLT, ↓reduceIte, kC, Nat.reduceEqDiff, aBuiltin, abinG, guardFree, abin, aInt, aUn, aNilCheck, retQ, retQ1, aresults, aresultL, aresult, mkF, undefV, reduceCtorEq, kD, kE, kF, kG, kH, kI, kJ, kK, aExtract, calleeOf, f3, L5]
  refine KCall.intro (by simp only [kS1, bLookup, bMapSet, wantA, isCall, stepOp, evalO, evalL, evalP, evalM, putDst, flat, kA, kB, Nat.reduceLT, ↓reduceIte, kC, Nat.reduceEqDiff, aBuiltin, abinG, guardFree, abin, aInt, aUn, aNilCheck, retQ, retQ1, aresults, aresultL, aresult, mkF, undefV, reduceCtorEq, kD, kE, kF, kG, kH, kI, kJ, kK, aExtract, calleeOf] <;> rfl) ⟨Try.func17, rfl, by decide⟩ (LowSearch_any W0 _ ⟨gn, es⟩ h5 (gX h5 (Le.refl _))) ?_
  rintro x h6 w6 ⟨l6, hc⟩
  obtain ⟨s1, rfl, q1⟩ := pickE E0 E1 (LR.nil h6) hc
  clear hc
  have A6 := lA h6 (le5.trans l6)
  simp only [kS1, bLookup, bMapSet, wantA, isCall, stepOp, evalO, evalL, evalP, evalM, putDst, flat, kA, kB, Nat.reduceLT, ↓reduceIte, kC, Nat.reduceEqDiff, aBuiltin, abinG, guardFree, abin, aInt, aUn, aNilCheck, retQ, retQ1, aresults, aresultL, aresult, mkF, undefV, reduceCtorEq, kD, kE, kF, kG, kH, kI, kJ, kK, aExtract, calleeOf, f1, A6.1]
  refine KCall.intro (by simp only [kS1, bLookup, bMapSet, wantA, isCall, stepOp, evalO, evalL, evalP, evalM, putDst, flat, kA, kB, Nat.reduceLT, ↓reduceIte, kC, Nat.reduceEqDiff, aBuiltin, abinG, guardFree, abin, aInt, aUn, aNilCheck, retQ, retQ1, aresults, aresultL, aresult, mkF, undefV, reduceCtorEq, kD, kE, kF, kG, kH, kI, kJ, kK, aExtract, calleeOf] <;> rfl) ⟨Try.func18, rfl, by decide⟩ (RSearch_any W0 _ ⟨gn, es⟩ h6 (gA h6 l6)) ?_
  rintro x h7 w7 ⟨l7, hc⟩
  obtain ⟨s2, rfl, q2⟩ := pickE E0 E1 (LR.nil h7) hc
  clear hc
  have le7 := l6.trans l7
  have L7 := lX h7 le7
  simp only [kS1, bLookup, bMapSet, wantA, isCall, stepOp, evalO, evalL, evalP, evalM, putDst, flat, kA, kB, Nat.reduceLT, ↓reduceIte, kC, Nat.reduceEqDiff, aBuiltin, abinG, guardFree, abin, aInt, aUn, aNilCheck, retQ, retQ1, aresults, aresultL, aresult, mkF, undefV, reduceCtorEq, kD, kE, kF, kG, kH, kI, kJ, kK, aExtract, calleeOf, f3, L7]
  refine KCall.intro (by simp only [kS1, bLookup, bMapSet, wantA, isCall, stepOp, evalO, evalL, evalP, evalM, putDst, flat, kA, kB, Nat.reduceLT, ↓reduceIte, kC, Nat.reduceEqDiff, aBuiltin, abinG, guardFree, abin, aInt, aUn, aNilCheck, retQ, retQ1, aresults, aresultL, aresult, mkF, undefV, reduceCtorEq, kD, kE, kF, kG, kH, kI, kJ, kK, aExtract, calleeOf] <;> rfl) ⟨Try.func19, rfl, by decide⟩ (Bridges_any W0 _ ⟨gn, es⟩ h7 (gX h7 le7)) ?_
  rintro x h8 w8 ⟨l8, hc⟩
  obtain ⟨s3, rfl, q3, -⟩ := pickE (Q := fun v L => GP h8 v L ∧ Apart h7 v) E0 E1 ⟨GP.nil h8, fun b hb => by cases hb⟩ hc
  clear hc
  have le8 := le7.trans l8
  have A8 := lA h8 (le5.trans le8)
  simp only [kS1, bLookup, bMapSet, wantA, isCall, stepOp, evalO, evalL, evalP, evalM, putDst, flat, kA, kB, Nat.reduceLT, ↓reduceIte, kC, Nat.reduceEqDiff, aBuiltin, abinG, guardFree, abin, aInt, aUn, aNilCheck, retQ, retQ1, aresults, aresultL, aresult, mkF, undefV, reduceCtorEq, kD, kE, kF, kG, kH, kI, kJ, kK, aExtract, calleeOf, f1, A8.1]
  refine KCall.intro (by simp only [kS1, bLookup, bMapSet, wantA, isCall, stepOp, evalO, evalL, evalP, evalM, putDst, flat, kA, kB, Nat.reduceLT, ↓reduceIte, kC, Nat.reduceEqDiff, aBuiltin, abinG, guardFree, abin, aInt, aUn, aNilCheck, retQ, retQ1, aresults, aresultL, aresult, mkF, undefV, reduceCtorEq, kD, kE, kF, kG, kH, kI, kJ, kK, aExtract, calleeOf] <;> rfl) ⟨Try.func20, rfl, by decide⟩ (RBridges_any W0 _ ⟨gn, es⟩ h8 (gA h8 le8) (fun e he => by injection he with he; injection he with he; simp at he; subst he; exact ct)) ?_
  rintro x h9 w9 ⟨l9, hc⟩
  obtain ⟨s4, rfl, q4, -⟩ := pickE (Q := fun v L => GP h9 v L ∧ Apart h8 v) E0 E1 ⟨GP.nil h9, fun b hb => by cases hb⟩ hc
  clear hc
  simp only [Int.toNat_natCast] at q1 q2 q3 q4
  have le9 := le8.trans l9
  simp only [kS1, bLookup, bMapSet, wantA, isCall, stepOp, evalO, evalL, evalP, evalM, putDst, flat, kA, kB, Nat.reduceLT, ↓reduceIte, kC, Nat.reduceEqDiff, aBuiltin, abinG, guardFree, abin, aInt, aUn, aNilCheck, retQ, retQ1, aresults, aresultL, aresult, mkF, undefV, reduceCtorEq, kD, kE, kF, kG, kH, kI, kJ, kK, aExtract, calleeOf, bne, dee]
  refine KCall.intro (by simp only [kS1, bLookup, bMapSet, wantA, isCall, stepOp, evalO, evalL, evalP, evalM, putDst, flat, kA, kB, Nat.reduceLT, ↓reduceIte, kC, Nat.reduceEqDiff, aBuiltin, abinG, guardFree, abin, aInt, aUn, aNilCheck, retQ, retQ1, aresults, aresultL, aresult, mkF, undefV, reduceCtorEq, kD, kE, kF, kG, kH, kI, kJ, kK, aExtract, calleeOf] <;> rfl) ⟨Try.func21, rfl, by decide⟩ (SameLow_any W0 s1 s2 _ _ h9 (q1.le (l7.trans (l8.trans l9))) (q2.le (l8.trans l9)) n1) ?_
  rintro x h10 w10 ⟨hx, rfl⟩
  obtain rfl : x = .bool true := by rw [hx]; simp
  simp only [kS1, bLookup, bMapSet, wantA, isCall, stepOp, evalO, evalL, evalP, evalM, putDst, flat, kA, kB, Nat.reduceLT, ↓reduceIte, kC, Nat.reduceEqDiff, aBuiltin, abinG, guardFree, abin, aInt, aUn, aNilCheck, retQ, retQ1, aresults, aresultL, aresult, mkF, undefV, reduceCtorEq, kD, kE, kF, kG, kH, kI, kJ, kK, aExtract, calleeOf]
  refine KCall.intro (by simp only [kS1, bLookup, bMapSet, wantA, isCall, stepOp, evalO, evalL, evalP, evalM, putDst, flat, kA, kB, Nat.reduceLT, ↓reduceIte, kC, Nat.reduceEqDiff, aBuiltin, abinG, guardFree, abin, aInt, aUn, aNilCheck, retQ, retQ1, aresults, aresultL, aresult, mkF, undefV, reduceCtorEq, kD, kE, kF, kG, kH, kI, kJ, kK, aExtract, calleeOf] <;> rfl) ⟨Try.func22, rfl, by decide⟩ (SamePairs_any W0 s3 s4 _ _ h10 (q3.pr.le l9) q4.pr n2) ?_
  rintro x h11 w11 ⟨hx, rfl⟩
  obtain rfl : x = .bool true := by rw [hx]; simp
  have L11 := lX h11 le9
  simp only [kS1, bLookup, bMapSet, wantA, isCall, stepOp, evalO, evalL, evalP, evalM, putDst, flat, kA, kB, Nat.reduceLT, ↓reduceIte, kC, Nat.reduceEqDiff, aBuiltin, abinG, guardFree, abin, aInt, aUn, aNilCheck, retQ, retQ1, aresults, aresultL, aresult, mkF, undefV, reduceCtorEq, kD, kE, kF, kG, kH, kI, kJ, kK, aExtract, calleeOf, f3, L11]
  refine KCall.intro (by simp only [kS1, bLookup, bMapSet, wantA, isCall, stepOp, evalO, evalL, evalP, evalM, putDst, flat, kA, kB, Nat.reduceLT, ↓reduceIte, kC, Nat.reduceEqDiff, aBuiltin, abinG, guardFree, abin, aInt, aUn, aNilCheck, retQ, retQ1, aresults, aresultL, aresult, mkF, undefV, reduceCtorEq, kD, kE, kF, kG, kH, kI, kJ, kK, aExtract, calleeOf] <;> rfl) ⟨Try.func23, rfl, by decide⟩ (Cuts_any W0 _ ⟨gn, es⟩ h11 (gX h11 le9)) ?_
  rintro x h12 w12 ⟨l12, hc⟩
  obtain ⟨s5, rfl, q5, -⟩ := pickE (Q := fun v L => GI h12 v L ∧ Apart h11 v) E0 E1 ⟨GI.nil h12, fun b hb => by cases hb⟩ hc
  clear hc
  have le12 := le9.trans l12
  have A12 := lA h12 (le5.trans le12)
  simp only [kS1, bLookup, bMapSet, wantA, isCall, stepOp, evalO, evalL, evalP, evalM, putDst, flat, kA, kB, Nat.reduceLT, ↓reduceIte, kC, Nat.reduceEqDiff, aBuiltin, abinG, guardFree, abin, aInt, aUn, aNilCheck, retQ, retQ1, aresults, aresultL, aresult, mkF, undefV, reduceCtorEq, kD, kE, kF, kG, kH, kI, kJ, kK, aExtract, calleeOf, f1, A12.1]
  refine KCall.intro (by simp only [kS1, bLookup, bMapSet, wantA, isCall, stepOp, evalO, evalL, evalP, evalM, putDst, flat, kA, kB, Nat.reduceLT, ↓reduceIte, kC, Nat.reduceEqDiff, aBuiltin, abinG, guardFree, abin, aInt, aUn, aNilCheck, retQ, retQ1, aresults, aresultL, aresult, mkF, undefV, reduceCtorEq, kD, kE, kF, kG, kH, kI, kJ, kK, aExtract, calleeOf] <;> rfl) ⟨Try.func24, rfl, by decide⟩ (RCuts_any W0 _ ⟨gn, es⟩ h12 (gA h12 le12)) ?_
  rintro x h13 w13 ⟨l13, hc⟩
  obtain ⟨s6, rfl, q6, -⟩ := pickE (Q := fun v L => GI h13 v L ∧ Apart h12 v) E0 E1 ⟨GI.nil h13, fun b hb => by cases hb⟩ hc
  clear hc
  have le13 := le12.trans l13
  have L13 := lX h13 le13
  simp only [kS1, bLookup, bMapSet, wantA, isCall, stepOp, evalO, evalL, evalP, evalM, putDst, flat, kA, kB, Nat.reduceLT, ↓reduceIte, kC, Nat.reduceEqDiff, aBuiltin, abinG, guardFree, abin, aInt, aUn, aNilCheck, retQ, retQ1, aresults, aresultL, aresult, mkF, undefV, reduceCtorEq, kD, kE, kF, kG, kH, kI, kJ, kK, aExtract, calleeOf, f3, L13]
  refine KCall.intro (by simp only [kS1, bLookup, bMapSet, wantA, isCall, stepOp, evalO, evalL, evalP, evalM, putDst, flat, kA, kB, Nat.reduceLT, ↓reduceIte, kC, Nat.reduceEqDiff, aBuiltin, abinG, guardFree, abin, aInt, aUn, aNilCheck, retQ, retQ1, aresults, aresultL, aresult, mkF, undefV, reduceCtorEq, kD, kE, kF, kG, kH, kI, kJ, kK, aExtract, calleeOf] <;> rfl) ⟨Try.func25, rfl, by decide⟩ (Blocks_any W0 _ ⟨gn, es⟩ h13 (gX h13 le13)) ?_
  rintro x h14 w14 ⟨l14, hc⟩
  obtain ⟨s7, rfl, q7⟩ := pickE (Q := fun v L => RL PR h14 v L) E0 E1 RL.nil hc
  clear hc
  have le14 := le13.trans l14
  have A14 := lA h14 (le5.trans le14)
  simp only [kS1, bLookup, bMapSet, wantA, isCall, stepOp, evalO, evalL, evalP, evalM, putDst, flat, kA, kB, Nat.reduceLT, ↓reduceIte, kC, Nat.reduceEqDiff, aBuiltin, abinG, guardFree, abin, aInt, aUn, aNilCheck, retQ, retQ1, aresults, aresultL, aresult, mkF, undefV, reduceCtorEq, kD, kE, kF, kG, kH, kI, kJ, kK, aExtract, calleeOf, f1, A14.1]
  refine KCall.intro (by simp only [kS1, bLookup, bMapSet, wantA, isCall, stepOp, evalO, evalL, evalP, evalM, putDst, flat, kA, kB, Nat.reduceLT, ↓reduceIte, kC, Nat.reduceEqDiff, aBuiltin, abinG, guardFree, abin, aInt, aUn, aNilCheck, retQ, retQ1, aresults, aresultL, aresult, mkF, undefV, reduceCtorEq, kD, kE, kF, kG, kH, kI, kJ, kK, aExtract, calleeOf] <;> rfl) ⟨Try.func26, rfl, by decide⟩ (RBlocks_any W0 _ ⟨gn, es⟩ h14 (gA h14 le14)) ?_
  rintro x h15 w15 ⟨l15, hc⟩
  obtain ⟨s8, rfl, q8⟩ := pickE (Q := fun v L => RL PR h15 v L) E0 E1 RL.nil hc
  clear hc
  have le15 := le14.trans l15
  simp only [Int.toNat_natCast] at q5 q6 q7 q8
  simp only [kS1, bLookup, bMapSet, wantA, isCall, stepOp, evalO, evalL, evalP, evalM, putDst, flat, kA, kB, Nat.reduceLT, ↓reduceIte, kC, Nat.reduceEqDiff, aBuiltin, abinG, guardFree, abin, aInt, aUn, aNilCheck, retQ, retQ1, aresults, aresultL, aresult, mkF, undefV, reduceCtorEq, kD, kE, kF, kG, kH, kI, kJ, kK, aExtract, calleeOf, dee]
  refine KCall.intro (by simp only [kS1, bLookup, bMapSet, wantA, isCall, stepOp, evalO, evalL, evalP, evalM, putDst, flat, kA, kB, Nat.reduceLT, ↓reduceIte, kC, Nat.reduceEqDiff, aBuiltin, abinG, guardFree, abin, aInt, aUn, aNilCheck, retQ, retQ1, aresults, aresultL, aresult, mkF, undefV, reduceCtorEq, kD, kE, kF, kG, kH, kI, kJ, kK, aExtract, calleeOf] <;> rfl) ⟨Try.func27, rfl, by decide⟩ (SameInts_any W0 s5 s6 _ _ h15 (q5.le (l13.trans (l14.trans l15))).rl (q6.le (l14.trans l15)).rl n3) ?_
  rintro x h16 w16 ⟨hx, rfl⟩
  obtain rfl : x = .bool true := by rw [hx]; simp
  simp only [kS1, bLookup, bMapSet, wantA, isCall, stepOp, evalO, evalL, evalP, evalM, putDst, flat, kA, kB, Nat.reduceLT, ↓reduceIte, kC, Nat.reduceEqDiff, aBuiltin, abinG, guardFree, abin, aInt, aUn, aNilCheck, retQ, retQ1, aresults, aresultL, aresult, mkF, undefV, reduceCtorEq, kD, kE, kF, kG, kH, kI, kJ, kK, aExtract, calleeOf]
  refine KCall.intro (by simp only [kS1, bLookup, bMapSet, wantA, isCall, stepOp, evalO, evalL, evalP, evalM, putDst, flat, kA, kB, Nat.reduceLT, ↓reduceIte, kC, Nat.reduceEqDiff, aBuiltin, abinG, guardFree, abin, aInt, aUn, aNilCheck, retQ, retQ1, aresults, aresultL, aresult, mkF, undefV, reduceCtorEq, kD, kE, kF, kG, kH, kI, kJ, kK, aExtract, calleeOf] <;> rfl) ⟨Try.func28, rfl, by decide⟩ (SamePairLists_any W0 s7 s8 _ _ h16 (q7.le Stays.PR l15) q8 n4.1 n4.2) ?_
  rintro x h17 w17 ⟨hx, rfl⟩
  obtain rfl : x = .bool true := by rw [hx]; simp
  have L17 := lX h17 le15
  have A17 := lA h17 (le5.trans le15)
  simp only [kS1, bLookup, bMapSet, wantA, isCall, stepOp, evalO, evalL, evalP, evalM, putDst, flat, kA, kB, Nat.reduceLT, ↓reduceIte, kC, Nat.reduceEqDiff, aBuiltin, abinG, guardFree, abin, aInt, aUn, aNilCheck, retQ, retQ1, aresults, aresultL, aresult, mkF, undefV, reduceCtorEq, kD, kE, kF, kG, kH, kI, kJ, kK, aExtract, calleeOf, f3, f1, L17, A17.1]
  refine KCall.intro (by simp only [kS1, bLookup, bMapSet, wantA, isCall, stepOp, evalO, evalL, evalP, evalM, putDst, flat, kA, kB, Nat.reduceLT, ↓reduceIte, kC, Nat.reduceEqDiff, aBuiltin, abinG, guardFree, abin, aInt, aUn, aNilCheck, retQ, retQ1, aresults, aresultL, aresult, mkF, undefV, reduceCtorEq, kD, kE, kF, kG, kH, kI, kJ, kK, aExtract, calleeOf] <;> rfl) ⟨Try.func29, rfl, by decide⟩ (SameGraph_any W0 _ _ ⟨gn, es⟩ ⟨gn, es⟩ h17 (gX h17 le15) (gA h17 le15) (by simp; omega)) ?_
  rintro x h18 w18 ⟨hx, l18⟩
  obtain rfl : x = .bool true := by rw [hx]; simp
  simp only [kS1, bLookup, bMapSet, wantA, isCall, stepOp, evalO, evalL, evalP, evalM, putDst, flat, kA, kB, Nat.reduceLT, ↓reduceIte, kC, Nat.reduceEqDiff, aBuiltin, abinG, guardFree, abin, aInt, aUn, aNilCheck, retQ, retQ1, aresults, aresultL, aresult, mkF, undefV, reduceCtorEq, kD, kE, kF, kG, kH, kI, kJ, kK, aExtract, calleeOf]
  refine KCall.intro (by simp only [kS1, bLookup, bMapSet, wantA, isCall, stepOp, evalO, evalL, evalP, evalM, putDst, flat, kA, kB, Nat.reduceLT, ↓reduceIte, kC, Nat.reduceEqDiff, aBuiltin, abinG, guardFree, abin, aInt, aUn, aNilCheck, retQ, retQ1, aresults, aresultL, aresult, mkF, undefV, reduceCtorEq, kD, kE, kF, kG, kH, kI, kJ, kK, aExtract, calleeOf] <;> rfl) ⟨Try.func15, rfl, by decide⟩ (awake_any W0 h18) ?_
  rintro x h19 w19 ⟨rfl, l19⟩
  simp only [kS1, bLookup, bMapSet, wantA, isCall, stepOp, evalO, evalL, evalP, evalM, putDst, flat, kA, kB, Nat.reduceLT, ↓reduceIte, kC, Nat.reduceEqDiff, aBuiltin, abinG, guardFree, abin, aInt, aUn, aNilCheck, retQ, retQ1, aresults, aresultL, aresult, mkF, undefV, reduceCtorEq, kD, kE, kF, kG, kH, kI, kJ, kK, aExtract, calleeOf]
  exact ⟨trivial, (le1.trans (le5.trans le15)).trans (l18.trans l19)⟩
end Go.Fw
