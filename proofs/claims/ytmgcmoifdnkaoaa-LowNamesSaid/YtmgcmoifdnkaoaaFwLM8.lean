/- One of the texts of the layer and the walks: it proves what its theorems say of the functions of the seat, with no condition beyond theirs. -/
import Derived.Test.YtmgcmoifdnkaoaaFwLM6
import Derived.Test.YtmgcmoifdnkaoaaFwLM4
set_option linter.unusedSimpArgs false
set_option linter.unusedVariables false
namespace Go.Fw
open Go.Proofs
attribute [local irreducible] KO4 KO3 KO2 KO1 KO KN KX KE VK KCond KDraw KCall KLoop
set_option maxHeartbeats 16000000
set_option maxRecDepth 10000
attribute [local irreducible] lowM bridgesM cutsM blocksM keyE
theorem inc36_any (W0 : Base) (B : Nat) (v : Int) (p : Pr) (h : AHeap) (o : h.own B = some (.cells [.int .i64 v])) : AC Try.prog W0 36 [valP p, .pointer (some ⟨B, 0, none⟩)] h fun x h' => x = .bool (incB v p) ∧ Le h h' := by
  refine AC.vc (fn := Try.f36) (c := _) ⟨Try.func36, rfl, by decide⟩ Try.ntmps36 Try.results36 (by simp) fun hwf => ?_
  simp only [argFrame, argFrom, Nat.reduceAdd]
  obtain ⟨h1, e1, l1, w1, o1⟩ := alloc_f hwf (cellsP p)
  have ob := l1.own _ _ o
  have lv : aload Try.prog h1 3 ⟨B, 0, none⟩ = some (.int .i64 v) := by rw [aload_one Try.underlying3 rfl ob]; rfl
  simp only [kS1, bLookup, bMapSet, wantA, isCall, stepOp, evalO, evalL, evalP, evalM, putDst, flat, kA, kB, Nat.reduceLT, ↓reduceIte, kC, Nat.reduceEqDiff, aBuiltin, abinG, guardFree, abin, aInt, aUn, aNilCheck, retQ, retQ1, aresults, aresultL, aresult, mkF, undefV, reduceCtorEq, kD, kE, kF, kG, kH, kI, kJ, kK, aExtract, calleeOf, box42, e1]
  generalize h.next = E at *
  by_cases c : p.1 = v
  · have d : decide (p.1 = v) = true := decide_eq_true c
    simp only [kS1, bLookup, bMapSet, wantA, isCall, stepOp, evalO, evalL, evalP, evalM, putDst, flat, kA, kB, Nat.reduceLT, ↓reduceIte, kC, Nat.reduceEqDiff, aBuiltin, abinG, guardFree, abin, aInt, aUn, aNilCheck, retQ, retQ1, aresults, aresultL, aresult, mkF, undefV, reduceCtorEq, kD, kE, kF, kG, kH, kI, kJ, kK, aExtract, calleeOf, pa0, pa1, aadd, Nat.zero_add, own0 o1, own1 o1, lv, d]
    exact ⟨by rw [incB, d]; rfl, l1⟩
  · have d : decide (p.1 = v) = false := decide_eq_false c
    simp only [kS1, bLookup, bMapSet, wantA, isCall, stepOp, evalO, evalL, evalP, evalM, putDst, flat, kA, kB, Nat.reduceLT, ↓reduceIte, kC, Nat.reduceEqDiff, aBuiltin, abinG, guardFree, abin, aInt, aUn, aNilCheck, retQ, retQ1, aresults, aresultL, aresult, mkF, undefV, reduceCtorEq, kD, kE, kF, kG, kH, kI, kJ, kK, aExtract, calleeOf, pa0, pa1, aadd, Nat.zero_add, own0 o1, own1 o1, lv, d]
    exact ⟨by rw [incB, d]; rfl, l1⟩
theorem alloc3 (h : AHeap) : aAlloc Try.prog h 3 = some (.pointer (some ⟨h.next, 0, none⟩), h.alloc (.cells [.int .i64 0])) := rfl
theorem incB_wo (es : List Pr) (v : Nat) : (es.filter fun p => !incB (v : Int) p) = woV es v := rfl
theorem LowBlocks_law (W0 : Base) (v : Value) (G : GM) (h : AHeap) (hg : GR h v G) : AC Try.prog W0 6 [v] h fun x h' => x = .bool true := by
  have hg0 := hg
  obtain ⟨gn, es⟩ := G
  obtain ⟨ev, rfl, hp⟩ := hg.open
  refine AC.vc (fn := Try.f6) (c := _) ⟨Try.func6, rfl, by decide⟩ Try.ntmps6 Try.results6 (by simp) fun hwf => ?_
  simp only [argFrame, argFrom, Nat.reduceAdd]
  obtain ⟨h1, b1, le1, wf1, -, lA⟩ := boxG (n := gn) hwf hp
  generalize h.next = B at *
  have lA1 := lA h1 (Le.refl _)
  simp only [kS1, bLookup, bMapSet, wantA, isCall, stepOp, evalO, evalL, evalP, evalM, putDst, flat, kA, kB, Nat.reduceLT, ↓reduceIte, kC, Nat.reduceEqDiff, aBuiltin, abinG, guardFree, abin, aInt, aUn, aNilCheck, retQ, retQ1, aresults, aresultL, aresult, mkF, undefV, reduceCtorEq, kD, kE, kF, kG, kH, kI, kJ, kK, aExtract, calleeOf, b1, lA1.1]
  refine KCall.intro (by simp only [kS1, bLookup, bMapSet, wantA, isCall, stepOp, evalO, evalL, evalP, evalM, putDst, flat, kA, kB, Nat.reduceLT, ↓reduceIte, kC, Nat.reduceEqDiff, aBuiltin, abinG, guardFree, abin, aInt, aUn, aNilCheck, retQ, retQ1, aresults, aresultL, aresult, mkF, undefV, reduceCtorEq, kD, kE, kF, kG, kH, kI, kJ, kK, aExtract, calleeOf] <;> rfl) ⟨Try.func31, rfl, by decide⟩ (right_any W0 _ _ h1 (hg0.le le1)) ?_
  rintro x h2 wf2 ⟨⟨bb, rfl, hbb⟩, le2⟩
  cases bb with
  | false =>
    simp only [kS1, bLookup, bMapSet, wantA, isCall, stepOp, evalO, evalL, evalP, evalM, putDst, flat, kA, kB, Nat.reduceLT, ↓reduceIte, kC, Nat.reduceEqDiff, aBuiltin, abinG, guardFree, abin, aInt, aUn, aNilCheck, retQ, retQ1, aresults, aresultL, aresult, mkF, undefV, reduceCtorEq, kD, kE, kF, kG, kH, kI, kJ, kK, aExtract, calleeOf]
    refine KCall.intro (by simp only [kS1, bLookup, bMapSet, wantA, isCall, stepOp, evalO, evalL, evalP, evalM, putDst, flat, kA, kB, Nat.reduceLT, ↓reduceIte, kC, Nat.reduceEqDiff, aBuiltin, abinG, guardFree, abin, aInt, aUn, aNilCheck, retQ, retQ1, aresults, aresultL, aresult, mkF, undefV, reduceCtorEq, kD, kE, kF, kG, kH, kI, kJ, kK, aExtract, calleeOf] <;> rfl) ⟨Try.func15, rfl, by decide⟩ (awake_any W0 h2) ?_
    rintro x h3 w3 ⟨rfl, l3⟩
    simp only [kS1, bLookup, bMapSet, wantA, isCall, stepOp, evalO, evalL, evalP, evalM, putDst, flat, kA, kB, Nat.reduceLT, ↓reduceIte, kC, Nat.reduceEqDiff, aBuiltin, abinG, guardFree, abin, aInt, aUn, aNilCheck, retQ, retQ1, aresults, aresultL, aresult, mkF, undefV, reduceCtorEq, kD, kE, kF, kG, kH, kI, kJ, kK, aExtract, calleeOf]
  | true =>
  obtain ⟨hr, hn24⟩ := hbb.1 rfl
  clear hbb
  have h0 : 0 ≤ gn := hr.n0
  obtain ⟨n, rfl⟩ := Int.eq_ofNat_of_zero_le h0
  simp only at hn24
  have hR := hr.inR
  have hA := hr.asc
  have h594 : es.length ≤ 594 := hr.len
  have lA2 := lA h2 le2
  simp only [kS1, bLookup, bMapSet, wantA, isCall, stepOp, evalO, evalL, evalP, evalM, putDst, flat, kA, kB, Nat.reduceLT, ↓reduceIte, kC, Nat.reduceEqDiff, aBuiltin, abinG, guardFree, abin, aInt, aUn, aNilCheck, retQ, retQ1, aresults, aresultL, aresult, mkF, undefV, reduceCtorEq, kD, kE, kF, kG, kH, kI, kJ, kK, aExtract, calleeOf, lA2.1]
  refine KCall.intro (by simp only [kS1, bLookup, bMapSet, wantA, isCall, stepOp, evalO, evalL, evalP, evalM, putDst, flat, kA, kB, Nat.reduceLT, ↓reduceIte, kC, Nat.reduceEqDiff, aBuiltin, abinG, guardFree, abin, aInt, aUn, aNilCheck, retQ, retQ1, aresults, aresultL, aresult, mkF, undefV, reduceCtorEq, kD, kE, kF, kG, kH, kI, kJ, kK, aExtract, calleeOf] <;> rfl) ⟨Try.func25, rfl, by decide⟩ (Blocks_any W0 _ _ h2 (hg0.le (le1.trans le2))) ?_
  rintro x h3 w3 ⟨l3, ⟨hn, _⟩ | ⟨_, lv, rfl, hl⟩⟩
  · exact absurd hr hn
  simp only [Int.toNat_natCast] at hl
  have le3 := le2.trans l3
  have lA3 := lA h3 le3
  simp only [kS1, bLookup, bMapSet, wantA, isCall, stepOp, evalO, evalL, evalP, evalM, putDst, flat, kA, kB, Nat.reduceLT, ↓reduceIte, kC, Nat.reduceEqDiff, aBuiltin, abinG, guardFree, abin, aInt, aUn, aNilCheck, retQ, retQ1, aresults, aresultL, aresult, mkF, undefV, reduceCtorEq, kD, kE, kF, kG, kH, kI, kJ, kK, aExtract, calleeOf, lA3.1]
  refine KCall.intro (by simp only [kS1, bLookup, bMapSet, wantA, isCall, stepOp, evalO, evalL, evalP, evalM, putDst, flat, kA, kB, Nat.reduceLT, ↓reduceIte, kC, Nat.reduceEqDiff, aBuiltin, abinG, guardFree, abin, aInt, aUn, aNilCheck, retQ, retQ1, aresults, aresultL, aresult, mkF, undefV, reduceCtorEq, kD, kE, kF, kG, kH, kI, kJ, kK, aExtract, calleeOf] <;> rfl) ⟨Try.func33, rfl, by decide⟩ (at_any W0 _ lv n es _ h3 (hg0.le (le1.trans le3)) hr hl (blocks_AtS hr)) ?_
  rintro x h4 w4 ⟨M, al, rfl, oM, hal, l4, nM⟩
  have le4 := le3.trans l4
  have lA4 := lA h4 le4
  simp only [kS1, bLookup, bMapSet, wantA, isCall, stepOp, evalO, evalL, evalP, evalM, putDst, flat, kA, kB, Nat.reduceLT, ↓reduceIte, kC, Nat.reduceEqDiff, aBuiltin, abinG, guardFree, abin, aInt, aUn, aNilCheck, retQ, retQ1, aresults, aresultL, aresult, mkF, undefV, reduceCtorEq, kD, kE, kF, kG, kH, kI, kJ, kK, aExtract, calleeOf, bne, lA4.1]
  refine KCall.intro (by simp only [kS1, bLookup, bMapSet, wantA, isCall, stepOp, evalO, evalL, evalP, evalM, putDst, flat, kA, kB, Nat.reduceLT, ↓reduceIte, kC, Nat.reduceEqDiff, aBuiltin, abinG, guardFree, abin, aInt, aUn, aNilCheck, retQ, retQ1, aresults, aresultL, aresult, mkF, undefV, reduceCtorEq, kD, kE, kF, kG, kH, kI, kJ, kK, aExtract, calleeOf] <;> rfl) ⟨Try.func34, rfl, by decide⟩ (Beside_g W0 _ n es h4 (hg0.le (le1.trans le4)) hr) ?_
  rintro bv h5 w5 ⟨hb, l5⟩
  have le5 := le4.trans l5
  have oM5 := l5.own _ _ oM
  have lb := fun g => hb.len (P := Try.prog) Try.underlying57 g
  rw [besM_length] at lb
  simp only [kS1, bLookup, bMapSet, wantA, isCall, stepOp, evalO, evalL, evalP, evalM, putDst, flat, kA, kB, Nat.reduceLT, ↓reduceIte, kC, Nat.reduceEqDiff, aBuiltin, abinG, guardFree, abin, aInt, aUn, aNilCheck, retQ, retQ1, aresults, aresultL, aresult, mkF, undefV, reduceCtorEq, kD, kE, kF, kG, kH, kI, kJ, kK, aExtract, calleeOf, lb]
  have hof : ∀ p ∈ es, ∃ k : Nat, lookK al p = some (k : Int) := fun p hp => by
    obtain ⟨k, b, _, _, hm⟩ := met_ex hr hp
    exact ⟨k, (hal _ _).2 hm⟩
  have hofk : ∀ p q x y, lookK al p = some x → lookK al q = some y → (x = y ↔ keyE n es p = keyE n es q) := fun p q x y h1 h2 => met_key hr ((hal _ _).1 h1) ((hal _ _).1 h2)
  clear hal
  refine KLoop.intro (fun k fr hq => ∃ (i : Nat), k = n - i ∧ i ≤ n ∧ fr = mkF [(1, .pointer (some ⟨B, 0, none⟩)), (5, .map (some M)), (38, bv), (39, .int .i64 n), (40, .int .i64 i)] ∧ Le h5 hq)
    n [(1, .pointer (some ⟨B, 0, none⟩)), (5, .map (some M)), (38, bv), (39, .int .i64 n), (40, .int .i64 (0 : Nat))] (by simp only [hasAll, kS1, bLookup, bMapSet, wantA, isCall, stepOp, evalO, evalL, evalP, evalM, putDst, flat, kA, kB, Nat.reduceLT, ↓reduceIte, kC, Nat.reduceEqDiff, aBuiltin, abinG, guardFree, abin, aInt, aUn, aNilCheck, retQ, retQ1, aresults, aresultL, aresult, mkF, undefV, reduceCtorEq, kD, kE, kF, kG, kH, kI, kJ, kK, aExtract, calleeOf]; simp) ⟨0, rfl, Nat.zero_le _, rfl, Le.refl _⟩ ?_
  rintro k fr hq hwq ⟨i, rfl, hi, rfl, leq⟩
  simp only [kS1, bLookup, bMapSet, wantA, isCall, stepOp, evalO, evalL, evalP, evalM, putDst, flat, kA, kB, Nat.reduceLT, ↓reduceIte, kC, Nat.reduceEqDiff, aBuiltin, abinG, guardFree, abin, aInt, aUn, aNilCheck, retQ, retQ1, aresults, aresultL, aresult, mkF, undefV, reduceCtorEq, kD, kE, kF, kG, kH, kI, kJ, kK, aExtract, calleeOf]
  refine KCond.intro (fun ht => ?_) (fun hf => ?_)
  rotate_left
  · simp only [kS1, bLookup, bMapSet, wantA, isCall, stepOp, evalO, evalL, evalP, evalM, putDst, flat, kA, kB, Nat.reduceLT, ↓reduceIte, kC, Nat.reduceEqDiff, aBuiltin, abinG, guardFree, abin, aInt, aUn, aNilCheck, retQ, retQ1, aresults, aresultL, aresult, mkF, undefV, reduceCtorEq, kD, kE, kF, kG, kH, kI, kJ, kK, aExtract, calleeOf]
    refine KCall.intro (by simp only [kS1, bLookup, bMapSet, wantA, isCall, stepOp, evalO, evalL, evalP, evalM, putDst, flat, kA, kB, Nat.reduceLT, ↓reduceIte, kC, Nat.reduceEqDiff, aBuiltin, abinG, guardFree, abin, aInt, aUn, aNilCheck, retQ, retQ1, aresults, aresultL, aresult, mkF, undefV, reduceCtorEq, kD, kE, kF, kG, kH, kI, kJ, kK, aExtract, calleeOf] <;> rfl) ⟨Try.func15, rfl, by decide⟩ (awake_any W0 hq) ?_
    rintro x h9 w9 ⟨rfl, l9⟩
    simp only [kS1, bLookup, bMapSet, wantA, isCall, stepOp, evalO, evalL, evalP, evalM, putDst, flat, kA, kB, Nat.reduceLT, ↓reduceIte, kC, Nat.reduceEqDiff, aBuiltin, abinG, guardFree, abin, aInt, aUn, aNilCheck, retQ, retQ1, aresults, aresultL, aresult, mkF, undefV, reduceCtorEq, kD, kE, kF, kG, kH, kI, kJ, kK, aExtract, calleeOf]
  have hlt : i < n := lt_t ht
  clear ht
  have hil : i < (besM n es).length := by rw [besM_length]; exact hlt
  have adr := hb.addr (P := Try.prog) Try.underlying57 Try.underlying35 (by kernel_rfl) (k := .i64) i hil
  obtain ⟨uv, ldr, hu⟩ := hb.load' (P := Try.prog) Try.underlying35 rfl i hil
  have hrd : (besM n es).getD i [] = (besM n es)[i] := getD_of hil
  generalize (besM n es)[i] = row at hu hrd
  have hrow : ∀ j : Nat, ∀ hj : j < row.length, ∃ a : Nat, row[j] = (a : Int) ∧ a < n ∧ adj es i a := fun j hj => by
    have hm : row[j] ∈ (besM n es).getD i [] := by rw [hrd]; exact List.getElem_mem hj
    obtain ⟨a, e, ha⟩ := besM_nat hR hm
    refine ⟨a, e, ha, (besM_mem hR i a).1 ?_⟩
    rw [← e]; exact hm
  have hrl : row.length ≤ 3000 := by
    have := besM_rows n es row (by
      rw [← hrd, getD_of hil]; exact List.getElem_mem hil)
    omega
  obtain ⟨h6, e6, l6, w6, o6⟩ := alloc_f hwq [.int .i64 0]
  have al3 := alloc3 hq
  rw [e6] at al3
  have st := aStore1 (P := Try.prog) (t := 3) (x := .int .i64 (i : Int)) Try.underlying3 (by kernel_rfl) o6 (off := 0) (by simp) rfl rfl
  have nV : hq.own hq.next = none := (Le.refl hq).next hwq (Nat.le_refl _)
  have oV := AHeap.own_put_eq h6 hq.next (.cells [.int .i64 (i : Int)])
  have w7 := w6.put (.cells [.int .i64 (i : Int)]) (w6.lt o6)
  have l7 := leq.trans (l6.put (.cells [.int .i64 (i : Int)]) nV)
  simp only [List.set_cons_zero] at st
  have ldi := ldr hq leq
  simp only [kS1, bLookup, bMapSet, wantA, isCall, stepOp, evalO, evalL, evalP, evalM, putDst, flat, kA, kB, Nat.reduceLT, ↓reduceIte, kC, Nat.reduceEqDiff, aBuiltin, abinG, guardFree, abin, aInt, aUn, aNilCheck, retQ, retQ1, aresults, aresultL, aresult, mkF, undefV, reduceCtorEq, kD, kE, kF, kG, kH, kI, kJ, kK, aExtract, calleeOf, adr, ldi, al3, st]
  generalize h6.put hq.next (.cells [.int .i64 (i : Int)]) = h7 at *
  generalize hq.next = V at *
  have lA7 := lA h7 (le5.trans l7)
  simp only [kS1, bLookup, bMapSet, wantA, isCall, stepOp, evalO, evalL, evalP, evalM, putDst, flat, kA, kB, Nat.reduceLT, ↓reduceIte, kC, Nat.reduceEqDiff, aBuiltin, abinG, guardFree, abin, aInt, aUn, aNilCheck, retQ, retQ1, aresults, aresultL, aresult, mkF, undefV, reduceCtorEq, kD, kE, kF, kG, kH, kI, kJ, kK, aExtract, calleeOf, lA7.1]
  refine KCall.intro (by simp only [kS1, bLookup, bMapSet, wantA, isCall, stepOp, evalO, evalL, evalP, evalM, putDst, flat, kA, kB, Nat.reduceLT, ↓reduceIte, kC, Nat.reduceEqDiff, aBuiltin, abinG, guardFree, abin, aInt, aUn, aNilCheck, retQ, retQ1, aresults, aresultL, aresult, mkF, undefV, reduceCtorEq, kD, kE, kF, kG, kH, kI, kJ, kK, aExtract, calleeOf] <;> rfl) ⟨Try.func35, rfl, by decide⟩ (without_any W0 (.agg #[.int .i64 (n : Int), ev]) ⟨(n : Int), es⟩ (incB (i : Int)) 36 ⟨Try.func36, rfl, by decide⟩ [.pointer (some ⟨V, 0, none⟩)] h7 (hg0.le (le1.trans (le5.trans l7))) (by simp only; omega) (fun g p l => inc36_any W0 V (i : Int) p g (l.own _ _ oV))) ?_
  rintro x h8 w8 ⟨xv, rfl, gx, l8, ax⟩
  rw [incB_wo] at gx
  obtain ⟨h9', h9, e9, e9s, l9, w9, lG9⟩ := newG w8 (n := (n : Int)) gx.pr
  have lu := fun g => hu.rl.len (P := Try.prog) Try.underlying35 g
  simp only [kS1, bLookup, bMapSet, wantA, isCall, stepOp, evalO, evalL, evalP, evalM, putDst, flat, kA, kB, Nat.reduceLT, ↓reduceIte, kC, Nat.reduceEqDiff, aBuiltin, abinG, guardFree, abin, aInt, aUn, aNilCheck, retQ, retQ1, aresults, aresultL, aresult, mkF, undefV, reduceCtorEq, kD, kE, kF, kG, kH, kI, kJ, kK, aExtract, calleeOf, e9, e9s, lu]
  generalize h8.next = X at *
  have l79 := l8.trans l9
  have gx9 := gx.le l9
  have oV9 := l79.own _ _ oV
  have hrx : RightG ⟨(n : Int), woV es i⟩ := hr.sub List.filter_sublist
  refine KLoop.intro (fun k fr hz => ∃ (j : Nat), k = row.length - j ∧ j ≤ row.length ∧ fr = mkF [(1, .pointer (some ⟨B, 0, none⟩)), (5, .map (some M)), (7, .pointer (some ⟨V, 0, none⟩)), (8, uv), (9, .pointer (some ⟨X, 0, none⟩)), (38, bv), (39, .int .i64 n), (40, .int .i64 i), (48, uv), (49, .int .i64 row.length), (50, .int .i64 j)] ∧ Le h9 hz)
    row.length [(1, .pointer (some ⟨B, 0, none⟩)), (5, .map (some M)), (7, .pointer (some ⟨V, 0, none⟩)), (8, uv), (9, .pointer (some ⟨X, 0, none⟩)), (38, bv), (39, .int .i64 n), (40, .int .i64 i), (48, uv), (49, .int .i64 row.length), (50, .int .i64 (0 : Nat))] (by simp only [hasAll, kS1, bLookup, bMapSet, wantA, isCall, stepOp, evalO, evalL, evalP, evalM, putDst, flat, kA, kB, Nat.reduceLT, ↓reduceIte, kC, Nat.reduceEqDiff, aBuiltin, abinG, guardFree, abin, aInt, aUn, aNilCheck, retQ, retQ1, aresults, aresultL, aresult, mkF, undefV, reduceCtorEq, kD, kE, kF, kG, kH, kI, kJ, kK, aExtract, calleeOf]; simp) ⟨0, rfl, Nat.zero_le _, rfl, Le.refl _⟩ ?_
  rintro k fr hz hwz ⟨j, rfl, hj, rfl, lez⟩
  have le5z := (l7.trans l79).trans lez
  simp only [kS1, bLookup, bMapSet, wantA, isCall, stepOp, evalO, evalL, evalP, evalM, putDst, flat, kA, kB, Nat.reduceLT, ↓reduceIte, kC, Nat.reduceEqDiff, aBuiltin, abinG, guardFree, abin, aInt, aUn, aNilCheck, retQ, retQ1, aresults, aresultL, aresult, mkF, undefV, reduceCtorEq, kD, kE, kF, kG, kH, kI, kJ, kK, aExtract, calleeOf]
  refine KCond.intro (fun ht => ?_) (fun hf => ?_)
  rotate_left
  · simp only [kS1, bLookup, bMapSet, wantA, isCall, stepOp, evalO, evalL, evalP, evalM, putDst, flat, kA, kB, Nat.reduceLT, ↓reduceIte, kC, Nat.reduceEqDiff, aBuiltin, abinG, guardFree, abin, aInt, aUn, aNilCheck, retQ, retQ1, aresults, aresultL, aresult, mkF, undefV, reduceCtorEq, kD, kE, kF, kG, kH, kI, kJ, kK, aExtract, calleeOf, awrap_succ i (by omega)]
    exact loop_again (n - (i + 1)) [(1, .pointer (some ⟨B, 0, none⟩)), (5, .map (some M)), (38, bv), (39, .int .i64 n), (40, .int .i64 (i + 1 : Nat))] (by omega) (by simp only [hasAll, kS1, bLookup, bMapSet, wantA, isCall, stepOp, evalO, evalL, evalP, evalM, putDst, flat, kA, kB, Nat.reduceLT, ↓reduceIte, kC, Nat.reduceEqDiff, aBuiltin, abinG, guardFree, abin, aInt, aUn, aNilCheck, retQ, retQ1, aresults, aresultL, aresult, mkF, undefV, reduceCtorEq, kD, kE, kF, kG, kH, kI, kJ, kK, aExtract, calleeOf]; simp) ⟨i + 1, rfl, hlt, rfl, le5z⟩
  have hlj : j < row.length := lt_t ht
  clear ht
  obtain ⟨a, ea, han, haj⟩ := hrow j hlj
  have adj_ := hu.rl.addr (P := Try.prog) Try.underlying35 Try.underlying3 (by kernel_rfl) (k := .i64) j hlj
  have hu9 := (hu.rl.le Stays.isI le5z)
  have ldj := hu9.loadI (P := Try.prog) Try.underlying3 rfl j hlj
  rw [ea] at ldj
  have lgx := (lG9 hz lez).1
  simp only [kS1, bLookup, bMapSet, wantA, isCall, stepOp, evalO, evalL, evalP, evalM, putDst, flat, kA, kB, Nat.reduceLT, ↓reduceIte, kC, Nat.reduceEqDiff, aBuiltin, abinG, guardFree, abin, aInt, aUn, aNilCheck, retQ, retQ1, aresults, aresultL, aresult, mkF, undefV, reduceCtorEq, kD, kE, kF, kG, kH, kI, kJ, kK, aExtract, calleeOf, adj_, ldj, lgx]
  refine KCall.intro (by simp only [kS1, bLookup, bMapSet, wantA, isCall, stepOp, evalO, evalL, evalP, evalM, putDst, flat, kA, kB, Nat.reduceLT, ↓reduceIte, kC, Nat.reduceEqDiff, aBuiltin, abinG, guardFree, abin, aInt, aUn, aNilCheck, retQ, retQ1, aresults, aresultL, aresult, mkF, undefV, reduceCtorEq, kD, kE, kF, kG, kH, kI, kJ, kK, aExtract, calleeOf] <;> rfl) ⟨Try.func37, rfl, by decide⟩ (Away_any W0 (.agg #[.int .i64 (n : Int), xv]) ⟨(n : Int), woV es i⟩ (a : Int) hz ⟨xv, rfl, (gx9.le lez).pr⟩) ?_
  rintro x hy wy ⟨ly, av, e, rfl, hcase⟩
  obtain ⟨rfl, L, hL, hF⟩ : e = 0 ∧ ∃ L, RL isI hy av L ∧ Far n (woV es i) a L := by
    rcases hcase with ⟨hn, _⟩ | ⟨_, hn, _⟩ | ⟨_, _, _, h, L, h1, h2⟩
    · exact absurd hrx hn
    · exact absurd ⟨by omega, by simp only; omega⟩ hn
    · exact ⟨h, L, h1, by simpa using h2⟩
  clear hcase
  have lezy := lez.trans ly
  have le5y := le5z.trans ly
  have guy : GT 1 hy uv row.length (I64 row) := (GS.gt (GS.le hu le5y))
  obtain ⟨sv, es1, gs1, -⟩ := GT.cut (P := Try.prog) Try.underlying35 Try.underlying3 (by kernel_rfl) guy j (by omega)
  have hsv : RL isI hy sv (row.take j) := by
    have hl : (row.take j).length = j := by simp; omega
    have : (I64 row).take (j * 1) = I64 (row.take j) := by simp [I64, List.map_take]
    rw [this] at gs1
    have g : GU hy sv (row.take j) := by rw [GU, hl]; exact gs1
    exact g.rl
  have ls := fun g => hsv.len (P := Try.prog) Try.underlying35 g
  have htl : (row.take j).length = j := by simp; omega
  rw [htl] at ls
  simp only [kS1, bLookup, bMapSet, wantA, isCall, stepOp, evalO, evalL, evalP, evalM, putDst, flat, kA, kB, Nat.reduceLT, ↓reduceIte, kC, Nat.reduceEqDiff, aBuiltin, abinG, guardFree, abin, aInt, aUn, aNilCheck, retQ, retQ1, aresults, aresultL, aresult, mkF, undefV, reduceCtorEq, kD, kE, kF, kG, kH, kI, kJ, kK, aExtract, calleeOf, bne, es1, ls]
  have oMy := le5y.own _ _ oM5
  have oVy := lezy.own _ _ oV9
  have hane : a ≠ i := fun e => by subst e; rcases haj with h | h <;> have := hR _ h <;> simp only at this <;> omega
  refine KLoop.intro (fun k fr hw => ∃ (t : Nat), k = j - t ∧ t ≤ j ∧ fr = mkF [(1, .pointer (some ⟨B, 0, none⟩)), (5, .map (some M)), (7, .pointer (some ⟨V, 0, none⟩)), (8, uv), (9, .pointer (some ⟨X, 0, none⟩)), (11, .int .i64 a), (12, av), (38, bv), (39, .int .i64 n), (40, .int .i64 i), (48, uv), (49, .int .i64 row.length), (50, .int .i64 j), (65, sv), (66, .int .i64 j), (67, .int .i64 t)] ∧ Le hy hw)
    j [(1, .pointer (some ⟨B, 0, none⟩)), (5, .map (some M)), (7, .pointer (some ⟨V, 0, none⟩)), (8, uv), (9, .pointer (some ⟨X, 0, none⟩)), (11, .int .i64 a), (12, av), (38, bv), (39, .int .i64 n), (40, .int .i64 i), (48, uv), (49, .int .i64 row.length), (50, .int .i64 j), (65, sv), (66, .int .i64 j), (67, .int .i64 (0 : Nat))] (by simp only [hasAll, kS1, bLookup, bMapSet, wantA, isCall, stepOp, evalO, evalL, evalP, evalM, putDst, flat, kA, kB, Nat.reduceLT, ↓reduceIte, kC, Nat.reduceEqDiff, aBuiltin, abinG, guardFree, abin, aInt, aUn, aNilCheck, retQ, retQ1, aresults, aresultL, aresult, mkF, undefV, reduceCtorEq, kD, kE, kF, kG, kH, kI, kJ, kK, aExtract, calleeOf]; simp) ⟨0, rfl, Nat.zero_le _, rfl, Le.refl _⟩ ?_
  rintro k fr hw hww ⟨t, rfl, htj, rfl, lew⟩
  simp only [kS1, bLookup, bMapSet, wantA, isCall, stepOp, evalO, evalL, evalP, evalM, putDst, flat, kA, kB, Nat.reduceLT, ↓reduceIte, kC, Nat.reduceEqDiff, aBuiltin, abinG, guardFree, abin, aInt, aUn, aNilCheck, retQ, retQ1, aresults, aresultL, aresult, mkF, undefV, reduceCtorEq, kD, kE, kF, kG, kH, kI, kJ, kK, aExtract, calleeOf]
  refine KCond.intro (fun ht => ?_) (fun hf => ?_)
  rotate_left
  · simp only [kS1, bLookup, bMapSet, wantA, isCall, stepOp, evalO, evalL, evalP, evalM, putDst, flat, kA, kB, Nat.reduceLT, ↓reduceIte, kC, Nat.reduceEqDiff, aBuiltin, abinG, guardFree, abin, aInt, aUn, aNilCheck, retQ, retQ1, aresults, aresultL, aresult, mkF, undefV, reduceCtorEq, kD, kE, kF, kG, kH, kI, kJ, kK, aExtract, calleeOf, awrap_succ j (by omega)]
    exact loop_again (row.length - (j + 1)) [(1, .pointer (some ⟨B, 0, none⟩)), (5, .map (some M)), (7, .pointer (some ⟨V, 0, none⟩)), (8, uv), (9, .pointer (some ⟨X, 0, none⟩)), (38, bv), (39, .int .i64 n), (40, .int .i64 i), (48, uv), (49, .int .i64 row.length), (50, .int .i64 (j + 1 : Nat))] (by omega) (by simp only [hasAll, kS1, bLookup, bMapSet, wantA, isCall, stepOp, evalO, evalL, evalP, evalM, putDst, flat, kA, kB, Nat.reduceLT, ↓reduceIte, kC, Nat.reduceEqDiff, aBuiltin, abinG, guardFree, abin, aInt, aUn, aNilCheck, retQ, retQ1, aresults, aresultL, aresult, mkF, undefV, reduceCtorEq, kD, kE, kF, kG, kH, kI, kJ, kK, aExtract, calleeOf]; simp) ⟨j + 1, rfl, hlj, rfl, lezy.trans lew⟩
  have hltj : t < j := lt_t ht
  clear ht
  obtain ⟨b, eb, hbn, hbj⟩ := hrow t (by omega)
  have htt : t < (row.take j).length := by omega
  have adt := hsv.addr (P := Try.prog) Try.underlying35 Try.underlying3 (by kernel_rfl) (k := .i64) t htt
  have ldt := (hsv.le Stays.isI lew).loadI (P := Try.prog) Try.underlying3 rfl t htt
  rw [List.getElem_take, eb] at ldt
  have lv : ∀ g, Le hy g → aload Try.prog g 3 ⟨V, 0, none⟩ = some (.int .i64 (i : Int)) := fun g l => by rw [aload_one Try.underlying3 rfl (l.own _ _ oVy)]; rfl
  have hbl : b < L.length := by rw [hF.len]; exact hbn
  have adb := hL.addr (P := Try.prog) Try.underlying35 Try.underlying3 (by kernel_rfl) (k := .i64) b hbl
  have hLb := getElem?_of hbl
  have ldb : ∀ g, Le hy g → aload Try.prog g 3 (elemAddr av b) = some (.int .i64 L[b]) := fun g l => (hL.le Stays.isI l).loadI (P := Try.prog) Try.underlying3 rfl b hbl
  obtain ⟨x1, hx1⟩ := hof _ (adj_mem' hR haj)
  obtain ⟨x2, hx2⟩ := hof _ (adj_mem' hR hbj)
  have hk := (hofk _ _ _ _ hx1 hx2).trans (key_iff hR haj hbj)
  have hcon : 0 ≤ L[b] ↔ Cn (wo i) es a b := by rw [hF.pos b _ hLb, woV_con hane]
  generalize L[b] = lb at *
  have hmain : decide ((x1 : Int) = (x2 : Int)) = decide (lb ≥ 0) := by
    rw [Bool.eq_iff_iff, decide_eq_true_eq, decide_eq_true_eq, hk]; exact hcon.symm
  have lkm : ∀ g, Le hy g → ∀ p x, lookK al p = some x → aLookupA Try.prog g 54 (.map (some M)) (valP p) false = some (.int .i64 x) := fun g l p x hx => by
    rw [mapP_look (l.own _ _ oMy), hx]; rfl
  have lv1 := lv hw lew
  simp only [kS1, bLookup, bMapSet, wantA, isCall, stepOp, evalO, evalL, evalP, evalM, putDst, flat, kA, kB, Nat.reduceLT, ↓reduceIte, kC, Nat.reduceEqDiff, aBuiltin, abinG, guardFree, abin, aInt, aUn, aNilCheck, retQ, retQ1, aresults, aresultL, aresult, mkF, undefV, reduceCtorEq, kD, kE, kF, kG, kH, kI, kJ, kK, aExtract, calleeOf, adt, ldt]
  refine KDraw.intro mixed (.fl 0 (.fl 1 (.fl 2 (.fl 5 (.fl 6 (.fl 7 (.fl 11 (.fl 12 (.fl 13 (.fl 14 (.fl 15 (.ch 3 [1, 2] (.ch 4 [0, 3] (.ch 8 [3, 6, 7] (.ch 9 [5, 8] (.fl 10 (.fl 16 (.done))) .no) .no) (.ch 8 [3, 6, 7] (.ch 4 [0, 3] (.ch 9 [5, 8] (.fl 10 (.fl 16 (.done))) .no) (.ch 9 [5, 8] (.ch 4 [0, 3] (.fl 10 (.fl 16 (.done))) .no) .no)) .no)) .no)))))))))))) (by kernel_rfl) ?_
  have ldb0 := ldb hw lew
  simp only [kS1, bLookup, bMapSet, wantA, isCall, stepOp, evalO, evalL, evalP, evalM, putDst, flat, kA, kB, Nat.reduceLT, ↓reduceIte, kC, Nat.reduceEqDiff, aBuiltin, abinG, guardFree, abin, aInt, aUn, aNilCheck, retQ, retQ1, aresults, aresultL, aresult, mkF, undefV, reduceCtorEq, kD, kE, kF, kG, kH, kI, kJ, kK, aExtract, calleeOf, kD1, Nat.reduceBEq, HoldsAll, kL, kM, kN, kO, lv1, adb, ldb0]
  refine KGCall.intro (by simp only [kS1, bLookup, bMapSet, wantA, isCall, stepOp, evalO, evalL, evalP, evalM, putDst, flat, kA, kB, Nat.reduceLT, ↓reduceIte, kC, Nat.reduceEqDiff, aBuiltin, abinG, guardFree, abin, aInt, aUn, aNilCheck, retQ, retQ1, aresults, aresultL, aresult, mkF, undefV, reduceCtorEq, kD, kE, kF, kG, kH, kI, kJ, kK, aExtract, calleeOf] <;> rfl) ⟨Try.func38, rfl, by decide⟩ (edge_any W0 (i : Int) (a : Int) hw) ?_
  rintro x g1 wg1 ⟨rfl, lg1⟩
  have le1g := lew.trans lg1
  have lv2 := lv g1 le1g
  have ldb1 := ldb g1 le1g
  have k1 := lkm g1 le1g _ _ hx1
  simp only [pairOf] at k1
  simp only [kS1, bLookup, bMapSet, wantA, isCall, stepOp, evalO, evalL, evalP, evalM, putDst, flat, kA, kB, Nat.reduceLT, ↓reduceIte, kC, Nat.reduceEqDiff, aBuiltin, abinG, guardFree, abin, aInt, aUn, aNilCheck, retQ, retQ1, aresults, aresultL, aresult, mkF, undefV, reduceCtorEq, kD, kE, kF, kG, kH, kI, kJ, kK, aExtract, calleeOf, kD1, Nat.reduceBEq, HoldsAll, kL, kM, kN, kO, lv1, lv2, adb, ldb0, ldb1, lookP_none, k1]
  refine ⟨?_, ?_⟩
  all_goals
    refine KGCall.intro (by simp only [kS1, bLookup, bMapSet, wantA, isCall, stepOp, evalO, evalL, evalP, evalM, putDst, flat, kA, kB, Nat.reduceLT, ↓reduceIte, kC, Nat.reduceEqDiff, aBuiltin, abinG, guardFree, abin, aInt, aUn, aNilCheck, retQ, retQ1, aresults, aresultL, aresult, mkF, undefV, reduceCtorEq, kD, kE, kF, kG, kH, kI, kJ, kK, aExtract, calleeOf] <;> rfl) ⟨Try.func38, rfl, by decide⟩ (edge_any W0 (i : Int) (b : Int) g1) ?_
    rintro x g2 wg2 ⟨rfl, lg2⟩
    have le2g := le1g.trans lg2
    have lv3 := lv g2 le2g
    have ldb2 := ldb g2 le2g
    have k1' := lkm g2 le2g _ _ hx1
    have k2' := lkm g2 le2g _ _ hx2
    simp only [pairOf] at k1' k2'
    simp only [kS1, bLookup, bMapSet, wantA, isCall, stepOp, evalO, evalL, evalP, evalM, putDst, flat, kA, kB, Nat.reduceLT, ↓reduceIte, kC, Nat.reduceEqDiff, aBuiltin, abinG, guardFree, abin, aInt, aUn, aNilCheck, retQ, retQ1, aresults, aresultL, aresult, mkF, undefV, reduceCtorEq, kD, kE, kF, kG, kH, kI, kJ, kK, aExtract, calleeOf, kD1, Nat.reduceBEq, HoldsAll, kL, kM, kN, kO, lv1, lv2, lv3, adb, ldb0, ldb1, ldb2, lookP_none, k1, k1', k2', hmain, bne, Try.underlying4, aEq, awrap_succ t (by omega)]
    first
      | exact loop_again (j - (t + 1)) [(1, .pointer (some ⟨B, 0, none⟩)), (5, .map (some M)), (7, .pointer (some ⟨V, 0, none⟩)), (8, uv), (9, .pointer (some ⟨X, 0, none⟩)), (11, .int .i64 a), (12, av), (38, bv), (39, .int .i64 n), (40, .int .i64 i), (48, uv), (49, .int .i64 row.length), (50, .int .i64 j), (65, sv), (66, .int .i64 j), (67, .int .i64 (t + 1 : Nat))] (by omega) (by simp only [hasAll, kS1, bLookup, bMapSet, wantA, isCall, stepOp, evalO, evalL, evalP, evalM, putDst, flat, kA, kB, Nat.reduceLT, ↓reduceIte, kC, Nat.reduceEqDiff, aBuiltin, abinG, guardFree, abin, aInt, aUn, aNilCheck, retQ, retQ1, aresults, aresultL, aresult, mkF, undefV, reduceCtorEq, kD, kE, kF, kG, kH, kI, kJ, kK, aExtract, calleeOf]; simp) ⟨t + 1, rfl, hltj, rfl, le2g⟩
      | refine ⟨?_, ?_⟩ <;> exact loop_again (j - (t + 1)) [(1, .pointer (some ⟨B, 0, none⟩)), (5, .map (some M)), (7, .pointer (some ⟨V, 0, none⟩)), (8, uv), (9, .pointer (some ⟨X, 0, none⟩)), (11, .int .i64 a), (12, av), (38, bv), (39, .int .i64 n), (40, .int .i64 i), (48, uv), (49, .int .i64 row.length), (50, .int .i64 j), (65, sv), (66, .int .i64 j), (67, .int .i64 (t + 1 : Nat))] (by omega) (by simp only [hasAll, kS1, bLookup, bMapSet, wantA, isCall, stepOp, evalO, evalL, evalP, evalM, putDst, flat, kA, kB, Nat.reduceLT, ↓reduceIte, kC, Nat.reduceEqDiff, aBuiltin, abinG, guardFree, abin, aInt, aUn, aNilCheck, retQ, retQ1, aresults, aresultL, aresult, mkF, undefV, reduceCtorEq, kD, kE, kF, kG, kH, kI, kJ, kK, aExtract, calleeOf]; simp) ⟨t + 1, rfl, hltj, rfl, le2g⟩
end Go.Fw
