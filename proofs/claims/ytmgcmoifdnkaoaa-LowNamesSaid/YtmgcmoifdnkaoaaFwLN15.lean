/- One of the texts of the layer and the walks: it proves what its theorems say of the functions of the seat, with no condition beyond theirs. -/
import Derived.Test.YtmgcmoifdnkaoaaFwLM10
import Derived.Test.YtmgcmoifdnkaoaaFwLT12
set_option linter.unusedSimpArgs false
set_option linter.unusedVariables false
namespace Go.Fw
open Go.Proofs
attribute [local irreducible] KO4 KO3 KO2 KO1 KO KN KX KE VK KCond KDraw KCall KLoop
set_option maxHeartbeats 16000000
set_option maxRecDepth 10000
theorem blocksM_len' (n : Nat) (es : List Pr) : (blocksM n es).length ≤ es.length ∧ ∀ p ∈ blocksM n es, p.length ≤ es.length := by
  obtain ⟨_, _, h3, h4, _⟩ := grpsM_ok (fun p _ => keyE n es p) es [] es.length
  refine ⟨by rw [blocksM, List.length_map]; exact h4, fun p hp => ?_⟩
  rw [blocksM, List.mem_map] at hp
  obtain ⟨g, hg, rfl⟩ := hp
  exact h3 g hg
theorem LowForest_law (W0 : Base) (v : Value) (G : GM) (h : AHeap) (hg : GR h v G) : AC Try.prog W0 12 [v] h fun x h' => x = .bool true := by
  have hg0 := hg
  obtain ⟨gn, es⟩ := G
  obtain ⟨ev, rfl, hp⟩ := hg.open
  refine AC.vc (fn := Try.f12) (c := _) ⟨Try.func12, rfl, by decide⟩ Try.ntmps12 Try.results12 (by simp) fun hwf => ?_
  simp only [argFrame, argFrom, Nat.reduceAdd]
  obtain ⟨h1, b1, le1, wf1, -, lA⟩ := boxG (n := gn) hwf hp
  generalize h.next = B at *
  have lA1 := lA h1 (Le.refl _)
  simp only [kS1, bLookup, bMapSet, wantA, isCall, stepOp, evalO, evalL, evalP, evalM, putDst, flat, kA, kB, Nat.reduceLT, ↓reduceIte, kC, Nat.reduceEqDiff, aBuiltin, abinG, guardFree, abin, aInt, aUn, aNilCheck, retQ, retQ1, aresults, aresultL, aresult, mkF, undefV, reduceCtorEq, kD, kE, kF, kG, kH, kI, kJ, kK, aExtract, calleeOf, b1, lA1.1]
  refine KCall.intro (by simp only [kS1, bLookup, bMapSet, wantA, isCall, stepOp, evalO, evalL, evalP, evalM, putDst, flat, kA, kB, Nat.reduceLT, ↓reduceIte, kC, Nat.reduceEqDiff, aBuiltin, abinG, guardFree, abin, aInt, aUn, aNilCheck, retQ, retQ1, aresults, aresultL, aresult, mkF, undefV, reduceCtorEq, kD, kE, kF, kG, kH, kI, kJ, kK, aExtract, calleeOf] <;> rfl) ⟨Try.func31, rfl, by decide⟩ (right_any W0 _ _ h1 (hg0.le le1)) ?_
  rintro x h2 wf2 ⟨⟨bb, rfl, hbb⟩, le2⟩
  cases bb with
  | false =>
    simp only [kS1, bLookup, bMapSet, wantA, isCall, stepOp, evalO, evalL, evalP, evalM, putDst, flat, kA, kB, Nat.reduceLT, ↓reduceIte, kC, Nat.reduceEqDiff, aBuiltin, abinG, guardFree, abin, aInt, aUn, aNilCheck, retQ, retQ1, aresults, aresultL, aresult, mkF, undefV, reduceCtorEq, kD, kE, kF, kG, kH, kI, kJ, kK, aExtract, calleeOf]
    refine KCall.intro (by simp only [kS1, bLookup, bMapSet, wantA, isCall, stepOp, evalO, evalL, evalP, evalM, putDst, flat, kA, kB, Nat.reduceLT, ↓reduceIte, kC, Nat.reduceEqDiff, aBuiltin, abinG, guardFree, abin, aInt, aUn, aNilCheck, retQ, retQ1, aresults, aresultL, aresult, mkF, undefV, reduceCtorEq, kD, kE, kF, kG, kH, kI, kJ, kK, aExtract, calleeOf] <;> rfl) ⟨Try.func15, rfl, by decide⟩ (awake_any W0 h2) ?_
    rintro x h3 w3 ⟨rfl, l3⟩
    simp only [kS1, bLookup, bMapSet, wantA, isCall, stepOp, evalO, evalL, evalP, evalM, putDst, flat, kA, kB, Nat.reduceLT, ↓reduceIte, kC, Nat.reduceEqDiff, aBuiltin, abinG, guardFree, abin, aInt, aUn, aNilCheck, retQ, retQ1, aresults, aresultL, aresult, mkF, undefV, reduceCtorEq, kD, kE, kF, kG, kH, kI, kJ, kK, aExtract, calleeOf]
  | true =>
  obtain ⟨hr, hn24⟩ := hbb.1 rfl
  clear hbb
  have h0 : 0 ≤ gn := hr.n0
  obtain ⟨n, rfl⟩ := Int.eq_ofNat_of_zero_le h0
  simp only at hn24
  have hR := hr.inR
  have h594 : es.length ≤ 594 := hr.len
  have hz0 := forest_zero hR
  have hbl := (blocksM_len' n es)
  have lA2 := lA h2 le2
  simp only [kS1, bLookup, bMapSet, wantA, isCall, stepOp, evalO, evalL, evalP, evalM, putDst, flat, kA, kB, Nat.reduceLT, ↓reduceIte, kC, Nat.reduceEqDiff, aBuiltin, abinG, guardFree, abin, aInt, aUn, aNilCheck, retQ, retQ1, aresults, aresultL, aresult, mkF, undefV, reduceCtorEq, kD, kE, kF, kG, kH, kI, kJ, kK, aExtract, calleeOf, lA2.1]
  refine KCall.intro (by simp only [kS1, bLookup, bMapSet, wantA, isCall, stepOp, evalO, evalL, evalP, evalM, putDst, flat, kA, kB, Nat.reduceLT, ↓reduceIte, kC, Nat.reduceEqDiff, aBuiltin, abinG, guardFree, abin, aInt, aUn, aNilCheck, retQ, retQ1, aresults, aresultL, aresult, mkF, undefV, reduceCtorEq, kD, kE, kF, kG, kH, kI, kJ, kK, aExtract, calleeOf] <;> rfl) ⟨Try.func25, rfl, by decide⟩ (Blocks_any W0 _ _ h2 (hg0.le (le1.trans le2))) ?_
  rintro x h3 w3 ⟨l3, ⟨hn, _⟩ | ⟨_, kv, rfl, hk⟩⟩
  · exact absurd hr hn
  simp only [Int.toNat_natCast] at hk
  have le3 := le2.trans l3
  have lA3 := lA h3 le3
  simp only [kS1, bLookup, bMapSet, wantA, isCall, stepOp, evalO, evalL, evalP, evalM, putDst, flat, kA, kB, Nat.reduceLT, ↓reduceIte, kC, Nat.reduceEqDiff, aBuiltin, abinG, guardFree, abin, aInt, aUn, aNilCheck, retQ, retQ1, aresults, aresultL, aresult, mkF, undefV, reduceCtorEq, kD, kE, kF, kG, kH, kI, kJ, kK, aExtract, calleeOf, lA3.1]
  refine KCall.intro (by simp only [kS1, bLookup, bMapSet, wantA, isCall, stepOp, evalO, evalL, evalP, evalM, putDst, flat, kA, kB, Nat.reduceLT, ↓reduceIte, kC, Nat.reduceEqDiff, aBuiltin, abinG, guardFree, abin, aInt, aUn, aNilCheck, retQ, retQ1, aresults, aresultL, aresult, mkF, undefV, reduceCtorEq, kD, kE, kF, kG, kH, kI, kJ, kK, aExtract, calleeOf] <;> rfl) ⟨Try.func23, rfl, by decide⟩ (Cuts_any W0 _ _ h3 (hg0.le (le1.trans le3))) ?_
  rintro x h4 w4 ⟨l4, ⟨hn, _⟩ | ⟨_, cv, rfl, gc, _⟩⟩
  · exact absurd hr hn
  simp only [Int.toNat_natCast] at gc
  have le4 := le3.trans l4
  have hk4 := hk.le Stays.PR l4
  have hcl : (cutsM n es).length ≤ n := by
    have := List.length_filter_le (isCut (lowM n es).1 (cntM (lowM n es).1 (lowM n es).2 n)) (List.range n)
    rw [cutsM]; rw [List.length_range] at this; exact this
  have lk := fun g => hk.len (P := Try.prog) Try.underlying38 g
  have lc := fun g => gc.rl.len (P := Try.prog) Try.underlying35 g
  rw [nat64_length] at lc
  have hw : awrap .i64 (((blocksM n es).length : Int) + ((cutsM n es).length : Int)) = (((blocksM n es).length + (cutsM n es).length : Nat) : Int) := by rw [awrap_i64 _ (by omega) (by omega)]; omega
  simp only [kS1, bLookup, bMapSet, wantA, isCall, stepOp, evalO, evalL, evalP, evalM, putDst, flat, kA, kB, Nat.reduceLT, ↓reduceIte, kC, Nat.reduceEqDiff, aBuiltin, abinG, guardFree, abin, aInt, aUn, aNilCheck, retQ, retQ1, aresults, aresultL, aresult, mkF, undefV, reduceCtorEq, kD, kE, kF, kG, kH, kI, kJ, kK, aExtract, calleeOf, bne, wr0, lk, lc, hw]
  generalize hKs : blocksM n es = Ks at *
  generalize hCs : cutsM n es = Cs at *
  have hinc : ∀ w, incN n es w = (Ks.filter (atB (w : Int))).length := fun w => by rw [incN, hKs]
  generalize hS : ((heads n es).filter fun h => decide (0 < incN n es h)).length = Sz at *
  -- cut vertices
  refine KLoop.intro (fun k fr hq => ∃ (i T : Nat), k = Cs.length - i ∧ i ≤ Cs.length ∧ fr = mkF [(1, .pointer (some ⟨B, 0, none⟩)), (3, kv), (7, .int .i64 T), (39, cv), (40, .int .i64 Cs.length), (41, .int .i64 i)] ∧ T + ((Cs.take i).map (incN n es)).sum = Ks.length + Cs.length ∧ Le h4 hq)
    Cs.length [(1, .pointer (some ⟨B, 0, none⟩)), (3, kv), (7, .int .i64 (Ks.length + Cs.length : Nat)), (39, cv), (40, .int .i64 Cs.length), (41, .int .i64 (0 : Nat))] (by simp only [hasAll, kS1, bLookup, bMapSet, wantA, isCall, stepOp, evalO, evalL, evalP, evalM, putDst, flat, kA, kB, Nat.reduceLT, ↓reduceIte, kC, Nat.reduceEqDiff, aBuiltin, abinG, guardFree, abin, aInt, aUn, aNilCheck, retQ, retQ1, aresults, aresultL, aresult, mkF, undefV, reduceCtorEq, kD, kE, kF, kG, kH, kI, kJ, kK, aExtract, calleeOf]; simp)
    ⟨0, _, rfl, Nat.zero_le _, rfl, by simp, Le.refl _⟩ ?_
  rintro k fr hq hwq ⟨i, T, rfl, hi, rfl, hT, leq⟩
  simp only [kS1, bLookup, bMapSet, wantA, isCall, stepOp, evalO, evalL, evalP, evalM, putDst, flat, kA, kB, Nat.reduceLT, ↓reduceIte, kC, Nat.reduceEqDiff, aBuiltin, abinG, guardFree, abin, aInt, aUn, aNilCheck, retQ, retQ1, aresults, aresultL, aresult, mkF, undefV, reduceCtorEq, kD, kE, kF, kG, kH, kI, kJ, kK, aExtract, calleeOf]
  refine KCond.intro (fun ht => ?_) (fun hf => ?_)
  · have hlt : i < Cs.length := lt_t ht
    clear ht
    have hm : i < (nat64 Cs).length := by rw [nat64_length]; exact hlt
    have ad := gc.rl.addr (P := Try.prog) Try.underlying35 Try.underlying3 (by kernel_rfl) (k := .i64) i hm
    have ld := (gc.le leq).rl.loadI (P := Try.prog) Try.underlying3 rfl i hm
    rw [nat64_get hlt] at ld
    have hsum : ((Cs.take (i + 1)).map (incN n es)).sum = ((Cs.take i).map (incN n es)).sum + incN n es Cs[i] := by
      rw [List.take_succ_eq_append_getElem hlt, List.map_append, List.sum_append]; simp
    have htot : ((Cs.take (i + 1)).map (incN n es)).sum ≤ Ks.length + Cs.length := by
      have e : (Cs.map (incN n es)).sum = ((Cs.take (i + 1)).map (incN n es)).sum + ((Cs.drop (i + 1)).map (incN n es)).sum := by
        rw [← List.sum_append, ← List.map_append, List.take_append_drop]
      omega
    generalize Cs[i] = w at *
    simp only [kS1, bLookup, bMapSet, wantA, isCall, stepOp, evalO, evalL, evalP, evalM, putDst, flat, kA, kB, Nat.reduceLT, ↓reduceIte, kC, Nat.reduceEqDiff, aBuiltin, abinG, guardFree, abin, aInt, aUn, aNilCheck, retQ, retQ1, aresults, aresultL, aresult, mkF, undefV, reduceCtorEq, kD, kE, kF, kG, kH, kI, kJ, kK, aExtract, calleeOf, ad, ld, lk]
    refine KLoop.intro (fun k fr hx => ∃ (j T' : Nat), k = Ks.length - j ∧ j ≤ Ks.length ∧ fr = mkF [(1, .pointer (some ⟨B, 0, none⟩)), (3, kv), (7, .int .i64 T'), (9, .int .i64 w), (39, cv), (40, .int .i64 Cs.length), (41, .int .i64 i), (45, kv), (46, .int .i64 Ks.length), (47, .int .i64 j)] ∧ T' + ((Ks.take j).filter (atB (w : Int))).length = T ∧ Le h4 hx)
      Ks.length [(1, .pointer (some ⟨B, 0, none⟩)), (3, kv), (7, .int .i64 T), (9, .int .i64 w), (39, cv), (40, .int .i64 Cs.length), (41, .int .i64 i), (45, kv), (46, .int .i64 Ks.length), (47, .int .i64 (0 : Nat))] (by simp only [hasAll, kS1, bLookup, bMapSet, wantA, isCall, stepOp, evalO, evalL, evalP, evalM, putDst, flat, kA, kB, Nat.reduceLT, ↓reduceIte, kC, Nat.reduceEqDiff, aBuiltin, abinG, guardFree, abin, aInt, aUn, aNilCheck, retQ, retQ1, aresults, aresultL, aresult, mkF, undefV, reduceCtorEq, kD, kE, kF, kG, kH, kI, kJ, kK, aExtract, calleeOf]; simp)
      ⟨0, T, rfl, Nat.zero_le _, rfl, by simp, leq⟩ ?_
    rintro k fr hx hwx ⟨j, T', rfl, hj, rfl, hT', lex⟩
    simp only [kS1, bLookup, bMapSet, wantA, isCall, stepOp, evalO, evalL, evalP, evalM, putDst, flat, kA, kB, Nat.reduceLT, ↓reduceIte, kC, Nat.reduceEqDiff, aBuiltin, abinG, guardFree, abin, aInt, aUn, aNilCheck, retQ, retQ1, aresults, aresultL, aresult, mkF, undefV, reduceCtorEq, kD, kE, kF, kG, kH, kI, kJ, kK, aExtract, calleeOf]
    refine KCond.intro (fun ht => ?_) (fun hf => ?_)
    rotate_left
    · have hge : Ks.length ≤ j := lt_f hf
      rw [List.take_of_length_le hge, ← hinc] at hT'
      simp only [kS1, bLookup, bMapSet, wantA, isCall, stepOp, evalO, evalL, evalP, evalM, putDst, flat, kA, kB, Nat.reduceLT, ↓reduceIte, kC, Nat.reduceEqDiff, aBuiltin, abinG, guardFree, abin, aInt, aUn, aNilCheck, retQ, retQ1, aresults, aresultL, aresult, mkF, undefV, reduceCtorEq, kD, kE, kF, kG, kH, kI, kJ, kK, aExtract, calleeOf, awrap_succ i (by omega)]
      exact loop_again (Cs.length - (i + 1)) [(1, .pointer (some ⟨B, 0, none⟩)), (3, kv), (7, .int .i64 T'), (39, cv), (40, .int .i64 Cs.length), (41, .int .i64 (i + 1 : Nat))] (by omega) (by simp only [hasAll, kS1, bLookup, bMapSet, wantA, isCall, stepOp, evalO, evalL, evalP, evalM, putDst, flat, kA, kB, Nat.reduceLT, ↓reduceIte, kC, Nat.reduceEqDiff, aBuiltin, abinG, guardFree, abin, aInt, aUn, aNilCheck, retQ, retQ1, aresults, aresultL, aresult, mkF, undefV, reduceCtorEq, kD, kE, kF, kG, kH, kI, kJ, kK, aExtract, calleeOf]; simp)
        ⟨i + 1, T', rfl, hlt, rfl, by omega, lex⟩
    have hlj : j < Ks.length := lt_t ht
    clear ht
    have adj_ := hk.addr (P := Try.prog) Try.underlying38 Try.underlying22 (by kernel_rfl) (k := .i64) j hlj
    obtain ⟨u, ldu, hu⟩ := (hk4.le Stays.PR lex).load (P := Try.prog) Try.underlying22 rfl j hlj
    have hbm := List.getElem_mem hlj
    have htj : (Ks.take (j + 1)).filter (atB (w : Int)) = (Ks.take j).filter (atB (w : Int)) ++ (if atB (w : Int) Ks[j] then [Ks[j]] else []) := by
      rw [List.take_succ_eq_append_getElem hlj, List.filter_append]; congr 1; simp [List.filter_cons]
    have hle : ((Ks.take (j + 1)).filter (atB (w : Int))).length ≤ incN n es w := by
      rw [hinc]; exact ((List.take_sublist _ _).filter _).length_le
    generalize Ks[j] = b at *
    have hbl' := hbl.2 b hbm
    have lu := fun g => hu.len g
    simp only [kS1, bLookup, bMapSet, wantA, isCall, stepOp, evalO, evalL, evalP, evalM, putDst, flat, kA, kB, Nat.reduceLT, ↓reduceIte, kC, Nat.reduceEqDiff, aBuiltin, abinG, guardFree, abin, aInt, aUn, aNilCheck, retQ, retQ1, aresults, aresultL, aresult, mkF, undefV, reduceCtorEq, kD, kE, kF, kG, kH, kI, kJ, kK, aExtract, calleeOf, adj_, ldu, lu]
    refine KLoop.intro (fun k fr hy => ∃ (m : Nat), k = b.length - m ∧ m ≤ b.length ∧ fr = mkF [(1, .pointer (some ⟨B, 0, none⟩)), (3, kv), (7, .int .i64 T'), (9, .int .i64 w), (39, cv), (40, .int .i64 Cs.length), (41, .int .i64 i), (45, kv), (46, .int .i64 Ks.length), (47, .int .i64 j), (51, u), (52, .int .i64 b.length), (53, .int .i64 m)] ∧ (b.take m).any (incB (w : Int)) = false ∧ Le hx hy)
      b.length [(1, .pointer (some ⟨B, 0, none⟩)), (3, kv), (7, .int .i64 T'), (9, .int .i64 w), (39, cv), (40, .int .i64 Cs.length), (41, .int .i64 i), (45, kv), (46, .int .i64 Ks.length), (47, .int .i64 j), (51, u), (52, .int .i64 b.length), (53, .int .i64 (0 : Nat))] (by simp only [hasAll, kS1, bLookup, bMapSet, wantA, isCall, stepOp, evalO, evalL, evalP, evalM, putDst, flat, kA, kB, Nat.reduceLT, ↓reduceIte, kC, Nat.reduceEqDiff, aBuiltin, abinG, guardFree, abin, aInt, aUn, aNilCheck, retQ, retQ1, aresults, aresultL, aresult, mkF, undefV, reduceCtorEq, kD, kE, kF, kG, kH, kI, kJ, kK, aExtract, calleeOf]; simp)
      ⟨0, rfl, Nat.zero_le _, rfl, rfl, Le.refl _⟩ ?_
    rintro k fr hy hwy ⟨m, rfl, hm', rfl, hany, ley⟩
    simp only [kS1, bLookup, bMapSet, wantA, isCall, stepOp, evalO, evalL, evalP, evalM, putDst, flat, kA, kB, Nat.reduceLT, ↓reduceIte, kC, Nat.reduceEqDiff, aBuiltin, abinG, guardFree, abin, aInt, aUn, aNilCheck, retQ, retQ1, aresults, aresultL, aresult, mkF, undefV, reduceCtorEq, kD, kE, kF, kG, kH, kI, kJ, kK, aExtract, calleeOf]
    refine KCond.intro (fun ht => ?_) (fun hf => ?_)
    rotate_left
    · have hge : b.length ≤ m := lt_f hf
      rw [List.take_of_length_le hge] at hany
      have ha : atB (w : Int) b = false := hany
      rw [ha] at htj
      simp only [kS1, bLookup, bMapSet, wantA, isCall, stepOp, evalO, evalL, evalP, evalM, putDst, flat, kA, kB, Nat.reduceLT, ↓reduceIte, kC, Nat.reduceEqDiff, aBuiltin, abinG, guardFree, abin, aInt, aUn, aNilCheck, retQ, retQ1, aresults, aresultL, aresult, mkF, undefV, reduceCtorEq, kD, kE, kF, kG, kH, kI, kJ, kK, aExtract, calleeOf, awrap_succ j (by omega)]
      exact loop_again (Ks.length - (j + 1)) [(1, .pointer (some ⟨B, 0, none⟩)), (3, kv), (7, .int .i64 T'), (9, .int .i64 w), (39, cv), (40, .int .i64 Cs.length), (41, .int .i64 i), (45, kv), (46, .int .i64 Ks.length), (47, .int .i64 (j + 1 : Nat))] (by omega) (by simp only [hasAll, kS1, bLookup, bMapSet, wantA, isCall, stepOp, evalO, evalL, evalP, evalM, putDst, flat, kA, kB, Nat.reduceLT, ↓reduceIte, kC, Nat.reduceEqDiff, aBuiltin, abinG, guardFree, abin, aInt, aUn, aNilCheck, retQ, retQ1, aresults, aresultL, aresult, mkF, undefV, reduceCtorEq, kD, kE, kF, kG, kH, kI, kJ, kK, aExtract, calleeOf]; simp)
        ⟨j + 1, T', rfl, hlj, rfl, by rw [htj]; simpa using hT', lex.trans ley⟩
    have hlm : m < b.length := lt_t ht
    clear ht
    have hpm := getElem?_of hlm
    have htk : b.take (m + 1) = b.take m ++ [b[m]] := List.take_succ_eq_append_getElem hlm
    have hbany : incB (w : Int) b[m] = true → atB (w : Int) b = true := fun e => List.any_eq_true.2 ⟨_, List.getElem_mem hlm, e⟩
    generalize b[m] = p at hpm htk hbany
    have adp := hu.addr (k := .i64) m hlm
    have ldp := (hu.le ley).load hpm
    obtain ⟨h7', h7, e7, e7s, l7, w7, o7⟩ := new42 hwy p
    generalize hy.next = E at *
    have m0 := own0 o7
    have m1 := own1 o7
    have yes : incB (w : Int) p = true → awrap .i64 ((T' : Int) - 1) = ((T' - 1 : Nat) : Int) ∧ (T' - 1) + ((Ks.take (j + 1)).filter (atB (w : Int))).length = T := fun e => by
      rw [htj, hbany e] at hle ⊢
      simp only [if_true, List.length_append, List.length_cons, List.length_nil] at hle ⊢
      refine ⟨?_, by omega⟩
      rw [awrap_i64 _ (by omega) (by omega)]; omega
    by_cases c1 : p.1 = (w : Int)
    · have d1 : decide (p.1 = (w : Int)) = true := decide_eq_true c1
      obtain ⟨y1, y2⟩ := yes (by simp [incB, c1])
      simp only [kS1, bLookup, bMapSet, wantA, isCall, stepOp, evalO, evalL, evalP, evalM, putDst, flat, kA, kB, Nat.reduceLT, ↓reduceIte, kC, Nat.reduceEqDiff, aBuiltin, abinG, guardFree, abin, aInt, aUn, aNilCheck, retQ, retQ1, aresults, aresultL, aresult, mkF, undefV, reduceCtorEq, kD, kE, kF, kG, kH, kI, kJ, kK, aExtract, calleeOf, adp, ldp, e7, e7s, pa0, pa1, aadd, Nat.zero_add, m0, m1, d1, y1, awrap_succ j (by omega)]
      exact loop_again (Ks.length - (j + 1)) [(1, .pointer (some ⟨B, 0, none⟩)), (3, kv), (7, .int .i64 (T' - 1 : Nat)), (9, .int .i64 w), (39, cv), (40, .int .i64 Cs.length), (41, .int .i64 i), (45, kv), (46, .int .i64 Ks.length), (47, .int .i64 (j + 1 : Nat))] (by omega) (by simp only [hasAll, kS1, bLookup, bMapSet, wantA, isCall, stepOp, evalO, evalL, evalP, evalM, putDst, flat, kA, kB, Nat.reduceLT, ↓reduceIte, kC, Nat.reduceEqDiff, aBuiltin, abinG, guardFree, abin, aInt, aUn, aNilCheck, retQ, retQ1, aresults, aresultL, aresult, mkF, undefV, reduceCtorEq, kD, kE, kF, kG, kH, kI, kJ, kK, aExtract, calleeOf]; simp)
        ⟨j + 1, T' - 1, rfl, hlj, rfl, y2, lex.trans (ley.trans l7)⟩
    have d1 : decide (p.1 = (w : Int)) = false := decide_eq_false c1
    by_cases c2 : p.2 = (w : Int)
    · have d2 : decide (p.2 = (w : Int)) = true := decide_eq_true c2
      obtain ⟨y1, y2⟩ := yes (by simp [incB, c2])
      simp only [kS1, bLookup, bMapSet, wantA, isCall, stepOp, evalO, evalL, evalP, evalM, putDst, flat, kA, kB, Nat.reduceLT, ↓reduceIte, kC, Nat.reduceEqDiff, aBuiltin, abinG, guardFree, abin, aInt, aUn, aNilCheck, retQ, retQ1, aresults, aresultL, aresult, mkF, undefV, reduceCtorEq, kD, kE, kF, kG, kH, kI, kJ, kK, aExtract, calleeOf, adp, ldp, e7, e7s, pa0, pa1, aadd, Nat.zero_add, m0, m1, d1, d2, y1, awrap_succ j (by omega)]
      exact loop_again (Ks.length - (j + 1)) [(1, .pointer (some ⟨B, 0, none⟩)), (3, kv), (7, .int .i64 (T' - 1 : Nat)), (9, .int .i64 w), (39, cv), (40, .int .i64 Cs.length), (41, .int .i64 i), (45, kv), (46, .int .i64 Ks.length), (47, .int .i64 (j + 1 : Nat))] (by omega) (by simp only [hasAll, kS1, bLookup, bMapSet, wantA, isCall, stepOp, evalO, evalL, evalP, evalM, putDst, flat, kA, kB, Nat.reduceLT, ↓reduceIte, kC, Nat.reduceEqDiff, aBuiltin, abinG, guardFree, abin, aInt, aUn, aNilCheck, retQ, retQ1, aresults, aresultL, aresult, mkF, undefV, reduceCtorEq, kD, kE, kF, kG, kH, kI, kJ, kK, aExtract, calleeOf]; simp)
        ⟨j + 1, T' - 1, rfl, hlj, rfl, y2, lex.trans (ley.trans l7)⟩
    have d2 : decide (p.2 = (w : Int)) = false := decide_eq_false c2
    simp only [kS1, bLookup, bMapSet, wantA, isCall, stepOp, evalO, evalL, evalP, evalM, putDst, flat, kA, kB, Nat.reduceLT, ↓reduceIte, kC, Nat.reduceEqDiff, aBuiltin, abinG, guardFree, abin, aInt, aUn, aNilCheck, retQ, retQ1, aresults, aresultL, aresult, mkF, undefV, reduceCtorEq, kD, kE, kF, kG, kH, kI, kJ, kK, aExtract, calleeOf, adp, ldp, e7, e7s, pa0, pa1, aadd, Nat.zero_add, m0, m1, d1, d2, awrap_succ m (by omega)]
    exact loop_again (b.length - (m + 1)) [(1, .pointer (some ⟨B, 0, none⟩)), (3, kv), (7, .int .i64 T'), (9, .int .i64 w), (39, cv), (40, .int .i64 Cs.length), (41, .int .i64 i), (45, kv), (46, .int .i64 Ks.length), (47, .int .i64 j), (51, u), (52, .int .i64 b.length), (53, .int .i64 (m + 1 : Nat))] (by omega) (by simp only [hasAll, kS1, bLookup, bMapSet, wantA, isCall, stepOp, evalO, evalL, evalP, evalM, putDst, flat, kA, kB, Nat.reduceLT, ↓reduceIte, kC, Nat.reduceEqDiff, aBuiltin, abinG, guardFree, abin, aInt, aUn, aNilCheck, retQ, retQ1, aresults, aresultL, aresult, mkF, undefV, reduceCtorEq, kD, kE, kF, kG, kH, kI, kJ, kK, aExtract, calleeOf]; simp)
      ⟨m + 1, rfl, hlm, rfl, by rw [htk, List.any_append, hany]; simp [incB, c1, c2], ley.trans l7⟩
  have hge : Cs.length ≤ i := lt_f hf
  rw [List.take_of_length_le hge] at hT
  have hTS : T = Sz := by omega
  subst hTS
  have lAq := lA hq (le4.trans leq)
  simp only [kS1, bLookup, bMapSet, wantA, isCall, stepOp, evalO, evalL, evalP, evalM, putDst, flat, kA, kB, Nat.reduceLT, ↓reduceIte, kC, Nat.reduceEqDiff, aBuiltin, abinG, guardFree, abin, aInt, aUn, aNilCheck, retQ, retQ1, aresults, aresultL, aresult, mkF, undefV, reduceCtorEq, kD, kE, kF, kG, kH, kI, kJ, kK, aExtract, calleeOf, lAq.1]
  refine KCall.intro (by simp only [kS1, bLookup, bMapSet, wantA, isCall, stepOp, evalO, evalL, evalP, evalM, putDst, flat, kA, kB, Nat.reduceLT, ↓reduceIte, kC, Nat.reduceEqDiff, aBuiltin, abinG, guardFree, abin, aInt, aUn, aNilCheck, retQ, retQ1, aresults, aresultL, aresult, mkF, undefV, reduceCtorEq, kD, kE, kF, kG, kH, kI, kJ, kK, aExtract, calleeOf] <;> rfl) ⟨Try.func50, rfl, by decide⟩ (Parts_any W0 _ ⟨(n : Int), es⟩ hq (hg0.le (le1.trans (le4.trans leq))) hr) ?_
  rintro pv h6 w6 ⟨gp, l6, -⟩
  simp only [Int.toNat_natCast] at gp
  have rp := gp.rl (Stays.RL Stays.isI)
  have lp := fun g => rp.len (P := Try.prog) Try.underlying57 g
  have hpl : ((partsN n es n).map nat64).length = (heads n es).length := by simp [partsN]
  rw [hpl] at lp
  have hhl : (heads n es).length ≤ n := heads_length _ _
  simp only [kS1, bLookup, bMapSet, wantA, isCall, stepOp, evalO, evalL, evalP, evalM, putDst, flat, kA, kB, Nat.reduceLT, ↓reduceIte, kC, Nat.reduceEqDiff, aBuiltin, abinG, guardFree, abin, aInt, aUn, aNilCheck, retQ, retQ1, aresults, aresultL, aresult, mkF, undefV, reduceCtorEq, kD, kE, kF, kG, kH, kI, kJ, kK, aExtract, calleeOf, lp]
  refine KLoop.intro (fun k fr hx => ∃ (j T' : Nat), k = (heads n es).length - j ∧ j ≤ (heads n es).length ∧ fr = mkF [(7, .int .i64 T'), (73, pv), (74, .int .i64 (heads n es).length), (75, .int .i64 j)] ∧ T' + (((heads n es).take j).filter fun h => decide (0 < incN n es h)).length = T ∧ Le h6 hx)
    (heads n es).length [(7, .int .i64 T), (73, pv), (74, .int .i64 (heads n es).length), (75, .int .i64 (0 : Nat))] (by simp only [hasAll, kS1, bLookup, bMapSet, wantA, isCall, stepOp, evalO, evalL, evalP, evalM, putDst, flat, kA, kB, Nat.reduceLT, ↓reduceIte, kC, Nat.reduceEqDiff, aBuiltin, abinG, guardFree, abin, aInt, aUn, aNilCheck, retQ, retQ1, aresults, aresultL, aresult, mkF, undefV, reduceCtorEq, kD, kE, kF, kG, kH, kI, kJ, kK, aExtract, calleeOf]; simp)
    ⟨0, T, rfl, Nat.zero_le _, rfl, by simp, Le.refl _⟩ ?_
  rintro k fr hx hwx ⟨j, T', rfl, hj, rfl, hT', lex⟩
  simp only [kS1, bLookup, bMapSet, wantA, isCall, stepOp, evalO, evalL, evalP, evalM, putDst, flat, kA, kB, Nat.reduceLT, ↓reduceIte, kC, Nat.reduceEqDiff, aBuiltin, abinG, guardFree, abin, aInt, aUn, aNilCheck, retQ, retQ1, aresults, aresultL, aresult, mkF, undefV, reduceCtorEq, kD, kE, kF, kG, kH, kI, kJ, kK, aExtract, calleeOf]
  refine KCond.intro (fun ht => ?_) (fun hf => ?_)
  rotate_left
  · have hgj : (heads n es).length ≤ j := lt_f hf
    rw [List.take_of_length_le hgj, hS] at hT'
    obtain rfl : T' = 0 := by omega
    have d0 : decide (((0 : Nat) : Int) = 0) = true := by decide
    simp only [kS1, bLookup, bMapSet, wantA, isCall, stepOp, evalO, evalL, evalP, evalM, putDst, flat, kA, kB, Nat.reduceLT, ↓reduceIte, kC, Nat.reduceEqDiff, aBuiltin, abinG, guardFree, abin, aInt, aUn, aNilCheck, retQ, retQ1, aresults, aresultL, aresult, mkF, undefV, reduceCtorEq, kD, kE, kF, kG, kH, kI, kJ, kK, aExtract, calleeOf, d0]
    refine KCall.intro (by simp only [kS1, bLookup, bMapSet, wantA, isCall, stepOp, evalO, evalL, evalP, evalM, putDst, flat, kA, kB, Nat.reduceLT, ↓reduceIte, kC, Nat.reduceEqDiff, aBuiltin, abinG, guardFree, abin, aInt, aUn, aNilCheck, retQ, retQ1, aresults, aresultL, aresult, mkF, undefV, reduceCtorEq, kD, kE, kF, kG, kH, kI, kJ, kK, aExtract, calleeOf] <;> rfl) ⟨Try.func15, rfl, by decide⟩ (awake_any W0 hx) ?_
    rintro x h10 w10 ⟨rfl, l10⟩
    simp only [kS1, bLookup, bMapSet, wantA, isCall, stepOp, evalO, evalL, evalP, evalM, putDst, flat, kA, kB, Nat.reduceLT, ↓reduceIte, kC, Nat.reduceEqDiff, aBuiltin, abinG, guardFree, abin, aInt, aUn, aNilCheck, retQ, retQ1, aresults, aresultL, aresult, mkF, undefV, reduceCtorEq, kD, kE, kF, kG, kH, kI, kJ, kK, aExtract, calleeOf]
  have hlj : j < (heads n es).length := lt_t ht
  clear ht
  have hm : j < ((partsN n es n).map nat64).length := by rw [hpl]; exact hlj
  have adj_ := rp.addr (P := Try.prog) Try.underlying57 Try.underlying35 (by kernel_rfl) (k := .i64) j hm
  obtain ⟨u, ldu, hu⟩ := (rp.le (Stays.RL Stays.isI) lex).load (P := Try.prog) Try.underlying35 rfl j hm
  have hpj : ((partsN n es n).map nat64)[j] = nat64 (compL n es (heads n es)[j]) := by simp [partsN]
  rw [hpj] at hu
  have htj : ((heads n es).take (j + 1)).filter (fun h => decide (0 < incN n es h)) = ((heads n es).take j).filter (fun h => decide (0 < incN n es h)) ++ (if 0 < incN n es (heads n es)[j] then [(heads n es)[j]] else []) := by
    rw [List.take_succ_eq_append_getElem hlj, List.filter_append]; congr 1; simp [List.filter_cons]
  have hle : (((heads n es).take (j + 1)).filter fun h => decide (0 < incN n es h)).length ≤ T := by
    rw [← hS]; exact ((List.take_sublist _ _).filter _).length_le
  have hbig := big_iff hR (mem_heads.1 (List.getElem_mem hlj)).1
  generalize (heads n es)[j] = c at *
  have lu := fun g => hu.len (P := Try.prog) Try.underlying35 g
  rw [nat64_length] at lu
  by_cases q : 0 < incN n es c
  · have d : decide (((compL n es c).length : Int) > 1) = true := decide_eq_true (by have := hbig.2 q; omega)
    rw [if_pos q] at htj
    rw [htj] at hle
    simp only [List.length_append, List.length_cons, List.length_nil] at hle
    have hw1 : awrap .i64 ((T' : Int) - 1) = ((T' - 1 : Nat) : Int) := by rw [awrap_i64 _ (by omega) (by omega)]; omega
    simp only [kS1, bLookup, bMapSet, wantA, isCall, stepOp, evalO, evalL, evalP, evalM, putDst, flat, kA, kB, Nat.reduceLT, ↓reduceIte, kC, Nat.reduceEqDiff, aBuiltin, abinG, guardFree, abin, aInt, aUn, aNilCheck, retQ, retQ1, aresults, aresultL, aresult, mkF, undefV, reduceCtorEq, kD, kE, kF, kG, kH, kI, kJ, kK, aExtract, calleeOf, adj_, ldu, lu, d, hw1, awrap_succ j (by omega)]
    exact loop_again ((heads n es).length - (j + 1)) [(7, .int .i64 (T' - 1 : Nat)), (73, pv), (74, .int .i64 (heads n es).length), (75, .int .i64 (j + 1 : Nat))] (by omega) (by simp only [hasAll, kS1, bLookup, bMapSet, wantA, isCall, stepOp, evalO, evalL, evalP, evalM, putDst, flat, kA, kB, Nat.reduceLT, ↓reduceIte, kC, Nat.reduceEqDiff, aBuiltin, abinG, guardFree, abin, aInt, aUn, aNilCheck, retQ, retQ1, aresults, aresultL, aresult, mkF, undefV, reduceCtorEq, kD, kE, kF, kG, kH, kI, kJ, kK, aExtract, calleeOf]; simp)
      ⟨j + 1, T' - 1, rfl, hlj, rfl, by rw [htj, List.length_append]; simp; omega, lex⟩
  · have d : decide (((compL n es c).length : Int) > 1) = false := decide_eq_false (fun e => q (hbig.1 (by omega)))
    rw [if_neg q, List.append_nil] at htj
    simp only [kS1, bLookup, bMapSet, wantA, isCall, stepOp, evalO, evalL, evalP, evalM, putDst, flat, kA, kB, Nat.reduceLT, ↓reduceIte, kC, Nat.reduceEqDiff, aBuiltin, abinG, guardFree, abin, aInt, aUn, aNilCheck, retQ, retQ1, aresults, aresultL, aresult, mkF, undefV, reduceCtorEq, kD, kE, kF, kG, kH, kI, kJ, kK, aExtract, calleeOf, adj_, ldu, lu, d, awrap_succ j (by omega)]
    exact loop_again ((heads n es).length - (j + 1)) [(7, .int .i64 T'), (73, pv), (74, .int .i64 (heads n es).length), (75, .int .i64 (j + 1 : Nat))] (by omega) (by simp only [hasAll, kS1, bLookup, bMapSet, wantA, isCall, stepOp, evalO, evalL, evalP, evalM, putDst, flat, kA, kB, Nat.reduceLT, ↓reduceIte, kC, Nat.reduceEqDiff, aBuiltin, abinG, guardFree, abin, aInt, aUn, aNilCheck, retQ, retQ1, aresults, aresultL, aresult, mkF, undefV, reduceCtorEq, kD, kE, kF, kG, kH, kI, kJ, kK, aExtract, calleeOf]; simp)
      ⟨j + 1, T', rfl, hlj, rfl, by rw [htj]; exact hT', lex⟩
end Go.Fw
