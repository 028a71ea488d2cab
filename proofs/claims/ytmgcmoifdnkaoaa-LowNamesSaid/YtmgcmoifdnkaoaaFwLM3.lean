/- One of the texts of the layer and the walks: it proves what its theorems say of the functions of the seat, with no condition beyond theirs. -/
import Derived.Test.YtmgcmoifdnkaoaaFwLM1
set_option linter.unusedSimpArgs false
set_option linter.unusedVariables false
namespace Go.Fw
open Go.Proofs
attribute [local irreducible] KO4 KO3 KO2 KO1 KO KN KX KE VK KCond KDraw KCall KLoop
set_option maxHeartbeats 8000000
set_option maxRecDepth 10000
attribute [local irreducible] lowM bridgesM cutsM blocksM
theorem awake_any (W0 : Base) (h : AHeap) : AC Try.prog W0 15 [] h fun x h' => x = .bool true ∧ Le h h' := by
  refine AC.vc (fn := Try.f15) (c := _) ⟨Try.func15, rfl, by decide⟩ Try.ntmps15 Try.results15 (by simp) fun hwf => ?_
  simp only [argFrame, argFrom, Nat.reduceAdd]
  obtain ⟨h1, e1, l1, w1, o1⟩ := alloc_f hwf (flatP aw5)
  have hp1 : PR h1 (.slice (some ⟨h.next, 0, none⟩) 7 7) aw5 := PR.made o1 rfl
  obtain ⟨h2, h3, e2, e3, l3, w3, lG⟩ := newG w1 (n := 6) hp1
  have mk : aBuildSlice Try.prog h 22 7 [(0, valP (0, 1)), (1, valP (0, 2)), (2, valP (1, 2)), (3, valP (2, 3)), (4, valP (2, 4)), (5, valP (3, 4)), (6, valP (4, 5))] = some (.slice (some ⟨h.next, 0, none⟩) 7 7, h1) := by rw [mkP7, ← e1]; rfl
  have bld := build24 (n := 6) hp1.sl
  simp only [kS1, bLookup, bMapSet, wantA, isCall, stepOp, evalO, evalL, evalP, evalM, putDst, flat, kA, kB, Nat.reduceLT, ↓reduceIte, kC, Nat.reduceEqDiff, aBuiltin, abinG, guardFree, abin, aInt, aUn, aNilCheck, retQ, retQ1, aresults, aresultL, aresult, mkF, undefV, reduceCtorEq, kD, kE, kF, kG, kH, kI, kJ, kK, aExtract, calleeOf, bP2, mk, bld, e2, e3, (lG h3 (Le.refl _)).1]
  generalize Value.slice (some ⟨h.next, 0, none⟩) 7 7 = ev at *
  generalize h1.next = B at *
  have hg : GR h3 (.agg #[.int .i64 6, ev]) ⟨6, aw5⟩ := ⟨ev, rfl, hp1.le l3⟩
  refine KCall.intro (by simp only [kS1, bLookup, bMapSet, wantA, isCall, stepOp, evalO, evalL, evalP, evalM, putDst, flat, kA, kB, Nat.reduceLT, ↓reduceIte, kC, Nat.reduceEqDiff, aBuiltin, abinG, guardFree, abin, aInt, aUn, aNilCheck, retQ, retQ1, aresults, aresultL, aresult, mkF, undefV, reduceCtorEq, kD, kE, kF, kG, kH, kI, kJ, kK, aExtract, calleeOf] <;> rfl) ⟨Try.func17, rfl, by decide⟩ (LowSearch_any W0 _ _ h3 hg) ?_
  rintro x h4 w4 ⟨l4, ⟨hn, _⟩ | ⟨_, lv, rfl, hl⟩⟩
  · exact absurd aw5R hn
  simp only [kS1, bLookup, bMapSet, wantA, isCall, stepOp, evalO, evalL, evalP, evalM, putDst, flat, kA, kB, Nat.reduceLT, ↓reduceIte, kC, Nat.reduceEqDiff, aBuiltin, abinG, guardFree, abin, aInt, aUn, aNilCheck, retQ, retQ1, aresults, aresultL, aresult, mkF, undefV, reduceCtorEq, kD, kE, kF, kG, kH, kI, kJ, kK, aExtract, calleeOf, (lG h4 l4).1]
  refine KCall.intro (by simp only [kS1, bLookup, bMapSet, wantA, isCall, stepOp, evalO, evalL, evalP, evalM, putDst, flat, kA, kB, Nat.reduceLT, ↓reduceIte, kC, Nat.reduceEqDiff, aBuiltin, abinG, guardFree, abin, aInt, aUn, aNilCheck, retQ, retQ1, aresults, aresultL, aresult, mkF, undefV, reduceCtorEq, kD, kE, kF, kG, kH, kI, kJ, kK, aExtract, calleeOf] <;> rfl) ⟨Try.func19, rfl, by decide⟩ (Bridges_any W0 _ _ h4 (hg.le l4)) ?_
  rintro x h5 w5 ⟨l5, ⟨hn, _⟩ | ⟨_, bv, rfl, gb, _⟩⟩
  · exact absurd aw5R hn
  simp only [kS1, bLookup, bMapSet, wantA, isCall, stepOp, evalO, evalL, evalP, evalM, putDst, flat, kA, kB, Nat.reduceLT, ↓reduceIte, kC, Nat.reduceEqDiff, aBuiltin, abinG, guardFree, abin, aInt, aUn, aNilCheck, retQ, retQ1, aresults, aresultL, aresult, mkF, undefV, reduceCtorEq, kD, kE, kF, kG, kH, kI, kJ, kK, aExtract, calleeOf, (lG h5 (l4.trans l5)).1]
  refine KCall.intro (by simp only [kS1, bLookup, bMapSet, wantA, isCall, stepOp, evalO, evalL, evalP, evalM, putDst, flat, kA, kB, Nat.reduceLT, ↓reduceIte, kC, Nat.reduceEqDiff, aBuiltin, abinG, guardFree, abin, aInt, aUn, aNilCheck, retQ, retQ1, aresults, aresultL, aresult, mkF, undefV, reduceCtorEq, kD, kE, kF, kG, kH, kI, kJ, kK, aExtract, calleeOf] <;> rfl) ⟨Try.func23, rfl, by decide⟩ (Cuts_any W0 _ _ h5 (hg.le (l4.trans l5))) ?_
  rintro x h6 w6 ⟨l6, ⟨hn, _⟩ | ⟨_, cv, rfl, gc, _⟩⟩
  · exact absurd aw5R hn
  simp only [kS1, bLookup, bMapSet, wantA, isCall, stepOp, evalO, evalL, evalP, evalM, putDst, flat, kA, kB, Nat.reduceLT, ↓reduceIte, kC, Nat.reduceEqDiff, aBuiltin, abinG, guardFree, abin, aInt, aUn, aNilCheck, retQ, retQ1, aresults, aresultL, aresult, mkF, undefV, reduceCtorEq, kD, kE, kF, kG, kH, kI, kJ, kK, aExtract, calleeOf, (lG h6 ((l4.trans l5).trans l6)).1]
  refine KCall.intro (by simp only [kS1, bLookup, bMapSet, wantA, isCall, stepOp, evalO, evalL, evalP, evalM, putDst, flat, kA, kB, Nat.reduceLT, ↓reduceIte, kC, Nat.reduceEqDiff, aBuiltin, abinG, guardFree, abin, aInt, aUn, aNilCheck, retQ, retQ1, aresults, aresultL, aresult, mkF, undefV, reduceCtorEq, kD, kE, kF, kG, kH, kI, kJ, kK, aExtract, calleeOf] <;> rfl) ⟨Try.func25, rfl, by decide⟩ (Blocks_any W0 _ _ h6 (hg.le ((l4.trans l5).trans l6))) ?_
  rintro x h7 w7 ⟨l7, ⟨hn, _⟩ | ⟨_, kv, rfl, hk⟩⟩
  · exact absurd aw5R hn
  simp only [show ((6 : Int).toNat) = 6 from rfl, aw5_low, aw5_bridges, aw5_cuts, aw5_blocks] at hl gb gc hk
  have lb7 := gb.le (l6.trans l7)
  have lc7 := gc.le l7
  have ll7 := hl.le ((l5.trans l6).trans l7)
  have l07 := ((((l1.trans l3).trans l4).trans l5).trans l6).trans l7
  clear lG hg e2 e3 bld mk hp1 o1
  obtain ⟨h8, e8, l8, w8, o8⟩ := alloc_f w7 (flatL aw5L)
  have ht8 : LR h8 (.slice (some ⟨h7.next, 0, none⟩) 6 6) aw5L := LR.own o8 rfl
  have mk : aBuildSlice Try.prog h7 79 6 [(0, valL (1, -1, 1)), (1, valL (2, 0, 1)), (2, valL (3, 1, 1)), (3, valL (4, 2, 3)), (4, valL (5, 3, 3)), (5, valL (6, 4, 6))] = some (.slice (some ⟨h7.next, 0, none⟩) 6 6, h8) := by rw [mkT6, ← e8]; rfl
  have lt : ∀ g, aLen Try.prog g 79 (.slice (some ⟨h7.next, 0, none⟩) 6 6) = some (.int .i64 ((6 : Nat) : Int)) := fun g => tLen ht8 g
  simp only [kS1, bLookup, bMapSet, wantA, isCall, stepOp, evalO, evalL, evalP, evalM, putDst, flat, kA, kB, Nat.reduceLT, ↓reduceIte, kC, Nat.reduceEqDiff, aBuiltin, abinG, guardFree, abin, aInt, aUn, aNilCheck, retQ, retQ1, aresults, aresultL, aresult, mkF, undefV, reduceCtorEq, kD, kE, kF, kG, kH, kI, kJ, kK, aExtract, calleeOf, b78, mk, lt]
  generalize Value.slice (some ⟨h7.next, 0, none⟩) 6 6 = tv at *
  have ap8 : Apart h8 (.slice none 0 0) := fun b hb => by cases hb
  refine KLoop.intro (fun k fr hq => ∃ (i : Nat) (wv : Value), k = 6 - i ∧ i ≤ 6 ∧ fr = mkF [(2, lv), (3, .int .i64 0), (4, bv), (5, .int .i64 0), (6, cv), (7, .int .i64 0), (8, kv), (9, .int .i64 0), (10, wv), (48, tv), (49, .int .i64 (6 : Nat)), (50, .int .i64 i)] ∧ GL hq wv (aw5L.take i) ∧ Le h8 hq ∧ Apart h8 wv)
    6 [(2, lv), (3, .int .i64 0), (4, bv), (5, .int .i64 0), (6, cv), (7, .int .i64 0), (8, kv), (9, .int .i64 0), (10, .slice none 0 0), (48, tv), (49, .int .i64 (6 : Nat)), (50, .int .i64 (0 : Nat))] (by simp only [hasAll, kS1, bLookup, bMapSet, wantA, isCall, stepOp, evalO, evalL, evalP, evalM, putDst, flat, kA, kB, Nat.reduceLT, ↓reduceIte, kC, Nat.reduceEqDiff, aBuiltin, abinG, guardFree, abin, aInt, aUn, aNilCheck, retQ, retQ1, aresults, aresultL, aresult, mkF, undefV, reduceCtorEq, kD, kE, kF, kG, kH, kI, kJ, kK, aExtract, calleeOf]; simp) ⟨0, _, rfl, by omega, rfl, GS.nil 3 h8, Le.refl _, ap8⟩ ?_
  rintro k fr hq hwq ⟨i, wv, rfl, hi, rfl, gw, leq, aw⟩
  simp only [kS1, bLookup, bMapSet, wantA, isCall, stepOp, evalO, evalL, evalP, evalM, putDst, flat, kA, kB, Nat.reduceLT, ↓reduceIte, kC, Nat.reduceEqDiff, aBuiltin, abinG, guardFree, abin, aInt, aUn, aNilCheck, retQ, retQ1, aresults, aresultL, aresult, mkF, undefV, reduceCtorEq, kD, kE, kF, kG, kH, kI, kJ, kK, aExtract, calleeOf]
  refine KCond.intro (fun ht => ?_) (fun hf => ?_)
  · have hlt : i < 6 := lt_t ht
    clear ht
    have hpi := getElem?_of (show i < aw5L.length from hlt)
    have htk : aw5L.take (i + 1) = aw5L.take i ++ [aw5L[i]'(show i < aw5L.length from hlt)] := List.take_succ_eq_append_getElem (show i < aw5L.length from hlt)
    generalize aw5L[i]'(show i < aw5L.length from hlt) = p at hpi htk
    have ad := tAddr ht8 (k := .i64) i hlt
    have ld := tLoad (ht8.le leq) hpi
    obtain ⟨h9', h9, e9, e9s, l9, w9, q0, q1, q2⟩ := new78 hwq p
    have gw9 := gw.le l9
    have aw9 := aw
    obtain ⟨v', ha, hb, ea, eb, g', wb, la, fb, -⟩ := gw9.push w9 p (by simp; omega)
    obtain ⟨lb, ab⟩ := fb h8 (leq.trans l9) aw
    simp only [kS1, bLookup, bMapSet, wantA, isCall, stepOp, evalO, evalL, evalP, evalM, putDst, flat, kA, kB, Nat.reduceLT, ↓reduceIte, kC, Nat.reduceEqDiff, aBuiltin, abinG, guardFree, abin, aInt, aUn, aNilCheck, retQ, retQ1, aresults, aresultL, aresult, mkF, undefV, reduceCtorEq, kD, kE, kF, kG, kH, kI, kJ, kK, aExtract, calleeOf, ad, ld, e9, e9s, t0, t1, t2, aadd, Nat.zero_add, q0, q1, q2, bL, ea, eb, awrap_succ i (by omega)]
    exact loop_again (6 - (i + 1)) [(2, lv), (3, .int .i64 0), (4, bv), (5, .int .i64 0), (6, cv), (7, .int .i64 0), (8, kv), (9, .int .i64 0), (10, v'), (48, tv), (49, .int .i64 (6 : Nat)), (50, .int .i64 (i + 1 : Nat))] (by omega) (by simp only [hasAll, kS1, bLookup, bMapSet, wantA, isCall, stepOp, evalO, evalL, evalP, evalM, putDst, flat, kA, kB, Nat.reduceLT, ↓reduceIte, kC, Nat.reduceEqDiff, aBuiltin, abinG, guardFree, abin, aInt, aUn, aNilCheck, retQ, retQ1, aresults, aresultL, aresult, mkF, undefV, reduceCtorEq, kD, kE, kF, kG, kH, kI, kJ, kK, aExtract, calleeOf]; simp) ⟨i + 1, v', rfl, hlt, rfl, by rw [htk]; exact g', lb, ab⟩
  · have hge : 6 ≤ i := lt_f hf
    obtain rfl : i = 6 := by omega
    have l7q := l8.trans leq
    simp only [kS1, bLookup, bMapSet, wantA, isCall, stepOp, evalO, evalL, evalP, evalM, putDst, flat, kA, kB, Nat.reduceLT, ↓reduceIte, kC, Nat.reduceEqDiff, aBuiltin, abinG, guardFree, abin, aInt, aUn, aNilCheck, retQ, retQ1, aresults, aresultL, aresult, mkF, undefV, reduceCtorEq, kD, kE, kF, kG, kH, kI, kJ, kK, aExtract, calleeOf, wr0]
    refine KCall.intro (by simp only [kS1, bLookup, bMapSet, wantA, isCall, stepOp, evalO, evalL, evalP, evalM, putDst, flat, kA, kB, Nat.reduceLT, ↓reduceIte, kC, Nat.reduceEqDiff, aBuiltin, abinG, guardFree, abin, aInt, aUn, aNilCheck, retQ, retQ1, aresults, aresultL, aresult, mkF, undefV, reduceCtorEq, kD, kE, kF, kG, kH, kI, kJ, kK, aExtract, calleeOf] <;> rfl) ⟨Try.func21, rfl, by decide⟩ (SameLow_any W0 lv wv aw5L aw5L hq (ll7.le l7q) gw.lr (by decide)) ?_
    rintro x h9 w9 ⟨rfl, rfl⟩
    obtain ⟨ha, ea, la, wa, oa⟩ := alloc_f hwq (flatP [(4, 5)])
    have pa : PR ha (.slice (some ⟨h9.next, 0, none⟩) 1 1) [(4, 5)] := PR.made oa rfl
    simp only [kS1, bLookup, bMapSet, wantA, isCall, stepOp, evalO, evalL, evalP, evalM, putDst, flat, kA, kB, Nat.reduceLT, ↓reduceIte, kC, Nat.reduceEqDiff, aBuiltin, abinG, guardFree, abin, aInt, aUn, aNilCheck, retQ, retQ1, aresults, aresultL, aresult, mkF, undefV, reduceCtorEq, kD, kE, kF, kG, kH, kI, kJ, kK, aExtract, calleeOf, bP2, mkP1', ea]
    refine KCall.intro (by simp only [kS1, bLookup, bMapSet, wantA, isCall, stepOp, evalO, evalL, evalP, evalM, putDst, flat, kA, kB, Nat.reduceLT, ↓reduceIte, kC, Nat.reduceEqDiff, aBuiltin, abinG, guardFree, abin, aInt, aUn, aNilCheck, retQ, retQ1, aresults, aresultL, aresult, mkF, undefV, reduceCtorEq, kD, kE, kF, kG, kH, kI, kJ, kK, aExtract, calleeOf] <;> rfl) ⟨Try.func22, rfl, by decide⟩ (SamePairs_any W0 bv _ [(4, 5)] [(4, 5)] ha (lb7.le (l7q.trans la)).pr pa (by decide)) ?_
    rintro x hb wb ⟨rfl, rfl⟩
    obtain ⟨hc, ec, lc, wc, oc⟩ := alloc_f wa [.int .i64 2, .int .i64 4]
    have pc : RL isI hc (.slice (some ⟨hb.next, 0, none⟩) 2 2) [2, 4] := RL.ofI (RS.whole oc rfl)
    simp only [kS1, bLookup, bMapSet, wantA, isCall, stepOp, evalO, evalL, evalP, evalM, putDst, flat, kA, kB, Nat.reduceLT, ↓reduceIte, kC, Nat.reduceEqDiff, aBuiltin, abinG, guardFree, abin, aInt, aUn, aNilCheck, retQ, retQ1, aresults, aresultL, aresult, mkF, undefV, reduceCtorEq, kD, kE, kF, kG, kH, kI, kJ, kK, aExtract, calleeOf, mkI2, ec]
    refine KCall.intro (by simp only [kS1, bLookup, bMapSet, wantA, isCall, stepOp, evalO, evalL, evalP, evalM, putDst, flat, kA, kB, Nat.reduceLT, ↓reduceIte, kC, Nat.reduceEqDiff, aBuiltin, abinG, guardFree, abin, aInt, aUn, aNilCheck, retQ, retQ1, aresults, aresultL, aresult, mkF, undefV, reduceCtorEq, kD, kE, kF, kG, kH, kI, kJ, kK, aExtract, calleeOf] <;> rfl) ⟨Try.func27, rfl, by decide⟩ (SameInts_any W0 cv _ [2, 4] [2, 4] hc (lc7.le ((l7q.trans la).trans lc)).rl pc (by decide)) ?_
    rintro x hd wd ⟨rfl, rfl⟩
    obtain ⟨he, ee, le, we, oe⟩ := alloc_f wc (flatP [(0, 1), (0, 2), (1, 2)])
    have pe : PR he (.slice (some ⟨hd.next, 0, none⟩) 3 3) [(0, 1), (0, 2), (1, 2)] := PR.made oe rfl
    obtain ⟨hf', ef, lf, wf, of⟩ := alloc_f we (flatP [(2, 3), (2, 4), (3, 4)])
    have pf : PR hf' (.slice (some ⟨he.next, 0, none⟩) 3 3) [(2, 3), (2, 4), (3, 4)] := PR.made of rfl
    obtain ⟨hg, eg, lg, wg, og⟩ := alloc_f wf (flatP [(4, 5)])
    have pg : PR hg (.slice (some ⟨hf'.next, 0, none⟩) 1 1) [(4, 5)] := PR.made og rfl
    obtain ⟨hh, eh, lh, wh, oh⟩ := alloc_f wg [.slice (some ⟨hd.next, 0, none⟩) 3 3, .slice (some ⟨he.next, 0, none⟩) 3 3, .slice (some ⟨hf'.next, 0, none⟩) 1 1]
    have mk3 := mkPL3 hg pe.sl pf.sl pg.sl
    rw [eh] at mk3
    have pl : RL PR hh (.slice (some ⟨hg.next, 0, none⟩) 3 3) [[(0, 1), (0, 2), (1, 2)], [(2, 3), (2, 4), (3, 4)], [(4, 5)]] := by
      refine ⟨_, RS.whole oh rfl, rfl, fun i y u hy hu => ?_⟩
      match i with
      | 0 => simp at hy hu; subst hy hu; exact pe.le ((lf.trans lg).trans lh)
      | 1 => simp at hy hu; subst hy hu; exact pf.le (lg.trans lh)
      | 2 => simp at hy hu; subst hy hu; exact pg.le lh
      | i + 3 => simp at hy
    have l7h := ((((((l7q.trans la).trans lc).trans le).trans lf).trans lg).trans lh)
    simp only [kS1, bLookup, bMapSet, wantA, isCall, stepOp, evalO, evalL, evalP, evalM, putDst, flat, kA, kB, Nat.reduceLT, ↓reduceIte, kC, Nat.reduceEqDiff, aBuiltin, abinG, guardFree, abin, aInt, aUn, aNilCheck, retQ, retQ1, aresults, aresultL, aresult, mkF, undefV, reduceCtorEq, kD, kE, kF, kG, kH, kI, kJ, kK, aExtract, calleeOf, bP2, mkP3, mkP1', ee, ef, eg, mk3]
    refine KCall.intro (by simp only [kS1, bLookup, bMapSet, wantA, isCall, stepOp, evalO, evalL, evalP, evalM, putDst, flat, kA, kB, Nat.reduceLT, ↓reduceIte, kC, Nat.reduceEqDiff, aBuiltin, abinG, guardFree, abin, aInt, aUn, aNilCheck, retQ, retQ1, aresults, aresultL, aresult, mkF, undefV, reduceCtorEq, kD, kE, kF, kG, kH, kI, kJ, kK, aExtract, calleeOf] <;> rfl) ⟨Try.func28, rfl, by decide⟩ (SamePairLists_any W0 kv _ [[(0, 1), (0, 2), (1, 2)], [(2, 3), (2, 4), (3, 4)], [(4, 5)]] [[(0, 1), (0, 2), (1, 2)], [(2, 3), (2, 4), (3, 4)], [(4, 5)]] hh (hk.le Stays.PR l7h) pl (by decide) (by decide)) ?_
    rintro x hi' wi ⟨rfl, rfl⟩
    simp only [kS1, bLookup, bMapSet, wantA, isCall, stepOp, evalO, evalL, evalP, evalM, putDst, flat, kA, kB, Nat.reduceLT, ↓reduceIte, kC, Nat.reduceEqDiff, aBuiltin, abinG, guardFree, abin, aInt, aUn, aNilCheck, retQ, retQ1, aresults, aresultL, aresult, mkF, undefV, reduceCtorEq, kD, kE, kF, kG, kH, kI, kJ, kK, aExtract, calleeOf]
    exact ⟨trivial, l07.trans l7h⟩
end Go.Fw
