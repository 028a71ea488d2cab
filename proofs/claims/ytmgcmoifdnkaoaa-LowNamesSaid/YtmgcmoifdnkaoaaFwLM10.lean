/- One of the texts of the layer and the walks: it proves what its theorems say of the functions of the seat, with no condition beyond theirs. -/
import Derived.Test.YtmgcmoifdnkaoaaFwLT9
import Derived.Test.YtmgcmoifdnkaoaaFwLM4
import Derived.Test.YtmgcmoifdnkaoaaFwLW5
set_option linter.unusedSimpArgs false
set_option linter.unusedVariables false
namespace Go.Fw
open Go.Proofs
attribute [local irreducible] KO4 KO3 KO2 KO1 KO KN KX KE VK KCond KDraw KCall KLoop
set_option maxHeartbeats 16000000
set_option maxRecDepth 10000
attribute [local irreducible] lowM bridgesM cutsM blocksM keyE
theorem inc52_any (W0 : Base) (B : Nat) (q p : Pr) (h : AHeap) (o : h.own B = some (.cells (cellsP q))) : AC Try.prog W0 52 [valP p, .pointer (some ⟨B, 0, none⟩)] h fun x h' => x = .bool (decide (p = q)) ∧ Le h h' := by
  refine AC.vc (fn := Try.f52) (c := _) ⟨Try.func52, rfl, by decide⟩ Try.ntmps52 Try.results52 (by simp) fun hwf => ?_
  simp only [argFrame, argFrom, Nat.reduceAdd]
  obtain ⟨h1, e1, l1, w1, o1⟩ := alloc_f hwf (cellsP p)
  have ob := l1.own _ _ o
  have hab := (abinP p q).1
  simp only [kS1, bLookup, bMapSet, wantA, isCall, stepOp, evalO, evalL, evalP, evalM, putDst, flat, kA, kB, Nat.reduceLT, ↓reduceIte, kC, Nat.reduceEqDiff, aBuiltin, abinG, guardFree, abin, aInt, aUn, aNilCheck, retQ, retQ1, aresults, aresultL, aresult, mkF, undefV, reduceCtorEq, kD, kE, kF, kG, kH, kI, kJ, kK, aExtract, calleeOf, box42, e1, own42 o1, own42 ob, hab, -abinG]
  exact ⟨trivial, l1⟩
open Classical in
noncomputable def brD (es : List Pr) (p : Pr) : Bool := decide (Br es p)
open Classical in
theorem brD_iff (es : List Pr) (p : Pr) : brD es p = true ↔ Br es p := by unfold brD; exact decide_eq_true_iff
theorem woE_filter (es : List Pr) (p : Pr) : (es.filter fun q => !(decide (q = p))) = woE es p := by
  unfold woE
  refine List.filter_congr fun q _ => ?_
  by_cases e : q = p <;> simp [e]
theorem LowBridges_law (W0 : Base) (v : Value) (G : GM) (h : AHeap) (hg : GR h v G) : AC Try.prog W0 13 [v] h fun x h' => x = .bool true := by
  have hg0 := hg
  obtain ⟨gn, es⟩ := G
  obtain ⟨ev, rfl, hp⟩ := hg.open
  refine AC.vc (fn := Try.f13) (c := _) ⟨Try.func13, rfl, by decide⟩ Try.ntmps13 Try.results13 (by simp) fun hwf => ?_
  simp only [argFrame, argFrom, Nat.reduceAdd]
  obtain ⟨h1, b1, le1, wf1, -, lA⟩ := boxG (n := gn) hwf hp
  generalize h.next = B at *
  have lA1 := lA h1 (Le.refl _)
  simp only [kS1, bLookup, bMapSet, wantA, isCall, stepOp, evalO, evalL, evalP, evalM, putDst, flat, kA, kB, Nat.reduceLT, ↓reduceIte, kC, Nat.reduceEqDiff, aBuiltin, abinG, guardFree, abin, aInt, aUn, aNilCheck, retQ, retQ1, aresults, aresultL, aresult, mkF, undefV, reduceCtorEq, kD, kE, kF, kG, kH, kI, kJ, kK, aExtract, calleeOf, b1, lA1.1]
  refine KCall.intro (by simp only [kS1, bLookup, bMapSet, wantA, isCall, stepOp, evalO, evalL, evalP, evalM, putDst, flat, kA, kB, Nat.reduceLT, ↓reduceIte, kC, Nat.reduceEqDiff, aBuiltin, abinG, guardFree, abin, aInt, aUn, aNilCheck, retQ, retQ1, aresults, aresultL, aresult, mkF, undefV, reduceCtorEq, kD, kE, kF, kG, kH, kI, kJ, kK, aExtract, calleeOf] <;> rfl) ⟨Try.func31, rfl, by decide⟩ (right_any W0 _ _ h1 (hg0.le le1)) ?_
  rintro x h2 wf2 ⟨⟨bb, rfl, hbb⟩, le2⟩
  cases bb with
  | false =>
    simp only [kS1, bLookup, bMapSet, wantA, isCall, stepOp, evalO, evalL, evalP, evalM, putDst, flat, kA, kB, Nat.reduceLT, ↓reduceIte, kC, Nat.reduceEqDiff, aBuiltin, abinG, guardFree, abin, aInt, aUn, aNilCheck, retQ, retQ1, aresults, aresultL, aresult, mkF, undefV, reduceCtorEq, kD, kE, kF, kG, kH, kI, kJ, kK, aExtract, calleeOf]
    refine KCall.intro (by simp only [kS1, bLookup, bMapSet, wantA, isCall, stepOp, evalO, evalL, evalP, evalM, putDst, flat, kA, kB, Nat.reduceLT, ↓reduceIte, kC, Nat.reduceEqDiff, aBuiltin, abinG, guardFree, abin, aInt, aUn, aNilCheck, retQ, retQ1, aresults, aresultL, aresult, mkF, undefV, reduceCtorEq, kD, kE, kF, kG, kH, kI, kJ, kK, aExtract, calleeOf] <;> rfl) ⟨Try.func15, rfl, by decide⟩ (awake_any W0 h2) ?_
    rintro x h3 w3 ⟨rfl, l3⟩
    simp only [kS1, bLookup, bMapSet, wantA, isCall, stepOp, evalO, evalL, evalP, evalM, putDst, flat, kA, kB, Nat.reduceLT, ↓reduceIte, kC, Nat.reduceEqDiff, aBuiltin, abinG, guardFree, abin, aInt, aUn, aNilCheck, retQ, retQ1, aresults, aresultL, aresult, mkF, undefV, reduceCtorEq, kD, kE, kF, kG, kH, kI, kJ, kK, aExtract, calleeOf]
  | true =>
  obtain ⟨hr, hn24⟩ := hbb.1 rfl
  clear hbb
  have h0 : 0 ≤ gn := hr.n0
  obtain ⟨n, rfl⟩ := Int.eq_ofNat_of_zero_le h0
  simp only at hn24
  have hR := hr.inR
  have hA := hr.asc
  have h594 : es.length ≤ 594 := hr.len
  have lA2 := lA h2 le2
  simp only [kS1, bLookup, bMapSet, wantA, isCall, stepOp, evalO, evalL, evalP, evalM, putDst, flat, kA, kB, Nat.reduceLT, ↓reduceIte, kC, Nat.reduceEqDiff, aBuiltin, abinG, guardFree, abin, aInt, aUn, aNilCheck, retQ, retQ1, aresults, aresultL, aresult, mkF, undefV, reduceCtorEq, kD, kE, kF, kG, kH, kI, kJ, kK, aExtract, calleeOf, lA2.1]
  refine KCall.intro (by simp only [kS1, bLookup, bMapSet, wantA, isCall, stepOp, evalO, evalL, evalP, evalM, putDst, flat, kA, kB, Nat.reduceLT, ↓reduceIte, kC, Nat.reduceEqDiff, aBuiltin, abinG, guardFree, abin, aInt, aUn, aNilCheck, retQ, retQ1, aresults, aresultL, aresult, mkF, undefV, reduceCtorEq, kD, kE, kF, kG, kH, kI, kJ, kK, aExtract, calleeOf] <;> rfl) ⟨Try.func19, rfl, by decide⟩ (Bridges_any W0 _ _ h2 (hg0.le (le1.trans le2))) ?_
  rintro x h3 w3 ⟨l3, ⟨hn, _⟩ | ⟨_, bv, rfl, gb, _⟩⟩
  · exact absurd hr hn
  simp only [Int.toNat_natCast] at gb
  have le3 := le2.trans l3
  have lA3 := lA h3 le3
  simp only [kS1, bLookup, bMapSet, wantA, isCall, stepOp, evalO, evalL, evalP, evalM, putDst, flat, kA, kB, Nat.reduceLT, ↓reduceIte, kC, Nat.reduceEqDiff, aBuiltin, abinG, guardFree, abin, aInt, aUn, aNilCheck, retQ, retQ1, aresults, aresultL, aresult, mkF, undefV, reduceCtorEq, kD, kE, kF, kG, kH, kI, kJ, kK, aExtract, calleeOf, lA3.1]
  refine KCall.intro (by simp only [kS1, bLookup, bMapSet, wantA, isCall, stepOp, evalO, evalL, evalP, evalM, putDst, flat, kA, kB, Nat.reduceLT, ↓reduceIte, kC, Nat.reduceEqDiff, aBuiltin, abinG, guardFree, abin, aInt, aUn, aNilCheck, retQ, retQ1, aresults, aresultL, aresult, mkF, undefV, reduceCtorEq, kD, kE, kF, kG, kH, kI, kJ, kK, aExtract, calleeOf] <;> rfl) ⟨Try.func25, rfl, by decide⟩ (Blocks_any W0 _ _ h3 (hg0.le (le1.trans le3))) ?_
  rintro x h4 w4 ⟨l4, ⟨hn, _⟩ | ⟨_, lv, rfl, hl⟩⟩
  · exact absurd hr hn
  simp only [Int.toNat_natCast] at hl
  have le4 := le3.trans l4
  have lA4 := lA h4 le4
  simp only [kS1, bLookup, bMapSet, wantA, isCall, stepOp, evalO, evalL, evalP, evalM, putDst, flat, kA, kB, Nat.reduceLT, ↓reduceIte, kC, Nat.reduceEqDiff, aBuiltin, abinG, guardFree, abin, aInt, aUn, aNilCheck, retQ, retQ1, aresults, aresultL, aresult, mkF, undefV, reduceCtorEq, kD, kE, kF, kG, kH, kI, kJ, kK, aExtract, calleeOf, lA4.1]
  refine KCall.intro (by simp only [kS1, bLookup, bMapSet, wantA, isCall, stepOp, evalO, evalL, evalP, evalM, putDst, flat, kA, kB, Nat.reduceLT, ↓reduceIte, kC, Nat.reduceEqDiff, aBuiltin, abinG, guardFree, abin, aInt, aUn, aNilCheck, retQ, retQ1, aresults, aresultL, aresult, mkF, undefV, reduceCtorEq, kD, kE, kF, kG, kH, kI, kJ, kK, aExtract, calleeOf] <;> rfl) ⟨Try.func33, rfl, by decide⟩ (at_any W0 _ lv n es _ h4 (hg0.le (le1.trans le4)) hr hl (blocks_AtS hr)) ?_
  rintro x h5 w5 ⟨M, al, rfl, oM, hal, l5, nM⟩
  have le5 := le4.trans l5
  have lA5 := lA h5 le5
  simp only [kS1, bLookup, bMapSet, wantA, isCall, stepOp, evalO, evalL, evalP, evalM, putDst, flat, kA, kB, Nat.reduceLT, ↓reduceIte, kC, Nat.reduceEqDiff, aBuiltin, abinG, guardFree, abin, aInt, aUn, aNilCheck, retQ, retQ1, aresults, aresultL, aresult, mkF, undefV, reduceCtorEq, kD, kE, kF, kG, kH, kI, kJ, kK, aExtract, calleeOf, bne, wr0, lA5.1]
  refine KCall.intro (by simp only [kS1, bLookup, bMapSet, wantA, isCall, stepOp, evalO, evalL, evalP, evalM, putDst, flat, kA, kB, Nat.reduceLT, ↓reduceIte, kC, Nat.reduceEqDiff, aBuiltin, abinG, guardFree, abin, aInt, aUn, aNilCheck, retQ, retQ1, aresults, aresultL, aresult, mkF, undefV, reduceCtorEq, kD, kE, kF, kG, kH, kI, kJ, kK, aExtract, calleeOf] <;> rfl) ⟨Try.func50, rfl, by decide⟩ (Parts_any W0 _ ⟨(n : Int), es⟩ h5 (hg0.le (le1.trans le5)) hr) ?_
  rintro pv h6 w6 ⟨gp, l6, -⟩
  simp only [Int.toNat_natCast] at gp
  have le6 := le5.trans l6
  have lp := fun g => (gp.rl (Stays.RL Stays.isI)).len (P := Try.prog) Try.underlying57 g
  have hpl : ((partsN n es n).map nat64).length = (heads n es).length := by simp [partsN]
  rw [hpl] at lp
  have lA6 := lA h6 le6
  have oM6 := l6.own _ _ oM
  have hl6 := hl.le Stays.PR (l5.trans l6)
  have gb6 := gb.le ((l4.trans l5).trans l6)
  have hlen := fun g => hp.len g
  simp only [kS1, bLookup, bMapSet, wantA, isCall, stepOp, evalO, evalL, evalP, evalM, putDst, flat, kA, kB, Nat.reduceLT, ↓reduceIte, kC, Nat.reduceEqDiff, aBuiltin, abinG, guardFree, abin, aInt, aUn, aNilCheck, retQ, retQ1, aresults, aresultL, aresult, mkF, undefV, reduceCtorEq, kD, kE, kF, kG, kH, kI, kJ, kK, aExtract, calleeOf, lp, fg1, aadd, Nat.zero_add, lA6.2.2, hlen]
  have hnil : Apart h6 (.slice none 0 0) := fun b hb => by cases hb
  have hhl := heads_length n es
  refine KLoop.intro (fun k fr hq => ∃ (i : Nat) (wv : Value), k = es.length - i ∧ i ≤ es.length ∧ fr = mkF [(1, .pointer (some ⟨B, 0, none⟩)), (3, bv), (5, lv), (7, .map (some M)), (9, .int .i64 (heads n es).length), (10, wv), (47, ev), (48, .int .i64 es.length), (49, .int .i64 i)] ∧
      GP hq wv ((es.take i).filter (brD es)) ∧ Le h6 hq ∧ Apart h6 wv)
    es.length [(1, .pointer (some ⟨B, 0, none⟩)), (3, bv), (5, lv), (7, .map (some M)), (9, .int .i64 (heads n es).length), (10, .slice none 0 0), (47, ev), (48, .int .i64 es.length), (49, .int .i64 (0 : Nat))] (by simp only [hasAll, kS1, bLookup, bMapSet, wantA, isCall, stepOp, evalO, evalL, evalP, evalM, putDst, flat, kA, kB, Nat.reduceLT, ↓reduceIte, kC, Nat.reduceEqDiff, aBuiltin, abinG, guardFree, abin, aInt, aUn, aNilCheck, retQ, retQ1, aresults, aresultL, aresult, mkF, undefV, reduceCtorEq, kD, kE, kF, kG, kH, kI, kJ, kK, aExtract, calleeOf]; simp)
    ⟨0, _, rfl, Nat.zero_le _, rfl, GP.nil _, Le.refl _, hnil⟩ ?_
  rintro k fr hq hwq ⟨i, wv, rfl, hi, rfl, gw, leq, aw⟩
  have hfl0 : ((es.take i).filter (brD es)).length ≤ i := by have := List.length_filter_le (brD es) (es.take i); simp at this; omega
  simp only [kS1, bLookup, bMapSet, wantA, isCall, stepOp, evalO, evalL, evalP, evalM, putDst, flat, kA, kB, Nat.reduceLT, ↓reduceIte, kC, Nat.reduceEqDiff, aBuiltin, abinG, guardFree, abin, aInt, aUn, aNilCheck, retQ, retQ1, aresults, aresultL, aresult, mkF, undefV, reduceCtorEq, kD, kE, kF, kG, kH, kI, kJ, kK, aExtract, calleeOf]
  refine KCond.intro (fun ht => ?_) (fun hf => ?_)
  rotate_left
  · have hge : es.length ≤ i := lt_f hf
    rw [List.take_of_length_le hge] at gw
    have hbe : bridgesM n es = es.filter (brD es) := bridges_eq hR hA
    rw [hbe] at gb6
    simp only [kS1, bLookup, bMapSet, wantA, isCall, stepOp, evalO, evalL, evalP, evalM, putDst, flat, kA, kB, Nat.reduceLT, ↓reduceIte, kC, Nat.reduceEqDiff, aBuiltin, abinG, guardFree, abin, aInt, aUn, aNilCheck, retQ, retQ1, aresults, aresultL, aresult, mkF, undefV, reduceCtorEq, kD, kE, kF, kG, kH, kI, kJ, kK, aExtract, calleeOf]
    refine KCall.intro (by simp only [kS1, bLookup, bMapSet, wantA, isCall, stepOp, evalO, evalL, evalP, evalM, putDst, flat, kA, kB, Nat.reduceLT, ↓reduceIte, kC, Nat.reduceEqDiff, aBuiltin, abinG, guardFree, abin, aInt, aUn, aNilCheck, retQ, retQ1, aresults, aresultL, aresult, mkF, undefV, reduceCtorEq, kD, kE, kF, kG, kH, kI, kJ, kK, aExtract, calleeOf] <;> rfl) ⟨Try.func22, rfl, by decide⟩ (SamePairs_any W0 bv wv _ _ hq (gb6.le leq).pr gw.pr (by have := List.length_filter_le (brD es) es; omega)) ?_
    rintro x h9 w9 ⟨rfl, rfl⟩
    simp only [kS1, bLookup, bMapSet, wantA, isCall, stepOp, evalO, evalL, evalP, evalM, putDst, flat, kA, kB, Nat.reduceLT, ↓reduceIte, kC, Nat.reduceEqDiff, aBuiltin, abinG, guardFree, abin, aInt, aUn, aNilCheck, retQ, retQ1, aresults, aresultL, aresult, mkF, undefV, reduceCtorEq, kD, kE, kF, kG, kH, kI, kJ, kK, aExtract, calleeOf]
    refine KCall.intro (by simp only [kS1, bLookup, bMapSet, wantA, isCall, stepOp, evalO, evalL, evalP, evalM, putDst, flat, kA, kB, Nat.reduceLT, ↓reduceIte, kC, Nat.reduceEqDiff, aBuiltin, abinG, guardFree, abin, aInt, aUn, aNilCheck, retQ, retQ1, aresults, aresultL, aresult, mkF, undefV, reduceCtorEq, kD, kE, kF, kG, kH, kI, kJ, kK, aExtract, calleeOf] <;> rfl) ⟨Try.func15, rfl, by decide⟩ (awake_any W0 h9) ?_
    rintro x h10 w10 ⟨rfl, l10⟩
    simp only [kS1, bLookup, bMapSet, wantA, isCall, stepOp, evalO, evalL, evalP, evalM, putDst, flat, kA, kB, Nat.reduceLT, ↓reduceIte, kC, Nat.reduceEqDiff, aBuiltin, abinG, guardFree, abin, aInt, aUn, aNilCheck, retQ, retQ1, aresults, aresultL, aresult, mkF, undefV, reduceCtorEq, kD, kE, kF, kG, kH, kI, kJ, kK, aExtract, calleeOf]
  have hlt : i < es.length := lt_t ht
  clear ht
  have hpi := getElem?_of hlt
  have htk : es.take (i + 1) = es.take i ++ [es[i]] := List.take_succ_eq_append_getElem hlt
  generalize es[i] = p at hpi htk
  have hpm := List.mem_of_getElem? hpi
  have ad := hp.addr (k := .i64) i hlt
  have le1q := le1.trans (le6.trans leq)
  have ld := (hp.le le1q).load hpi
  obtain ⟨h7', h7, e7, e7s, l7, w7, o7⟩ := new42 hwq p
  have nE : hq.own hq.next = none := (Le.refl hq).next hwq (Nat.le_refl _)
  generalize hq.next = E at *
  have lA7 := lA h7 (le6.trans (leq.trans l7))
  simp only [kS1, bLookup, bMapSet, wantA, isCall, stepOp, evalO, evalL, evalP, evalM, putDst, flat, kA, kB, Nat.reduceLT, ↓reduceIte, kC, Nat.reduceEqDiff, aBuiltin, abinG, guardFree, abin, aInt, aUn, aNilCheck, retQ, retQ1, aresults, aresultL, aresult, mkF, undefV, reduceCtorEq, kD, kE, kF, kG, kH, kI, kJ, kK, aExtract, calleeOf, ad, ld, e7, e7s, lA7.1]
  refine KCall.intro (by simp only [kS1, bLookup, bMapSet, wantA, isCall, stepOp, evalO, evalL, evalP, evalM, putDst, flat, kA, kB, Nat.reduceLT, ↓reduceIte, kC, Nat.reduceEqDiff, aBuiltin, abinG, guardFree, abin, aInt, aUn, aNilCheck, retQ, retQ1, aresults, aresultL, aresult, mkF, undefV, reduceCtorEq, kD, kE, kF, kG, kH, kI, kJ, kK, aExtract, calleeOf] <;> rfl) ⟨Try.func35, rfl, by decide⟩ (without_any W0 (.agg #[.int .i64 (n : Int), ev]) ⟨(n : Int), es⟩ (fun q => decide (q = p)) 52 ⟨Try.func52, rfl, by decide⟩ [.pointer (some ⟨E, 0, none⟩)] h7 (hg0.le (le1q.trans l7)) (by simp only; omega) (fun g q l => inc52_any W0 E p q g (l.own _ _ o7))) ?_
  rintro x h8 w8 ⟨xv, rfl, gx, l8, ax⟩
  rw [woE_filter] at gx
  obtain ⟨h9', h9, e9, e9s, l9, w9, lG9⟩ := newG w8 (n := (n : Int)) gx.pr
  have hrx : RightG ⟨(n : Int), woE es p⟩ := hr.sub List.filter_sublist
  have gx9 := gx.le l9
  have lgx := (lG9 h9 (Le.refl _)).1
  simp only [kS1, bLookup, bMapSet, wantA, isCall, stepOp, evalO, evalL, evalP, evalM, putDst, flat, kA, kB, Nat.reduceLT, ↓reduceIte, kC, Nat.reduceEqDiff, aBuiltin, abinG, guardFree, abin, aInt, aUn, aNilCheck, retQ, retQ1, aresults, aresultL, aresult, mkF, undefV, reduceCtorEq, kD, kE, kF, kG, kH, kI, kJ, kK, aExtract, calleeOf, e9, e9s, lgx]
  generalize h8.next = X at *
  refine KCall.intro (by simp only [kS1, bLookup, bMapSet, wantA, isCall, stepOp, evalO, evalL, evalP, evalM, putDst, flat, kA, kB, Nat.reduceLT, ↓reduceIte, kC, Nat.reduceEqDiff, aBuiltin, abinG, guardFree, abin, aInt, aUn, aNilCheck, retQ, retQ1, aresults, aresultL, aresult, mkF, undefV, reduceCtorEq, kD, kE, kF, kG, kH, kI, kJ, kK, aExtract, calleeOf] <;> rfl) ⟨Try.func50, rfl, by decide⟩ (Parts_any W0 (.agg #[.int .i64 (n : Int), xv]) ⟨(n : Int), woE es p⟩ h9 ⟨xv, rfl, gx9.pr⟩ hrx) ?_
  rintro pv2 h10 w10 ⟨gp2, l10, -⟩
  simp only [Int.toNat_natCast] at gp2
  have lp2 := fun g => (gp2.rl (Stays.RL Stays.isI)).len (P := Try.prog) Try.underlying57 g
  have hpl2 : ((partsN n (woE es p) n).map nat64).length = (heads n (woE es p)).length := by simp [partsN]
  rw [hpl2] at lp2
  have l7a := (l8.trans l9).trans l10
  have leqa := leq.trans (l7.trans l7a)
  have o10 := l7a.own _ _ o7
  have gw10 := gw.le (l7.trans l7a)
  have hmore : decide ((((heads n (woE es p)).length : Nat) : Int) > (((heads n es).length : Nat) : Int)) = brD es p := by
    rw [Bool.eq_iff_iff, decide_eq_true_eq, brD_iff, ← more_iff hR hpm]; omega
  obtain ⟨k, b, hbk, hpb, hmet⟩ := met_ex hr hpm
  have hlk : lookK al p = some (k : Int) := (hal _ _).2 hmet
  have hbl : b = es.filter fun q => decide (keyE n es q = keyE n es p) := by
    obtain ⟨k', hk', rfl⟩ := blocks_get hbk
    have := ((blocks_in hbk hk').1 hpb).2
    rw [this]
  have hone : decide (((b.length : Nat) : Int) = 1) = brD es p := by
    rw [Bool.eq_iff_iff, decide_eq_true_eq, brD_iff, ← single_iff hr hpm, ← hbl]; omega
  have hkl := (List.getElem?_eq_some_iff.1 hbk).1
  have hbk' := (List.getElem?_eq_some_iff.1 hbk).2
  have adk := hl6.addr (P := Try.prog) Try.underlying38 Try.underlying22 (by kernel_rfl) (k := .i64) k hkl
  obtain ⟨u, ldk, hu⟩ := hl6.load' (P := Try.prog) Try.underlying22 rfl k hkl
  rw [hbk'] at hu
  have lu := fun g => hu.len g
  have lkm : ∀ g, Le h6 g → aLookupA Try.prog g 54 (.map (some M)) (valP p) false = some (.int .i64 (k : Int)) := fun g l => by
    rw [mapP_look (l.own _ _ oM6), hlk]; rfl
  have hfl : (es.take (i + 1)).filter (brD es) = (es.take i).filter (brD es) ++ cond (brD es p) [p] [] := by
    rw [htk, List.filter_append]; cases h : brD es p <;> simp [h]
  have lpe := own42 o10
  simp only [kS1, bLookup, bMapSet, wantA, isCall, stepOp, evalO, evalL, evalP, evalM, putDst, flat, kA, kB, Nat.reduceLT, ↓reduceIte, kC, Nat.reduceEqDiff, aBuiltin, abinG, guardFree, abin, aInt, aUn, aNilCheck, retQ, retQ1, aresults, aresultL, aresult, mkF, undefV, reduceCtorEq, kD, kE, kF, kG, kH, kI, kJ, kK, aExtract, calleeOf, lp2, hmore]
  cases hb : brD es p with
  | true =>
    rw [hb] at hone hfl
    obtain ⟨v', g4, g5, q4, q5, gw5, w5', lq4, f5, k5⟩ := gw10.push w10 p (by omega)
    obtain ⟨l5', a5'⟩ := f5 h6 leqa aw
    obtain ⟨oE5, _⟩ := k5 E _ o10 (fun e => GS.blk_own gw e nE)
    have lpe5 := own42 oE5
    have lk5 := lkm g5 l5'
    have ldk5 := ldk g5 l5'
    simp only [kS1, bLookup, bMapSet, wantA, isCall, stepOp, evalO, evalL, evalP, evalM, putDst, flat, kA, kB, Nat.reduceLT, ↓reduceIte, kC, Nat.reduceEqDiff, aBuiltin, abinG, guardFree, abin, aInt, aUn, aNilCheck, retQ, retQ1, aresults, aresultL, aresult, mkF, undefV, reduceCtorEq, kD, kE, kF, kG, kH, kI, kJ, kK, aExtract, calleeOf, lpe, q4, q5, lpe5, lookP_none, lk5, adk, ldk5, lu, hone, bne, Try.underlying4, aEq, awrap_succ i (by omega)]
    exact loop_again (es.length - (i + 1)) [(1, .pointer (some ⟨B, 0, none⟩)), (3, bv), (5, lv), (7, .map (some M)), (9, .int .i64 (heads n es).length), (10, v'), (47, ev), (48, .int .i64 es.length), (49, .int .i64 (i + 1 : Nat))] (by omega) (by simp only [hasAll, kS1, bLookup, bMapSet, wantA, isCall, stepOp, evalO, evalL, evalP, evalM, putDst, flat, kA, kB, Nat.reduceLT, ↓reduceIte, kC, Nat.reduceEqDiff, aBuiltin, abinG, guardFree, abin, aInt, aUn, aNilCheck, retQ, retQ1, aresults, aresultL, aresult, mkF, undefV, reduceCtorEq, kD, kE, kF, kG, kH, kI, kJ, kK, aExtract, calleeOf]; simp)
      ⟨i + 1, v', rfl, hlt, rfl, by rw [hfl]; exact gw5, l5', a5'⟩
  | false =>
    rw [hb] at hone hfl
    have lk5 := lkm h10 leqa
    have ldk5 := ldk h10 leqa
    simp only [kS1, bLookup, bMapSet, wantA, isCall, stepOp, evalO, evalL, evalP, evalM, putDst, flat, kA, kB, Nat.reduceLT, ↓reduceIte, kC, Nat.reduceEqDiff, aBuiltin, abinG, guardFree, abin, aInt, aUn, aNilCheck, retQ, retQ1, aresults, aresultL, aresult, mkF, undefV, reduceCtorEq, kD, kE, kF, kG, kH, kI, kJ, kK, aExtract, calleeOf, lpe, lookP_none, lk5, adk, ldk5, lu, hone, bne, Try.underlying4, aEq, awrap_succ i (by omega)]
    exact loop_again (es.length - (i + 1)) [(1, .pointer (some ⟨B, 0, none⟩)), (3, bv), (5, lv), (7, .map (some M)), (9, .int .i64 (heads n es).length), (10, wv), (47, ev), (48, .int .i64 es.length), (49, .int .i64 (i + 1 : Nat))] (by omega) (by simp only [hasAll, kS1, bLookup, bMapSet, wantA, isCall, stepOp, evalO, evalL, evalP, evalM, putDst, flat, kA, kB, Nat.reduceLT, ↓reduceIte, kC, Nat.reduceEqDiff, aBuiltin, abinG, guardFree, abin, aInt, aUn, aNilCheck, retQ, retQ1, aresults, aresultL, aresult, mkF, undefV, reduceCtorEq, kD, kE, kF, kG, kH, kI, kJ, kK, aExtract, calleeOf]; simp)
      ⟨i + 1, wv, rfl, hlt, rfl, by rw [hfl]; simpa using gw10, leqa, aw⟩
end Go.Fw
