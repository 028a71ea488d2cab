/- One of the texts of the layer and the walks: it proves what its theorems say of the functions of the seat, with no condition beyond theirs. -/
import Derived.Test.YtmakcgajgepabaaFwW11
import Derived.Test.YtmakcgajgepabaaFwW10
import Derived.Test.YtmakcgajgepabaaFwW7
set_option linter.unusedSimpArgs false
set_option linter.unusedVariables false
namespace Go.Fw
open Go.Proofs
attribute [local irreducible] KO4 KO3 KO2 KO1 KO KN KX KE VK KCond KDraw KCall KLoop
set_option maxHeartbeats 8000000
set_option maxRecDepth 10000
theorem Chosen_any (W0 : World) (v bv : Value) (G : GM) (bs : List Bool) (h : AHeap) (hg : GR h v G) (hb : RL isBo h bv bs) (hn : G.es.length ≤ 1000) :
    AC Try.prog W0 18 [v, bv] h fun x h' => GP h' x (selM G.es bs G.es.length) ∧ Le h h' ∧ Apart h x := by
  have hg0 := hg
  obtain ⟨gn, es⟩ := G
  obtain ⟨ev, rfl, hp⟩ := hg.open
  simp only at hn ⊢
  refine AC.vc (fn := Try.f18) (c := _) ⟨Try.func18, rfl, by decide⟩ Try.ntmps18 Try.results18 (by simp) fun hwf => ?_
  simp only [argFrame, argFrom, Nat.reduceAdd]
  obtain ⟨h1, b1, le1, wf1, -, lA⟩ := boxG (n := gn) hwf hp
  generalize h.next = B at *
  have lA1 := lA h1 (Le.refl _)
  have ll := fun g => hp.len g
  have lb := fun g => hb.len (P := Try.prog) Try.underlying35 g
  simp only [kS1, bLookup, bMapSet, wantA, isCall, stepOp, evalO, evalL, evalP, evalM, putDst, flat, kA, kB, Nat.reduceLT, ↓reduceIte, kC, Nat.reduceEqDiff, aBuiltin, abinG, guardFree, abin, aInt, aUn, aNilCheck, retQ, retQ1, aresults, aresultL, aresult, mkF, undefV, reduceCtorEq, kD, kE, kF, kG, kH, kI, kJ, kK, aExtract, calleeOf, b1, fg1, aadd, Nat.zero_add, lA1.2.2, ll]
  refine KLoop.intro (fun k fr hq => ∃ (i : Nat) (ov : Value), k = es.length - i ∧ i ≤ es.length ∧ fr = mkF [(1, bv), (5, ov), (9, ev), (10, .int .i64 es.length), (11, .int .i64 i)] ∧ GP hq ov (selM es bs i) ∧ Le h1 hq ∧ Apart h1 ov)
    es.length [(1, bv), (5, .slice none 0 0), (9, ev), (10, .int .i64 es.length), (11, .int .i64 (0 : Nat))] (by simp only [hasAll, kS1, bLookup, bMapSet, wantA, isCall, stepOp, evalO, evalL, evalP, evalM, putDst, flat, kA, kB, Nat.reduceLT, ↓reduceIte, kC, Nat.reduceEqDiff, aBuiltin, abinG, guardFree, abin, aInt, aUn, aNilCheck, retQ, retQ1, aresults, aresultL, aresult, mkF, undefV, reduceCtorEq, kD, kE, kF, kG, kH, kI, kJ, kK, aExtract, calleeOf]; simp) ⟨0, _, rfl, Nat.zero_le _, rfl, GP.nil h1, Le.refl _, fun b hb => by simp [blk] at hb⟩ ?_
  rintro k fr hq hwq ⟨i, ov, rfl, hi, rfl, gp, leq, ap⟩
  simp only [kS1, bLookup, bMapSet, wantA, isCall, stepOp, evalO, evalL, evalP, evalM, putDst, flat, kA, kB, Nat.reduceLT, ↓reduceIte, kC, Nat.reduceEqDiff, aBuiltin, abinG, guardFree, abin, aInt, aUn, aNilCheck, retQ, retQ1, aresults, aresultL, aresult, mkF, undefV, reduceCtorEq, kD, kE, kF, kG, kH, kI, kJ, kK, aExtract, calleeOf]
  refine KCond.intro (fun ht => ?_) (fun hf => ?_)
  rotate_left
  · have hge : es.length ≤ i := lt_f hf
    obtain rfl : i = es.length := by omega
    simp only [kS1, bLookup, bMapSet, wantA, isCall, stepOp, evalO, evalL, evalP, evalM, putDst, flat, kA, kB, Nat.reduceLT, ↓reduceIte, kC, Nat.reduceEqDiff, aBuiltin, abinG, guardFree, abin, aInt, aUn, aNilCheck, retQ, retQ1, aresults, aresultL, aresult, mkF, undefV, reduceCtorEq, kD, kE, kF, kG, kH, kI, kJ, kK, aExtract, calleeOf]
    exact ⟨gp, le1.trans leq, fun b hb => le1.none (ap b hb)⟩
  have hlt : i < es.length := lt_t ht
  clear ht
  have hpi := getElem?_of hlt
  generalize es[i] = p at hpi
  have ad := hp.addr (k := .i64) i hlt
  have ld := (hp.le (le1.trans leq)).load hpi
  obtain ⟨h2, h3, a2, s2, l3, w3, o3⟩ := new42 hwq p
  have gp3 := gp.le l3
  have l13 := leq.trans l3
  have ld3 := own42 o3
  have hsl := selM_length es bs i
  by_cases c1 : (i : Int) < bs.length
  · have hib : i < bs.length := by omega
    have adb := hb.addrBo (k := .i64) i hib
    have ldb := (hb.le Stays.isBo (le1.trans l13)).loadBo i hib
    have hbi : bs.getD i false = bs[i] := getD_of hib
    generalize bs[i] = bb at ldb hbi
    cases bb with
    | true =>
      obtain ⟨ov', h4, h5, e4, e5, g5, w5, l4, hf5, hk5⟩ := gp3.push w3 p (by omega)
      obtain ⟨l5, a5⟩ := hf5 h1 l13 ap
      simp only [kS1, bLookup, bMapSet, wantA, isCall, stepOp, evalO, evalL, evalP, evalM, putDst, flat, kA, kB, Nat.reduceLT, ↓reduceIte, kC, Nat.reduceEqDiff, aBuiltin, abinG, guardFree, abin, aInt, aUn, aNilCheck, retQ, retQ1, aresults, aresultL, aresult, mkF, undefV, reduceCtorEq, kD, kE, kF, kG, kH, kI, kJ, kK, aExtract, calleeOf, ad, ld, a2, s2, lb, c1, adb, ldb, ld3, e4, e5, awrap_succ i (by omega)]
      refine loop_again (es.length - (i + 1)) [(1, bv), (5, ov'), (9, ev), (10, .int .i64 es.length), (11, .int .i64 (i + 1 : Nat))] (by omega) (by simp only [hasAll, kS1, bLookup, bMapSet, wantA, isCall, stepOp, evalO, evalL, evalP, evalM, putDst, flat, kA, kB, Nat.reduceLT, ↓reduceIte, kC, Nat.reduceEqDiff, aBuiltin, abinG, guardFree, abin, aInt, aUn, aNilCheck, retQ, retQ1, aresults, aresultL, aresult, mkF, undefV, reduceCtorEq, kD, kE, kF, kG, kH, kI, kJ, kK, aExtract, calleeOf]; simp) ⟨i + 1, ov', rfl, hlt, rfl, ?_, l5, a5⟩
      simp only [selM, hpi, hbi, if_true]; exact g5
    | false =>
      simp only [kS1, bLookup, bMapSet, wantA, isCall, stepOp, evalO, evalL, evalP, evalM, putDst, flat, kA, kB, Nat.reduceLT, ↓reduceIte, kC, Nat.reduceEqDiff, aBuiltin, abinG, guardFree, abin, aInt, aUn, aNilCheck, retQ, retQ1, aresults, aresultL, aresult, mkF, undefV, reduceCtorEq, kD, kE, kF, kG, kH, kI, kJ, kK, aExtract, calleeOf, ad, ld, a2, s2, lb, c1, adb, ldb, awrap_succ i (by omega)]
      refine loop_again (es.length - (i + 1)) [(1, bv), (5, ov), (9, ev), (10, .int .i64 es.length), (11, .int .i64 (i + 1 : Nat))] (by omega) (by simp only [hasAll, kS1, bLookup, bMapSet, wantA, isCall, stepOp, evalO, evalL, evalP, evalM, putDst, flat, kA, kB, Nat.reduceLT, ↓reduceIte, kC, Nat.reduceEqDiff, aBuiltin, abinG, guardFree, abin, aInt, aUn, aNilCheck, retQ, retQ1, aresults, aresultL, aresult, mkF, undefV, reduceCtorEq, kD, kE, kF, kG, kH, kI, kJ, kK, aExtract, calleeOf]; simp) ⟨i + 1, ov, rfl, hlt, rfl, ?_, l13, ap⟩
      simp only [selM, hpi, hbi]; exact gp3
  · have hbi : bs.getD i false = false := by rw [List.getD_eq_getElem?_getD, List.getElem?_eq_none (by omega)]; rfl
    simp only [kS1, bLookup, bMapSet, wantA, isCall, stepOp, evalO, evalL, evalP, evalM, putDst, flat, kA, kB, Nat.reduceLT, ↓reduceIte, kC, Nat.reduceEqDiff, aBuiltin, abinG, guardFree, abin, aInt, aUn, aNilCheck, retQ, retQ1, aresults, aresultL, aresult, mkF, undefV, reduceCtorEq, kD, kE, kF, kG, kH, kI, kJ, kK, aExtract, calleeOf, ad, ld, a2, s2, lb, c1, awrap_succ i (by omega)]
    refine loop_again (es.length - (i + 1)) [(1, bv), (5, ov), (9, ev), (10, .int .i64 es.length), (11, .int .i64 (i + 1 : Nat))] (by omega) (by simp only [hasAll, kS1, bLookup, bMapSet, wantA, isCall, stepOp, evalO, evalL, evalP, evalM, putDst, flat, kA, kB, Nat.reduceLT, ↓reduceIte, kC, Nat.reduceEqDiff, aBuiltin, abinG, guardFree, abin, aInt, aUn, aNilCheck, retQ, retQ1, aresults, aresultL, aresult, mkF, undefV, reduceCtorEq, kD, kE, kF, kG, kH, kI, kJ, kK, aExtract, calleeOf]; simp) ⟨i + 1, ov, rfl, hlt, rfl, ?_, l13, ap⟩
    simp only [selM, hpi, hbi]; exact gp3
theorem on_any (W0 : World) (wv : Value) (n : Nat) (web : List Pr) (h : AHeap) (hw : PR h wv web) (hR : InR n web) (hn : n ≤ 1000) (hl : web.length ≤ 1000) :
    AC Try.prog W0 19 [.int .i64 (n : Int), wv] h fun x h' => RL isBo h' x (onM n web) ∧ Le h h' := by
  refine AC.vc (fn := Try.f19) (c := _) ⟨Try.func19, rfl, by decide⟩ Try.ntmps19 Try.results19 (by simp) fun hwf => ?_
  simp only [argFrame, argFrom, Nat.reduceAdd]
  have mk := aMakeSlice1 (P := Try.prog) (t := 35) (z := .bool false) h Try.underlying35 rfl rfl rfl rfl (by kernel_rfl) Try.underlying4 (by kernel_rfl) n (by omega)
  obtain ⟨h1, e1, l1, w1, o1⟩ := alloc_f hwf (List.replicate n (.bool false))
  rw [e1] at mk
  have nM : h.own h.next = none := (Le.refl h).next hwf (Nat.le_refl _)
  generalize h.next = M at *
  have ll := fun g => hw.len g
  simp only [kS1, bLookup, bMapSet, wantA, isCall, stepOp, evalO, evalL, evalP, evalM, putDst, flat, kA, kB, Nat.reduceLT, ↓reduceIte, kC, Nat.reduceEqDiff, aBuiltin, abinG, guardFree, abin, aInt, aUn, aNilCheck, retQ, retQ1, aresults, aresultL, aresult, mkF, undefV, reduceCtorEq, kD, kE, kF, kG, kH, kI, kJ, kK, aExtract, calleeOf, mk, ll]
  have oM : h1.own M = some (.cells (Bo (onM n []))) := by
    rw [o1]; congr 2
    apply List.ext_getElem
    · simp [Bo, onM]
    · intro i h1 h2; simp [Bo, onM, onW]
  have ixM : ∀ (k : IntKind) (j : Nat), j < n → aIndexAddr Try.prog 35 (.slice (some ⟨M, 0, none⟩) n n) (.int k j) = some (.pointer (some ⟨M, j, none⟩)) := fun k j hj => by rw [aIdx Try.underlying35 Try.underlying4 (by kernel_rfl) j hj]; simp [aadd]
  refine KLoop.intro (fun k fr hq => ∃ i : Nat, k = web.length - i ∧ i ≤ web.length ∧ fr = mkF [(5, .slice (some ⟨M, 0, none⟩) n n), (10, wv), (11, .int .i64 web.length), (12, .int .i64 i)] ∧ Le h hq ∧ hq.own M = some (.cells (Bo (onM n (web.take i)))))
    web.length [(5, .slice (some ⟨M, 0, none⟩) n n), (10, wv), (11, .int .i64 web.length), (12, .int .i64 (0 : Nat))] (by simp only [hasAll, kS1, bLookup, bMapSet, wantA, isCall, stepOp, evalO, evalL, evalP, evalM, putDst, flat, kA, kB, Nat.reduceLT, ↓reduceIte, kC, Nat.reduceEqDiff, aBuiltin, abinG, guardFree, abin, aInt, aUn, aNilCheck, retQ, retQ1, aresults, aresultL, aresult, mkF, undefV, reduceCtorEq, kD, kE, kF, kG, kH, kI, kJ, kK, aExtract, calleeOf]; simp) ⟨0, rfl, Nat.zero_le _, rfl, l1, by simpa using oM⟩ ?_
  rintro k fr hq hwq ⟨i, rfl, hi, rfl, leq, oM⟩
  simp only [kS1, bLookup, bMapSet, wantA, isCall, stepOp, evalO, evalL, evalP, evalM, putDst, flat, kA, kB, Nat.reduceLT, ↓reduceIte, kC, Nat.reduceEqDiff, aBuiltin, abinG, guardFree, abin, aInt, aUn, aNilCheck, retQ, retQ1, aresults, aresultL, aresult, mkF, undefV, reduceCtorEq, kD, kE, kF, kG, kH, kI, kJ, kK, aExtract, calleeOf]
  refine KCond.intro (fun ht => ?_) (fun hf => ?_)
  rotate_left
  · have hge : web.length ≤ i := lt_f hf
    rw [List.take_of_length_le hge] at oM
    simp only [kS1, bLookup, bMapSet, wantA, isCall, stepOp, evalO, evalL, evalP, evalM, putDst, flat, kA, kB, Nat.reduceLT, ↓reduceIte, kC, Nat.reduceEqDiff, aBuiltin, abinG, guardFree, abin, aInt, aUn, aNilCheck, retQ, retQ1, aresults, aresultL, aresult, mkF, undefV, reduceCtorEq, kD, kE, kF, kG, kH, kI, kJ, kK, aExtract, calleeOf]
    refine ⟨⟨Bo (onM n web), RS.whole oM (by simp [Bo, onM]), by simp [Bo], fun i x u hx hu => ?_⟩, leq⟩
    rw [Bo, List.getElem?_map, hx] at hu; simp at hu; exact hu.symm
  have hlt : i < web.length := lt_t ht
  clear ht
  have hpi := getElem?_of hlt
  have htk : web.take (i + 1) = web.take i ++ [web[i]] := List.take_succ_eq_append_getElem hlt
  generalize web[i] = p at hpi htk
  obtain ⟨p1, p2, p3⟩ := hR p (List.mem_of_getElem? hpi)
  have ad := hw.addr (k := .i64) i hlt
  have ld := (hw.le leq).load hpi
  obtain ⟨h2, h3, a2, s2, l3, w3, o3⟩ := new42 hwq p
  have nE : hq.own hq.next = none := (Le.refl hq).next hwq (Nat.le_refl _)
  have hEM : hq.next ≠ M := fun e => by rw [e, oM] at nE; cases nE
  generalize hq.next = E at *
  obtain ⟨a, c⟩ := p
  simp only at p1 p2 p3
  obtain ⟨a, rfl⟩ := Int.eq_ofNat_of_zero_le p1
  obtain ⟨c, rfl⟩ := Int.eq_ofNat_of_zero_le (show 0 ≤ c by omega)
  have han : a < n := by omega
  have hcn : c < n := by omega
  have oM3 := l3.own _ _ oM
  have s4 := aStore1 (P := Try.prog) (t := 4) (x := .bool true) Try.underlying4 (by kernel_rfl) oM3 (off := a) (by simp [Bo, onM]; omega) rfl rfl
  rw [Bo_set] at s4
  have w4 := w3.put (.cells (Bo ((onM n (web.take i)).set a true))) (w3.lt oM3)
  have l4 : Le h (h3.put M (.cells (Bo ((onM n (web.take i)).set a true)))) := (leq.trans l3).put _ nM
  have oM4 : (h3.put M (.cells (Bo ((onM n (web.take i)).set a true)))).own M = some (.cells (Bo ((onM n (web.take i)).set a true))) := AHeap.own_put_eq _ _ _
  have oE4 : (h3.put M (.cells (Bo ((onM n (web.take i)).set a true)))).own E = some (.cells (cellsP ((a : Int), (c : Int)))) := by rw [AHeap.own_put_ne _ _ _ _ hEM]; exact o3
  generalize h3.put M (.cells (Bo ((onM n (web.take i)).set a true))) = h4 at *
  have s5 := aStore1 (P := Try.prog) (t := 4) (x := .bool true) Try.underlying4 (by kernel_rfl) oM4 (off := c) (by simp [Bo, onM]; omega) rfl rfl
  rw [Bo_set] at s5
  have l5 : Le h (h4.put M (.cells (Bo (((onM n (web.take i)).set a true).set c true)))) := l4.put _ nM
  have oM5 : (h4.put M (.cells (Bo (((onM n (web.take i)).set a true).set c true)))).own M = some (.cells (Bo (((onM n (web.take i)).set a true).set c true))) := AHeap.own_put_eq _ _ _
  have oE5 : (h4.put M (.cells (Bo (((onM n (web.take i)).set a true).set c true)))).own E = some (.cells (cellsP ((a : Int), (c : Int)))) := by rw [AHeap.own_put_ne _ _ _ _ hEM]; exact oE4
  generalize h4.put M (.cells (Bo (((onM n (web.take i)).set a true).set c true))) = h5 at *
  have m3a := own0 o3
  have m3b := own1 o3
  have m4a := own0 oE4
  have m4b := own1 oE4
  have m5a := own0 oE5
  have m5b := own1 oE5
  simp only at m3a m3b m4a m4b m5a m5b
  simp only [kS1, bLookup, bMapSet, wantA, isCall, stepOp, evalO, evalL, evalP, evalM, putDst, flat, kA, kB, Nat.reduceLT, ↓reduceIte, kC, Nat.reduceEqDiff, aBuiltin, abinG, guardFree, abin, aInt, aUn, aNilCheck, retQ, retQ1, aresults, aresultL, aresult, mkF, undefV, reduceCtorEq, kD, kE, kF, kG, kH, kI, kJ, kK, aExtract, calleeOf, ad, ld, a2, s2]
  refine KDraw.intro mixed (.fl 0 (.fl 1 (.fl 2 (.fl 3 (.fl 4 (.fl 5 (.fl 6 (.ch 7 [0, 1, 2, 6] (.fl 8 (.ch 9 [0, 1, 2, 3, 4, 5, 6, 7, 8] (.done) .no)) .no)))))))) (by kernel_rfl) ?_
  simp only [kS1, bLookup, bMapSet, wantA, isCall, stepOp, evalO, evalL, evalP, evalM, putDst, flat, kA, kB, Nat.reduceLT, ↓reduceIte, kC, Nat.reduceEqDiff, aBuiltin, abinG, guardFree, abin, aInt, aUn, aNilCheck, retQ, retQ1, aresults, aresultL, aresult, mkF, undefV, reduceCtorEq, kD, kE, kF, kG, kH, kI, kJ, kK, aExtract, calleeOf, kD1, Nat.reduceBEq, HoldsAll, kL, kM, kN, kO, pa0, pa1, aadd, Nat.zero_add, m3a, m3b, m4a, m4b, m5a, m5b, ixM _ a han, ixM _ c hcn, s4, s5, awrap_succ i (by omega)]
  refine loop_again (web.length - (i + 1)) [(5, .slice (some ⟨M, 0, none⟩) n n), (10, wv), (11, .int .i64 web.length), (12, .int .i64 (i + 1 : Nat))] (by omega) (by simp only [hasAll, kS1, bLookup, bMapSet, wantA, isCall, stepOp, evalO, evalL, evalP, evalM, putDst, flat, kA, kB, Nat.reduceLT, ↓reduceIte, kC, Nat.reduceEqDiff, aBuiltin, abinG, guardFree, abin, aInt, aUn, aNilCheck, retQ, retQ1, aresults, aresultL, aresult, mkF, undefV, reduceCtorEq, kD, kE, kF, kG, kH, kI, kJ, kK, aExtract, calleeOf]; simp) ⟨i + 1, rfl, hlt, rfl, l5, ?_⟩
  rw [htk, onM_push]; exact oM5
end Go.Fw
