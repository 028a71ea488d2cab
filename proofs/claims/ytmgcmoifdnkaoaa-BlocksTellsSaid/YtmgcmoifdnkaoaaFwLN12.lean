/- A text of the proof. -/
import Derived.Test.YtmgcmoifdnkaoaaFwLT11
set_option linter.unusedSimpArgs false
set_option linter.unusedVariables false
namespace Go.Fw
open Go.Proofs
attribute [local irreducible] KO4 KO3 KO2 KO1 KO KN KX KE VK KCond KDraw KCall KLoop
set_option maxHeartbeats 16000000
set_option maxRecDepth 10000
theorem putG {h : AHeap} (hw : WF h) {n : Int} {xv : Value} {fs : List Pr} (r : PR h xv fs) : ∃ h1 h2, aAlloc Try.prog h 24 = some (.pointer (some ⟨h.next, 0, none⟩), h1) ∧ aStore Try.prog h1 24 (.pointer (some ⟨h.next, 0, none⟩)) (.agg #[.int .i64 n, xv]) = some h2 ∧
  Le h h2 ∧ WF h2 ∧ ∀ g, Le h2 g → aload Try.prog g 24 ⟨h.next, 0, none⟩ = some (.agg #[.int .i64 n, xv]) := by
 obtain ⟨h1, e1, l1, w1, o1⟩ := alloc_f hw [.int .i64 0, .slice none 0 0]
 have al := alloc24 h
 rw [e1] at al
 have nw : h.own h.next = none := (Le.refl h).next hw (Nat.le_refl _)
 have ts24 : tsize Try.prog 24 = 2 := by kernel_rfl
 have one := r.sl.one
 have oo := AHeap.own_put_eq h1 h.next (.cells [.int .i64 n, xv])
 refine ⟨h1, h1.put h.next (.cells [.int .i64 n, xv]), al, ?_, l1.put _ nw, w1.put _ (w1.lt o1), fun g lg => ?_⟩
 ·have hc : (Value.agg #[.int .i64 n, xv]).cells = #[.int .i64 n, xv] := rfl
  have h0 : (Value.int IntKind.i64 n).oneCell' = true := rfl
  simp [aStore, o1, hc, ts24, putCells, Try.underlying24, one, h0]
 ·rw [aload_own Try.underlying24 rfl ts24 (lg.own _ _ oo) (by simp)]; rfl
theorem map_idx {es : List Pr} (nd : es.Nodup) {L : List Int} (hl : L.length = es.length) (h : ∀ x, x < es.length → L[x]? = some (x : Int)) : L = es.map fun p => ((es.idxOf p : Nat) : Int) := by
 refine List.ext_getElem? fun x => ?_
 by_cases c : x < es.length
 ·rw [h x c, List.getElem?_map, getElem?_of c, Option.map_some, nd.idxOf_getElem x c]
 ·rw [List.getElem?_eq_none (by omega), List.getElem?_eq_none (by simp; omega)]
theorem mk38 (h : AHeap) {u : Value} {n : Nat} (hu : isSl u n) : aBuildSlice Try.prog h 38 1 [(0, u)] = some (.slice (some ⟨h.next, 0, none⟩) 1 1, h.alloc (.cells [u])) := by
 obtain ⟨_, _, rfl, _⟩ := hu; rfl
theorem RBlocks_any (W0 : Base) (v : Value) (G : GM) (h : AHeap) (hg : GR h v G) :
  AC Try.prog W0 26 [v] h fun x h' => Le h h' ∧ ((¬ RightG G ∧ x = .tuple #[.slice none 0 0, .int .i64 20]) ∨ (RightG G ∧ ∃ bv, x = .tuple #[bv, .int .i64 0] ∧ RL PR h' bv (blocksM G.n.toNat G.es))) := by
 have hg0 := hg
 obtain ⟨gn, es⟩ := G
 obtain ⟨ev, rfl, hp⟩ := hg.open
 refine AC.vc (fn := Try.f26) (c := _) ⟨Try.func26, rfl, by decide⟩ Try.ntmps26 Try.results26 (by simp) fun hwf => ?_
 simp only [argFrame, argFrom, Nat.reduceAdd]
 obtain ⟨h1, b1, le1, wf1, -, lA⟩ := boxG (n := gn) hwf hp
 generalize h.next = B at *
 have lA1 := lA h1 (Le.refl _)
 simp only [kS1, bLookup, bMapSet, wantA, isCall, stepOp, evalO, evalL, evalP, evalM, putDst, flat, kA, kB, Nat.reduceLT, ↓reduceIte, kC, Nat.reduceEqDiff, aBuiltin, abinG, guardFree, abin, aInt, aUn, aNilCheck, retQ, retQ1, aresults, aresultL, aresult, mkF, undefV, reduceCtorEq, kD, kE, kF, kG, kH, kI, kJ, kK, aExtract, calleeOf, b1, lA1.1]
 refine KCall.intro (by simp only [kS1, bLookup, bMapSet, wantA, isCall, stepOp, evalO, evalL, evalP, evalM, putDst, flat, kA, kB, Nat.reduceLT, ↓reduceIte, kC, Nat.reduceEqDiff, aBuiltin, abinG, guardFree, abin, aInt, aUn, aNilCheck, retQ, retQ1, aresults, aresultL, aresult, mkF, undefV, reduceCtorEq, kD, kE, kF, kG, kH, kI, kJ, kK, aExtract, calleeOf] <;> rfl) ⟨Try.func56, rfl, by decide⟩ (RefRight_any W0 _ _ h1 (hg0.le le1)) ?_
 rintro x h2 w2 ⟨⟨bb, rfl, hbb⟩, l2⟩
 cases bb with
 | false =>
  simp only [kS1, bLookup, bMapSet, wantA, isCall, stepOp, evalO, evalL, evalP, evalM, putDst, flat, kA, kB, Nat.reduceLT, ↓reduceIte, kC, Nat.reduceEqDiff, aBuiltin, abinG, guardFree, abin, aInt, aUn, aNilCheck, retQ, retQ1, aresults, aresultL, aresult, mkF, undefV, reduceCtorEq, kD, kE, kF, kG, kH, kI, kJ, kK, aExtract, calleeOf]
  exact ⟨le1.trans l2, .inl ⟨(fun hr => by cases hbb.2 hr), trivial⟩⟩
 | true =>
 have hr := hbb.1 rfl
 have h0 : 0 ≤ gn := hr.n0
 obtain ⟨n, rfl⟩ := Int.eq_ofNat_of_zero_le h0
 have h200 : (n : Int) ≤ 200 := hr.n1
 have h594 : es.length ≤ 594 := hr.len
 have hR := hr.inR
 have nd : es.Nodup := Asc.nodup hr.asc
 simp only [Int.toNat_natCast]
 have hlen := fun g => hp.len g
 have lA2 := lA h2 l2
 have mk := aMakeSlice1 (P := Try.prog) (t := 35) (z := .int .i64 0) h2 Try.underlying35 rfl rfl rfl rfl (by kernel_rfl) Try.underlying3 (by kernel_rfl) es.length (by omega)
 obtain ⟨h3, e3, l3, w3, o3⟩ := alloc_f w2 (List.replicate es.length (.int .i64 0))
 rw [e3] at mk
 have nT : h2.own h2.next = none := (Le.refl h2).next w2 (Nat.le_refl _)
 have nT1 := l2.none nT
 simp only [kS1, bLookup, bMapSet, wantA, isCall, stepOp, evalO, evalL, evalP, evalM, putDst, flat, kA, kB, Nat.reduceLT, ↓reduceIte, kC, Nat.reduceEqDiff, aBuiltin, abinG, guardFree, abin, aInt, aUn, aNilCheck, retQ, retQ1, aresults, aresultL, aresult, mkF, undefV, reduceCtorEq, kD, kE, kF, kG, kH, kI, kJ, kK, aExtract, calleeOf, fg1, aadd, Nat.zero_add, lA2.2.2, hlen, mk]
 generalize h2.next = T at *
 have g3 : GI h3 (.slice (some ⟨T, 0, none⟩) es.length es.length) (List.replicate es.length 0) := by
  have := GS.full (k := 1) (n := es.length) o3 (by simp) (by omega)
  simpa [GI, I64] using this
 refine KLoop.intro (fun k fr hq => ∃ (i : Nat) (L : List Int), k = es.length - i ∧ i ≤ es.length ∧ fr = mkF [(1, .pointer (some ⟨B, 0, none⟩)), (4, .slice (some ⟨T, 0, none⟩) es.length es.length), (5, .int .i64 i)] ∧
   GI hq (.slice (some ⟨T, 0, none⟩) es.length es.length) L ∧ L.length = es.length ∧ (∀ x, x < i → L[x]? = some (x : Int)) ∧ Le h1 hq)
  es.length [(1, .pointer (some ⟨B, 0, none⟩)), (4, .slice (some ⟨T, 0, none⟩) es.length es.length), (5, .int .i64 (0 : Nat))] (by simp only [hasAll, kS1, bLookup, bMapSet, wantA, isCall, stepOp, evalO, evalL, evalP, evalM, putDst, flat, kA, kB, Nat.reduceLT, ↓reduceIte, kC, Nat.reduceEqDiff, aBuiltin, abinG, guardFree, abin, aInt, aUn, aNilCheck, retQ, retQ1, aresults, aresultL, aresult, mkF, undefV, reduceCtorEq, kD, kE, kF, kG, kH, kI, kJ, kK, aExtract, calleeOf]; simp)
  ⟨0, _, rfl, Nat.zero_le _, rfl, g3, by simp, (fun x hx => by omega), l2.trans l3⟩ ?_
 clear g3 mk e3 o3 w3 l3
 clear h3
 rintro k fr hq hwq ⟨i, L, rfl, hi, rfl, gL, hLl, hLx, leq⟩
 have lL := fun g => gL.rl.len (P := Try.prog) Try.underlying35 g
 rw [hLl] at lL
 simp only [kS1, bLookup, bMapSet, wantA, isCall, stepOp, evalO, evalL, evalP, evalM, putDst, flat, kA, kB, Nat.reduceLT, ↓reduceIte, kC, Nat.reduceEqDiff, aBuiltin, abinG, guardFree, abin, aInt, aUn, aNilCheck, retQ, retQ1, aresults, aresultL, aresult, mkF, undefV, reduceCtorEq, kD, kE, kF, kG, kH, kI, kJ, kK, aExtract, calleeOf, lL]
 refine KCond.intro (fun ht => ?_) (fun hf => ?_)
 ·have hlt : i < es.length := lt_t ht
  clear ht
  have ad := gL.rl.addr (P := Try.prog) Try.underlying35 Try.underlying3 (by kernel_rfl) (k := .i64) i (by omega)
  obtain ⟨g1, st, gL1, wg1, fg1', kg1⟩ := gL.store hwq (i := i) (by omega) (i : Int)
  have lg1 := fg1' h1 leq (fun b hb => by injection hb with hb; subst hb; exact nT1)
  simp only [kS1, bLookup, bMapSet, wantA, isCall, stepOp, evalO, evalL, evalP, evalM, putDst, flat, kA, kB, Nat.reduceLT, ↓reduceIte, kC, Nat.reduceEqDiff, aBuiltin, abinG, guardFree, abin, aInt, aUn, aNilCheck, retQ, retQ1, aresults, aresultL, aresult, mkF, undefV, reduceCtorEq, kD, kE, kF, kG, kH, kI, kJ, kK, aExtract, calleeOf, ad, st, awrap_succ i (by omega)]
  exact loop_again (es.length - (i + 1)) [(1, .pointer (some ⟨B, 0, none⟩)), (4, .slice (some ⟨T, 0, none⟩) es.length es.length), (5, .int .i64 (i + 1 : Nat))] (by omega) (by simp only [hasAll, kS1, bLookup, bMapSet, wantA, isCall, stepOp, evalO, evalL, evalP, evalM, putDst, flat, kA, kB, Nat.reduceLT, ↓reduceIte, kC, Nat.reduceEqDiff, aBuiltin, abinG, guardFree, abin, aInt, aUn, aNilCheck, retQ, retQ1, aresults, aresultL, aresult, mkF, undefV, reduceCtorEq, kD, kE, kF, kG, kH, kI, kJ, kK, aExtract, calleeOf]; simp)
   ⟨i + 1, L.set i (i : Int), rfl, hlt, rfl, gL1, by simp [hLl], fun x hx => by
    rw [List.getElem?_set]
    by_cases e : i = x
    ·subst e; rw [if_pos rfl, if_pos (by omega)]
    ·rw [if_neg e]; exact hLx x (by omega), lg1⟩
 have hge : es.length ≤ i := lt_f hf
 rw [map_idx nd hLl (fun x hx => hLx x (by omega))] at gL
 clear hLx hLl hge hf hi lL
 have oF0 : OF n es (fun p => ((es.idxOf p : Nat) : Int)) 0 0 0 := OF.start fun p hp q hq e => by
  obtain ⟨x, hx, rfl⟩ := List.getElem_of_mem hp
  obtain ⟨y, hy, rfl⟩ := List.getElem_of_mem hq
  rw [nd.idxOf_getElem x hx, nd.idxOf_getElem y hy] at e
  have : x = y := by omega
  subst this; rfl
 generalize (fun p : Pr => ((es.idxOf p : Nat) : Int)) = f0 at gL oF0
 simp only [kS1, bLookup, bMapSet, wantA, isCall, stepOp, evalO, evalL, evalP, evalM, putDst, flat, kA, kB, Nat.reduceLT, ↓reduceIte, kC, Nat.reduceEqDiff, aBuiltin, abinG, guardFree, abin, aInt, aUn, aNilCheck, retQ, retQ1, aresults, aresultL, aresult, mkF, undefV, reduceCtorEq, kD, kE, kF, kG, kH, kI, kJ, kK, aExtract, calleeOf]
 -- vertices
 refine KLoop.intro (fun k fr hx => ∃ (w : Nat) (ov : Value) (f : Pr → Int), k = n - w ∧ w ≤ n ∧ fr = mkF [(1, .pointer (some ⟨B, 0, none⟩)), (4, ov), (6, .int .i64 w)] ∧ GI hx ov (es.map f) ∧ OF n es f w 0 0 ∧ Le h1 hx)
  n [(1, .pointer (some ⟨B, 0, none⟩)), (4, .slice (some ⟨T, 0, none⟩) es.length es.length), (6, .int .i64 (0 : Nat))] (by simp only [hasAll, kS1, bLookup, bMapSet, wantA, isCall, stepOp, evalO, evalL, evalP, evalM, putDst, flat, kA, kB, Nat.reduceLT, ↓reduceIte, kC, Nat.reduceEqDiff, aBuiltin, abinG, guardFree, abin, aInt, aUn, aNilCheck, retQ, retQ1, aresults, aresultL, aresult, mkF, undefV, reduceCtorEq, kD, kE, kF, kG, kH, kI, kJ, kK, aExtract, calleeOf]; simp)
  ⟨0, _, f0, rfl, Nat.zero_le _, rfl, gL, oF0, leq⟩ ?_
 clear gL oF0 leq hwq
 clear hq
 rintro k fr hx hwx ⟨w, ov, f, rfl, hw, rfl, gf, oF, lex⟩
 have lAx := lA hx lex
 simp only [kS1, bLookup, bMapSet, wantA, isCall, stepOp, evalO, evalL, evalP, evalM, putDst, flat, kA, kB, Nat.reduceLT, ↓reduceIte, kC, Nat.reduceEqDiff, aBuiltin, abinG, guardFree, abin, aInt, aUn, aNilCheck, retQ, retQ1, aresults, aresultL, aresult, mkF, undefV, reduceCtorEq, kD, kE, kF, kG, kH, kI, kJ, kK, aExtract, calleeOf, fg0, aadd, Nat.zero_add, lAx.2.1]
 refine KCond.intro (fun ht => ?_) (fun hf => ?_)
 ·have hwn : w < n := lt_t ht
  clear ht
  simp only [kS1, bLookup, bMapSet, wantA, isCall, stepOp, evalO, evalL, evalP, evalM, putDst, flat, kA, kB, Nat.reduceLT, ↓reduceIte, kC, Nat.reduceEqDiff, aBuiltin, abinG, guardFree, abin, aInt, aUn, aNilCheck, retQ, retQ1, aresults, aresultL, aresult, mkF, undefV, reduceCtorEq, kD, kE, kF, kG, kH, kI, kJ, kK, aExtract, calleeOf, lAx.1]
  refine KCall.intro (by simp only [kS1, bLookup, bMapSet, wantA, isCall, stepOp, evalO, evalL, evalP, evalM, putDst, flat, kA, kB, Nat.reduceLT, ↓reduceIte, kC, Nat.reduceEqDiff, aBuiltin, abinG, guardFree, abin, aInt, aUn, aNilCheck, retQ, retQ1, aresults, aresultL, aresult, mkF, undefV, reduceCtorEq, kD, kE, kF, kG, kH, kI, kJ, kK, aExtract, calleeOf] <;> rfl) ⟨Try.func65, rfl, by decide⟩ (RWithout_any W0 (.agg #[.int .i64 (n : Int), ev]) n w es hx (hg0.le (le1.trans lex)) (by omega)) ?_
  rintro x h3 w3 ⟨xv, rfl, gp3, l3, a3⟩
  obtain ⟨h4, h5, e4, e5, l5, w5, ldQ⟩ := putG w3 (n := (n : Int)) gp3.pr
  have hr' : RightG ⟨(n : Int), woV es w⟩ := hr.sub List.filter_sublist
  have leX5 := l3.trans l5
  have gQ : GR h5 (.agg #[.int .i64 (n : Int), xv]) ⟨(n : Int), woV es w⟩ := ⟨xv, rfl, (gp3.le l5).pr⟩
  simp only [kS1, bLookup, bMapSet, wantA, isCall, stepOp, evalO, evalL, evalP, evalM, putDst, flat, kA, kB, Nat.reduceLT, ↓reduceIte, kC, Nat.reduceEqDiff, aBuiltin, abinG, guardFree, abin, aInt, aUn, aNilCheck, retQ, retQ1, aresults, aresultL, aresult, mkF, undefV, reduceCtorEq, kD, kE, kF, kG, kH, kI, kJ, kK, aExtract, calleeOf, e4, e5]
  generalize h3.next = Q at *
  refine KLoop.intro (fun k fr hy => ∃ (i : Nat) (ov : Value) (f : Pr → Int), k = es.length - i ∧ i ≤ es.length ∧ fr = mkF [(1, .pointer (some ⟨B, 0, none⟩)), (4, ov), (6, .int .i64 w), (7, .pointer (some ⟨Q, 0, none⟩)), (8, .int .i64 i)] ∧ GI hy ov (es.map f) ∧ OF n es f w i 0 ∧ Le h5 hy)
   es.length [(1, .pointer (some ⟨B, 0, none⟩)), (4, ov), (6, .int .i64 w), (7, .pointer (some ⟨Q, 0, none⟩)), (8, .int .i64 (0 : Nat))] (by simp only [hasAll, kS1, bLookup, bMapSet, wantA, isCall, stepOp, evalO, evalL, evalP, evalM, putDst, flat, kA, kB, Nat.reduceLT, ↓reduceIte, kC, Nat.reduceEqDiff, aBuiltin, abinG, guardFree, abin, aInt, aUn, aNilCheck, retQ, retQ1, aresults, aresultL, aresult, mkF, undefV, reduceCtorEq, kD, kE, kF, kG, kH, kI, kJ, kK, aExtract, calleeOf]; simp)
   ⟨0, _, f, rfl, Nat.zero_le _, rfl, gf.le leX5, oF, Le.refl _⟩ ?_
  clear gf oF e4 e5
  clear f ov h4
  rintro k fr hy hwy ⟨i, ov, f, rfl, hi, rfl, gf, oF, ley⟩
  have le1y := lex.trans (leX5.trans ley)
  have lAy := lA hy le1y
  have lf := fun g => gf.rl.len (P := Try.prog) Try.underlying35 g
  rw [List.length_map] at lf
  simp only [kS1, bLookup, bMapSet, wantA, isCall, stepOp, evalO, evalL, evalP, evalM, putDst, flat, kA, kB, Nat.reduceLT, ↓reduceIte, kC, Nat.reduceEqDiff, aBuiltin, abinG, guardFree, abin, aInt, aUn, aNilCheck, retQ, retQ1, aresults, aresultL, aresult, mkF, undefV, reduceCtorEq, kD, kE, kF, kG, kH, kI, kJ, kK, aExtract, calleeOf, lf]
  refine KCond.intro (fun ht => ?_) (fun hf => ?_)
  rotate_left
  ·have hge : es.length ≤ i := lt_f hf
   simp only [kS1, bLookup, bMapSet, wantA, isCall, stepOp, evalO, evalL, evalP, evalM, putDst, flat, kA, kB, Nat.reduceLT, ↓reduceIte, kC, Nat.reduceEqDiff, aBuiltin, abinG, guardFree, abin, aInt, aUn, aNilCheck, retQ, retQ1, aresults, aresultL, aresult, mkF, undefV, reduceCtorEq, kD, kE, kF, kG, kH, kI, kJ, kK, aExtract, calleeOf, awrap_succ w (by omega)]
   exact loop_again (n - (w + 1)) [(1, .pointer (some ⟨B, 0, none⟩)), (4, ov), (6, .int .i64 (w + 1 : Nat))] (by omega) (by simp only [hasAll, kS1, bLookup, bMapSet, wantA, isCall, stepOp, evalO, evalL, evalP, evalM, putDst, flat, kA, kB, Nat.reduceLT, ↓reduceIte, kC, Nat.reduceEqDiff, aBuiltin, abinG, guardFree, abin, aInt, aUn, aNilCheck, retQ, retQ1, aresults, aresultL, aresult, mkF, undefV, reduceCtorEq, kD, kE, kF, kG, kH, kI, kJ, kK, aExtract, calleeOf]; simp)
    ⟨w + 1, ov, f, rfl, hwn, rfl, gf, oF.nextV hge, le1y⟩
  have hlt : i < es.length := lt_t ht
  clear ht
  have hpi := getElem?_of hlt
  have hmem := List.getElem_mem hlt
  generalize es[i] = p at hpi hmem
  have ad := hp.addr (k := .i64) i hlt
  have ld := (hp.le (le1.trans le1y)).load hpi
  simp only [kS1, bLookup, bMapSet, wantA, isCall, stepOp, evalO, evalL, evalP, evalM, putDst, flat, kA, kB, Nat.reduceLT, ↓reduceIte, kC, Nat.reduceEqDiff, aBuiltin, abinG, guardFree, abin, aInt, aUn, aNilCheck, retQ, retQ1, aresults, aresultL, aresult, mkF, undefV, reduceCtorEq, kD, kE, kF, kG, kH, kI, kJ, kK, aExtract, calleeOf, fg1, aadd, Nat.zero_add, lAy.2.2, ad, ld]
  refine KCall.intro (by simp only [kS1, bLookup, bMapSet, wantA, isCall, stepOp, evalO, evalL, evalP, evalM, putDst, flat, kA, kB, Nat.reduceLT, ↓reduceIte, kC, Nat.reduceEqDiff, aBuiltin, abinG, guardFree, abin, aInt, aUn, aNilCheck, retQ, retQ1, aresults, aresultL, aresult, mkF, undefV, reduceCtorEq, kD, kE, kF, kG, kH, kI, kJ, kK, aExtract, calleeOf] <;> rfl) ⟨Try.func67, rfl, by decide⟩ (Rother_any W0 p (w : Int) hy) ?_
  rintro x h6 w6 ⟨rfl, l6⟩
  rcases other_spec hR hmem w with ⟨a, han, ea, adja, epa⟩ | ⟨ea, hno⟩
  rotate_left
  ·rw [ea]
   have d : decide ((-1 : Int) < 0) = true := by decide
   simp only [kS1, bLookup, bMapSet, wantA, isCall, stepOp, evalO, evalL, evalP, evalM, putDst, flat, kA, kB, Nat.reduceLT, ↓reduceIte, kC, Nat.reduceEqDiff, aBuiltin, abinG, guardFree, abin, aInt, aUn, aNilCheck, retQ, retQ1, aresults, aresultL, aresult, mkF, undefV, reduceCtorEq, kD, kE, kF, kG, kH, kI, kJ, kK, aExtract, calleeOf, d, awrap_succ i (by omega)]
   exact loop_again (es.length - (i + 1)) [(1, .pointer (some ⟨B, 0, none⟩)), (4, ov), (6, .int .i64 w), (7, .pointer (some ⟨Q, 0, none⟩)), (8, .int .i64 (i + 1 : Nat))] (by omega) (by simp only [hasAll, kS1, bLookup, bMapSet, wantA, isCall, stepOp, evalO, evalL, evalP, evalM, putDst, flat, kA, kB, Nat.reduceLT, ↓reduceIte, kC, Nat.reduceEqDiff, aBuiltin, abinG, guardFree, abin, aInt, aUn, aNilCheck, retQ, retQ1, aresults, aresultL, aresult, mkF, undefV, reduceCtorEq, kD, kE, kF, kG, kH, kI, kJ, kK, aExtract, calleeOf]; simp)
    ⟨i + 1, ov, f, rfl, hlt, rfl, gf.le l6, oF.skipI hpi hno, ley.trans l6⟩
  rw [ea]
  have d : decide ((a : Int) < 0) = false := decide_eq_false (by omega)
  have ldQ6 := ldQ h6 (ley.trans l6)
  simp only [kS1, bLookup, bMapSet, wantA, isCall, stepOp, evalO, evalL, evalP, evalM, putDst, flat, kA, kB, Nat.reduceLT, ↓reduceIte, kC, Nat.reduceEqDiff, aBuiltin, abinG, guardFree, abin, aInt, aUn, aNilCheck, retQ, retQ1, aresults, aresultL, aresult, mkF, undefV, reduceCtorEq, kD, kE, kF, kG, kH, kI, kJ, kK, aExtract, calleeOf, d, ldQ6]
  refine KCall.intro (by simp only [kS1, bLookup, bMapSet, wantA, isCall, stepOp, evalO, evalL, evalP, evalM, putDst, flat, kA, kB, Nat.reduceLT, ↓reduceIte, kC, Nat.reduceEqDiff, aBuiltin, abinG, guardFree, abin, aInt, aUn, aNilCheck, retQ, retQ1, aresults, aresultL, aresult, mkF, undefV, reduceCtorEq, kD, kE, kF, kG, kH, kI, kJ, kK, aExtract, calleeOf] <;> rfl) ⟨Try.func68, rfl, by decide⟩ (RAway_any W0 (.agg #[.int .i64 (n : Int), xv]) n a (woV es w) h6 (gQ.le (ley.trans l6)) hr' han) ?_
  rintro x h7 w7 ⟨dv, L, rfl, gl, hLl, hL, l7, adv⟩
  simp only [kS1, bLookup, bMapSet, wantA, isCall, stepOp, evalO, evalL, evalP, evalM, putDst, flat, kA, kB, Nat.reduceLT, ↓reduceIte, kC, Nat.reduceEqDiff, aBuiltin, abinG, guardFree, abin, aInt, aUn, aNilCheck, retQ, retQ1, aresults, aresultL, aresult, mkF, undefV, reduceCtorEq, kD, kE, kF, kG, kH, kI, kJ, kK, aExtract, calleeOf]
  refine KLoop.intro (fun kk fr hz => ∃ (k : Nat) (ov : Value) (f : Pr → Int), kk = i - k ∧ k ≤ i ∧ fr = mkF [(1, .pointer (some ⟨B, 0, none⟩)), (4, ov), (6, .int .i64 w), (7, .pointer (some ⟨Q, 0, none⟩)), (8, .int .i64 i), (10, dv), (12, .int .i64 k)] ∧ GI hz ov (es.map f) ∧ OF n es f w i k ∧ Le h7 hz)
   i [(1, .pointer (some ⟨B, 0, none⟩)), (4, ov), (6, .int .i64 w), (7, .pointer (some ⟨Q, 0, none⟩)), (8, .int .i64 i), (10, dv), (12, .int .i64 (0 : Nat))] (by simp only [hasAll, kS1, bLookup, bMapSet, wantA, isCall, stepOp, evalO, evalL, evalP, evalM, putDst, flat, kA, kB, Nat.reduceLT, ↓reduceIte, kC, Nat.reduceEqDiff, aBuiltin, abinG, guardFree, abin, aInt, aUn, aNilCheck, retQ, retQ1, aresults, aresultL, aresult, mkF, undefV, reduceCtorEq, kD, kE, kF, kG, kH, kI, kJ, kK, aExtract, calleeOf]; simp)
   ⟨0, _, f, rfl, Nat.zero_le _, rfl, gf.le (l6.trans l7), oF, Le.refl _⟩ ?_
  clear gf oF lf
  clear f ov
  rintro kk fr hz hwz ⟨k, ov, f, rfl, hk, rfl, gf, oF, lez⟩
  have le67 := l6.trans (l7.trans lez)
  have le1z := le1y.trans le67
  have lAz := lA hz le1z
  simp only [kS1, bLookup, bMapSet, wantA, isCall, stepOp, evalO, evalL, evalP, evalM, putDst, flat, kA, kB, Nat.reduceLT, ↓reduceIte, kC, Nat.reduceEqDiff, aBuiltin, abinG, guardFree, abin, aInt, aUn, aNilCheck, retQ, retQ1, aresults, aresultL, aresult, mkF, undefV, reduceCtorEq, kD, kE, kF, kG, kH, kI, kJ, kK, aExtract, calleeOf]
  refine KCond.intro (fun ht => ?_) (fun hf => ?_)
  rotate_left
  ·have hge : i ≤ k := lt_f hf
   simp only [kS1, bLookup, bMapSet, wantA, isCall, stepOp, evalO, evalL, evalP, evalM, putDst, flat, kA, kB, Nat.reduceLT, ↓reduceIte, kC, Nat.reduceEqDiff, aBuiltin, abinG, guardFree, abin, aInt, aUn, aNilCheck, retQ, retQ1, aresults, aresultL, aresult, mkF, undefV, reduceCtorEq, kD, kE, kF, kG, kH, kI, kJ, kK, aExtract, calleeOf, awrap_succ i (by omega)]
   exact loop_again (es.length - (i + 1)) [(1, .pointer (some ⟨B, 0, none⟩)), (4, ov), (6, .int .i64 w), (7, .pointer (some ⟨Q, 0, none⟩)), (8, .int .i64 (i + 1 : Nat))] (by omega) (by simp only [hasAll, kS1, bLookup, bMapSet, wantA, isCall, stepOp, evalO, evalL, evalP, evalM, putDst, flat, kA, kB, Nat.reduceLT, ↓reduceIte, kC, Nat.reduceEqDiff, aBuiltin, abinG, guardFree, abin, aInt, aUn, aNilCheck, retQ, retQ1, aresults, aresultL, aresult, mkF, undefV, reduceCtorEq, kD, kE, kF, kG, kH, kI, kJ, kK, aExtract, calleeOf]; simp)
    ⟨i + 1, ov, f, rfl, hlt, rfl, gf, oF.nextI hge, ley.trans le67⟩
  have hki : k < i := lt_t ht
  clear ht
  have hkl : k < es.length := by omega
  have hqk := getElem?_of hkl
  have hqm := List.getElem_mem hkl
  generalize es[k] = q at hqk hqm
  have adk := hp.addr (k := .i64) k hkl
  have ldk := (hp.le (le1.trans le1z)).load hqk
  simp only [kS1, bLookup, bMapSet, wantA, isCall, stepOp, evalO, evalL, evalP, evalM, putDst, flat, kA, kB, Nat.reduceLT, ↓reduceIte, kC, Nat.reduceEqDiff, aBuiltin, abinG, guardFree, abin, aInt, aUn, aNilCheck, retQ, retQ1, aresults, aresultL, aresult, mkF, undefV, reduceCtorEq, kD, kE, kF, kG, kH, kI, kJ, kK, aExtract, calleeOf, fg1, aadd, Nat.zero_add, lAz.2.2, adk, ldk]
  refine KCall.intro (by simp only [kS1, bLookup, bMapSet, wantA, isCall, stepOp, evalO, evalL, evalP, evalM, putDst, flat, kA, kB, Nat.reduceLT, ↓reduceIte, kC, Nat.reduceEqDiff, aBuiltin, abinG, guardFree, abin, aInt, aUn, aNilCheck, retQ, retQ1, aresults, aresultL, aresult, mkF, undefV, reduceCtorEq, kD, kE, kF, kG, kH, kI, kJ, kK, aExtract, calleeOf] <;> rfl) ⟨Try.func67, rfl, by decide⟩ (Rother_any W0 q (w : Int) hz) ?_
  rintro x h8 w8 ⟨rfl, l8⟩
  have gf8 := gf.le l8
  rcases other_spec hR hqm w with ⟨b, hbn, eb, adjb, eqb⟩ | ⟨eb, hnob⟩
  rotate_left
  ·rw [eb]
   have d2 : decide ((-1 : Int) ≥ 0) = false := by decide
   simp only [kS1, bLookup, bMapSet, wantA, isCall, stepOp, evalO, evalL, evalP, evalM, putDst, flat, kA, kB, Nat.reduceLT, ↓reduceIte, kC, Nat.reduceEqDiff, aBuiltin, abinG, guardFree, abin, aInt, aUn, aNilCheck, retQ, retQ1, aresults, aresultL, aresult, mkF, undefV, reduceCtorEq, kD, kE, kF, kG, kH, kI, kJ, kK, aExtract, calleeOf, d2, awrap_succ k (by omega)]
   exact loop_again (i - (k + 1)) [(1, .pointer (some ⟨B, 0, none⟩)), (4, ov), (6, .int .i64 w), (7, .pointer (some ⟨Q, 0, none⟩)), (8, .int .i64 i), (10, dv), (12, .int .i64 (k + 1 : Nat))] (by omega) (by simp only [hasAll, kS1, bLookup, bMapSet, wantA, isCall, stepOp, evalO, evalL, evalP, evalM, putDst, flat, kA, kB, Nat.reduceLT, ↓reduceIte, kC, Nat.reduceEqDiff, aBuiltin, abinG, guardFree, abin, aInt, aUn, aNilCheck, retQ, retQ1, aresults, aresultL, aresult, mkF, undefV, reduceCtorEq, kD, kE, kF, kG, kH, kI, kJ, kK, aExtract, calleeOf]; simp)
    ⟨k + 1, ov, f, rfl, hki, rfl, gf8, oF.skipK hpi hqk (fun l => by obtain ⟨a', b', _, _, _, h4, _⟩ := l; exact hnob b' h4), lez.trans l8⟩
  rw [eb]
  have d2 : decide ((b : Int) ≥ 0) = true := decide_eq_true (by omega)
  have hbL : b < L.length := by omega
  have hgb := getElem?_of hbL
  have adb := gl.rl.addr (P := Try.prog) Try.underlying35 Try.underlying3 (by kernel_rfl) (k := .i64) b hbL
  have ldb := (gl.le (lez.trans l8)).rl.loadI (P := Try.prog) Try.underlying3 rfl b hbL
  have hiff := hL b _ hgb
  generalize L[b] = y at *
  have haw : a ≠ w := fun e => by subst e; exact adj_irr hR adja
  by_cases c : y ≥ 0
  ·have d3 : decide (y ≥ 0) = true := decide_eq_true c
   have hLK : LK es w p q := ⟨a, b, adja, adjb, epa, eqb, (woV_con haw).1 (hiff.1 c)⟩
   have hml : i < (es.map f).length := by simpa using hlt
   have hmk : k < (es.map f).length := by simpa using hkl
   have adi := gf8.rl.addr (P := Try.prog) Try.underlying35 Try.underlying3 (by kernel_rfl) (k := .i64) i hml
   have ldi := gf8.rl.loadI (P := Try.prog) Try.underlying3 rfl i hml
   have adk' := gf8.rl.addr (P := Try.prog) Try.underlying35 Try.underlying3 (by kernel_rfl) (k := .i64) k hmk
   have ldk' := gf8.rl.loadI (P := Try.prog) Try.underlying3 rfl k hmk
   have e1 : (es.map f)[i] = f p := by rw [List.getElem_map]; congr 1; rw [getElem?_of hlt] at hpi; injection hpi
   have e2 : (es.map f)[k] = f q := by rw [List.getElem_map]; congr 1; rw [getElem?_of hkl] at hqk; injection hqk
   rw [e1] at ldi
   rw [e2] at ldk'
   simp only [kS1, bLookup, bMapSet, wantA, isCall, stepOp, evalO, evalL, evalP, evalM, putDst, flat, kA, kB, Nat.reduceLT, ↓reduceIte, kC, Nat.reduceEqDiff, aBuiltin, abinG, guardFree, abin, aInt, aUn, aNilCheck, retQ, retQ1, aresults, aresultL, aresult, mkF, undefV, reduceCtorEq, kD, kE, kF, kG, kH, kI, kJ, kK, aExtract, calleeOf, d2, adb, ldb, d3]
   refine KDraw.intro mixed (.fl 0 (.fl 1 (.fl 2 (.fl 3 (.fl 4 (.fl 5 (.fl 6 (.fl 7 (.fl 8 (.ch 9 [0, 4, 8] (.ch 10 [0, 1, 2, 3, 4, 5, 6, 7, 8, 9] (.done) .no) .no)))))))))) (by kernel_rfl) ?_
   simp only [kS1, bLookup, bMapSet, wantA, isCall, stepOp, evalO, evalL, evalP, evalM, putDst, flat, kA, kB, Nat.reduceLT, ↓reduceIte, kC, Nat.reduceEqDiff, aBuiltin, abinG, guardFree, abin, aInt, aUn, aNilCheck, retQ, retQ1, aresults, aresultL, aresult, mkF, undefV, reduceCtorEq, kD, kE, kF, kG, kH, kI, kJ, kK, aExtract, calleeOf, kD1, Nat.reduceBEq, HoldsAll, kL, kM, kN, kO, adi, ldi, adk', ldk']
   refine KGCall.intro (by simp only [kS1, bLookup, bMapSet, wantA, isCall, stepOp, evalO, evalL, evalP, evalM, putDst, flat, kA, kB, Nat.reduceLT, ↓reduceIte, kC, Nat.reduceEqDiff, aBuiltin, abinG, guardFree, abin, aInt, aUn, aNilCheck, retQ, retQ1, aresults, aresultL, aresult, mkF, undefV, reduceCtorEq, kD, kE, kF, kG, kH, kI, kJ, kK, aExtract, calleeOf] <;> rfl) ⟨Try.func69, rfl, by decide⟩ (Rone_any W0 ov (es.map f) (f p) (f q) h8 gf8.rl (by simp; omega)) ?_
   rintro x h9 w9 ⟨g9, l9, a9⟩
   have em : (es.map f).map (fun x => if x = f p then f q else x) = es.map (oneF f (f p) (f q)) := by rw [List.map_map]; rfl
   rw [em] at g9
   have ldi9 := (gf8.le l9).rl.loadI (P := Try.prog) Try.underlying3 rfl i hml
   have ldk9 := (gf8.le l9).rl.loadI (P := Try.prog) Try.underlying3 rfl k hmk
   rw [e1] at ldi9
   rw [e2] at ldk9
   simp only [kS1, bLookup, bMapSet, wantA, isCall, stepOp, evalO, evalL, evalP, evalM, putDst, flat, kA, kB, Nat.reduceLT, ↓reduceIte, kC, Nat.reduceEqDiff, aBuiltin, abinG, guardFree, abin, aInt, aUn, aNilCheck, retQ, retQ1, aresults, aresultL, aresult, mkF, undefV, reduceCtorEq, kD, kE, kF, kG, kH, kI, kJ, kK, aExtract, calleeOf, kD1, Nat.reduceBEq, HoldsAll, kL, kM, kN, kO, adi, adk', ldi9, ldk9, awrap_succ k (by omega)]
   exact loop_again (i - (k + 1)) [(1, .pointer (some ⟨B, 0, none⟩)), (4, x), (6, .int .i64 w), (7, .pointer (some ⟨Q, 0, none⟩)), (8, .int .i64 i), (10, dv), (12, .int .i64 (k + 1 : Nat))] (by omega) (by simp only [hasAll, kS1, bLookup, bMapSet, wantA, isCall, stepOp, evalO, evalL, evalP, evalM, putDst, flat, kA, kB, Nat.reduceLT, ↓reduceIte, kC, Nat.reduceEqDiff, aBuiltin, abinG, guardFree, abin, aInt, aUn, aNilCheck, retQ, retQ1, aresults, aresultL, aresult, mkF, undefV, reduceCtorEq, kD, kE, kF, kG, kH, kI, kJ, kK, aExtract, calleeOf]; simp)
    ⟨k + 1, x, _, rfl, hki, rfl, g9, oF.link hR hpi hqk hLK, lez.trans (l8.trans l9)⟩
  ·have d3 : decide (y ≥ 0) = false := decide_eq_false c
   have hLK : ¬ LK es w p q := by
    rintro ⟨a', b', _, _, h3, h4, h5⟩
    have ea' := pairOf_inj (epa.symm.trans h3)
    have eb' := pairOf_inj (eqb.symm.trans h4)
    subst ea'; subst eb'
    exact c (hiff.2 ((woV_con haw).2 h5))
   simp only [kS1, bLookup, bMapSet, wantA, isCall, stepOp, evalO, evalL, evalP, evalM, putDst, flat, kA, kB, Nat.reduceLT, ↓reduceIte, kC, Nat.reduceEqDiff, aBuiltin, abinG, guardFree, abin, aInt, aUn, aNilCheck, retQ, retQ1, aresults, aresultL, aresult, mkF, undefV, reduceCtorEq, kD, kE, kF, kG, kH, kI, kJ, kK, aExtract, calleeOf, d2, adb, ldb, d3, awrap_succ k (by omega)]
   exact loop_again (i - (k + 1)) [(1, .pointer (some ⟨B, 0, none⟩)), (4, ov), (6, .int .i64 w), (7, .pointer (some ⟨Q, 0, none⟩)), (8, .int .i64 i), (10, dv), (12, .int .i64 (k + 1 : Nat))] (by omega) (by simp only [hasAll, kS1, bLookup, bMapSet, wantA, isCall, stepOp, evalO, evalL, evalP, evalM, putDst, flat, kA, kB, Nat.reduceLT, ↓reduceIte, kC, Nat.reduceEqDiff, aBuiltin, abinG, guardFree, abin, aInt, aUn, aNilCheck, retQ, retQ1, aresults, aresultL, aresult, mkF, undefV, reduceCtorEq, kD, kE, kF, kG, kH, kI, kJ, kK, aExtract, calleeOf]; simp)
    ⟨k + 1, ov, f, rfl, hki, rfl, gf8, oF.skipK hpi hqk hLK, lez.trans l8⟩
 have hge : n ≤ w := lt_f hf
 have hfin : ∀ p ∈ es, ∀ q ∈ es, f p = f q ↔ keyE n es p = keyE n es q := fun p hp q hq => oF.fin hR hge hp hq
 clear oF hge hf hw
 simp only [kS1, bLookup, bMapSet, wantA, isCall, stepOp, evalO, evalL, evalP, evalM, putDst, flat, kA, kB, Nat.reduceLT, ↓reduceIte, kC, Nat.reduceEqDiff, aBuiltin, abinG, guardFree, abin, aInt, aUn, aNilCheck, retQ, retQ1, aresults, aresultL, aresult, mkF, undefV, reduceCtorEq, kD, kE, kF, kG, kH, kI, kJ, kK, aExtract, calleeOf]
 have lf := fun g => gf.rl.len (P := Try.prog) Try.underlying35 g
 rw [List.length_map] at lf
 have ap0 : Apart hx (.slice none 0 0) := fun b hb => by cases hb
 refine KLoop.intro (fun k fr hy => ∃ (i : Nat) (bv : Value) (us : List Value), k = es.length - i ∧ i ≤ es.length ∧ fr = mkF [(1, .pointer (some ⟨B, 0, none⟩)), (4, ov), (14, bv), (15, .int .i64 i)] ∧ GS 1 hy bv us.length us ∧ us.all (·.oneCell') = true ∧ us.length = (rowsF f es i).length ∧ us.length ≤ i ∧
   (∀ (j : Nat) u r, us[j]? = some u → (rowsF f es i)[j]? = some r → GP hy u r ∧ ∀ b, blk bv = some b → blk u ≠ some b) ∧ Le hx hy ∧ Apart hx bv)
  es.length [(1, .pointer (some ⟨B, 0, none⟩)), (4, ov), (14, .slice none 0 0), (15, .int .i64 (0 : Nat))] (by simp only [hasAll, kS1, bLookup, bMapSet, wantA, isCall, stepOp, evalO, evalL, evalP, evalM, putDst, flat, kA, kB, Nat.reduceLT, ↓reduceIte, kC, Nat.reduceEqDiff, aBuiltin, abinG, guardFree, abin, aInt, aUn, aNilCheck, retQ, retQ1, aresults, aresultL, aresult, mkF, undefV, reduceCtorEq, kD, kE, kF, kG, kH, kI, kJ, kK, aExtract, calleeOf]; simp)
  ⟨0, _, [], rfl, Nat.zero_le _, rfl, GS.nil 1 _, rfl, rfl, Nat.le_refl _, (fun j u r hu => (by simp at hu)), Le.refl _, ap0⟩ ?_
 rintro k fr hy hwy ⟨i, bv, us, rfl, hi, rfl, gs, g1c, hul, hui, hrows, ley, ab⟩
 have le1y := lex.trans ley
 have lAy := lA hy le1y
 simp only [kS1, bLookup, bMapSet, wantA, isCall, stepOp, evalO, evalL, evalP, evalM, putDst, flat, kA, kB, Nat.reduceLT, ↓reduceIte, kC, Nat.reduceEqDiff, aBuiltin, abinG, guardFree, abin, aInt, aUn, aNilCheck, retQ, retQ1, aresults, aresultL, aresult, mkF, undefV, reduceCtorEq, kD, kE, kF, kG, kH, kI, kJ, kK, aExtract, calleeOf, lf]
 refine KCond.intro (fun ht => ?_) (fun hf => ?_)
 rotate_left
 ·have hge : es.length ≤ i := lt_f hf
  obtain rfl : i = es.length := by omega
  rw [rowsF_blocks hfin] at hul hrows
  simp only [kS1, bLookup, bMapSet, wantA, isCall, stepOp, evalO, evalL, evalP, evalM, putDst, flat, kA, kB, Nat.reduceLT, ↓reduceIte, kC, Nat.reduceEqDiff, aBuiltin, abinG, guardFree, abin, aInt, aUn, aNilCheck, retQ, retQ1, aresults, aresultL, aresult, mkF, undefV, reduceCtorEq, kD, kE, kF, kG, kH, kI, kJ, kK, aExtract, calleeOf]
  exact ⟨le1.trans le1y, .inr ⟨hr, bv, rfl, us, (GS.cs gs).rs, hul, fun j r u hr hu => (hrows j u r hu hr).1.pr⟩⟩
 have hlt : i < es.length := lt_t ht
 clear ht
 have dlt : decide ((i : Int) < (es.length : Int)) = true := decide_eq_true (by omega)
 have hml : i < (es.map f).length := by simpa using hlt
 have e1 : (es.map f)[i] = f es[i] := by rw [List.getElem_map]
 have gfy := gf.le ley
 by_cases c : f es[i] ∈ (es.map f).take i
 ·have hold := rowsF_old hlt c
  simp only [kS1, bLookup, bMapSet, wantA, isCall, stepOp, evalO, evalL, evalP, evalM, putDst, flat, kA, kB, Nat.reduceLT, ↓reduceIte, kC, Nat.reduceEqDiff, aBuiltin, abinG, guardFree, abin, aInt, aUn, aNilCheck, retQ, retQ1, aresults, aresultL, aresult, mkF, undefV, reduceCtorEq, kD, kE, kF, kG, kH, kI, kJ, kK, aExtract, calleeOf]
  refine KLoop.intro (fun k fr hz => k = 0 ∧ fr = mkF [(1, .pointer (some ⟨B, 0, none⟩)), (4, ov), (14, bv), (15, .int .i64 i), (16, .slice none 0 0), (17, .int .i64 i)] ∧ hz = hy)
   0 [(1, .pointer (some ⟨B, 0, none⟩)), (4, ov), (14, bv), (15, .int .i64 i), (16, .slice none 0 0), (17, .int .i64 i)] (by simp only [hasAll, kS1, bLookup, bMapSet, wantA, isCall, stepOp, evalO, evalL, evalP, evalM, putDst, flat, kA, kB, Nat.reduceLT, ↓reduceIte, kC, Nat.reduceEqDiff, aBuiltin, abinG, guardFree, abin, aInt, aUn, aNilCheck, retQ, retQ1, aresults, aresultL, aresult, mkF, undefV, reduceCtorEq, kD, kE, kF, kG, kH, kI, kJ, kK, aExtract, calleeOf]; simp) ⟨rfl, rfl, rfl⟩ ?_
  rintro k fr hz hwz ⟨rfl, rfl, rfl⟩
  simp only [kS1, bLookup, bMapSet, wantA, isCall, stepOp, evalO, evalL, evalP, evalM, putDst, flat, kA, kB, Nat.reduceLT, ↓reduceIte, kC, Nat.reduceEqDiff, aBuiltin, abinG, guardFree, abin, aInt, aUn, aNilCheck, retQ, retQ1, aresults, aresultL, aresult, mkF, undefV, reduceCtorEq, kD, kE, kF, kG, kH, kI, kJ, kK, aExtract, calleeOf, lf, dlt]
  refine KCall.intro (by simp only [kS1, bLookup, bMapSet, wantA, isCall, stepOp, evalO, evalL, evalP, evalM, putDst, flat, kA, kB, Nat.reduceLT, ↓reduceIte, kC, Nat.reduceEqDiff, aBuiltin, abinG, guardFree, abin, aInt, aUn, aNilCheck, retQ, retQ1, aresults, aresultL, aresult, mkF, undefV, reduceCtorEq, kD, kE, kF, kG, kH, kI, kJ, kK, aExtract, calleeOf] <;> rfl) ⟨Try.func70, rfl, by decide⟩ (Rfirst_any W0 ov (es.map f) i hz gfy.rl (by simp; omega) hml) ?_
  rintro x h9 w9 ⟨rfl, rfl⟩
  have d : decide ((es.map f)[i] ∉ (es.map f).take i) = false := by rw [e1]; exact decide_eq_false (fun k => k c)
  have hl0 : ∀ g, aLen Try.prog g 22 (.slice none 0 0) = some (.int .i64 0) := fun g => (PR.nil g).len g
  have d0 : decide ((0 : Int) > 0) = false := by decide
  simp only [kS1, bLookup, bMapSet, wantA, isCall, stepOp, evalO, evalL, evalP, evalM, putDst, flat, kA, kB, Nat.reduceLT, ↓reduceIte, kC, Nat.reduceEqDiff, aBuiltin, abinG, guardFree, abin, aInt, aUn, aNilCheck, retQ, retQ1, aresults, aresultL, aresult, mkF, undefV, reduceCtorEq, kD, kE, kF, kG, kH, kI, kJ, kK, aExtract, calleeOf, d, hl0, d0, awrap_succ i (by omega)]
  exact loop_again (es.length - (i + 1)) [(1, .pointer (some ⟨B, 0, none⟩)), (4, ov), (14, bv), (15, .int .i64 (i + 1 : Nat))] (by omega) (by simp only [hasAll, kS1, bLookup, bMapSet, wantA, isCall, stepOp, evalO, evalL, evalP, evalM, putDst, flat, kA, kB, Nat.reduceLT, ↓reduceIte, kC, Nat.reduceEqDiff, aBuiltin, abinG, guardFree, abin, aInt, aUn, aNilCheck, retQ, retQ1, aresults, aresultL, aresult, mkF, undefV, reduceCtorEq, kD, kE, kF, kG, kH, kI, kJ, kK, aExtract, calleeOf]; simp)
   ⟨i + 1, bv, us, rfl, hlt, rfl, gs, g1c, by rw [hold]; exact hul, by omega, by rw [hold]; exact hrows, ley, ab⟩
 have hnew := rowsF_new hlt c
 have dF : decide ((es.map f)[i] ∉ (es.map f).take i) = true := by rw [e1]; exact decide_eq_true c
 have adi := gf.rl.addr (P := Try.prog) Try.underlying35 Try.underlying3 (by kernel_rfl) (k := .i64) i hml
 have ldi := fun g (l : Le hy g) => (gfy.le l).rl.loadI (P := Try.prog) Try.underlying3 rfl i hml
 rw [e1] at ldi
 have hin : es[i] ∈ (es.drop i).filter fun p => decide (f p = f es[i]) := List.mem_filter.2 ⟨by rw [List.drop_eq_getElem_cons hlt]; exact List.mem_cons_self, by simp⟩
 generalize f es[i] = y at *
 have hpos := List.length_pos_of_mem hin
 clear hin
 have ap1 : Apart hy (.slice none 0 0) := fun b hb => by cases hb
 simp only [kS1, bLookup, bMapSet, wantA, isCall, stepOp, evalO, evalL, evalP, evalM, putDst, flat, kA, kB, Nat.reduceLT, ↓reduceIte, kC, Nat.reduceEqDiff, aBuiltin, abinG, guardFree, abin, aInt, aUn, aNilCheck, retQ, retQ1, aresults, aresultL, aresult, mkF, undefV, reduceCtorEq, kD, kE, kF, kG, kH, kI, kJ, kK, aExtract, calleeOf]
 refine KLoop.intro (fun k fr hz => ∃ (j : Nat) (rv : Value), k = es.length - j ∧ i ≤ j ∧ j ≤ es.length ∧ fr = mkF [(1, .pointer (some ⟨B, 0, none⟩)), (4, ov), (14, bv), (15, .int .i64 i), (16, rv), (17, .int .i64 j)] ∧ GP hz rv (((es.take j).drop i).filter fun p => decide (f p = y)) ∧ Le hy hz ∧ Apart hy rv)
  (es.length - i) [(1, .pointer (some ⟨B, 0, none⟩)), (4, ov), (14, bv), (15, .int .i64 i), (16, .slice none 0 0), (17, .int .i64 i)] (by simp only [hasAll, kS1, bLookup, bMapSet, wantA, isCall, stepOp, evalO, evalL, evalP, evalM, putDst, flat, kA, kB, Nat.reduceLT, ↓reduceIte, kC, Nat.reduceEqDiff, aBuiltin, abinG, guardFree, abin, aInt, aUn, aNilCheck, retQ, retQ1, aresults, aresultL, aresult, mkF, undefV, reduceCtorEq, kD, kE, kF, kG, kH, kI, kJ, kK, aExtract, calleeOf]; simp)
  ⟨i, _, rfl, Nat.le_refl _, hi, rfl, by rw [List.drop_of_length_le (by simp; omega)]; exact GP.nil _, Le.refl _, ap1⟩ ?_
 rintro k fr hz hwz ⟨j, rv, rfl, hij, hj, rfl, gr, lez, ar⟩
 have gfz := gfy.le lez
 by_cases cj : j < es.length
 ·have dj : decide ((j : Int) < (es.length : Int)) = true := decide_eq_true (by omega)
  have hmj : j < (es.map f).length := by simpa using cj
  simp only [kS1, bLookup, bMapSet, wantA, isCall, stepOp, evalO, evalL, evalP, evalM, putDst, flat, kA, kB, Nat.reduceLT, ↓reduceIte, kC, Nat.reduceEqDiff, aBuiltin, abinG, guardFree, abin, aInt, aUn, aNilCheck, retQ, retQ1, aresults, aresultL, aresult, mkF, undefV, reduceCtorEq, kD, kE, kF, kG, kH, kI, kJ, kK, aExtract, calleeOf, lf, dj]
  refine KCall.intro (by simp only [kS1, bLookup, bMapSet, wantA, isCall, stepOp, evalO, evalL, evalP, evalM, putDst, flat, kA, kB, Nat.reduceLT, ↓reduceIte, kC, Nat.reduceEqDiff, aBuiltin, abinG, guardFree, abin, aInt, aUn, aNilCheck, retQ, retQ1, aresults, aresultL, aresult, mkF, undefV, reduceCtorEq, kD, kE, kF, kG, kH, kI, kJ, kK, aExtract, calleeOf] <;> rfl) ⟨Try.func70, rfl, by decide⟩ (Rfirst_any W0 ov (es.map f) i hz gfz.rl (by simp; omega) hml) ?_
  rintro x h9 w9 ⟨rfl, rfl⟩
  have adj_ := gf.rl.addr (P := Try.prog) Try.underlying35 Try.underlying3 (by kernel_rfl) (k := .i64) j hmj
  have ldj := gfz.rl.loadI (P := Try.prog) Try.underlying3 rfl j hmj
  have ldiz := ldi _ lez
  have e2 : (es.map f)[j] = f es[j] := by rw [List.getElem_map]
  rw [e2] at ldj
  have htk : (es.take (j + 1)).drop i = (es.take j).drop i ++ [es[j]] := by
   rw [List.take_succ_eq_append_getElem cj, List.drop_append_of_le_length (by simp; omega)]
  have hpj := getElem?_of cj
  have lAz := lA _ (le1y.trans lez)
  have adp := hp.addr (k := .i64) j cj
  have ldp := (hp.le (le1.trans (le1y.trans lez))).load hpj
  generalize es[j] = q at *
  simp only [kS1, bLookup, bMapSet, wantA, isCall, stepOp, evalO, evalL, evalP, evalM, putDst, flat, kA, kB, Nat.reduceLT, ↓reduceIte, kC, Nat.reduceEqDiff, aBuiltin, abinG, guardFree, abin, aInt, aUn, aNilCheck, retQ, retQ1, aresults, aresultL, aresult, mkF, undefV, reduceCtorEq, kD, kE, kF, kG, kH, kI, kJ, kK, aExtract, calleeOf, dF]
  refine KDraw.intro mixed (.fl 0 (.fl 1 (.fl 2 (.fl 3 (.fl 4 (.fl 5 (.fl 6 (.fl 7 (.fl 8 (.done)))))))))) (by kernel_rfl) ?_
  by_cases c2 : f q = y
  ·have d2 : decide (f q = y) = true := decide_eq_true c2
   have hll : (((es.take j).drop i).filter fun p => decide (f p = y)).length ≤ 600 := by
    have := List.length_filter_le (fun p => decide (f p = y)) ((es.take j).drop i); simp at this; omega
   obtain ⟨v', g1, g2, q1, q2, gp2, wg2, lg1, fg, kg⟩ := gr.push hwz q (by omega)
   obtain ⟨lx, ax⟩ := fg hy lez ar
   simp only [kS1, bLookup, bMapSet, wantA, isCall, stepOp, evalO, evalL, evalP, evalM, putDst, flat, kA, kB, Nat.reduceLT, ↓reduceIte, kC, Nat.reduceEqDiff, aBuiltin, abinG, guardFree, abin, aInt, aUn, aNilCheck, retQ, retQ1, aresults, aresultL, aresult, mkF, undefV, reduceCtorEq, kD, kE, kF, kG, kH, kI, kJ, kK, aExtract, calleeOf, kD1, Nat.reduceBEq, HoldsAll, kL, kM, kN, kO, adi, ldiz, adj_, ldj, d2, fg1, aadd, Nat.zero_add, lAz.2.2, adp, ldp, q1, q2, awrap_succ j (by omega)]
   exact loop_again (es.length - (j + 1)) [(1, .pointer (some ⟨B, 0, none⟩)), (4, ov), (14, bv), (15, .int .i64 i), (16, v'), (17, .int .i64 (j + 1 : Nat))] (by omega) (by simp only [hasAll, kS1, bLookup, bMapSet, wantA, isCall, stepOp, evalO, evalL, evalP, evalM, putDst, flat, kA, kB, Nat.reduceLT, ↓reduceIte, kC, Nat.reduceEqDiff, aBuiltin, abinG, guardFree, abin, aInt, aUn, aNilCheck, retQ, retQ1, aresults, aresultL, aresult, mkF, undefV, reduceCtorEq, kD, kE, kF, kG, kH, kI, kJ, kK, aExtract, calleeOf]; simp)
    ⟨j + 1, v', rfl, by omega, cj, rfl, by rw [htk, List.filter_append]; simpa [c2] using gp2, lx, ax⟩
  ·have d2 : decide (f q = y) = false := decide_eq_false c2
   simp only [kS1, bLookup, bMapSet, wantA, isCall, stepOp, evalO, evalL, evalP, evalM, putDst, flat, kA, kB, Nat.reduceLT, ↓reduceIte, kC, Nat.reduceEqDiff, aBuiltin, abinG, guardFree, abin, aInt, aUn, aNilCheck, retQ, retQ1, aresults, aresultL, aresult, mkF, undefV, reduceCtorEq, kD, kE, kF, kG, kH, kI, kJ, kK, aExtract, calleeOf, kD1, Nat.reduceBEq, HoldsAll, kL, kM, kN, kO, adi, ldiz, adj_, ldj, d2, awrap_succ j (by omega)]
   exact loop_again (es.length - (j + 1)) [(1, .pointer (some ⟨B, 0, none⟩)), (4, ov), (14, bv), (15, .int .i64 i), (16, rv), (17, .int .i64 (j + 1 : Nat))] (by omega) (by simp only [hasAll, kS1, bLookup, bMapSet, wantA, isCall, stepOp, evalO, evalL, evalP, evalM, putDst, flat, kA, kB, Nat.reduceLT, ↓reduceIte, kC, Nat.reduceEqDiff, aBuiltin, abinG, guardFree, abin, aInt, aUn, aNilCheck, retQ, retQ1, aresults, aresultL, aresult, mkF, undefV, reduceCtorEq, kD, kE, kF, kG, kH, kI, kJ, kK, aExtract, calleeOf]; simp)
    ⟨j + 1, rv, rfl, by omega, cj, rfl, by rw [htk, List.filter_append]; simpa [c2] using gr, lez, ar⟩
 obtain rfl : j = es.length := by omega
 have dj : decide (((es.length : Nat) : Int) < (es.length : Int)) = false := decide_eq_false (by omega)
 rw [List.take_length] at gr
 have hlr := fun g => gr.pr.len g
 have d0 : decide ((((es.drop i).filter fun p => decide (f p = y)).length : Int) > 0) = true := decide_eq_true (by omega)
 obtain ⟨h6, e6, l6, w6, o6⟩ := alloc_f hwz [rv]
 have mk6 := mk38 hz gr.pr.sl
 rw [e6] at mk6
 have le6 := lez.trans l6
 obtain ⟨bv', h7, e7, gs7, f7⟩ := GS.push (P := Try.prog) (t := 38) (by kernel_rfl) (GS.le gs le6) o6 g1c gr.pr.sl.one (by omega)
 have k7 := fun b o ho hb => keep_own (a := b) (o := o) (h := h6) (h' := h7) (v := bv) (v' := bv') f7 w6 ho hb
 obtain ⟨l7, a7⟩ := f7 hx w6 (ley.trans le6) ab
 have keepG : ∀ {u : Value} {r : List Pr}, GP h6 u r → (∀ b, blk bv = some b → blk u ≠ some b) → GP h7 u r ∧ ∀ b, blk bv' = some b → blk u ≠ some b := fun {u r} g hd => by
  refine ⟨GS.kept g fun b o hb ho => (k7 b o ho (fun e => hd b e hb)).1, fun b hb e => ?_⟩
  have := GS.blk_own g e
  cases ho : h6.own b with
  | none => exact this ho
  | some o => exact (k7 b o ho (fun e' => hd b e' e)).2 hb
 have gr6 := gr.le l6
 have hdr : ∀ b, blk bv = some b → blk rv ≠ some b := fun b hb e => by
  have h1 := GS.blk_own gs hb
  exact h1 (ar b e)
 simp only [kS1, bLookup, bMapSet, wantA, isCall, stepOp, evalO, evalL, evalP, evalM, putDst, flat, kA, kB, Nat.reduceLT, ↓reduceIte, kC, Nat.reduceEqDiff, aBuiltin, abinG, guardFree, abin, aInt, aUn, aNilCheck, retQ, retQ1, aresults, aresultL, aresult, mkF, undefV, reduceCtorEq, kD, kE, kF, kG, kH, kI, kJ, kK, aExtract, calleeOf, lf, dj, hlr, d0, mk6, e7, awrap_succ i (by omega)]
 exact loop_again (es.length - (i + 1)) [(1, .pointer (some ⟨B, 0, none⟩)), (4, ov), (14, bv'), (15, .int .i64 (i + 1 : Nat))] (by omega) (by simp only [hasAll, kS1, bLookup, bMapSet, wantA, isCall, stepOp, evalO, evalL, evalP, evalM, putDst, flat, kA, kB, Nat.reduceLT, ↓reduceIte, kC, Nat.reduceEqDiff, aBuiltin, abinG, guardFree, abin, aInt, aUn, aNilCheck, retQ, retQ1, aresults, aresultL, aresult, mkF, undefV, reduceCtorEq, kD, kE, kF, kG, kH, kI, kJ, kK, aExtract, calleeOf]; simp)
  ⟨i + 1, bv', us ++ [rv], rfl, hlt, rfl, by rw [List.length_append]; exact gs7, by simpa [gr.pr.sl.one] using g1c, by rw [hnew]; simp [hul], by simp; omega, fun j u r hu hr => by
   rw [hnew] at hr
   by_cases e : j < us.length
   ·rw [List.getElem?_append_left e] at hu
    rw [List.getElem?_append_left (by omega)] at hr
    obtain ⟨k1, k2⟩ := hrows j u r hu hr
    exact keepG (k1.le le6) k2
   ·have hj1 : j < (us ++ [rv]).length := (List.getElem?_eq_some_iff.1 hu).1
    simp at hj1
    have : j = us.length := by omega
    subst this
    rw [List.getElem?_append_right (Nat.le_refl _)] at hu
    rw [List.getElem?_append_right (by omega), hul] at hr
    simp at hu hr
    subst hu; subst hr
    exact keepG gr6 hdr, l7, a7⟩
end Go.Fw
