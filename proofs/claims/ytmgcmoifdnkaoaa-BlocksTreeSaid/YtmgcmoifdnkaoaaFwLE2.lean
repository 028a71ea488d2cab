/- A text of the proof. -/
import Derived.Test.YtmgcmoifdnkaoaaFwLC16
set_option linter.unusedSimpArgs false
set_option linter.unusedVariables false
namespace Go.Fw
open Go.Proofs
attribute [local irreducible] KO4 KO3 KO2 KO1 KO KN KX KE VK KCond KDraw KCall KLoop
set_option maxHeartbeats 16000000
set_option maxRecDepth 10000
attribute [local irreducible] lowM bridgesM cutsM blocksM keyE treeM
theorem inc84_any (W0 : Base) (B : Nat) (v : Int) (p : Pr) (h : AHeap) (o : h.own B = some (.cells [.int .i64 v])) : AC Try.prog W0 84 [valP p, .pointer (some ⟨B, 0, none⟩)] h fun x h' => x = .bool (incB v p) ∧ Le h h' := by
 refine AC.vc (fn := Try.f84) (c := _) ⟨Try.func84, rfl, by decide⟩ Try.ntmps84 Try.results84 (by simp) fun hwf => ?_
 simp only [argFrame, argFrom, Nat.reduceAdd]
 obtain ⟨h1, e1, l1, w1, o1⟩ := alloc_f hwf (cellsP p)
 have ob := l1.own _ _ o
 have lv : aload Try.prog h1 3 ⟨B, 0, none⟩ = some (.int .i64 v) := by rw [aload_one Try.underlying3 rfl ob]; rfl
 simp only [kS1, bLookup, bMapSet, wantA, isCall, stepOp, evalO, evalL, evalP, evalM, putDst, flat, kA, kB, Nat.reduceLT, ↓reduceIte, kC, Nat.reduceEqDiff, aBuiltin, abinG, guardFree, abin, aInt, aUn, aNilCheck, retQ, retQ1, aresults, aresultL, aresult, mkF, undefV, reduceCtorEq, kD, kE, kF, kG, kH, kI, kJ, kK, aExtract, calleeOf, box42, e1]
 generalize h.next = E at *
 by_cases c : p.1 = v
 ·have d : decide (p.1 = v) = true := decide_eq_true c
  simp only [kS1, bLookup, bMapSet, wantA, isCall, stepOp, evalO, evalL, evalP, evalM, putDst, flat, kA, kB, Nat.reduceLT, ↓reduceIte, kC, Nat.reduceEqDiff, aBuiltin, abinG, guardFree, abin, aInt, aUn, aNilCheck, retQ, retQ1, aresults, aresultL, aresult, mkF, undefV, reduceCtorEq, kD, kE, kF, kG, kH, kI, kJ, kK, aExtract, calleeOf, pa0, pa1, aadd, Nat.zero_add, own0 o1, own1 o1, lv, d]
  exact ⟨by rw [incB, d]; rfl, l1⟩
 ·have d : decide (p.1 = v) = false := decide_eq_false c
  simp only [kS1, bLookup, bMapSet, wantA, isCall, stepOp, evalO, evalL, evalP, evalM, putDst, flat, kA, kB, Nat.reduceLT, ↓reduceIte, kC, Nat.reduceEqDiff, aBuiltin, abinG, guardFree, abin, aInt, aUn, aNilCheck, retQ, retQ1, aresults, aresultL, aresult, mkF, undefV, reduceCtorEq, kD, kE, kF, kG, kH, kI, kJ, kK, aExtract, calleeOf, pa0, pa1, aadd, Nat.zero_add, own0 o1, own1 o1, lv, d]
  exact ⟨by rw [incB, d]; rfl, l1⟩
theorem IdxF_any (W0 : Base) (lv : Value) (es : List Pr) (P : Pr → Bool) (F : FuncId) {fn : Func} {c : Code} (hgood : Good Try.prog F fn c) (cap : List Value) (h : AHeap) (hv : PR h lv es) (hn : es.length ≤ 100000)
  (hf : ∀ g p, Le h g → AC Try.prog W0 F (valP p :: cap) g fun x g' => x = .bool (P p) ∧ Le g g') :
  AC Try.prog W0 95 [lv, .func (.func F) #[] cap.toArray] h fun x h' => Le h h' ∧ ((x = .int .i64 (-1) ∧ es.any P = false) ∨ ∃ i : Nat, x = .int .i64 (i : Int) ∧ es.any P = true) := by
 refine AC.vc (fn := Try.f95) (c := _) ⟨Try.func95, rfl, by decide⟩ Try.ntmps95 Try.results95 (by simp) fun hwf => ?_
 simp only [argFrame, argFrom, Nat.reduceAdd]
 have lr := fun g => hv.len g
 simp only [kS1, bLookup, bMapSet, wantA, isCall, stepOp, evalO, evalL, evalP, evalM, putDst, flat, kA, kB, Nat.reduceLT, ↓reduceIte, kC, Nat.reduceEqDiff, aBuiltin, abinG, guardFree, abin, aInt, aUn, aNilCheck, retQ, retQ1, aresults, aresultL, aresult, mkF, undefV, reduceCtorEq, kD, kE, kF, kG, kH, kI, kJ, kK, aExtract, calleeOf, lr]
 refine KLoop.intro (fun k fr hq => ∃ (i : Nat), k = es.length - i ∧ i ≤ es.length ∧ fr = mkF [(0, lv), (1, .func (.func F) #[] cap.toArray), (7, .int .i64 es.length), (8, .int .i64 i)] ∧ Le h hq ∧ (es.take i).any P = false)
  es.length [(0, lv), (1, .func (.func F) #[] cap.toArray), (7, .int .i64 es.length), (8, .int .i64 (0 : Nat))] (by simp only [hasAll, kS1, bLookup, bMapSet, wantA, isCall, stepOp, evalO, evalL, evalP, evalM, putDst, flat, kA, kB, Nat.reduceLT, ↓reduceIte, kC, Nat.reduceEqDiff, aBuiltin, abinG, guardFree, abin, aInt, aUn, aNilCheck, retQ, retQ1, aresults, aresultL, aresult, mkF, undefV, reduceCtorEq, kD, kE, kF, kG, kH, kI, kJ, kK, aExtract, calleeOf]; simp) ⟨0, rfl, Nat.zero_le _, rfl, Le.refl _, by simp⟩ ?_
 rintro k fr hq hwq ⟨i, rfl, hi, rfl, leq, hno⟩
 simp only [kS1, bLookup, bMapSet, wantA, isCall, stepOp, evalO, evalL, evalP, evalM, putDst, flat, kA, kB, Nat.reduceLT, ↓reduceIte, kC, Nat.reduceEqDiff, aBuiltin, abinG, guardFree, abin, aInt, aUn, aNilCheck, retQ, retQ1, aresults, aresultL, aresult, mkF, undefV, reduceCtorEq, kD, kE, kF, kG, kH, kI, kJ, kK, aExtract, calleeOf]
 refine KCond.intro (fun ht => ?_) (fun hf => ?_)
 rotate_left
 ·have hge : es.length ≤ i := lt_f hf
  rw [List.take_of_length_le hge] at hno
  simp only [kS1, bLookup, bMapSet, wantA, isCall, stepOp, evalO, evalL, evalP, evalM, putDst, flat, kA, kB, Nat.reduceLT, ↓reduceIte, kC, Nat.reduceEqDiff, aBuiltin, abinG, guardFree, abin, aInt, aUn, aNilCheck, retQ, retQ1, aresults, aresultL, aresult, mkF, undefV, reduceCtorEq, kD, kE, kF, kG, kH, kI, kJ, kK, aExtract, calleeOf]
  exact ⟨leq, .inl ⟨trivial, hno⟩⟩
 have hlt : i < es.length := lt_t ht
 clear ht
 have hpi := getElem?_of hlt
 have htk : es.take (i + 1) = es.take i ++ [es[i]] := List.take_succ_eq_append_getElem hlt
 generalize es[i] = p at hpi htk
 have ad := hv.addr (k := .i64) i hlt
 have ld := (hv.le leq).load hpi
 simp only [kS1, bLookup, bMapSet, wantA, isCall, stepOp, evalO, evalL, evalP, evalM, putDst, flat, kA, kB, Nat.reduceLT, ↓reduceIte, kC, Nat.reduceEqDiff, aBuiltin, abinG, guardFree, abin, aInt, aUn, aNilCheck, retQ, retQ1, aresults, aresultL, aresult, mkF, undefV, reduceCtorEq, kD, kE, kF, kG, kH, kI, kJ, kK, aExtract, calleeOf, ad, ld]
 refine KCall.intro (g := F) (args := valP p :: cap) (by simp only [kS1, bLookup, bMapSet, wantA, isCall, stepOp, evalO, evalL, evalP, evalM, putDst, flat, kA, kB, Nat.reduceLT, ↓reduceIte, kC, Nat.reduceEqDiff, aBuiltin, abinG, guardFree, abin, aInt, aUn, aNilCheck, retQ, retQ1, aresults, aresultL, aresult, mkF, undefV, reduceCtorEq, kD, kE, kF, kG, kH, kI, kJ, kK, aExtract, calleeOf, List.toList_toArray, List.append_nil]) hgood (hf hq p leq) ?_
 rintro x h2 w2 ⟨rfl, l2⟩
 cases hb : P p with
 | true =>
  simp only [kS1, bLookup, bMapSet, wantA, isCall, stepOp, evalO, evalL, evalP, evalM, putDst, flat, kA, kB, Nat.reduceLT, ↓reduceIte, kC, Nat.reduceEqDiff, aBuiltin, abinG, guardFree, abin, aInt, aUn, aNilCheck, retQ, retQ1, aresults, aresultL, aresult, mkF, undefV, reduceCtorEq, kD, kE, kF, kG, kH, kI, kJ, kK, aExtract, calleeOf]
  exact ⟨leq.trans l2, .inr ⟨i, rfl, List.any_eq_true.2 ⟨p, List.mem_of_getElem? hpi, hb⟩⟩⟩
 | false =>
  simp only [kS1, bLookup, bMapSet, wantA, isCall, stepOp, evalO, evalL, evalP, evalM, putDst, flat, kA, kB, Nat.reduceLT, ↓reduceIte, kC, Nat.reduceEqDiff, aBuiltin, abinG, guardFree, abin, aInt, aUn, aNilCheck, retQ, retQ1, aresults, aresultL, aresult, mkF, undefV, reduceCtorEq, kD, kE, kF, kG, kH, kI, kJ, kK, aExtract, calleeOf, awrap_succ i (by omega)]
  refine loop_again (es.length - (i + 1)) [(0, lv), (1, .func (.func F) #[] cap.toArray), (7, .int .i64 es.length), (8, .int .i64 (i + 1 : Nat))] (by omega) (by simp only [hasAll, kS1, bLookup, bMapSet, wantA, isCall, stepOp, evalO, evalL, evalP, evalM, putDst, flat, kA, kB, Nat.reduceLT, ↓reduceIte, kC, Nat.reduceEqDiff, aBuiltin, abinG, guardFree, abin, aInt, aUn, aNilCheck, retQ, retQ1, aresults, aresultL, aresult, mkF, undefV, reduceCtorEq, kD, kE, kF, kG, kH, kI, kJ, kK, aExtract, calleeOf]; simp) ⟨i + 1, rfl, hlt, rfl, leq.trans l2, ?_⟩
  rw [htk, List.any_append, hno]; simp [hb]
theorem ContF_any (W0 : Base) (lv : Value) (es : List Pr) (P : Pr → Bool) (F : FuncId) {fn : Func} {c : Code} (hgood : Good Try.prog F fn c) (cap : List Value) (h : AHeap) (hv : PR h lv es) (hn : es.length ≤ 100000)
  (hf : ∀ g p, Le h g → AC Try.prog W0 F (valP p :: cap) g fun x g' => x = .bool (P p) ∧ Le g g') :
  AC Try.prog W0 83 [lv, .func (.func F) #[] cap.toArray] h fun x h' => x = .bool (es.any P) ∧ Le h h' := by
 refine AC.vc (fn := Try.f83) (c := _) ⟨Try.func83, rfl, by decide⟩ Try.ntmps83 Try.results83 (by simp) fun hwf => ?_
 simp only [argFrame, argFrom, Nat.reduceAdd]
 simp only [kS1, bLookup, bMapSet, wantA, isCall, stepOp, evalO, evalL, evalP, evalM, putDst, flat, kA, kB, Nat.reduceLT, ↓reduceIte, kC, Nat.reduceEqDiff, aBuiltin, abinG, guardFree, abin, aInt, aUn, aNilCheck, retQ, retQ1, aresults, aresultL, aresult, mkF, undefV, reduceCtorEq, kD, kE, kF, kG, kH, kI, kJ, kK, aExtract, calleeOf]
 refine KCall.intro (by simp only [kS1, bLookup, bMapSet, wantA, isCall, stepOp, evalO, evalL, evalP, evalM, putDst, flat, kA, kB, Nat.reduceLT, ↓reduceIte, kC, Nat.reduceEqDiff, aBuiltin, abinG, guardFree, abin, aInt, aUn, aNilCheck, retQ, retQ1, aresults, aresultL, aresult, mkF, undefV, reduceCtorEq, kD, kE, kF, kG, kH, kI, kJ, kK, aExtract, calleeOf] <;> rfl) ⟨Try.func95, rfl, by decide⟩ (IdxF_any W0 lv es P F hgood cap h hv hn hf) ?_
 rintro x h2 w2 ⟨l2, ⟨rfl, e⟩ | ⟨i, rfl, e⟩⟩
 ·have d : decide ((-1 : Int) ≥ 0) = false := by decide
  simp only [kS1, bLookup, bMapSet, wantA, isCall, stepOp, evalO, evalL, evalP, evalM, putDst, flat, kA, kB, Nat.reduceLT, ↓reduceIte, kC, Nat.reduceEqDiff, aBuiltin, abinG, guardFree, abin, aInt, aUn, aNilCheck, retQ, retQ1, aresults, aresultL, aresult, mkF, undefV, reduceCtorEq, kD, kE, kF, kG, kH, kI, kJ, kK, aExtract, calleeOf, d, e]
  exact ⟨trivial, l2⟩
 ·have d : decide ((i : Int) ≥ 0) = true := by simp
  simp only [kS1, bLookup, bMapSet, wantA, isCall, stepOp, evalO, evalL, evalP, evalM, putDst, flat, kA, kB, Nat.reduceLT, ↓reduceIte, kC, Nat.reduceEqDiff, aBuiltin, abinG, guardFree, abin, aInt, aUn, aNilCheck, retQ, retQ1, aresults, aresultL, aresult, mkF, undefV, reduceCtorEq, kD, kE, kF, kG, kH, kI, kJ, kK, aExtract, calleeOf, d, e]
  exact ⟨trivial, l2⟩
theorem has53_any (W0 : Base) (lv : Value) (b : List Pr) (v : Int) (h : AHeap) (hv : PR h lv b) (hn : b.length ≤ 100000) : AC Try.prog W0 53 [lv, .int .i64 v] h fun x h' => x = .bool (atB v b) ∧ Le h h' := by
 refine AC.vc (fn := Try.f53) (c := _) ⟨Try.func53, rfl, by decide⟩ Try.ntmps53 Try.results53 (by simp) fun hwf => ?_
 simp only [argFrame, argFrom, Nat.reduceAdd]
 obtain ⟨h1, e1, l1, w1, o1⟩ := alloc_f hwf [.int .i64 v]
 have bx : aBox h (.int .i64 v) = some (.pointer (some ⟨h.next, 0, none⟩), h1) := by rw [← e1]; rfl
 simp only [kS1, bLookup, bMapSet, wantA, isCall, stepOp, evalO, evalL, evalP, evalM, putDst, flat, kA, kB, Nat.reduceLT, ↓reduceIte, kC, Nat.reduceEqDiff, aBuiltin, abinG, guardFree, abin, aInt, aUn, aNilCheck, retQ, retQ1, aresults, aresultL, aresult, mkF, undefV, reduceCtorEq, kD, kE, kF, kG, kH, kI, kJ, kK, aExtract, calleeOf, bx]
 generalize h.next = B at *
 refine KCall.intro (by simp only [kS1, bLookup, bMapSet, wantA, isCall, stepOp, evalO, evalL, evalP, evalM, putDst, flat, kA, kB, Nat.reduceLT, ↓reduceIte, kC, Nat.reduceEqDiff, aBuiltin, abinG, guardFree, abin, aInt, aUn, aNilCheck, retQ, retQ1, aresults, aresultL, aresult, mkF, undefV, reduceCtorEq, kD, kE, kF, kG, kH, kI, kJ, kK, aExtract, calleeOf] <;> rfl) ⟨Try.func83, rfl, by decide⟩ (ContF_any W0 lv b (incB v) 84 ⟨Try.func84, rfl, by decide⟩ [.pointer (some ⟨B, 0, none⟩)] h1 (hv.le l1) hn fun g p lg => inc84_any W0 B v p g (lg.own _ _ o1)) ?_
 rintro x h2 w2 ⟨rfl, l2⟩
 simp only [kS1, bLookup, bMapSet, wantA, isCall, stepOp, evalO, evalL, evalP, evalM, putDst, flat, kA, kB, Nat.reduceLT, ↓reduceIte, kC, Nat.reduceEqDiff, aBuiltin, abinG, guardFree, abin, aInt, aUn, aNilCheck, retQ, retQ1, aresults, aresultL, aresult, mkF, undefV, reduceCtorEq, kD, kE, kF, kG, kH, kI, kJ, kK, aExtract, calleeOf]
 exact ⟨rfl, l1.trans l2⟩
theorem edges_new {b N : Nat} {ls : List Pr} (K : Lk b N ls) (h200 : N ≤ 200) : NewOK (N : Int) (edgesU b ls) ∧ (edgesU b ls).map normP = edgesU b ls := by
 have hn : ∀ p ∈ edgesU b ls, normP p = p ∧ 0 ≤ p.1 ∧ p.1 < p.2 ∧ p.2 < (N : Int) := fun p hp => by
  obtain ⟨q, hq, rfl⟩ := List.mem_map.1 hp
  have L := K.ok q hq
  have := L.x0; have := L.x1; have := L.y0; have := L.y1
  refine ⟨Prod.ext ?_ ?_, ?_, ?_, ?_⟩ <;> simp only [normP] <;> omega
 have e : (edgesU b ls).map normP = edgesU b ls := by
  conv => rhs; rw [← List.map_id (edgesU b ls)]
  exact List.map_congr_left fun p hp => (hn p hp).1
 have hlen : (edgesU b ls).length = ls.length := by simp [edgesU]
 have := K.len
 refine ⟨⟨by omega, by omega, by omega, fun p hp => ?_, by rw [e]; exact K.tree.nodup⟩, e⟩
 obtain ⟨e1, e2, e3, e4⟩ := hn p hp
 rw [e1]; exact ⟨e2, by omega, e4⟩
theorem drawn_any (W0 : Base) (v : Value) (T : TM) (N : Nat) (h : AHeap) (hv : TR h v T) (K : Lk T.bs.length N T.ls) (hN : N = T.bs.length + T.cs.length) (h200 : N ≤ 200) :
  AC Try.prog W0 54 [v] h fun x h' => Le h h' ∧ ∃ ev, x = .tuple #[.agg #[.int .i64 N, ev], .bool true] ∧ GP h' ev (sortP (edgesU T.bs.length T.ls)) ∧ Apart h ev := by
 obtain ⟨bs, cs, ls⟩ := T
 obtain ⟨bv, cv, lv, rfl, hb, hc, hl⟩ := hv
 simp only at hN K hb hc hl ⊢
 obtain ⟨hOK, hnorm⟩ := edges_new K h200
 have hll := K.len
 refine AC.vc (fn := Try.f54) (c := _) ⟨Try.func54, rfl, by decide⟩ Try.ntmps54 Try.results54 (by simp) fun hwf => ?_
 simp only [argFrame, argFrom, Nat.reduceAdd]
 obtain ⟨h1, b1, le1, wf1, lA⟩ := boxT (T := ⟨bs, cs, ls⟩) hwf hb hc hl
 generalize h.next = B at *
 obtain ⟨h2, e2, l2, w2, o2⟩ := alloc_f wf1 [.int .i64 0, .slice none 0 0]
 have al := alloc24 h1
 rw [e2] at al
 have nR : h.own h1.next = none := le1.next wf1 (Nat.le_refl _)
 generalize h1.next = R at *
 have lA2 := lA h2 l2
 have ll := fun g => hl.len g
 have lb := fun g => hb.len (P := Try.prog) Try.underlying38 g
 have lc := fun g => hc.len (P := Try.prog) Try.underlying35 g
 simp only [kS1, bLookup, bMapSet, wantA, isCall, stepOp, evalO, evalL, evalP, evalM, putDst, flat, kA, kB, Nat.reduceLT, ↓reduceIte, kC, Nat.reduceEqDiff, aBuiltin, abinG, guardFree, abin, aInt, aUn, aNilCheck, retQ, retQ1, aresults, aresultL, aresult, mkF, undefV, reduceCtorEq, kD, kE, kF, kG, kH, kI, kJ, kK, aExtract, calleeOf, b1, al, tf2, aadd, Nat.zero_add, lA2.2.2.2, ll]
 refine KLoop.intro (fun k fr hq => ∃ (i : Nat) (xv : Value), k = ls.length - i ∧ i ≤ ls.length ∧ fr = mkF [(1, .pointer (some ⟨B, 0, none⟩)), (2, .pointer (some ⟨R, 0, none⟩)), (4, xv), (10, lv), (11, .int .i64 ls.length), (12, .int .i64 i)] ∧
   GP hq xv (edgesU bs.length (ls.take i)) ∧ Le h2 hq ∧ Apart h2 xv)
  ls.length [(1, .pointer (some ⟨B, 0, none⟩)), (2, .pointer (some ⟨R, 0, none⟩)), (4, .slice none 0 0), (10, lv), (11, .int .i64 ls.length), (12, .int .i64 (0 : Nat))] (by simp only [hasAll, kS1, bLookup, bMapSet, wantA, isCall, stepOp, evalO, evalL, evalP, evalM, putDst, flat, kA, kB, Nat.reduceLT, ↓reduceIte, kC, Nat.reduceEqDiff, aBuiltin, abinG, guardFree, abin, aInt, aUn, aNilCheck, retQ, retQ1, aresults, aresultL, aresult, mkF, undefV, reduceCtorEq, kD, kE, kF, kG, kH, kI, kJ, kK, aExtract, calleeOf]; simp)
  ⟨0, _, rfl, Nat.zero_le _, rfl, GP.nil _, Le.refl _, fun b hb => by cases hb⟩ ?_
 rintro k fr hq hwq ⟨i, xv, rfl, hi, rfl, gx, leq, ax⟩
 have Aq := lA hq (l2.trans leq)
 simp only [kS1, bLookup, bMapSet, wantA, isCall, stepOp, evalO, evalL, evalP, evalM, putDst, flat, kA, kB, Nat.reduceLT, ↓reduceIte, kC, Nat.reduceEqDiff, aBuiltin, abinG, guardFree, abin, aInt, aUn, aNilCheck, retQ, retQ1, aresults, aresultL, aresult, mkF, undefV, reduceCtorEq, kD, kE, kF, kG, kH, kI, kJ, kK, aExtract, calleeOf]
 refine KCond.intro (fun ht => ?_) (fun hf => ?_)
 ·have hlt : i < ls.length := lt_t ht
  clear ht
  have hpi := getElem?_of hlt
  have htk : ls.take (i + 1) = ls.take i ++ [ls[i]] := List.take_succ_eq_append_getElem hlt
  generalize ls[i] = p at hpi htk
  have L := K.ok p (List.mem_of_getElem? hpi)
  have hwr : awrap .i64 ((bs.length : Int) + p.2) = (bs.length : Int) + p.2 := by
   have := L.y0; have := L.y1; exact awrap_in _ (by omega) (by omega)
  have ad := hl.addr (k := .i64) i hlt
  have ld := (hl.le ((le1.trans l2).trans leq)).load hpi
  obtain ⟨h7', h7, e7, e7s, l7, w7, o7⟩ := new42 hwq p
  generalize hq.next = E at *
  have m0 := own0 o7
  have m1 := own1 o7
  have A7 := lA h7 ((l2.trans leq).trans l7)
  have htp : edgesU bs.length (ls.take (i + 1)) = edgesU bs.length (ls.take i) ++ [(p.1, (bs.length : Int) + p.2)] := by rw [htk]; simp [edgesU]
  have hel : (edgesU bs.length (ls.take i)).length = i := by simp [edgesU]; omega
  obtain ⟨v', h8, h9, e8, e9, g9, w9, l8, f9, k9⟩ := (gx.le l7).push w7 (p.1, (bs.length : Int) + p.2) (by rw [hel]; omega)
  obtain ⟨l9, a9⟩ := f9 h2 (leq.trans l7) ax
  simp only [kS1, bLookup, bMapSet, wantA, isCall, stepOp, evalO, evalL, evalP, evalM, putDst, flat, kA, kB, Nat.reduceLT, ↓reduceIte, kC, Nat.reduceEqDiff, aBuiltin, abinG, guardFree, abin, aInt, aUn, aNilCheck, retQ, retQ1, aresults, aresultL, aresult, mkF, undefV, reduceCtorEq, kD, kE, kF, kG, kH, kI, kJ, kK, aExtract, calleeOf, ad, ld, e7, e7s, pa0, pa1, tf0, aadd, Nat.zero_add, m0, m1, A7.2.1, lb, hwr, build42, e8, e9, awrap_succ i (by omega)]
  exact loop_again (ls.length - (i + 1)) [(1, .pointer (some ⟨B, 0, none⟩)), (2, .pointer (some ⟨R, 0, none⟩)), (4, v'), (10, lv), (11, .int .i64 ls.length), (12, .int .i64 (i + 1 : Nat))] (by omega) (by simp only [hasAll, kS1, bLookup, bMapSet, wantA, isCall, stepOp, evalO, evalL, evalP, evalM, putDst, flat, kA, kB, Nat.reduceLT, ↓reduceIte, kC, Nat.reduceEqDiff, aBuiltin, abinG, guardFree, abin, aInt, aUn, aNilCheck, retQ, retQ1, aresults, aresultL, aresult, mkF, undefV, reduceCtorEq, kD, kE, kF, kG, kH, kI, kJ, kK, aExtract, calleeOf]; simp)
   ⟨i + 1, v', rfl, hlt, rfl, by rw [htp]; exact g9, l9, a9⟩
 ·have hge : ls.length ≤ i := lt_f hf
  rw [List.take_of_length_le hge] at gx
  have hwr : awrap .i64 ((bs.length : Int) + (cs.length : Int)) = (N : Int) := by
   rw [awrap_in _ (by omega) (by omega)]; omega
  simp only [kS1, bLookup, bMapSet, wantA, isCall, stepOp, evalO, evalL, evalP, evalM, putDst, flat, kA, kB, Nat.reduceLT, ↓reduceIte, kC, Nat.reduceEqDiff, aBuiltin, abinG, guardFree, abin, aInt, aUn, aNilCheck, retQ, retQ1, aresults, aresultL, aresult, mkF, undefV, reduceCtorEq, kD, kE, kF, kG, kH, kI, kJ, kK, aExtract, calleeOf, tf0, tf1, aadd, Nat.zero_add, Aq.2.1, Aq.2.2.1, lb, lc, hwr]
  refine KCall.intro (by simp only [kS1, bLookup, bMapSet, wantA, isCall, stepOp, evalO, evalL, evalP, evalM, putDst, flat, kA, kB, Nat.reduceLT, ↓reduceIte, kC, Nat.reduceEqDiff, aBuiltin, abinG, guardFree, abin, aInt, aUn, aNilCheck, retQ, retQ1, aresults, aresultL, aresult, mkF, undefV, reduceCtorEq, kD, kE, kF, kG, kH, kI, kJ, kK, aExtract, calleeOf] <;> rfl) ⟨Try.func30, rfl, by decide⟩ (New_any W0 (N : Int) xv _ hq gx.pr (by simp [edgesU]; omega)) ?_
  rintro x h3 w3 ⟨l3, ⟨hn, _⟩ | ⟨_, ev, rfl, g3, a3⟩⟩
  ·exact absurd hOK hn
  rw [hnorm] at g3
  obtain ⟨h4', h4, e4, s4, l4, w4, L4⟩ := newG (n := (N : Int)) w3 g3.pr
  have oR : h4.own R = some (.cells [.int .i64 0, .slice none 0 0]) := l4.own _ _ (l3.own _ _ (leq.own _ _ o2))
  have F4 := L4 h4 (Le.refl _)
  have nev : blk ev ≠ some R := fun e => by have := a3 R e; rw [leq.own _ _ o2] at this; cases this
  have one := g3.pr.sl.one
  obtain ⟨ea, ec, hev, _⟩ := g3.pr.sl
  have hce : ev.cells = #[ev] := by rw [hev]; rfl
  have st := store24 (n := (N : Int)) (ev := ev) oR one hce
  have oo := AHeap.own_put_eq h4 R (.cells [.int .i64 (N : Int), ev])
  have ldR := load24 (n := (N : Int)) (ev := ev) oo ⟨ea, _, ec, hev⟩
  have dd : decide ((0 : Int) = 0) = true := by decide
  have lfin : Le h h4 := (((le1.trans l2).trans leq).trans l3).trans l4
  simp only [kS1, bLookup, bMapSet, wantA, isCall, stepOp, evalO, evalL, evalP, evalM, putDst, flat, kA, kB, Nat.reduceLT, ↓reduceIte, kC, Nat.reduceEqDiff, aBuiltin, abinG, guardFree, abin, aInt, aUn, aNilCheck, retQ, retQ1, aresults, aresultL, aresult, mkF, undefV, reduceCtorEq, kD, kE, kF, kG, kH, kI, kJ, kK, aExtract, calleeOf, e4, s4, F4.1, dd, st, ldR]
  exact ⟨lfin.put _ nR, ev, rfl, (GS.le g3 l4).put _ nev, fun b hb => (((le1.trans l2).trans leq)).none (a3 b hb)⟩
end Go.Fw
namespace Go.Fw
open Go.Proofs
set_option maxHeartbeats 16000000
set_option maxRecDepth 10000
theorem lkU_pre (i : Nat) (b : List Pr) (cs : List Nat) {k m : Nat} (h : k ≤ m) : ∃ r, lkU i b cs m = lkU i b cs k ++ r := by
 induction h with
 | refl => exact ⟨[], by simp⟩
 | step _ ih => obtain ⟨r, hr⟩ := ih; rw [lkU_succ, hr, List.append_assoc]; exact ⟨_, rfl⟩
theorem linksU_pre (bs : List (List Pr)) (cs : List Nat) {k m : Nat} (h : k ≤ m) : ∃ r, linksU bs cs m = linksU bs cs k ++ r := by
 induction h with
 | refl => exact ⟨[], by simp⟩
 | step _ ih => obtain ⟨r, hr⟩ := ih; rw [linksU_succ, hr, List.append_assoc]; exact ⟨_, rfl⟩
theorem link_here (bs : List (List Pr)) (cs : List Nat) {i j : Nat} (hi : i < bs.length) (hj : j < cs.length) (ha : atB ((cs.getD j 0 : Nat) : Int) (bs.getD i []) = true) :
  (linksU bs cs bs.length)[(linksU bs cs i).length + (lkU i (bs.getD i []) cs j).length]? = some ((i : Int), (j : Int)) := by
 obtain ⟨r, hr⟩ := linksU_pre bs cs (show i + 1 ≤ bs.length from hi)
 obtain ⟨r2, hr2⟩ := lkU_pre i (bs.getD i []) cs (show j + 1 ≤ cs.length from hj)
 rw [hr, linksU_succ, hr2, lkU_succ, if_pos ha, List.append_assoc, List.getElem?_append_right (by omega), Nat.add_sub_cancel_left, List.append_assoc, List.append_assoc, List.getElem?_append_right (by omega), Nat.sub_self]
 rfl
theorem link_len (bs : List (List Pr)) (cs : List Nat) {i j : Nat} (hi : i < bs.length) (hj : j ≤ cs.length) : (linksU bs cs i).length + (lkU i (bs.getD i []) cs j).length ≤ (linksU bs cs bs.length).length := by
 obtain ⟨r, hr⟩ := linksU_pre bs cs (show i + 1 ≤ bs.length from hi)
 obtain ⟨r2, hr2⟩ := lkU_pre i (bs.getD i []) cs hj
 rw [hr, linksU_succ, hr2]
 simp only [List.length_append]; omega
def manyM (bs : List (List Pr)) (cs : List Nat) (i j : Nat) : List Int := (List.range cs.length).map fun c => ((((bs.take i).filter (atB ((cs.getD c 0 : Nat) : Int))).length + (if c < j ∧ atB ((cs.getD c 0 : Nat) : Int) (bs.getD i []) = true then 1 else 0) : Nat) : Int)
theorem manyM_length (bs : List (List Pr)) (cs : List Nat) (i j : Nat) : (manyM bs cs i j).length = cs.length := by simp [manyM]
theorem manyM_get (bs : List (List Pr)) (cs : List Nat) (i j : Nat) {c : Nat} (hc : c < cs.length) : (manyM bs cs i j).getD c 0 = ((((bs.take i).filter (atB ((cs.getD c 0 : Nat) : Int))).length + (if c < j ∧ atB ((cs.getD c 0 : Nat) : Int) (bs.getD i []) = true then 1 else 0) : Nat) : Int) := by
 rw [getD_of (by rw [manyM_length]; exact hc)]; simp [manyM]
theorem list_eqD {a b : List Int} (h : a.length = b.length) (hg : ∀ c, c < a.length → a.getD c 0 = b.getD c 0) : a = b := by
 refine List.ext_getElem h fun c h1 h2 => ?_
 have := hg c h1
 rwa [getD_of h1, getD_of h2] at this
theorem many_step (bs : List (List Pr)) (cs : List Nat) {i j : Nat} (hj : j < cs.length) : manyM bs cs i (j + 1) = if atB ((cs.getD j 0 : Nat) : Int) (bs.getD i []) = true then (manyM bs cs i j).set j ((manyM bs cs i j).getD j 0 + 1) else manyM bs cs i j := by
 by_cases q : atB ((cs.getD j 0 : Nat) : Int) (bs.getD i []) = true
 ·rw [if_pos q]
  refine list_eqD (by simp [manyM_length]) fun c hc => ?_
  rw [manyM_length] at hc
  rw [getD_set, manyM_length]
  by_cases e : j = c
  ·subst e
   rw [if_pos ⟨rfl, hc⟩, manyM_get _ _ _ _ hc, manyM_get _ _ _ _ hc, if_pos ⟨by omega, q⟩, if_neg (by omega)]; omega
  ·rw [if_neg (fun h => e h.1), manyM_get _ _ _ _ hc, manyM_get _ _ _ _ hc]
   have : (c < j + 1) ↔ c < j := by omega
   simp only [this]
 ·rw [if_neg q]
  refine list_eqD (by simp [manyM_length]) fun c hc => ?_
  rw [manyM_length] at hc
  rw [manyM_get _ _ _ _ hc, manyM_get _ _ _ _ hc]
  by_cases e : j = c
  ·subst e; rw [if_neg (fun h => q h.2), if_neg (fun h => q h.2)]
  ·have : (c < j + 1) ↔ c < j := by omega
   simp only [this]
theorem many_next (bs : List (List Pr)) (cs : List Nat) {i : Nat} (hi : i < bs.length) : manyM bs cs (i + 1) 0 = manyM bs cs i cs.length := by
 refine list_eqD (by simp [manyM_length]) fun c hc => ?_
 rw [manyM_length] at hc
 rw [manyM_get _ _ _ _ hc, manyM_get _ _ _ _ hc, if_neg (by omega), List.take_succ_eq_append_getElem hi, List.filter_append, List.length_append, getD_of hi]
 by_cases q : atB ((cs.getD c 0 : Nat) : Int) bs[i] = true
 ·rw [if_pos ⟨hc, q⟩, List.filter_cons, if_pos q]; rfl
 ·rw [if_neg (fun h => q h.2), List.filter_cons, if_neg q]; rfl
theorem many_zero (bs : List (List Pr)) (cs : List Nat) : manyM bs cs 0 0 = List.replicate cs.length 0 := by
 refine list_eqD (by simp [manyM_length]) fun c hc => ?_
 rw [manyM_length] at hc
 rw [manyM_get _ _ _ _ hc, if_neg (by omega)]; simp [List.getD, List.getElem?_replicate, hc]
theorem many_two {n : Nat} {es : List Pr} (hr : InR n es) {x : Int} (hx : x ∈ manyM (blocksM n es) (cutsM n es) (blocksM n es).length 0) : 2 ≤ x ∧ x ≤ ((blocksM n es).length : Int) := by
 obtain ⟨c, hc, e⟩ := List.mem_iff_getElem.1 hx
 rw [manyM_length] at hc
 have h1 := manyM_get (blocksM n es) (cutsM n es) (blocksM n es).length 0 hc
 rw [getD_of (by rw [manyM_length]; exact hc), e, if_neg (by omega), List.take_length] at h1
 have hm : (cutsM n es).getD c 0 ∈ cutsM n es := by rw [getD_of hc]; exact List.getElem_mem hc
 have h2 := (inc_cut hr _).2 ((cuts_mem hr _).1 hm).2
 rw [incN] at h2
 have h3 := List.length_filter_le (atB (((cutsM n es).getD c 0 : Nat) : Int)) (blocksM n es)
 omega
theorem many_le (bs : List (List Pr)) (cs : List Nat) {i j c : Nat} (hc : c < cs.length) : 0 ≤ (manyM bs cs i j).getD c 0 ∧ (manyM bs cs i j).getD c 0 ≤ (bs.length : Int) + 1 := by
 rw [manyM_get _ _ _ _ hc]
 have h3 := List.length_filter_le (atB ((cs.getD c 0 : Nat) : Int)) (bs.take i)
 rw [List.length_take] at h3
 split <;> omega
theorem con_perm {es fs : List Pr} (h : ∀ p, p ∈ es → p ∈ fs) {u v : Nat} (c : Con es u v) : Con fs u v := by
 induction c with
 | refl _ => exact Con.refl _ _
 | step _ a _ ih => exact ih.trans (con_adj (a.imp (h _) (h _)))
end Go.Fw
