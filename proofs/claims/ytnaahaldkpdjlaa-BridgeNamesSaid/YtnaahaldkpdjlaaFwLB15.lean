/- A text of the proof. -/
import Derived.Test.YtnaahaldkpdjlaaFwLB14
set_option linter.unusedSimpArgs false
set_option linter.unusedVariables false
namespace Go.Fw
open Go.Proofs
attribute [local irreducible] KO4 KO3 KO2 KO1 KO KN KX KE VK KCond KDraw KCall KLoop
set_option maxHeartbeats 4000000
set_option maxRecDepth 10000
def endAt (p : Pr) (q : Nat) : Int := if q = 0 then p.1 else p.2
theorem ix42 (p : Pr) (q : Nat) (hq : q < 2) : aIndexV Try.prog 61 (valP p) (.int .i64 (q : Int)) = some (.int .i64 (endAt p q)) := by
 have : q = 0 ∨ q = 1 := by omega
 rcases this with rfl | rfl <;> simp [aIndexV, Try.underlying61, Try.underlying3, valP, endAt, ts3] <;> rfl
def ftP (on : Nat → Bool) (p : Pr) : List Int := [p.1, p.2].filter fun x => on x.toNat
def ftL (on : Nat → Bool) (es : List Pr) : List Int := es.flatMap (ftP on)
def feetM (on : Nat → Bool) (es : List Pr) : List Int := Lib.compact (sortI (ftL on es))
theorem ftL_length (on : Nat → Bool) (es : List Pr) : (ftL on es).length ≤ 2 * es.length := by
 induction es with
 | nil => simp [ftL]
 | cons p es ih =>
  have : (ftP on p).length ≤ 2 := List.length_filter_le _ [p.1, p.2]
  simp only [ftL, List.flatMap_cons, List.length_append, List.length_cons] at ih ⊢
  omega
def ftU (on : Nat → Bool) (p : Pr) (q : Nat) : List Int := ([p.1, p.2].take q).filter fun x => on x.toNat
theorem ftU_succ (on : Nat → Bool) (p : Pr) (q : Nat) (hq : q < 2) : ftU on p (q + 1) = ftU on p q ++ if on (endAt p q).toNat = true then [endAt p q] else [] := by
 have : q = 0 ∨ q = 1 := by omega
 rcases this with rfl | rfl
 ·by_cases c : on p.1.toNat <;> simp [ftU, endAt, c]
 ·by_cases c : on p.1.toNat <;> by_cases c2 : on p.2.toNat <;> simp [ftU, endAt, c, c2]
theorem feet_any (W0 : Base) (ev ov : Value) (n : Nat) (es : List Pr) (bs : List Bool) (h : AHeap) (hp : PR h ev es) (hb : RL isBo h ov bs) (hR : InR n es) (hbl : bs.length = n) (hn : es.length ≤ 1000) :
  AC Try.prog W0 66 [ev, ov] h fun x h' => RL isI h' x (feetM (fun u => bs.getD u false) es) ∧ Le h h' ∧ Apart h x := by
 refine AC.vc (fn := Try.f66) (c := _) ⟨Try.func66, rfl, by decide⟩ Try.ntmps66 Try.results66 (by simp) fun hwf => ?_
 simp only [argFrame, argFrom, Nat.reduceAdd]
 obtain ⟨h1, e1, le1, wf1, o1⟩ := alloc_f hwf []
 have bs0 : aBuildSlice Try.prog h 38 0 [] = some (.slice (some ⟨h.next, 0, none⟩) 0 0, h1) := by rw [← e1]; rfl
 have ll := fun g => hp.len g
 simp only [kS1, bLookup, bMapSet, wantA, isCall, stepOp, evalO, evalL, evalP, evalM, putDst, flat, kA, kB, Nat.reduceLT, ↓reduceIte, kC, Nat.reduceEqDiff, aBuiltin, abinG, guardFree, abin, aInt, aUn, aNilCheck, retQ, retQ1, aresults, aresultL, aresult, mkF, undefV, reduceCtorEq, kD, kE, kF, kG, kH, kI, kJ, kK, aExtract, calleeOf, bs0, ll]
 have nB : h.own h.next = none := (Le.refl h).next hwf (Nat.le_refl _)
 generalize h.next = B at *
 let on : Nat → Bool := fun u => bs.getD u false
 have g1 : GI h1 (.slice (some ⟨B, 0, none⟩) 0 0) (ftL on (es.take 0)) := GS.full o1 rfl (by decide)
 refine KLoop.intro (fun k fr hh => ∃ (i : Nat) (sv : Value), k = es.length - i ∧ i ≤ es.length ∧ fr = mkF [(1, ov), (5, sv), (11, ev), (12, .int .i64 es.length), (13, .int .i64 i)] ∧ GI hh sv (ftL on (es.take i)) ∧ Le h hh ∧ Apart h sv)
  es.length [(1, ov), (5, .slice (some ⟨B, 0, none⟩) 0 0), (11, ev), (12, .int .i64 es.length), (13, .int .i64 (0 : Nat))] (by simp only [hasAll, kS1, bLookup, bMapSet, wantA, isCall, stepOp, evalO, evalL, evalP, evalM, putDst, flat, kA, kB, Nat.reduceLT, ↓reduceIte, kC, Nat.reduceEqDiff, aBuiltin, abinG, guardFree, abin, aInt, aUn, aNilCheck, retQ, retQ1, aresults, aresultL, aresult, mkF, undefV, reduceCtorEq, kD, kE, kF, kG, kH, kI, kJ, kK, aExtract, calleeOf]; simp)
  ⟨0, _, rfl, Nat.zero_le _, rfl, g1, le1, fun b hb => by simp [blk] at hb; subst hb; exact nB⟩ ?_
 clear g1 o1 nB bs0 wf1 le1 e1 h1 B
 rintro k fr hh hwh ⟨i, sv, rfl, hi, rfl, g, leh, ap⟩
 simp only [kS1, bLookup, bMapSet, wantA, isCall, stepOp, evalO, evalL, evalP, evalM, putDst, flat, kA, kB, Nat.reduceLT, ↓reduceIte, kC, Nat.reduceEqDiff, aBuiltin, abinG, guardFree, abin, aInt, aUn, aNilCheck, retQ, retQ1, aresults, aresultL, aresult, mkF, undefV, reduceCtorEq, kD, kE, kF, kG, kH, kI, kJ, kK, aExtract, calleeOf]
 refine KCond.intro (fun ht => ?_) (fun hf => ?_)
 rotate_left
 ·have hge : es.length ≤ i := lt_f hf
  rw [List.take_of_length_le hge] at g
  have hl := ftL_length on es
  simp only [kS1, bLookup, bMapSet, wantA, isCall, stepOp, evalO, evalL, evalP, evalM, putDst, flat, kA, kB, Nat.reduceLT, ↓reduceIte, kC, Nat.reduceEqDiff, aBuiltin, abinG, guardFree, abin, aInt, aUn, aNilCheck, retQ, retQ1, aresults, aresultL, aresult, mkF, undefV, reduceCtorEq, kD, kE, kF, kG, kH, kI, kJ, kK, aExtract, calleeOf]
  refine KCall.intro (by simp only [kS1, bLookup, bMapSet, wantA, isCall, stepOp, evalO, evalL, evalP, evalM, putDst, flat, kA, kB, Nat.reduceLT, ↓reduceIte, kC, Nat.reduceEqDiff, aBuiltin, abinG, guardFree, abin, aInt, aUn, aNilCheck, retQ, retQ1, aresults, aresultL, aresult, mkF, undefV, reduceCtorEq, kD, kE, kF, kG, kH, kI, kJ, kK, aExtract, calleeOf] <;> rfl) ⟨Try.func21, rfl, by decide⟩ (Sort_any W0 g (by omega)) ?_
  rintro x h2 w2 ⟨rfl, g2, k2⟩
  have le2 := k2 h leh ap
  simp only [kS1, bLookup, bMapSet, wantA, isCall, stepOp, evalO, evalL, evalP, evalM, putDst, flat, kA, kB, Nat.reduceLT, ↓reduceIte, kC, Nat.reduceEqDiff, aBuiltin, abinG, guardFree, abin, aInt, aUn, aNilCheck, retQ, retQ1, aresults, aresultL, aresult, mkF, undefV, reduceCtorEq, kD, kE, kF, kG, kH, kI, kJ, kK, aExtract, calleeOf]
  refine KCall.intro (by simp only [kS1, bLookup, bMapSet, wantA, isCall, stepOp, evalO, evalL, evalP, evalM, putDst, flat, kA, kB, Nat.reduceLT, ↓reduceIte, kC, Nat.reduceEqDiff, aBuiltin, abinG, guardFree, abin, aInt, aUn, aNilCheck, retQ, retQ1, aresults, aresultL, aresult, mkF, undefV, reduceCtorEq, kD, kE, kF, kG, kH, kI, kJ, kK, aExtract, calleeOf] <;> rfl) ⟨Try.func97, rfl, by decide⟩ (Compact_any W0 g2 (by rw [sortI_length]; omega)) ?_
  rintro x h3 w3 ⟨r3, bx, k3⟩
  have le3 := k3 h le2 ap
  simp only [kS1, bLookup, bMapSet, wantA, isCall, stepOp, evalO, evalL, evalP, evalM, putDst, flat, kA, kB, Nat.reduceLT, ↓reduceIte, kC, Nat.reduceEqDiff, aBuiltin, abinG, guardFree, abin, aInt, aUn, aNilCheck, retQ, retQ1, aresults, aresultL, aresult, mkF, undefV, reduceCtorEq, kD, kE, kF, kG, kH, kI, kJ, kK, aExtract, calleeOf]
  exact ⟨r3, le3, fun b hb => ap b (by rw [← bx]; exact hb)⟩
 have hlt : i < es.length := lt_t ht
 clear ht
 have hpi := getElem?_of hlt
 have htk : es.take (i + 1) = es.take i ++ [es[i]] := List.take_succ_eq_append_getElem hlt
 generalize es[i] = p at hpi htk
 obtain ⟨p1, p2, p3⟩ := hR p (List.mem_of_getElem? hpi)
 have ad := hp.addr (k := .i64) i hlt
 have ld := (hp.le leh).load hpi
 obtain ⟨h3', h3, e2, e3, le3, wf3, o3⟩ := new42 hwh p
 have nE : h.own hh.next = none := leh.none ((Le.refl hh).next hwh (Nat.le_refl _))
 have nEs : ∀ b, blk sv = some b → b ≠ hh.next := fun b hb e => by subst e; have := GS.blk_own g hb; exact this ((Le.refl hh).next hwh (Nat.le_refl _))
 have g3 := g.le le3
 have leh3 := leh.trans le3
 have LP := own42 o3
 generalize hh.next = E at *
 simp only [kS1, bLookup, bMapSet, wantA, isCall, stepOp, evalO, evalL, evalP, evalM, putDst, flat, kA, kB, Nat.reduceLT, ↓reduceIte, kC, Nat.reduceEqDiff, aBuiltin, abinG, guardFree, abin, aInt, aUn, aNilCheck, retQ, retQ1, aresults, aresultL, aresult, mkF, undefV, reduceCtorEq, kD, kE, kF, kG, kH, kI, kJ, kK, aExtract, calleeOf, ad, ld, e2, e3, LP]
 have hU0 : ftL on (es.take i) = ftL on (es.take i) ++ ftU on p 0 := by simp [ftU]
 rw [hU0] at g3
 refine KLoop.intro (fun k fr hq => ∃ (q : Nat) (sv : Value), k = 2 - q ∧ q ≤ 2 ∧ fr = mkF [(1, ov), (5, sv), (11, ev), (12, .int .i64 es.length), (13, .int .i64 i), (17, valP p), (18, .int .i64 q)] ∧ GI hq sv (ftL on (es.take i) ++ ftU on p q) ∧ Le h hq ∧ Apart h sv)
  2 [(1, ov), (5, sv), (11, ev), (12, .int .i64 es.length), (13, .int .i64 i), (17, valP p), (18, .int .i64 (0 : Nat))] (by simp only [hasAll, kS1, bLookup, bMapSet, wantA, isCall, stepOp, evalO, evalL, evalP, evalM, putDst, flat, kA, kB, Nat.reduceLT, ↓reduceIte, kC, Nat.reduceEqDiff, aBuiltin, abinG, guardFree, abin, aInt, aUn, aNilCheck, retQ, retQ1, aresults, aresultL, aresult, mkF, undefV, reduceCtorEq, kD, kE, kF, kG, kH, kI, kJ, kK, aExtract, calleeOf]; simp)
  ⟨0, _, rfl, Nat.zero_le _, rfl, g3, leh3, ap⟩ ?_
 clear hU0 g3 nEs ap g sv LP leh3 nE o3 wf3 le3 e2 e3
 rintro k fr hq hwq ⟨q, sv, rfl, hq2, rfl, g, leq, ap⟩
 have hlen : (ftL on (es.take i) ++ ftU on p q).length ≤ 100000 := by
  have h1 := ftL_length on (es.take i)
  have h2 : (ftU on p q).length ≤ 2 := Nat.le_trans (List.length_filter_le _ _) (by rw [List.length_take]; exact Nat.min_le_right _ _)
  rw [List.length_append]; rw [List.length_take] at h1; omega
 by_cases c : q < 2
 rotate_left
 ·have z : ((q : Int) < 2) = False := eq_false (by omega)
  obtain rfl : q = 2 := by omega
  have he : ftL on (es.take i) ++ ftU on p 2 = ftL on (es.take (i + 1)) := by rw [htk]; simp [ftL, ftU, ftP]
  rw [he] at g
  simp only [kS1, bLookup, bMapSet, wantA, isCall, stepOp, evalO, evalL, evalP, evalM, putDst, flat, kA, kB, Nat.reduceLT, ↓reduceIte, kC, Nat.reduceEqDiff, aBuiltin, abinG, guardFree, abin, aInt, aUn, aNilCheck, retQ, retQ1, aresults, aresultL, aresult, mkF, undefV, reduceCtorEq, kD, kE, kF, kG, kH, kI, kJ, kK, aExtract, calleeOf, z, awrap_succ i (by omega)]
  exact loop_again (es.length - (i + 1)) [(1, ov), (5, sv), (11, ev), (12, .int .i64 es.length), (13, .int .i64 (i + 1 : Nat))] (by omega) (by simp only [hasAll, kS1, bLookup, bMapSet, wantA, isCall, stepOp, evalO, evalL, evalP, evalM, putDst, flat, kA, kB, Nat.reduceLT, ↓reduceIte, kC, Nat.reduceEqDiff, aBuiltin, abinG, guardFree, abin, aInt, aUn, aNilCheck, retQ, retQ1, aresults, aresultL, aresult, mkF, undefV, reduceCtorEq, kD, kE, kF, kG, kH, kI, kJ, kK, aExtract, calleeOf]; simp) ⟨i + 1, sv, rfl, hlt, rfl, g, leq, ap⟩
 have z : ((q : Int) < 2) = True := eq_true (by omega)
 have ix := ix42 p q c
 have hrng : 0 ≤ endAt p q ∧ endAt p q < (n : Int) := by unfold endAt; split <;> omega
 have hsu := ftU_succ on p q c
 generalize endAt p q = x at ix hrng hsu
 obtain ⟨v, rfl⟩ := Int.eq_ofNat_of_zero_le hrng.1
 have hv : v < bs.length := by omega
 have oa : aIndexAddr Try.prog 25 ov (.int .i64 (v : Int)) = some (.pointer (some (elemAddr ov v))) := hb.addrBo v hv
 have ol : aload Try.prog hq 4 (elemAddr ov v) = some (.bool (on v)) := by rw [(hb.le Stays.isBo leq).loadBo v hv]; simp only [on]; rw [getD_of hv]
 rw [Int.toNat_natCast] at hsu
 cases c2 : on v with
 | false =>
  rw [c2] at ol hsu
  have he : ftL on (es.take i) ++ ftU on p q = ftL on (es.take i) ++ ftU on p (q + 1) := by rw [hsu]; simp
  rw [he] at g
  simp only [kS1, bLookup, bMapSet, wantA, isCall, stepOp, evalO, evalL, evalP, evalM, putDst, flat, kA, kB, Nat.reduceLT, ↓reduceIte, kC, Nat.reduceEqDiff, aBuiltin, abinG, guardFree, abin, aInt, aUn, aNilCheck, retQ, retQ1, aresults, aresultL, aresult, mkF, undefV, reduceCtorEq, kD, kE, kF, kG, kH, kI, kJ, kK, aExtract, calleeOf, z, ix, oa, ol, awrap_succ q (by omega)]
  exact loop_again (2 - (q + 1)) [(1, ov), (5, sv), (11, ev), (12, .int .i64 es.length), (13, .int .i64 i), (17, valP p), (18, .int .i64 (q + 1 : Nat))] (by omega) (by simp only [hasAll, kS1, bLookup, bMapSet, wantA, isCall, stepOp, evalO, evalL, evalP, evalM, putDst, flat, kA, kB, Nat.reduceLT, ↓reduceIte, kC, Nat.reduceEqDiff, aBuiltin, abinG, guardFree, abin, aInt, aUn, aNilCheck, retQ, retQ1, aresults, aresultL, aresult, mkF, undefV, reduceCtorEq, kD, kE, kF, kG, kH, kI, kJ, kK, aExtract, calleeOf]; simp) ⟨q + 1, sv, rfl, c, rfl, g, leq, ap⟩
 | true =>
  rw [c2] at ol hsu
  obtain ⟨sv', h4, h5, e4, e5, g5, w5, l4, hf, -⟩ := g.push hwq (v : Int) hlen
  obtain ⟨l5, a5⟩ := hf h leq ap
  have he : ftL on (es.take i) ++ ftU on p q ++ [(v : Int)] = ftL on (es.take i) ++ ftU on p (q + 1) := by rw [hsu]; simp
  rw [he] at g5
  simp only [kS1, bLookup, bMapSet, wantA, isCall, stepOp, evalO, evalL, evalP, evalM, putDst, flat, kA, kB, Nat.reduceLT, ↓reduceIte, kC, Nat.reduceEqDiff, aBuiltin, abinG, guardFree, abin, aInt, aUn, aNilCheck, retQ, retQ1, aresults, aresultL, aresult, mkF, undefV, reduceCtorEq, kD, kE, kF, kG, kH, kI, kJ, kK, aExtract, calleeOf, z, ix, oa, ol, e4, e5, awrap_succ q (by omega)]
  exact loop_again (2 - (q + 1)) [(1, ov), (5, sv'), (11, ev), (12, .int .i64 es.length), (13, .int .i64 i), (17, valP p), (18, .int .i64 (q + 1 : Nat))] (by omega) (by simp only [hasAll, kS1, bLookup, bMapSet, wantA, isCall, stepOp, evalO, evalL, evalP, evalM, putDst, flat, kA, kB, Nat.reduceLT, ↓reduceIte, kC, Nat.reduceEqDiff, aBuiltin, abinG, guardFree, abin, aInt, aUn, aNilCheck, retQ, retQ1, aresults, aresultL, aresult, mkF, undefV, reduceCtorEq, kD, kE, kF, kG, kH, kI, kJ, kK, aExtract, calleeOf]; simp) ⟨q + 1, sv', rfl, c, rfl, g5, l5, a5⟩
def fragM (n : Nat) (on : Nat → Bool) (L : List Int) (p : Pr) (i : Nat) : Int :=
 if on p.1.toNat = false then L.getD p.1.toNat 0 else if on p.2.toNat = false then L.getD p.2.toNat 0 else (n : Int) + i
theorem frag_any (W0 : Base) (ev ov lv : Value) (n : Nat) (es : List Pr) (bs : List Bool) (L : List Int) (B O T : Nat) (i : Nat) (p : Pr) (h : AHeap) (hp : PR h ev es) (hb : RL isBo h ov bs) (hL : RL isI h lv L) (hR : InR n es) (hbl : bs.length = n) (hLl : L.length = n)
  (l0 : aload Try.prog h 3 ⟨B, 0, none⟩ = some (.int .i64 n)) (l1 : aload Try.prog h 22 ⟨B, 1, none⟩ = some ev) (l2 : aload Try.prog h 25 ⟨O, 0, none⟩ = some ov) (l3 : aload Try.prog h 38 ⟨T, 0, none⟩ = some lv) (hpi : es[i]? = some p) (hn : n ≤ 100000) (hes : es.length ≤ 100000) :
  AC Try.prog W0 65 [.int .i64 (i : Int), .pointer (some ⟨B, 0, none⟩), .pointer (some ⟨O, 0, none⟩), .pointer (some ⟨T, 0, none⟩)] h fun x h' => x = .int .i64 (fragM n (fun u => bs.getD u false) L p i) ∧ h' = h := by
 refine AC.vc (fn := Try.f65) (c := _) ⟨Try.func65, rfl, by decide⟩ Try.ntmps65 Try.results65 (by simp) fun hwf => ?_
 simp only [argFrame, argFrom, Nat.reduceAdd]
 have hlt := (List.getElem?_eq_some_iff.1 hpi).1
 obtain ⟨p1, p2, p3⟩ := hR p (List.mem_of_getElem? hpi)
 have ad := hp.addr (k := .i64) i hlt
 have ld := hp.load hpi
 simp only [kS1, bLookup, bMapSet, wantA, isCall, stepOp, evalO, evalL, evalP, evalM, putDst, flat, kA, kB, Nat.reduceLT, ↓reduceIte, kC, Nat.reduceEqDiff, aBuiltin, abinG, guardFree, abin, aInt, aUn, aNilCheck, retQ, retQ1, aresults, aresultL, aresult, mkF, undefV, reduceCtorEq, kD, kE, kF, kG, kH, kI, kJ, kK, aExtract, calleeOf, fg1, aadd, Nat.zero_add, l1, ad, ld]
 let on : Nat → Bool := fun u => bs.getD u false
 refine KLoop.intro (fun k fr hq => ∃ q : Nat, k = 2 - q ∧ q ≤ 2 ∧ hq = h ∧ fr = mkF [(0, .int .i64 i), (1, .pointer (some ⟨B, 0, none⟩)), (2, .pointer (some ⟨O, 0, none⟩)), (3, .pointer (some ⟨T, 0, none⟩)), (12, valP p), (13, .int .i64 q)] ∧ ∀ j, j < q → on (endAt p j).toNat = true)
  2 [(0, .int .i64 i), (1, .pointer (some ⟨B, 0, none⟩)), (2, .pointer (some ⟨O, 0, none⟩)), (3, .pointer (some ⟨T, 0, none⟩)), (12, valP p), (13, .int .i64 (0 : Nat))] (by simp only [hasAll, kS1, bLookup, bMapSet, wantA, isCall, stepOp, evalO, evalL, evalP, evalM, putDst, flat, kA, kB, Nat.reduceLT, ↓reduceIte, kC, Nat.reduceEqDiff, aBuiltin, abinG, guardFree, abin, aInt, aUn, aNilCheck, retQ, retQ1, aresults, aresultL, aresult, mkF, undefV, reduceCtorEq, kD, kE, kF, kG, kH, kI, kJ, kK, aExtract, calleeOf]; simp)
  ⟨0, rfl, Nat.zero_le _, rfl, rfl, by omega⟩ ?_
 rintro k fr hq - ⟨q, rfl, hq2, rfl, rfl, hall⟩
 by_cases c : q < 2
 rotate_left
 ·have z : ((q : Int) < 2) = False := eq_false (by omega)
  obtain rfl : q = 2 := by omega
  have c0 := hall 0 (by omega)
  have c1 := hall 1 (by omega)
  simp only [endAt, if_true, Nat.one_ne_zero, if_false] at c0 c1
  have hf : fragM n on L p i = (n : Int) + i := by simp [fragM, c0, c1]
  have wr : awrap .i64 ((n : Int) + (i : Int)) = (n : Int) + i := awrap_in _ (by omega) (by omega)
  simp only [kS1, bLookup, bMapSet, wantA, isCall, stepOp, evalO, evalL, evalP, evalM, putDst, flat, kA, kB, Nat.reduceLT, ↓reduceIte, kC, Nat.reduceEqDiff, aBuiltin, abinG, guardFree, abin, aInt, aUn, aNilCheck, retQ, retQ1, aresults, aresultL, aresult, mkF, undefV, reduceCtorEq, kD, kE, kF, kG, kH, kI, kJ, kK, aExtract, calleeOf, z, fg0, aadd, Nat.zero_add, l0, wr]
  exact ⟨by rw [hf], trivial⟩
 have z : ((q : Int) < 2) = True := eq_true (by omega)
 have ix := ix42 p q c
 have hrng : 0 ≤ endAt p q ∧ endAt p q < (n : Int) := by unfold endAt; split <;> omega
 have hres : on (endAt p q).toNat = false → fragM n on L p i = L.getD (endAt p q).toNat 0 := fun ho => by
  have : q = 0 ∨ q = 1 := by omega
  rcases this with rfl | rfl
  ·simp only [endAt, if_true] at ho ⊢; simp [fragM, ho]
  ·have c0 := hall 0 (by omega)
   simp only [endAt, if_true, Nat.one_ne_zero, if_false] at ho c0 ⊢
   simp [fragM, c0, ho]
 have hstep : on (endAt p q).toNat = true → ∀ j, j < q + 1 → on (endAt p j).toNat = true := fun ho j hj => by
  by_cases e : j = q
  ·subst e; exact ho
  ·exact hall j (by omega)
 generalize endAt p q = x at ix hrng hres hstep
 obtain ⟨v, rfl⟩ := Int.eq_ofNat_of_zero_le hrng.1
 rw [Int.toNat_natCast] at hres hstep
 have hv : v < bs.length := by omega
 have oa : aIndexAddr Try.prog 25 ov (.int .i64 (v : Int)) = some (.pointer (some (elemAddr ov v))) := hb.addrBo v hv
 have ol : aload Try.prog hq 4 (elemAddr ov v) = some (.bool (on v)) := by rw [hb.loadBo v hv]; simp only [on]; rw [getD_of hv]
 have la := hL.addr (P := Try.prog) Try.underlying38 Try.underlying3 (by kernel_rfl) (k := .i64) v (by omega)
 have lL := hL.loadI (P := Try.prog) Try.underlying3 rfl v (by omega)
 cases c2 : on v with
 | true =>
  rw [c2] at ol
  simp only [kS1, bLookup, bMapSet, wantA, isCall, stepOp, evalO, evalL, evalP, evalM, putDst, flat, kA, kB, Nat.reduceLT, ↓reduceIte, kC, Nat.reduceEqDiff, aBuiltin, abinG, guardFree, abin, aInt, aUn, aNilCheck, retQ, retQ1, aresults, aresultL, aresult, mkF, undefV, reduceCtorEq, kD, kE, kF, kG, kH, kI, kJ, kK, aExtract, calleeOf, z, ix, l2, oa, ol, awrap_succ q (by omega)]
  exact loop_again (2 - (q + 1)) [(0, .int .i64 i), (1, .pointer (some ⟨B, 0, none⟩)), (2, .pointer (some ⟨O, 0, none⟩)), (3, .pointer (some ⟨T, 0, none⟩)), (12, valP p), (13, .int .i64 (q + 1 : Nat))] (by omega) (by simp only [hasAll, kS1, bLookup, bMapSet, wantA, isCall, stepOp, evalO, evalL, evalP, evalM, putDst, flat, kA, kB, Nat.reduceLT, ↓reduceIte, kC, Nat.reduceEqDiff, aBuiltin, abinG, guardFree, abin, aInt, aUn, aNilCheck, retQ, retQ1, aresults, aresultL, aresult, mkF, undefV, reduceCtorEq, kD, kE, kF, kG, kH, kI, kJ, kK, aExtract, calleeOf]; simp) ⟨q + 1, rfl, c, rfl, rfl, hstep c2⟩
 | false =>
  rw [c2] at ol
  have hf := hres c2
  rw [getD_of (by omega)] at hf
  simp only [kS1, bLookup, bMapSet, wantA, isCall, stepOp, evalO, evalL, evalP, evalM, putDst, flat, kA, kB, Nat.reduceLT, ↓reduceIte, kC, Nat.reduceEqDiff, aBuiltin, abinG, guardFree, abin, aInt, aUn, aNilCheck, retQ, retQ1, aresults, aresultL, aresult, mkF, undefV, reduceCtorEq, kD, kE, kF, kG, kH, kI, kJ, kK, aExtract, calleeOf, z, ix, l2, oa, ol, l3, la, lL]
  exact ⟨by rw [hf], trivial⟩
end Go.Fw
