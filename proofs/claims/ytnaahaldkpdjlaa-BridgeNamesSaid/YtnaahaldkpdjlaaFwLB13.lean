/- A text of the proof. -/
import Derived.Test.YtnaahaldkpdjlaaFwLB12
set_option linter.unusedSimpArgs false
set_option linter.unusedVariables false
namespace Go.Fw
open Go.Proofs
attribute [local irreducible] KO4 KO3 KO2 KO1 KO KN KX KE VK KCond KDraw KCall KLoop
set_option maxHeartbeats 4000000
set_option maxRecDepth 10000
def GI (h : AHeap) (v : Value) (xs : List Int) : Prop := GS 1 h v xs.length (I64 xs)
theorem GI.le {h h' : AHeap} {v : Value} {xs : List Int} (g : GI h v xs) (e : Le h h') : GI h' v xs := GS.le g e
theorem GI.rl {h : AHeap} {v : Value} {xs : List Int} (g : GI h v xs) : RL isI h v xs := RL.ofI (GS.cs g).rs
theorem GI.nil (h : AHeap) : GI h (.slice none 0 0) [] := GS.nil 1 h
theorem GI.push {h : AHeap} {v : Value} {xs : List Int} (g : GI h v xs) (hwf : WF h) (x : Int) (hn : xs.length ≤ 100000) :
  ∃ v' h4 h5, aBuildSlice Try.prog h 38 1 [(0, .int .i64 x)] = some (.slice (some ⟨h.next, 0, none⟩) 1 1, h4) ∧ aAppend Try.prog h4 38 38 v (.slice (some ⟨h.next, 0, none⟩) 1 1) = some (v', h5) ∧ GI h5 v' (xs ++ [x]) ∧ WF h5 ∧ Le h h4 ∧
   (∀ f, Le f h → Apart f v → Le f h5 ∧ Apart f v') ∧ (∀ b o, h.own b = some o → blk v ≠ some b → h5.own b = some o ∧ blk v' ≠ some b) := by
 obtain ⟨h4, e4, l4, w4, o4⟩ := alloc_f hwf [.int .i64 x]
 obtain ⟨v', h5, e5, g5, hf⟩ := (GS.le g l4).push (P := Try.prog) (t := 38) (by kernel_rfl) o4 (I64_one _) rfl (by omega)
 refine ⟨v', h4, h5, by rw [mk1, e4], e5, ?_, aAppend_wf w4 e5, l4, fun f lf af => hf f w4 (lf.trans l4) af, fun b o ho hb => keep_own hf w4 (l4.own _ _ ho) hb⟩
 have : I64 xs ++ [.int .i64 x] = I64 (xs ++ [x]) := by simp [I64]
 rw [GI, ← this, List.length_append]; exact g5
def GP (h : AHeap) (v : Value) (ps : List Pr) : Prop := GS 2 h v ps.length (flatP ps)
theorem GP.le {h h' : AHeap} {v : Value} {ps : List Pr} (g : GP h v ps) (e : Le h h') : GP h' v ps := GS.le g e
theorem GP.pr {h : AHeap} {v : Value} {ps : List Pr} (g : GP h v ps) : PR h v ps := GS.cs g
theorem GP.nil (h : AHeap) : GP h (.slice none 0 0) [] := GS.nil 2 h
theorem GP.join {h : AHeap} {v x : Value} {ps qs : List Pr} (g : GP h v ps) (hwf : WF h) (hx : PR h x qs) (hn : ps.length + qs.length ≤ 1000000000) :
  ∃ v' h5, aAppend Try.prog h 22 22 v x = some (v', h5) ∧ GP h5 v' (ps ++ qs) ∧ WF h5 ∧
   (∀ f, Le f h → Apart f v → Le f h5 ∧ Apart f v') ∧ (∀ b o, h.own b = some o → blk v ≠ some b → h5.own b = some o ∧ blk v' ≠ some b) := by
 obtain ⟨v', h5, e5, g5, hf⟩ := GS.append (P := Try.prog) (t := 22) (xt := 22) (k := 2) (by kernel_rfl) g (fun e he => CS.src he hx) (flatP_one _) (flatP_one _) (flatP_length _) (by omega)
 refine ⟨v', h5, e5, ?_, aAppend_wf hwf e5, fun f lf af => hf f hwf lf af, fun b o ho hb => keep_own hf hwf ho hb⟩
 rw [GP, List.length_append, flatP_append]; exact g5
theorem mkP1 (h : AHeap) (p : Pr) : aBuildSlice Try.prog h 22 1 [(0, valP p)] = some (.slice (some ⟨h.next, 0, none⟩) 1 1, h.alloc (.cells (cellsP p))) := rfl
theorem GP.push {h : AHeap} {v : Value} {ps : List Pr} (g : GP h v ps) (hwf : WF h) (p : Pr) (hn : ps.length + 1 ≤ 100000) :
  ∃ v' h4 h5, aBuildSlice Try.prog h 22 1 [(0, valP p)] = some (.slice (some ⟨h.next, 0, none⟩) 1 1, h4) ∧ aAppend Try.prog h4 22 22 v (.slice (some ⟨h.next, 0, none⟩) 1 1) = some (v', h5) ∧ GP h5 v' (ps ++ [p]) ∧ WF h5 ∧ Le h h4 ∧
   (∀ f, Le f h → Apart f v → Le f h5 ∧ Apart f v') ∧ (∀ b o, h.own b = some o → blk v ≠ some b → h5.own b = some o ∧ blk v' ≠ some b) := by
 obtain ⟨h4, e4, l4, w4, o4⟩ := alloc_f hwf (cellsP p)
 have hx : PR h4 (.slice (some ⟨h.next, 0, none⟩) 1 1) [p] := by
  have := CS.own (k := 2) (off := 0) (n := 1) (cap := 1) o4 (by simp [cellsP])
  exact this
 obtain ⟨v', h5, e5, g5, w5, hf, hk⟩ := (g.le l4).join w4 hx (by simp; omega)
 exact ⟨v', h4, h5, by rw [mkP1, e4], e5, g5, w5, l4, fun f lf af => hf f (lf.trans l4) af, fun b o ho hb => hk b o (l4.own _ _ ho) hb⟩
theorem I64_set (L : List Int) (i : Nat) (x : Int) : (I64 L).set i (.int .i64 x) = I64 (L.set i x) := by simp [I64, List.map_set]
def nat64 (l : List Nat) : List Int := l.map fun (x : Nat) => (x : Int)
theorem nat64_length (l : List Nat) : (nat64 l).length = l.length := by simp [nat64]
theorem nat64_get {l : List Nat} {i : Nat} (hi : i < l.length) : (nat64 l)[i]'(by rw [nat64_length]; exact hi) = ((l[i] : Nat) : Int) := by simp [nat64]
theorem together_any (W0 : Base) (v ov : Value) (n : Nat) (es : List Pr) (bs : List Bool) (h : AHeap) (hg : GR h v ⟨(n : Int), es⟩) (hr : RightG ⟨(n : Int), es⟩) (hb : RL isBo h ov bs) (hbl : bs.length = n) :
  AC Try.prog W0 64 [v, ov] h fun x h' => ∃ L, RL isI h' x L ∧ TogM n (fun u => bs.getD u false) es L ∧ Le h h' := by
 have hg0 := hg
 obtain ⟨ev, rfl, hp⟩ := hg.open
 have h200 : (n : Int) ≤ 200 := hr.n1
 have hR := hr.inR
 refine AC.vc (fn := Try.f64) (c := _) ⟨Try.func64, rfl, by decide⟩ Try.ntmps64 Try.results64 (by simp) fun hwf => ?_
 simp only [argFrame, argFrom, Nat.reduceAdd]
 obtain ⟨h1, b1, le1, wf1, -, lA⟩ := boxG (n := (n : Int)) hwf hp
 generalize h.next = B at *
 have lA1 := lA h1 (Le.refl _)
 simp only [kS1, bLookup, bMapSet, wantA, isCall, stepOp, evalO, evalL, evalP, evalM, putDst, flat, kA, kB, Nat.reduceLT, ↓reduceIte, kC, Nat.reduceEqDiff, aBuiltin, abinG, guardFree, abin, aInt, aUn, aNilCheck, retQ, retQ1, aresults, aresultL, aresult, mkF, undefV, reduceCtorEq, kD, kE, kF, kG, kH, kI, kJ, kK, aExtract, calleeOf, b1, lA1.1]
 refine KCall.intro (by simp only [kS1, bLookup, bMapSet, wantA, isCall, stepOp, evalO, evalL, evalP, evalM, putDst, flat, kA, kB, Nat.reduceLT, ↓reduceIte, kC, Nat.reduceEqDiff, aBuiltin, abinG, guardFree, abin, aInt, aUn, aNilCheck, retQ, retQ1, aresults, aresultL, aresult, mkF, undefV, reduceCtorEq, kD, kE, kF, kG, kH, kI, kJ, kK, aExtract, calleeOf] <;> rfl) ⟨Try.func55, rfl, by decide⟩ (Beside_any W0 _ n es h1 (hg0.le le1) hr) ?_
 rintro rv hB wfB ⟨hrows, leB⟩
 have lAB := lA hB leB
 obtain ⟨h2, e2, le2, wf2, o2⟩ := alloc_f wfB [.int .i64 (-1)]
 have lA2 := lA h2 (leB.trans le2)
 simp only [kS1, bLookup, bMapSet, wantA, isCall, stepOp, evalO, evalL, evalP, evalM, putDst, flat, kA, kB, Nat.reduceLT, ↓reduceIte, kC, Nat.reduceEqDiff, aBuiltin, abinG, guardFree, abin, aInt, aUn, aNilCheck, retQ, retQ1, aresults, aresultL, aresult, mkF, undefV, reduceCtorEq, kD, kE, kF, kG, kH, kI, kJ, kK, aExtract, calleeOf, mk1, e2, fg0, aadd, Nat.zero_add, lA2.2.1]
 refine KCall.intro (by simp only [kS1, bLookup, bMapSet, wantA, isCall, stepOp, evalO, evalL, evalP, evalM, putDst, flat, kA, kB, Nat.reduceLT, ↓reduceIte, kC, Nat.reduceEqDiff, aBuiltin, abinG, guardFree, abin, aInt, aUn, aNilCheck, retQ, retQ1, aresults, aresultL, aresult, mkF, undefV, reduceCtorEq, kD, kE, kF, kG, kH, kI, kJ, kK, aExtract, calleeOf] <;> rfl) ⟨Try.func95, rfl, by decide⟩ (Repeat_any W0 _ n (by omega) h2 (RL.ofI (RS.whole o2 rfl))) ?_
 rintro x h3 wf3 ⟨T, rfl, hT, o3, le3⟩
 have lA3 := lA h3 ((leB.trans le2).trans le3)
 have leB3 := le2.trans le3
 have nT : hB.own T = none := le2.next wf2 hT
 have o30 : h3.own T = some (.cells (I64 (List.replicate n (-1)))) := by rw [o3]; simp [I64]
 simp only [kS1, bLookup, bMapSet, wantA, isCall, stepOp, evalO, evalL, evalP, evalM, putDst, flat, kA, kB, Nat.reduceLT, ↓reduceIte, kC, Nat.reduceEqDiff, aBuiltin, abinG, guardFree, abin, aInt, aUn, aNilCheck, retQ, retQ1, aresults, aresultL, aresult, mkF, undefV, reduceCtorEq, kD, kE, kF, kG, kH, kI, kJ, kK, aExtract, calleeOf, fg0, aadd, Nat.zero_add, lA3.2.1]
 let on : Nat → Bool := fun u => bs.getD u false
 have hbB := hb.le Stays.isBo (le1.trans leB)
 have onD : ∀ g, Le hB g → ∀ u, u < n → aload Try.prog g 4 (elemAddr ov u) = some (.bool (on u)) := fun g lg u hu => by
  rw [(hbB.le Stays.isBo lg).loadBo u (by omega)]; simp only [on]; rw [getD_of (by omega)]
 have onA : ∀ (k : IntKind) (u : Nat), u < n → aIndexAddr Try.prog 25 ov (.int k u) = some (.pointer (some (elemAddr ov u))) := fun k u hu => hb.addrBo u (by omega)
 have ixT : ∀ (k : IntKind) (j : Nat), j < n → aIndexAddr Try.prog 38 (.slice (some ⟨T, 0, none⟩) n n) (.int k j) = some (.pointer (some ⟨T, j, none⟩)) := fun k j hj => by rw [aIdx Try.underlying38 Try.underlying3 (by kernel_rfl) j hj]; simp [aadd]
 have ldT : ∀ (g : AHeap) (L : List Int) (j : Nat) (l : Int), g.own T = some (.cells (I64 L)) → L[j]? = some l → aload Try.prog g 3 ⟨T, j, none⟩ = some (.int .i64 l) := fun g L j l ho hl => by
  rw [aload_one Try.underlying3 rfl ho]; simp [I64, hl]
 refine KLoop.intro (fun k fr hh => ∃ (v : Nat) (L : List Int), k = n - v ∧ v ≤ n ∧ fr = mkF [(1, ov), (5, rv), (6, .slice (some ⟨T, 0, none⟩) n n), (19, .int .i64 n), (20, .int .i64 v)] ∧ hh.own T = some (.cells (I64 L)) ∧ Le hB hh ∧ TO n on es v L)
  n [(1, ov), (5, rv), (6, .slice (some ⟨T, 0, none⟩) n n), (19, .int .i64 n), (20, .int .i64 (0 : Nat))] (by simp only [hasAll, kS1, bLookup, bMapSet, wantA, isCall, stepOp, evalO, evalL, evalP, evalM, putDst, flat, kA, kB, Nat.reduceLT, ↓reduceIte, kC, Nat.reduceEqDiff, aBuiltin, abinG, guardFree, abin, aInt, aUn, aNilCheck, retQ, retQ1, aresults, aresultL, aresult, mkF, undefV, reduceCtorEq, kD, kE, kF, kG, kH, kI, kJ, kK, aExtract, calleeOf]; simp) ⟨0, _, rfl, Nat.zero_le _, rfl, o30, leB3, TO.start n on es⟩ ?_
 rintro k fr hh hwh ⟨v, L, rfl, hv, rfl, oT, leh, tO⟩
 simp only [kS1, bLookup, bMapSet, wantA, isCall, stepOp, evalO, evalL, evalP, evalM, putDst, flat, kA, kB, Nat.reduceLT, ↓reduceIte, kC, Nat.reduceEqDiff, aBuiltin, abinG, guardFree, abin, aInt, aUn, aNilCheck, retQ, retQ1, aresults, aresultL, aresult, mkF, undefV, reduceCtorEq, kD, kE, kF, kG, kH, kI, kJ, kK, aExtract, calleeOf]
 refine KCond.intro (fun ht => ?_) (fun hf => ?_)
 rotate_left
 ·have hge : n ≤ v := lt_f hf
  obtain rfl : v = n := by omega
  simp only [kS1, bLookup, bMapSet, wantA, isCall, stepOp, evalO, evalL, evalP, evalM, putDst, flat, kA, kB, Nat.reduceLT, ↓reduceIte, kC, Nat.reduceEqDiff, aBuiltin, abinG, guardFree, abin, aInt, aUn, aNilCheck, retQ, retQ1, aresults, aresultL, aresult, mkF, undefV, reduceCtorEq, kD, kE, kF, kG, kH, kI, kJ, kK, aExtract, calleeOf]
  exact ⟨L, RL.ofI (RS.whole oT (by simpa using tO.len)), tO.done hR, (le1.trans leB).trans leh⟩
 have hlt : v < n := lt_t ht
 clear ht
 have hLv := getElem?_of (show v < L.length by rw [tO.len]; exact hlt)
 generalize L[v]'(by rw [tO.len]; exact hlt) = lv at hLv
 have odv := onD hh leh v hlt
 have ldv := ldT hh L v lv oT hLv
 by_cases c1 : on v = true
 ·rw [c1] at odv
  simp only [kS1, bLookup, bMapSet, wantA, isCall, stepOp, evalO, evalL, evalP, evalM, putDst, flat, kA, kB, Nat.reduceLT, ↓reduceIte, kC, Nat.reduceEqDiff, aBuiltin, abinG, guardFree, abin, aInt, aUn, aNilCheck, retQ, retQ1, aresults, aresultL, aresult, mkF, undefV, reduceCtorEq, kD, kE, kF, kG, kH, kI, kJ, kK, aExtract, calleeOf, onA _ v hlt, odv, awrap_succ v (by omega)]
  exact loop_again (n - (v + 1)) [(1, ov), (5, rv), (6, .slice (some ⟨T, 0, none⟩) n n), (19, .int .i64 n), (20, .int .i64 (v + 1 : Nat))] (by omega) (by simp only [hasAll, kS1, bLookup, bMapSet, wantA, isCall, stepOp, evalO, evalL, evalP, evalM, putDst, flat, kA, kB, Nat.reduceLT, ↓reduceIte, kC, Nat.reduceEqDiff, aBuiltin, abinG, guardFree, abin, aInt, aUn, aNilCheck, retQ, retQ1, aresults, aresultL, aresult, mkF, undefV, reduceCtorEq, kD, kE, kF, kG, kH, kI, kJ, kK, aExtract, calleeOf]; simp) ⟨v + 1, L, rfl, hlt, rfl, oT, leh, tO.skip (.inl c1)⟩
 rw [Bool.not_eq_true] at c1
 rw [c1] at odv
 by_cases c2 : lv ≥ 0
 ·simp only [kS1, bLookup, bMapSet, wantA, isCall, stepOp, evalO, evalL, evalP, evalM, putDst, flat, kA, kB, Nat.reduceLT, ↓reduceIte, kC, Nat.reduceEqDiff, aBuiltin, abinG, guardFree, abin, aInt, aUn, aNilCheck, retQ, retQ1, aresults, aresultL, aresult, mkF, undefV, reduceCtorEq, kD, kE, kF, kG, kH, kI, kJ, kK, aExtract, calleeOf, onA _ v hlt, odv, ixT _ v hlt, ldv, c2, awrap_succ v (by omega)]
  exact loop_again (n - (v + 1)) [(1, ov), (5, rv), (6, .slice (some ⟨T, 0, none⟩) n n), (19, .int .i64 n), (20, .int .i64 (v + 1 : Nat))] (by omega) (by simp only [hasAll, kS1, bLookup, bMapSet, wantA, isCall, stepOp, evalO, evalL, evalP, evalM, putDst, flat, kA, kB, Nat.reduceLT, ↓reduceIte, kC, Nat.reduceEqDiff, aBuiltin, abinG, guardFree, abin, aInt, aUn, aNilCheck, retQ, retQ1, aresults, aresultL, aresult, mkF, undefV, reduceCtorEq, kD, kE, kF, kG, kH, kI, kJ, kK, aExtract, calleeOf]; simp) ⟨v + 1, L, rfl, hlt, rfl, oT, leh, tO.skip (.inr (by rw [hLv]; intro e; injection e with e; omega))⟩
 have hLv1 : L[v]? = some (-1) := by
  rcases tO.val v lv hLv with rfl | ⟨_, k, _, rfl, _⟩
  ·exact hLv
  ·omega
 have st1 : aStore Try.prog hh 3 (.pointer (some ⟨T, v, none⟩)) (.int .i64 (v : Int)) = some (hh.put T (.cells (I64 (L.set v (v : Int))))) := by
  rw [aStore1 (P := Try.prog) (t := 3) (x := .int .i64 (v : Int)) Try.underlying3 (by kernel_rfl) oT (off := v) (by rw [I64_length, tO.len]; exact hlt) rfl rfl, I64_set]
 have wf4 : WF (hh.put T (.cells (I64 (L.set v (v : Int))))) := hwh.put _ (hwh.lt oT)
 have le4 : Le hB (hh.put T (.cells (I64 (L.set v (v : Int))))) := leh.put _ nT
 have oT4 : (hh.put T (.cells (I64 (L.set v (v : Int))))).own T = some (.cells (I64 (L.set v (v : Int)))) := AHeap.own_put_eq _ _ _
 simp only [kS1, bLookup, bMapSet, wantA, isCall, stepOp, evalO, evalL, evalP, evalM, putDst, flat, kA, kB, Nat.reduceLT, ↓reduceIte, kC, Nat.reduceEqDiff, aBuiltin, abinG, guardFree, abin, aInt, aUn, aNilCheck, retQ, retQ1, aresults, aresultL, aresult, mkF, undefV, reduceCtorEq, kD, kE, kF, kG, kH, kI, kJ, kK, aExtract, calleeOf, onA _ v hlt, odv, ixT _ v hlt, ldv, c2, st1]
 generalize hh.put T (.cells (I64 (L.set v (v : Int)))) = h4 at *
 obtain ⟨h5, e5, le5, wf5, o5⟩ := alloc_f wf4 [.int .i64 (v : Int)]
 have nM : hB.own h4.next = none := le4.next wf4 (Nat.le_refl _)
 have neM : T ≠ h4.next := fun e => by have := wf4.lt oT4; omega
 simp only [kS1, bLookup, bMapSet, wantA, isCall, stepOp, evalO, evalL, evalP, evalM, putDst, flat, kA, kB, Nat.reduceLT, ↓reduceIte, kC, Nat.reduceEqDiff, aBuiltin, abinG, guardFree, abin, aInt, aUn, aNilCheck, retQ, retQ1, aresults, aresultL, aresult, mkF, undefV, reduceCtorEq, kD, kE, kF, kG, kH, kI, kJ, kK, aExtract, calleeOf, mk1, e5]
 have hTI := tO.begin hlt c1 hLv1 (fun a w => (∃ j, j < 0 ∧ [v][j]? = some a) ∧ adj es a w ∧ on w = false) (fun a w h => by obtain ⟨⟨j, h, _⟩, _⟩ := h; omega)
 have gM : GI h5 (.slice (some ⟨h4.next, 0, none⟩) 1 1) (nat64 [v]) := GS.full o5 rfl (show 1 < 1000000000000 by decide)
 refine KLoop.intro (fun k fr hq => ∃ (i : Nat) (L : List Int) (mv : Value) (met : List Nat), k = n - i ∧ i ≤ met.length ∧ fr = mkF [(1, ov), (5, rv), (6, .slice (some ⟨T, 0, none⟩) n n), (7, .int .i64 v), (8, mv), (9, .int .i64 i), (19, .int .i64 n), (20, .int .i64 v)] ∧
   hq.own T = some (.cells (I64 L)) ∧ Le hB hq ∧ GI hq mv (nat64 met) ∧ blk mv ≠ some T ∧ Apart hB mv ∧ TI n on es v L met (fun a w => (∃ j, j < i ∧ met[j]? = some a) ∧ adj es a w ∧ on w = false))
  n [(1, ov), (5, rv), (6, .slice (some ⟨T, 0, none⟩) n n), (7, .int .i64 v), (8, .slice (some ⟨h4.next, 0, none⟩) 1 1), (9, .int .i64 (0 : Nat)), (19, .int .i64 n), (20, .int .i64 v)] (by simp only [hasAll, kS1, bLookup, bMapSet, wantA, isCall, stepOp, evalO, evalL, evalP, evalM, putDst, flat, kA, kB, Nat.reduceLT, ↓reduceIte, kC, Nat.reduceEqDiff, aBuiltin, abinG, guardFree, abin, aInt, aUn, aNilCheck, retQ, retQ1, aresults, aresultL, aresult, mkF, undefV, reduceCtorEq, kD, kE, kF, kG, kH, kI, kJ, kK, aExtract, calleeOf]; simp)
  ⟨0, _, _, [v], rfl, Nat.zero_le _, rfl, le5.own _ _ oT4, le4.trans le5, gM, by simp [blk, Ne.symm neM], fun b hb => by simp [blk] at hb; subst hb; exact nM, hTI⟩ ?_
 clear hTI gM neM nM o5 wf5 le5 e5 h5 oT4 le4 wf4 st1 odv ldv hLv hLv1 c2 oT leh tO hwh
 clear h4 hh L
 rintro k fr hq hwq ⟨i, L, mv, met, rfl, hi, rfl, oT, leq, gm, nm, am, tI⟩
 have lm := fun g => gm.rl.len (P := Try.prog) Try.underlying38 g
 have hml := tI.len_met
 rw [nat64_length] at lm
 simp only [kS1, bLookup, bMapSet, wantA, isCall, stepOp, evalO, evalL, evalP, evalM, putDst, flat, kA, kB, Nat.reduceLT, ↓reduceIte, kC, Nat.reduceEqDiff, aBuiltin, abinG, guardFree, abin, aInt, aUn, aNilCheck, retQ, retQ1, aresults, aresultL, aresult, mkF, undefV, reduceCtorEq, kD, kE, kF, kG, kH, kI, kJ, kK, aExtract, calleeOf, lm]
 refine KCond.intro (fun ht => ?_) (fun hf => ?_)
 rotate_left
 ·have hge : met.length ≤ i := lt_f hf
  simp only [kS1, bLookup, bMapSet, wantA, isCall, stepOp, evalO, evalL, evalP, evalM, putDst, flat, kA, kB, Nat.reduceLT, ↓reduceIte, kC, Nat.reduceEqDiff, aBuiltin, abinG, guardFree, abin, aInt, aUn, aNilCheck, retQ, retQ1, aresults, aresultL, aresult, mkF, undefV, reduceCtorEq, kD, kE, kF, kG, kH, kI, kJ, kK, aExtract, calleeOf, awrap_succ v (by omega)]
  refine loop_again (n - (v + 1)) [(1, ov), (5, rv), (6, .slice (some ⟨T, 0, none⟩) n n), (19, .int .i64 n), (20, .int .i64 (v + 1 : Nat))] (by omega) (by simp only [hasAll, kS1, bLookup, bMapSet, wantA, isCall, stepOp, evalO, evalL, evalP, evalM, putDst, flat, kA, kB, Nat.reduceLT, ↓reduceIte, kC, Nat.reduceEqDiff, aBuiltin, abinG, guardFree, abin, aInt, aUn, aNilCheck, retQ, retQ1, aresults, aresultL, aresult, mkF, undefV, reduceCtorEq, kD, kE, kF, kG, kH, kI, kJ, kK, aExtract, calleeOf]; simp) ⟨v + 1, L, rfl, hlt, rfl, oT, leq, tI.finish fun a w ha haw how => ⟨?_, haw, how⟩⟩
  obtain ⟨j, hj⟩ := List.mem_iff_getElem?.1 ha
  exact ⟨j, by have := (List.getElem?_eq_some_iff.1 hj).1; omega, hj⟩
 have hil : i < met.length := lt_t ht
 clear ht
 have hmi := getElem?_of hil
 have hgi := nat64_get hil
 have adm := gm.rl.addr (P := Try.prog) Try.underlying38 Try.underlying3 (by kernel_rfl) (k := .i64) i (by rw [nat64_length]; exact hil)
 have ldm := gm.rl.loadI (P := Try.prog) Try.underlying3 rfl i (by rw [nat64_length]; exact hil)
 rw [hgi] at ldm
 generalize met[i] = u at hmi ldm
 clear hgi
 have hum : u ∈ met := List.mem_of_getElem? hmi
 have hun : u < n := by have := (List.getElem?_eq_some_iff.1 ((tI.mm u).1 hum)).1; rw [tI.len] at this; exact this
 have hul : u < (besM n es).length := by rw [besM_length]; exact hun
 have adr := hrows.addr (P := Try.prog) Try.underlying32 Try.underlying38 (by kernel_rfl) (k := .i64) u hul
 obtain ⟨uv, ldr, hrow⟩ := hrows.load' (P := Try.prog) Try.underlying38 rfl u hul
 have hrd : (besM n es).getD u [] = (besM n es)[u] := getD_of hul
 generalize (besM n es)[u] = row at hrow hrd
 have lr := fun g => hrow.len (P := Try.prog) Try.underlying38 g
 have hrl : row.length ≤ 2000 := by
  have := besM_rows n es row (by rw [← hrd, getD_of hul]; exact List.getElem_mem hul)
  have : es.length ≤ 594 := hr.len
  omega
 simp only [kS1, bLookup, bMapSet, wantA, isCall, stepOp, evalO, evalL, evalP, evalM, putDst, flat, kA, kB, Nat.reduceLT, ↓reduceIte, kC, Nat.reduceEqDiff, aBuiltin, abinG, guardFree, abin, aInt, aUn, aNilCheck, retQ, retQ1, aresults, aresultL, aresult, mkF, undefV, reduceCtorEq, kD, kE, kF, kG, kH, kI, kJ, kK, aExtract, calleeOf, adm, ldm, adr, ldr hq leq, lr]
 have cl0 : TI n on es v L met (fun a w => ((∃ j, j < i ∧ met[j]? = some a) ∧ adj es a w ∧ on w = false) ∨ (a = u ∧ (w : Int) ∈ row.take 0 ∧ on w = false)) := tI.mono fun a w h => by
  rcases h with h | ⟨_, h, _⟩
  ·exact h
  ·simp at h
 refine KLoop.intro (fun k fr hq => ∃ (q : Nat) (L : List Int) (mv : Value) (met : List Nat), k = row.length - q ∧ q ≤ row.length ∧ fr = mkF [(1, ov), (5, rv), (6, .slice (some ⟨T, 0, none⟩) n n), (7, .int .i64 v), (8, mv), (9, .int .i64 i), (19, .int .i64 n), (20, .int .i64 v), (52, uv), (53, .int .i64 row.length), (54, .int .i64 q)] ∧
   hq.own T = some (.cells (I64 L)) ∧ Le hB hq ∧ GI hq mv (nat64 met) ∧ blk mv ≠ some T ∧ Apart hB mv ∧ met[i]? = some u ∧ TI n on es v L met (fun a w => ((∃ j, j < i ∧ met[j]? = some a) ∧ adj es a w ∧ on w = false) ∨ (a = u ∧ (w : Int) ∈ row.take q ∧ on w = false)))
  row.length [(1, ov), (5, rv), (6, .slice (some ⟨T, 0, none⟩) n n), (7, .int .i64 v), (8, mv), (9, .int .i64 i), (19, .int .i64 n), (20, .int .i64 v), (52, uv), (53, .int .i64 row.length), (54, .int .i64 (0 : Nat))] (by simp only [hasAll, kS1, bLookup, bMapSet, wantA, isCall, stepOp, evalO, evalL, evalP, evalM, putDst, flat, kA, kB, Nat.reduceLT, ↓reduceIte, kC, Nat.reduceEqDiff, aBuiltin, abinG, guardFree, abin, aInt, aUn, aNilCheck, retQ, retQ1, aresults, aresultL, aresult, mkF, undefV, reduceCtorEq, kD, kE, kF, kG, kH, kI, kJ, kK, aExtract, calleeOf]; simp)
  ⟨0, L, mv, met, rfl, Nat.zero_le _, rfl, oT, leq, gm, nm, am, hmi, cl0⟩ ?_
 clear cl0 adm ldm lm
 clear hum hmi hil hml tI am nm gm leq oT hwq hi
 clear hq L mv met
 rintro k fr hq hwq ⟨q, L, mv, met, rfl, hql, rfl, oT, leq, gm, nm, am, hmi, tI⟩
 have hum : u ∈ met := List.mem_of_getElem? hmi
 have hml := tI.len_met
 have hil := (List.getElem?_eq_some_iff.1 hmi).1
 simp only [kS1, bLookup, bMapSet, wantA, isCall, stepOp, evalO, evalL, evalP, evalM, putDst, flat, kA, kB, Nat.reduceLT, ↓reduceIte, kC, Nat.reduceEqDiff, aBuiltin, abinG, guardFree, abin, aInt, aUn, aNilCheck, retQ, retQ1, aresults, aresultL, aresult, mkF, undefV, reduceCtorEq, kD, kE, kF, kG, kH, kI, kJ, kK, aExtract, calleeOf]
 refine KCond.intro (fun ht => ?_) (fun hf => ?_)
 rotate_left
 ·have hge : row.length ≤ q := lt_f hf
  simp only [kS1, bLookup, bMapSet, wantA, isCall, stepOp, evalO, evalL, evalP, evalM, putDst, flat, kA, kB, Nat.reduceLT, ↓reduceIte, kC, Nat.reduceEqDiff, aBuiltin, abinG, guardFree, abin, aInt, aUn, aNilCheck, retQ, retQ1, aresults, aresultL, aresult, mkF, undefV, reduceCtorEq, kD, kE, kF, kG, kH, kI, kJ, kK, aExtract, calleeOf, awrap_succ i (by omega)]
  refine loop_again (n - (i + 1)) [(1, ov), (5, rv), (6, .slice (some ⟨T, 0, none⟩) n n), (7, .int .i64 v), (8, mv), (9, .int .i64 (i + 1 : Nat)), (19, .int .i64 n), (20, .int .i64 v)] (by omega) (by simp only [hasAll, kS1, bLookup, bMapSet, wantA, isCall, stepOp, evalO, evalL, evalP, evalM, putDst, flat, kA, kB, Nat.reduceLT, ↓reduceIte, kC, Nat.reduceEqDiff, aBuiltin, abinG, guardFree, abin, aInt, aUn, aNilCheck, retQ, retQ1, aresults, aresultL, aresult, mkF, undefV, reduceCtorEq, kD, kE, kF, kG, kH, kI, kJ, kK, aExtract, calleeOf]; simp) ⟨i + 1, L, mv, met, rfl, hil, rfl, oT, leq, gm, nm, am, tI.mono fun a w h => ?_⟩
  obtain ⟨⟨j, hj, hja⟩, haw, how⟩ := h
  by_cases e : j = i
  ·subst e
   rw [hmi] at hja; injection hja with hja; subst hja
   exact .inr ⟨rfl, by rw [List.take_of_length_le hge, ← hrd]; exact (besM_mem hR u w).2 haw, how⟩
  ·exact .inl ⟨⟨j, by omega, hja⟩, haw, how⟩
 have hlq : q < row.length := lt_t ht
 clear ht
 have adq := hrow.addr (P := Try.prog) Try.underlying38 Try.underlying3 (by kernel_rfl) (k := .i64) q hlq
 have ldq := (hrow.le Stays.isI leq).loadI (P := Try.prog) Try.underlying3 rfl q hlq
 have htk : row.take (q + 1) = row.take q ++ [row[q]] := List.take_succ_eq_append_getElem hlq
 have hxm : row[q] ∈ (besM n es).getD u [] := by rw [hrd]; exact List.getElem_mem hlq
 generalize row[q] = x at ldq htk hxm
 obtain ⟨w, rfl, hwn⟩ := besM_nat hR hxm
 have haw := (besM_mem hR u w).1 hxm
 have hLw := getElem?_of (show w < L.length by rw [tI.len]; exact hwn)
 generalize L[w]'(by rw [tI.len]; exact hwn) = lw at hLw
 have odw := onD hq leq w hwn
 have ldw := ldT hq L w lw oT hLw
 by_cases c3 : on w = true
 ·rw [c3] at odw
  simp only [kS1, bLookup, bMapSet, wantA, isCall, stepOp, evalO, evalL, evalP, evalM, putDst, flat, kA, kB, Nat.reduceLT, ↓reduceIte, kC, Nat.reduceEqDiff, aBuiltin, abinG, guardFree, abin, aInt, aUn, aNilCheck, retQ, retQ1, aresults, aresultL, aresult, mkF, undefV, reduceCtorEq, kD, kE, kF, kG, kH, kI, kJ, kK, aExtract, calleeOf, adq, ldq, onA _ w hwn, odw, awrap_succ q (by omega)]
  refine loop_again (row.length - (q + 1)) [(1, ov), (5, rv), (6, .slice (some ⟨T, 0, none⟩) n n), (7, .int .i64 v), (8, mv), (9, .int .i64 i), (19, .int .i64 n), (20, .int .i64 v), (52, uv), (53, .int .i64 row.length), (54, .int .i64 (q + 1 : Nat))] (by omega) (by simp only [hasAll, kS1, bLookup, bMapSet, wantA, isCall, stepOp, evalO, evalL, evalP, evalM, putDst, flat, kA, kB, Nat.reduceLT, ↓reduceIte, kC, Nat.reduceEqDiff, aBuiltin, abinG, guardFree, abin, aInt, aUn, aNilCheck, retQ, retQ1, aresults, aresultL, aresult, mkF, undefV, reduceCtorEq, kD, kE, kF, kG, kH, kI, kJ, kK, aExtract, calleeOf]; simp)
   ⟨q + 1, L, mv, met, rfl, hlq, rfl, oT, leq, gm, nm, am, hmi, tI.mono fun a b h => ?_⟩
  rcases h with h | ⟨h1, h2, h3⟩
  ·exact .inl h
  ·rw [htk, List.mem_append, List.mem_singleton] at h2
   rcases h2 with h2 | h2
   ·exact .inr ⟨h1, h2, h3⟩
   ·obtain rfl : b = w := by omega
    rw [c3] at h3; cases h3
 rw [Bool.not_eq_true] at c3
 rw [c3] at odw
 have hcl : ∀ (met' : List Nat), (∀ j, j < met.length → met'[j]? = met[j]?) → ∀ a b, ((∃ j, j < i ∧ met'[j]? = some a) ∧ adj es a b ∧ on b = false) ∨ (a = u ∧ (b : Int) ∈ row.take (q + 1) ∧ on b = false) →
   (((∃ j, j < i ∧ met[j]? = some a) ∧ adj es a b ∧ on b = false) ∨ (a = u ∧ (b : Int) ∈ row.take q ∧ on b = false)) ∨ b = w := fun met' hm a b h => by
  rcases h with ⟨⟨j, hj, hja⟩, h2⟩ | ⟨h1, h2, h3⟩
  ·exact .inl (.inl ⟨⟨j, hj, by rw [← hm j (by omega)]; exact hja⟩, h2⟩)
  ·rw [htk, List.mem_append, List.mem_singleton] at h2
   rcases h2 with h2 | h2
   ·exact .inl (.inr ⟨h1, h2, h3⟩)
   ·exact .inr (by omega)
 by_cases c4 : lw < 0
 rotate_left
 ·simp only [kS1, bLookup, bMapSet, wantA, isCall, stepOp, evalO, evalL, evalP, evalM, putDst, flat, kA, kB, Nat.reduceLT, ↓reduceIte, kC, Nat.reduceEqDiff, aBuiltin, abinG, guardFree, abin, aInt, aUn, aNilCheck, retQ, retQ1, aresults, aresultL, aresult, mkF, undefV, reduceCtorEq, kD, kE, kF, kG, kH, kI, kJ, kK, aExtract, calleeOf, adq, ldq, onA _ w hwn, odw, ixT _ w hwn, ldw, c4, awrap_succ q (by omega)]
  exact loop_again (row.length - (q + 1)) [(1, ov), (5, rv), (6, .slice (some ⟨T, 0, none⟩) n n), (7, .int .i64 v), (8, mv), (9, .int .i64 i), (19, .int .i64 n), (20, .int .i64 v), (52, uv), (53, .int .i64 row.length), (54, .int .i64 (q + 1 : Nat))] (by omega) (by simp only [hasAll, kS1, bLookup, bMapSet, wantA, isCall, stepOp, evalO, evalL, evalP, evalM, putDst, flat, kA, kB, Nat.reduceLT, ↓reduceIte, kC, Nat.reduceEqDiff, aBuiltin, abinG, guardFree, abin, aInt, aUn, aNilCheck, retQ, retQ1, aresults, aresultL, aresult, mkF, undefV, reduceCtorEq, kD, kE, kF, kG, kH, kI, kJ, kK, aExtract, calleeOf]; simp)
   ⟨q + 1, L, mv, met, rfl, hlq, rfl, oT, leq, gm, nm, am, hmi, tI.stay hum haw ⟨lw, hLw, by omega⟩ (hcl met fun _ _ => rfl)⟩
 have hLw1 : L[w]? = some (-1) := by
  rcases tI.val w lw hLw with rfl | ⟨_, k, _, rfl, _⟩
  ·exact hLw
  ·omega
 have st1 : aStore Try.prog hq 3 (.pointer (some ⟨T, w, none⟩)) (.int .i64 (v : Int)) = some (hq.put T (.cells (I64 (L.set w (v : Int))))) := by
  rw [aStore1 (P := Try.prog) (t := 3) (x := .int .i64 (v : Int)) Try.underlying3 (by kernel_rfl) oT (off := w) (by rw [I64_length, tI.len]; exact hwn) rfl rfl, I64_set]
 have wf4 : WF (hq.put T (.cells (I64 (L.set w (v : Int))))) := hwq.put _ (hwq.lt oT)
 have le4 : Le hB (hq.put T (.cells (I64 (L.set w (v : Int))))) := leq.put _ nT
 have oT4 : (hq.put T (.cells (I64 (L.set w (v : Int))))).own T = some (.cells (I64 (L.set w (v : Int)))) := AHeap.own_put_eq _ _ _
 have gm4 : GI (hq.put T (.cells (I64 (L.set w (v : Int))))) mv (nat64 met) := GS.put gm _ nm
 simp only [kS1, bLookup, bMapSet, wantA, isCall, stepOp, evalO, evalL, evalP, evalM, putDst, flat, kA, kB, Nat.reduceLT, ↓reduceIte, kC, Nat.reduceEqDiff, aBuiltin, abinG, guardFree, abin, aInt, aUn, aNilCheck, retQ, retQ1, aresults, aresultL, aresult, mkF, undefV, reduceCtorEq, kD, kE, kF, kG, kH, kI, kJ, kK, aExtract, calleeOf, adq, ldq, onA _ w hwn, odw, ixT _ w hwn, ldw, c4, st1]
 generalize hq.put T (.cells (I64 (L.set w (v : Int)))) = h4 at *
 obtain ⟨mv', h5, h6, e5, e6, g6, w6, l5, hf, hk⟩ := gm4.push wf4 (w : Int) (by rw [nat64_length]; omega)
 obtain ⟨l6, a6⟩ := hf hB le4 am
 obtain ⟨oT6, nm6⟩ := hk T _ oT4 nm
 have hnat : nat64 met ++ [(w : Int)] = nat64 (met ++ [w]) := by simp [nat64]
 rw [hnat] at g6
 simp only [kS1, bLookup, bMapSet, wantA, isCall, stepOp, evalO, evalL, evalP, evalM, putDst, flat, kA, kB, Nat.reduceLT, ↓reduceIte, kC, Nat.reduceEqDiff, aBuiltin, abinG, guardFree, abin, aInt, aUn, aNilCheck, retQ, retQ1, aresults, aresultL, aresult, mkF, undefV, reduceCtorEq, kD, kE, kF, kG, kH, kI, kJ, kK, aExtract, calleeOf, e5, e6, awrap_succ q (by omega)]
 exact loop_again (row.length - (q + 1)) [(1, ov), (5, rv), (6, .slice (some ⟨T, 0, none⟩) n n), (7, .int .i64 v), (8, mv'), (9, .int .i64 i), (19, .int .i64 n), (20, .int .i64 v), (52, uv), (53, .int .i64 row.length), (54, .int .i64 (q + 1 : Nat))] (by omega) (by simp only [hasAll, kS1, bLookup, bMapSet, wantA, isCall, stepOp, evalO, evalL, evalP, evalM, putDst, flat, kA, kB, Nat.reduceLT, ↓reduceIte, kC, Nat.reduceEqDiff, aBuiltin, abinG, guardFree, abin, aInt, aUn, aNilCheck, retQ, retQ1, aresults, aresultL, aresult, mkF, undefV, reduceCtorEq, kD, kE, kF, kG, kH, kI, kJ, kK, aExtract, calleeOf]; simp)
  ⟨q + 1, _, mv', met ++ [w], rfl, hlq, rfl, oT6, l6, g6, nm6, a6, by rw [List.getElem?_append_left hil]; exact hmi, tI.push hum haw c3 hLw1 (hcl _ fun j hj => List.getElem?_append_left hj)⟩
end Go.Fw
