/- A text of the proof. -/
import Derived.Test.YtmgcmoifdnkaoaaFwLC14
set_option linter.unusedSimpArgs false
set_option linter.unusedVariables false
namespace Go.Fw
open Go.Proofs
attribute [local irreducible] KO4 KO3 KO2 KO1 KO KN KX KE VK KCond KDraw KCall KLoop
set_option maxHeartbeats 8000000
set_option maxRecDepth 10000
theorem GS.appendB {P : Program} {h : AHeap} {t xt : TypeId} {k n n' : Nat} {v x : Value} {cs news : List Value} (ht : apT P t xt k = true) (g : GS k h v n cs) (hs : ∀ e, tsize P e = k → srcCells P h e x = some (n', news))
  (hc1 : cs.all (·.oneCell') = true) (h1 : news.all (·.oneCell') = true) (hnl : news.length = n' * k) (hb : n + n' ≤ 8796093022208) (hby' : ∀ e, P.underlying t = some (.slice e) → P.bytesOf e ≤ 16) :
  ∃ v' h', aAppend P h t xt v x = some (v', h') ∧ GS k h' v' (n + n') (cs ++ news) ∧ (∀ f, WF h → Le f h → Apart f v → Le f h' ∧ Apart f v') := by
 unfold apT at ht
 split at ht
 ·rename_i e dx hu hx
  split at ht
  ·rename_i z hz
   simp only [Bool.and_eq_true, beq_iff_eq, decide_eq_true_eq] at ht
   obtain ⟨⟨⟨⟨⟨hz1, hz2⟩, hd⟩, hni⟩, hk⟩, hby⟩ := ht
   have hs := hs e hk
   have hby := hby' e hu
   have b1 : (n + n') * P.bytesOf e ≤ 140737488355328 := Nat.le_trans (Nat.mul_le_mul hb hby) (by decide)
   have b2 : n + n' ≤ 140737488355328 := by omega
   have hall : z.cells.size = tsize P e ∧ z.cells.toList.all (·.oneCell') ∧ (P.underlying e).isSome ∧ notIntD dx ∧ news.all (·.oneCell') ∧ (n + n') * P.bytesOf e ≤ 140737488355328 ∧ n + n' ≤ 140737488355328 ∧ news.length = n' * tsize P e :=
    ⟨hz1, hz2, hd, hni, h1, b1, b2, by rw [hk]; exact hnl⟩
   have hlen : (cs ++ news).length = (n + n') * k := by rw [List.length_append, g.1, hnl, Nat.add_mul]
   by_cases h0 : n' = 0
   ·subst h0
    have hnn : news = [] := by simpa using hnl
    subst hnn
    refine ⟨v, h, ?_, by simpa using g, fun f _ e a => ⟨e, a⟩⟩
    obtain ⟨hl, ⟨rfl, rfl⟩ | ⟨id, c, cap, rfl, ho, ht, hc⟩⟩ := g
    ·simp [aAppend, hu, hx, hz, hs, hall]
    ·have : n ≤ cap := by
      rcases hc with rfl | ⟨rfl, _⟩
      ·have : (8796093022208 : Nat) ≤ UNK := by decide
       omega
      ·exact Nat.le_refl _
     simp only [aAppend, hu, hx, hz, hs]
     rw [if_pos hall, if_pos trivial, if_pos this]
   ·obtain ⟨hl, ⟨rfl, rfl⟩ | ⟨id, c, cap, rfl, ho, htk, hc⟩⟩ := g
    ·have hcs : cs = [] := by simpa using hl
     subst hcs
     refine ⟨_, _, ?_, ⟨hlen, .inr ⟨h.next, news, UNK + k, by rfl, AHeap.own_alloc_eq _ _, by simp [← hnl, List.take_length], .inl rfl⟩⟩, fun f hw e a => ⟨e.alloc hw _, ?_⟩⟩
     ·have hno : ¬ UNK ≤ 0 := by decide
      have hno2 : ¬ (0 + n' ≤ 0) := by omega
      simp only [aAppend, hu, hx, hz, hs]
      rw [if_pos hall, if_neg h0, if_neg hno, if_neg hno2]
      simp [oldCells, hk]
     ·intro b hb; simp [blk] at hb; subst hb; exact e.next hw (Nat.le_refl _)
    ·have hrd : Fw.readN h ⟨id, 0, none⟩ (n * k) = some cs := by
      have : n * k ≤ c.length := by have := hl; rw [← htk, List.length_take] at this; omega
      rw [readN_own ho (n * k) 0 (by omega)]; simp [htk]
     rcases hc with rfl | ⟨rfl, hcn⟩
     ·refine ⟨_, (h.kill id).alloc (.cells (cs ++ news)), ?_, ⟨hlen, .inr ⟨h.next, cs ++ news, UNK + k, by rfl, by exact AHeap.own_alloc_eq _ _, by rw [← hlen, List.take_length], .inl rfl⟩⟩, fun f hw e a => ⟨(e.kill (a _ rfl)).alloc (hw.kill _) _, ?_⟩⟩
      ·simp only [aAppend, hu, hx, hz, hs]
       rw [if_pos hall, if_neg h0, if_pos (Nat.le_add_right _ _), if_pos (by rw [hk])]
       simp only [hk, hrd, ho, hc1, if_true]
      ·intro b hb; simp [blk] at hb; subst hb; exact e.next hw (Nat.le_refl _)
     ·have hno : ¬ UNK ≤ cap := Nat.not_le.2 (Nat.lt_of_lt_of_le hcn (by decide))
      refine ⟨_, _, ?_, ⟨hlen, .inr ⟨h.next, cs ++ news, UNK + k, by rfl, AHeap.own_alloc_eq _ _, by rw [← hlen, List.take_length], .inl rfl⟩⟩, fun f hw e a => ⟨e.alloc hw _, ?_⟩⟩
      ·simp only [aAppend, hu, hx, hz, hs]
       rw [if_pos hall, if_neg h0, if_neg hno, if_neg (by omega : ¬ cap + n' ≤ cap)]
       simp only [oldCells, hk, hrd, hc1, if_true]
      ·intro b hb; simp [blk] at hb; subst hb; exact e.next hw (Nat.le_refl _)
  ·cases ht
 ·cases ht
theorem GP.joinB {h : AHeap} {v x : Value} {ps qs : List Pr} (g : GP h v ps) (hwf : WF h) (hx : PR h x qs) (hn : ps.length + qs.length ≤ 8796093022208) :
  ∃ v' h5, aAppend Try.prog h 22 22 v x = some (v', h5) ∧ GP h5 v' (ps ++ qs) ∧ WF h5 ∧
   (∀ f, Le f h → Apart f v → Le f h5 ∧ Apart f v') ∧ (∀ b o, h.own b = some o → blk v ≠ some b → h5.own b = some o ∧ blk v' ≠ some b) := by
 obtain ⟨v', h5, e5, g5, hf⟩ := GS.appendB (P := Try.prog) (t := 22) (xt := 22) (k := 2) (by kernel_rfl) g (fun e he => CS.src he hx) (flatP_one _) (flatP_one _) (flatP_length _) (by omega) (fun e he => by have h22 : Try.prog.underlying 22 = some (.slice 45) := Try.underlying22; rw [h22] at he; injection he with he; injection he with he; subst he; decide +kernel)
 refine ⟨v', h5, e5, ?_, aAppend_wf hwf e5, fun f lf af => hf f hwf lf af, fun b o ho hb => keep_own hf hwf ho hb⟩
 rw [GP, List.length_append, flatP_append]; exact g5
theorem CopyPairsB (W0 : Base) (v : Value) (ps : List Pr) (h : AHeap) (hv : PR h v ps) (hn : ps.length ≤ 8796093022208) : AC Try.prog W0 16 [v] h fun x h' => GP h' x ps ∧ Le h h' ∧ Apart h x := by
 refine AC.vc (fn := Try.f16) (c := _) ⟨Try.func16, rfl, by decide⟩ Try.ntmps16 Try.results16 (by simp) fun hwf => ?_
 simp only [argFrame, argFrom, Nat.reduceAdd]
 obtain ⟨v', h5, e5, g5, w5, hf, -⟩ := (GP.nil h).joinB hwf hv (by simp; omega)
 obtain ⟨l, a⟩ := hf h (Le.refl h) (fun b hb => by simp [blk] at hb)
 simp only [kS1, bLookup, bMapSet, wantA, isCall, stepOp, evalO, evalL, evalP, evalM, putDst, flat, kA, kB, Nat.reduceLT, ↓reduceIte, kC, Nat.reduceEqDiff, aBuiltin, abinG, guardFree, abin, aInt, aUn, aNilCheck, retQ, retQ1, aresults, aresultL, aresult, mkF, undefV, reduceCtorEq, kD, kE, kF, kG, kH, kI, kJ, kK, aExtract, calleeOf, e5]
 exact ⟨g5, l, a⟩
theorem SamePairsB (W0 : Base) (v w : Value) (ps qs : List Pr) (h : AHeap) (hv : PR h v ps) (hw : PR h w qs) (hn : ps.length ≤ 8796093022208) : AC Try.prog W0 22 [v, w] h fun x h' => x = .bool (decide (ps = qs)) ∧ h' = h := by
 refine AC.vc (fn := Try.f22) (c := _) ⟨Try.func22, rfl, by decide⟩ Try.ntmps22 Try.results22 (by simp) fun hwf => ?_
 simp only [argFrame, argFrom, Nat.reduceAdd]
 have lv := fun g => hv.len g
 have lw := fun g => hw.len g
 by_cases c : (ps.length : Int) = (qs.length : Int)
 rotate_left
 ·simp only [kS1, bLookup, bMapSet, wantA, isCall, stepOp, evalO, evalL, evalP, evalM, putDst, flat, kA, kB, Nat.reduceLT, ↓reduceIte, kC, Nat.reduceEqDiff, aBuiltin, abinG, guardFree, abin, aInt, aUn, aNilCheck, retQ, retQ1, aresults, aresultL, aresult, mkF, undefV, reduceCtorEq, kD, kE, kF, kG, kH, kI, kJ, kK, aExtract, calleeOf, lv, lw, bne, eq_false c]
  exact ⟨by rw [decide_eq_false (fun e => c (by rw [e]))], trivial⟩
 have c' : ps.length = qs.length := by omega
 simp only [kS1, bLookup, bMapSet, wantA, isCall, stepOp, evalO, evalL, evalP, evalM, putDst, flat, kA, kB, Nat.reduceLT, ↓reduceIte, kC, Nat.reduceEqDiff, aBuiltin, abinG, guardFree, abin, aInt, aUn, aNilCheck, retQ, retQ1, aresults, aresultL, aresult, mkF, undefV, reduceCtorEq, kD, kE, kF, kG, kH, kI, kJ, kK, aExtract, calleeOf, lv, lw, bne, eq_true c]
 refine KLoop.intro (fun k fr hh => ∃ i : Nat, k = ps.length - i ∧ i ≤ ps.length ∧ hh = h ∧ fr = mkF [(0, v), (1, w), (5, .int .i64 i)] ∧ ps.take i = qs.take i)
  ps.length [(0, v), (1, w), (5, .int .i64 (0 : Nat))] (by simp only [hasAll, kS1, bLookup, bMapSet, wantA, isCall, stepOp, evalO, evalL, evalP, evalM, putDst, flat, kA, kB, Nat.reduceLT, ↓reduceIte, kC, Nat.reduceEqDiff, aBuiltin, abinG, guardFree, abin, aInt, aUn, aNilCheck, retQ, retQ1, aresults, aresultL, aresult, mkF, undefV, reduceCtorEq, kD, kE, kF, kG, kH, kI, kJ, kK, aExtract, calleeOf]; simp) ⟨0, rfl, Nat.zero_le _, rfl, rfl, rfl⟩ ?_
 rintro k fr hh - ⟨i, rfl, hi, rfl, rfl, he⟩
 simp only [kS1, bLookup, bMapSet, wantA, isCall, stepOp, evalO, evalL, evalP, evalM, putDst, flat, kA, kB, Nat.reduceLT, ↓reduceIte, kC, Nat.reduceEqDiff, aBuiltin, abinG, guardFree, abin, aInt, aUn, aNilCheck, retQ, retQ1, aresults, aresultL, aresult, mkF, undefV, reduceCtorEq, kD, kE, kF, kG, kH, kI, kJ, kK, aExtract, calleeOf, lv]
 refine KCond.intro (fun ht => ?_) (fun hf => ?_)
 ·have hlt : i < ps.length := lt_t ht
  have hpi := getElem?_of hlt
  have hqi := getElem?_of (show i < qs.length by omega)
  have t1 : ps.take (i + 1) = ps.take i ++ [ps[i]] := List.take_succ_eq_append_getElem hlt
  have t2 : qs.take (i + 1) = qs.take i ++ [qs[i]'(by omega)] := List.take_succ_eq_append_getElem (by omega)
  generalize ps[i] = p at hpi t1
  generalize qs[i]'(by omega) = q at hqi t2
  have ad := hv.addr (k := .i64) i hlt
  have ld := hv.load hpi
  have ad2 := hw.addr (k := .i64) i (by omega)
  have ld2 := hw.load hqi
  have hab := (abinP p q).2
  simp only [kS1, bLookup, bMapSet, wantA, isCall, stepOp, evalO, evalL, evalP, evalM, putDst, flat, kA, kB, Nat.reduceLT, ↓reduceIte, kC, Nat.reduceEqDiff, aBuiltin, abinG, guardFree, abin, aInt, aUn, aNilCheck, retQ, retQ1, aresults, aresultL, aresult, mkF, undefV, reduceCtorEq, kD, kE, kF, kG, kH, kI, kJ, kK, aExtract, calleeOf]
  refine KDraw.intro mixed (.fl 0 (.fl 1 (.fl 2 (.fl 3 (.fl 4 (.fl 5 (.fl 6 (.fl 7 (.fl 8 (.done)))))))))) (by kernel_rfl) ?_
  cases hb : decide (p = q) with
  | true =>
   rw [hb] at hab
   have e := of_decide_eq_true hb
   simp only [kS1, bLookup, bMapSet, wantA, isCall, stepOp, evalO, evalL, evalP, evalM, putDst, flat, kA, kB, Nat.reduceLT, ↓reduceIte, kC, Nat.reduceEqDiff, aBuiltin, abinG, guardFree, abin, aInt, aUn, aNilCheck, retQ, retQ1, aresults, aresultL, aresult, mkF, undefV, reduceCtorEq, kD, kE, kF, kG, kH, kI, kJ, kK, aExtract, calleeOf, kD1, Nat.reduceBEq, HoldsAll, kL, kM, kN, kO, ad, ld, ad2, ld2, hab, -abinG, awrap_succ i (by omega)]
   exact loop_again (ps.length - (i + 1)) [(0, v), (1, w), (5, .int .i64 (i + 1 : Nat))] (by omega) (by simp only [hasAll, kS1, bLookup, bMapSet, wantA, isCall, stepOp, evalO, evalL, evalP, evalM, putDst, flat, kA, kB, Nat.reduceLT, ↓reduceIte, kC, Nat.reduceEqDiff, aBuiltin, abinG, guardFree, abin, aInt, aUn, aNilCheck, retQ, retQ1, aresults, aresultL, aresult, mkF, undefV, reduceCtorEq, kD, kE, kF, kG, kH, kI, kJ, kK, aExtract, calleeOf]; simp) ⟨i + 1, rfl, hlt, rfl, rfl, by rw [t1, t2, he, e]⟩
  | false =>
   rw [hb] at hab
   have e := of_decide_eq_false hb
   simp only [kS1, bLookup, bMapSet, wantA, isCall, stepOp, evalO, evalL, evalP, evalM, putDst, flat, kA, kB, Nat.reduceLT, ↓reduceIte, kC, Nat.reduceEqDiff, aBuiltin, abinG, guardFree, abin, aInt, aUn, aNilCheck, retQ, retQ1, aresults, aresultL, aresult, mkF, undefV, reduceCtorEq, kD, kE, kF, kG, kH, kI, kJ, kK, aExtract, calleeOf, kD1, Nat.reduceBEq, HoldsAll, kL, kM, kN, kO, ad, ld, ad2, ld2, hab, -abinG]
   exact by rw [decide_eq_false (fun e' => e (by subst e'; rw [hpi] at hqi; injection hqi))]
 ·have hge : ps.length ≤ i := lt_f hf
  rw [List.take_of_length_le hge, List.take_of_length_le (by omega)] at he
  simp only [kS1, bLookup, bMapSet, wantA, isCall, stepOp, evalO, evalL, evalP, evalM, putDst, flat, kA, kB, Nat.reduceLT, ↓reduceIte, kC, Nat.reduceEqDiff, aBuiltin, abinG, guardFree, abin, aInt, aUn, aNilCheck, retQ, retQ1, aresults, aresultL, aresult, mkF, undefV, reduceCtorEq, kD, kE, kF, kG, kH, kI, kJ, kK, aExtract, calleeOf]
  exact ⟨by rw [decide_eq_true he], trivial⟩
theorem SamePairListsB (W0 : Base) (v w : Value) (ps qs : List (List Pr)) (h : AHeap) (hv : RL PR h v ps) (hw : RL PR h w qs) (hn : ps.length ≤ 100000) (hp : ∀ p ∈ ps, p.length ≤ 8796093022208) : AC Try.prog W0 28 [v, w] h fun x h' => x = .bool (decide (ps = qs)) ∧ h' = h := by
 refine AC.vc (fn := Try.f28) (c := _) ⟨Try.func28, rfl, by decide⟩ Try.ntmps28 Try.results28 (by simp) fun hwf => ?_
 simp only [argFrame, argFrom, Nat.reduceAdd]
 have lv := fun g => hv.len (P := Try.prog) Try.underlying38 g
 have lw := fun g => hw.len (P := Try.prog) Try.underlying38 g
 by_cases c : (ps.length : Int) = (qs.length : Int)
 rotate_left
 ·simp only [kS1, bLookup, bMapSet, wantA, isCall, stepOp, evalO, evalL, evalP, evalM, putDst, flat, kA, kB, Nat.reduceLT, ↓reduceIte, kC, Nat.reduceEqDiff, aBuiltin, abinG, guardFree, abin, aInt, aUn, aNilCheck, retQ, retQ1, aresults, aresultL, aresult, mkF, undefV, reduceCtorEq, kD, kE, kF, kG, kH, kI, kJ, kK, aExtract, calleeOf, lv, lw, bne, eq_false c]
  exact ⟨by rw [decide_eq_false (fun e => c (by rw [e]))], trivial⟩
 have c' : ps.length = qs.length := by omega
 simp only [kS1, bLookup, bMapSet, wantA, isCall, stepOp, evalO, evalL, evalP, evalM, putDst, flat, kA, kB, Nat.reduceLT, ↓reduceIte, kC, Nat.reduceEqDiff, aBuiltin, abinG, guardFree, abin, aInt, aUn, aNilCheck, retQ, retQ1, aresults, aresultL, aresult, mkF, undefV, reduceCtorEq, kD, kE, kF, kG, kH, kI, kJ, kK, aExtract, calleeOf, lv, lw, bne, eq_true c]
 refine KLoop.intro (fun k fr hh => ∃ i : Nat, k = ps.length - i ∧ i ≤ ps.length ∧ hh = h ∧ fr = mkF [(0, v), (1, w), (5, .int .i64 i)] ∧ ps.take i = qs.take i)
  ps.length [(0, v), (1, w), (5, .int .i64 (0 : Nat))] (by simp only [hasAll, kS1, bLookup, bMapSet, wantA, isCall, stepOp, evalO, evalL, evalP, evalM, putDst, flat, kA, kB, Nat.reduceLT, ↓reduceIte, kC, Nat.reduceEqDiff, aBuiltin, abinG, guardFree, abin, aInt, aUn, aNilCheck, retQ, retQ1, aresults, aresultL, aresult, mkF, undefV, reduceCtorEq, kD, kE, kF, kG, kH, kI, kJ, kK, aExtract, calleeOf]; simp) ⟨0, rfl, Nat.zero_le _, rfl, rfl, rfl⟩ ?_
 rintro k fr hh - ⟨i, rfl, hi, rfl, rfl, he⟩
 simp only [kS1, bLookup, bMapSet, wantA, isCall, stepOp, evalO, evalL, evalP, evalM, putDst, flat, kA, kB, Nat.reduceLT, ↓reduceIte, kC, Nat.reduceEqDiff, aBuiltin, abinG, guardFree, abin, aInt, aUn, aNilCheck, retQ, retQ1, aresults, aresultL, aresult, mkF, undefV, reduceCtorEq, kD, kE, kF, kG, kH, kI, kJ, kK, aExtract, calleeOf, lv]
 refine KCond.intro (fun ht => ?_) (fun hf => ?_)
 ·have hlt : i < ps.length := lt_t ht
  have hpi := getElem?_of hlt
  have hqi := getElem?_of (show i < qs.length by omega)
  have t1 : ps.take (i + 1) = ps.take i ++ [ps[i]] := List.take_succ_eq_append_getElem hlt
  have t2 : qs.take (i + 1) = qs.take i ++ [qs[i]'(by omega)] := List.take_succ_eq_append_getElem (by omega)
  have ad := hv.addr (P := Try.prog) Try.underlying38 Try.underlying22 (by kernel_rfl) (k := .i64) i hlt
  obtain ⟨u, ld, hu⟩ := hv.load (P := Try.prog) Try.underlying22 rfl i hlt
  have ad2 := hw.addr (P := Try.prog) Try.underlying38 Try.underlying22 (by kernel_rfl) (k := .i64) i (by omega)
  obtain ⟨u2, ld2, hu2⟩ := hw.load (P := Try.prog) Try.underlying22 rfl i (by omega)
  have hpl := hp _ (List.mem_of_getElem? hpi)
  generalize ps[i] = p at hpi t1 hu hpl
  generalize qs[i]'(by omega) = q at hqi t2 hu2
  simp only [kS1, bLookup, bMapSet, wantA, isCall, stepOp, evalO, evalL, evalP, evalM, putDst, flat, kA, kB, Nat.reduceLT, ↓reduceIte, kC, Nat.reduceEqDiff, aBuiltin, abinG, guardFree, abin, aInt, aUn, aNilCheck, retQ, retQ1, aresults, aresultL, aresult, mkF, undefV, reduceCtorEq, kD, kE, kF, kG, kH, kI, kJ, kK, aExtract, calleeOf]
  refine KDraw.intro mixed (.fl 0 (.fl 1 (.fl 2 (.fl 3 (.fl 4 (.fl 5 (.fl 6 (.fl 7 (.ch 8 [3, 7] (.fl 9 (.done)) .no))))))))) (by kernel_rfl) ?_
  simp only [kS1, bLookup, bMapSet, wantA, isCall, stepOp, evalO, evalL, evalP, evalM, putDst, flat, kA, kB, Nat.reduceLT, ↓reduceIte, kC, Nat.reduceEqDiff, aBuiltin, abinG, guardFree, abin, aInt, aUn, aNilCheck, retQ, retQ1, aresults, aresultL, aresult, mkF, undefV, reduceCtorEq, kD, kE, kF, kG, kH, kI, kJ, kK, aExtract, calleeOf, kD1, Nat.reduceBEq, HoldsAll, kL, kM, kN, kO, ad, ld, ad2, ld2]
  refine KGCall.intro (by simp only [kS1, bLookup, bMapSet, wantA, isCall, stepOp, evalO, evalL, evalP, evalM, putDst, flat, kA, kB, Nat.reduceLT, ↓reduceIte, kC, Nat.reduceEqDiff, aBuiltin, abinG, guardFree, abin, aInt, aUn, aNilCheck, retQ, retQ1, aresults, aresultL, aresult, mkF, undefV, reduceCtorEq, kD, kE, kF, kG, kH, kI, kJ, kK, aExtract, calleeOf] <;> rfl) ⟨Try.func22, rfl, by decide⟩ (SamePairsB W0 u u2 p q hh hu hu2 hpl) ?_
  rintro x h3 w3 ⟨rfl, rfl⟩
  cases hb : decide (p = q) with
  | true =>
   have e := of_decide_eq_true hb
   simp only [kS1, bLookup, bMapSet, wantA, isCall, stepOp, evalO, evalL, evalP, evalM, putDst, flat, kA, kB, Nat.reduceLT, ↓reduceIte, kC, Nat.reduceEqDiff, aBuiltin, abinG, guardFree, abin, aInt, aUn, aNilCheck, retQ, retQ1, aresults, aresultL, aresult, mkF, undefV, reduceCtorEq, kD, kE, kF, kG, kH, kI, kJ, kK, aExtract, calleeOf, kD1, Nat.reduceBEq, HoldsAll, kL, kM, kN, kO, ad, ld, ad2, ld2, awrap_succ i (by omega)]
   exact loop_again (ps.length - (i + 1)) [(0, v), (1, w), (5, .int .i64 (i + 1 : Nat))] (by omega) (by simp only [hasAll, kS1, bLookup, bMapSet, wantA, isCall, stepOp, evalO, evalL, evalP, evalM, putDst, flat, kA, kB, Nat.reduceLT, ↓reduceIte, kC, Nat.reduceEqDiff, aBuiltin, abinG, guardFree, abin, aInt, aUn, aNilCheck, retQ, retQ1, aresults, aresultL, aresult, mkF, undefV, reduceCtorEq, kD, kE, kF, kG, kH, kI, kJ, kK, aExtract, calleeOf]; simp) ⟨i + 1, rfl, hlt, rfl, rfl, by rw [t1, t2, he, e]⟩
  | false =>
   have e := of_decide_eq_false hb
   simp only [kS1, bLookup, bMapSet, wantA, isCall, stepOp, evalO, evalL, evalP, evalM, putDst, flat, kA, kB, Nat.reduceLT, ↓reduceIte, kC, Nat.reduceEqDiff, aBuiltin, abinG, guardFree, abin, aInt, aUn, aNilCheck, retQ, retQ1, aresults, aresultL, aresult, mkF, undefV, reduceCtorEq, kD, kE, kF, kG, kH, kI, kJ, kK, aExtract, calleeOf, kD1, Nat.reduceBEq, HoldsAll, kL, kM, kN, kO, ad, ld, ad2, ld2]
   exact by rw [decide_eq_false (fun e' => e (by subst e'; rw [hpi] at hqi; injection hqi))]
 ·have hge : ps.length ≤ i := lt_f hf
  rw [List.take_of_length_le hge, List.take_of_length_le (by omega)] at he
  simp only [kS1, bLookup, bMapSet, wantA, isCall, stepOp, evalO, evalL, evalP, evalM, putDst, flat, kA, kB, Nat.reduceLT, ↓reduceIte, kC, Nat.reduceEqDiff, aBuiltin, abinG, guardFree, abin, aInt, aUn, aNilCheck, retQ, retQ1, aresults, aresultL, aresult, mkF, undefV, reduceCtorEq, kD, kE, kF, kG, kH, kI, kJ, kK, aExtract, calleeOf]
  exact ⟨by rw [decide_eq_true he], trivial⟩
theorem SameTreeB (W0 : Base) (v w : Value) (T U : TM) (h : AHeap) (hv : TR h v T) (hw : TR h w U) (h1 : T.bs.length ≤ 100000) (h2 : ∀ p ∈ T.bs, p.length ≤ 8796093022208) (h3 : T.cs.length ≤ 100000) (h4 : T.ls.length ≤ 100000) : AC Try.prog W0 47 [v, w] h fun x h' => x = .bool (decide (T.bs = U.bs ∧ T.cs = U.cs ∧ T.ls = U.ls)) ∧ Le h h' := by
 obtain ⟨b1, c1, l1, rfl, p1, q1, r1⟩ := hv
 obtain ⟨b2, c2, l2, rfl, p2, q2, r2⟩ := hw
 refine AC.vc (fn := Try.f47) (c := _) ⟨Try.func47, rfl, by decide⟩ Try.ntmps47 Try.results47 (by simp) fun hwf => ?_
 simp only [argFrame, argFrom, Nat.reduceAdd]
 obtain ⟨g1, e1, k1, w1, lA⟩ := boxT hwf p1 q1 r1
 generalize h.next = A at *
 obtain ⟨g2, e2, k2, w2, lB⟩ := boxT w1 (p2.le Stays.PR k1) (q2.le Stays.isI k1) (r2.le k1)
 generalize g1.next = B at *
 have fA := lA g2 k2
 have fB := lB g2 (Le.refl _)
 have k12 := k1.trans k2
 simp only [kS1, bLookup, bMapSet, wantA, isCall, stepOp, evalO, evalL, evalP, evalM, putDst, flat, kA, kB, Nat.reduceLT, ↓reduceIte, kC, Nat.reduceEqDiff, aBuiltin, abinG, guardFree, abin, aInt, aUn, aNilCheck, retQ, retQ1, aresults, aresultL, aresult, mkF, undefV, reduceCtorEq, kD, kE, kF, kG, kH, kI, kJ, kK, aExtract, calleeOf, e1, e2, tf0, tf1, tf2, aadd, Nat.zero_add, fA.2.1, fB.2.1]
 refine KCall.intro (by simp only [kS1, bLookup, bMapSet, wantA, isCall, stepOp, evalO, evalL, evalP, evalM, putDst, flat, kA, kB, Nat.reduceLT, ↓reduceIte, kC, Nat.reduceEqDiff, aBuiltin, abinG, guardFree, abin, aInt, aUn, aNilCheck, retQ, retQ1, aresults, aresultL, aresult, mkF, undefV, reduceCtorEq, kD, kE, kF, kG, kH, kI, kJ, kK, aExtract, calleeOf] <;> rfl) ⟨Try.func28, rfl, by decide⟩ (SamePairListsB W0 b1 b2 _ _ g2 (p1.le Stays.PR k12) (p2.le Stays.PR k12) h1 h2) ?_
 rintro x g3 w3 ⟨rfl, rfl⟩
 by_cases c : T.bs = U.bs
 rotate_left
 ·have d : decide (T.bs = U.bs) = false := decide_eq_false c
  simp only [kS1, bLookup, bMapSet, wantA, isCall, stepOp, evalO, evalL, evalP, evalM, putDst, flat, kA, kB, Nat.reduceLT, ↓reduceIte, kC, Nat.reduceEqDiff, aBuiltin, abinG, guardFree, abin, aInt, aUn, aNilCheck, retQ, retQ1, aresults, aresultL, aresult, mkF, undefV, reduceCtorEq, kD, kE, kF, kG, kH, kI, kJ, kK, aExtract, calleeOf, d]
  exact ⟨by simp [c], k12⟩
 have d : decide (T.bs = U.bs) = true := decide_eq_true c
 simp only [kS1, bLookup, bMapSet, wantA, isCall, stepOp, evalO, evalL, evalP, evalM, putDst, flat, kA, kB, Nat.reduceLT, ↓reduceIte, kC, Nat.reduceEqDiff, aBuiltin, abinG, guardFree, abin, aInt, aUn, aNilCheck, retQ, retQ1, aresults, aresultL, aresult, mkF, undefV, reduceCtorEq, kD, kE, kF, kG, kH, kI, kJ, kK, aExtract, calleeOf, d, tf0, tf1, tf2, aadd, Nat.zero_add, fA.2.2.1, fB.2.2.1]
 refine KCall.intro (by simp only [kS1, bLookup, bMapSet, wantA, isCall, stepOp, evalO, evalL, evalP, evalM, putDst, flat, kA, kB, Nat.reduceLT, ↓reduceIte, kC, Nat.reduceEqDiff, aBuiltin, abinG, guardFree, abin, aInt, aUn, aNilCheck, retQ, retQ1, aresults, aresultL, aresult, mkF, undefV, reduceCtorEq, kD, kE, kF, kG, kH, kI, kJ, kK, aExtract, calleeOf] <;> rfl) ⟨Try.func27, rfl, by decide⟩ (SameInts_any W0 c1 c2 _ _ g3 (q1.le Stays.isI k12) (q2.le Stays.isI k12) h3) ?_
 rintro x g4 w4 ⟨rfl, rfl⟩
 by_cases c' : T.cs = U.cs
 rotate_left
 ·have d' : decide (T.cs = U.cs) = false := decide_eq_false c'
  simp only [kS1, bLookup, bMapSet, wantA, isCall, stepOp, evalO, evalL, evalP, evalM, putDst, flat, kA, kB, Nat.reduceLT, ↓reduceIte, kC, Nat.reduceEqDiff, aBuiltin, abinG, guardFree, abin, aInt, aUn, aNilCheck, retQ, retQ1, aresults, aresultL, aresult, mkF, undefV, reduceCtorEq, kD, kE, kF, kG, kH, kI, kJ, kK, aExtract, calleeOf, d']
  exact ⟨by simp [c'], k12⟩
 have d' : decide (T.cs = U.cs) = true := decide_eq_true c'
 simp only [kS1, bLookup, bMapSet, wantA, isCall, stepOp, evalO, evalL, evalP, evalM, putDst, flat, kA, kB, Nat.reduceLT, ↓reduceIte, kC, Nat.reduceEqDiff, aBuiltin, abinG, guardFree, abin, aInt, aUn, aNilCheck, retQ, retQ1, aresults, aresultL, aresult, mkF, undefV, reduceCtorEq, kD, kE, kF, kG, kH, kI, kJ, kK, aExtract, calleeOf, d', tf0, tf1, tf2, aadd, Nat.zero_add, fA.2.2.2, fB.2.2.2]
 refine KCall.intro (by simp only [kS1, bLookup, bMapSet, wantA, isCall, stepOp, evalO, evalL, evalP, evalM, putDst, flat, kA, kB, Nat.reduceLT, ↓reduceIte, kC, Nat.reduceEqDiff, aBuiltin, abinG, guardFree, abin, aInt, aUn, aNilCheck, retQ, retQ1, aresults, aresultL, aresult, mkF, undefV, reduceCtorEq, kD, kE, kF, kG, kH, kI, kJ, kK, aExtract, calleeOf] <;> rfl) ⟨Try.func22, rfl, by decide⟩ (SamePairs_any W0 l1 l2 _ _ g4 (r1.le k12) (r2.le k12) h4) ?_
 rintro x g5 w5 ⟨rfl, rfl⟩
 simp only [kS1, bLookup, bMapSet, wantA, isCall, stepOp, evalO, evalL, evalP, evalM, putDst, flat, kA, kB, Nat.reduceLT, ↓reduceIte, kC, Nat.reduceEqDiff, aBuiltin, abinG, guardFree, abin, aInt, aUn, aNilCheck, retQ, retQ1, aresults, aresultL, aresult, mkF, undefV, reduceCtorEq, kD, kE, kF, kG, kH, kI, kJ, kK, aExtract, calleeOf]
 exact ⟨by simp [c, c'], k12⟩
end Go.Fw
