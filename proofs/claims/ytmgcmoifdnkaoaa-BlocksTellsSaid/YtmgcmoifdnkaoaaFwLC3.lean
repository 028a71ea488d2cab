/- A text of the proof. -/
import Derived.Test.YtmgcmoifdnkaoaaFwLC2
set_option linter.unusedSimpArgs false
set_option linter.unusedVariables false
namespace Go.Fw
open Go.Proofs
attribute [local irreducible] KO4 KO3 KO2 KO1 KO KN KX KE VK KCond KDraw KCall KLoop
set_option maxHeartbeats 16000000
set_option maxRecDepth 10000
attribute [local irreducible] lowM bridgesM cutsM blocksM keyE
theorem RTree_any (W0 : Base) (v : Value) (G : GM) (h : AHeap) (hg : GR h v G) :
  AC Try.prog W0 44 [v] h fun x h' => Le h h' ∧ ((¬ RightG G ∧ x = .tuple #[emptyT, .int .i64 20]) ∨ (RightG G ∧ ¬ JoinG G.n.toNat G.es ∧ x = .tuple #[emptyT, .int .i64 60]) ∨
   (RightG G ∧ JoinG G.n.toNat G.es ∧ ∃ tv, x = .tuple #[tv, .int .i64 0] ∧ TR h' tv (treeM G.n.toNat G.es))) := by
 have hg0 := hg
 obtain ⟨gn, es⟩ := G
 obtain ⟨ev, rfl, hp⟩ := hg.open
 refine AC.vc (fn := Try.f44) (c := _) ⟨Try.func44, rfl, by decide⟩ Try.ntmps44 Try.results44 (by simp) fun hwf => ?_
 simp only [argFrame, argFrom, Nat.reduceAdd]
 obtain ⟨h1, b1, le1, wf1, -, lA⟩ := boxG (n := gn) hwf hp
 generalize h.next = B at *
 obtain ⟨h2, e2, l2, w2, o2⟩ := alloc_f wf1 [.slice none 0 0, .slice none 0 0, .slice none 0 0]
 have al := alloc66 h1
 rw [e2] at al
 have nR : h.own h1.next = none := le1.next wf1 (Nat.le_refl _)
 have nR1 : h1.own h1.next = none := (Le.refl h1).next wf1 (Nat.le_refl _)
 generalize h1.next = R at *
 have le2 := le1.trans l2
 have sN : ∃ a m k, Value.slice none 0 0 = .slice a m k ∧ (Value.slice none 0 0).oneCell' = true := ⟨_, _, _, rfl, rfl⟩
 have sN' : ∃ a m k, Value.slice none 0 0 = .slice a m k := ⟨_, _, _, rfl⟩
 have stE : ∀ (R : Nat) (g : AHeap), g.own R = some (.cells [.slice none 0 0, .slice none 0 0, .slice none 0 0]) → aStore Try.prog g 66 (.pointer (some ⟨R, 0, none⟩)) emptyT = some (g.put R (.cells [.slice none 0 0, .slice none 0 0, .slice none 0 0])) := fun R g o => store66 o sN sN sN
 have ldE : ∀ g : AHeap, aload Try.prog (g.put R (.cells [.slice none 0 0, .slice none 0 0, .slice none 0 0])) 66 ⟨R, 0, none⟩ = some emptyT := fun g => (load66 (AHeap.own_put_eq _ _ _) sN' sN' sN').1
 have lA2 := lA h2 l2
 simp only [kS1, bLookup, bMapSet, wantA, isCall, stepOp, evalO, evalL, evalP, evalM, putDst, flat, kA, kB, Nat.reduceLT, ↓reduceIte, kC, Nat.reduceEqDiff, aBuiltin, abinG, guardFree, abin, aInt, aUn, aNilCheck, retQ, retQ1, aresults, aresultL, aresult, mkF, undefV, reduceCtorEq, kD, kE, kF, kG, kH, kI, kJ, kK, aExtract, calleeOf, b1, al, lA2.1]
 refine KCall.intro (by simp only [kS1, bLookup, bMapSet, wantA, isCall, stepOp, evalO, evalL, evalP, evalM, putDst, flat, kA, kB, Nat.reduceLT, ↓reduceIte, kC, Nat.reduceEqDiff, aBuiltin, abinG, guardFree, abin, aInt, aUn, aNilCheck, retQ, retQ1, aresults, aresultL, aresult, mkF, undefV, reduceCtorEq, kD, kE, kF, kG, kH, kI, kJ, kK, aExtract, calleeOf] <;> rfl) ⟨Try.func56, rfl, by decide⟩ (RefRight_any W0 _ _ h2 (hg0.le le2)) ?_
 rintro x h3 w3 ⟨⟨bb, rfl, hbb⟩, l3⟩
 have le3 := le2.trans l3
 have o3 := l3.own _ _ o2
 have lA3 := lA h3 (l2.trans l3)
 cases bb with
 | false =>
  simp only [kS1, bLookup, bMapSet, wantA, isCall, stepOp, evalO, evalL, evalP, evalM, putDst, flat, kA, kB, Nat.reduceLT, ↓reduceIte, kC, Nat.reduceEqDiff, aBuiltin, abinG, guardFree, abin, aInt, aUn, aNilCheck, retQ, retQ1, aresults, aresultL, aresult, mkF, undefV, reduceCtorEq, kD, kE, kF, kG, kH, kI, kJ, kK, aExtract, calleeOf, build66e, stE R h3 o3, ldE h3]
  exact ⟨le3.put _ nR, .inl ⟨fun A => Bool.noConfusion (hbb.2 A), trivial⟩⟩
 | true =>
 have hr := hbb.1 rfl
 clear hbb
 have h0 : 0 ≤ gn := hr.n0
 obtain ⟨n, rfl⟩ := Int.eq_ofNat_of_zero_le h0
 have hR := hr.inR
 have h200 : (n : Int) ≤ 200 := hr.n1
 have h594 : es.length ≤ 594 := hr.len
 have hlen := fun g => hp.len g
 simp only [Int.toNat_natCast]
 by_cases c0 : (es.length : Int) = 0
 ·have d0 : decide ((es.length : Int) = 0) = true := decide_eq_true c0
  simp only [kS1, bLookup, bMapSet, wantA, isCall, stepOp, evalO, evalL, evalP, evalM, putDst, flat, kA, kB, Nat.reduceLT, ↓reduceIte, kC, Nat.reduceEqDiff, aBuiltin, abinG, guardFree, abin, aInt, aUn, aNilCheck, retQ, retQ1, aresults, aresultL, aresult, mkF, undefV, reduceCtorEq, kD, kE, kF, kG, kH, kI, kJ, kK, aExtract, calleeOf, fg1, aadd, Nat.zero_add, lA3.2.2, hlen, d0, build66e, stE R h3 o3, ldE h3]
  exact ⟨le3.put _ nR, .inr (.inl ⟨hr, fun J => J.1 (List.length_eq_zero_iff.1 (by omega)), trivial⟩)⟩
 have d0 : decide ((es.length : Int) = 0) = false := decide_eq_false c0
 have hes : es ≠ [] := fun e => c0 (by rw [e]; rfl)
 simp only [kS1, bLookup, bMapSet, wantA, isCall, stepOp, evalO, evalL, evalP, evalM, putDst, flat, kA, kB, Nat.reduceLT, ↓reduceIte, kC, Nat.reduceEqDiff, aBuiltin, abinG, guardFree, abin, aInt, aUn, aNilCheck, retQ, retQ1, aresults, aresultL, aresult, mkF, undefV, reduceCtorEq, kD, kE, kF, kG, kH, kI, kJ, kK, aExtract, calleeOf, fg1, aadd, Nat.zero_add, lA3.2.2, hlen, d0, lA3.1]
 refine KCall.intro (by simp only [kS1, bLookup, bMapSet, wantA, isCall, stepOp, evalO, evalL, evalP, evalM, putDst, flat, kA, kB, Nat.reduceLT, ↓reduceIte, kC, Nat.reduceEqDiff, aBuiltin, abinG, guardFree, abin, aInt, aUn, aNilCheck, retQ, retQ1, aresults, aresultL, aresult, mkF, undefV, reduceCtorEq, kD, kE, kF, kG, kH, kI, kJ, kK, aExtract, calleeOf] <;> rfl) ⟨Try.func64, rfl, by decide⟩ (RParts_any W0 _ n es h3 (hg0.le le3) hr) ?_
 rintro pv h4 w4 ⟨lp, l4⟩
 have le4 := le3.trans l4
 have o4 := l4.own _ _ o3
 have l24 := (l2.trans l3).trans l4
 have lA4 := lA h4 l24
 by_cases c1 : ((heads n es).length : Int) = 1
 rotate_left
 ·have d1 : decide (((heads n es).length : Int) = 1) = false := decide_eq_false c1
  simp only [kS1, bLookup, bMapSet, wantA, isCall, stepOp, evalO, evalL, evalP, evalM, putDst, flat, kA, kB, Nat.reduceLT, ↓reduceIte, kC, Nat.reduceEqDiff, aBuiltin, abinG, guardFree, abin, aInt, aUn, aNilCheck, retQ, retQ1, aresults, aresultL, aresult, mkF, undefV, reduceCtorEq, kD, kE, kF, kG, kH, kI, kJ, kK, aExtract, calleeOf, lp, bne, d1, build66e, stE R h4 o4, ldE h4]
  exact ⟨le4.put _ nR, .inr (.inl ⟨hr, fun J => c1 (by have := J.2; omega), trivial⟩)⟩
 have d1 : decide (((heads n es).length : Int) = 1) = true := decide_eq_true c1
 have hJ : JoinG n es := ⟨hes, by omega⟩
 -- the tree's own place
 obtain ⟨h5, e5, l5, w5, o5⟩ := alloc_f w4 [.slice none 0 0, .slice none 0 0, .slice none 0 0]
 have al5 := alloc66 h4
 rw [e5] at al5
 have nT : h4.own h4.next = none := (Le.refl h4).next w4 (Nat.le_refl _)
 have neRT : R ≠ h4.next := fun e => by rw [e, nT] at o4; cases o4
 generalize h4.next = T at *
 have st5 := stE T h5 o5
 have o6 := AHeap.own_put_eq h5 T (.cells [.slice none 0 0, .slice none 0 0, .slice none 0 0])
 have oR6 : (h5.put T (.cells [.slice none 0 0, .slice none 0 0, .slice none 0 0])).own R = some (.cells [.slice none 0 0, .slice none 0 0, .slice none 0 0]) := by rw [AHeap.own_put_ne _ _ _ _ neRT]; exact l5.own _ _ o4
 have w6 := w5.put (.cells [.slice none 0 0, .slice none 0 0, .slice none 0 0]) (w5.lt o5)
 have l46 := l5.put (.cells [.slice none 0 0, .slice none 0 0, .slice none 0 0]) nT
 generalize h5.put T (.cells [.slice none 0 0, .slice none 0 0, .slice none 0 0]) = h6 at *
 have lA6 := lA h6 (l24.trans l46)
 simp only [kS1, bLookup, bMapSet, wantA, isCall, stepOp, evalO, evalL, evalP, evalM, putDst, flat, kA, kB, Nat.reduceLT, ↓reduceIte, kC, Nat.reduceEqDiff, aBuiltin, abinG, guardFree, abin, aInt, aUn, aNilCheck, retQ, retQ1, aresults, aresultL, aresult, mkF, undefV, reduceCtorEq, kD, kE, kF, kG, kH, kI, kJ, kK, aExtract, calleeOf, lp, bne, d1, build66e, al5, st5, lA6.1]
 have le6 := le4.trans l46
 have nT0 : h.own T = none := le4.none nT
 have nT1 : h1.own T = none := l24.none nT
 have oT6' : (h6.kill R).own T = some (.cells [.slice none 0 0, .slice none 0 0, .slice none 0 0]) := by rw [AHeap.own_kill_ne _ _ _ (Ne.symm neRT)]; exact o6
 refine KCall.intro (by simp only [kS1, bLookup, bMapSet, wantA, isCall, stepOp, evalO, evalL, evalP, evalM, putDst, flat, kA, kB, Nat.reduceLT, ↓reduceIte, kC, Nat.reduceEqDiff, aBuiltin, abinG, guardFree, abin, aInt, aUn, aNilCheck, retQ, retQ1, aresults, aresultL, aresult, mkF, undefV, reduceCtorEq, kD, kE, kF, kG, kH, kI, kJ, kK, aExtract, calleeOf] <;> rfl) ⟨Try.func26, rfl, by decide⟩ (AC.frame oR6 (AC.frame oT6' (RBlocks_any W0 _ _ ((h6.kill R).kill T) (hg0.le ((le6.to_kill nR).to_kill nT0))))) ?_
 rintro x h7 w7 ⟨g7, ⟨f7, ⟨l7, ⟨hn, _⟩ | ⟨_, kv, rfl, hk⟩⟩, fT, rfl⟩, gR, rfl⟩
 ·exact absurd hr hn
 simp only [Int.toNat_natCast] at hk
 have l67 : Le h6 ((f7.put T (.cells [.slice none 0 0, .slice none 0 0, .slice none 0 0])).put R (.cells [.slice none 0 0, .slice none 0 0, .slice none 0 0])) := (l7.framed oT6').framed oR6
 have fR : f7.own R = none := by rw [← gR, AHeap.own_put_ne _ _ _ _ neRT]
 have lf7 : Le f7 ((f7.put T (.cells [.slice none 0 0, .slice none 0 0, .slice none 0 0])).put R (.cells [.slice none 0 0, .slice none 0 0, .slice none 0 0])) := (Le.put_none fT _).put _ fR
 have oT7 := l67.own _ _ o6
 have oR7 := l67.own _ _ oR6
 generalize (f7.put T (.cells [.slice none 0 0, .slice none 0 0, .slice none 0 0])).put R (.cells [.slice none 0 0, .slice none 0 0, .slice none 0 0]) = h7 at *
 have st7 := aStore1 (P := Try.prog) (t := 38) (x := kv) Try.underlying38 (by kernel_rfl) oT7 (off := 0) (by simp) (by obtain ⟨a, m, k, rfl⟩ := hk.isS; rfl) hk.one
 simp only [List.set_cons_zero] at st7
 have oT8 := AHeap.own_put_eq h7 T (.cells [kv, .slice none 0 0, .slice none 0 0])
 have oR8 : (h7.put T (.cells [kv, .slice none 0 0, .slice none 0 0])).own R = some (.cells [.slice none 0 0, .slice none 0 0, .slice none 0 0]) := by rw [AHeap.own_put_ne _ _ _ _ neRT]; exact oR7
 have w8 := w7.put (.cells [kv, .slice none 0 0, .slice none 0 0]) (w7.lt oT7)
 have lf8 := lf7.put (.cells [kv, .slice none 0 0, .slice none 0 0]) fT
 have l18 := ((l24.trans l46).trans l67).put (.cells [kv, .slice none 0 0, .slice none 0 0]) nT1
 generalize h7.put T (.cells [kv, .slice none 0 0, .slice none 0 0]) = h8 at *
 simp only [kS1, bLookup, bMapSet, wantA, isCall, stepOp, evalO, evalL, evalP, evalM, putDst, flat, kA, kB, Nat.reduceLT, ↓reduceIte, kC, Nat.reduceEqDiff, aBuiltin, abinG, guardFree, abin, aInt, aUn, aNilCheck, retQ, retQ1, aresults, aresultL, aresult, mkF, undefV, reduceCtorEq, kD, kE, kF, kG, kH, kI, kJ, kK, aExtract, calleeOf, tf0, aadd, Nat.zero_add, st7, (lA h8 l18).1]
 refine KCall.intro (by simp only [kS1, bLookup, bMapSet, wantA, isCall, stepOp, evalO, evalL, evalP, evalM, putDst, flat, kA, kB, Nat.reduceLT, ↓reduceIte, kC, Nat.reduceEqDiff, aBuiltin, abinG, guardFree, abin, aInt, aUn, aNilCheck, retQ, retQ1, aresults, aresultL, aresult, mkF, undefV, reduceCtorEq, kD, kE, kF, kG, kH, kI, kJ, kK, aExtract, calleeOf] <;> rfl) ⟨Try.func24, rfl, by decide⟩ (RCuts_any W0 _ _ h8 (hg0.le (le1.trans l18))) ?_
 rintro x h9 w9 ⟨l9, ⟨hn, _⟩ | ⟨_, cv, rfl, gc, ac⟩⟩
 ·exact absurd hr hn
 simp only [Int.toNat_natCast] at gc
 have oT9 := l9.own _ _ oT8
 have oR9 := l9.own _ _ oR8
 have st9 := aStore1 (P := Try.prog) (t := 35) (x := cv) Try.underlying35 (by kernel_rfl) oT9 (off := 1) (by simp) (by obtain ⟨a, m, k, rfl⟩ := gc.rl.isS; rfl) gc.rl.one
 have ncT : blk cv ≠ some T := fun e => by have := ac T e; rw [oT8] at this; cases this
 have ncR : blk cv ≠ some R := fun e => by have := ac R e; rw [oR8] at this; cases this
 -- what stays
 obtain ⟨f, hf⟩ : ∃ f, f = (h9.kill R).kill T := ⟨_, rfl⟩
 have fR' : f.own R = none := by rw [hf, AHeap.own_kill_ne _ _ _ neRT]; exact AHeap.own_kill_eq _ _
 have fT' : f.own T = none := by rw [hf]; exact AHeap.own_kill_eq _ _
 have lf9 : Le f h9 := by rw [hf]; exact (Le.killed _ _).trans (Le.killed _ _)
 have hkf : RL PR f kv (blocksM n es) := hk.le Stays.PR (by rw [hf]; exact ((lf8.trans l9).to_kill fR).to_kill fT)
 have gcf : GI f cv (nat64 (cutsM n es)) := GS.kept gc fun b o hb ho => by
  rw [hf, AHeap.own_kill_ne _ _ _ (fun e => ncT (by rw [← e]; exact hb)), AHeap.own_kill_ne _ _ _ (fun e => ncR (by rw [← e]; exact hb))]; exact ho
 have l0f : Le h f := by rw [hf]; exact (((le1.trans l18).trans l9).to_kill nR).to_kill nT0
 clear gc hk lf8 l9 ac ncT ncR l18 lf7 l67 l7 oT6' oR6 o6 l46 hf
 have hbn := blocks_le_n hR
 have hcn := cuts_le_n n es
 have hbl := blocksM_len' n es
 have lk := fun g => hkf.len (P := Try.prog) Try.underlying38 g
 have lc := fun g => gcf.rl.len (P := Try.prog) Try.underlying35 g
 rw [nat64_length] at lc
 have hTM : treeM n es = ⟨blocksM n es, nat64 (cutsM n es), linksU (blocksM n es) (cutsM n es) (blocksM n es).length⟩ := rfl
 rw [hTM]
 generalize blocksM n es = bs at *
 generalize cutsM n es = cs at *
 have oT10 := AHeap.own_put_eq h9 T (.cells ([kv, .slice none 0 0, .slice none 0 0].set 1 cv))
 have oR10 : (h9.put T (.cells ([kv, .slice none 0 0, .slice none 0 0].set 1 cv))).own R = some (.cells [.slice none 0 0, .slice none 0 0, .slice none 0 0]) := by rw [AHeap.own_put_ne _ _ _ _ neRT]; exact oR9
 have lf10 := lf9.put (.cells ([kv, .slice none 0 0, .slice none 0 0].set 1 cv)) fT'
 simp only [List.set_cons_succ, List.set_cons_zero] at st9 oT10 oR10 lf10
 simp only [kS1, bLookup, bMapSet, wantA, isCall, stepOp, evalO, evalL, evalP, evalM, putDst, flat, kA, kB, Nat.reduceLT, ↓reduceIte, kC, Nat.reduceEqDiff, aBuiltin, abinG, guardFree, abin, aInt, aUn, aNilCheck, retQ, retQ1, aresults, aresultL, aresult, mkF, undefV, reduceCtorEq, kD, kE, kF, kG, kH, kI, kJ, kK, aExtract, calleeOf, tf1, aadd, Nat.zero_add, st9]
 have ldT : ∀ (g : AHeap) (lv : Value), (∃ a m k, lv = .slice a m k) → g.own T = some (.cells [kv, cv, lv]) → aload Try.prog g 66 ⟨T, 0, none⟩ = some (.agg #[kv, cv, lv]) ∧ aload Try.prog g 38 ⟨T, 0, none⟩ = some kv ∧ aload Try.prog g 35 ⟨T, 1, none⟩ = some cv ∧ aload Try.prog g 22 ⟨T, 2, none⟩ = some lv := fun g lv sl o => load66 o hkf.isS gcf.rl.isS sl
 refine KLoop.intro (fun k fr hq => ∃ (i : Nat) (lv : Value), k = bs.length - i ∧ i ≤ bs.length ∧ fr = mkF [(2, .pointer (some ⟨R, 0, none⟩)), (4, .pointer (some ⟨T, 0, none⟩)), (5, .int .i64 i)] ∧
   hq.own T = some (.cells [kv, cv, lv]) ∧ hq.own R = some (.cells [.slice none 0 0, .slice none 0 0, .slice none 0 0]) ∧ GP hq lv (linksU bs cs i) ∧ blk lv ≠ some T ∧ blk lv ≠ some R ∧ Le f hq ∧ Apart f lv)
  bs.length [(2, .pointer (some ⟨R, 0, none⟩)), (4, .pointer (some ⟨T, 0, none⟩)), (5, .int .i64 (0 : Nat))] (by simp only [hasAll, kS1, bLookup, bMapSet, wantA, isCall, stepOp, evalO, evalL, evalP, evalM, putDst, flat, kA, kB, Nat.reduceLT, ↓reduceIte, kC, Nat.reduceEqDiff, aBuiltin, abinG, guardFree, abin, aInt, aUn, aNilCheck, retQ, retQ1, aresults, aresultL, aresult, mkF, undefV, reduceCtorEq, kD, kE, kF, kG, kH, kI, kJ, kK, aExtract, calleeOf]; simp)
  ⟨0, .slice none 0 0, rfl, Nat.zero_le _, rfl, oT10, oR10, GP.nil _, by simp [blk], by simp [blk], lf10, fun b hb => by cases hb⟩ ?_
 clear oT10 oR10 lf10 lf9 st9 oT9 oR9 w9 st7 w8 w7 w6 w5 st5 e5 l5 o5 al5
 rintro k fr hq hwq ⟨i, lv, rfl, hi, rfl, oT, oR, gl, nlT, nlR, leq, alf⟩
 have lT := ldT hq lv gl.pr.isS oT
 simp only [kS1, bLookup, bMapSet, wantA, isCall, stepOp, evalO, evalL, evalP, evalM, putDst, flat, kA, kB, Nat.reduceLT, ↓reduceIte, kC, Nat.reduceEqDiff, aBuiltin, abinG, guardFree, abin, aInt, aUn, aNilCheck, retQ, retQ1, aresults, aresultL, aresult, mkF, undefV, reduceCtorEq, kD, kE, kF, kG, kH, kI, kJ, kK, aExtract, calleeOf, tf0, aadd, Nat.zero_add, lT.2.1, lk]
 refine KCond.intro (fun ht => ?_) (fun hf => ?_)
 rotate_left
 ·have hge : bs.length ≤ i := lt_f hf
  obtain rfl : i = bs.length := by omega
  have sK := hkf.isS
  have sC := gcf.rl.isS
  have sL := gl.pr.isS
  have st := store66 (R := R) oR (b := kv) (c := cv) (l := lv) (by obtain ⟨a, m, k, e⟩ := sK; exact ⟨a, m, k, e, hkf.one⟩) (by obtain ⟨a, m, k, e⟩ := sC; exact ⟨a, m, k, e, gcf.rl.one⟩) (by obtain ⟨a, m, k, e⟩ := sL; exact ⟨a, m, k, e, gl.pr.sl.one⟩)
  have ld := (load66 (AHeap.own_put_eq hq R (.cells [kv, cv, lv])) sK sC sL).1
  simp only [kS1, bLookup, bMapSet, wantA, isCall, stepOp, evalO, evalL, evalP, evalM, putDst, flat, kA, kB, Nat.reduceLT, ↓reduceIte, kC, Nat.reduceEqDiff, aBuiltin, abinG, guardFree, abin, aInt, aUn, aNilCheck, retQ, retQ1, aresults, aresultL, aresult, mkF, undefV, reduceCtorEq, kD, kE, kF, kG, kH, kI, kJ, kK, aExtract, calleeOf, lT.1, st, ld]
  have lg := leq.put (.cells [kv, cv, lv]) fR'
  have glR : GP (hq.put R (.cells [kv, cv, lv])) lv (linksU bs cs bs.length) := GS.put gl _ nlR
  exact ⟨l0f.trans lg, .inr (.inr ⟨hr, hJ, _, rfl, kv, cv, lv, rfl, hkf.le Stays.PR lg, (gcf.le lg).rl, glR.pr⟩)⟩
 have hlt : i < bs.length := lt_t ht
 clear ht
 have hgd : bs.getD i [] = bs[i] := getD_of hlt
 have hbm := List.getElem_mem hlt
 have adi := hkf.addr (P := Try.prog) Try.underlying38 Try.underlying22 (by kernel_rfl) (k := .i64) i hlt
 obtain ⟨u, ldi, hu⟩ := hkf.load' (P := Try.prog) Try.underlying22 rfl i hlt
 generalize bs[i] = b at *
 have hb594 : b.length ≤ 594 := Nat.le_trans (hbl.2 b hbm) h594
 simp only [kS1, bLookup, bMapSet, wantA, isCall, stepOp, evalO, evalL, evalP, evalM, putDst, flat, kA, kB, Nat.reduceLT, ↓reduceIte, kC, Nat.reduceEqDiff, aBuiltin, abinG, guardFree, abin, aInt, aUn, aNilCheck, retQ, retQ1, aresults, aresultL, aresult, mkF, undefV, reduceCtorEq, kD, kE, kF, kG, kH, kI, kJ, kK, aExtract, calleeOf]
 refine KLoop.intro (fun k fr hy => ∃ (j : Nat) (lw : Value), k = cs.length - j ∧ j ≤ cs.length ∧ fr = mkF [(2, .pointer (some ⟨R, 0, none⟩)), (4, .pointer (some ⟨T, 0, none⟩)), (5, .int .i64 i), (6, .int .i64 j)] ∧
   hy.own T = some (.cells [kv, cv, lw]) ∧ hy.own R = some (.cells [.slice none 0 0, .slice none 0 0, .slice none 0 0]) ∧ GP hy lw (linksU bs cs i ++ lkU i b cs j) ∧ blk lw ≠ some T ∧ blk lw ≠ some R ∧ Le f hy ∧ Apart f lw)
  cs.length [(2, .pointer (some ⟨R, 0, none⟩)), (4, .pointer (some ⟨T, 0, none⟩)), (5, .int .i64 i), (6, .int .i64 (0 : Nat))] (by simp only [hasAll, kS1, bLookup, bMapSet, wantA, isCall, stepOp, evalO, evalL, evalP, evalM, putDst, flat, kA, kB, Nat.reduceLT, ↓reduceIte, kC, Nat.reduceEqDiff, aBuiltin, abinG, guardFree, abin, aInt, aUn, aNilCheck, retQ, retQ1, aresults, aresultL, aresult, mkF, undefV, reduceCtorEq, kD, kE, kF, kG, kH, kI, kJ, kK, aExtract, calleeOf]; simp)
  ⟨0, lv, rfl, Nat.zero_le _, rfl, oT, oR, by simpa [lkU] using gl, nlT, nlR, leq, alf⟩ ?_
 clear oT oR gl nlT nlR leq alf lT hwq
 clear hq lv
 rintro k fr hy hwy ⟨j, lw, rfl, hj, rfl, oT, oR, gw, nlT, nlR, ley, alf⟩
 have lT := ldT hy lw gw.pr.isS oT
 simp only [kS1, bLookup, bMapSet, wantA, isCall, stepOp, evalO, evalL, evalP, evalM, putDst, flat, kA, kB, Nat.reduceLT, ↓reduceIte, kC, Nat.reduceEqDiff, aBuiltin, abinG, guardFree, abin, aInt, aUn, aNilCheck, retQ, retQ1, aresults, aresultL, aresult, mkF, undefV, reduceCtorEq, kD, kE, kF, kG, kH, kI, kJ, kK, aExtract, calleeOf, tf1, aadd, Nat.zero_add, lT.2.2.1, lc]
 refine KCond.intro (fun ht => ?_) (fun hf => ?_)
 rotate_left
 ·have hge : cs.length ≤ j := lt_f hf
  obtain rfl : j = cs.length := by omega
  simp only [kS1, bLookup, bMapSet, wantA, isCall, stepOp, evalO, evalL, evalP, evalM, putDst, flat, kA, kB, Nat.reduceLT, ↓reduceIte, kC, Nat.reduceEqDiff, aBuiltin, abinG, guardFree, abin, aInt, aUn, aNilCheck, retQ, retQ1, aresults, aresultL, aresult, mkF, undefV, reduceCtorEq, kD, kE, kF, kG, kH, kI, kJ, kK, aExtract, calleeOf, awrap_succ i (by omega)]
  exact loop_again (bs.length - (i + 1)) [(2, .pointer (some ⟨R, 0, none⟩)), (4, .pointer (some ⟨T, 0, none⟩)), (5, .int .i64 (i + 1 : Nat))] (by omega) (by simp only [hasAll, kS1, bLookup, bMapSet, wantA, isCall, stepOp, evalO, evalL, evalP, evalM, putDst, flat, kA, kB, Nat.reduceLT, ↓reduceIte, kC, Nat.reduceEqDiff, aBuiltin, abinG, guardFree, abin, aInt, aUn, aNilCheck, retQ, retQ1, aresults, aresultL, aresult, mkF, undefV, reduceCtorEq, kD, kE, kF, kG, kH, kI, kJ, kK, aExtract, calleeOf]; simp)
   ⟨i + 1, lw, rfl, hlt, rfl, oT, oR, by rw [linksU_succ, hgd]; exact gw, nlT, nlR, ley, alf⟩
 have hlj : j < cs.length := lt_t ht
 clear ht
 have hmm : j < (nat64 cs).length := by rw [nat64_length]; exact hlj
 have ad := gcf.rl.addr (P := Try.prog) Try.underlying35 Try.underlying3 (by kernel_rfl) (k := .i64) j hmm
 have ld := (gcf.le ley).rl.loadI (P := Try.prog) Try.underlying3 rfl j hmm
 rw [nat64_get hlj] at ld
 have hgj : cs.getD j 0 = cs[j] := getD_of hlj
 have hsucc := lkU_succ i b cs j
 rw [hgj] at hsucc
 have hle : (linksU bs cs i ++ lkU i b cs j).length ≤ 50000 := by
  have h1 := linksU_len bs cs i
  have h2 : i * cs.length ≤ 200 * 200 := Nat.mul_le_mul (by omega) (by omega)
  have h3 := lkU_len i b cs j
  rw [List.length_append]; omega
 generalize cs[j] = c at *
 have ldi' := ldi hy ley
 simp only [kS1, bLookup, bMapSet, wantA, isCall, stepOp, evalO, evalL, evalP, evalM, putDst, flat, kA, kB, Nat.reduceLT, ↓reduceIte, kC, Nat.reduceEqDiff, aBuiltin, abinG, guardFree, abin, aInt, aUn, aNilCheck, retQ, retQ1, aresults, aresultL, aresult, mkF, undefV, reduceCtorEq, kD, kE, kF, kG, kH, kI, kJ, kK, aExtract, calleeOf]
 refine KDraw.intro mixed (.fl 0 (.fl 1 (.fl 2 (.fl 3 (.fl 4 (.fl 5 (.fl 6 (.fl 7 (.fl 8 (.fl 9 (.ch 10 [4, 9] (.done) .no))))))))))) (by kernel_rfl) ?_
 simp only [kS1, bLookup, bMapSet, wantA, isCall, stepOp, evalO, evalL, evalP, evalM, putDst, flat, kA, kB, Nat.reduceLT, ↓reduceIte, kC, Nat.reduceEqDiff, aBuiltin, abinG, guardFree, abin, aInt, aUn, aNilCheck, retQ, retQ1, aresults, aresultL, aresult, mkF, undefV, reduceCtorEq, kD, kE, kF, kG, kH, kI, kJ, kK, aExtract, calleeOf, kD1, Nat.reduceBEq, HoldsAll, kL, kM, kN, kO, tf0, tf1, aadd, Nat.zero_add, lT.2.1, lT.2.2.1, adi, ldi', ad, ld]
 refine KGCall.intro (by simp only [kS1, bLookup, bMapSet, wantA, isCall, stepOp, evalO, evalL, evalP, evalM, putDst, flat, kA, kB, Nat.reduceLT, ↓reduceIte, kC, Nat.reduceEqDiff, aBuiltin, abinG, guardFree, abin, aInt, aUn, aNilCheck, retQ, retQ1, aresults, aresultL, aresult, mkF, undefV, reduceCtorEq, kD, kE, kF, kG, kH, kI, kJ, kK, aExtract, calleeOf] <;> rfl) ⟨Try.func76, rfl, by decide⟩ (BHas_any W0 u b (c : Int) hy (hu.le ley) (by omega)) ?_
 rintro x h10 w10 ⟨rfl, rfl⟩
 simp only [kS1, bLookup, bMapSet, wantA, isCall, stepOp, evalO, evalL, evalP, evalM, putDst, flat, kA, kB, Nat.reduceLT, ↓reduceIte, kC, Nat.reduceEqDiff, aBuiltin, abinG, guardFree, abin, aInt, aUn, aNilCheck, retQ, retQ1, aresults, aresultL, aresult, mkF, undefV, reduceCtorEq, kD, kE, kF, kG, kH, kI, kJ, kK, aExtract, calleeOf, kD1, Nat.reduceBEq, HoldsAll, kL, kM, kN, kO, tf0, tf1, aadd, Nat.zero_add, lT.2.1, lT.2.2.1, adi, ldi', ad, ld]
 cases hat : atB (c : Int) b with
 | false =>
  rw [hat] at hsucc
  simp only [kS1, bLookup, bMapSet, wantA, isCall, stepOp, evalO, evalL, evalP, evalM, putDst, flat, kA, kB, Nat.reduceLT, ↓reduceIte, kC, Nat.reduceEqDiff, aBuiltin, abinG, guardFree, abin, aInt, aUn, aNilCheck, retQ, retQ1, aresults, aresultL, aresult, mkF, undefV, reduceCtorEq, kD, kE, kF, kG, kH, kI, kJ, kK, aExtract, calleeOf, awrap_succ j (by omega)]
  exact loop_again (cs.length - (j + 1)) [(2, .pointer (some ⟨R, 0, none⟩)), (4, .pointer (some ⟨T, 0, none⟩)), (5, .int .i64 i), (6, .int .i64 (j + 1 : Nat))] (by omega) (by simp only [hasAll, kS1, bLookup, bMapSet, wantA, isCall, stepOp, evalO, evalL, evalP, evalM, putDst, flat, kA, kB, Nat.reduceLT, ↓reduceIte, kC, Nat.reduceEqDiff, aBuiltin, abinG, guardFree, abin, aInt, aUn, aNilCheck, retQ, retQ1, aresults, aresultL, aresult, mkF, undefV, reduceCtorEq, kD, kE, kF, kG, kH, kI, kJ, kK, aExtract, calleeOf]; simp)
   ⟨j + 1, lw, rfl, hlj, rfl, oT, oR, by rw [hsucc]; simpa using gw, nlT, nlR, ley, alf⟩
 | true =>
  rw [hat] at hsucc
  obtain ⟨v', g4, g7, q4, q7, gp7, w7', lq4, f7', k7⟩ := gw.push hwy ((i : Int), (j : Int)) (by omega)
  obtain ⟨l7', a7'⟩ := f7' f ley alf
  obtain ⟨oT7', nT7⟩ := k7 T _ oT nlT
  obtain ⟨oR7', nR7⟩ := k7 R _ oR nlR
  have bE' : aBuild Try.prog 45 [(0, .int .i64 (i : Int)), (1, .int .i64 (j : Int))] = some (valP ((i : Int), (j : Int))) := bP2 _ _
  have st := aStore1 (P := Try.prog) (t := 22) (x := v') Try.underlying22 (by kernel_rfl) oT7' (off := 2) (by simp) (by obtain ⟨a, m, k, rfl⟩ := gp7.pr.isS; rfl) gp7.pr.sl.one
  simp only [kS1, bLookup, bMapSet, wantA, isCall, stepOp, evalO, evalL, evalP, evalM, putDst, flat, kA, kB, Nat.reduceLT, ↓reduceIte, kC, Nat.reduceEqDiff, aBuiltin, abinG, guardFree, abin, aInt, aUn, aNilCheck, retQ, retQ1, aresults, aresultL, aresult, mkF, undefV, reduceCtorEq, kD, kE, kF, kG, kH, kI, kJ, kK, aExtract, calleeOf, tf2, aadd, Nat.zero_add, lT.2.2.2, bE', q4, q7, st, awrap_succ j (by omega)]
  refine loop_again (cs.length - (j + 1)) [(2, .pointer (some ⟨R, 0, none⟩)), (4, .pointer (some ⟨T, 0, none⟩)), (5, .int .i64 i), (6, .int .i64 (j + 1 : Nat))] (by omega) (by simp only [hasAll, kS1, bLookup, bMapSet, wantA, isCall, stepOp, evalO, evalL, evalP, evalM, putDst, flat, kA, kB, Nat.reduceLT, ↓reduceIte, kC, Nat.reduceEqDiff, aBuiltin, abinG, guardFree, abin, aInt, aUn, aNilCheck, retQ, retQ1, aresults, aresultL, aresult, mkF, undefV, reduceCtorEq, kD, kE, kF, kG, kH, kI, kJ, kK, aExtract, calleeOf]; simp)
   ⟨j + 1, v', rfl, hlj, rfl, AHeap.own_put_eq _ _ _, by rw [AHeap.own_put_ne _ _ _ _ neRT]; exact oR7', ?_, nT7, nR7, l7'.put _ fT', a7'⟩
  rw [hsucc, ← List.append_assoc]; exact GS.put gp7 _ nT7
end Go.Fw
