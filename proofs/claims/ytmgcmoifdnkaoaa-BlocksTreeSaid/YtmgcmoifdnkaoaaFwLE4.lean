/- A text of the proof. -/
import Derived.Test.YtmgcmoifdnkaoaaFwLE2
set_option linter.unusedSimpArgs false
set_option linter.unusedVariables false
namespace Go.Fw
open Go.Proofs
attribute [local irreducible] KO4 KO3 KO2 KO1 KO KN KX KE VK KCond KDraw KCall KLoop
set_option maxHeartbeats 16000000
set_option maxRecDepth 10000
attribute [local irreducible] lowM bridgesM cutsM blocksM keyE treeM manyM linksU lkU
theorem BlocksTree_law (W0 : Base) (v : Value) (G : GM) (h : AHeap) (hg : GR h v G) : AC Try.prog W0 14 [v] h fun x h' => x = .bool true ∧ True := by
 have hg0 := hg
 obtain ⟨gn, es⟩ := G
 obtain ⟨ev, rfl, hp⟩ := hg.open
 refine AC.vc (fn := Try.f14) (c := _) ⟨Try.func14, rfl, by decide⟩ Try.ntmps14 Try.results14 (by simp) fun hwf => ?_
 simp only [argFrame, argFrom, Nat.reduceAdd]
 obtain ⟨h1, b1, le1, wf1, -, lA⟩ := boxG (n := gn) hwf hp
 generalize h.next = B at *
 have lA1 := lA h1 (Le.refl _)
 simp only [kS1, bLookup, bMapSet, wantA, isCall, stepOp, evalO, evalL, evalP, evalM, putDst, flat, kA, kB, Nat.reduceLT, ↓reduceIte, kC, Nat.reduceEqDiff, aBuiltin, abinG, guardFree, abin, aInt, aUn, aNilCheck, retQ, retQ1, aresults, aresultL, aresult, mkF, undefV, reduceCtorEq, kD, kE, kF, kG, kH, kI, kJ, kK, aExtract, calleeOf, b1, lA1.1]
 refine KCall.intro (by simp only [kS1, bLookup, bMapSet, wantA, isCall, stepOp, evalO, evalL, evalP, evalM, putDst, flat, kA, kB, Nat.reduceLT, ↓reduceIte, kC, Nat.reduceEqDiff, aBuiltin, abinG, guardFree, abin, aInt, aUn, aNilCheck, retQ, retQ1, aresults, aresultL, aresult, mkF, undefV, reduceCtorEq, kD, kE, kF, kG, kH, kI, kJ, kK, aExtract, calleeOf] <;> rfl) ⟨Try.func49, rfl, by decide⟩ (joined_any W0 _ ⟨gn, es⟩ h1 (hg0.le le1)) ?_
 rintro x h2 w2 ⟨⟨bb, rfl, hbb⟩, l2⟩
 cases bb with
 | false =>
  simp only [kS1, bLookup, bMapSet, wantA, isCall, stepOp, evalO, evalL, evalP, evalM, putDst, flat, kA, kB, Nat.reduceLT, ↓reduceIte, kC, Nat.reduceEqDiff, aBuiltin, abinG, guardFree, abin, aInt, aUn, aNilCheck, retQ, retQ1, aresults, aresultL, aresult, mkF, undefV, reduceCtorEq, kD, kE, kF, kG, kH, kI, kJ, kK, aExtract, calleeOf]
  refine KCall.intro (by simp only [kS1, bLookup, bMapSet, wantA, isCall, stepOp, evalO, evalL, evalP, evalM, putDst, flat, kA, kB, Nat.reduceLT, ↓reduceIte, kC, Nat.reduceEqDiff, aBuiltin, abinG, guardFree, abin, aInt, aUn, aNilCheck, retQ, retQ1, aresults, aresultL, aresult, mkF, undefV, reduceCtorEq, kD, kE, kF, kG, kH, kI, kJ, kK, aExtract, calleeOf] <;> rfl) ⟨Try.func41, rfl, by decide⟩ (awake6_any W0 h2) ?_
  rintro x h3 w3 ⟨rfl, l3⟩
  simp only [kS1, bLookup, bMapSet, wantA, isCall, stepOp, evalO, evalL, evalP, evalM, putDst, flat, kA, kB, Nat.reduceLT, ↓reduceIte, kC, Nat.reduceEqDiff, aBuiltin, abinG, guardFree, abin, aInt, aUn, aNilCheck, retQ, retQ1, aresults, aresultL, aresult, mkF, undefV, reduceCtorEq, kD, kE, kF, kG, kH, kI, kJ, kK, aExtract, calleeOf]
  all_goals exact ⟨trivial, trivial⟩
 | true =>
 obtain ⟨hr, h40, hj⟩ := hbb.1 rfl
 clear hbb
 have h0 : 0 ≤ gn := hr.n0
 obtain ⟨n, rfl⟩ := Int.eq_ofNat_of_zero_le h0
 simp only [Int.toNat_natCast] at hj h40
 have hR := hr.inR
 have h594 : es.length ≤ 594 := hr.len
 have le2 := le1.trans l2
 simp only [kS1, bLookup, bMapSet, wantA, isCall, stepOp, evalO, evalL, evalP, evalM, putDst, flat, kA, kB, Nat.reduceLT, ↓reduceIte, kC, Nat.reduceEqDiff, aBuiltin, abinG, guardFree, abin, aInt, aUn, aNilCheck, retQ, retQ1, aresults, aresultL, aresult, mkF, undefV, reduceCtorEq, kD, kE, kF, kG, kH, kI, kJ, kK, aExtract, calleeOf, (lA h2 l2).1]
 refine KCall.intro (by simp only [kS1, bLookup, bMapSet, wantA, isCall, stepOp, evalO, evalL, evalP, evalM, putDst, flat, kA, kB, Nat.reduceLT, ↓reduceIte, kC, Nat.reduceEqDiff, aBuiltin, abinG, guardFree, abin, aInt, aUn, aNilCheck, retQ, retQ1, aresults, aresultL, aresult, mkF, undefV, reduceCtorEq, kD, kE, kF, kG, kH, kI, kJ, kK, aExtract, calleeOf] <;> rfl) ⟨Try.func43, rfl, by decide⟩ (Tree_any W0 _ ⟨(n : Int), es⟩ h2 (hg0.le le2)) ?_
 rintro x h3 w3 ⟨l3, ⟨a, _⟩ | ⟨_, a, _⟩ | ⟨_, _, tv, rfl, ht⟩⟩
 ·exact absurd hr a
 ·exact absurd hj a
 simp only [Int.toNat_natCast] at ht
 have ht0 := ht
 obtain ⟨x1, x2, x3, rfl, r1, r2, r3⟩ := ht
 obtain ⟨h4', h4, a4, s4, l4, w4, L4⟩ := newT w3 r1 r2 r3
 have l24 := l3.trans l4
 simp only [kS1, bLookup, bMapSet, wantA, isCall, stepOp, evalO, evalL, evalP, evalM, putDst, flat, kA, kB, Nat.reduceLT, ↓reduceIte, kC, Nat.reduceEqDiff, aBuiltin, abinG, guardFree, abin, aInt, aUn, aNilCheck, retQ, retQ1, aresults, aresultL, aresult, mkF, undefV, reduceCtorEq, kD, kE, kF, kG, kH, kI, kJ, kK, aExtract, calleeOf, a4, s4, (lA h4 (l2.trans l24)).1]
 generalize h3.next = P1 at *
 have le4 := le2.trans l24
 refine KCall.intro (by simp only [kS1, bLookup, bMapSet, wantA, isCall, stepOp, evalO, evalL, evalP, evalM, putDst, flat, kA, kB, Nat.reduceLT, ↓reduceIte, kC, Nat.reduceEqDiff, aBuiltin, abinG, guardFree, abin, aInt, aUn, aNilCheck, retQ, retQ1, aresults, aresultL, aresult, mkF, undefV, reduceCtorEq, kD, kE, kF, kG, kH, kI, kJ, kK, aExtract, calleeOf] <;> rfl) ⟨Try.func25, rfl, by decide⟩ (Blocks_any W0 _ ⟨(n : Int), es⟩ h4 (hg0.le le4)) ?_
 rintro x h5 w5 ⟨l5, ⟨a, _⟩ | ⟨_, bv, rfl, hb⟩⟩
 ·exact absurd hr a
 simp only [Int.toNat_natCast] at hb
 simp only [kS1, bLookup, bMapSet, wantA, isCall, stepOp, evalO, evalL, evalP, evalM, putDst, flat, kA, kB, Nat.reduceLT, ↓reduceIte, kC, Nat.reduceEqDiff, aBuiltin, abinG, guardFree, abin, aInt, aUn, aNilCheck, retQ, retQ1, aresults, aresultL, aresult, mkF, undefV, reduceCtorEq, kD, kE, kF, kG, kH, kI, kJ, kK, aExtract, calleeOf, (lA h5 ((l2.trans l24).trans l5)).1]
 refine KCall.intro (by simp only [kS1, bLookup, bMapSet, wantA, isCall, stepOp, evalO, evalL, evalP, evalM, putDst, flat, kA, kB, Nat.reduceLT, ↓reduceIte, kC, Nat.reduceEqDiff, aBuiltin, abinG, guardFree, abin, aInt, aUn, aNilCheck, retQ, retQ1, aresults, aresultL, aresult, mkF, undefV, reduceCtorEq, kD, kE, kF, kG, kH, kI, kJ, kK, aExtract, calleeOf] <;> rfl) ⟨Try.func23, rfl, by decide⟩ (Cuts_any W0 _ ⟨(n : Int), es⟩ h5 (hg0.le (le4.trans l5))) ?_
 rintro x h6 w6 ⟨l6, ⟨a, _⟩ | ⟨_, cv, rfl, hc, _⟩⟩
 ·exact absurd hr a
 simp only [Int.toNat_natCast] at hc
 have l46 := l5.trans l6
 have F6 := L4 h6 l46
 have hb6 := hb.le Stays.PR l6
 have K := treeM_lk hr hj
 have hbn := blocks_le_n hR
 have hcn := cuts_le_n n es
 have hbl := blocksM_len' n es
 have hsub : ∀ b ∈ blocksM n es, b.length ≤ 100000 := fun b hb => by have := hbl.2 b hb; omega
 have tb : (treeM n es).bs = blocksM n es := by rw [treeM_def]
 have tc : (treeM n es).cs = nat64 (cutsM n es) := by rw [treeM_def]
 have tl : (treeM n es).ls = linksU (blocksM n es) (cutsM n es) (blocksM n es).length := by rw [treeM_def]
 have R1 := (r1.le Stays.PR l4).le Stays.PR l46
 have R2 := (r2.le Stays.isI l4).le Stays.isI l46
 have R3 := (r3.le l4).le l46
 rw [tb] at R1; rw [tc] at R2; rw [tl] at R3
 have K2 := K
 rw [tl] at K2
 have hKl := K2.len
 have d0 : decide ((0 : Int) = 0) = true := by decide
 simp only [kS1, bLookup, bMapSet, wantA, isCall, stepOp, evalO, evalL, evalP, evalM, putDst, flat, kA, kB, Nat.reduceLT, ↓reduceIte, kC, Nat.reduceEqDiff, aBuiltin, abinG, guardFree, abin, aInt, aUn, aNilCheck, retQ, retQ1, aresults, aresultL, aresult, mkF, undefV, reduceCtorEq, kD, kE, kF, kG, kH, kI, kJ, kK, aExtract, calleeOf, wr0, d0, bne, tf0, aadd, Nat.zero_add, F6.2.1]
 refine KCall.intro (by simp only [kS1, bLookup, bMapSet, wantA, isCall, stepOp, evalO, evalL, evalP, evalM, putDst, flat, kA, kB, Nat.reduceLT, ↓reduceIte, kC, Nat.reduceEqDiff, aBuiltin, abinG, guardFree, abin, aInt, aUn, aNilCheck, retQ, retQ1, aresults, aresultL, aresult, mkF, undefV, reduceCtorEq, kD, kE, kF, kG, kH, kI, kJ, kK, aExtract, calleeOf] <;> rfl) ⟨Try.func28, rfl, by decide⟩ (SamePairLists_any W0 x1 bv _ _ h6 R1 hb6 (by omega) hsub) ?_
 rintro x h7 w7 ⟨rfl, rfl⟩
 have d1 : decide (blocksM n es = blocksM n es) = true := by simp
 simp only [kS1, bLookup, bMapSet, wantA, isCall, stepOp, evalO, evalL, evalP, evalM, putDst, flat, kA, kB, Nat.reduceLT, ↓reduceIte, kC, Nat.reduceEqDiff, aBuiltin, abinG, guardFree, abin, aInt, aUn, aNilCheck, retQ, retQ1, aresults, aresultL, aresult, mkF, undefV, reduceCtorEq, kD, kE, kF, kG, kH, kI, kJ, kK, aExtract, calleeOf, d1, tf1, aadd, Nat.zero_add, F6.2.2.1]
 refine KCall.intro (by simp only [kS1, bLookup, bMapSet, wantA, isCall, stepOp, evalO, evalL, evalP, evalM, putDst, flat, kA, kB, Nat.reduceLT, ↓reduceIte, kC, Nat.reduceEqDiff, aBuiltin, abinG, guardFree, abin, aInt, aUn, aNilCheck, retQ, retQ1, aresults, aresultL, aresult, mkF, undefV, reduceCtorEq, kD, kE, kF, kG, kH, kI, kJ, kK, aExtract, calleeOf] <;> rfl) ⟨Try.func27, rfl, by decide⟩ (SameInts_any W0 x2 cv _ _ h7 R2 hc.rl (by rw [nat64_length]; omega)) ?_
 rintro x h8 w8 ⟨rfl, rfl⟩
 have d2 : decide (nat64 (cutsM n es) = nat64 (cutsM n es)) = true := by simp
 have lc := fun g => hc.rl.len (P := Try.prog) Try.underlying35 g
 rw [nat64_length] at lc
 have lb := fun g => hb6.len (P := Try.prog) Try.underlying38 g
 have ll := fun g => R3.len g
 obtain ⟨h9, e9, l9, w9, o9⟩ := alloc_f w8 (List.replicate (cutsM n es).length (.int .i64 0))
 have mk := mk35 h8 (cutsM n es).length (by omega)
 rw [e9] at mk
 have nM : h8.own h8.next = none := (Le.refl h8).next w8 (Nat.le_refl _)
 simp only [kS1, bLookup, bMapSet, wantA, isCall, stepOp, evalO, evalL, evalP, evalM, putDst, flat, kA, kB, Nat.reduceLT, ↓reduceIte, kC, Nat.reduceEqDiff, aBuiltin, abinG, guardFree, abin, aInt, aUn, aNilCheck, retQ, retQ1, aresults, aresultL, aresult, mkF, undefV, reduceCtorEq, kD, kE, kF, kG, kH, kI, kJ, kK, aExtract, calleeOf, d2, lc, mk, lb]
 have gM : GI h9 (.slice (some ⟨h8.next, 0, none⟩) (cutsM n es).length (cutsM n es).length) (manyM (blocksM n es) (cutsM n es) 0 0) := by
  rw [many_zero]
  have := GS.full (k := 1) (n := (cutsM n es).length) (c := List.replicate (cutsM n es).length (.int .i64 0)) o9 (by simp) (by omega)
  show GS 1 _ _ _ _
  simpa [I64] using this
 generalize hmv : Value.slice (some ⟨h8.next, 0, none⟩) (cutsM n es).length (cutsM n es).length = mv at *
 have aM : Apart h8 mv := by subst hmv; intro b hb; injection hb with hb; subst hb; exact nM
 generalize h8.next = M at *
 have hbc : ∀ hq, Le h8 hq → RL PR hq bv (blocksM n es) ∧ RL isI hq cv (nat64 (cutsM n es)) ∧ PR hq x3 (linksU (blocksM n es) (cutsM n es) (blocksM n es).length) := fun hq lq => ⟨hb6.le Stays.PR lq, (hc.rl).le Stays.isI lq, R3.le lq⟩
 have hLK : ∀ (i : Nat), (linksU (blocksM n es) (cutsM n es) i).length ≤ i * (cutsM n es).length := linksU_len _ _
 refine KLoop.intro (fun k fr hq => ∃ (i : Nat), k = (blocksM n es).length - i ∧ i ≤ (blocksM n es).length ∧ fr = mkF [(3, .pointer (some ⟨P1, 0, none⟩)), (5, bv), (7, cv), (9, mv), (10, .int .i64 (linksU (blocksM n es) (cutsM n es) i).length), (60, .int .i64 (blocksM n es).length), (61, .int .i64 i)] ∧
   GI hq mv (manyM (blocksM n es) (cutsM n es) i 0) ∧ Le h8 hq)
  (blocksM n es).length [(3, .pointer (some ⟨P1, 0, none⟩)), (5, bv), (7, cv), (9, mv), (10, .int .i64 (0 : Nat)), (60, .int .i64 (blocksM n es).length), (61, .int .i64 (0 : Nat))] (by simp only [hasAll, kS1, bLookup, bMapSet, wantA, isCall, stepOp, evalO, evalL, evalP, evalM, putDst, flat, kA, kB, Nat.reduceLT, ↓reduceIte, kC, Nat.reduceEqDiff, aBuiltin, abinG, guardFree, abin, aInt, aUn, aNilCheck, retQ, retQ1, aresults, aresultL, aresult, mkF, undefV, reduceCtorEq, kD, kE, kF, kG, kH, kI, kJ, kK, aExtract, calleeOf]; simp)
  ⟨0, rfl, Nat.zero_le _, by rw [show (linksU (blocksM n es) (cutsM n es) 0).length = 0 from by unfold linksU; rfl], gM, l9⟩ ?_
 clear gM
 rintro k fr hq hwq ⟨i, rfl, hi, rfl, gM, lq⟩
 simp only [kS1, bLookup, bMapSet, wantA, isCall, stepOp, evalO, evalL, evalP, evalM, putDst, flat, kA, kB, Nat.reduceLT, ↓reduceIte, kC, Nat.reduceEqDiff, aBuiltin, abinG, guardFree, abin, aInt, aUn, aNilCheck, retQ, retQ1, aresults, aresultL, aresult, mkF, undefV, reduceCtorEq, kD, kE, kF, kG, kH, kI, kJ, kK, aExtract, calleeOf]
 refine KCond.intro (fun ht => ?_) (fun hf => ?_)
 ·have hlt : i < (blocksM n es).length := lt_t ht
  clear ht
  simp only [kS1, bLookup, bMapSet, wantA, isCall, stepOp, evalO, evalL, evalP, evalM, putDst, flat, kA, kB, Nat.reduceLT, ↓reduceIte, kC, Nat.reduceEqDiff, aBuiltin, abinG, guardFree, abin, aInt, aUn, aNilCheck, retQ, retQ1, aresults, aresultL, aresult, mkF, undefV, reduceCtorEq, kD, kE, kF, kG, kH, kI, kJ, kK, aExtract, calleeOf, lc]
  have hz : (lkU i ((blocksM n es).getD i []) (cutsM n es) 0).length = 0 := by unfold lkU; rfl
  refine KLoop.intro (fun k fr hq => ∃ (j : Nat), k = (cutsM n es).length - j ∧ j ≤ (cutsM n es).length ∧ fr = mkF [(3, .pointer (some ⟨P1, 0, none⟩)), (5, bv), (7, cv), (9, mv), (10, .int .i64 ((linksU (blocksM n es) (cutsM n es) i).length + (lkU i ((blocksM n es).getD i []) (cutsM n es) j).length : Nat)), (11, .int .i64 i), (60, .int .i64 (blocksM n es).length), (61, .int .i64 i), (65, .int .i64 (cutsM n es).length), (66, .int .i64 j)] ∧
    GI hq mv (manyM (blocksM n es) (cutsM n es) i j) ∧ Le h8 hq)
   (cutsM n es).length [(3, .pointer (some ⟨P1, 0, none⟩)), (5, bv), (7, cv), (9, mv), (10, .int .i64 (linksU (blocksM n es) (cutsM n es) i).length), (11, .int .i64 i), (60, .int .i64 (blocksM n es).length), (61, .int .i64 i), (65, .int .i64 (cutsM n es).length), (66, .int .i64 (0 : Nat))] (by simp only [hasAll, kS1, bLookup, bMapSet, wantA, isCall, stepOp, evalO, evalL, evalP, evalM, putDst, flat, kA, kB, Nat.reduceLT, ↓reduceIte, kC, Nat.reduceEqDiff, aBuiltin, abinG, guardFree, abin, aInt, aUn, aNilCheck, retQ, retQ1, aresults, aresultL, aresult, mkF, undefV, reduceCtorEq, kD, kE, kF, kG, kH, kI, kJ, kK, aExtract, calleeOf]; simp)
   ⟨0, rfl, Nat.zero_le _, by rw [hz, Nat.add_zero], gM, lq⟩ ?_
  clear gM lq hwq
  rintro k fr hq hwq ⟨j, rfl, hjj, rfl, gM, lq⟩
  simp only [kS1, bLookup, bMapSet, wantA, isCall, stepOp, evalO, evalL, evalP, evalM, putDst, flat, kA, kB, Nat.reduceLT, ↓reduceIte, kC, Nat.reduceEqDiff, aBuiltin, abinG, guardFree, abin, aInt, aUn, aNilCheck, retQ, retQ1, aresults, aresultL, aresult, mkF, undefV, reduceCtorEq, kD, kE, kF, kG, kH, kI, kJ, kK, aExtract, calleeOf]
  refine KCond.intro (fun ht => ?_) (fun hf => ?_)
  ·have hjt : j < (cutsM n es).length := lt_t ht
   clear ht
   obtain ⟨B1, B2, B3⟩ := hbc hq lq
   have a71 := B1.addr (P := Try.prog) Try.underlying38 Try.underlying22 (by kernel_rfl) (k := .i64) i hlt
   obtain ⟨u, ld, hu⟩ := B1.load' (P := Try.prog) Try.underlying22 rfl i hlt
   have a75 := B2.addr (P := Try.prog) Try.underlying35 Try.underlying3 (by kernel_rfl) (k := .i64) j (by rw [nat64_length]; exact hjt)
   have l75 : ∀ g, Le hq g → aload Try.prog g 3 (elemAddr cv j) = some (.int .i64 (((cutsM n es).getD j 0 : Nat) : Int)) := fun g lg => by
    have := (B2.le Stays.isI lg).loadI (P := Try.prog) Try.underlying3 rfl j (by rw [nat64_length]; exact hjt)
    rw [nat64_get hjt] at this
    rw [this, getD_of hjt]
   have hbu : (blocksM n es).getD i [] = (blocksM n es)[i] := getD_of hlt
   have hul := hsub _ (List.getElem_mem hlt)
   rw [← hbu] at hu hul
   have ld0 := ld hq (Le.refl _)
   have l75a := l75 hq (Le.refl _)
   simp only [kS1, bLookup, bMapSet, wantA, isCall, stepOp, evalO, evalL, evalP, evalM, putDst, flat, kA, kB, Nat.reduceLT, ↓reduceIte, kC, Nat.reduceEqDiff, aBuiltin, abinG, guardFree, abin, aInt, aUn, aNilCheck, retQ, retQ1, aresults, aresultL, aresult, mkF, undefV, reduceCtorEq, kD, kE, kF, kG, kH, kI, kJ, kK, aExtract, calleeOf]
   refine KDraw.intro mixed (.fl 0 (.fl 1 (.fl 2 (.fl 3 (.fl 4 (.fl 5 (.fl 6 (.fl 7 (.ch 8 [3, 7] (.fl 9 (.done)) .no))))))))) (by kernel_rfl) ?_
   simp only [kS1, bLookup, bMapSet, wantA, isCall, stepOp, evalO, evalL, evalP, evalM, putDst, flat, kA, kB, Nat.reduceLT, ↓reduceIte, kC, Nat.reduceEqDiff, aBuiltin, abinG, guardFree, abin, aInt, aUn, aNilCheck, retQ, retQ1, aresults, aresultL, aresult, mkF, undefV, reduceCtorEq, kD, kE, kF, kG, kH, kI, kJ, kK, aExtract, calleeOf, kD1, Nat.reduceBEq, HoldsAll, kL, kM, kN, kO, a71, ld0, a75, l75a]
   refine KGCall.intro (by simp only [kS1, bLookup, bMapSet, wantA, isCall, stepOp, evalO, evalL, evalP, evalM, putDst, flat, kA, kB, Nat.reduceLT, ↓reduceIte, kC, Nat.reduceEqDiff, aBuiltin, abinG, guardFree, abin, aInt, aUn, aNilCheck, retQ, retQ1, aresults, aresultL, aresult, mkF, undefV, reduceCtorEq, kD, kE, kF, kG, kH, kI, kJ, kK, aExtract, calleeOf] <;> rfl) ⟨Try.func53, rfl, by decide⟩ (has53_any W0 u _ (((cutsM n es).getD j 0 : Nat) : Int) hq hu hul) ?_
   rintro x h10 w10 ⟨rfl, l10⟩
   have ld1 := ld h10 l10
   have l75b := l75 h10 l10
   have gM10 := gM.le l10
   have lq10 := lq.trans l10
   obtain ⟨-, C2, C3⟩ := hbc h10 lq10
   have hll := link_len (blocksM n es) (cutsM n es) hlt (Nat.le_of_lt hjt)
   have hll2 := link_len (blocksM n es) (cutsM n es) hlt (show j + 1 ≤ (cutsM n es).length from hjt)
   have hwj := awrap_succ j (by omega)
   cases hat : atB (((cutsM n es).getD j 0 : Nat) : Int) ((blocksM n es).getD i []) with
   | false =>
    have e1 : (lkU i ((blocksM n es).getD i []) (cutsM n es) (j + 1)).length = (lkU i ((blocksM n es).getD i []) (cutsM n es) j).length := by rw [lkU_succ, if_neg (by rw [hat]; simp), List.append_nil]
    simp only [kS1, bLookup, bMapSet, wantA, isCall, stepOp, evalO, evalL, evalP, evalM, putDst, flat, kA, kB, Nat.reduceLT, ↓reduceIte, kC, Nat.reduceEqDiff, aBuiltin, abinG, guardFree, abin, aInt, aUn, aNilCheck, retQ, retQ1, aresults, aresultL, aresult, mkF, undefV, reduceCtorEq, kD, kE, kF, kG, kH, kI, kJ, kK, aExtract, calleeOf, kD1, Nat.reduceBEq, HoldsAll, kL, kM, kN, kO, a71, ld1, a75, l75b, hwj]
    exact loop_again ((cutsM n es).length - (j + 1)) [(3, .pointer (some ⟨P1, 0, none⟩)), (5, bv), (7, cv), (9, mv), (10, .int .i64 ((linksU (blocksM n es) (cutsM n es) i).length + (lkU i ((blocksM n es).getD i []) (cutsM n es) j).length : Nat)), (11, .int .i64 i), (60, .int .i64 (blocksM n es).length), (61, .int .i64 i), (65, .int .i64 (cutsM n es).length), (66, .int .i64 (j + 1 : Nat))] (sub_step hjt) (by simp only [hasAll, kS1, bLookup, bMapSet, wantA, isCall, stepOp, evalO, evalL, evalP, evalM, putDst, flat, kA, kB, Nat.reduceLT, ↓reduceIte, kC, Nat.reduceEqDiff, aBuiltin, abinG, guardFree, abin, aInt, aUn, aNilCheck, retQ, retQ1, aresults, aresultL, aresult, mkF, undefV, reduceCtorEq, kD, kE, kF, kG, kH, kI, kJ, kK, aExtract, calleeOf]; simp)
     ⟨j + 1, rfl, hjt, by rw [e1]; rfl, by rw [many_step _ _ hjt, if_neg (by rw [hat]; simp)]; exact gM10, lq10⟩
   | true =>
    have e1 : (lkU i ((blocksM n es).getD i []) (cutsM n es) (j + 1)).length = (lkU i ((blocksM n es).getD i []) (cutsM n es) j).length + 1 := by rw [lkU_succ, if_pos hat, List.length_append]; rfl
    rw [e1] at hll2
    have lkh := link_here (blocksM n es) (cutsM n es) hlt hjt hat
    generalize hA : (linksU (blocksM n es) (cutsM n es) i).length = A1 at *
    generalize hL : (lkU i ((blocksM n es).getD i []) (cutsM n es) j).length = L1 at *
    have F10 := L4 h10 (l46.trans lq10)
    have d3 : decide (((A1 + L1 : Nat) : Int) ≥ ((linksU (blocksM n es) (cutsM n es) (blocksM n es).length).length : Int)) = false := decide_eq_false (by omega)
    have a88 := C3.addr (k := .i64) (A1 + L1) (by omega)
    have l88 := C3.load lkh
    have ab := eqP ((i : Int), (j : Int)) ((i : Int), (j : Int))
    simp only [valP] at ab
    have d4 : decide (((i : Int), (j : Int)) = ((i : Int), (j : Int))) = true := by simp
    have hjm : j < (manyM (blocksM n es) (cutsM n es) i j).length := by rw [manyM_length]; exact hjt
    have hmb := many_le (blocksM n es) (cutsM n es) (i := i) (j := j) hjt
    have a99 := gM10.rl.addr (P := Try.prog) Try.underlying35 Try.underlying3 (by kernel_rfl) (k := .i64) j hjm
    have l99 := gM10.rl.loadI (P := Try.prog) Try.underlying3 rfl j hjm
    rw [← getD_of (d := 0) hjm] at l99
    obtain ⟨h11, st, g11, w11, f11, k11⟩ := gM10.store w10 hjm ((manyM (blocksM n es) (cutsM n es) i j).getD j 0 + 1)
    have hwm : awrap .i64 ((manyM (blocksM n es) (cutsM n es) i j).getD j 0 + 1) = (manyM (blocksM n es) (cutsM n es) i j).getD j 0 + 1 := awrap_in _ (by omega) (by omega)
    have hwk := awrap_succ (A1 + L1) (by omega)
    have lq11 := f11 h8 lq10 aM
    simp only [kS1, bLookup, bMapSet, wantA, isCall, stepOp, evalO, evalL, evalP, evalM, putDst, flat, kA, kB, Nat.reduceLT, ↓reduceIte, kC, Nat.reduceEqDiff, aBuiltin, abinG, guardFree, abin, aInt, aUn, aNilCheck, retQ, retQ1, aresults, aresultL, aresult, mkF, undefV, reduceCtorEq, kD, kE, kF, kG, kH, kI, kJ, kK, aExtract, calleeOf, kD1, Nat.reduceBEq, HoldsAll, kL, kM, kN, kO, a71, ld1, a75, l75b, tf2, aadd, Nat.zero_add, F10.2.2.2, ll, d3, a88, l88, build42, valP, ab, d4, hwk, a99, l99, hwm, st, hwj]
    exact loop_again ((cutsM n es).length - (j + 1)) [(3, .pointer (some ⟨P1, 0, none⟩)), (5, bv), (7, cv), (9, mv), (10, .int .i64 (A1 + L1 + 1 : Nat)), (11, .int .i64 i), (60, .int .i64 (blocksM n es).length), (61, .int .i64 i), (65, .int .i64 (cutsM n es).length), (66, .int .i64 (j + 1 : Nat))] (sub_step hjt) (by simp only [hasAll, kS1, bLookup, bMapSet, wantA, isCall, stepOp, evalO, evalL, evalP, evalM, putDst, flat, kA, kB, Nat.reduceLT, ↓reduceIte, kC, Nat.reduceEqDiff, aBuiltin, abinG, guardFree, abin, aInt, aUn, aNilCheck, retQ, retQ1, aresults, aresultL, aresult, mkF, undefV, reduceCtorEq, kD, kE, kF, kG, kH, kI, kJ, kK, aExtract, calleeOf]; simp)
     ⟨j + 1, rfl, hjt, by rw [e1, Nat.add_assoc]; rfl, by rw [many_step _ _ hjt, if_pos hat]; exact g11, lq11⟩
  ·have hge : (cutsM n es).length ≤ j := lt_f hf
   obtain rfl : j = (cutsM n es).length := by omega
   clear hf
   have hwi := awrap_succ i (by omega)
   simp only [kS1, bLookup, bMapSet, wantA, isCall, stepOp, evalO, evalL, evalP, evalM, putDst, flat, kA, kB, Nat.reduceLT, ↓reduceIte, kC, Nat.reduceEqDiff, aBuiltin, abinG, guardFree, abin, aInt, aUn, aNilCheck, retQ, retQ1, aresults, aresultL, aresult, mkF, undefV, reduceCtorEq, kD, kE, kF, kG, kH, kI, kJ, kK, aExtract, calleeOf, hwi]
   exact loop_again ((blocksM n es).length - (i + 1)) [(3, .pointer (some ⟨P1, 0, none⟩)), (5, bv), (7, cv), (9, mv), (10, .int .i64 ((linksU (blocksM n es) (cutsM n es) i).length + (lkU i ((blocksM n es).getD i []) (cutsM n es) (cutsM n es).length).length : Nat)), (60, .int .i64 (blocksM n es).length), (61, .int .i64 (i + 1 : Nat))] (sub_step hlt) (by simp only [hasAll, kS1, bLookup, bMapSet, wantA, isCall, stepOp, evalO, evalL, evalP, evalM, putDst, flat, kA, kB, Nat.reduceLT, ↓reduceIte, kC, Nat.reduceEqDiff, aBuiltin, abinG, guardFree, abin, aInt, aUn, aNilCheck, retQ, retQ1, aresults, aresultL, aresult, mkF, undefV, reduceCtorEq, kD, kE, kF, kG, kH, kI, kJ, kK, aExtract, calleeOf]; simp)
    ⟨i + 1, rfl, hlt, by rw [linksU_succ, List.length_append]; rfl, by rw [many_next _ _ hlt]; exact gM, lq⟩
 have hge : (blocksM n es).length ≤ i := lt_f hf
 obtain rfl : i = (blocksM n es).length := by omega
 clear hf
 have lm := fun g => gM.rl.len (P := Try.prog) Try.underlying35 g
 simp only [kS1, bLookup, bMapSet, wantA, isCall, stepOp, evalO, evalL, evalP, evalM, putDst, flat, kA, kB, Nat.reduceLT, ↓reduceIte, kC, Nat.reduceEqDiff, aBuiltin, abinG, guardFree, abin, aInt, aUn, aNilCheck, retQ, retQ1, aresults, aresultL, aresult, mkF, undefV, reduceCtorEq, kD, kE, kF, kG, kH, kI, kJ, kK, aExtract, calleeOf, lm]
 generalize hMs : manyM (blocksM n es) (cutsM n es) (blocksM n es).length 0 = ms at *
 have hml : ms.length = (cutsM n es).length := by rw [← hMs, manyM_length]
 have hm2 : ∀ x ∈ ms, 2 ≤ x ∧ x ≤ ((blocksM n es).length : Int) := fun x hx => by rw [← hMs] at hx; exact many_two hR hx
 refine KLoop.intro (fun k fr hq' => ∃ (j : Nat), k = ms.length - j ∧ j ≤ ms.length ∧ hq' = hq ∧ fr = mkF [(3, .pointer (some ⟨P1, 0, none⟩)), (10, .int .i64 (linksU (blocksM n es) (cutsM n es) (blocksM n es).length).length), (105, mv), (106, .int .i64 ms.length), (107, .int .i64 j)])
  ms.length [(3, .pointer (some ⟨P1, 0, none⟩)), (10, .int .i64 (linksU (blocksM n es) (cutsM n es) (blocksM n es).length).length), (105, mv), (106, .int .i64 ms.length), (107, .int .i64 (0 : Nat))] (by simp only [hasAll, kS1, bLookup, bMapSet, wantA, isCall, stepOp, evalO, evalL, evalP, evalM, putDst, flat, kA, kB, Nat.reduceLT, ↓reduceIte, kC, Nat.reduceEqDiff, aBuiltin, abinG, guardFree, abin, aInt, aUn, aNilCheck, retQ, retQ1, aresults, aresultL, aresult, mkF, undefV, reduceCtorEq, kD, kE, kF, kG, kH, kI, kJ, kK, aExtract, calleeOf]; simp)
  ⟨0, rfl, Nat.zero_le _, rfl, rfl⟩ ?_
 rintro k fr hq' - ⟨j, rfl, hjj, rfl, rfl⟩
 simp only [kS1, bLookup, bMapSet, wantA, isCall, stepOp, evalO, evalL, evalP, evalM, putDst, flat, kA, kB, Nat.reduceLT, ↓reduceIte, kC, Nat.reduceEqDiff, aBuiltin, abinG, guardFree, abin, aInt, aUn, aNilCheck, retQ, retQ1, aresults, aresultL, aresult, mkF, undefV, reduceCtorEq, kD, kE, kF, kG, kH, kI, kJ, kK, aExtract, calleeOf]
 refine KCond.intro (fun ht => ?_) (fun hf => ?_)
 ·have hjt : j < ms.length := lt_t ht
  clear ht
  have am := gM.rl.addr (P := Try.prog) Try.underlying35 Try.underlying3 (by kernel_rfl) (k := .i64) j hjt
  have lm := gM.rl.loadI (P := Try.prog) Try.underlying3 rfl j hjt
  have h2 := hm2 _ (List.getElem_mem hjt)
  have d5 : decide (ms[j] < 2) = false := decide_eq_false (by omega)
  simp only [kS1, bLookup, bMapSet, wantA, isCall, stepOp, evalO, evalL, evalP, evalM, putDst, flat, kA, kB, Nat.reduceLT, ↓reduceIte, kC, Nat.reduceEqDiff, aBuiltin, abinG, guardFree, abin, aInt, aUn, aNilCheck, retQ, retQ1, aresults, aresultL, aresult, mkF, undefV, reduceCtorEq, kD, kE, kF, kG, kH, kI, kJ, kK, aExtract, calleeOf, am, lm, d5, awrap_succ j (by omega)]
  exact loop_again (ms.length - (j + 1)) [(3, .pointer (some ⟨P1, 0, none⟩)), (10, .int .i64 (linksU (blocksM n es) (cutsM n es) (blocksM n es).length).length), (105, mv), (106, .int .i64 ms.length), (107, .int .i64 (j + 1 : Nat))] (sub_step hjt) (by simp only [hasAll, kS1, bLookup, bMapSet, wantA, isCall, stepOp, evalO, evalL, evalP, evalM, putDst, flat, kA, kB, Nat.reduceLT, ↓reduceIte, kC, Nat.reduceEqDiff, aBuiltin, abinG, guardFree, abin, aInt, aUn, aNilCheck, retQ, retQ1, aresults, aresultL, aresult, mkF, undefV, reduceCtorEq, kD, kE, kF, kG, kH, kI, kJ, kK, aExtract, calleeOf]; simp)
   ⟨j + 1, rfl, hjt, rfl, rfl⟩
 have Fq := L4 hq' (l46.trans lq)
 obtain ⟨-, -, C3⟩ := hbc hq' lq
 simp only [kS1, bLookup, bMapSet, wantA, isCall, stepOp, evalO, evalL, evalP, evalM, putDst, flat, kA, kB, Nat.reduceLT, ↓reduceIte, kC, Nat.reduceEqDiff, aBuiltin, abinG, guardFree, abin, aInt, aUn, aNilCheck, retQ, retQ1, aresults, aresultL, aresult, mkF, undefV, reduceCtorEq, kD, kE, kF, kG, kH, kI, kJ, kK, aExtract, calleeOf, Fq.1]
 refine KCall.intro (by simp only [kS1, bLookup, bMapSet, wantA, isCall, stepOp, evalO, evalL, evalP, evalM, putDst, flat, kA, kB, Nat.reduceLT, ↓reduceIte, kC, Nat.reduceEqDiff, aBuiltin, abinG, guardFree, abin, aInt, aUn, aNilCheck, retQ, retQ1, aresults, aresultL, aresult, mkF, undefV, reduceCtorEq, kD, kE, kF, kG, kH, kI, kJ, kK, aExtract, calleeOf] <;> rfl) ⟨Try.func54, rfl, by decide⟩ (drawn_any W0 (.agg #[x1, x2, x3]) (treeM n es) ((blocksM n es).length + (cutsM n es).length) hq' ((ht0.le l4).le (l46.trans lq)) (by rw [tb]; exact K) (by rw [tb, tc, nat64_length]) (by omega)) ?_
 rintro x h12 w12 ⟨l12, dv, rfl, gd, -⟩
 rw [tb, tl] at gd
 obtain ⟨hOK, hnorm⟩ := edges_new K2 (by omega)
 have hRd := hOK.right
 rw [hnorm] at hRd
 obtain ⟨h13', h13, e13, s13, l13, w13, L13⟩ := newG (n := (((blocksM n es).length + (cutsM n es).length : Nat) : Int)) w12 gd.pr
 have F13 := L13 h13 (Le.refl _)
 have P13 := L4 h13 ((l46.trans lq).trans (l12.trans l13))
 generalize h12.next = D1 at *
 have d6 : decide (((linksU (blocksM n es) (cutsM n es) (blocksM n es).length).length : Int) = ((linksU (blocksM n es) (cutsM n es) (blocksM n es).length).length : Int)) = true := by simp
 simp only [kS1, bLookup, bMapSet, wantA, isCall, stepOp, evalO, evalL, evalP, evalM, putDst, flat, kA, kB, Nat.reduceLT, ↓reduceIte, kC, Nat.reduceEqDiff, aBuiltin, abinG, guardFree, abin, aInt, aUn, aNilCheck, retQ, retQ1, aresults, aresultL, aresult, mkF, undefV, reduceCtorEq, kD, kE, kF, kG, kH, kI, kJ, kK, aExtract, calleeOf, e13, s13, tf2, aadd, Nat.zero_add, P13.2.2.2, ll, d6, F13.1]
 refine KCall.intro (by simp only [kS1, bLookup, bMapSet, wantA, isCall, stepOp, evalO, evalL, evalP, evalM, putDst, flat, kA, kB, Nat.reduceLT, ↓reduceIte, kC, Nat.reduceEqDiff, aBuiltin, abinG, guardFree, abin, aInt, aUn, aNilCheck, retQ, retQ1, aresults, aresultL, aresult, mkF, undefV, reduceCtorEq, kD, kE, kF, kG, kH, kI, kJ, kK, aExtract, calleeOf] <;> rfl) ⟨Try.func50, rfl, by decide⟩ (Parts_any W0 _ ⟨(((blocksM n es).length + (cutsM n es).length : Nat) : Int), sortP (edgesU (blocksM n es).length (linksU (blocksM n es) (cutsM n es) (blocksM n es).length))⟩ h13 ⟨_, rfl, (gd.pr).le l13⟩ hRd) ?_
 rintro pv h14 w14 ⟨gp, l14, -⟩
 have rp := gp.rl (Stays.RL Stays.isI)
 have lp := fun g => rp.len (P := Try.prog) Try.underlying57 g
 have hp1 : ((partsN (((blocksM n es).length + (cutsM n es).length : Nat) : Int).toNat (sortP (edgesU (blocksM n es).length (linksU (blocksM n es) (cutsM n es) (blocksM n es).length))) (((blocksM n es).length + (cutsM n es).length : Nat) : Int).toNat).map nat64).length = 1 := by
  rw [List.length_map, Int.toNat_natCast, partsN, List.length_map]
  refine one_heads (by have := K.n0; omega) fun u hu => con_perm (fun p hp => (sortP_mem _ _).2 hp) (K2.con u hu)
 rw [hp1] at lp
 have F14 := L13 h14 l14
 have P14 := L4 h14 ((l46.trans lq).trans ((l12.trans l13).trans l14))
 have d7 : decide (((1 : Nat) : Int) = 1) = true := by decide
 have hws : awrap .i64 ((((blocksM n es).length + (cutsM n es).length : Nat) : Int) - 1) = ((linksU (blocksM n es) (cutsM n es) (blocksM n es).length).length : Int) := by
  rw [awrap_in _ (by omega) (by omega)]; omega
 simp only [kS1, bLookup, bMapSet, wantA, isCall, stepOp, evalO, evalL, evalP, evalM, putDst, flat, kA, kB, Nat.reduceLT, ↓reduceIte, kC, Nat.reduceEqDiff, aBuiltin, abinG, guardFree, abin, aInt, aUn, aNilCheck, retQ, retQ1, aresults, aresultL, aresult, mkF, undefV, reduceCtorEq, kD, kE, kF, kG, kH, kI, kJ, kK, aExtract, calleeOf, lp, d7, tf2, fg0, aadd, Nat.zero_add, P14.2.2.2, ll, F14.2.1, hws, d6]
 refine KCall.intro (by simp only [kS1, bLookup, bMapSet, wantA, isCall, stepOp, evalO, evalL, evalP, evalM, putDst, flat, kA, kB, Nat.reduceLT, ↓reduceIte, kC, Nat.reduceEqDiff, aBuiltin, abinG, guardFree, abin, aInt, aUn, aNilCheck, retQ, retQ1, aresults, aresultL, aresult, mkF, undefV, reduceCtorEq, kD, kE, kF, kG, kH, kI, kJ, kK, aExtract, calleeOf] <;> rfl) ⟨Try.func41, rfl, by decide⟩ (awake6_any W0 h14) ?_
 rintro x h15 w15 ⟨rfl, l15⟩
 simp only [kS1, bLookup, bMapSet, wantA, isCall, stepOp, evalO, evalL, evalP, evalM, putDst, flat, kA, kB, Nat.reduceLT, ↓reduceIte, kC, Nat.reduceEqDiff, aBuiltin, abinG, guardFree, abin, aInt, aUn, aNilCheck, retQ, retQ1, aresults, aresultL, aresult, mkF, undefV, reduceCtorEq, kD, kE, kF, kG, kH, kI, kJ, kK, aExtract, calleeOf]
 all_goals exact ⟨trivial, trivial⟩
end Go.Fw
