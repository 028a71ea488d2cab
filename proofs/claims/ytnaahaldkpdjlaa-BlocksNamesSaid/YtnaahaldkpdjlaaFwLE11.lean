/- A text of the proof. -/
import Derived.Test.YtnaahaldkpdjlaaFwLE6
import Derived.Test.YtnaahaldkpdjlaaFwLC16
import Derived.Test.YtnaahaldkpdjlaaFwLT16
import Derived.Test.YtnaahaldkpdjlaaFwLW8
import Derived.Test.YtnaahaldkpdjlaaFwLC13
import Derived.Test.YtnaahaldkpdjlaaFwLB8
import Derived.Test.YtnaahaldkpdjlaaFwLT5
set_option linter.unusedSimpArgs false
set_option linter.unusedVariables false
namespace Go.Fw
open Go.Proofs
attribute [local irreducible] KO4 KO3 KO2 KO1 KO KN KX KE VK KCond KDraw KCall KLoop
set_option maxHeartbeats 16000000
set_option maxRecDepth 10000
attribute [local irreducible] lowM bridgesM cutsM blocksM keyE treeM appE
theorem eqTT : aEq Try.prog 4 (.bool true) (.bool true) = some true := by kernel_rfl
theorem eqFF : aEq Try.prog 4 (.bool false) (.bool false) = some true := by kernel_rfl
theorem centV_lt {b c : Nat} (h : c < b) : centV b c = .tuple #[.bool true, .int .i64 (c : Int)] := by rw [centV, if_pos h]
theorem centV_ge {b j : Nat} : centV b (b + j) = .tuple #[.bool false, .int .i64 (j : Int)] := by
 rw [centV, if_neg (by omega)]; congr 2; congr 1; simp only [List.cons.injEq, Value.int.injEq, true_and, and_true]; omega
theorem BlocksNames_law (W0 : Base) (v pv : Value) (G : GM) (ps : List Int) (h : AHeap) (hg : GR h v G) (hp : RL isI h pv ps) : AC Try.prog W0 13 [v, pv] h fun x h' => x = .bool true ∧ True := by
 have hg0 := hg
 obtain ⟨gn, es⟩ := G
 obtain ⟨ev, rfl, hpe⟩ := hg.open
 refine AC.vc (fn := Try.f13) (c := _) ⟨Try.func13, rfl, by decide⟩ Try.ntmps13 Try.results13 (by simp) fun hwf => ?_
 simp only [argFrame, argFrom, Nat.reduceAdd]
 obtain ⟨h1, b1, le1, wf1, -, lA⟩ := boxG (n := gn) hwf hpe
 generalize h.next = B0 at *
 have lA1 := lA h1 (Le.refl _)
 simp only [kS1, bLookup, bMapSet, wantA, isCall, stepOp, evalO, evalL, evalP, evalM, putDst, flat, kA, kB, Nat.reduceLT, ↓reduceIte, kC, Nat.reduceEqDiff, aBuiltin, abinG, guardFree, abin, aInt, aUn, aNilCheck, retQ, retQ1, aresults, aresultL, aresult, mkF, undefV, reduceCtorEq, kD, kE, kF, kG, kH, kI, kJ, kK, aExtract, calleeOf, b1, lA1.1]
 refine KCall.intro (by simp only [kS1, bLookup, bMapSet, wantA, isCall, stepOp, evalO, evalL, evalP, evalM, putDst, flat, kA, kB, Nat.reduceLT, ↓reduceIte, kC, Nat.reduceEqDiff, aBuiltin, abinG, guardFree, abin, aInt, aUn, aNilCheck, retQ, retQ1, aresults, aresultL, aresult, mkF, undefV, reduceCtorEq, kD, kE, kF, kG, kH, kI, kJ, kK, aExtract, calleeOf] <;> rfl) ⟨Try.func20, rfl, by decide⟩ (Apply_any W0 _ pv _ ps h1 (hg0.le le1) (hp.le Stays.isI le1)) ?_
 rintro x h2 w2 ⟨l2, ⟨hno, k, hk0, rfl⟩ | ⟨A, fv, rfl, gf, af⟩⟩
 ·obtain ⟨h3', h3, e3, e3s, l3, w3⟩ := newE w2
  have d : decide (k = 0) = false := decide_eq_false hk0
  simp only [kS1, bLookup, bMapSet, wantA, isCall, stepOp, evalO, evalL, evalP, evalM, putDst, flat, kA, kB, Nat.reduceLT, ↓reduceIte, kC, Nat.reduceEqDiff, aBuiltin, abinG, guardFree, abin, aInt, aUn, aNilCheck, retQ, retQ1, aresults, aresultL, aresult, mkF, undefV, reduceCtorEq, kD, kE, kF, kG, kH, kI, kJ, kK, aExtract, calleeOf, e3, e3s, bne, d]
  refine KCall.intro (by simp only [kS1, bLookup, bMapSet, wantA, isCall, stepOp, evalO, evalL, evalP, evalM, putDst, flat, kA, kB, Nat.reduceLT, ↓reduceIte, kC, Nat.reduceEqDiff, aBuiltin, abinG, guardFree, abin, aInt, aUn, aNilCheck, retQ, retQ1, aresults, aresultL, aresult, mkF, undefV, reduceCtorEq, kD, kE, kF, kG, kH, kI, kJ, kK, aExtract, calleeOf] <;> rfl) ⟨Try.func49, rfl, by decide⟩ (awake6_any W0 h3) ?_
  rintro x h4 w4 ⟨rfl, l4⟩
  simp only [kS1, bLookup, bMapSet, wantA, isCall, stepOp, evalO, evalL, evalP, evalM, putDst, flat, kA, kB, Nat.reduceLT, ↓reduceIte, kC, Nat.reduceEqDiff, aBuiltin, abinG, guardFree, abin, aInt, aUn, aNilCheck, retQ, retQ1, aresults, aresultL, aresult, mkF, undefV, reduceCtorEq, kD, kE, kF, kG, kH, kI, kJ, kK, aExtract, calleeOf]
  all_goals exact ⟨trivial, trivial⟩
 obtain ⟨h3', h3, e3, e3s, l3, w3, lG⟩ := newG w2 (n := gn) gf.pr
 have le3 := l2.trans l3
 have lA3 := lA h3 le3
 have d0 : decide ((0 : Int) = 0) = true := by decide
 simp only [kS1, bLookup, bMapSet, wantA, isCall, stepOp, evalO, evalL, evalP, evalM, putDst, flat, kA, kB, Nat.reduceLT, ↓reduceIte, kC, Nat.reduceEqDiff, aBuiltin, abinG, guardFree, abin, aInt, aUn, aNilCheck, retQ, retQ1, aresults, aresultL, aresult, mkF, undefV, reduceCtorEq, kD, kE, kF, kG, kH, kI, kJ, kK, aExtract, calleeOf, e3, e3s, bne, d0, lA3.1]
 generalize h2.next = Y at *
 refine KCall.intro (by simp only [kS1, bLookup, bMapSet, wantA, isCall, stepOp, evalO, evalL, evalP, evalM, putDst, flat, kA, kB, Nat.reduceLT, ↓reduceIte, kC, Nat.reduceEqDiff, aBuiltin, abinG, guardFree, abin, aInt, aUn, aNilCheck, retQ, retQ1, aresults, aresultL, aresult, mkF, undefV, reduceCtorEq, kD, kE, kF, kG, kH, kI, kJ, kK, aExtract, calleeOf] <;> rfl) ⟨Try.func48, rfl, by decide⟩ (joined_any W0 _ _ h3 (hg0.le (le1.trans le3))) ?_
 rintro x h4 w4 ⟨⟨bb, rfl, hbb⟩, l4⟩
 cases bb with
 | false =>
  simp only [kS1, bLookup, bMapSet, wantA, isCall, stepOp, evalO, evalL, evalP, evalM, putDst, flat, kA, kB, Nat.reduceLT, ↓reduceIte, kC, Nat.reduceEqDiff, aBuiltin, abinG, guardFree, abin, aInt, aUn, aNilCheck, retQ, retQ1, aresults, aresultL, aresult, mkF, undefV, reduceCtorEq, kD, kE, kF, kG, kH, kI, kJ, kK, aExtract, calleeOf]
  refine KCall.intro (by simp only [kS1, bLookup, bMapSet, wantA, isCall, stepOp, evalO, evalL, evalP, evalM, putDst, flat, kA, kB, Nat.reduceLT, ↓reduceIte, kC, Nat.reduceEqDiff, aBuiltin, abinG, guardFree, abin, aInt, aUn, aNilCheck, retQ, retQ1, aresults, aresultL, aresult, mkF, undefV, reduceCtorEq, kD, kE, kF, kG, kH, kI, kJ, kK, aExtract, calleeOf] <;> rfl) ⟨Try.func49, rfl, by decide⟩ (awake6_any W0 h4) ?_
  rintro x h5 w5 ⟨rfl, l5⟩
  simp only [kS1, bLookup, bMapSet, wantA, isCall, stepOp, evalO, evalL, evalP, evalM, putDst, flat, kA, kB, Nat.reduceLT, ↓reduceIte, kC, Nat.reduceEqDiff, aBuiltin, abinG, guardFree, abin, aInt, aUn, aNilCheck, retQ, retQ1, aresults, aresultL, aresult, mkF, undefV, reduceCtorEq, kD, kE, kF, kG, kH, kI, kJ, kK, aExtract, calleeOf]
  all_goals exact ⟨trivial, trivial⟩
 | true =>
 obtain ⟨hr, h40, hj⟩ := hbb.1 rfl
 clear hbb
 have h0 : 0 ≤ gn := hr.n0
 obtain ⟨n, rfl⟩ := Int.eq_ofNat_of_zero_le h0
 simp only [Int.toNat_natCast] at hj h40 gf
 have hln : ps.length = n := by have := A.2.2; simp only at this; omega
 have hK := A.2.1
 have hR := hr.inR
 have h594 : es.length ≤ 594 := hr.len
 have hr2 := A.right
 have I := A.iso
 have hj2 := names_join I hj
 generalize appE ps es = fs at *
 have le4 := le3.trans l4
 simp only [kS1, bLookup, bMapSet, wantA, isCall, stepOp, evalO, evalL, evalP, evalM, putDst, flat, kA, kB, Nat.reduceLT, ↓reduceIte, kC, Nat.reduceEqDiff, aBuiltin, abinG, guardFree, abin, aInt, aUn, aNilCheck, retQ, retQ1, aresults, aresultL, aresult, mkF, undefV, reduceCtorEq, kD, kE, kF, kG, kH, kI, kJ, kK, aExtract, calleeOf, (lA h4 le4).1]
 refine KCall.intro (by simp only [kS1, bLookup, bMapSet, wantA, isCall, stepOp, evalO, evalL, evalP, evalM, putDst, flat, kA, kB, Nat.reduceLT, ↓reduceIte, kC, Nat.reduceEqDiff, aBuiltin, abinG, guardFree, abin, aInt, aUn, aNilCheck, retQ, retQ1, aresults, aresultL, aresult, mkF, undefV, reduceCtorEq, kD, kE, kF, kG, kH, kI, kJ, kK, aExtract, calleeOf] <;> rfl) ⟨Try.func50, rfl, by decide⟩ (Tree_any W0 _ ⟨(n : Int), es⟩ h4 (hg0.le (le1.trans le4))) ?_
 rintro x h5 w5 ⟨l5, ⟨a, _⟩ | ⟨_, a, _⟩ | ⟨_, _, tv, rfl, ht⟩⟩
 ·exact absurd hr a
 ·exact absurd hj a
 simp only [Int.toNat_natCast] at ht
 have ht0 := ht
 obtain ⟨x1, x2, x3, rfl, r1, r2, r3⟩ := ht
 obtain ⟨h6', h6, a6, s6, l6, w6, L6⟩ := newT w5 r1 r2 r3
 generalize h5.next = P1 at *
 have l46 := (l4.trans l5).trans l6
 simp only [kS1, bLookup, bMapSet, wantA, isCall, stepOp, evalO, evalL, evalP, evalM, putDst, flat, kA, kB, Nat.reduceLT, ↓reduceIte, kC, Nat.reduceEqDiff, aBuiltin, abinG, guardFree, abin, aInt, aUn, aNilCheck, retQ, retQ1, aresults, aresultL, aresult, mkF, undefV, reduceCtorEq, kD, kE, kF, kG, kH, kI, kJ, kK, aExtract, calleeOf, a6, s6, (lG h6 l46).1]
 refine KCall.intro (by simp only [kS1, bLookup, bMapSet, wantA, isCall, stepOp, evalO, evalL, evalP, evalM, putDst, flat, kA, kB, Nat.reduceLT, ↓reduceIte, kC, Nat.reduceEqDiff, aBuiltin, abinG, guardFree, abin, aInt, aUn, aNilCheck, retQ, retQ1, aresults, aresultL, aresult, mkF, undefV, reduceCtorEq, kD, kE, kF, kG, kH, kI, kJ, kK, aExtract, calleeOf] <;> rfl) ⟨Try.func50, rfl, by decide⟩ (Tree_any W0 _ ⟨(n : Int), fs⟩ h6 ⟨fv, rfl, (gf.pr.le l3).le l46⟩) ?_
 rintro x h7 w7 ⟨l7, ⟨a, _⟩ | ⟨_, a, _⟩ | ⟨_, _, uv, rfl, hu⟩⟩
 ·exact absurd hr2 a
 ·exact absurd hj2 a
 simp only [Int.toNat_natCast] at hu
 have hu0 := hu
 obtain ⟨y1, y2, y3, rfl, q1, q2, q3⟩ := hu
 obtain ⟨h8', h8, a8, s8, l8, w8, L8⟩ := newT w7 q1 q2 q3
 generalize h7.next = P2 at *
 have l68 := l7.trans l8
 simp only [kS1, bLookup, bMapSet, wantA, isCall, stepOp, evalO, evalL, evalP, evalM, putDst, flat, kA, kB, Nat.reduceLT, ↓reduceIte, kC, Nat.reduceEqDiff, aBuiltin, abinG, guardFree, abin, aInt, aUn, aNilCheck, retQ, retQ1, aresults, aresultL, aresult, mkF, undefV, reduceCtorEq, kD, kE, kF, kG, kH, kI, kJ, kK, aExtract, calleeOf, a8, s8, (L6 h8 l68).1]
 have K := treeM_lk hr hj
 have K2 := treeM_lk hr2 hj2
 have hbe := I.blocks
 have hce := I.cuts
 rw [← hbe, ← hce] at K2
 have tb : (treeM n es).bs = blocksM n es := by rw [treeM_def]
 have tc : (treeM n es).cs = nat64 (cutsM n es) := by rw [treeM_def]
 have tb2 : (treeM n fs).bs = blocksM n fs := by rw [treeM_def]
 have tc2 : (treeM n fs).cs = nat64 (cutsM n fs) := by rw [treeM_def]
 have hbn := blocks_le_n hR
 have hcn := cuts_le_n n es
 have Kl := K.len
 have Kl2 := K2.len
 refine KCall.intro (by simp only [kS1, bLookup, bMapSet, wantA, isCall, stepOp, evalO, evalL, evalP, evalM, putDst, flat, kA, kB, Nat.reduceLT, ↓reduceIte, kC, Nat.reduceEqDiff, aBuiltin, abinG, guardFree, abin, aInt, aUn, aNilCheck, retQ, retQ1, aresults, aresultL, aresult, mkF, undefV, reduceCtorEq, kD, kE, kF, kG, kH, kI, kJ, kK, aExtract, calleeOf] <;> rfl) ⟨Try.func52, rfl, by decide⟩ (Centre_any W0 (.agg #[x1, x2, x3]) (treeM n es) h8 ((ht0.le l6).le l68) ((blocksM n es).length + (cutsM n es).length) (by rw [tb, tc, nat64_length]) (by omega) (by omega)) ?_
 rintro x h9 w9 ⟨l9, ⟨hn, _⟩ | ⟨_, rfl⟩⟩
 ·rw [tb] at hn; exact absurd K hn
 obtain ⟨c, hc⟩ : ∃ c, cenM (treeM n es).bs.length ((blocksM n es).length + (cutsM n es).length) (treeM n es).ls = c := ⟨_, rfl⟩
 obtain ⟨c', hc'⟩ : ∃ c, cenM (treeM n fs).bs.length ((blocksM n es).length + (cutsM n es).length) (treeM n fs).ls = c := ⟨_, rfl⟩
 have hN := names_centre I hr hr2 hj hj2 rfl (c := c) (c' := c') (by rw [← hc, tb]; rfl) (by rw [← hc', tb2]; rfl)
 rw [hc, tb]
 have lp := fun g (lg : Le h3 g) => (hp.le Stays.isI (le1.trans le3)).le Stays.isI lg
 have M8 := fun g (lg : Le h8 g) => L8 g lg
 have M6 := fun g (lg : Le h8 g) => L6 g (l68.trans lg)
 have bx := fun g (lg : Le h8 g) => ((r1.le Stays.PR l6).le Stays.PR l68).le Stays.PR lg
 have by_ := fun g (lg : Le h8 g) => (q1.le Stays.PR l8).le Stays.PR lg
 have cx := fun g (lg : Le h8 g) => ((r2.le Stays.isI l6).le Stays.isI l68).le Stays.isI lg
 have cy := fun g (lg : Le h8 g) => (q2.le Stays.isI l8).le Stays.isI lg
 have lx1 := fun g => r1.len (P := Try.prog) Try.underlying28 g
 have lx2 := fun g => r2.len (P := Try.prog) Try.underlying38 g
 have lx3 := fun g => r3.len g
 have ly1 := fun g => q1.len (P := Try.prog) Try.underlying28 g
 have ly2 := fun g => q2.len (P := Try.prog) Try.underlying38 g
 have ly3 := fun g => q3.len g
 rw [tb] at lx1 bx
 rw [tc, nat64_length] at lx2
 rw [tc] at cx
 rw [tb2, ← hbe] at ly1
 rw [tb2] at by_
 rw [tc2, nat64_length, ← hce] at ly2
 rw [tc2] at cy
 have hl3 : (treeM n fs).ls.length = (treeM n es).ls.length := by omega
 rw [hl3] at ly3
 have dd : ∀ z : Nat, decide ((z : Int) = (z : Int)) = true := fun z => by simp
 have dn : ∀ z : Nat, decide ((z : Int) < 0) = false := fun z => decide_eq_false (by omega)
 have M89 := (M8 h9 l9).1
 rcases hN with ⟨b, b', p, hb, hb', hp1, hp2⟩ | ⟨j, k, cu, rfl, rfl, hj1, hk1⟩
 ·have lc : c < (blocksM n es).length := (List.getElem?_eq_some_iff.1 hb).1
  have lc' : c' < (blocksM n es).length := by rw [hbe]; exact (List.getElem?_eq_some_iff.1 hb').1
  rw [centV_lt lc]
  simp only [kS1, bLookup, bMapSet, wantA, isCall, stepOp, evalO, evalL, evalP, evalM, putDst, flat, kA, kB, Nat.reduceLT, ↓reduceIte, kC, Nat.reduceEqDiff, aBuiltin, abinG, guardFree, abin, aInt, aUn, aNilCheck, retQ, retQ1, aresults, aresultL, aresult, mkF, undefV, reduceCtorEq, kD, kE, kF, kG, kH, kI, kJ, kK, aExtract, calleeOf, M89]
  refine KCall.intro (by simp only [kS1, bLookup, bMapSet, wantA, isCall, stepOp, evalO, evalL, evalP, evalM, putDst, flat, kA, kB, Nat.reduceLT, ↓reduceIte, kC, Nat.reduceEqDiff, aBuiltin, abinG, guardFree, abin, aInt, aUn, aNilCheck, retQ, retQ1, aresults, aresultL, aresult, mkF, undefV, reduceCtorEq, kD, kE, kF, kG, kH, kI, kJ, kK, aExtract, calleeOf] <;> rfl) ⟨Try.func52, rfl, by decide⟩ (Centre_any W0 (.agg #[y1, y2, y3]) (treeM n fs) h9 ((hu0.le l8).le l9) ((blocksM n es).length + (cutsM n es).length) (by rw [tb2, tc2, nat64_length, hbe, hce]) (by omega) (by omega)) ?_
  rintro x h10 w10 ⟨l10, ⟨hn, _⟩ | ⟨_, rfl⟩⟩
  ·rw [tb2, ← hbe] at hn; exact absurd K2 hn
  rw [hc', tb2, ← hbe, centV_lt lc']
  have l810 := l9.trans l10
  have A10 := M8 h10 l810
  have B10 := M6 h10 l810
  have e1 : decide ((c : Int) ≥ ((blocksM n es).length : Int)) = false := decide_eq_false (by omega)
  have e2 : decide ((c' : Int) ≥ ((blocksM n es).length : Int)) = false := decide_eq_false (by omega)
  have BX := bx h10 l810
  have BY := by_ h10 l810
  have ac := BX.addr (P := Try.prog) Try.underlying28 Try.underlying22 (by kernel_rfl) (k := .i64) c lc
  obtain ⟨bv, lb, hbv⟩ := BX.load (P := Try.prog) Try.underlying22 rfl c lc
  have ac' := BY.addr (P := Try.prog) Try.underlying28 Try.underlying22 (by kernel_rfl) (k := .i64) c' (by rw [← hbe]; exact lc')
  obtain ⟨bv', lb', hbv'⟩ := BY.load' (P := Try.prog) Try.underlying22 rfl c' (by rw [← hbe]; exact lc')
  have g1 : (blocksM n es)[c] = b := by rw [List.getElem?_eq_getElem lc] at hb; injection hb
  have g2 : (blocksM n fs)[c']'(by rw [← hbe]; exact lc') = b' := by rw [List.getElem?_eq_getElem (by rw [← hbe]; exact lc')] at hb'; injection hb'
  rw [g1] at hbv
  rw [g2] at hbv'
  have lbl := fun g => hbv.len g
  have lbl' := fun g => hbv'.len g
  have hbl : b'.length = b.length := by
   obtain ⟨kk, _, hkb⟩ := block_key hb
   obtain ⟨kk', _, hkb'⟩ := block_key hb'
   have z1 : keyE n es p = kk := by rw [hkb] at hp1; simpa using (List.mem_filter.1 hp1).2
   have z2 : keyE n fs (mapE (permF ps) p) = kk' := by rw [hkb'] at hp2; simpa using (List.mem_filter.1 hp2).2
   have := I.block_len hr.asc.nodup hr2.asc.nodup (block_at hb hp1)
   rw [hkb, hkb', ← z1, ← z2]; exact this
  rw [hbl] at lbl'
  have lb0 := lb' h10 (Le.refl _)
  simp only [kS1, bLookup, bMapSet, wantA, isCall, stepOp, evalO, evalL, evalP, evalM, putDst, flat, kA, kB, Nat.reduceLT, ↓reduceIte, kC, Nat.reduceEqDiff, aBuiltin, abinG, guardFree, abin, aInt, aUn, aNilCheck, retQ, retQ1, aresults, aresultL, aresult, mkF, undefV, reduceCtorEq, kD, kE, kF, kG, kH, kI, kJ, kK, aExtract, calleeOf, wr0, d0, bne, eqTT, eqFF, A10.2.1, A10.2.2.1, A10.2.2.2, B10.2.1, B10.2.2.1, B10.2.2.2, tf0, tf1, tf2, aadd, Nat.zero_add, lx1, lx2, lx3, ly1, ly2, ly3, dd, dn]
  refine KDraw.intro mixed (.fl 0 (.fl 1 (.fl 2 (.fl 3 (.fl 4 (.fl 5 (.fl 6 (.fl 7 (.fl 8 (.fl 9 (.fl 10 (.fl 11 (.fl 12 (.fl 13 (.fl 14 (.fl 15 (.fl 16 (.fl 17 (.fl 18 (.fl 19 (.fl 20 (.fl 21 (.fl 22 (.fl 23 (.fl 24 (.fl 25 (.fl 26 (.done)))))))))))))))))))))))))))) (by kernel_rfl) ?_
  simp only [kS1, bLookup, bMapSet, wantA, isCall, stepOp, evalO, evalL, evalP, evalM, putDst, flat, kA, kB, Nat.reduceLT, ↓reduceIte, kC, Nat.reduceEqDiff, aBuiltin, abinG, guardFree, abin, aInt, aUn, aNilCheck, retQ, retQ1, aresults, aresultL, aresult, mkF, undefV, reduceCtorEq, kD, kE, kF, kG, kH, kI, kJ, kK, aExtract, calleeOf, kD1, Nat.reduceBEq, HoldsAll, kL, kM, kN, kO, bne, A10.2.1, B10.2.1, tf0, aadd, Nat.zero_add, lx1, ly1, e1, e2, ac, lb, ac', lb0, lbl, lbl', dd]
  have hsub : ∀ q ∈ b, q ∈ es := fun q hq => block_at hb hq
  have hbn2 : b.length ≤ 594 := by have := (blocksM_len' n es).2 b (List.mem_of_getElem? hb); omega
  refine KLoop.intro (fun k fr hq => ∃ (i : Nat), k = b.length - i ∧ i ≤ b.length ∧ fr = mkF [(1, pv), (8, .pointer (some ⟨P2, 0, none⟩)), (13, .int .i64 (c' : Int)), (160, bv), (161, .int .i64 b.length), (162, .int .i64 i)] ∧ Le h10 hq)
   b.length [(1, pv), (8, .pointer (some ⟨P2, 0, none⟩)), (13, .int .i64 (c' : Int)), (160, bv), (161, .int .i64 b.length), (162, .int .i64 (0 : Nat))] (by simp only [hasAll, kS1, bLookup, bMapSet, wantA, isCall, stepOp, evalO, evalL, evalP, evalM, putDst, flat, kA, kB, Nat.reduceLT, ↓reduceIte, kC, Nat.reduceEqDiff, aBuiltin, abinG, guardFree, abin, aInt, aUn, aNilCheck, retQ, retQ1, aresults, aresultL, aresult, mkF, undefV, reduceCtorEq, kD, kE, kF, kG, kH, kI, kJ, kK, aExtract, calleeOf]; simp) ⟨0, rfl, Nat.zero_le _, rfl, Le.refl _⟩ ?_
  rintro k fr hq hwq ⟨i, rfl, hi, rfl, lq⟩
  simp only [kS1, bLookup, bMapSet, wantA, isCall, stepOp, evalO, evalL, evalP, evalM, putDst, flat, kA, kB, Nat.reduceLT, ↓reduceIte, kC, Nat.reduceEqDiff, aBuiltin, abinG, guardFree, abin, aInt, aUn, aNilCheck, retQ, retQ1, aresults, aresultL, aresult, mkF, undefV, reduceCtorEq, kD, kE, kF, kG, kH, kI, kJ, kK, aExtract, calleeOf]
  refine KCond.intro (fun ht => ?_) (fun hf => ?_)
  ·have hlt : i < b.length := lt_t ht
   clear ht
   have hqi := getElem?_of hlt
   generalize b[i] = q at hqi
   have hqb : q ∈ b := List.mem_of_getElem? hqi
   have hqe := hsub q hqb
   have ad := hbv.addr (k := .i64) i hlt
   have ld := (hbv.le lq).load hqi
   obtain ⟨h11', h11, a11, s11, l11, w11, o11⟩ := new42 hwq q
   generalize hq.next = E at *
   have m0 := own0 o11
   have m1 := own1 o11
   obtain ⟨a, d, rfl, had, hdn, _⟩ := ends hR hqe
   have LP := lp h11 ((l46.trans l68).trans ((l9.trans l10).trans (lq.trans l11)))
   have pa := LP.addr (P := Try.prog) Try.underlying38 Try.underlying3 (by kernel_rfl) (k := .i64) a (by omega)
   have pl := LP.loadI (P := Try.prog) Try.underlying3 rfl a (by omega)
   have pd := LP.addr (P := Try.prog) Try.underlying38 Try.underlying3 (by kernel_rfl) (k := .i64) d (by omega)
   have pk := LP.loadI (P := Try.prog) Try.underlying3 rfl d (by omega)
   rw [← getD_of (d := 0) (by omega), (hK.get (by omega)).1] at pl pk
   have A11 := M8 h11 (l810.trans (lq.trans l11))
   have lb1 := lb' h11 (lq.trans l11)
   simp only [kS1, bLookup, bMapSet, wantA, isCall, stepOp, evalO, evalL, evalP, evalM, putDst, flat, kA, kB, Nat.reduceLT, ↓reduceIte, kC, Nat.reduceEqDiff, aBuiltin, abinG, guardFree, abin, aInt, aUn, aNilCheck, retQ, retQ1, aresults, aresultL, aresult, mkF, undefV, reduceCtorEq, kD, kE, kF, kG, kH, kI, kJ, kK, aExtract, calleeOf, ad, ld, a11, s11]
   refine KDraw.intro mixed (.fl 0 (.fl 1 (.fl 2 (.fl 3 (.fl 4 (.fl 5 (.fl 6 (.fl 7 (.fl 8 (.fl 9 (.fl 10 (.fl 11 (.done))))))))))))) (by kernel_rfl) ?_
   simp only [kS1, bLookup, bMapSet, wantA, isCall, stepOp, evalO, evalL, evalP, evalM, putDst, flat, kA, kB, Nat.reduceLT, ↓reduceIte, kC, Nat.reduceEqDiff, aBuiltin, abinG, guardFree, abin, aInt, aUn, aNilCheck, retQ, retQ1, aresults, aresultL, aresult, mkF, undefV, reduceCtorEq, kD, kE, kF, kG, kH, kI, kJ, kK, aExtract, calleeOf, kD1, Nat.reduceBEq, HoldsAll, kL, kM, kN, kO, pa0, pa1, aadd, Nat.zero_add, m0, m1, pa, pl, pd, pk, tf0, A11.2.1, ac', lb1, amin_i, amax_i, build42]
   refine KCall.intro (by simp only [kS1, bLookup, bMapSet, wantA, isCall, stepOp, evalO, evalL, evalP, evalM, putDst, flat, kA, kB, Nat.reduceLT, ↓reduceIte, kC, Nat.reduceEqDiff, aBuiltin, abinG, guardFree, abin, aInt, aUn, aNilCheck, retQ, retQ1, aresults, aresultL, aresult, mkF, undefV, reduceCtorEq, kD, kE, kF, kG, kH, kI, kJ, kK, aExtract, calleeOf] <;> rfl) ⟨Try.func56, rfl, by decide⟩ (Contains_any W0 bv' b' _ h11 (hbv'.le (lq.trans l11)) (by omega)) ?_
   rintro x h12 w12 ⟨rfl, l12⟩
   have hin : decide ((min (permF ps a : Int) (permF ps d : Int), max (permF ps a : Int) (permF ps d : Int)) ∈ b') = true := by
    rw [decide_eq_true_eq]
    have := (I.block_in hb hb' hp1 hp2 hqe).2 hqb
    rwa [← mapE_val (p := ((a : Int), (d : Int))) (x := permF ps a) (y := permF ps d) (by simp) (by simp)] at this
   simp only [kS1, bLookup, bMapSet, wantA, isCall, stepOp, evalO, evalL, evalP, evalM, putDst, flat, kA, kB, Nat.reduceLT, ↓reduceIte, kC, Nat.reduceEqDiff, aBuiltin, abinG, guardFree, abin, aInt, aUn, aNilCheck, retQ, retQ1, aresults, aresultL, aresult, mkF, undefV, reduceCtorEq, kD, kE, kF, kG, kH, kI, kJ, kK, aExtract, calleeOf, hin, awrap_succ i (by omega)]
   exact loop_again (b.length - (i + 1)) [(1, pv), (8, .pointer (some ⟨P2, 0, none⟩)), (13, .int .i64 (c' : Int)), (160, bv), (161, .int .i64 b.length), (162, .int .i64 (i + 1 : Nat))] (sub_step hlt) (by simp only [hasAll, kS1, bLookup, bMapSet, wantA, isCall, stepOp, evalO, evalL, evalP, evalM, putDst, flat, kA, kB, Nat.reduceLT, ↓reduceIte, kC, Nat.reduceEqDiff, aBuiltin, abinG, guardFree, abin, aInt, aUn, aNilCheck, retQ, retQ1, aresults, aresultL, aresult, mkF, undefV, reduceCtorEq, kD, kE, kF, kG, kH, kI, kJ, kK, aExtract, calleeOf]; simp) ⟨i + 1, rfl, hlt, rfl, (lq.trans l11).trans l12⟩
  simp only [kS1, bLookup, bMapSet, wantA, isCall, stepOp, evalO, evalL, evalP, evalM, putDst, flat, kA, kB, Nat.reduceLT, ↓reduceIte, kC, Nat.reduceEqDiff, aBuiltin, abinG, guardFree, abin, aInt, aUn, aNilCheck, retQ, retQ1, aresults, aresultL, aresult, mkF, undefV, reduceCtorEq, kD, kE, kF, kG, kH, kI, kJ, kK, aExtract, calleeOf]
  refine KCall.intro (by simp only [kS1, bLookup, bMapSet, wantA, isCall, stepOp, evalO, evalL, evalP, evalM, putDst, flat, kA, kB, Nat.reduceLT, ↓reduceIte, kC, Nat.reduceEqDiff, aBuiltin, abinG, guardFree, abin, aInt, aUn, aNilCheck, retQ, retQ1, aresults, aresultL, aresult, mkF, undefV, reduceCtorEq, kD, kE, kF, kG, kH, kI, kJ, kK, aExtract, calleeOf] <;> rfl) ⟨Try.func49, rfl, by decide⟩ (awake6_any W0 hq) ?_
  rintro x h13 w13 ⟨rfl, l13⟩
  simp only [kS1, bLookup, bMapSet, wantA, isCall, stepOp, evalO, evalL, evalP, evalM, putDst, flat, kA, kB, Nat.reduceLT, ↓reduceIte, kC, Nat.reduceEqDiff, aBuiltin, abinG, guardFree, abin, aInt, aUn, aNilCheck, retQ, retQ1, aresults, aresultL, aresult, mkF, undefV, reduceCtorEq, kD, kE, kF, kG, kH, kI, kJ, kK, aExtract, calleeOf]
  all_goals exact ⟨trivial, trivial⟩
 ·have lj : j < (cutsM n es).length := (List.getElem?_eq_some_iff.1 hj1).1
  have lk : k < (cutsM n es).length := by rw [hce]; exact (List.getElem?_eq_some_iff.1 hk1).1
  rw [centV_ge]
  simp only [kS1, bLookup, bMapSet, wantA, isCall, stepOp, evalO, evalL, evalP, evalM, putDst, flat, kA, kB, Nat.reduceLT, ↓reduceIte, kC, Nat.reduceEqDiff, aBuiltin, abinG, guardFree, abin, aInt, aUn, aNilCheck, retQ, retQ1, aresults, aresultL, aresult, mkF, undefV, reduceCtorEq, kD, kE, kF, kG, kH, kI, kJ, kK, aExtract, calleeOf, M89]
  refine KCall.intro (by simp only [kS1, bLookup, bMapSet, wantA, isCall, stepOp, evalO, evalL, evalP, evalM, putDst, flat, kA, kB, Nat.reduceLT, ↓reduceIte, kC, Nat.reduceEqDiff, aBuiltin, abinG, guardFree, abin, aInt, aUn, aNilCheck, retQ, retQ1, aresults, aresultL, aresult, mkF, undefV, reduceCtorEq, kD, kE, kF, kG, kH, kI, kJ, kK, aExtract, calleeOf] <;> rfl) ⟨Try.func52, rfl, by decide⟩ (Centre_any W0 (.agg #[y1, y2, y3]) (treeM n fs) h9 ((hu0.le l8).le l9) ((blocksM n es).length + (cutsM n es).length) (by rw [tb2, tc2, nat64_length, hbe, hce]) (by omega) (by omega)) ?_
  rintro x h10 w10 ⟨l10, ⟨hn, _⟩ | ⟨_, rfl⟩⟩
  ·rw [tb2, ← hbe] at hn; exact absurd K2 hn
  rw [hc', tb2, centV_ge]
  have l810 := l9.trans l10
  have A10 := M8 h10 l810
  have B10 := M6 h10 l810
  have e1 : decide ((j : Int) < ((cutsM n es).length : Int)) = true := decide_eq_true (by omega)
  have e2 : decide ((k : Int) < ((cutsM n es).length : Int)) = true := decide_eq_true (by omega)
  have CX := cx h10 l810
  have CY := cy h10 l810
  have ac := CX.addr (P := Try.prog) Try.underlying38 Try.underlying3 (by kernel_rfl) (k := .i64) j (by rw [nat64_length]; exact lj)
  have lc := CX.loadI (P := Try.prog) Try.underlying3 rfl j (by rw [nat64_length]; exact lj)
  have ac' := CY.addr (P := Try.prog) Try.underlying38 Try.underlying3 (by kernel_rfl) (k := .i64) k (by rw [nat64_length, ← hce]; exact lk)
  have lc' := CY.loadI (P := Try.prog) Try.underlying3 rfl k (by rw [nat64_length, ← hce]; exact lk)
  have g1 : (cutsM n es)[j] = cu := by rw [List.getElem?_eq_getElem lj] at hj1; injection hj1
  have g2 : (cutsM n fs)[k]'(by rw [← hce]; exact lk) = permF ps cu := by rw [List.getElem?_eq_getElem (by rw [← hce]; exact lk)] at hk1; injection hk1
  rw [nat64_get lj, g1] at lc
  rw [nat64_get (by rw [← hce]; exact lk), g2] at lc'
  have hcu := ((Go.Fw.cuts_mem hR cu).1 (List.mem_of_getElem? hj1)).1
  have LP := lp h10 ((l46.trans l68).trans (l9.trans l10))
  have pa := LP.addr (P := Try.prog) Try.underlying38 Try.underlying3 (by kernel_rfl) (k := .i64) cu (by omega)
  have pl := LP.loadI (P := Try.prog) Try.underlying3 rfl cu (by omega)
  rw [← getD_of (d := 0) (by omega), (hK.get (by omega)).1] at pl
  simp only [kS1, bLookup, bMapSet, wantA, isCall, stepOp, evalO, evalL, evalP, evalM, putDst, flat, kA, kB, Nat.reduceLT, ↓reduceIte, kC, Nat.reduceEqDiff, aBuiltin, abinG, guardFree, abin, aInt, aUn, aNilCheck, retQ, retQ1, aresults, aresultL, aresult, mkF, undefV, reduceCtorEq, kD, kE, kF, kG, kH, kI, kJ, kK, aExtract, calleeOf, wr0, d0, bne, eqTT, eqFF, A10.2.1, A10.2.2.1, A10.2.2.2, B10.2.1, B10.2.2.1, B10.2.2.2, tf0, tf1, tf2, aadd, Nat.zero_add, lx1, lx2, lx3, ly1, ly2, ly3, dd, dn]
  refine KDraw.intro mixed (.fl 0 (.fl 1 (.fl 2 (.fl 3 (.fl 4 (.fl 5 (.fl 6 (.fl 7 (.fl 8 (.fl 9 (.fl 10 (.fl 11 (.fl 12 (.fl 13 (.fl 14 (.fl 15 (.fl 16 (.fl 17 (.fl 18 (.fl 19 (.fl 20 (.fl 21 (.fl 22 (.fl 23 (.fl 24 (.fl 25 (.fl 26 (.fl 27 (.fl 28 (.ch 29 [28] (.fl 30 (.fl 31 (.done))) .no)))))))))))))))))))))))))))))) (by kernel_rfl) ?_
  simp only [kS1, bLookup, bMapSet, wantA, isCall, stepOp, evalO, evalL, evalP, evalM, putDst, flat, kA, kB, Nat.reduceLT, ↓reduceIte, kC, Nat.reduceEqDiff, aBuiltin, abinG, guardFree, abin, aInt, aUn, aNilCheck, retQ, retQ1, aresults, aresultL, aresult, mkF, undefV, reduceCtorEq, kD, kE, kF, kG, kH, kI, kJ, kK, aExtract, calleeOf, kD1, Nat.reduceBEq, HoldsAll, kL, kM, kN, kO, bne, A10.2.2.1, B10.2.2.1, tf1, aadd, Nat.zero_add, lx2, ly2, e1, e2, ac, lc, ac', lc', pa, pl, dd]
  refine KGCall.intro (by simp only [kS1, bLookup, bMapSet, wantA, isCall, stepOp, evalO, evalL, evalP, evalM, putDst, flat, kA, kB, Nat.reduceLT, ↓reduceIte, kC, Nat.reduceEqDiff, aBuiltin, abinG, guardFree, abin, aInt, aUn, aNilCheck, retQ, retQ1, aresults, aresultL, aresult, mkF, undefV, reduceCtorEq, kD, kE, kF, kG, kH, kI, kJ, kK, aExtract, calleeOf] <;> rfl) ⟨Try.func49, rfl, by decide⟩ (awake6_any W0 h10) ?_
  rintro x h13 w13 ⟨rfl, l13⟩
  have A13 := M8 h13 (l810.trans l13)
  have B13 := M6 h13 (l810.trans l13)
  have mc := (CX.le Stays.isI l13).loadI (P := Try.prog) Try.underlying3 rfl j (by rw [nat64_length]; exact lj)
  have mc' := (CY.le Stays.isI l13).loadI (P := Try.prog) Try.underlying3 rfl k (by rw [nat64_length, ← hce]; exact lk)
  rw [nat64_get lj, g1] at mc
  rw [nat64_get (by rw [← hce]; exact lk), g2] at mc'
  have ml := (LP.le Stays.isI l13).loadI (P := Try.prog) Try.underlying3 rfl cu (by omega)
  rw [← getD_of (d := 0) (by omega), (hK.get (by omega)).1] at ml
  simp only [kS1, bLookup, bMapSet, wantA, isCall, stepOp, evalO, evalL, evalP, evalM, putDst, flat, kA, kB, Nat.reduceLT, ↓reduceIte, kC, Nat.reduceEqDiff, aBuiltin, abinG, guardFree, abin, aInt, aUn, aNilCheck, retQ, retQ1, aresults, aresultL, aresult, mkF, undefV, reduceCtorEq, kD, kE, kF, kG, kH, kI, kJ, kK, aExtract, calleeOf, kD1, Nat.reduceBEq, HoldsAll, kL, kM, kN, kO, bne, A13.2.2.1, B13.2.2.1, tf1, aadd, Nat.zero_add, lx2, ly2, e1, e2, ac, mc, ac', mc', pa, ml, dd]
  all_goals exact ⟨trivial, trivial⟩
end Go.Fw
namespace Go.Fw
open Go.Proofs Go.ChangeShapes Go.WideShapes Go.RowKit Go.ChangeAt
open Go.Proofs.Ytnaahaldkpdjlaa
set_option maxRecDepth 100000
theorem blocksNames_lifted (os : Os) (started : os.Started) (H : Type) (enc : TypeId × Value → H) :
  ReturnsInHanded {} Try.checked os 13 .any (Rows.blocksNamesSpec.pre6 enc Try.prog Try.f13 Rows.blocksNamesRow.domain false) (Rows.blocksNamesSpec.post enc Try.prog Try.f13 false true false false) := by
 have own : ownKnob Try.prog.godebug = Option.none := by kernel_rfl
 have laidOut : laidOutB Try.prog = true := by kernel_rfl
 refine returnsInHanded_of_change (C := Try.checked) own started (by kernel_rfl) Try.func13
  (ChangeSpec.witness6 (enc := enc) (C := Try.checked) false ⟨#[], #[.agg #[.int .i64 0, .slice Option.none 0 0], .slice Option.none 0 0], []⟩ 8 (by kernel_rfl) (by kernel_rfl) (by kernel_rfl) (by kernel_rfl)) ?_
 intro W base args ds gs before hval0 hW hcnd _
 have hval : ∀ (j : Nat) t v, Try.f13.params[j]? = some t → args[j]? = some v → Value.okWide Try.prog W .any base t v := hval0
 have hW' := hW
 obtain ⟨p, q, hA0, hV, rfl, hfz, hnd⟩ := hW
 have hA : DataW.TrodAll enc Try.prog W 0 (fun _ => true) true Try.f13.params.toList args.toList ds p := hA0
 rw [Try.params13] at hA hval
 obtain ⟨v0, w0, d0, e0, p0, q0, hargs, rfl, rfl, h0, hA⟩ := trodAll_cons hA
 obtain ⟨v1, w1, d1, e1, p1, q1, rfl, rfl, rfl, h1, hA⟩ := trodAll_cons hA
 obtain ⟨rfl, rfl, rfl⟩ := trodAll_nil hA
 obtain rfl : args = #[v0, v1] := by cases args; simp_all
 obtain ⟨rfl, rfl⟩ := trodVars_none hV
 obtain ⟨u0, x0, hv0, hx0⟩ := open_graph (hval 0 24 v0 rfl rfl) h0 (fun _ => ⟨0, 0, 0⟩)
 obtain ⟨u1, x1, hv1, hx1⟩ := open_ints' (hval 1 38 v1 rfl rfl) h1 (fun _ => ⟨0, 0, 0⟩)
 refine (BlocksNames_law (Base.of W) u0 u1 x0 x1 (ext0 W) hx0 hx1 [] (fun _ => ⟨0, 0, 0⟩) W [v0, v1] (Rel.start W _) ?_).mono ?_
 ·exact .cons hv0 (.cons hv1 ((.nil _ _)))
 ·rintro e W' ⟨x, x', m', h', rfl, R, -, -, hx, rfl, -⟩
  obtain rfl := hx.bool_inv
  have hb := R.below
  have hlt0 : ∀ y ∈ p0, y.block < W.heap.size := fun y hy => hW'.lt y (by simp [hy])
  have hlt1 : ∀ y ∈ p1, y.block < W.heap.size := fun y hy => hW'.lt y (by simp [hy])
  have hbool : DataW.Trod enc Try.prog W' W.heap.size (fun _ => false) false 4 (.bool true) (.lit (.bool true)) [] := ⟨1, by simp [DataW.trod, Value.cells, Try.underlying4]⟩
  have hargs :=
   tcons (Below.trod laidOut (by kernel_rfl) (of_decide_eq_true (by kernel_rfl)) h0 hb hlt0) (tcons (Below.trod laidOut (by kernel_rfl) (of_decide_eq_true (by kernel_rfl)) h1 hb hlt1) (trodAll_mk0))
  try simp only [List.append_nil, List.nil_append] at hargs
  exact ⟨_, rfl, _, _, _, [], _, [], hW', trodAll_mk1 hbool, hargs, rfl, hb.frame _, fun e => by cases e⟩
theorem blocksNames_said : Rows.BlocksNamesSaid :=
 OpenClaim.holds_of_wide 13 Try.f13 rfl rfl rfl rfl rfl rfl rfl ⟨rfl, rfl, rfl, rfl, rfl⟩ rfl rfl rfl rfl rfl (by kernel_rfl) Try.func13 (by kernel_rfl)
  (of_decide_eq_true (by kernel_rfl)) (by unfold Func.isWrapper; first | (rw [if_pos (by decide +kernel)]; kernel_rfl) | (rw [if_neg (by decide +kernel)]; exact ⟨rfl, rfl⟩))
  (fun os started H enc _ => blocksNames_lifted os started H enc)
end Go.Fw
