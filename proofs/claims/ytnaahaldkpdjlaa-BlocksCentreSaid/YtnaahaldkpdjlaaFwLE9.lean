/- A text of the proof. -/
import Derived.Test.YtnaahaldkpdjlaaFwLE6
import Derived.Test.YtnaahaldkpdjlaaFwLE1
set_option linter.unusedSimpArgs false
set_option linter.unusedVariables false
namespace Go.Fw
open Go.Proofs
attribute [local irreducible] KO4 KO3 KO2 KO1 KO KN KX KE VK KCond KDraw KCall KLoop
set_option maxHeartbeats 16000000
set_option maxRecDepth 10000
attribute [local irreducible] lowM bridgesM cutsM blocksM keyE treeM
theorem one_block {n : Nat} {es : List Pr} (hr : InR n es) (K : Lk (blocksM n es).length ((blocksM n es).length + (cutsM n es).length) (treeM n es).ls) (h : (blocksM n es).length = 1) : (cutsM n es).length = 0 := by
 refine Classical.byContradiction fun hc => ?_
 obtain ⟨u, u', h1, h2, h3⟩ := cut_links hr (v := (blocksM n es).length) (by omega) (Nat.le_refl _)
 have s1 := adj_sides K h1
 have s2 := adj_sides K h2
 rw [if_neg (Nat.lt_irrefl _)] at s1 s2
 split at s1
 ·split at s2
  ·omega
  ·omega
 ·omega
theorem dec_m1 {d a : Nat} (h : d + 1 = a) : decide ((d : Int) = (a : Int) - 1) = true := decide_eq_true (by omega)
theorem dec_m2 {d a : Nat} (h : ¬ d + 1 = a) : decide ((d : Int) = (a : Int) - 1) = false := decide_eq_false (by omega)
theorem dec_e1 {d a : Nat} (h : d = a) : decide ((d : Int) = (a : Int)) = true := decide_eq_true (by omega)
theorem dec_e2 {d a : Nat} (h : ¬ d = a) : decide ((d : Int) = (a : Int)) = false := decide_eq_false (by omega)
theorem lt_big {W i R F : Nat} (h1 : W ≤ min i R) (h2 : i < R) (h3 : R ≤ 2 * F) (h4 : F ≤ 594) : W < 4611686018427387904 := by omega
theorem no_step {p : Nat → Prop} {j : Nat} (h : ∀ v, v < j → ¬ p v) (hj : ¬ p j) : ∀ v, v < j + 1 → ¬ p v := fun v hv => by
 by_cases e : v = j
 ·rw [e]; exact hj
 ·exact h v (by omega)
theorem no_all {p : Nat → Prop} {j N : Nat} (h : ∀ v, v < j → ¬ p v) (hge : N ≤ j) : ¬ ∃ v, v < N ∧ p v := fun ⟨v, h1, h2⟩ => h v (by omega) h2
open Classical in
theorem BlocksCentre_law (W0 : Base) (v : Value) (G : GM) (h : AHeap) (hg : GR h v G) : AC Try.prog W0 12 [v] h fun x h' => x = .bool true ∧ True := by
 have hg0 := hg
 obtain ⟨gn, es⟩ := G
 obtain ⟨ev, rfl, hp⟩ := hg.open
 refine AC.vc (fn := Try.f12) (c := _) ⟨Try.func12, rfl, by decide⟩ Try.ntmps12 Try.results12 (by simp) fun hwf => ?_
 simp only [argFrame, argFrom, Nat.reduceAdd]
 obtain ⟨h1, b1, le1, wf1, -, lA⟩ := boxG (n := gn) hwf hp
 generalize h.next = B0 at *
 have lA1 := lA h1 (Le.refl _)
 simp only [kS1, bLookup, bMapSet, wantA, isCall, stepOp, evalO, evalL, evalP, evalM, putDst, flat, kA, kB, Nat.reduceLT, ↓reduceIte, kC, Nat.reduceEqDiff, aBuiltin, abinG, guardFree, abin, aInt, aUn, aNilCheck, retQ, retQ1, aresults, aresultL, aresult, mkF, undefV, reduceCtorEq, kD, kE, kF, kG, kH, kI, kJ, kK, aExtract, calleeOf, b1, lA1.1]
 refine KCall.intro (by simp only [kS1, bLookup, bMapSet, wantA, isCall, stepOp, evalO, evalL, evalP, evalM, putDst, flat, kA, kB, Nat.reduceLT, ↓reduceIte, kC, Nat.reduceEqDiff, aBuiltin, abinG, guardFree, abin, aInt, aUn, aNilCheck, retQ, retQ1, aresults, aresultL, aresult, mkF, undefV, reduceCtorEq, kD, kE, kF, kG, kH, kI, kJ, kK, aExtract, calleeOf] <;> rfl) ⟨Try.func48, rfl, by decide⟩ (joined_any W0 _ ⟨gn, es⟩ h1 (hg0.le le1)) ?_
 rintro x h2 w2 ⟨⟨bb, rfl, hbb⟩, l2⟩
 cases bb with
 | false =>
  simp only [kS1, bLookup, bMapSet, wantA, isCall, stepOp, evalO, evalL, evalP, evalM, putDst, flat, kA, kB, Nat.reduceLT, ↓reduceIte, kC, Nat.reduceEqDiff, aBuiltin, abinG, guardFree, abin, aInt, aUn, aNilCheck, retQ, retQ1, aresults, aresultL, aresult, mkF, undefV, reduceCtorEq, kD, kE, kF, kG, kH, kI, kJ, kK, aExtract, calleeOf]
  refine KCall.intro (by simp only [kS1, bLookup, bMapSet, wantA, isCall, stepOp, evalO, evalL, evalP, evalM, putDst, flat, kA, kB, Nat.reduceLT, ↓reduceIte, kC, Nat.reduceEqDiff, aBuiltin, abinG, guardFree, abin, aInt, aUn, aNilCheck, retQ, retQ1, aresults, aresultL, aresult, mkF, undefV, reduceCtorEq, kD, kE, kF, kG, kH, kI, kJ, kK, aExtract, calleeOf] <;> rfl) ⟨Try.func49, rfl, by decide⟩ (awake6_any W0 h2) ?_
  rintro x h3 w3 ⟨rfl, l3⟩
  simp only [kS1, bLookup, bMapSet, wantA, isCall, stepOp, evalO, evalL, evalP, evalM, putDst, flat, kA, kB, Nat.reduceLT, ↓reduceIte, kC, Nat.reduceEqDiff, aBuiltin, abinG, guardFree, abin, aInt, aUn, aNilCheck, retQ, retQ1, aresults, aresultL, aresult, mkF, undefV, reduceCtorEq, kD, kE, kF, kG, kH, kI, kJ, kK, aExtract, calleeOf]
  all_goals exact ⟨trivial, trivial⟩
 | true =>
 obtain ⟨hr, h40, hj⟩ := hbb.1 rfl
 clear hbb
 have h0 : 0 ≤ gn := hr.n0
 obtain ⟨n, rfl⟩ := Int.eq_ofNat_of_zero_le h0
 simp only [Int.toNat_natCast] at hj h40
 have hR := hr.inR
 have le2 := le1.trans l2
 simp only [kS1, bLookup, bMapSet, wantA, isCall, stepOp, evalO, evalL, evalP, evalM, putDst, flat, kA, kB, Nat.reduceLT, ↓reduceIte, kC, Nat.reduceEqDiff, aBuiltin, abinG, guardFree, abin, aInt, aUn, aNilCheck, retQ, retQ1, aresults, aresultL, aresult, mkF, undefV, reduceCtorEq, kD, kE, kF, kG, kH, kI, kJ, kK, aExtract, calleeOf, (lA h2 l2).1]
 refine KCall.intro (by simp only [kS1, bLookup, bMapSet, wantA, isCall, stepOp, evalO, evalL, evalP, evalM, putDst, flat, kA, kB, Nat.reduceLT, ↓reduceIte, kC, Nat.reduceEqDiff, aBuiltin, abinG, guardFree, abin, aInt, aUn, aNilCheck, retQ, retQ1, aresults, aresultL, aresult, mkF, undefV, reduceCtorEq, kD, kE, kF, kG, kH, kI, kJ, kK, aExtract, calleeOf] <;> rfl) ⟨Try.func50, rfl, by decide⟩ (Tree_any W0 _ ⟨(n : Int), es⟩ h2 (hg0.le le2)) ?_
 rintro x h3 w3 ⟨l3, ⟨a, _⟩ | ⟨_, a, _⟩ | ⟨_, _, tv, rfl, ht⟩⟩
 ·exact absurd hr a
 ·exact absurd hj a
 simp only [Int.toNat_natCast] at ht
 have ht0 := ht
 obtain ⟨x1, x2, x3, rfl, r1, r2, r3⟩ := ht
 obtain ⟨h4', h4, a4, s4, l4, w4, L4⟩ := newT w3 r1 r2 r3
 generalize h3.next = P1 at *
 have ht4 := ht0.le l4
 have K := treeM_lk hr hj
 have tb : (treeM n es).bs = blocksM n es := by rw [treeM_def]
 have tc : (treeM n es).cs = nat64 (cutsM n es) := by rw [treeM_def]
 have hbn := blocks_le_n hR
 have hcn := cuts_le_n n es
 have hone := one_block hR K
 have hpos := blocks_pos hr hj.1
 obtain ⟨hcN, a, hmax, huni⟩ := tree_centre hr K rfl rfl
 have Kl := K.len
 have F4 := L4 h4 (Le.refl _)
 simp only [kS1, bLookup, bMapSet, wantA, isCall, stepOp, evalO, evalL, evalP, evalM, putDst, flat, kA, kB, Nat.reduceLT, ↓reduceIte, kC, Nat.reduceEqDiff, aBuiltin, abinG, guardFree, abin, aInt, aUn, aNilCheck, retQ, retQ1, aresults, aresultL, aresult, mkF, undefV, reduceCtorEq, kD, kE, kF, kG, kH, kI, kJ, kK, aExtract, calleeOf, a4, s4, F4.1]
 refine KCall.intro (by simp only [kS1, bLookup, bMapSet, wantA, isCall, stepOp, evalO, evalL, evalP, evalM, putDst, flat, kA, kB, Nat.reduceLT, ↓reduceIte, kC, Nat.reduceEqDiff, aBuiltin, abinG, guardFree, abin, aInt, aUn, aNilCheck, retQ, retQ1, aresults, aresultL, aresult, mkF, undefV, reduceCtorEq, kD, kE, kF, kG, kH, kI, kJ, kK, aExtract, calleeOf] <;> rfl) ⟨Try.func51, rfl, by decide⟩ (drawn_any W0 (.agg #[x1, x2, x3]) (treeM n es) ((blocksM n es).length + (cutsM n es).length) h4 ht4 (by rw [tb]; exact K) (by rw [tb, tc, nat64_length]) (by omega)) ?_
 rintro x h5 w5 ⟨l5, dv, rfl, gd, -⟩
 rw [tb] at gd
 obtain ⟨hOK, hnorm⟩ := edges_new K (by omega)
 have hRd := hOK.right
 rw [hnorm] at hRd
 obtain ⟨h6', h6, a6, s6, l6, w6, L6⟩ := newG (n := (((blocksM n es).length + (cutsM n es).length : Nat) : Int)) w5 gd.pr
 generalize h5.next = P2 at *
 have F6 := L4 h6 (l5.trans l6)
 simp only [kS1, bLookup, bMapSet, wantA, isCall, stepOp, evalO, evalL, evalP, evalM, putDst, flat, kA, kB, Nat.reduceLT, ↓reduceIte, kC, Nat.reduceEqDiff, aBuiltin, abinG, guardFree, abin, aInt, aUn, aNilCheck, retQ, retQ1, aresults, aresultL, aresult, mkF, undefV, reduceCtorEq, kD, kE, kF, kG, kH, kI, kJ, kK, aExtract, calleeOf, a6, s6, F6.1]
 refine KCall.intro (by simp only [kS1, bLookup, bMapSet, wantA, isCall, stepOp, evalO, evalL, evalP, evalM, putDst, flat, kA, kB, Nat.reduceLT, ↓reduceIte, kC, Nat.reduceEqDiff, aBuiltin, abinG, guardFree, abin, aInt, aUn, aNilCheck, retQ, retQ1, aresults, aresultL, aresult, mkF, undefV, reduceCtorEq, kD, kE, kF, kG, kH, kI, kJ, kK, aExtract, calleeOf] <;> rfl) ⟨Try.func52, rfl, by decide⟩ (Centre_any W0 (.agg #[x1, x2, x3]) (treeM n es) h6 ((ht4.le l5).le l6) ((blocksM n es).length + (cutsM n es).length) (by rw [tb, tc, nat64_length]) (by omega) (by omega)) ?_
 rintro x h7 w7 ⟨l7, ⟨hn, _⟩ | ⟨_, rfl⟩⟩
 ·rw [tb] at hn; exact absurd K hn
 have gd7 : PR h7 dv (sortP (edgesU (blocksM n es).length (treeM n es).ls)) := (gd.pr.le l6).le l7
 have F7 := L4 h7 ((l5.trans l6).trans l7)
 have D7 := L6 h7 l7
 have T := K.tree
 have hadj : ∀ u w, adj (sortP (edgesU (blocksM n es).length (treeM n es).ls)) u w ↔ adj (edgesU (blocksM n es).length (treeM n es).ls) u w := fun u w => by
  simp only [adj, sortP_mem]
 have hcon : ∀ u w, u < (blocksM n es).length + (cutsM n es).length → w < (blocksM n es).length + (cutsM n es).length → Con (sortP (edgesU (blocksM n es).length (treeM n es).ls)) u w := fun u w hu hw =>
  con_perm (fun p hp => (sortP_mem _ _).2 hp) ((K.con u hu).symm.trans (K.con w hw))
 have lx1 := fun g => r1.len (P := Try.prog) Try.underlying28 g
 have lx2 := fun g => r2.len (P := Try.prog) Try.underlying38 g
 rw [tb] at lx1
 rw [tc, nat64_length] at lx2
 have hcM : cenM (treeM n es).bs.length ((blocksM n es).length + (cutsM n es).length) (treeM n es).ls = minK (depK (blocksM n es).length ((blocksM n es).length + (cutsM n es).length) (treeM n es).ls ((blocksM n es).length + (cutsM n es).length)) ((blocksM n es).length + (cutsM n es).length) := by rw [tb]; rfl
 rw [hcM, tb]
 have hwl : ∀ g, Le h7 g → GR g (.agg #[.int .i64 (((blocksM n es).length + (cutsM n es).length : Nat) : Int), dv]) ⟨(((blocksM n es).length + (cutsM n es).length : Nat) : Int), sortP (edgesU (blocksM n es).length (treeM n es).ls)⟩ := fun g lg => ⟨dv, rfl, gd7.le lg⟩
 have L4' : ∀ g, Le h7 g → aload Try.prog g 28 ⟨P1, 0, none⟩ = some x1 := fun g lg => (L4 g (((l5.trans l6).trans l7).trans lg)).2.1
 have L6' : ∀ g, Le h7 g → aload Try.prog g 24 ⟨P2, 0, none⟩ = some (.agg #[.int .i64 (((blocksM n es).length + (cutsM n es).length : Nat) : Int), dv]) ∧ aload Try.prog g 3 ⟨P2, 0, none⟩ = some (.int .i64 (((blocksM n es).length + (cutsM n es).length : Nat) : Int)) := fun g lg => ⟨(L6 g (l7.trans lg)).1, (L6 g (l7.trans lg)).2.1⟩
 clear L4 L6 F6 F4 hOK hnorm Kl tb tc hcM ht4 ht0 lA lA1 s4 s6 a4 a6 b1 gd r1 r2 r3 hp hg hg0
 have hsd := fun u w (h : adj (edgesU (blocksM n es).length (treeM n es).ls) u w) => adj_sides K h
 generalize hc : minK (depK (blocksM n es).length ((blocksM n es).length + (cutsM n es).length) (treeM n es).ls ((blocksM n es).length + (cutsM n es).length)) ((blocksM n es).length + (cutsM n es).length) = c at *
 generalize hD : distM (blocksM n es).length ((blocksM n es).length + (cutsM n es).length) (treeM n es).ls = D at *
 generalize hE : edgesU (blocksM n es).length (treeM n es).ls = E at *
 clear hD hE hc K
 generalize (blocksM n es).length = B at *
 generalize (cutsM n es).length = C at *
 generalize hN : B + C = N at *
 have hN200 : N ≤ 200 := by omega
 generalize hf : sortP E = fs at *
 clear hf
 unfold centV
 have d0 : decide ((0 : Int) = 0) = true := by decide
 have dc0 : decide ((c : Int) < 0) = false := decide_eq_false (by omega)
 by_cases q : c < B
 focus
  have dcb : decide ((c : Int) ≥ (B : Int)) = false := decide_eq_false (by omega)
  rw [if_pos q]
  simp only [kS1, bLookup, bMapSet, wantA, isCall, stepOp, evalO, evalL, evalP, evalM, putDst, flat, kA, kB, Nat.reduceLT, ↓reduceIte, kC, Nat.reduceEqDiff, aBuiltin, abinG, guardFree, abin, aInt, aUn, aNilCheck, retQ, retQ1, aresults, aresultL, aresult, mkF, undefV, reduceCtorEq, kD, kE, kF, kG, kH, kI, kJ, kK, aExtract, calleeOf, d0, bne, dc0, tf0, tf1, aadd, Nat.zero_add, F7.2.1, lx1, dcb, D7.1]
 rotate_left
 focus
  have dcb : decide ((c : Int) - (B : Int) ≥ (C : Int)) = false := decide_eq_false (by omega)
  have dcz : decide ((c : Int) - (B : Int) < 0) = false := decide_eq_false (by omega)
  have hw : awrap .i64 ((c : Int) - (B : Int) + (B : Int)) = (c : Int) := by rw [awrap_in _ (by omega) (by omega)]; omega
  rw [if_neg q]
  simp only [kS1, bLookup, bMapSet, wantA, isCall, stepOp, evalO, evalL, evalP, evalM, putDst, flat, kA, kB, Nat.reduceLT, ↓reduceIte, kC, Nat.reduceEqDiff, aBuiltin, abinG, guardFree, abin, aInt, aUn, aNilCheck, retQ, retQ1, aresults, aresultL, aresult, mkF, undefV, reduceCtorEq, kD, kE, kF, kG, kH, kI, kJ, kK, aExtract, calleeOf, d0, bne, dcz, tf0, tf1, aadd, Nat.zero_add, F7.2.1, F7.2.2.1, lx1, lx2, dcb, D7.1, hw]
 all_goals
  refine KCall.intro (by simp only [kS1, bLookup, bMapSet, wantA, isCall, stepOp, evalO, evalL, evalP, evalM, putDst, flat, kA, kB, Nat.reduceLT, ↓reduceIte, kC, Nat.reduceEqDiff, aBuiltin, abinG, guardFree, abin, aInt, aUn, aNilCheck, retQ, retQ1, aresults, aresultL, aresult, mkF, undefV, reduceCtorEq, kD, kE, kF, kG, kH, kI, kJ, kK, aExtract, calleeOf] <;> rfl) ⟨Try.func53, rfl, by decide⟩ (deep_any W0 _ N fs E D h7 (hwl h7 (Le.refl _)) hRd T hadj hcon hcN hmax) ?_
  rintro x h8 w8 ⟨rfl, l8⟩
  have Q8 := L6' h8 l8
  simp only [kS1, bLookup, bMapSet, wantA, isCall, stepOp, evalO, evalL, evalP, evalM, putDst, flat, kA, kB, Nat.reduceLT, ↓reduceIte, kC, Nat.reduceEqDiff, aBuiltin, abinG, guardFree, abin, aInt, aUn, aNilCheck, retQ, retQ1, aresults, aresultL, aresult, mkF, undefV, reduceCtorEq, kD, kE, kF, kG, kH, kI, kJ, kK, aExtract, calleeOf, fg0, aadd, Nat.zero_add, Q8.2]
  refine KLoop.intro (fun k fr hq => ∃ (i : Nat), k = N - i ∧ i ≤ N ∧ fr = mkF [(3, .pointer (some ⟨P1, 0, none⟩)), (5, .pointer (some ⟨P2, 0, none⟩)), (8, .int .i64 (c : Int)), (9, .int .i64 (a : Int)), (80, .int .i64 (N : Int)), (81, .int .i64 i)] ∧ Le h7 hq)
   N [(3, .pointer (some ⟨P1, 0, none⟩)), (5, .pointer (some ⟨P2, 0, none⟩)), (8, .int .i64 (c : Int)), (9, .int .i64 (a : Int)), (80, .int .i64 (N : Int)), (81, .int .i64 (0 : Nat))] (by simp only [hasAll, kS1, bLookup, bMapSet, wantA, isCall, stepOp, evalO, evalL, evalP, evalM, putDst, flat, kA, kB, Nat.reduceLT, ↓reduceIte, kC, Nat.reduceEqDiff, aBuiltin, abinG, guardFree, abin, aInt, aUn, aNilCheck, retQ, retQ1, aresults, aresultL, aresult, mkF, undefV, reduceCtorEq, kD, kE, kF, kG, kH, kI, kJ, kK, aExtract, calleeOf]; simp) ⟨0, rfl, Nat.zero_le _, rfl, l8⟩ ?_
  rintro k fr hq hwq ⟨i, rfl, hi, rfl, lq⟩
  have Qq := L6' hq lq
  simp only [kS1, bLookup, bMapSet, wantA, isCall, stepOp, evalO, evalL, evalP, evalM, putDst, flat, kA, kB, Nat.reduceLT, ↓reduceIte, kC, Nat.reduceEqDiff, aBuiltin, abinG, guardFree, abin, aInt, aUn, aNilCheck, retQ, retQ1, aresults, aresultL, aresult, mkF, undefV, reduceCtorEq, kD, kE, kF, kG, kH, kI, kJ, kK, aExtract, calleeOf]
  refine KCond.intro (fun ht => ?_) (fun hf => ?_)
  ·have hlt : i < N := lt_t ht
   clear ht
   have hws := wrapS hlt (by omega)
   by_cases e : i = c
   ·have de : decide ((i : Int) = (c : Int)) = true := decide_eq_true (by omega)
    simp only [kS1, bLookup, bMapSet, wantA, isCall, stepOp, evalO, evalL, evalP, evalM, putDst, flat, kA, kB, Nat.reduceLT, ↓reduceIte, kC, Nat.reduceEqDiff, aBuiltin, abinG, guardFree, abin, aInt, aUn, aNilCheck, retQ, retQ1, aresults, aresultL, aresult, mkF, undefV, reduceCtorEq, kD, kE, kF, kG, kH, kI, kJ, kK, aExtract, calleeOf, bne, de, hws]
    exact loop_again (N - (i + 1)) [(3, .pointer (some ⟨P1, 0, none⟩)), (5, .pointer (some ⟨P2, 0, none⟩)), (8, .int .i64 (c : Int)), (9, .int .i64 (a : Int)), (80, .int .i64 (N : Int)), (81, .int .i64 (i + 1 : Nat))] (sub_step hlt) (by simp only [hasAll, kS1, bLookup, bMapSet, wantA, isCall, stepOp, evalO, evalL, evalP, evalM, putDst, flat, kA, kB, Nat.reduceLT, ↓reduceIte, kC, Nat.reduceEqDiff, aBuiltin, abinG, guardFree, abin, aInt, aUn, aNilCheck, retQ, retQ1, aresults, aresultL, aresult, mkF, undefV, reduceCtorEq, kD, kE, kF, kG, kH, kI, kJ, kK, aExtract, calleeOf]; simp) ⟨i + 1, rfl, hlt, rfl, lq⟩
   ·have de : decide ((i : Int) = (c : Int)) = false := decide_eq_false (by omega)
    obtain ⟨b, hb⟩ := Tr.max_ex (D := D) (S := (· < N)) (fun _ h => h) ⟨c, hcN⟩ i
    have hab := huni i b hlt e hb
    simp only [kS1, bLookup, bMapSet, wantA, isCall, stepOp, evalO, evalL, evalP, evalM, putDst, flat, kA, kB, Nat.reduceLT, ↓reduceIte, kC, Nat.reduceEqDiff, aBuiltin, abinG, guardFree, abin, aInt, aUn, aNilCheck, retQ, retQ1, aresults, aresultL, aresult, mkF, undefV, reduceCtorEq, kD, kE, kF, kG, kH, kI, kJ, kK, aExtract, calleeOf, bne, de, Qq.1]
    refine KCall.intro (by simp only [kS1, bLookup, bMapSet, wantA, isCall, stepOp, evalO, evalL, evalP, evalM, putDst, flat, kA, kB, Nat.reduceLT, ↓reduceIte, kC, Nat.reduceEqDiff, aBuiltin, abinG, guardFree, abin, aInt, aUn, aNilCheck, retQ, retQ1, aresults, aresultL, aresult, mkF, undefV, reduceCtorEq, kD, kE, kF, kG, kH, kI, kJ, kK, aExtract, calleeOf] <;> rfl) ⟨Try.func53, rfl, by decide⟩ (deep_any W0 _ N fs E D hq (hwl hq lq) hRd T hadj hcon hlt hb) ?_
    rintro x h9 w9 ⟨rfl, l9⟩
    have dl : decide ((b : Int) ≤ (a : Int)) = false := decide_eq_false (by omega)
    simp only [kS1, bLookup, bMapSet, wantA, isCall, stepOp, evalO, evalL, evalP, evalM, putDst, flat, kA, kB, Nat.reduceLT, ↓reduceIte, kC, Nat.reduceEqDiff, aBuiltin, abinG, guardFree, abin, aInt, aUn, aNilCheck, retQ, retQ1, aresults, aresultL, aresult, mkF, undefV, reduceCtorEq, kD, kE, kF, kG, kH, kI, kJ, kK, aExtract, calleeOf, dl, hws]
    exact loop_again (N - (i + 1)) [(3, .pointer (some ⟨P1, 0, none⟩)), (5, .pointer (some ⟨P2, 0, none⟩)), (8, .int .i64 (c : Int)), (9, .int .i64 (a : Int)), (80, .int .i64 (N : Int)), (81, .int .i64 (i + 1 : Nat))] (sub_step hlt) (by simp only [hasAll, kS1, bLookup, bMapSet, wantA, isCall, stepOp, evalO, evalL, evalP, evalM, putDst, flat, kA, kB, Nat.reduceLT, ↓reduceIte, kC, Nat.reduceEqDiff, aBuiltin, abinG, guardFree, abin, aInt, aUn, aNilCheck, retQ, retQ1, aresults, aresultL, aresult, mkF, undefV, reduceCtorEq, kD, kE, kF, kG, kH, kI, kJ, kK, aExtract, calleeOf]; simp) ⟨i + 1, rfl, hlt, rfl, lq.trans l9⟩
  have P9 := L4' hq lq
  by_cases b1 : B = 1
  ·have db : decide ((B : Int) = 1) = true := decide_eq_true (by omega)
   have hN1 : N = 1 := by have := hone b1; omega
   have ha0 : a = 0 := by
    obtain ⟨w, hww, e⟩ := hmax.2
    have e2 : w = c := by have : w < N := hww; omega
    rw [e2, T.z c hcN] at e; exact e.symm
   have da : decide ((a : Int) = 0) = true := decide_eq_true (by omega)
   simp only [kS1, bLookup, bMapSet, wantA, isCall, stepOp, evalO, evalL, evalP, evalM, putDst, flat, kA, kB, Nat.reduceLT, ↓reduceIte, kC, Nat.reduceEqDiff, aBuiltin, abinG, guardFree, abin, aInt, aUn, aNilCheck, retQ, retQ1, aresults, aresultL, aresult, mkF, undefV, reduceCtorEq, kD, kE, kF, kG, kH, kI, kJ, kK, aExtract, calleeOf, tf0, aadd, Nat.zero_add, P9, lx1, db, da]
   refine KCall.intro (by simp only [kS1, bLookup, bMapSet, wantA, isCall, stepOp, evalO, evalL, evalP, evalM, putDst, flat, kA, kB, Nat.reduceLT, ↓reduceIte, kC, Nat.reduceEqDiff, aBuiltin, abinG, guardFree, abin, aInt, aUn, aNilCheck, retQ, retQ1, aresults, aresultL, aresult, mkF, undefV, reduceCtorEq, kD, kE, kF, kG, kH, kI, kJ, kK, aExtract, calleeOf] <;> rfl) ⟨Try.func49, rfl, by decide⟩ (awake6_any W0 hq) ?_
   rintro x h9 w9 ⟨rfl, l9⟩
   simp only [kS1, bLookup, bMapSet, wantA, isCall, stepOp, evalO, evalL, evalP, evalM, putDst, flat, kA, kB, Nat.reduceLT, ↓reduceIte, kC, Nat.reduceEqDiff, aBuiltin, abinG, guardFree, abin, aInt, aUn, aNilCheck, retQ, retQ1, aresults, aresultL, aresult, mkF, undefV, reduceCtorEq, kD, kE, kF, kG, kH, kI, kJ, kK, aExtract, calleeOf]
   all_goals exact ⟨trivial, trivial⟩
  have db : decide ((B : Int) = 1) = false := decide_eq_false (by omega)
  have hN2 : 1 < N := by omega
  obtain ⟨a0, wa, wb, hab, ca, cb, ga, gb⟩ := T.two_ways hcN hN2 hmax huni
  have Q9 := L6' hq lq
  simp only [kS1, bLookup, bMapSet, wantA, isCall, stepOp, evalO, evalL, evalP, evalM, putDst, flat, kA, kB, Nat.reduceLT, ↓reduceIte, kC, Nat.reduceEqDiff, aBuiltin, abinG, guardFree, abin, aInt, aUn, aNilCheck, retQ, retQ1, aresults, aresultL, aresult, mkF, undefV, reduceCtorEq, kD, kE, kF, kG, kH, kI, kJ, kK, aExtract, calleeOf, tf0, aadd, Nat.zero_add, P9, lx1, db, Q9.1]
  refine KCall.intro (by simp only [kS1, bLookup, bMapSet, wantA, isCall, stepOp, evalO, evalL, evalP, evalM, putDst, flat, kA, kB, Nat.reduceLT, ↓reduceIte, kC, Nat.reduceEqDiff, aBuiltin, abinG, guardFree, abin, aInt, aUn, aNilCheck, retQ, retQ1, aresults, aresultL, aresult, mkF, undefV, reduceCtorEq, kD, kE, kF, kG, kH, kI, kJ, kK, aExtract, calleeOf] <;> rfl) ⟨Try.func54, rfl, by decide⟩ (Away_any W0 _ ⟨(N : Int), fs⟩ (c : Int) hq (hwl hq lq)) ?_
  rintro x h10 w10 ⟨l10, lv, e, rfl, ⟨a1, _⟩ | ⟨_, a1, _⟩ | ⟨_, _, _, rfl, L, hL, hF⟩⟩
  ·exact absurd hRd a1
  ·exact absurd ⟨by omega, by simp only; omega⟩ a1
  simp only [Int.toNat_natCast] at hF
  have hLl : L.length = N := hF.len
  have atc : ∀ v, v < N → L[v]? = some ((D c v : Nat) : Int) := fun v hv => T.far_is hF hadj (fun u hu => hcon c u hcN hu) hcN hv
  have Q10 := L6' h10 (lq.trans l10)
  simp only [kS1, bLookup, bMapSet, wantA, isCall, stepOp, evalO, evalL, evalP, evalM, putDst, flat, kA, kB, Nat.reduceLT, ↓reduceIte, kC, Nat.reduceEqDiff, aBuiltin, abinG, guardFree, abin, aInt, aUn, aNilCheck, retQ, retQ1, aresults, aresultL, aresult, mkF, undefV, reduceCtorEq, kD, kE, kF, kG, kH, kI, kJ, kK, aExtract, calleeOf, Q10.1]
  refine KCall.intro (by simp only [kS1, bLookup, bMapSet, wantA, isCall, stepOp, evalO, evalL, evalP, evalM, putDst, flat, kA, kB, Nat.reduceLT, ↓reduceIte, kC, Nat.reduceEqDiff, aBuiltin, abinG, guardFree, abin, aInt, aUn, aNilCheck, retQ, retQ1, aresults, aresultL, aresult, mkF, undefV, reduceCtorEq, kD, kE, kF, kG, kH, kI, kJ, kK, aExtract, calleeOf] <;> rfl) ⟨Try.func55, rfl, by decide⟩ (Beside_any W0 _ N fs h10 (hwl h10 (lq.trans l10)) hRd) ?_
  rintro x h11 w11 ⟨hbs, l11⟩
  have hbl := besM_length N fs
  have ac := hbs.addr (P := Try.prog) Try.underlying32 Try.underlying38 (by kernel_rfl) (k := .i64) c (by rw [hbl]; exact hcN)
  obtain ⟨u, ldu, hu⟩ := hbs.load (P := Try.prog) Try.underlying38 rfl c (by rw [hbl]; exact hcN)
  have hrow : (besM N fs)[c]'(by rw [hbl]; exact hcN) = (besM N fs).getD c [] := (getD_of (by rw [hbl]; exact hcN)).symm
  rw [hrow] at hu
  have hfR := hRd.inR
  have hasc := besM_asc fs hfR hRd.asc c
  have hmem : ∀ w : Nat, (w : Int) ∈ (besM N fs).getD c [] ↔ adj fs c w := fun w => besM_mem hfR c w
  have hnat : ∀ x ∈ (besM N fs).getD c [], ∃ w : Nat, x = (w : Int) ∧ w < N := fun x hx => besM_nat hfR hx
  have hrl := besM_rows N fs _ (List.getElem_mem (by rw [hbl]; exact hcN) : (besM N fs)[c]'(by rw [hbl]; exact hcN) ∈ besM N fs)
  rw [hrow] at hrl
  have h594 : fs.length ≤ 594 := hRd.len
  generalize (besM N fs).getD c [] = R at *
  have lu := fun g => hu.len (P := Try.prog) Try.underlying38 g
  simp only [kS1, bLookup, bMapSet, wantA, isCall, stepOp, evalO, evalL, evalP, evalM, putDst, flat, kA, kB, Nat.reduceLT, ↓reduceIte, kC, Nat.reduceEqDiff, aBuiltin, abinG, guardFree, abin, aInt, aUn, aNilCheck, retQ, retQ1, aresults, aresultL, aresult, mkF, undefV, reduceCtorEq, kD, kE, kF, kG, kH, kI, kJ, kK, aExtract, calleeOf, ac, ldu, lu]
  have lq11 := (lq.trans l10).trans l11
  have hL11 := hL.le Stays.isI l11
  refine KLoop.intro (fun k fr hq' => ∃ (i : Nat), k = R.length - i ∧ i ≤ R.length ∧ fr = mkF [(5, .pointer (some ⟨P2, 0, none⟩)), (9, .int .i64 (a : Int)), (11, .int .i64 (((R.take i).filter fun x => decide (∃ v, v < N ∧ D c v = a ∧ D x.toNat v + 1 = a)).length : Nat)), (12, lv), (114, u), (115, .int .i64 R.length), (116, .int .i64 i)] ∧ Le h11 hq')
   R.length [(5, .pointer (some ⟨P2, 0, none⟩)), (9, .int .i64 (a : Int)), (11, .int .i64 (0 : Nat)), (12, lv), (114, u), (115, .int .i64 R.length), (116, .int .i64 (0 : Nat))] (by simp only [hasAll, kS1, bLookup, bMapSet, wantA, isCall, stepOp, evalO, evalL, evalP, evalM, putDst, flat, kA, kB, Nat.reduceLT, ↓reduceIte, kC, Nat.reduceEqDiff, aBuiltin, abinG, guardFree, abin, aInt, aUn, aNilCheck, retQ, retQ1, aresults, aresultL, aresult, mkF, undefV, reduceCtorEq, kD, kE, kF, kG, kH, kI, kJ, kK, aExtract, calleeOf]; simp) ⟨0, rfl, Nat.zero_le _, rfl, Le.refl _⟩ ?_
  rintro k fr hq' hwq' ⟨i, rfl, hi, rfl, lq'⟩
  simp only [kS1, bLookup, bMapSet, wantA, isCall, stepOp, evalO, evalL, evalP, evalM, putDst, flat, kA, kB, Nat.reduceLT, ↓reduceIte, kC, Nat.reduceEqDiff, aBuiltin, abinG, guardFree, abin, aInt, aUn, aNilCheck, retQ, retQ1, aresults, aresultL, aresult, mkF, undefV, reduceCtorEq, kD, kE, kF, kG, kH, kI, kJ, kK, aExtract, calleeOf]
  refine KCond.intro (fun ht => ?_) (fun hf => ?_)
  ·have hlt : i < R.length := lt_t ht
   clear ht
   obtain ⟨w, hw1, hwN⟩ := hnat _ (List.getElem_mem hlt)
   have tk : R.take (i + 1) = R.take i ++ [R[i]] := List.take_succ_eq_append_getElem hlt
   have aw := hu.addr (P := Try.prog) Try.underlying38 Try.underlying3 (by kernel_rfl) (k := .i64) i hlt
   have lw := (hu.le Stays.isI lq').loadI (P := Try.prog) Try.underlying3 rfl i hlt
   rw [hw1] at lw tk
   have Qq' := L6' hq' (lq11.trans lq')
   have hfl := List.length_filter_le (fun x => decide (∃ v, v < N ∧ D c v = a ∧ D x.toNat v + 1 = a)) (R.take i)
   rw [List.length_take] at hfl
   have hwi := awrap_succ i (by omega)
   simp only [kS1, bLookup, bMapSet, wantA, isCall, stepOp, evalO, evalL, evalP, evalM, putDst, flat, kA, kB, Nat.reduceLT, ↓reduceIte, kC, Nat.reduceEqDiff, aBuiltin, abinG, guardFree, abin, aInt, aUn, aNilCheck, retQ, retQ1, aresults, aresultL, aresult, mkF, undefV, reduceCtorEq, kD, kE, kF, kG, kH, kI, kJ, kK, aExtract, calleeOf, aw, lw, Qq'.1]
   refine KCall.intro (by simp only [kS1, bLookup, bMapSet, wantA, isCall, stepOp, evalO, evalL, evalP, evalM, putDst, flat, kA, kB, Nat.reduceLT, ↓reduceIte, kC, Nat.reduceEqDiff, aBuiltin, abinG, guardFree, abin, aInt, aUn, aNilCheck, retQ, retQ1, aresults, aresultL, aresult, mkF, undefV, reduceCtorEq, kD, kE, kF, kG, kH, kI, kJ, kK, aExtract, calleeOf] <;> rfl) ⟨Try.func54, rfl, by decide⟩ (Away_any W0 _ ⟨(N : Int), fs⟩ (w : Int) hq' (hwl hq' (lq11.trans lq'))) ?_
   rintro x h12 w12 ⟨l12, lw2, e, rfl, ⟨a1, _⟩ | ⟨_, a1, _⟩ | ⟨_, _, _, rfl, M, hM, hG⟩⟩
   ·exact absurd hRd a1
   ·exact absurd ⟨by omega, by simp only; omega⟩ a1
   simp only [Int.toNat_natCast] at hG
   have hMl : M.length = N := hG.len
   have atw : ∀ v, v < N → M[v]? = some ((D w v : Nat) : Int) := fun v hv => T.far_is hG hadj (fun u hu => hcon w u hwN hu) hwN hv
   have lM := fun g => hM.len (P := Try.prog) Try.underlying38 g
   rw [hMl] at lM
   simp only [kS1, bLookup, bMapSet, wantA, isCall, stepOp, evalO, evalL, evalP, evalM, putDst, flat, kA, kB, Nat.reduceLT, ↓reduceIte, kC, Nat.reduceEqDiff, aBuiltin, abinG, guardFree, abin, aInt, aUn, aNilCheck, retQ, retQ1, aresults, aresultL, aresult, mkF, undefV, reduceCtorEq, kD, kE, kF, kG, kH, kI, kJ, kK, aExtract, calleeOf, d0, bne, lM]
   generalize hws : ((R.take i).filter fun x => decide (∃ v, v < N ∧ D c v = a ∧ D x.toNat v + 1 = a)).length = W at *
   have hwW := awrap_succ W (lt_big hfl hlt hrl h594)
   refine KLoop.intro (fun k fr hr' => ∃ (j : Nat), k = N - j ∧ j ≤ N ∧ fr = mkF [(5, .pointer (some ⟨P2, 0, none⟩)), (9, .int .i64 (a : Int)), (11, .int .i64 (W : Nat)), (12, lv), (16, lw2), (114, u), (115, .int .i64 R.length), (116, .int .i64 i), (129, .int .i64 (N : Nat)), (130, .int .i64 j)] ∧ hr' = h12 ∧ ∀ v, v < j → ¬ (D c v = a ∧ D w v + 1 = a))
    N [(5, .pointer (some ⟨P2, 0, none⟩)), (9, .int .i64 (a : Int)), (11, .int .i64 (W : Nat)), (12, lv), (16, lw2), (114, u), (115, .int .i64 R.length), (116, .int .i64 i), (129, .int .i64 (N : Nat)), (130, .int .i64 (0 : Nat))] (by simp only [hasAll, kS1, bLookup, bMapSet, wantA, isCall, stepOp, evalO, evalL, evalP, evalM, putDst, flat, kA, kB, Nat.reduceLT, ↓reduceIte, kC, Nat.reduceEqDiff, aBuiltin, abinG, guardFree, abin, aInt, aUn, aNilCheck, retQ, retQ1, aresults, aresultL, aresult, mkF, undefV, reduceCtorEq, kD, kE, kF, kG, kH, kI, kJ, kK, aExtract, calleeOf]; simp) ⟨0, rfl, Nat.zero_le _, rfl, rfl, fun v hv => by omega⟩ ?_
   rintro k fr hr' - ⟨j, rfl, hjN, rfl, rfl, hno⟩
   simp only [kS1, bLookup, bMapSet, wantA, isCall, stepOp, evalO, evalL, evalP, evalM, putDst, flat, kA, kB, Nat.reduceLT, ↓reduceIte, kC, Nat.reduceEqDiff, aBuiltin, abinG, guardFree, abin, aInt, aUn, aNilCheck, retQ, retQ1, aresults, aresultL, aresult, mkF, undefV, reduceCtorEq, kD, kE, kF, kG, kH, kI, kJ, kK, aExtract, calleeOf]
   refine KCond.intro (fun ht => ?_) (fun hf => ?_)
   ·have hjt : j < N := lt_t ht
    clear ht
    have e1 := atc j hjt
    have e2 := atw j hjt
    have a1 := hL11.addr (P := Try.prog) Try.underlying38 Try.underlying3 (by kernel_rfl) (k := .i64) j (by omega)
    have l1 := (hL11.le Stays.isI (lq'.trans l12)).loadI (P := Try.prog) Try.underlying3 rfl j (by omega)
    have a2 := hM.addr (P := Try.prog) Try.underlying38 Try.underlying3 (by kernel_rfl) (k := .i64) j (by omega)
    have l2 := hM.loadI (P := Try.prog) Try.underlying3 rfl j (by omega)
    have g1 : L[j] = ((D c j : Nat) : Int) := by rw [List.getElem?_eq_getElem (by omega)] at e1; injection e1
    have g2 : M[j] = ((D w j : Nat) : Int) := by rw [List.getElem?_eq_getElem (by omega)] at e2; injection e2
    rw [g1] at l1
    rw [g2] at l2
    have hwa : awrap .i64 ((a : Int) - 1) = (a : Int) - 1 := by
     have hmx := hmax.2
     obtain ⟨y, hy, ey⟩ := hmx
     have := atc y hy
     have := hF.bd y _ this
     exact awrap_in _ (by omega) (by omega)
    have hwj := awrap_succ j (by omega)
    by_cases c1 : D c j = a
    ·have k1 : decide (((D c j : Nat) : Int) = (a : Int)) = true := dec_e1 c1
     by_cases c2 : D w j + 1 = a
     ·have k2 : decide (((D w j : Nat) : Int) = (a : Int) - 1) = true := dec_m1 c2
      simp only [kS1, bLookup, bMapSet, wantA, isCall, stepOp, evalO, evalL, evalP, evalM, putDst, flat, kA, kB, Nat.reduceLT, ↓reduceIte, kC, Nat.reduceEqDiff, aBuiltin, abinG, guardFree, abin, aInt, aUn, aNilCheck, retQ, retQ1, aresults, aresultL, aresult, mkF, undefV, reduceCtorEq, kD, kE, kF, kG, kH, kI, kJ, kK, aExtract, calleeOf, a1, l1, a2, l2, k1, hwa, k2, hwW, hwi]
      have hg : ∃ v, v < N ∧ D c v = a ∧ D w v + 1 = a := ⟨j, hjt, c1, c2⟩
      exact loop_again (R.length - (i + 1)) [(5, .pointer (some ⟨P2, 0, none⟩)), (9, .int .i64 (a : Int)), (11, .int .i64 (W + 1 : Nat)), (12, lv), (114, u), (115, .int .i64 R.length), (116, .int .i64 (i + 1 : Nat))] (sub_step hlt) (by simp only [hasAll, kS1, bLookup, bMapSet, wantA, isCall, stepOp, evalO, evalL, evalP, evalM, putDst, flat, kA, kB, Nat.reduceLT, ↓reduceIte, kC, Nat.reduceEqDiff, aBuiltin, abinG, guardFree, abin, aInt, aUn, aNilCheck, retQ, retQ1, aresults, aresultL, aresult, mkF, undefV, reduceCtorEq, kD, kE, kF, kG, kH, kI, kJ, kK, aExtract, calleeOf]; simp)
       ⟨i + 1, rfl, hlt, by rw [tk, List.filter_append, List.length_append, hws, List.filter_cons, if_pos (by rw [decide_eq_true_eq, Int.toNat_natCast]; exact hg)]; rfl, lq'.trans l12⟩
     ·have k2 : decide (((D w j : Nat) : Int) = (a : Int) - 1) = false := dec_m2 c2
      simp only [kS1, bLookup, bMapSet, wantA, isCall, stepOp, evalO, evalL, evalP, evalM, putDst, flat, kA, kB, Nat.reduceLT, ↓reduceIte, kC, Nat.reduceEqDiff, aBuiltin, abinG, guardFree, abin, aInt, aUn, aNilCheck, retQ, retQ1, aresults, aresultL, aresult, mkF, undefV, reduceCtorEq, kD, kE, kF, kG, kH, kI, kJ, kK, aExtract, calleeOf, a1, l1, a2, l2, k1, hwa, k2, hwj]
      exact loop_again (N - (j + 1)) [(5, .pointer (some ⟨P2, 0, none⟩)), (9, .int .i64 (a : Int)), (11, .int .i64 (W : Nat)), (12, lv), (16, lw2), (114, u), (115, .int .i64 R.length), (116, .int .i64 i), (129, .int .i64 (N : Nat)), (130, .int .i64 (j + 1 : Nat))] (sub_step hjt) (by simp only [hasAll, kS1, bLookup, bMapSet, wantA, isCall, stepOp, evalO, evalL, evalP, evalM, putDst, flat, kA, kB, Nat.reduceLT, ↓reduceIte, kC, Nat.reduceEqDiff, aBuiltin, abinG, guardFree, abin, aInt, aUn, aNilCheck, retQ, retQ1, aresults, aresultL, aresult, mkF, undefV, reduceCtorEq, kD, kE, kF, kG, kH, kI, kJ, kK, aExtract, calleeOf]; simp)
       ⟨j + 1, rfl, hjt, rfl, rfl, no_step hno fun h => c2 h.2⟩
    ·have k1 : decide (((D c j : Nat) : Int) = (a : Int)) = false := dec_e2 c1
     simp only [kS1, bLookup, bMapSet, wantA, isCall, stepOp, evalO, evalL, evalP, evalM, putDst, flat, kA, kB, Nat.reduceLT, ↓reduceIte, kC, Nat.reduceEqDiff, aBuiltin, abinG, guardFree, abin, aInt, aUn, aNilCheck, retQ, retQ1, aresults, aresultL, aresult, mkF, undefV, reduceCtorEq, kD, kE, kF, kG, kH, kI, kJ, kK, aExtract, calleeOf, a1, l1, k1, hwj]
     exact loop_again (N - (j + 1)) [(5, .pointer (some ⟨P2, 0, none⟩)), (9, .int .i64 (a : Int)), (11, .int .i64 (W : Nat)), (12, lv), (16, lw2), (114, u), (115, .int .i64 R.length), (116, .int .i64 i), (129, .int .i64 (N : Nat)), (130, .int .i64 (j + 1 : Nat))] (sub_step hjt) (by simp only [hasAll, kS1, bLookup, bMapSet, wantA, isCall, stepOp, evalO, evalL, evalP, evalM, putDst, flat, kA, kB, Nat.reduceLT, ↓reduceIte, kC, Nat.reduceEqDiff, aBuiltin, abinG, guardFree, abin, aInt, aUn, aNilCheck, retQ, retQ1, aresults, aresultL, aresult, mkF, undefV, reduceCtorEq, kD, kE, kF, kG, kH, kI, kJ, kK, aExtract, calleeOf]; simp)
      ⟨j + 1, rfl, hjt, rfl, rfl, no_step hno fun h => c1 h.1⟩
   ·have hge : N ≤ j := lt_f hf
    simp only [kS1, bLookup, bMapSet, wantA, isCall, stepOp, evalO, evalL, evalP, evalM, putDst, flat, kA, kB, Nat.reduceLT, ↓reduceIte, kC, Nat.reduceEqDiff, aBuiltin, abinG, guardFree, abin, aInt, aUn, aNilCheck, retQ, retQ1, aresults, aresultL, aresult, mkF, undefV, reduceCtorEq, kD, kE, kF, kG, kH, kI, kJ, kK, aExtract, calleeOf, hwi]
    have hg : ¬ ∃ v, v < N ∧ D c v = a ∧ D w v + 1 = a := no_all hno hge
    exact loop_again (R.length - (i + 1)) [(5, .pointer (some ⟨P2, 0, none⟩)), (9, .int .i64 (a : Int)), (11, .int .i64 (W : Nat)), (12, lv), (114, u), (115, .int .i64 R.length), (116, .int .i64 (i + 1 : Nat))] (sub_step hlt) (by simp only [hasAll, kS1, bLookup, bMapSet, wantA, isCall, stepOp, evalO, evalL, evalP, evalM, putDst, flat, kA, kB, Nat.reduceLT, ↓reduceIte, kC, Nat.reduceEqDiff, aBuiltin, abinG, guardFree, abin, aInt, aUn, aNilCheck, retQ, retQ1, aresults, aresultL, aresult, mkF, undefV, reduceCtorEq, kD, kE, kF, kG, kH, kI, kJ, kK, aExtract, calleeOf]; simp)
     ⟨i + 1, rfl, hlt, by rw [tk, List.filter_append, List.length_append, hws, List.filter_cons, if_neg (by rw [decide_eq_true_eq, Int.toNat_natCast]; exact hg)]; rfl, lq'.trans l12⟩
  have hge : R.length ≤ i := lt_f hf
  rw [List.take_of_length_le hge]
  have two : 1 < (R.filter fun x => decide (∃ v, v < N ∧ D c v = a ∧ D x.toNat v + 1 = a)).length := by
   rw [two_len ((List.nodup_iff_pairwise_ne.2 (hasc.imp fun h e => by omega)).sublist List.filter_sublist)]
   exact ⟨(wa : Int), (wb : Int), List.mem_filter.2 ⟨(hmem wa).2 ((hadj c wa).2 ca), by rw [decide_eq_true_eq, Int.toNat_natCast]; exact ga⟩, List.mem_filter.2 ⟨(hmem wb).2 ((hadj c wb).2 cb), by rw [decide_eq_true_eq, Int.toNat_natCast]; exact gb⟩, fun e => hab (by omega)⟩
  have k3 : decide (((R.filter fun x => decide (∃ v, v < N ∧ D c v = a ∧ D x.toNat v + 1 = a)).length : Int) ≥ 2) = true := decide_eq_true (by omega)
  simp only [kS1, bLookup, bMapSet, wantA, isCall, stepOp, evalO, evalL, evalP, evalM, putDst, flat, kA, kB, Nat.reduceLT, ↓reduceIte, kC, Nat.reduceEqDiff, aBuiltin, abinG, guardFree, abin, aInt, aUn, aNilCheck, retQ, retQ1, aresults, aresultL, aresult, mkF, undefV, reduceCtorEq, kD, kE, kF, kG, kH, kI, kJ, kK, aExtract, calleeOf, k3]
  refine KCall.intro (by simp only [kS1, bLookup, bMapSet, wantA, isCall, stepOp, evalO, evalL, evalP, evalM, putDst, flat, kA, kB, Nat.reduceLT, ↓reduceIte, kC, Nat.reduceEqDiff, aBuiltin, abinG, guardFree, abin, aInt, aUn, aNilCheck, retQ, retQ1, aresults, aresultL, aresult, mkF, undefV, reduceCtorEq, kD, kE, kF, kG, kH, kI, kJ, kK, aExtract, calleeOf] <;> rfl) ⟨Try.func49, rfl, by decide⟩ (awake6_any W0 hq') ?_
  rintro x h13 w13 ⟨rfl, l13⟩
  simp only [kS1, bLookup, bMapSet, wantA, isCall, stepOp, evalO, evalL, evalP, evalM, putDst, flat, kA, kB, Nat.reduceLT, ↓reduceIte, kC, Nat.reduceEqDiff, aBuiltin, abinG, guardFree, abin, aInt, aUn, aNilCheck, retQ, retQ1, aresults, aresultL, aresult, mkF, undefV, reduceCtorEq, kD, kE, kF, kG, kH, kI, kJ, kK, aExtract, calleeOf]
  all_goals exact ⟨trivial, trivial⟩
end Go.Fw
