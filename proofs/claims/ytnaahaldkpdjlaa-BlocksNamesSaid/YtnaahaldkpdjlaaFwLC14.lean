/- A text of the proof. -/
import Derived.Test.YtnaahaldkpdjlaaFwLC13
import Derived.Test.YtnaahaldkpdjlaaFwLC2
import Derived.Test.YtnaahaldkpdjlaaFwLT5
import Derived.Test.YtnaahaldkpdjlaaFwLZ10
set_option linter.unusedSimpArgs false
set_option linter.unusedVariables false
namespace Go.Fw
open Go.Proofs
attribute [local irreducible] KO4 KO3 KO2 KO1 KO KN KX KE VK KCond KDraw KCall KLoop
set_option maxHeartbeats 16000000
set_option maxRecDepth 10000
attribute [local irreducible] lowM bridgesM cutsM blocksM keyE
theorem join_of {n : Nat} {es : List Pr} (hr : InR n es) (h0 : 0 < n) (hne : es ≠ []) (h : ∀ v, v < n → Con es 0 v) : JoinG n es := by
 refine ⟨hne, ?_⟩
 obtain ⟨a, ha, hc⟩ := head_ex hr 0 h0
 have : ∀ b ∈ heads n es, b = a := fun b hb => heads_uniq hb ha ((h b (mem_heads.1 hb).1).symm.trans hc.symm)
 exact one_len (heads_nodup n es) ha this
theorem con_of_adj {es : List Pr} {u v w : Nat} (h : Con es u v) (a : adj es v w) : Con es u w := h.step a rfl
theorem aw5_join : JoinG 6 aw5 := by
 have c0 := Con.refl aw5 0
 have c1 : Con aw5 0 1 := con_of_adj c0 (.inl (by decide))
 have c2 : Con aw5 0 2 := con_of_adj c0 (.inl (by decide))
 have c3 : Con aw5 0 3 := con_of_adj c2 (.inl (by decide))
 have c4 : Con aw5 0 4 := con_of_adj c2 (.inl (by decide))
 have c5 : Con aw5 0 5 := con_of_adj c4 (.inl (by decide))
 refine join_of aw5R.inR (by decide) (by decide) fun v hv => ?_
 match v, hv with
 | 0, _ => exact c0
 | 1, _ => exact c1
 | 2, _ => exact c2
 | 3, _ => exact c3
 | 4, _ => exact c4
 | 5, _ => exact c5
theorem row_con {n : Nat} : ∀ k, k < n → Con (rowE n) 0 k
 | 0, _ => Con.refl _ _
 | k + 1, h => con_of_adj (row_con k (by omega)) (adj_row.2 (by omega))
theorem row_join {n : Nat} (h : 2 ≤ n) : JoinG n (rowE n) := join_of (row_in n) (by omega) (fun e => by have := rowE_length n; rw [e] at this; simp at this; omega) fun v hv => row_con v hv
def lk5 : List Pr := [(0, 0), (1, 0), (1, 1), (2, 1)]
theorem aw5_tree : treeM 6 aw5 = ⟨[[(0, 1), (0, 2), (1, 2)], [(2, 3), (2, 4), (3, 4)], [(4, 5)]], [2, 4], lk5⟩ := by
 have hl : linksU [[(0, 1), (0, 2), (1, 2)], [(2, 3), (2, 4), (3, 4)], [(4, 5)]] [2, 4] 3 = lk5 := by decide +kernel
 rw [treeM, aw5_blocks, aw5_cuts]
 show TM.mk _ _ (linksU _ _ 3) = _
 rw [hl]; rfl
theorem aw5_lk : Lk 3 5 lk5 := good_lk.1 ⟨by decide, by decide, fun p hp => by
  simp [lk5] at hp
  rcases hp with rfl | rfl | rfl | rfl <;> exact ⟨by decide, by decide, by decide, by decide⟩, by decide, by decide +kernel⟩
theorem aw5_cen : cenM 3 5 lk5 = 1 := by decide +kernel
def aw3 : List Pr := [(0, 1), (1, 2)]
theorem aw3_row : rowE 3 = aw3 := by decide
theorem aw3_blocks : blocksM 3 aw3 = [[(0, 1)], [(1, 2)]] := by decide +kernel
theorem aw3_cuts : cutsM 3 aw3 = [1] := by decide +kernel
theorem aw3_tree : treeM 3 aw3 = ⟨[[(0, 1)], [(1, 2)]], [1], [(0, 0), (1, 0)]⟩ := by
 have hl : linksU [[(0, 1)], [(1, 2)]] [1] 2 = [(0, 0), (1, 0)] := by decide +kernel
 rw [treeM, aw3_blocks, aw3_cuts]
 show TM.mk _ _ (linksU _ _ 2) = _
 rw [hl]; rfl
theorem aw3_lk : Lk 2 3 [(0, 0), (1, 0)] := good_lk.1 ⟨by decide, by decide, fun p hp => by
  simp at hp
  rcases hp with rfl | rfl <;> exact ⟨by decide, by decide, by decide, by decide⟩, by decide, by decide +kernel⟩
theorem aw3_cen : cenM 2 3 [(0, 0), (1, 0)] = 2 := by decide +kernel
theorem newT {h : AHeap} (hwf : WF h) {b c l : Value} {T : TM} (hb : RL PR h b T.bs) (hc : RL isI h c T.cs) (hl : PR h l T.ls) :
  ∃ h1 h2, aAlloc Try.prog h 76 = some (.pointer (some ⟨h.next, 0, none⟩), h1) ∧ aStore Try.prog h1 76 (.pointer (some ⟨h.next, 0, none⟩)) (.agg #[b, c, l]) = some h2 ∧ Le h h2 ∧ WF h2 ∧
   ∀ g, Le h2 g → aload Try.prog g 76 ⟨h.next, 0, none⟩ = some (.agg #[b, c, l]) ∧ aload Try.prog g 28 ⟨h.next, 0, none⟩ = some b ∧ aload Try.prog g 38 ⟨h.next, 1, none⟩ = some c ∧ aload Try.prog g 22 ⟨h.next, 2, none⟩ = some l := by
 obtain ⟨h1, e1, l1, w1, o1⟩ := alloc_f hwf [.slice none 0 0, .slice none 0 0, .slice none 0 0]
 have nw : h.own h.next = none := (Le.refl h).next hwf (Nat.le_refl _)
 have st := store66 o1 (b := b) (c := c) (l := l) (by obtain ⟨a, m, k, e⟩ := hb.isS; exact ⟨a, m, k, e, hb.one⟩) (by obtain ⟨a, m, k, e⟩ := hc.isS; exact ⟨a, m, k, e, hc.one⟩) (by obtain ⟨a, m, k, e⟩ := hl.isS; exact ⟨a, m, k, e, hl.sl.one⟩)
 exact ⟨h1, _, by rw [alloc66, e1], st, l1.put _ nw, w1.put _ (w1.lt o1), fun g lg => load66 (lg.own _ _ (AHeap.own_put_eq _ _ _)) hb.isS hc.isS hl.isS⟩
theorem TR.empty (h : AHeap) : TR h emptyT ⟨[], [], []⟩ :=
 ⟨_, _, _, rfl, ⟨[], ⟨⟨none, 0, rfl, by simp⟩, fun i x hx => by simp at hx⟩, rfl, fun i x u hx => by simp at hx⟩, ⟨[], ⟨⟨none, 0, rfl, by simp⟩, fun i x hx => by simp at hx⟩, rfl, fun i x u hx => by simp at hx⟩, PR.nil h⟩
theorem awake6_any (W0 : Base) (h : AHeap) : AC Try.prog W0 49 [] h fun x h' => x = .bool true ∧ Le h h' := by
 refine AC.vc (fn := Try.f49) (c := _) ⟨Try.func49, rfl, by decide⟩ Try.ntmps49 Try.results49 (by simp) fun hwf => ?_
 simp only [argFrame, argFrom, Nat.reduceAdd]
 obtain ⟨h1, e1, l1, w1, o1⟩ := alloc_f hwf (flatP aw5)
 have hp1 : PR h1 (.slice (some ⟨h.next, 0, none⟩) 7 7) aw5 := PR.made o1 rfl
 have mk : aBuildSlice Try.prog h 22 7 [(0, valP (0, 1)), (1, valP (0, 2)), (2, valP (1, 2)), (3, valP (2, 3)), (4, valP (2, 4)), (5, valP (3, 4)), (6, valP (4, 5))] = some (.slice (some ⟨h.next, 0, none⟩) 7 7, h1) := by rw [mkP7, ← e1]; rfl
 have bld := build24 (n := 6) hp1.sl
 simp only [kS1, bLookup, bMapSet, wantA, isCall, stepOp, evalO, evalL, evalP, evalM, putDst, flat, kA, kB, Nat.reduceLT, ↓reduceIte, kC, Nat.reduceEqDiff, aBuiltin, abinG, guardFree, abin, aInt, aUn, aNilCheck, retQ, retQ1, aresults, aresultL, aresult, mkF, undefV, reduceCtorEq, kD, kE, kF, kG, kH, kI, kJ, kK, aExtract, calleeOf, bP2, mk, bld]
 generalize Value.slice (some ⟨h.next, 0, none⟩) 7 7 = ev at *
 refine KCall.intro (by simp only [kS1, bLookup, bMapSet, wantA, isCall, stepOp, evalO, evalL, evalP, evalM, putDst, flat, kA, kB, Nat.reduceLT, ↓reduceIte, kC, Nat.reduceEqDiff, aBuiltin, abinG, guardFree, abin, aInt, aUn, aNilCheck, retQ, retQ1, aresults, aresultL, aresult, mkF, undefV, reduceCtorEq, kD, kE, kF, kG, kH, kI, kJ, kK, aExtract, calleeOf] <;> rfl) ⟨Try.func50, rfl, by decide⟩ (Tree_any W0 _ ⟨6, aw5⟩ h1 ⟨ev, rfl, hp1⟩) ?_
 rintro x h2 w2 ⟨l2, ⟨hn, _⟩ | ⟨_, hn, _⟩ | ⟨_, _, tv, rfl, ht⟩⟩
 ·exact absurd aw5R hn
 ·exact absurd aw5_join hn
 have ht : TR h2 tv ⟨[[(0, 1), (0, 2), (1, 2)], [(2, 3), (2, 4), (3, 4)], [(4, 5)]], [2, 4], lk5⟩ := by rw [← aw5_tree]; exact ht
 have ht0 := ht
 obtain ⟨kv, cv, lv, rfl, hk, hc, hl⟩ := ht
 obtain ⟨h3', h3, a3, s3, l3, w3, lT⟩ := newT (T := ⟨[[(0, 1), (0, 2), (1, 2)], [(2, 3), (2, 4), (3, 4)], [(4, 5)]], [2, 4], lk5⟩) w2 hk hc hl
 obtain ⟨h4, e4, l4, w4, o4⟩ := alloc_f w3 (flatP aw3)
 have hp4 : PR h4 (.slice (some ⟨h3.next, 0, none⟩) 2 2) aw3 := PR.made o4 rfl
 have mkq : aBuildSlice Try.prog h3 22 2 [(0, valP (0, 1)), (1, valP (1, 2))] = some (.slice (some ⟨h3.next, 0, none⟩) 2 2, h4) := by rw [mkP2, ← e4]; rfl
 have bld2 := build24 (n := 3) hp4.sl
 simp only [kS1, bLookup, bMapSet, wantA, isCall, stepOp, evalO, evalL, evalP, evalM, putDst, flat, kA, kB, Nat.reduceLT, ↓reduceIte, kC, Nat.reduceEqDiff, aBuiltin, abinG, guardFree, abin, aInt, aUn, aNilCheck, retQ, retQ1, aresults, aresultL, aresult, mkF, undefV, reduceCtorEq, kD, kE, kF, kG, kH, kI, kJ, kK, aExtract, calleeOf, a3, s3, bP2, mkq, bld2]
 generalize h2.next = T1 at *
 generalize Value.slice (some ⟨h3.next, 0, none⟩) 2 2 = ev2 at *
 have h3R : RightG ⟨((3 : Nat) : Int), aw3⟩ := by rw [← aw3_row]; exact row_right (by decide)
 have h3J : JoinG 3 aw3 := by rw [← aw3_row]; exact row_join (by decide)
 refine KCall.intro (by simp only [kS1, bLookup, bMapSet, wantA, isCall, stepOp, evalO, evalL, evalP, evalM, putDst, flat, kA, kB, Nat.reduceLT, ↓reduceIte, kC, Nat.reduceEqDiff, aBuiltin, abinG, guardFree, abin, aInt, aUn, aNilCheck, retQ, retQ1, aresults, aresultL, aresult, mkF, undefV, reduceCtorEq, kD, kE, kF, kG, kH, kI, kJ, kK, aExtract, calleeOf] <;> rfl) ⟨Try.func50, rfl, by decide⟩ (Tree_any W0 _ ⟨((3 : Nat) : Int), aw3⟩ h4 ⟨ev2, rfl, hp4⟩) ?_
 rintro x h5 w5 ⟨l5, ⟨hn, _⟩ | ⟨_, hn, _⟩ | ⟨_, _, tv2, rfl, ht2⟩⟩
 ·exact absurd h3R hn
 ·exact absurd h3J hn
 have ht2 : TR h5 tv2 ⟨[[(0, 1)], [(1, 2)]], [1], [(0, 0), (1, 0)]⟩ := by rw [← aw3_tree]; exact ht2
 have ht20 := ht2
 obtain ⟨kv2, cv2, lv2, rfl, hk2, hc2, hl2⟩ := ht2
 obtain ⟨h6', h6, a6, s6, l6, w6, lT2⟩ := newT (T := ⟨[[(0, 1)], [(1, 2)]], [1], [(0, 0), (1, 0)]⟩) w5 hk2 hc2 hl2
 have l36 := (l4.trans l5).trans l6
 simp only [kS1, bLookup, bMapSet, wantA, isCall, stepOp, evalO, evalL, evalP, evalM, putDst, flat, kA, kB, Nat.reduceLT, ↓reduceIte, kC, Nat.reduceEqDiff, aBuiltin, abinG, guardFree, abin, aInt, aUn, aNilCheck, retQ, retQ1, aresults, aresultL, aresult, mkF, undefV, reduceCtorEq, kD, kE, kF, kG, kH, kI, kJ, kK, aExtract, calleeOf, a6, s6, (lT h6 l36).1]
 generalize h5.next = T2 at *
 refine KCall.intro (by simp only [kS1, bLookup, bMapSet, wantA, isCall, stepOp, evalO, evalL, evalP, evalM, putDst, flat, kA, kB, Nat.reduceLT, ↓reduceIte, kC, Nat.reduceEqDiff, aBuiltin, abinG, guardFree, abin, aInt, aUn, aNilCheck, retQ, retQ1, aresults, aresultL, aresult, mkF, undefV, reduceCtorEq, kD, kE, kF, kG, kH, kI, kJ, kK, aExtract, calleeOf] <;> rfl) ⟨Try.func52, rfl, by decide⟩ (Centre_any W0 _ _ h6 (ht0.le (l3.trans l36)) 5 rfl (by decide) (by decide)) ?_
 rintro x h7 w7 ⟨l7, ⟨hn, _⟩ | ⟨_, rfl⟩⟩
 ·exact absurd aw5_lk hn
 have hx7 : centV 3 (cenM 3 5 lk5) = .tuple #[.bool true, .int .i64 1] := by rw [aw5_cen]; rfl
 rw [show (⟨[[(0, 1), (0, 2), (1, 2)], [(2, 3), (2, 4), (3, 4)], [(4, 5)]], [2, 4], lk5⟩ : TM).bs.length = 3 from rfl, hx7]
 simp only [kS1, bLookup, bMapSet, wantA, isCall, stepOp, evalO, evalL, evalP, evalM, putDst, flat, kA, kB, Nat.reduceLT, ↓reduceIte, kC, Nat.reduceEqDiff, aBuiltin, abinG, guardFree, abin, aInt, aUn, aNilCheck, retQ, retQ1, aresults, aresultL, aresult, mkF, undefV, reduceCtorEq, kD, kE, kF, kG, kH, kI, kJ, kK, aExtract, calleeOf, (lT2 h7 l7).1]
 refine KCall.intro (by simp only [kS1, bLookup, bMapSet, wantA, isCall, stepOp, evalO, evalL, evalP, evalM, putDst, flat, kA, kB, Nat.reduceLT, ↓reduceIte, kC, Nat.reduceEqDiff, aBuiltin, abinG, guardFree, abin, aInt, aUn, aNilCheck, retQ, retQ1, aresults, aresultL, aresult, mkF, undefV, reduceCtorEq, kD, kE, kF, kG, kH, kI, kJ, kK, aExtract, calleeOf] <;> rfl) ⟨Try.func52, rfl, by decide⟩ (Centre_any W0 _ _ h7 (ht20.le (l6.trans l7)) 3 rfl (by decide) (by decide)) ?_
 rintro x h8 w8 ⟨l8, ⟨hn, _⟩ | ⟨_, rfl⟩⟩
 ·exact absurd aw3_lk hn
 have hx8 : centV 2 (cenM 2 3 [(0, 0), (1, 0)]) = .tuple #[.bool false, .int .i64 0] := by rw [aw3_cen]; rfl
 rw [show (⟨[[(0, 1)], [(1, 2)]], [1], [(0, 0), (1, 0)]⟩ : TM).bs.length = 2 from rfl, hx8]
 simp only [kS1, bLookup, bMapSet, wantA, isCall, stepOp, evalO, evalL, evalP, evalM, putDst, flat, kA, kB, Nat.reduceLT, ↓reduceIte, kC, Nat.reduceEqDiff, aBuiltin, abinG, guardFree, abin, aInt, aUn, aNilCheck, retQ, retQ1, aresults, aresultL, aresult, mkF, undefV, reduceCtorEq, kD, kE, kF, kG, kH, kI, kJ, kK, aExtract, calleeOf, build66e]
 refine KCall.intro (by simp only [kS1, bLookup, bMapSet, wantA, isCall, stepOp, evalO, evalL, evalP, evalM, putDst, flat, kA, kB, Nat.reduceLT, ↓reduceIte, kC, Nat.reduceEqDiff, aBuiltin, abinG, guardFree, abin, aInt, aUn, aNilCheck, retQ, retQ1, aresults, aresultL, aresult, mkF, undefV, reduceCtorEq, kD, kE, kF, kG, kH, kI, kJ, kK, aExtract, calleeOf] <;> rfl) ⟨Try.func52, rfl, by decide⟩ (Centre_any W0 emptyT ⟨[], [], []⟩ h8 (TR.empty h8) 0 rfl (by decide) (by decide)) ?_
 rintro x h9 w9 ⟨l9, ⟨_, rfl⟩ | ⟨hK, _⟩⟩
 rotate_left
 ·exact absurd rfl hK.n0
 have l39 := ((l36.trans l7).trans l8).trans l9
 have F := lT h9 l39
 have F2 := lT2 h9 ((l7.trans l8).trans l9)
 have lk3 : ∀ g, aLen Try.prog g 28 kv = some (.int .i64 ((3 : Nat) : Int)) := fun g => hk.len (P := Try.prog) Try.underlying28 g
 have lk2 : ∀ g, aLen Try.prog g 28 kv2 = some (.int .i64 ((2 : Nat) : Int)) := fun g => hk2.len (P := Try.prog) Try.underlying28 g
 have d3 : decide (((3 : Nat) : Int) = 3) = true := by decide
 have d2 : decide (((2 : Nat) : Int) = 2) = true := by decide
 have d0 : decide ((0 : Int) = 0) = true := by decide
 have d1 : decide ((1 : Int) = 1) = true := by decide
 have dm : decide ((-1 : Int) = -1) = true := by decide
 obtain ⟨h10, e10, l10, w10, o10⟩ := alloc_f w9 (I64 [2, 4])
 have mk3 : aBuildSlice Try.prog h9 38 2 [(0, .int .i64 2), (1, .int .i64 4)] = some (.slice (some ⟨h9.next, 0, none⟩) 2 2, h10) := by rw [mk2, ← e10]; rfl
 have r3 : RL isI h10 (.slice (some ⟨h9.next, 0, none⟩) 2 2) [2, 4] := RL.ofI (RS.whole o10 rfl)
 have F10 := lT h10 (l39.trans l10)
 simp only [kS1, bLookup, bMapSet, wantA, isCall, stepOp, evalO, evalL, evalP, evalM, putDst, flat, kA, kB, Nat.reduceLT, ↓reduceIte, kC, Nat.reduceEqDiff, aBuiltin, abinG, guardFree, abin, aInt, aUn, aNilCheck, retQ, retQ1, aresults, aresultL, aresult, mkF, undefV, reduceCtorEq, kD, kE, kF, kG, kH, kI, kJ, kK, aExtract, calleeOf, wr0, d0, tf0, tf1, tf2, aadd, Nat.zero_add, F.2.1, F.2.2.1, lk3, d3, mk3]
 generalize Value.slice (some ⟨h9.next, 0, none⟩) 2 2 = iv at *
 refine KCall.intro (by simp only [kS1, bLookup, bMapSet, wantA, isCall, stepOp, evalO, evalL, evalP, evalM, putDst, flat, kA, kB, Nat.reduceLT, ↓reduceIte, kC, Nat.reduceEqDiff, aBuiltin, abinG, guardFree, abin, aInt, aUn, aNilCheck, retQ, retQ1, aresults, aresultL, aresult, mkF, undefV, reduceCtorEq, kD, kE, kF, kG, kH, kI, kJ, kK, aExtract, calleeOf] <;> rfl) ⟨Try.func25, rfl, by decide⟩ (SameInts_any W0 cv iv [2, 4] [2, 4] h10 (hc.le Stays.isI ((l3.trans l39).trans l10)) r3 (by decide)) ?_
 rintro x h11 w11 ⟨hx, rfl⟩
 obtain rfl : x = .bool true := by rw [hx]; rfl
 obtain ⟨h12, e12, l12, w12, o12⟩ := alloc_f w11 (flatP lk5)
 have mk4 : aBuildSlice Try.prog h11 22 4 [(0, valP (0, 0)), (1, valP (1, 0)), (2, valP (1, 1)), (3, valP (2, 1))] = some (.slice (some ⟨h11.next, 0, none⟩) 4 4, h12) := by rw [mkP4, ← e12]; rfl
 have r4 : PR h12 (.slice (some ⟨h11.next, 0, none⟩) 4 4) lk5 := PR.made o12 rfl
 simp only [kS1, bLookup, bMapSet, wantA, isCall, stepOp, evalO, evalL, evalP, evalM, putDst, flat, kA, kB, Nat.reduceLT, ↓reduceIte, kC, Nat.reduceEqDiff, aBuiltin, abinG, guardFree, abin, aInt, aUn, aNilCheck, retQ, retQ1, aresults, aresultL, aresult, mkF, undefV, reduceCtorEq, kD, kE, kF, kG, kH, kI, kJ, kK, aExtract, calleeOf, wr0, d0, tf0, tf1, tf2, aadd, Nat.zero_add, F10.2.2.2, bP2, mk4]
 generalize Value.slice (some ⟨h11.next, 0, none⟩) 4 4 = pv at *
 refine KCall.intro (by simp only [kS1, bLookup, bMapSet, wantA, isCall, stepOp, evalO, evalL, evalP, evalM, putDst, flat, kA, kB, Nat.reduceLT, ↓reduceIte, kC, Nat.reduceEqDiff, aBuiltin, abinG, guardFree, abin, aInt, aUn, aNilCheck, retQ, retQ1, aresults, aresultL, aresult, mkF, undefV, reduceCtorEq, kD, kE, kF, kG, kH, kI, kJ, kK, aExtract, calleeOf] <;> rfl) ⟨Try.func24, rfl, by decide⟩ (SamePairs_any W0 lv pv lk5 lk5 h12 (hl.le (((l3.trans l39).trans l10).trans l12)) r4 (by decide)) ?_
 rintro x h13 w13 ⟨hx, rfl⟩
 obtain rfl : x = .bool true := by rw [hx]; simp
 have G2 := lT2 h13 ((((l7.trans l8).trans l9).trans l10).trans l12)
 simp only [kS1, bLookup, bMapSet, wantA, isCall, stepOp, evalO, evalL, evalP, evalM, putDst, flat, kA, kB, Nat.reduceLT, ↓reduceIte, kC, Nat.reduceEqDiff, aBuiltin, abinG, guardFree, abin, aInt, aUn, aNilCheck, retQ, retQ1, aresults, aresultL, aresult, mkF, undefV, reduceCtorEq, kD, kE, kF, kG, kH, kI, kJ, kK, aExtract, calleeOf, wr0, d0, d1, d2, dm, tf0, tf1, tf2, aadd, Nat.zero_add, G2.2.1, lk2]
 exact ⟨trivial, ((((l1.trans l2).trans (l3.trans l39)).trans l10).trans l12)⟩
end Go.Fw
