/- A text of the proof. -/
import Derived.Test.YtnaahaldkpdjlaaFwLF2
import Derived.Test.YtnaahaldkpdjlaaFwLW8
set_option linter.unusedSimpArgs false
set_option linter.unusedVariables false
namespace Go.Fw
open Go.Proofs
attribute [local irreducible] KO4 KO3 KO2 KO1 KO KN KX KE VK KCond KDraw KCall KLoop
set_option maxHeartbeats 16000000
set_option maxRecDepth 10000
attribute [local irreducible] toldE toldR
theorem newE4 {h : AHeap} (hw : WF h) : ∃ h1 h2, aAlloc Try.prog h 24 = some (.pointer (some ⟨h.next, 0, none⟩), h1) ∧ aStore Try.prog h1 24 (.pointer (some ⟨h.next, 0, none⟩)) emptyG = some h2 ∧ Le h h2 ∧ WF h2 := by
 obtain ⟨h1, e1, l1, w1, o1⟩ := alloc_f hw [.int .i64 0, .slice none 0 0]
 have nw : h.own h.next = none := (Le.refl h).next hw (Nat.le_refl _)
 have st := store24 (n := 0) (ev := .slice none 0 0) o1 rfl rfl
 exact ⟨h1, _, by rw [alloc24, e1], st, l1.put _ nw, w1.put _ (w1.lt o1)⟩
theorem toldR_step (v : Nat) (l : List Int) {j : Nat} (h : j < l.length) : toldR v (l.take (j + 1)) = toldR v (l.take j) ++ if (v : Int) < l[j] then [((v : Int), l[j])] else [] := by
 unfold toldR
 rw [List.take_succ_eq_append_getElem h, List.filter_append, List.map_append]
 congr 1
 by_cases c : (v : Int) < l[j]
 ·rw [if_pos c, List.filter_cons, if_pos (by simpa using c)]; rfl
 ·rw [if_neg c, List.filter_cons, if_neg (by simpa using c)]; rfl
theorem toldR_len (v : Nat) (l : List Int) : (toldR v l).length ≤ l.length := by
 unfold toldR; rw [List.length_map]; exact List.length_filter_le _ _
theorem toldE_succ (rs : List (List Int)) (k : Nat) : toldE rs (k + 1) = toldE rs k ++ toldR k (rs.getD k []) := by rw [toldE]
theorem toldE_zero (rs : List (List Int)) : toldE rs 0 = [] := by rw [toldE]
theorem row_small {n : Nat} {es : List Pr} {rs : List (List Int)} (hR : InR n es) (hA : Asc es) (G : RotG n es rs) {v : Nat} (hv : v < n) : (rs.getD v []).length < n := by
 have IR := G.isRot hR hA
 have h1 : (rotN rs v).length = (rs.getD v []).length := by rw [rotN, List.length_map]
 have h2 := sub_len (IR.nd v) (B := (List.range n).erase v) fun w hw => (List.nodup_range.mem_erase_iff).2 ⟨fun e => IR.ir v (by rw [e] at hw; exact hw), List.mem_range.2 (IR.lt w v (IR.sy _ _ hw))⟩
 rw [List.length_erase_of_mem (List.mem_range.2 hv), List.length_range] at h2
 omega
theorem len_step {a i r N : Nat} (h : a ≤ i * N) (h2 : r ≤ N) : a + r ≤ (i + 1) * N := by rw [Nat.add_mul]; omega
theorem len_bd {a i N : Nat} (h : a ≤ i * N) (hi : i ≤ 200) (hN : N ≤ 200) : a ≤ 40000 := by
 have : i * N ≤ 200 * 200 := Nat.mul_le_mul hi hN
 omega
theorem told_any (W0 : Base) (rv : Value) (rs : List (List Int)) (h : AHeap) (hv : RL (RL isI) h rv rs) :
  AC Try.prog W0 72 [rv] h fun x h' => Le h h' ∧ ((x = .tuple #[emptyG, .bool false] ∧ ¬ ∃ es, RightG ⟨(rs.length : Int), es⟩ ∧ RotG rs.length es rs) ∨
   ∃ es ev, RightG ⟨(rs.length : Int), es⟩ ∧ RotG rs.length es rs ∧ x = .tuple #[.agg #[.int .i64 rs.length, ev], .bool true] ∧ GP h' ev es ∧ Apart h ev) := by
 refine AC.vc (fn := Try.f72) (c := _) ⟨Try.func72, rfl, by decide⟩ Try.ntmps72 Try.results72 (by simp) fun hwf => ?_
 simp only [argFrame, argFrom, Nat.reduceAdd]
 obtain ⟨h1, e1, l1, w1, o1⟩ := alloc_f hwf [.int .i64 0, .slice none 0 0]
 have al := alloc24 h
 rw [e1] at al
 have nR : h.own h.next = none := (Le.refl h).next hwf (Nat.le_refl _)
 generalize h.next = R at *
 have lr := fun g => hv.len (P := Try.prog) Try.underlying52 g
 have stE : ∀ g : AHeap, Le h1 g → aStore Try.prog g 24 (.pointer (some ⟨R, 0, none⟩)) emptyG = some (g.put R (.cells [.int .i64 0, .slice none 0 0])) := fun g lg => store24 (lg.own _ _ o1) rfl rfl
 have ldE : ∀ g : AHeap, aload Try.prog (g.put R (.cells [.int .i64 0, .slice none 0 0])) 24 ⟨R, 0, none⟩ = some emptyG := fun g => load24 (AHeap.own_put_eq _ _ _) ⟨_, _, _, rfl⟩
 have fin : ∀ g : AHeap, Le h1 g → Le h (g.put R (.cells [.int .i64 0, .slice none 0 0])) := fun g lg => (l1.trans lg).put _ nR
 by_cases c1 : (rs.length : Int) > 200
 ·have d1 : decide ((rs.length : Int) > 200) = true := decide_eq_true c1
  simp only [kS1, bLookup, bMapSet, wantA, isCall, stepOp, evalO, evalL, evalP, evalM, putDst, flat, kA, kB, Nat.reduceLT, ↓reduceIte, kC, Nat.reduceEqDiff, aBuiltin, abinG, guardFree, abin, aInt, aUn, aNilCheck, retQ, retQ1, aresults, aresultL, aresult, mkF, undefV, reduceCtorEq, kD, kE, kF, kG, kH, kI, kJ, kK, aExtract, calleeOf, al, lr, d1, build24z, stE h1 (Le.refl _), ldE]
  exact ⟨fin h1 (Le.refl _), .inl ⟨trivial, fun ⟨es, A, _⟩ => by have := A.n1; simp only at this; omega⟩⟩
 have d1 : decide ((rs.length : Int) > 200) = false := decide_eq_false c1
 have hn200 : rs.length ≤ 200 := by omega
 obtain ⟨h2, e2, l2, w2, o2⟩ := alloc_f w1 []
 have mk : aBuildSlice Try.prog h1 22 0 [] = some (.slice (some ⟨h1.next, 0, none⟩) 0 0, h2) := by rw [← e2]; rfl
 have nX : h1.own h1.next = none := (Le.refl h1).next w1 (Nat.le_refl _)
 have g0 : GP h2 (.slice (some ⟨h1.next, 0, none⟩) 0 0) (toldE rs 0) := by
  rw [toldE_zero]
  exact GS.full (k := 2) (n := 0) o2 rfl (by decide)
 have ax0 : Apart h1 (.slice (some ⟨h1.next, 0, none⟩) 0 0) := fun b hb => by injection hb with hb; subst hb; exact nX
 simp only [kS1, bLookup, bMapSet, wantA, isCall, stepOp, evalO, evalL, evalP, evalM, putDst, flat, kA, kB, Nat.reduceLT, ↓reduceIte, kC, Nat.reduceEqDiff, aBuiltin, abinG, guardFree, abin, aInt, aUn, aNilCheck, retQ, retQ1, aresults, aresultL, aresult, mkF, undefV, reduceCtorEq, kD, kE, kF, kG, kH, kI, kJ, kK, aExtract, calleeOf, al, lr, d1, mk]
 generalize Value.slice (some ⟨h1.next, 0, none⟩) 0 0 = xv0 at *
 refine KLoop.intro (fun k fr hq => ∃ (i : Nat) (xv : Value), k = rs.length - i ∧ i ≤ rs.length ∧ fr = mkF [(0, rv), (2, .pointer (some ⟨R, 0, none⟩)), (4, xv), (16, rv), (17, .int .i64 rs.length), (18, .int .i64 i)] ∧ GP hq xv (toldE rs i) ∧ Le h1 hq ∧ Apart h1 xv ∧ (toldE rs i).length ≤ i * rs.length)
  rs.length [(0, rv), (2, .pointer (some ⟨R, 0, none⟩)), (4, xv0), (16, rv), (17, .int .i64 rs.length), (18, .int .i64 (0 : Nat))] (by simp only [hasAll, kS1, bLookup, bMapSet, wantA, isCall, stepOp, evalO, evalL, evalP, evalM, putDst, flat, kA, kB, Nat.reduceLT, ↓reduceIte, kC, Nat.reduceEqDiff, aBuiltin, abinG, guardFree, abin, aInt, aUn, aNilCheck, retQ, retQ1, aresults, aresultL, aresult, mkF, undefV, reduceCtorEq, kD, kE, kF, kG, kH, kI, kJ, kK, aExtract, calleeOf]; simp) ⟨0, _, rfl, Nat.zero_le _, rfl, g0, l2, ax0, by rw [toldE_zero]; exact Nat.zero_le _⟩ ?_
 clear g0 ax0
 rintro k fr hq hwq ⟨i, xv, rfl, hi, rfl, gx, lq, ax, hlen⟩
 simp only [kS1, bLookup, bMapSet, wantA, isCall, stepOp, evalO, evalL, evalP, evalM, putDst, flat, kA, kB, Nat.reduceLT, ↓reduceIte, kC, Nat.reduceEqDiff, aBuiltin, abinG, guardFree, abin, aInt, aUn, aNilCheck, retQ, retQ1, aresults, aresultL, aresult, mkF, undefV, reduceCtorEq, kD, kE, kF, kG, kH, kI, kJ, kK, aExtract, calleeOf]
 refine KCond.intro (fun ht => ?_) (fun hf => ?_)
 ·have hlt : i < rs.length := lt_t ht
  clear ht
  have ar := hv.addr (P := Try.prog) Try.underlying52 Try.underlying38 (by kernel_rfl) (k := .i64) i hlt
  obtain ⟨ru, lru', hru⟩ := hv.load' (P := Try.prog) Try.underlying38 rfl i hlt
  have lru := lru' hq (l1.trans lq)
  rw [← getD_of (d := []) hlt] at hru
  have hs := toldE_succ rs i
  generalize hrow : rs.getD i [] = row at *
  have lrow := fun g => hru.len (P := Try.prog) Try.underlying38 g
  by_cases c2 : (row.length : Int) ≥ rs.length
  ·have d2 : decide ((row.length : Int) ≥ rs.length) = true := decide_eq_true c2
   simp only [kS1, bLookup, bMapSet, wantA, isCall, stepOp, evalO, evalL, evalP, evalM, putDst, flat, kA, kB, Nat.reduceLT, ↓reduceIte, kC, Nat.reduceEqDiff, aBuiltin, abinG, guardFree, abin, aInt, aUn, aNilCheck, retQ, retQ1, aresults, aresultL, aresult, mkF, undefV, reduceCtorEq, kD, kE, kF, kG, kH, kI, kJ, kK, aExtract, calleeOf, ar, lru, lrow, lr, d2, build24z, stE hq lq, ldE]
   refine ⟨fin hq lq, .inl ⟨trivial, fun ⟨es, A, G⟩ => ?_⟩⟩
   have := row_small A.inR A.asc G hlt
   rw [hrow] at this; omega
  have d2 : decide ((row.length : Int) ≥ rs.length) = false := decide_eq_false c2
  have hrl : row.length ≤ rs.length := by omega
  simp only [kS1, bLookup, bMapSet, wantA, isCall, stepOp, evalO, evalL, evalP, evalM, putDst, flat, kA, kB, Nat.reduceLT, ↓reduceIte, kC, Nat.reduceEqDiff, aBuiltin, abinG, guardFree, abin, aInt, aUn, aNilCheck, retQ, retQ1, aresults, aresultL, aresult, mkF, undefV, reduceCtorEq, kD, kE, kF, kG, kH, kI, kJ, kK, aExtract, calleeOf, ar, lru, lrow, lr, d2]
  refine KLoop.intro (fun k fr hz => ∃ (j : Nat) (yv : Value), k = row.length - j ∧ j ≤ row.length ∧ fr = mkF [(0, rv), (2, .pointer (some ⟨R, 0, none⟩)), (4, yv), (5, .int .i64 i), (16, rv), (17, .int .i64 rs.length), (18, .int .i64 i), (29, ru), (30, .int .i64 row.length), (31, .int .i64 j)] ∧ GP hz yv (toldE rs i ++ toldR i (row.take j)) ∧ Le h1 hz ∧ Apart h1 yv ∧ Le hq hq)
   row.length [(0, rv), (2, .pointer (some ⟨R, 0, none⟩)), (4, xv), (5, .int .i64 i), (16, rv), (17, .int .i64 rs.length), (18, .int .i64 i), (29, ru), (30, .int .i64 row.length), (31, .int .i64 (0 : Nat))] (by simp only [hasAll, kS1, bLookup, bMapSet, wantA, isCall, stepOp, evalO, evalL, evalP, evalM, putDst, flat, kA, kB, Nat.reduceLT, ↓reduceIte, kC, Nat.reduceEqDiff, aBuiltin, abinG, guardFree, abin, aInt, aUn, aNilCheck, retQ, retQ1, aresults, aresultL, aresult, mkF, undefV, reduceCtorEq, kD, kE, kF, kG, kH, kI, kJ, kK, aExtract, calleeOf]; simp)
   ⟨0, _, rfl, Nat.zero_le _, rfl, by rw [List.take_zero, show toldR i [] = [] from by unfold toldR; rfl, List.append_nil]; exact gx, lq, ax, Le.refl _⟩ ?_
  rintro k fr hz hwz ⟨j, yv, rfl, hj, rfl, gy, lz, ay, -⟩
  have hru' : RL isI hz ru row := hru.le Stays.isI (l1.trans lz)
  simp only [kS1, bLookup, bMapSet, wantA, isCall, stepOp, evalO, evalL, evalP, evalM, putDst, flat, kA, kB, Nat.reduceLT, ↓reduceIte, kC, Nat.reduceEqDiff, aBuiltin, abinG, guardFree, abin, aInt, aUn, aNilCheck, retQ, retQ1, aresults, aresultL, aresult, mkF, undefV, reduceCtorEq, kD, kE, kF, kG, kH, kI, kJ, kK, aExtract, calleeOf]
  refine KCond.intro (fun ht => ?_) (fun hf => ?_)
  ·have hjt : j < row.length := lt_t ht
   clear ht
   have ad := hru'.addr (P := Try.prog) Try.underlying38 Try.underlying3 (by kernel_rfl) (k := .i64) j hjt
   have ld := hru'.loadI (P := Try.prog) Try.underlying3 rfl j hjt
   have st := toldR_step i row hjt
   have hln := toldR_len i (row.take j)
   rw [List.length_take] at hln
   have hbd := len_bd hlen (by omega) hn200
   have hwj := awrap_succ j (by omega)
   generalize row[j] = w at *
   by_cases c3 : (i : Int) < w
   ·have d3 : decide ((i : Int) < w) = true := decide_eq_true c3
    obtain ⟨v', h4, h5, e4, e5, g5, w5, l4, f5, k5⟩ := gy.push hwz ((i : Int), w) (by rw [List.length_append]; omega)
    obtain ⟨l5, a5⟩ := f5 h1 lz ay
    simp only [kS1, bLookup, bMapSet, wantA, isCall, stepOp, evalO, evalL, evalP, evalM, putDst, flat, kA, kB, Nat.reduceLT, ↓reduceIte, kC, Nat.reduceEqDiff, aBuiltin, abinG, guardFree, abin, aInt, aUn, aNilCheck, retQ, retQ1, aresults, aresultL, aresult, mkF, undefV, reduceCtorEq, kD, kE, kF, kG, kH, kI, kJ, kK, aExtract, calleeOf, ad, ld, d3, build42, e4, e5, hwj]
    exact loop_again (row.length - (j + 1)) [(0, rv), (2, .pointer (some ⟨R, 0, none⟩)), (4, v'), (5, .int .i64 i), (16, rv), (17, .int .i64 rs.length), (18, .int .i64 i), (29, ru), (30, .int .i64 row.length), (31, .int .i64 (j + 1 : Nat))] (stp hjt) (by simp only [hasAll, kS1, bLookup, bMapSet, wantA, isCall, stepOp, evalO, evalL, evalP, evalM, putDst, flat, kA, kB, Nat.reduceLT, ↓reduceIte, kC, Nat.reduceEqDiff, aBuiltin, abinG, guardFree, abin, aInt, aUn, aNilCheck, retQ, retQ1, aresults, aresultL, aresult, mkF, undefV, reduceCtorEq, kD, kE, kF, kG, kH, kI, kJ, kK, aExtract, calleeOf]; simp)
     ⟨j + 1, v', rfl, hjt, rfl, by rw [st, if_pos c3, ← List.append_assoc]; exact g5, l5, a5, Le.refl _⟩
   ·have d3 : decide ((i : Int) < w) = false := decide_eq_false c3
    simp only [kS1, bLookup, bMapSet, wantA, isCall, stepOp, evalO, evalL, evalP, evalM, putDst, flat, kA, kB, Nat.reduceLT, ↓reduceIte, kC, Nat.reduceEqDiff, aBuiltin, abinG, guardFree, abin, aInt, aUn, aNilCheck, retQ, retQ1, aresults, aresultL, aresult, mkF, undefV, reduceCtorEq, kD, kE, kF, kG, kH, kI, kJ, kK, aExtract, calleeOf, ad, ld, d3, hwj]
    exact loop_again (row.length - (j + 1)) [(0, rv), (2, .pointer (some ⟨R, 0, none⟩)), (4, yv), (5, .int .i64 i), (16, rv), (17, .int .i64 rs.length), (18, .int .i64 i), (29, ru), (30, .int .i64 row.length), (31, .int .i64 (j + 1 : Nat))] (stp hjt) (by simp only [hasAll, kS1, bLookup, bMapSet, wantA, isCall, stepOp, evalO, evalL, evalP, evalM, putDst, flat, kA, kB, Nat.reduceLT, ↓reduceIte, kC, Nat.reduceEqDiff, aBuiltin, abinG, guardFree, abin, aInt, aUn, aNilCheck, retQ, retQ1, aresults, aresultL, aresult, mkF, undefV, reduceCtorEq, kD, kE, kF, kG, kH, kI, kJ, kK, aExtract, calleeOf]; simp)
     ⟨j + 1, yv, rfl, hjt, rfl, by rw [st, if_neg c3, List.append_nil]; exact gy, lz, ay, Le.refl _⟩
  ·have hge : row.length ≤ j := lt_f hf
   rw [List.take_of_length_le hge, ← hs] at gy
   have hwi := awrap_succ i (by omega)
   have hl2 := toldR_len i row
   simp only [kS1, bLookup, bMapSet, wantA, isCall, stepOp, evalO, evalL, evalP, evalM, putDst, flat, kA, kB, Nat.reduceLT, ↓reduceIte, kC, Nat.reduceEqDiff, aBuiltin, abinG, guardFree, abin, aInt, aUn, aNilCheck, retQ, retQ1, aresults, aresultL, aresult, mkF, undefV, reduceCtorEq, kD, kE, kF, kG, kH, kI, kJ, kK, aExtract, calleeOf, hwi]
   exact loop_again (rs.length - (i + 1)) [(0, rv), (2, .pointer (some ⟨R, 0, none⟩)), (4, yv), (16, rv), (17, .int .i64 rs.length), (18, .int .i64 (i + 1 : Nat))] (stp hlt) (by simp only [hasAll, kS1, bLookup, bMapSet, wantA, isCall, stepOp, evalO, evalL, evalP, evalM, putDst, flat, kA, kB, Nat.reduceLT, ↓reduceIte, kC, Nat.reduceEqDiff, aBuiltin, abinG, guardFree, abin, aInt, aUn, aNilCheck, retQ, retQ1, aresults, aresultL, aresult, mkF, undefV, reduceCtorEq, kD, kE, kF, kG, kH, kI, kJ, kK, aExtract, calleeOf]; simp)
    ⟨i + 1, yv, rfl, hlt, rfl, gy, lz, ay, by rw [hs, List.length_append]; exact len_step hlen (by omega)⟩
 have hge : rs.length ≤ i := lt_f hf
 obtain rfl : i = rs.length := by omega
 have hbd := len_bd hlen hn200 hn200
 simp only [kS1, bLookup, bMapSet, wantA, isCall, stepOp, evalO, evalL, evalP, evalM, putDst, flat, kA, kB, Nat.reduceLT, ↓reduceIte, kC, Nat.reduceEqDiff, aBuiltin, abinG, guardFree, abin, aInt, aUn, aNilCheck, retQ, retQ1, aresults, aresultL, aresult, mkF, undefV, reduceCtorEq, kD, kE, kF, kG, kH, kI, kJ, kK, aExtract, calleeOf, lr]
 refine KCall.intro (by simp only [kS1, bLookup, bMapSet, wantA, isCall, stepOp, evalO, evalL, evalP, evalM, putDst, flat, kA, kB, Nat.reduceLT, ↓reduceIte, kC, Nat.reduceEqDiff, aBuiltin, abinG, guardFree, abin, aInt, aUn, aNilCheck, retQ, retQ1, aresults, aresultL, aresult, mkF, undefV, reduceCtorEq, kD, kE, kF, kG, kH, kI, kJ, kK, aExtract, calleeOf] <;> rfl) ⟨Try.func68, rfl, by decide⟩ (New_any W0 (rs.length : Int) xv (toldE rs rs.length) hq gx.pr (by omega)) ?_
 rintro x h3 w3 ⟨l3, ⟨hn, kk, hk0, rfl⟩ | ⟨hOK, ev, rfl, g3, a3⟩⟩
 ·obtain ⟨h4', h4, e4, e4s, l4, w4⟩ := newE4 w3
  have d : decide (kk = 0) = false := decide_eq_false hk0
  have lf := (lq.trans l3).trans l4
  simp only [kS1, bLookup, bMapSet, wantA, isCall, stepOp, evalO, evalL, evalP, evalM, putDst, flat, kA, kB, Nat.reduceLT, ↓reduceIte, kC, Nat.reduceEqDiff, aBuiltin, abinG, guardFree, abin, aInt, aUn, aNilCheck, retQ, retQ1, aresults, aresultL, aresult, mkF, undefV, reduceCtorEq, kD, kE, kF, kG, kH, kI, kJ, kK, aExtract, calleeOf, e4, e4s, bne, d, build24z, stE h4 lf, ldE]
  exact ⟨fin h4 lf, .inl ⟨trivial, fun ⟨es, A, G⟩ => hn (told_right A G).1⟩⟩
 obtain ⟨h4', h4, e4, e4s, l4, w4, L4⟩ := newG w3 (n := (rs.length : Int)) g3.pr
 have d0 : decide ((0 : Int) = 0) = true := by decide
 have hRd := hOK.right
 have lf := (lq.trans l3).trans l4
 have gg : GR h4 (.agg #[.int .i64 rs.length, ev]) ⟨(rs.length : Int), sortP ((toldE rs rs.length).map normP)⟩ := ⟨ev, rfl, g3.pr.le l4⟩
 generalize hfs : sortP ((toldE rs rs.length).map normP) = fs at *
 simp only [kS1, bLookup, bMapSet, wantA, isCall, stepOp, evalO, evalL, evalP, evalM, putDst, flat, kA, kB, Nat.reduceLT, ↓reduceIte, kC, Nat.reduceEqDiff, aBuiltin, abinG, guardFree, abin, aInt, aUn, aNilCheck, retQ, retQ1, aresults, aresultL, aresult, mkF, undefV, reduceCtorEq, kD, kE, kF, kG, kH, kI, kJ, kK, aExtract, calleeOf, e4, e4s, bne, d0, (L4 h4 (Le.refl _)).1]
 generalize h3.next = D at *
 refine KCall.intro (by simp only [kS1, bLookup, bMapSet, wantA, isCall, stepOp, evalO, evalL, evalP, evalM, putDst, flat, kA, kB, Nat.reduceLT, ↓reduceIte, kC, Nat.reduceEqDiff, aBuiltin, abinG, guardFree, abin, aInt, aUn, aNilCheck, retQ, retQ1, aresults, aresultL, aresult, mkF, undefV, reduceCtorEq, kD, kE, kF, kG, kH, kI, kJ, kK, aExtract, calleeOf] <;> rfl) ⟨Try.func31, rfl, by decide⟩ (FRight_any W0 _ rv ⟨(rs.length : Int), fs⟩ rs h4 gg (hv.le (Stays.RL Stays.isI) (l1.trans lf))) ?_
 rintro x h5 w5 ⟨⟨bb, rfl, hbb⟩, l5⟩
 have lf5 := lf.trans l5
 cases bb with
 | false =>
  simp only [kS1, bLookup, bMapSet, wantA, isCall, stepOp, evalO, evalL, evalP, evalM, putDst, flat, kA, kB, Nat.reduceLT, ↓reduceIte, kC, Nat.reduceEqDiff, aBuiltin, abinG, guardFree, abin, aInt, aUn, aNilCheck, retQ, retQ1, aresults, aresultL, aresult, mkF, undefV, reduceCtorEq, kD, kE, kF, kG, kH, kI, kJ, kK, aExtract, calleeOf, build24z, stE h5 lf5, ldE]
  refine ⟨fin h5 lf5, .inl ⟨trivial, fun ⟨es, A, G⟩ => ?_⟩⟩
  have : fs = es := by rw [← hfs]; exact (told_right A G).2
  subst this
  exact Bool.noConfusion (hbb.2 ⟨A, by simpa using G⟩)
 | true =>
  obtain ⟨-, hG⟩ := hbb.1 rfl
  simp only [Int.toNat_natCast] at hG
  have one := g3.pr.sl.one
  obtain ⟨ea, ec, hev, _⟩ := g3.pr.sl
  have hce : ev.cells = #[ev] := by rw [hev]; rfl
  have oR := lf5.own _ _ o1
  have st := store24 (n := (rs.length : Int)) (ev := ev) oR one hce
  have oo := AHeap.own_put_eq h5 R (.cells [.int .i64 (rs.length : Int), ev])
  have ldR := load24 (n := (rs.length : Int)) (ev := ev) oo ⟨ea, _, ec, hev⟩
  have nev : blk ev ≠ some R := fun e => by have := a3 R e; rw [lq.own _ _ o1] at this; cases this
  simp only [kS1, bLookup, bMapSet, wantA, isCall, stepOp, evalO, evalL, evalP, evalM, putDst, flat, kA, kB, Nat.reduceLT, ↓reduceIte, kC, Nat.reduceEqDiff, aBuiltin, abinG, guardFree, abin, aInt, aUn, aNilCheck, retQ, retQ1, aresults, aresultL, aresult, mkF, undefV, reduceCtorEq, kD, kE, kF, kG, kH, kI, kJ, kK, aExtract, calleeOf, (L4 h5 l5).1, st, ldR]
  exact ⟨(l1.trans lf5).put _ nR, .inr ⟨fs, ev, hRd, hG, rfl, (GS.le g3 (l4.trans l5)).put _ nev, fun b hb => (l1.trans lq).none (a3 b hb)⟩⟩
end Go.Fw
namespace Go.Fw
open Go.Proofs
set_option maxHeartbeats 4000000
set_option maxRecDepth 10000
attribute [local instance] Classical.propDecidable
section
variable {α β : Type} [DecidableEq α]
def setV : List (α × β) → α → β → List (α × β)
 | [], k, v => [(k, v)]
 | (a, b) :: r, k, v => if a = k then (k, v) :: r else (a, b) :: setV r k v
def lookV : List (α × β) → α → Option β
 | [], _ => none
 | (a, b) :: r, k => if a = k then some b else lookV r k
theorem lookV_set (l : List (α × β)) (k k' : α) (v : β) : lookV (setV l k v) k' = if k = k' then some v else lookV l k' := by
 induction l with
 | nil => simp [setV, lookV]
 | cons x r ih =>
  obtain ⟨a, b⟩ := x
  simp only [setV]
  by_cases h : a = k
  ·subst h; rw [if_pos rfl]; simp only [lookV]; split <;> simp_all
  ·rw [if_neg h]; simp only [lookV, ih]
   by_cases h2 : a = k'
   ·subst h2; simp [Ne.symm h]
   ·simp [h2]
theorem setV_at (l : List (α × β)) (k : α) (v : β) : (lookV l k = none ∧ setV l k v = l ++ [(k, v)]) ∨ ∃ (j : Nat) (b : β), lookV l k = some b ∧ l[j]? = some (k, b) ∧ (∀ i, i < j → ∀ x, l[i]? = some x → x.1 ≠ k) ∧ setV l k v = l.set j (k, v) := by
 induction l with
 | nil => exact .inl ⟨rfl, rfl⟩
 | cons x r ih =>
  obtain ⟨a, b⟩ := x
  simp only [setV, lookV]
  by_cases h : a = k
  ·subst h
   rw [if_pos rfl, if_pos rfl]
   exact .inr ⟨0, b, rfl, rfl, by omega, rfl⟩
  ·rw [if_neg h, if_neg h]
   rcases ih with ⟨h1, h2⟩ | ⟨j, c, h1, h2, h3, h4⟩
   ·exact .inl ⟨h1, by rw [h2]; rfl⟩
   ·refine .inr ⟨j + 1, c, h1, by simpa using h2, fun i hi x hx => ?_, by rw [h4]; rfl⟩
    cases i with
    | zero => simp at hx; subst hx; exact h
    | succ i => exact h3 i (by omega) x (by simpa using hx)
end
def mapPP (l : List (Pr × Pr)) : List (Value × Value) := l.map fun x => (valP x.1, valP x.2)
theorem afind_mapPP (k : Pr) : ∀ (l : List (Pr × Pr)) (i : Nat), (lookV l k = none → afind Try.prog 61 (valP k) (mapPP l) i = some none) ∧ ∀ (j : Nat) b, l[j]? = some (k, b) → (∀ q, q < j → ∀ x, l[q]? = some x → x.1 ≠ k) → afind Try.prog 61 (valP k) (mapPP l) i = some (some (i + j, valP b))
 | [], i => ⟨fun _ => rfl, fun j b h => by simp at h⟩
 | (a, b) :: r, i => by
  obtain ⟨h1, h2⟩ := afind_mapPP k r (i + 1)
  have un : afind Try.prog 61 (valP k) (mapPP ((a, b) :: r)) i = match aEq Try.prog 61 (valP k) (valP a) with | some true => some (some (i, valP b)) | some false => afind Try.prog 61 (valP k) (mapPP r) (i + 1) | none => none := rfl
  rw [un, eqP]
  constructor
  ·intro h
   simp only [lookV] at h
   by_cases e : a = k
   ·rw [if_pos e] at h; cases h
   ·rw [if_neg e] at h
    have : decide (k = a) = false := by simpa using Ne.symm e
    rw [this]; exact h1 h
  ·intro j c hj hlt
   cases j with
   | zero =>
    simp at hj
    obtain ⟨rfl, rfl⟩ := hj
    have : decide (a = a) = true := by simp
    rw [this]; rfl
   | succ j =>
    have e : a ≠ k := hlt 0 (by omega) (a, b) rfl
    have : decide (k = a) = false := by simpa using Ne.symm e
    rw [this]
    show afind Try.prog 61 (valP k) (mapPP r) (i + 1) = _
    rw [h2 j c (by simpa using hj) fun q hq x hx => hlt (q + 1) (by omega) x (by simpa using hx)]
    congr 3; omega
theorem lookPP_none {h : AHeap} {x : Value} (p : Pr) (ok : Bool) : aLookup Try.prog h 112 x (valP p) ok = none := by
 simp only [aLookup, Try.underlying112, valP]
theorem setPP_none {h : AHeap} {x v : Value} (p : Pr) : aMapSet Try.prog h 112 x (valP p) v = none := by
 simp only [aMapSet, Try.underlying112, valP]
theorem mapPP_look {h : AHeap} {M : Nat} {l : List (Pr × Pr)} (ho : h.own M = some (.map (mapPP l))) {k v : Pr} (hk : lookV l k = some v) :
  aLookupA Try.prog h 112 (.map (some M)) (valP k) false = some (valP v) := by
 have hz : azero Try.prog 61 = some (.agg #[.int .i64 0, .int .i64 0]) := by kernel_rfl
 simp only [aLookupA, Try.underlying112, keyP, ho, hz, if_true]
 rcases setV_at l k v with ⟨h1, _⟩ | ⟨j, b, h1, h2, h3, _⟩
 ·rw [h1] at hk; cases hk
 ·rw [hk] at h1; injection h1 with h1; subst h1
  rw [(afind_mapPP k l 0).2 j v h2 h3]; rfl
theorem mapPP_set {h : AHeap} {M : Nat} {l : List (Pr × Pr)} (ho : h.own M = some (.map (mapPP l))) (k v : Pr) : aMapSetA Try.prog h 112 (.map (some M)) (valP k) (valP v) = some (h.put M (.map (mapPP (setV l k v)))) := by
 simp only [aMapSetA, Try.underlying112, keyP, ho, if_true]
 rcases setV_at l k v with ⟨h1, h4⟩ | ⟨j, b, h1, h2, h3, h4⟩
 ·rw [(afind_mapPP k l 0).1 h1, h4]; simp [mapPP]
 ·rw [(afind_mapPP k l 0).2 j b h2 h3, h4]; simp [mapPP, List.map_set]
def castD (d : Dart) : Pr := ((d.1 : Int), (d.2 : Int))
theorem castD_inj {a b : Dart} (h : castD a = castD b) : a = b := by
 simp only [castD, Prod.mk.injEq] at h
 exact Prod.ext (by omega) (by omega)
theorem nx_idx {l : List Nat} (nd : l.Nodup) {j : Nat} (hj : j < l.length) : nx l l[j] = l[(j + 1) % l.length]'(Nat.mod_lt _ (by omega)) := by
 have e : l = l.take j ++ l[j] :: l.drop (j + 1) := by
  rw [List.getElem_cons_drop]; exact (List.take_append_drop j l).symm
 have hn : l[j] ∉ l.take j := fun h => by
  obtain ⟨i, hi, he⟩ := List.mem_iff_getElem.1 h
  rw [List.length_take] at hi
  rw [List.getElem_take] at he
  rw [List.nodup_iff_pairwise_ne, List.pairwise_iff_getElem] at nd
  exact nd i j (by omega) hj (by omega) he
 have h1 : nx l l[j] = (l.drop (j + 1) ++ (l.take j ++ [l[j]])).headD 0 := by
  have := nx_split (b := l.drop (j + 1)) hn
  rw [← e] at this; exact this
 rw [h1]
 by_cases c : j + 1 < l.length
 ·have : l.drop (j + 1) = l[j + 1] :: l.drop (j + 2) := List.drop_eq_getElem_cons c
  rw [this, List.cons_append, List.headD_cons]
  congr 1; rw [Nat.mod_eq_of_lt c]
 ·have hl : j + 1 = l.length := by omega
  rw [List.drop_eq_nil_of_le (by omega), List.nil_append]
  have hz : (j + 1) % l.length = 0 := by rw [hl, Nat.mod_self]
  cases j with
  | zero => simp only [hz, List.take_zero, List.nil_append, List.headD_cons]
  | succ j =>
   cases l with
   | nil => simp at hj
   | cons x l => simp only [hz, List.take_succ_cons, List.cons_append, List.headD_cons, List.getElem_cons_zero]
section
variable {n : Nat} {es : List Pr} {rs : List (List Int)}
theorem bes_row (hr : InR n es) (ha : Asc es) (G : RotG n es rs) (v : Nat) : (besM n es).getD v [] = ((List.range n).filter fun w => decide (w ∈ rotN rs v)).map fun (w : Nat) => (w : Int) := by
 refine sorted_eq _ _ (besM_asc es hr ha v) ?_ fun x => ?_
 ·rw [List.pairwise_map]
  exact ((List.pairwise_lt_range (n := n)).filter _).imp fun h => by omega
 ·rw [List.mem_map]
  constructor
  ·intro hx
   obtain ⟨w, rfl, hw⟩ := besM_nat hr hx
   exact ⟨w, by rw [List.mem_filter, List.mem_range, decide_eq_true_eq]; exact ⟨hw, (G.mem hr).2 ((besM_mem hr v w).1 hx)⟩, rfl⟩
  ·rintro ⟨w, hw, rfl⟩
   rw [List.mem_filter, decide_eq_true_eq] at hw
   exact (besM_mem hr v w).2 ((G.mem hr).1 hw.2)
noncomputable def rowD (n : Nat) (r : Nat → List Nat) (v : Nat) : List Dart := ((List.range n).filter fun w => decide (w ∈ r v)).map fun w => (v, w)
noncomputable def rowsD (n : Nat) (r : Nat → List Nat) (k : Nat) : List Dart := (List.range k).flatMap (rowD n r)
theorem rowsD_succ (n : Nat) (r : Nat → List Nat) (k : Nat) : rowsD n r (k + 1) = rowsD n r k ++ rowD n r k := by
 rw [rowsD, List.range_succ, List.flatMap_append]; simp [rowsD]
theorem rowsD_all (n : Nat) (r : Nat → List Nat) : rowsD n r n = ddl n r := rfl
theorem rowsD_pre {n : Nat} (r : Nat → List Nat) {k m : Nat} (h : k ≤ m) : ∃ q, rowsD n r m = rowsD n r k ++ q := by
 induction h with
 | refl => exact ⟨[], by simp⟩
 | step _ ih => obtain ⟨q, hq⟩ := ih; rw [rowsD_succ, hq, List.append_assoc]; exact ⟨_, rfl⟩
theorem ddl_at {n : Nat} (r : Nat → List Nat) {v j : Nat} (hv : v < n) (hj : j < (rowD n r v).length) : ∃ q, ddl n r = (rowsD n r v ++ (rowD n r v).take j) ++ (rowD n r v)[j] :: q := by
 obtain ⟨q, hq⟩ := rowsD_pre (n := n) r (show v + 1 ≤ n from hv)
 rw [← rowsD_all, hq, rowsD_succ]
 refine ⟨(rowD n r v).drop (j + 1) ++ q, ?_⟩
 have : rowD n r v = (rowD n r v).take j ++ (rowD n r v)[j] :: (rowD n r v).drop (j + 1) := by
  rw [List.getElem_cons_drop]; exact (List.take_append_drop j _).symm
 conv => lhs; rw [this]
 simp only [List.append_assoc, List.cons_append]
def MetP (r : Nat → List Nat) (P : List Dart) (d : Dart) : Prop := ∃ e ∈ P, Orb (fph r) e d
theorem hd_met {r : Nat → List Nat} (R : IsRot n r) {P Q : List Dart} {d : Dart} (h : ddl n r = P ++ d :: Q) : Hd r d ↔ ¬ MetP r P d := by
 have p := phi_pm R
 have hA := ddl_asc n r
 rw [h, List.pairwise_append, List.pairwise_cons] at hA
 obtain ⟨_, ⟨h2, _⟩, h3⟩ := hA
 have hd : d ∈ dl n r := (mem_dl R).2 ((mem_ddl R).1 (by rw [h]; simp))
 constructor
 ·rintro hh ⟨e, he, o⟩
  have hem : e ∈ dl n r := (mem_dl R).2 ((mem_ddl R).1 (by rw [h]; simp [he]))
  exact hh e (p.orb_symm hem o) (h3 e he d (by simp))
 ·intro hn e o hlt
  have hem := p.orb_mem hd o
  have : e ∈ ddl n r := (mem_ddl R).2 ((mem_dl R).1 hem)
  rw [h, List.mem_append, List.mem_cons] at this
  rcases this with h1 | h1 | h1
  ·exact hn ⟨e, h1, p.orb_symm hd o⟩
  ·subst h1; exact ltD_irr _ hlt
  ·exact ltD_irr _ (ltD_trans hlt (h2 e h1))
noncomputable def facesP (r : Nat → List Nat) (P : List Dart) : List (List Int) := (P.filter fun d => decide (Hd r d)).map fun d => nat64 (faceF r d)
noncomputable def facesM (n : Nat) (rs : List (List Int)) : List (List Int) := (facesF n (rotN rs)).map nat64
theorem facesP_all (n : Nat) (rs : List (List Int)) : facesP (rotN rs) (ddl n (rotN rs)) = facesM n rs := by
 rw [facesM, facesF, hdsF, facesP, List.map_map]; rfl
theorem facesP_snoc (r : Nat → List Nat) (P : List Dart) (d : Dart) : facesP r (P ++ [d]) = facesP r P ++ if Hd r d then [nat64 (faceF r d)] else [] := by
 rw [facesP, List.filter_append, List.map_append]
 congr 1
 by_cases h : Hd r d
 ·rw [if_pos h, List.filter_cons, if_pos (by simpa using h)]; rfl
 ·rw [if_neg h, List.filter_cons, if_neg (by simpa using h)]; rfl
end
end Go.Fw
