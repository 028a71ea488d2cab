/- A text of the proof. -/
import Derived.Test.YtnaahaldkpdjlaaFwLC12
set_option linter.unusedSimpArgs false
set_option linter.unusedVariables false
namespace Go.Fw
open Go.Proofs
attribute [local irreducible] KO4 KO3 KO2 KO1 KO KN KX KE VK KCond KDraw KCall KLoop
set_option maxHeartbeats 16000000
set_option maxRecDepth 10000
theorem isB_any (W0 : Base) (p : Pr) (h : AHeap) : AC Try.prog W0 89 [valP p] h fun x h' => x = .bool (decide (p.1 = 0)) ∧ Le h h' := by
 refine AC.vc (fn := Try.f89) (c := _) ⟨Try.func89, rfl, by decide⟩ Try.ntmps89 Try.results89 (by simp) fun hwf => ?_
 simp only [argFrame, argFrom, Nat.reduceAdd]
 obtain ⟨h1, e1, l1, w1, o1⟩ := alloc_f hwf (cellsP p)
 have m0 := own0 o1
 simp only [kS1, bLookup, bMapSet, wantA, isCall, stepOp, evalO, evalL, evalP, evalM, putDst, flat, kA, kB, Nat.reduceLT, ↓reduceIte, kC, Nat.reduceEqDiff, aBuiltin, abinG, guardFree, abin, aInt, aUn, aNilCheck, retQ, retQ1, aresults, aresultL, aresult, mkF, undefV, reduceCtorEq, kD, kE, kF, kG, kH, kI, kJ, kK, aExtract, calleeOf, box42, e1, nf0, aadd, Nat.zero_add, m0]
 exact ⟨trivial, l1⟩
theorem IdxB_any (W0 : Base) (rv : Value) (ps : List Pr) (h : AHeap) (hv : PR h rv ps) (hn : ps.length ≤ 1000) :
  AC Try.prog W0 88 [rv, .func (.func 89) #[] #[]] h fun x h' => Le h h' ∧ ((x = .int .i64 (-1) ∧ ∀ p ∈ ps, p.1 ≠ 0) ∨ ∃ (i : Nat) (p : Pr), x = .int .i64 (i : Int) ∧ ps[i]? = some p ∧ p.1 = 0 ∧ ∀ q ∈ ps.take i, q.1 ≠ 0) := by
 refine AC.vc (fn := Try.f88) (c := _) ⟨Try.func88, rfl, by decide⟩ Try.ntmps88 Try.results88 (by simp) fun hwf => ?_
 simp only [argFrame, argFrom, Nat.reduceAdd]
 have lr := fun g => hv.len105 g
 simp only [kS1, bLookup, bMapSet, wantA, isCall, stepOp, evalO, evalL, evalP, evalM, putDst, flat, kA, kB, Nat.reduceLT, ↓reduceIte, kC, Nat.reduceEqDiff, aBuiltin, abinG, guardFree, abin, aInt, aUn, aNilCheck, retQ, retQ1, aresults, aresultL, aresult, mkF, undefV, reduceCtorEq, kD, kE, kF, kG, kH, kI, kJ, kK, aExtract, calleeOf, lr]
 refine KLoop.intro (fun k fr hq => ∃ (i : Nat), k = ps.length - i ∧ i ≤ ps.length ∧ fr = mkF [(0, rv), (1, .func (.func 89) #[] #[]), (7, .int .i64 ps.length), (8, .int .i64 i)] ∧ Le h hq ∧ ∀ q ∈ ps.take i, q.1 ≠ 0)
  ps.length [(0, rv), (1, .func (.func 89) #[] #[]), (7, .int .i64 ps.length), (8, .int .i64 (0 : Nat))] (by simp only [hasAll, kS1, bLookup, bMapSet, wantA, isCall, stepOp, evalO, evalL, evalP, evalM, putDst, flat, kA, kB, Nat.reduceLT, ↓reduceIte, kC, Nat.reduceEqDiff, aBuiltin, abinG, guardFree, abin, aInt, aUn, aNilCheck, retQ, retQ1, aresults, aresultL, aresult, mkF, undefV, reduceCtorEq, kD, kE, kF, kG, kH, kI, kJ, kK, aExtract, calleeOf]; simp) ⟨0, rfl, Nat.zero_le _, rfl, Le.refl _, by simp⟩ ?_
 rintro k fr hq hwq ⟨i, rfl, hi, rfl, leq, hno⟩
 simp only [kS1, bLookup, bMapSet, wantA, isCall, stepOp, evalO, evalL, evalP, evalM, putDst, flat, kA, kB, Nat.reduceLT, ↓reduceIte, kC, Nat.reduceEqDiff, aBuiltin, abinG, guardFree, abin, aInt, aUn, aNilCheck, retQ, retQ1, aresults, aresultL, aresult, mkF, undefV, reduceCtorEq, kD, kE, kF, kG, kH, kI, kJ, kK, aExtract, calleeOf]
 refine KCond.intro (fun ht => ?_) (fun hf => ?_)
 rotate_left
 ·have hge : ps.length ≤ i := lt_f hf
  rw [List.take_of_length_le hge] at hno
  simp only [kS1, bLookup, bMapSet, wantA, isCall, stepOp, evalO, evalL, evalP, evalM, putDst, flat, kA, kB, Nat.reduceLT, ↓reduceIte, kC, Nat.reduceEqDiff, aBuiltin, abinG, guardFree, abin, aInt, aUn, aNilCheck, retQ, retQ1, aresults, aresultL, aresult, mkF, undefV, reduceCtorEq, kD, kE, kF, kG, kH, kI, kJ, kK, aExtract, calleeOf]
  exact ⟨leq, .inl ⟨trivial, hno⟩⟩
 have hlt : i < ps.length := lt_t ht
 clear ht
 have hws := wrapS hlt hn
 have hls := sub_step hlt
 have hpi := getElem?_of hlt
 have htk : ps.take (i + 1) = ps.take i ++ [ps[i]] := List.take_succ_eq_append_getElem hlt
 generalize ps[i] = p at hpi htk
 have ad := hv.addr105 (k := .i64) i hlt
 have ld := (hv.le leq).load107 hpi
 simp only [kS1, bLookup, bMapSet, wantA, isCall, stepOp, evalO, evalL, evalP, evalM, putDst, flat, kA, kB, Nat.reduceLT, ↓reduceIte, kC, Nat.reduceEqDiff, aBuiltin, abinG, guardFree, abin, aInt, aUn, aNilCheck, retQ, retQ1, aresults, aresultL, aresult, mkF, undefV, reduceCtorEq, kD, kE, kF, kG, kH, kI, kJ, kK, aExtract, calleeOf, ad, ld]
 refine KCall.intro (g := 89) (args := [valP p]) (by simp only [kS1, bLookup, bMapSet, wantA, isCall, stepOp, evalO, evalL, evalP, evalM, putDst, flat, kA, kB, Nat.reduceLT, ↓reduceIte, kC, Nat.reduceEqDiff, aBuiltin, abinG, guardFree, abin, aInt, aUn, aNilCheck, retQ, retQ1, aresults, aresultL, aresult, mkF, undefV, reduceCtorEq, kD, kE, kF, kG, kH, kI, kJ, kK, aExtract, calleeOf] <;> rfl) ⟨Try.func89, rfl, by decide⟩ (isB_any W0 p hq) ?_
 rintro x h2 w2 ⟨rfl, l2⟩
 by_cases c : p.1 = 0
 ·have d : decide (p.1 = 0) = true := decide_eq_true c
  simp only [kS1, bLookup, bMapSet, wantA, isCall, stepOp, evalO, evalL, evalP, evalM, putDst, flat, kA, kB, Nat.reduceLT, ↓reduceIte, kC, Nat.reduceEqDiff, aBuiltin, abinG, guardFree, abin, aInt, aUn, aNilCheck, retQ, retQ1, aresults, aresultL, aresult, mkF, undefV, reduceCtorEq, kD, kE, kF, kG, kH, kI, kJ, kK, aExtract, calleeOf, d]
  exact ⟨leq.trans l2, .inr ⟨i, p, rfl, hpi, c, hno⟩⟩
 ·have d : decide (p.1 = 0) = false := decide_eq_false c
  simp only [kS1, bLookup, bMapSet, wantA, isCall, stepOp, evalO, evalL, evalP, evalM, putDst, flat, kA, kB, Nat.reduceLT, ↓reduceIte, kC, Nat.reduceEqDiff, aBuiltin, abinG, guardFree, abin, aInt, aUn, aNilCheck, retQ, retQ1, aresults, aresultL, aresult, mkF, undefV, reduceCtorEq, kD, kE, kF, kG, kH, kI, kJ, kK, aExtract, calleeOf, d, hws]
  refine loop_again (ps.length - (i + 1)) [(0, rv), (1, .func (.func 89) #[] #[]), (7, .int .i64 ps.length), (8, .int .i64 (i + 1 : Nat))] hls (by simp only [hasAll, kS1, bLookup, bMapSet, wantA, isCall, stepOp, evalO, evalL, evalP, evalM, putDst, flat, kA, kB, Nat.reduceLT, ↓reduceIte, kC, Nat.reduceEqDiff, aBuiltin, abinG, guardFree, abin, aInt, aUn, aNilCheck, retQ, retQ1, aresults, aresultL, aresult, mkF, undefV, reduceCtorEq, kD, kE, kF, kG, kH, kI, kJ, kK, aExtract, calleeOf]; simp) ⟨i + 1, rfl, hlt, rfl, leq.trans l2, fun q hq' => ?_⟩
  rw [htk, List.mem_append] at hq'
  rcases hq' with hq' | hq'
  ·exact hno q hq'
  ·simp at hq'; subst hq'; exact c
def cntU (cB cC : List Int) (b v : Nat) : Int := if v < b then cB.getD v 0 else cC.getD (v - b) 0
def lvT (b : Nat) (ls : List Pr) (t : Nat) : List Nat := (List.range t).filter fun v => decide ((nbU b ls v).length ≤ 1)
theorem lvT_succ (b : Nat) (ls : List Pr) (t : Nat) : lvT b ls (t + 1) = lvT b ls t ++ if (nbU b ls t).length ≤ 1 then [t] else [] := by
 rw [lvT, List.range_succ, List.filter_append]
 congr 1
 by_cases h : (nbU b ls t).length ≤ 1
 ·rw [if_pos h, List.filter_cons_of_pos (by simpa using h)]; rfl
 ·rw [if_neg h, List.filter_cons_of_neg (by simpa using h)]; rfl
theorem lvT_len (b : Nat) (ls : List Pr) (t : Nat) : (lvT b ls t).length ≤ t := by
 have := List.length_filter_le (fun v => decide ((nbU b ls v).length ≤ 1)) (List.range t)
 rwa [List.length_range] at this
theorem mk105e (h : AHeap) : aBuildSlice Try.prog h 127 0 [] = some (.slice (some ⟨h.next, 0, none⟩) 0 0, h.alloc (.cells [])) := rfl
theorem nbU_lenB {b v : Nat} (ls : List Pr) (hv : v < b) : (nbU b ls v).length = (rB ls v).length := by rw [nbU, if_pos hv, List.length_map]
theorem nbU_lenC {b j : Nat} (ls : List Pr) : (nbU b ls (b + j)).length = (rC ls j).length := by rw [nbU, if_neg (by omega), List.length_map, Nat.add_sub_cancel_left]
theorem eq_of_sub {v b j : Nat} (h1 : ¬ v < b) (h : j = v - b) : v = b + j := by omega
theorem len_ok {l t n : Nat} (h : l ≤ t) (h2 : t < n) (hn : n ≤ 1000) : l + 1 ≤ 100000 := by omega
theorem len_ok2 {l b j m : Nat} (h : l ≤ b + j) (h2 : j < m) (hb : b ≤ 1000) (hm : m ≤ 1000) : l + 1 ≤ 100000 := by omega
theorem cnt_bound {b n : Nat} {ls : List Pr} {lv : List Nat} {i : Nat} {pre : List Nat} {c0 c : Nat → Int} {inner : List Nat} (R : RdI b n ls lv i pre c0 c inner) (hl : lv.length ≤ 1000) {w : Nat} (hw : w < n) (h0 : 0 ≤ c0 w) (h1 : c0 w ≤ 1000) : awrap .i64 (c w - 1) = c w - 1 := by
 have h2 := R.cnt w hw
 have h3 := List.length_filter_le (fun x => decide (w ∈ nbU b ls x)) (lv.take i)
 rw [List.length_take] at h3
 refine awrap_i64 _ ?_ ?_ <;> (rw [h2]; split <;> omega)
theorem deg_bound {b n : Nat} {ls : List Pr} {done lv : List Nat} {c : Nat → Int} {k : Nat} (P : PlI b n ls done lv c k) (hll : ls.length ≤ 1000) {w : Nat} (hw : w < n) : 0 ≤ c w ∧ c w ≤ 1000 := by
 rw [P.cnt w hw, degD]
 have h1 := List.length_filter_le (fun u => decide (u ∉ done)) (nbU b ls w)
 have h2 : (nbU b ls w).length ≤ ls.length := by
  unfold nbU; split
  ·rw [List.length_map]; exact rB_len ls w
  ·rw [List.length_map]; exact rC_len ls (w - b)
 omega
theorem cntB {cB cC : List Int} {b c : Nat} (hc : c < b) (hl : cB.length = b) (x : Int) (u : Nat) : cntU (cB.set c x) cC b u = if u = c then x else cntU cB cC b u := by
 unfold cntU
 by_cases e : u = c
 ·subst e; rw [if_pos hc, if_pos rfl, getD_set, if_pos ⟨rfl, by omega⟩]
 ·rw [if_neg e]
  by_cases q : u < b
  ·rw [if_pos q, if_pos q, getD_set, if_neg (fun h => e h.1.symm)]
  ·rw [if_neg q, if_neg q]
theorem cntC {cB cC : List Int} {b m c : Nat} (hc : c < m) (hl : cC.length = m) (x : Int) (u : Nat) : cntU cB (cC.set c x) b u = if u = b + c then x else cntU cB cC b u := by
 unfold cntU
 by_cases e : u = b + c
 ·subst e; rw [if_neg (by omega), if_pos rfl, Nat.add_sub_cancel_left, getD_set, if_pos ⟨rfl, by omega⟩]
 ·rw [if_neg e]
  by_cases q : u < b
  ·rw [if_pos q, if_pos q]
  ·rw [if_neg q, if_neg q, getD_set, if_neg (fun h => e (by omega))]
theorem in_len {b n : Nat} {ls : List Pr} {lv : List Nat} {i : Nat} {pre : List Nat} {c0 c : Nat → Int} {inner : List Nat} (R : RdI b n ls lv i pre c0 c inner) (hn : n ≤ 1000) : inner.length + 1 ≤ 100000 := by
 have := R.nd.length_le_of_subset (l₂ := List.range n) fun x hx => List.mem_range.2 ((R.mem x).1 hx).1
 rw [List.length_range] at this; omega
theorem sub_lt_m {n b m v : Nat} (hn : n = b + m) (h : v < n) (hb : ¬ v < b) : v - b < m := by omega
theorem lt_m {n b m c : Nat} (hn : n = b + m) (h : b + c < n) : c < m := by omega
theorem one_of {k : Nat} (h : k < 2) (h0 : k ≠ 0) : k = 1 := by omega
theorem nodeB {b v : Nat} (hv : v < b) : nodeP b v = (0, (v : Int)) := if_pos hv
theorem nodeC {b j : Nat} : nodeP b (b + j) = (1, (j : Int)) := by rw [nodeP, if_neg (by omega), Nat.add_sub_cancel_left]
theorem Centre_any (W0 : Base) (v : Value) (T : TM) (h : AHeap) (hv : TR h v T) (n : Nat) (hn : n = T.bs.length + T.cs.length) (h1 : n ≤ 1000) (h2 : T.ls.length ≤ 100000) :
  AC Try.prog W0 52 [v] h fun x h' => Le h h' ∧ ((¬ Lk T.bs.length n T.ls ∧ x = .tuple #[.bool false, .int .i64 (-1)]) ∨ (Lk T.bs.length n T.ls ∧ x = centV T.bs.length (cenM T.bs.length n T.ls))) := by
 have hv0 := hv
 obtain ⟨bs, cs, ls⟩ := T
 obtain ⟨bv, cv, lv, rfl, hb, hc, hl⟩ := hv
 simp only at hn h2 hb hc hl ⊢
 refine AC.vc (fn := Try.f52) (c := _) ⟨Try.func52, rfl, by decide⟩ Try.ntmps52 Try.results52 (by simp) fun hwf => ?_
 simp only [argFrame, argFrom, Nat.reduceAdd]
 obtain ⟨h3, e3, l3, w3, lA⟩ := boxT (T := ⟨bs, cs, ls⟩) hwf hb hc hl
 generalize h.next = B at *
 simp only [kS1, bLookup, bMapSet, wantA, isCall, stepOp, evalO, evalL, evalP, evalM, putDst, flat, kA, kB, Nat.reduceLT, ↓reduceIte, kC, Nat.reduceEqDiff, aBuiltin, abinG, guardFree, abin, aInt, aUn, aNilCheck, retQ, retQ1, aresults, aresultL, aresult, mkF, undefV, reduceCtorEq, kD, kE, kF, kG, kH, kI, kJ, kK, aExtract, calleeOf, e3, (lA h3 (Le.refl _)).1]
 refine KCall.intro (by simp only [kS1, bLookup, bMapSet, wantA, isCall, stepOp, evalO, evalL, evalP, evalM, putDst, flat, kA, kB, Nat.reduceLT, ↓reduceIte, kC, Nat.reduceEqDiff, aBuiltin, abinG, guardFree, abin, aInt, aUn, aNilCheck, retQ, retQ1, aresults, aresultL, aresult, mkF, undefV, reduceCtorEq, kD, kE, kF, kG, kH, kI, kJ, kK, aExtract, calleeOf] <;> rfl) ⟨Try.func87, rfl, by decide⟩ (linked_any W0 _ ⟨bs, cs, ls⟩ h3 (hv0.le l3) n hn h1 h2) ?_
 rintro x h4 w4 ⟨l4, ⟨hno, a1, a2, rfl, s1, s2⟩ | ⟨K, l1, l2, rfl, rl1, rl2⟩⟩
 ·obtain ⟨h5, e5, l5, w5, o5⟩ := alloc_f w4 [.slice none 0 0, .slice none 0 0]
  have al := alloc101 h4
  rw [e5] at al
  have nX : h4.own h4.next = none := (Le.refl h4).next w4 (Nat.le_refl _)
  have stX := tsw Try.underlying123 ts101 o5 s1 s2
  simp only [kS1, bLookup, bMapSet, wantA, isCall, stepOp, evalO, evalL, evalP, evalM, putDst, flat, kA, kB, Nat.reduceLT, ↓reduceIte, kC, Nat.reduceEqDiff, aBuiltin, abinG, guardFree, abin, aInt, aUn, aNilCheck, retQ, retQ1, aresults, aresultL, aresult, mkF, undefV, reduceCtorEq, kD, kE, kF, kG, kH, kI, kJ, kK, aExtract, calleeOf, al, stX]
  exact ⟨((l3.trans l4).trans l5).put _ ((l3.trans l4).none nX), .inl ⟨hno, trivial⟩⟩
 simp only at K rl1 rl2
 have lb := fun g => hb.len (P := Try.prog) Try.underlying28 g
 have lc := fun g => hc.len (P := Try.prog) Try.underlying38 g
 generalize hbl : bs.length = b at *
 generalize hml : cs.length = m at *
 have hb1 : b ≤ 1000 := by omega
 have hm1 : m ≤ 1000 := by omega
 have hll : ls.length ≤ 1000 := by have := K.len; omega
 clear h2
 have hw : awrap .i64 ((b : Int) + (m : Int)) = (n : Int) := by rw [awrap_i64 _ (by omega) (by omega)]; omega
 obtain ⟨h5, e5, l5, w5, o5⟩ := alloc_f w4 [.slice none 0 0, .slice none 0 0]
 have al := alloc101 h4
 rw [e5] at al
 have nX : h4.own h4.next = none := (Le.refl h4).next w4 (Nat.le_refl _)
 generalize h4.next = X at *
 have stX := tsw Try.underlying123 ts101 o5 (b := l1) (c := l2) (by obtain ⟨a, m, k, e⟩ := rl1.isS; exact ⟨a, m, k, e, rl1.one⟩) (by obtain ⟨a, m, k, e⟩ := rl2.isS; exact ⟨a, m, k, e, rl2.one⟩)
 have oX := AHeap.own_put_eq h5 X (.cells [l1, l2])
 have w6 := w5.put (.cells [l1, l2]) (w5.lt o5)
 have l46 := l5.put (.cells [l1, l2]) nX
 simp only [kS1, bLookup, bMapSet, wantA, isCall, stepOp, evalO, evalL, evalP, evalM, putDst, flat, kA, kB, Nat.reduceLT, ↓reduceIte, kC, Nat.reduceEqDiff, aBuiltin, abinG, guardFree, abin, aInt, aUn, aNilCheck, retQ, retQ1, aresults, aresultL, aresult, mkF, undefV, reduceCtorEq, kD, kE, kF, kG, kH, kI, kJ, kK, aExtract, calleeOf, al, stX]
 generalize h5.put X (.cells [l1, l2]) = h6 at *
 have l36 := l4.trans l46
 have D0 := lA h6 l36
 have D1 := fun o : AObj => lA (h6.alloc o) (l36.trans ((Le.refl h6).alloc w6 _))
 have D2 := fun o o' : AObj => lA ((h6.alloc o).alloc o') (l36.trans (((Le.refl h6).alloc w6 _).alloc (w6.alloc _) _))
 have D3 := fun o o' o2 : AObj => lA (((h6.alloc o).alloc o').alloc o2) (l36.trans ((((Le.refl h6).alloc w6 _).alloc (w6.alloc _) _).alloc ((w6.alloc _).alloc _) _))
 have mB := fun g : AHeap => mk35 g b hb1
 have mC := fun g : AHeap => mk35 g m hm1
 have P0 := fun c d x y => (st3 Try.underlying126 ts104 (h := h6) c d x y b m).1
 have P1 := fun c d x y => (st3 Try.underlying126 ts104 (h := h6) c d x y b m).2.1
 have P2 := fun c d x y => (st3 Try.underlying126 ts104 (h := h6) c d x y b m).2.2
 simp only [al3] at P0 P1 P2
 apply byOne2 (F := fun (fr : AFrame) (h' : AHeap) => ∃ CB CC Pc, hasAll fr [(1, .pointer (some ⟨B, 0, none⟩)), (4, .pointer (some ⟨X, 0, none⟩)), (6, .pointer (some ⟨Pc, 0, none⟩))] ∧
  New3 h6 h' CB CC Pc (List.replicate b (.int .i64 0)) (List.replicate m (.int .i64 0)) [.slice (some ⟨CB, 0, none⟩) b b, .slice (some ⟨CC, 0, none⟩) m m])
 ·intro cont
  refine KDraw.intro mixed (.fl 0 (.fl 1 (.fl 2 (.fl 4 (.fl 5 (.fl 6 (.ch 3 [2] (.ch 7 [6] (.fl 8 (.ch 9 [] (.ch 10 [0, 1, 2, 3, 4, 5, 6, 7, 8, 9] (.done) .no) .no)) (.ch 9 [] (.ch 7 [6] (.fl 8 (.ch 10 [0, 1, 2, 3, 4, 5, 6, 7, 8, 9] (.done) .no)) .no) .no)) (.ch 7 [6] (.ch 3 [2] (.fl 8 (.ch 9 [] (.ch 10 [0, 1, 2, 3, 4, 5, 6, 7, 8, 9] (.done) .no) .no)) (.ch 9 [] (.ch 3 [2] (.fl 8 (.ch 10 [0, 1, 2, 3, 4, 5, 6, 7, 8, 9] (.done) .no)) .no) .no)) (.ch 9 [] (.ch 3 [2] (.ch 7 [6] (.fl 8 (.ch 10 [0, 1, 2, 3, 4, 5, 6, 7, 8, 9] (.done) .no)) .no) (.ch 7 [6] (.ch 3 [2] (.fl 8 (.ch 10 [0, 1, 2, 3, 4, 5, 6, 7, 8, 9] (.done) .no)) .no) .no)) .no))))))))) (by kernel_rfl) ?_
  simp only [kJ1, bLookup, bMapSet, wantA, isCall, stepOp, evalO, evalL, evalP, evalM, putDst, flat, kA, kB, Nat.reduceLT, ↓reduceIte, kC, Nat.reduceEqDiff, aBuiltin, abinG, guardFree, abin, aInt, aUn, aNilCheck, retQ, retQ1, aresults, aresultL, aresult, mkF, undefV, reduceCtorEq, kD, kE, kF, kG, kH, kI, kJ, kK, aExtract, calleeOf, kD1, Nat.reduceBEq, HoldsAll, kL, kM, kN, kO, tf0, tf1, aadd, Nat.zero_add, D0.2.1, D0.2.2.1, (D1 _).2.1, (D1 _).2.2.1, (D2 _ _).2.1, (D2 _ _).2.2.1, (D3 _ _ _).2.1, (D3 _ _ _).2.2.1, lb, lc, mB, mC, alloc104, build104, next_alloc, P0, P1, P2]
  repeat' apply And.intro
  all_goals
   refine KN.gen2 fun fr' h' e1 e2 => cont fr' h' ?_
   subst e1 e2
   exact ⟨_, _, _, (by simp only [hasAll, kS1, bLookup, bMapSet, wantA, isCall, stepOp, evalO, evalL, evalP, evalM, putDst, flat, kA, kB, Nat.reduceLT, ↓reduceIte, kC, Nat.reduceEqDiff, aBuiltin, abinG, guardFree, abin, aInt, aUn, aNilCheck, retQ, retQ1, aresults, aresultL, aresult, mkF, undefV, reduceCtorEq, kD, kE, kF, kG, kH, kI, kJ, kK, aExtract, calleeOf]; simp), new3_of (h := h6) w6 (by omega) (by omega) (by omega) (by omega) (by omega) (by omega) (by first | exact al3_own.1 | exact al3_own.2.1 | exact al3_own.2.2) (by first | exact al3_own.1 | exact al3_own.2.1 | exact al3_own.2.2) (by first | exact al3_own.1 | exact al3_own.2.1 | exact al3_own.2.2)⟩
 rintro fr h7 ⟨CB, CC, Pc, hfr, N⟩
 simp only [hasAll] at hfr
 obtain ⟨f1, f4, f6, -⟩ := hfr
 clear P0 P1 P2 mB mC D0 D1 D2 D3
 obtain ⟨f, hf0⟩ : ∃ f, f = (h7.kill CB).kill CC := ⟨_, rfl⟩
 have k0 : ∀ q, q ≠ CB → q ≠ CC → f.own q = h7.own q := fun q q1 q2 => by rw [hf0, AHeap.own_kill_ne _ _ _ q2, AHeap.own_kill_ne _ _ _ q1]
 have fCB : f.own CB = none := by rw [hf0, AHeap.own_kill_ne _ _ _ N.ab]; exact AHeap.own_kill_eq _ _
 have fCC : f.own CC = none := by rw [hf0]; exact AHeap.own_kill_eq _ _
 have lf7 : Le f h7 := by rw [hf0]; exact (Le.killed _ _).trans (Le.killed _ _)
 have l6f : Le h6 f := by rw [hf0]; exact (N.le.to_kill N.nA).to_kill N.nB
 have oPc : f.own Pc = some (.cells [.slice (some ⟨CB, 0, none⟩) b b, .slice (some ⟨CC, 0, none⟩) m m]) := by rw [k0 Pc N.ap.symm N.bp.symm]; exact N.oP
 have oXf : f.own X = some (.cells [l1, l2]) := l6f.own _ _ oX
 have lhf : Le h f := (l3.trans l36).trans l6f
 have lAf := fun g (l : Le f g) => lA g ((l36.trans l6f).trans l)
 have r1 := rl1.le Stays.isG (l46.trans l6f)
 have r2 := rl2.le Stays.isG (l46.trans l6f)
 have neCC : CB ≠ CC := N.ab
 have w7 := N.wf
 have oB7 : h7.own CB = some (.cells (I64 (List.replicate b 0))) := by rw [N.oA]; simp [I64]
 have oC7 : h7.own CC = some (.cells (I64 (List.replicate m 0))) := by rw [N.oB]; simp [I64]
 clear N hf0 k0
 have sl1 := r1.isS
 have sl2 := r2.isS
 have ldX : ∀ g, Le f g → aload Try.prog g 32 ⟨X, 0, none⟩ = some l1 ∧ aload Try.prog g 32 ⟨X, 1, none⟩ = some l2 := fun g l => by
  obtain ⟨a1, b1, c1, rfl⟩ := sl1
  obtain ⟨a2, b2, c2, rfl⟩ := sl2
  exact ⟨by rw [aload_one Try.underlying32 rfl (l.own _ _ oXf)]; rfl, by rw [aload_one Try.underlying32 rfl (l.own _ _ oXf)]; rfl⟩
 have ldC : ∀ g, Le f g → aload Try.prog g 38 ⟨Pc, 0, none⟩ = some (.slice (some ⟨CB, 0, none⟩) b b) ∧ aload Try.prog g 38 ⟨Pc, 1, none⟩ = some (.slice (some ⟨CC, 0, none⟩) m m) := fun g l => ⟨by rw [aload_one Try.underlying38 rfl (l.own _ _ oPc)]; rfl, by rw [aload_one Try.underlying38 rfl (l.own _ _ oPc)]; rfl⟩
 have ixC : ∀ (M k : Nat) (kk : IntKind) (j : Nat), j < k → aIndexAddr Try.prog 38 (.slice (some ⟨M, 0, none⟩) k k) (.int kk j) = some (.pointer (some ⟨M, j, none⟩)) := fun M k kk j hj => by rw [aIdx Try.underlying38 Try.underlying3 (by kernel_rfl) j hj]; simp [aadd]
 have ldI : ∀ (g : AHeap) (M : Nat) (L : List Int) (j : Nat), g.own M = some (.cells (I64 L)) → j < L.length → aload Try.prog g 3 ⟨M, j, none⟩ = some (.int .i64 (L.getD j 0)) := fun g M L j ho hj => by
  rw [aload_one Try.underlying3 rfl ho, getD_of hj]; simp [I64, getElem?_of hj]
 have stI : ∀ (g : AHeap) (M : Nat) (L : List Int) (j : Nat) (x : Int), g.own M = some (.cells (I64 L)) → j < L.length → aStore Try.prog g 3 (.pointer (some ⟨M, j, none⟩)) (.int .i64 x) = some (g.put M (.cells (I64 (L.set j x)))) := fun g M L j x ho hj => by
  have := aStore1 (P := Try.prog) (t := 3) (x := .int .i64 x) Try.underlying3 (by kernel_rfl) ho (off := j) (by simp [I64]; omega) rfl rfl
  rw [this, I64_set]
 have len1 := fun g => r1.len (P := Try.prog) Try.underlying32 g
 have len2 := fun g => r2.len (P := Try.prog) Try.underlying32 g
 rw [rowsB_length] at len1
 rw [rowsC_length] at len2
 -- how many each one is linked to; the leaves
 obtain ⟨h8, e8, l8, w8, o8⟩ := alloc_f w7 []
 have nV : h7.own h7.next = none := (Le.refl h7).next w7 (Nat.le_refl _)
 simp only [kS1, bLookup, bMapSet, wantA, isCall, stepOp, evalO, evalL, evalP, evalM, putDst, flat, kA, kB, Nat.reduceLT, ↓reduceIte, kC, Nat.reduceEqDiff, aBuiltin, abinG, guardFree, abin, aInt, aUn, aNilCheck, retQ, retQ1, aresults, aresultL, aresult, mkF, undefV, reduceCtorEq, kD, kE, kF, kG, kH, kI, kJ, kK, aExtract, calleeOf, f1, f4, f6, mk105e, e8]
 have g8 : GP h8 (.slice (some ⟨h7.next, 0, none⟩) 0 0) ((lvT b ls 0).map (nodeP b)) := GS.full o8 rfl (by decide)
 have a8 : Apart f (.slice (some ⟨h7.next, 0, none⟩) 0 0) := fun q hq => by injection hq with hq; subst hq; exact lf7.none nV
 have n8B : blk (.slice (some ⟨h7.next, 0, none⟩) 0 0) ≠ some CB := fun e => by injection e with e; rw [e, oB7] at nV; cases nV
 have n8C : blk (.slice (some ⟨h7.next, 0, none⟩) 0 0) ≠ some CC := fun e => by injection e with e; rw [e, oC7] at nV; cases nV
 generalize Value.slice (some ⟨h7.next, 0, none⟩) 0 0 = vv0 at *
 refine KLoop.intro (fun k fr hq => ∃ (kk : Nat) (cB cC : List Int) (vv : Value), k = 2 - kk ∧ kk ≤ 2 ∧ fr = mkF [(1, .pointer (some ⟨B, 0, none⟩)), (4, .pointer (some ⟨X, 0, none⟩)), (6, .pointer (some ⟨Pc, 0, none⟩)), (7, vv), (36, .int .i64 kk)] ∧
   Le f hq ∧ hq.own CB = some (.cells (I64 cB)) ∧ hq.own CC = some (.cells (I64 cC)) ∧ cB.length = b ∧ cC.length = m ∧ GP hq vv ((lvT b ls (if kk = 0 then 0 else if kk = 1 then b else n)).map (nodeP b)) ∧ Apart f vv ∧ blk vv ≠ some CB ∧ blk vv ≠ some CC ∧
   (∀ v, v < (if kk = 0 then 0 else if kk = 1 then b else n) → cntU cB cC b v = ((nbU b ls v).length : Int)))
  2 [(1, .pointer (some ⟨B, 0, none⟩)), (4, .pointer (some ⟨X, 0, none⟩)), (6, .pointer (some ⟨Pc, 0, none⟩)), (7, vv0), (36, .int .i64 (0 : Nat))] (by simp only [hasAll, kS1, bLookup, bMapSet, wantA, isCall, stepOp, evalO, evalL, evalP, evalM, putDst, flat, kA, kB, Nat.reduceLT, ↓reduceIte, kC, Nat.reduceEqDiff, aBuiltin, abinG, guardFree, abin, aInt, aUn, aNilCheck, retQ, retQ1, aresults, aresultL, aresult, mkF, undefV, reduceCtorEq, kD, kE, kF, kG, kH, kI, kJ, kK, aExtract, calleeOf, f1, f4, f6]; simp [f1, f4, f6])
  ⟨0, _, _, vv0, rfl, by omega, rfl, lf7.trans l8, l8.own _ _ oB7, l8.own _ _ oC7, by simp, by simp, g8, a8, n8B, n8C, by intro v hv; simp at hv⟩ ?_
 clear g8 a8 n8B n8C nV o8 w8 l8 e8 f1 f4 f6
 clear h8 vv0
 rintro k fr hq hwq ⟨kk, cB, cC, vv, rfl, hkk, rfl, leq, oB, oC, hBl, hCl, gv, av, nvB, nvC, hcnt⟩
 simp only [kS1, bLookup, bMapSet, wantA, isCall, stepOp, evalO, evalL, evalP, evalM, putDst, flat, kA, kB, Nat.reduceLT, ↓reduceIte, kC, Nat.reduceEqDiff, aBuiltin, abinG, guardFree, abin, aInt, aUn, aNilCheck, retQ, retQ1, aresults, aresultL, aresult, mkF, undefV, reduceCtorEq, kD, kE, kF, kG, kH, kI, kJ, kK, aExtract, calleeOf]
 refine KCond.intro (fun ht => ?_) (fun hf => ?_)
 ·have hk2 : kk < 2 := by have := of_decide_eq_true ht; omega
  clear ht
  have hlk : 2 - (kk + 1) < 2 - kk := by omega
  have hwk : awrap .i64 ((kk : Int) + 1) = ((kk + 1 : Nat) : Int) := awrap_succ kk (by omega)
  by_cases q0 : kk = 0
  ·subst q0
   have zc : ((0 : Nat) : Int) = 0 := rfl
   have P := ldX hq leq
   simp only [kS1, bLookup, bMapSet, wantA, isCall, stepOp, evalO, evalL, evalP, evalM, putDst, flat, kA, kB, Nat.reduceLT, ↓reduceIte, kC, Nat.reduceEqDiff, aBuiltin, abinG, guardFree, abin, aInt, aUn, aNilCheck, retQ, retQ1, aresults, aresultL, aresult, mkF, undefV, reduceCtorEq, kD, kE, kF, kG, kH, kI, kJ, kK, aExtract, calleeOf, zc, (ix101 _).1, aadd, Nat.zero_add, P.1, len1]
   refine KLoop.intro (fun k fr hz => ∃ (j : Nat) (cB cC : List Int) (vv : Value), k = b - j ∧ j ≤ b ∧ fr = mkF [(1, .pointer (some ⟨B, 0, none⟩)), (4, .pointer (some ⟨X, 0, none⟩)), (6, .pointer (some ⟨Pc, 0, none⟩)), (7, vv), (8, .int .i64 (0 : Nat)), (36, .int .i64 (0 : Nat)), (41, l1), (42, .int .i64 b), (43, .int .i64 j)] ∧
     Le f hz ∧ hz.own CB = some (.cells (I64 cB)) ∧ hz.own CC = some (.cells (I64 cC)) ∧ cB.length = b ∧ cC.length = m ∧ GP hz vv ((lvT b ls j).map (nodeP b)) ∧ Apart f vv ∧ blk vv ≠ some CB ∧ blk vv ≠ some CC ∧ (∀ v, v < j → cntU cB cC b v = ((nbU b ls v).length : Int)))
    b [(1, .pointer (some ⟨B, 0, none⟩)), (4, .pointer (some ⟨X, 0, none⟩)), (6, .pointer (some ⟨Pc, 0, none⟩)), (7, vv), (8, .int .i64 (0 : Nat)), (36, .int .i64 (0 : Nat)), (41, l1), (42, .int .i64 b), (43, .int .i64 (0 : Nat))] (by simp only [hasAll, kS1, bLookup, bMapSet, wantA, isCall, stepOp, evalO, evalL, evalP, evalM, putDst, flat, kA, kB, Nat.reduceLT, ↓reduceIte, kC, Nat.reduceEqDiff, aBuiltin, abinG, guardFree, abin, aInt, aUn, aNilCheck, retQ, retQ1, aresults, aresultL, aresult, mkF, undefV, reduceCtorEq, kD, kE, kF, kG, kH, kI, kJ, kK, aExtract, calleeOf]; simp)
    ⟨0, cB, cC, vv, rfl, Nat.zero_le _, rfl, leq, oB, oC, hBl, hCl, by simpa using gv, av, nvB, nvC, by intro v hv; omega⟩ ?_
   clear leq oB oC hBl hCl gv av nvB nvC hcnt P hwq
   rintro k fr hz hwz ⟨j, cB, cC, vv, rfl, hj, rfl, leq, oB, oC, hBl, hCl, gv, av, nvB, nvC, hcnt⟩
   simp only [kS1, bLookup, bMapSet, wantA, isCall, stepOp, evalO, evalL, evalP, evalM, putDst, flat, kA, kB, Nat.reduceLT, ↓reduceIte, kC, Nat.reduceEqDiff, aBuiltin, abinG, guardFree, abin, aInt, aUn, aNilCheck, retQ, retQ1, aresults, aresultL, aresult, mkF, undefV, reduceCtorEq, kD, kE, kF, kG, kH, kI, kJ, kK, aExtract, calleeOf]
   refine KCond.intro (fun ht => ?_) (fun hf => ?_)
   rotate_left
   ·have hge : b ≤ j := lt_f hf
    obtain rfl : b = j := Nat.le_antisymm hge hj
    simp only [kS1, bLookup, bMapSet, wantA, isCall, stepOp, evalO, evalL, evalP, evalM, putDst, flat, kA, kB, Nat.reduceLT, ↓reduceIte, kC, Nat.reduceEqDiff, aBuiltin, abinG, guardFree, abin, aInt, aUn, aNilCheck, retQ, retQ1, aresults, aresultL, aresult, mkF, undefV, reduceCtorEq, kD, kE, kF, kG, kH, kI, kJ, kK, aExtract, calleeOf, hwk]
    exact loop_again (2 - (0 + 1)) [(1, .pointer (some ⟨B, 0, none⟩)), (4, .pointer (some ⟨X, 0, none⟩)), (6, .pointer (some ⟨Pc, 0, none⟩)), (7, vv), (36, .int .i64 ((0 + 1 : Nat) : Int))] hlk (by simp only [hasAll, kS1, bLookup, bMapSet, wantA, isCall, stepOp, evalO, evalL, evalP, evalM, putDst, flat, kA, kB, Nat.reduceLT, ↓reduceIte, kC, Nat.reduceEqDiff, aBuiltin, abinG, guardFree, abin, aInt, aUn, aNilCheck, retQ, retQ1, aresults, aresultL, aresult, mkF, undefV, reduceCtorEq, kD, kE, kF, kG, kH, kI, kJ, kK, aExtract, calleeOf]; simp)
     ⟨0 + 1, cB, cC, vv, rfl, by omega, rfl, leq, oB, oC, hBl, hCl, by simpa using gv, av, nvB, nvC, by simpa using hcnt⟩
   have hjs : j < b := lt_t ht
   clear ht
   have hws := wrapS hjs hb1
   have hls := sub_step hjs
   have hlen : j < (rowsB b ls).length := by rw [rowsB_length]; exact hjs
   have adL := r1.addr (P := Try.prog) Try.underlying32 Try.underlying38 (by kernel_rfl) (k := .i64) j hlen
   obtain ⟨u, ldu, hu⟩ := r1.load' (P := Try.prog) Try.underlying38 rfl j hlen
   have hrow : (rowsB b ls)[j] = rB ls j := by
    have := rowsB_get ls hjs
    rw [List.getElem?_eq_getElem hlen] at this; injection this
   rw [hrow] at hu
   have hu' : GI f u (rB ls j) := hu
   have lu := fun g => hu'.rl.len (P := Try.prog) Try.underlying38 g
   have hdeg : (nbU b ls j).length = (rB ls j).length := nbU_lenB ls hjs
   have hsucc := lvT_succ b ls j
   have hlvl := lvT_len b ls j
   rw [hdeg] at hsucc
   generalize rB ls j = row at *
   have st := stI hz CB cB j (row.length : Int) oB (by rw [hBl]; exact hjs)
   have oX1 := AHeap.own_put_eq hz CB (.cells (I64 (cB.set j (row.length : Int))))
   have w1 := hwz.put (.cells (I64 (cB.set j (row.length : Int)))) (hwz.lt oB)
   have keep : ∀ q o, hz.own q = some o → q ≠ CB → (hz.put CB (.cells (I64 (cB.set j (row.length : Int))))).own q = some o := fun q o h1 h2 => by rw [AHeap.own_put_ne _ _ _ _ h2]; exact h1
   have oO1 := keep CC _ oC neCC.symm
   have l1' := leq.put (.cells (I64 (cB.set j (row.length : Int)))) fCB
   have gv1 : GP (hz.put CB (.cells (I64 (cB.set j (row.length : Int))))) vv ((lvT b ls j).map (nodeP b)) := GS.put gv _ nvB
   have hcnt1 : ∀ v, v < j + 1 → cntU (cB.set j (row.length : Int)) cC b v = ((nbU b ls v).length : Int) := fun v hv => by
    rw [cntU]
    by_cases e : v = j
    ·subst e; rw [hdeg]; rw [if_pos hjs, getD_set, if_pos ⟨rfl, by rw [hBl]; exact hjs⟩]
    ·have := hcnt v (lt_of_ne_succ hv e)
     rw [cntU] at this
     rw [← this]
     have hvb : v < b := Nat.lt_trans (lt_of_ne_succ hv e) hjs
     rw [if_pos hvb, if_pos hvb, getD_set, if_neg (fun h => e h.1.symm)]
   have C := ldC hz leq
   have C1 := ldC _ l1'
   generalize hz.put CB (.cells (I64 (cB.set j (row.length : Int)))) = hz1 at *
   by_cases c : (row.length : Int) ≤ 1
   ·have d : decide ((row.length : Int) ≤ 1) = true := decide_eq_true c
    rw [if_pos (Int.ofNat_le.1 c)] at hsucc
    obtain ⟨vv', g4, g5, k4, k5, gp5, w5', l4', f5, k5p⟩ := gv1.push105 w1 (0, (j : Int)) (by rw [List.length_map]; exact len_ok hlvl hjs hb1)
    obtain ⟨l5', a5⟩ := f5 f l1' av
    obtain ⟨oX5, nX5⟩ := k5p CB _ oX1 nvB
    obtain ⟨oO5, nO5⟩ := k5p CC _ oO1 nvC
    have bd := build107 0 (j : Int)
    simp only [kS1, bLookup, bMapSet, wantA, isCall, stepOp, evalO, evalL, evalP, evalM, putDst, flat, kA, kB, Nat.reduceLT, ↓reduceIte, kC, Nat.reduceEqDiff, aBuiltin, abinG, guardFree, abin, aInt, aUn, aNilCheck, retQ, retQ1, aresults, aresultL, aresult, mkF, undefV, reduceCtorEq, kD, kE, kF, kG, kH, kI, kJ, kK, aExtract, calleeOf, zc, adL, ldu hz leq, (ix104 _).1, aadd, Nat.zero_add, C.1, lu, ixC CB b _ j hjs, st, d, bd, k4, k5, hws]
    refine loop_again (b - (j + 1)) [(1, .pointer (some ⟨B, 0, none⟩)), (4, .pointer (some ⟨X, 0, none⟩)), (6, .pointer (some ⟨Pc, 0, none⟩)), (7, vv'), (8, .int .i64 (0 : Nat)), (36, .int .i64 (0 : Nat)), (41, l1), (42, .int .i64 b), (43, .int .i64 (j + 1 : Nat))] hls (by simp only [hasAll, kS1, bLookup, bMapSet, wantA, isCall, stepOp, evalO, evalL, evalP, evalM, putDst, flat, kA, kB, Nat.reduceLT, ↓reduceIte, kC, Nat.reduceEqDiff, aBuiltin, abinG, guardFree, abin, aInt, aUn, aNilCheck, retQ, retQ1, aresults, aresultL, aresult, mkF, undefV, reduceCtorEq, kD, kE, kF, kG, kH, kI, kJ, kK, aExtract, calleeOf]; simp)
     ⟨j + 1, (cB.set j (row.length : Int)), cC, vv', rfl, hjs, rfl, l5', oX5, oO5, (by rw [List.length_set]; exact hBl), hCl, ?_, a5, nX5, nO5, hcnt1⟩
    rw [show j + 1 = j + 1 from rfl, hsucc, List.map_append, List.map_cons, List.map_nil, nodeB hjs]; exact gp5
   ·have d : decide ((row.length : Int) ≤ 1) = false := decide_eq_false c
    rw [if_neg (fun h => c (Int.ofNat_le.2 h)), List.append_nil] at hsucc
    simp only [kS1, bLookup, bMapSet, wantA, isCall, stepOp, evalO, evalL, evalP, evalM, putDst, flat, kA, kB, Nat.reduceLT, ↓reduceIte, kC, Nat.reduceEqDiff, aBuiltin, abinG, guardFree, abin, aInt, aUn, aNilCheck, retQ, retQ1, aresults, aresultL, aresult, mkF, undefV, reduceCtorEq, kD, kE, kF, kG, kH, kI, kJ, kK, aExtract, calleeOf, zc, adL, ldu hz leq, (ix104 _).1, aadd, Nat.zero_add, C.1, lu, ixC CB b _ j hjs, st, d, hws]
    refine loop_again (b - (j + 1)) [(1, .pointer (some ⟨B, 0, none⟩)), (4, .pointer (some ⟨X, 0, none⟩)), (6, .pointer (some ⟨Pc, 0, none⟩)), (7, vv), (8, .int .i64 (0 : Nat)), (36, .int .i64 (0 : Nat)), (41, l1), (42, .int .i64 b), (43, .int .i64 (j + 1 : Nat))] hls (by simp only [hasAll, kS1, bLookup, bMapSet, wantA, isCall, stepOp, evalO, evalL, evalP, evalM, putDst, flat, kA, kB, Nat.reduceLT, ↓reduceIte, kC, Nat.reduceEqDiff, aBuiltin, abinG, guardFree, abin, aInt, aUn, aNilCheck, retQ, retQ1, aresults, aresultL, aresult, mkF, undefV, reduceCtorEq, kD, kE, kF, kG, kH, kI, kJ, kK, aExtract, calleeOf]; simp)
     ⟨j + 1, (cB.set j (row.length : Int)), cC, vv, rfl, hjs, rfl, l1', oX1, oO1, (by rw [List.length_set]; exact hBl), hCl, ?_, av, nvB, nvC, hcnt1⟩
    rw [show j + 1 = j + 1 from rfl, hsucc]; exact gv1
  ·obtain rfl : kk = 1 := one_of hk2 q0
   have zc : ((1 : Nat) : Int) = 1 := rfl
   have P := ldX hq leq
   simp only [kS1, bLookup, bMapSet, wantA, isCall, stepOp, evalO, evalL, evalP, evalM, putDst, flat, kA, kB, Nat.reduceLT, ↓reduceIte, kC, Nat.reduceEqDiff, aBuiltin, abinG, guardFree, abin, aInt, aUn, aNilCheck, retQ, retQ1, aresults, aresultL, aresult, mkF, undefV, reduceCtorEq, kD, kE, kF, kG, kH, kI, kJ, kK, aExtract, calleeOf, zc, (ix101 _).2, aadd, Nat.zero_add, P.2, len2]
   refine KLoop.intro (fun k fr hz => ∃ (j : Nat) (cB cC : List Int) (vv : Value), k = m - j ∧ j ≤ m ∧ fr = mkF [(1, .pointer (some ⟨B, 0, none⟩)), (4, .pointer (some ⟨X, 0, none⟩)), (6, .pointer (some ⟨Pc, 0, none⟩)), (7, vv), (8, .int .i64 (1 : Nat)), (36, .int .i64 (1 : Nat)), (41, l2), (42, .int .i64 m), (43, .int .i64 j)] ∧
     Le f hz ∧ hz.own CB = some (.cells (I64 cB)) ∧ hz.own CC = some (.cells (I64 cC)) ∧ cB.length = b ∧ cC.length = m ∧ GP hz vv ((lvT b ls (b + j)).map (nodeP b)) ∧ Apart f vv ∧ blk vv ≠ some CB ∧ blk vv ≠ some CC ∧ (∀ v, v < (b + j) → cntU cB cC b v = ((nbU b ls v).length : Int)))
    m [(1, .pointer (some ⟨B, 0, none⟩)), (4, .pointer (some ⟨X, 0, none⟩)), (6, .pointer (some ⟨Pc, 0, none⟩)), (7, vv), (8, .int .i64 (1 : Nat)), (36, .int .i64 (1 : Nat)), (41, l2), (42, .int .i64 m), (43, .int .i64 (0 : Nat))] (by simp only [hasAll, kS1, bLookup, bMapSet, wantA, isCall, stepOp, evalO, evalL, evalP, evalM, putDst, flat, kA, kB, Nat.reduceLT, ↓reduceIte, kC, Nat.reduceEqDiff, aBuiltin, abinG, guardFree, abin, aInt, aUn, aNilCheck, retQ, retQ1, aresults, aresultL, aresult, mkF, undefV, reduceCtorEq, kD, kE, kF, kG, kH, kI, kJ, kK, aExtract, calleeOf]; simp)
    ⟨0, cB, cC, vv, rfl, Nat.zero_le _, rfl, leq, oB, oC, hBl, hCl, by simpa using gv, av, nvB, nvC, by simpa using hcnt⟩ ?_
   clear leq oB oC hBl hCl gv av nvB nvC hcnt P hwq
   rintro k fr hz hwz ⟨j, cB, cC, vv, rfl, hj, rfl, leq, oB, oC, hBl, hCl, gv, av, nvB, nvC, hcnt⟩
   simp only [kS1, bLookup, bMapSet, wantA, isCall, stepOp, evalO, evalL, evalP, evalM, putDst, flat, kA, kB, Nat.reduceLT, ↓reduceIte, kC, Nat.reduceEqDiff, aBuiltin, abinG, guardFree, abin, aInt, aUn, aNilCheck, retQ, retQ1, aresults, aresultL, aresult, mkF, undefV, reduceCtorEq, kD, kE, kF, kG, kH, kI, kJ, kK, aExtract, calleeOf]
   refine KCond.intro (fun ht => ?_) (fun hf => ?_)
   rotate_left
   ·have hge : m ≤ j := lt_f hf
    obtain rfl : m = j := Nat.le_antisymm hge hj
    simp only [kS1, bLookup, bMapSet, wantA, isCall, stepOp, evalO, evalL, evalP, evalM, putDst, flat, kA, kB, Nat.reduceLT, ↓reduceIte, kC, Nat.reduceEqDiff, aBuiltin, abinG, guardFree, abin, aInt, aUn, aNilCheck, retQ, retQ1, aresults, aresultL, aresult, mkF, undefV, reduceCtorEq, kD, kE, kF, kG, kH, kI, kJ, kK, aExtract, calleeOf, hwk]
    exact loop_again (2 - (1 + 1)) [(1, .pointer (some ⟨B, 0, none⟩)), (4, .pointer (some ⟨X, 0, none⟩)), (6, .pointer (some ⟨Pc, 0, none⟩)), (7, vv), (36, .int .i64 ((1 + 1 : Nat) : Int))] hlk (by simp only [hasAll, kS1, bLookup, bMapSet, wantA, isCall, stepOp, evalO, evalL, evalP, evalM, putDst, flat, kA, kB, Nat.reduceLT, ↓reduceIte, kC, Nat.reduceEqDiff, aBuiltin, abinG, guardFree, abin, aInt, aUn, aNilCheck, retQ, retQ1, aresults, aresultL, aresult, mkF, undefV, reduceCtorEq, kD, kE, kF, kG, kH, kI, kJ, kK, aExtract, calleeOf]; simp)
     ⟨1 + 1, cB, cC, vv, rfl, by omega, rfl, leq, oB, oC, hBl, hCl, by rw [show (if (1 + 1 : Nat) = 0 then 0 else if (1 + 1 : Nat) = 1 then b else n) = b + m from by simp; omega]; exact gv, av, nvB, nvC, by rw [show (if (1 + 1 : Nat) = 0 then 0 else if (1 + 1 : Nat) = 1 then b else n) = b + m from by simp; omega]; exact hcnt⟩
   have hjs : j < m := lt_t ht
   clear ht
   have hws := wrapS hjs hm1
   have hls := sub_step hjs
   have hlen : j < (rowsC m ls).length := by rw [rowsC_length]; exact hjs
   have adL := r2.addr (P := Try.prog) Try.underlying32 Try.underlying38 (by kernel_rfl) (k := .i64) j hlen
   obtain ⟨u, ldu, hu⟩ := r2.load' (P := Try.prog) Try.underlying38 rfl j hlen
   have hrow : (rowsC m ls)[j] = rC ls j := by
    have := rowsC_get ls hjs
    rw [List.getElem?_eq_getElem hlen] at this; injection this
   rw [hrow] at hu
   have hu' : GI f u (rC ls j) := hu
   have lu := fun g => hu'.rl.len (P := Try.prog) Try.underlying38 g
   have hdeg : (nbU b ls (b + j)).length = (rC ls j).length := nbU_lenC ls
   have hsucc := lvT_succ b ls (b + j)
   have hlvl := lvT_len b ls (b + j)
   rw [hdeg] at hsucc
   generalize rC ls j = row at *
   have st := stI hz CC cC j (row.length : Int) oC (by rw [hCl]; exact hjs)
   have oX1 := AHeap.own_put_eq hz CC (.cells (I64 (cC.set j (row.length : Int))))
   have w1 := hwz.put (.cells (I64 (cC.set j (row.length : Int)))) (hwz.lt oC)
   have keep : ∀ q o, hz.own q = some o → q ≠ CC → (hz.put CC (.cells (I64 (cC.set j (row.length : Int))))).own q = some o := fun q o h1 h2 => by rw [AHeap.own_put_ne _ _ _ _ h2]; exact h1
   have oO1 := keep CB _ oB neCC
   have l1' := leq.put (.cells (I64 (cC.set j (row.length : Int)))) fCC
   have gv1 : GP (hz.put CC (.cells (I64 (cC.set j (row.length : Int))))) vv ((lvT b ls (b + j)).map (nodeP b)) := GS.put gv _ nvC
   have hcnt1 : ∀ v, v < (b + j) + 1 → cntU cB (cC.set j (row.length : Int)) b v = ((nbU b ls v).length : Int) := fun v hv => by
    rw [cntU]
    by_cases e : v = (b + j)
    ·subst e; rw [hdeg]; rw [if_neg (Nat.not_lt.2 (Nat.le_add_right b j)), Nat.add_sub_cancel_left, getD_set, if_pos ⟨rfl, by rw [hCl]; exact hjs⟩]
    ·have := hcnt v (lt_of_ne_succ hv e)
     rw [cntU] at this
     rw [← this]
     split
     ·rfl
     ·rename_i hnb
      rw [getD_set, if_neg (fun h => e (eq_of_sub hnb h.1))]
   have C := ldC hz leq
   have C1 := ldC _ l1'
   generalize hz.put CC (.cells (I64 (cC.set j (row.length : Int)))) = hz1 at *
   by_cases c : (row.length : Int) ≤ 1
   ·have d : decide ((row.length : Int) ≤ 1) = true := decide_eq_true c
    rw [if_pos (Int.ofNat_le.1 c)] at hsucc
    obtain ⟨vv', g4, g5, k4, k5, gp5, w5', l4', f5, k5p⟩ := gv1.push105 w1 (1, (j : Int)) (by rw [List.length_map]; exact len_ok2 hlvl hjs hb1 hm1)
    obtain ⟨l5', a5⟩ := f5 f l1' av
    obtain ⟨oX5, nX5⟩ := k5p CC _ oX1 nvC
    obtain ⟨oO5, nO5⟩ := k5p CB _ oO1 nvB
    have bd := build107 1 (j : Int)
    simp only [kS1, bLookup, bMapSet, wantA, isCall, stepOp, evalO, evalL, evalP, evalM, putDst, flat, kA, kB, Nat.reduceLT, ↓reduceIte, kC, Nat.reduceEqDiff, aBuiltin, abinG, guardFree, abin, aInt, aUn, aNilCheck, retQ, retQ1, aresults, aresultL, aresult, mkF, undefV, reduceCtorEq, kD, kE, kF, kG, kH, kI, kJ, kK, aExtract, calleeOf, zc, adL, ldu hz leq, (ix104 _).2, aadd, Nat.zero_add, C.2, lu, ixC CC m _ j hjs, st, d, bd, k4, k5, hws]
    refine loop_again (m - (j + 1)) [(1, .pointer (some ⟨B, 0, none⟩)), (4, .pointer (some ⟨X, 0, none⟩)), (6, .pointer (some ⟨Pc, 0, none⟩)), (7, vv'), (8, .int .i64 (1 : Nat)), (36, .int .i64 (1 : Nat)), (41, l2), (42, .int .i64 m), (43, .int .i64 (j + 1 : Nat))] hls (by simp only [hasAll, kS1, bLookup, bMapSet, wantA, isCall, stepOp, evalO, evalL, evalP, evalM, putDst, flat, kA, kB, Nat.reduceLT, ↓reduceIte, kC, Nat.reduceEqDiff, aBuiltin, abinG, guardFree, abin, aInt, aUn, aNilCheck, retQ, retQ1, aresults, aresultL, aresult, mkF, undefV, reduceCtorEq, kD, kE, kF, kG, kH, kI, kJ, kK, aExtract, calleeOf]; simp)
     ⟨j + 1, cB, (cC.set j (row.length : Int)), vv', rfl, hjs, rfl, l5', oO5, oX5, hBl, (by rw [List.length_set]; exact hCl), ?_, a5, nO5, nX5, hcnt1⟩
    rw [show b + (j + 1) = (b + j) + 1 from rfl, hsucc, List.map_append, List.map_cons, List.map_nil, nodeC]; exact gp5
   ·have d : decide ((row.length : Int) ≤ 1) = false := decide_eq_false c
    rw [if_neg (fun h => c (Int.ofNat_le.2 h)), List.append_nil] at hsucc
    simp only [kS1, bLookup, bMapSet, wantA, isCall, stepOp, evalO, evalL, evalP, evalM, putDst, flat, kA, kB, Nat.reduceLT, ↓reduceIte, kC, Nat.reduceEqDiff, aBuiltin, abinG, guardFree, abin, aInt, aUn, aNilCheck, retQ, retQ1, aresults, aresultL, aresult, mkF, undefV, reduceCtorEq, kD, kE, kF, kG, kH, kI, kJ, kK, aExtract, calleeOf, zc, adL, ldu hz leq, (ix104 _).2, aadd, Nat.zero_add, C.2, lu, ixC CC m _ j hjs, st, d, hws]
    refine loop_again (m - (j + 1)) [(1, .pointer (some ⟨B, 0, none⟩)), (4, .pointer (some ⟨X, 0, none⟩)), (6, .pointer (some ⟨Pc, 0, none⟩)), (7, vv), (8, .int .i64 (1 : Nat)), (36, .int .i64 (1 : Nat)), (41, l2), (42, .int .i64 m), (43, .int .i64 (j + 1 : Nat))] hls (by simp only [hasAll, kS1, bLookup, bMapSet, wantA, isCall, stepOp, evalO, evalL, evalP, evalM, putDst, flat, kA, kB, Nat.reduceLT, ↓reduceIte, kC, Nat.reduceEqDiff, aBuiltin, abinG, guardFree, abin, aInt, aUn, aNilCheck, retQ, retQ1, aresults, aresultL, aresult, mkF, undefV, reduceCtorEq, kD, kE, kF, kG, kH, kI, kJ, kK, aExtract, calleeOf]; simp)
     ⟨j + 1, cB, (cC.set j (row.length : Int)), vv, rfl, hjs, rfl, l1', oO1, oX1, hBl, (by rw [List.length_set]; exact hCl), ?_, av, nvB, nvC, hcnt1⟩
    rw [show b + (j + 1) = (b + j) + 1 from rfl, hsucc]; exact gv1
 have hk2 : kk = 2 := by have := of_decide_eq_false hf; omega
 subst hk2
 have gv : GP hq vv ((lvT b ls n).map (nodeP b)) := by simpa using gv
 have hcnt : ∀ v, v < n → cntU cB cC b v = ((nbU b ls v).length : Int) := by simpa using hcnt
 have P0 : PlI b n ls [] (lvT b ls n) (cntU cB cC b) 0 := PlI.start K hcnt (List.nodup_range.filter _) fun v => by
  rw [lvT, List.mem_filter, List.mem_range, decide_eq_true_eq]
  constructor
  ·rintro ⟨h1, h2⟩; exact ⟨h1, by rw [hcnt v h1]; exact Int.ofNat_le.2 h2⟩
  ·rintro ⟨h1, h2⟩; exact ⟨h1, by rw [hcnt v h1] at h2; exact Int.ofNat_le.1 h2⟩
 have fq := lAf hq leq
 simp only [kS1, bLookup, bMapSet, wantA, isCall, stepOp, evalO, evalL, evalP, evalM, putDst, flat, kA, kB, Nat.reduceLT, ↓reduceIte, kC, Nat.reduceEqDiff, aBuiltin, abinG, guardFree, abin, aInt, aUn, aNilCheck, retQ, retQ1, aresults, aresultL, aresult, mkF, undefV, reduceCtorEq, kD, kE, kF, kG, kH, kI, kJ, kK, aExtract, calleeOf, tf0, tf1, aadd, Nat.zero_add, fq.2.1, fq.2.2.1, lb, lc, hw]
 refine KLoop.intro (fun k fr hz => ∃ (done lw : List Nat) (r : Nat) (cB cC : List Int) (vv : Value), k = n - done.length ∧ fr = mkF [(4, .pointer (some ⟨X, 0, none⟩)), (6, .pointer (some ⟨Pc, 0, none⟩)), (7, vv), (11, .int .i64 (n - done.length : Nat))] ∧
   PlI b n ls done lw (cntU cB cC b) r ∧ Le f hz ∧ hz.own CB = some (.cells (I64 cB)) ∧ hz.own CC = some (.cells (I64 cC)) ∧ cB.length = b ∧ cC.length = m ∧ GP hz vv (lw.map (nodeP b)) ∧ Apart f vv ∧ blk vv ≠ some CB ∧ blk vv ≠ some CC)
  n [(4, .pointer (some ⟨X, 0, none⟩)), (6, .pointer (some ⟨Pc, 0, none⟩)), (7, vv), (11, .int .i64 (n : Nat))] (by simp only [hasAll, kS1, bLookup, bMapSet, wantA, isCall, stepOp, evalO, evalL, evalP, evalM, putDst, flat, kA, kB, Nat.reduceLT, ↓reduceIte, kC, Nat.reduceEqDiff, aBuiltin, abinG, guardFree, abin, aInt, aUn, aNilCheck, retQ, retQ1, aresults, aresultL, aresult, mkF, undefV, reduceCtorEq, kD, kE, kF, kG, kH, kI, kJ, kK, aExtract, calleeOf]; simp)
  ⟨[], _, 0, cB, cC, vv, rfl, rfl, P0, leq, oB, oC, hBl, hCl, gv, av, nvB, nvC⟩ ?_
 clear fq P0 hcnt gv leq oB oC hBl hCl av nvB nvC hwq hf hkk
 rintro k fr hz hwz ⟨done, lw, r, cB, cC, vv, rfl, rfl, PI, leq, oB, oC, hBl, hCl, gv, av, nvB, nvC⟩
 have lr := fun g => gv.pr.len105 g
 rw [List.length_map] at lr
 have hdl : (done ++ lw).length ≤ n := by
  have nd : (done ++ lw).Nodup := by
   rw [List.nodup_append]; exact ⟨PI.dn, PI.ln, fun a ha d hd e => by subst e; exact ((PI.lm a).1 hd).2.1 ha⟩
  have := nd.length_le_of_subset (l₂ := List.range n) fun x hx => List.mem_range.2 (by
   rcases List.mem_append.1 hx with hx | hx
   ·exact PI.dlt x hx
   ·exact ((PI.lm x).1 hx).1)
  rwa [List.length_range] at this
 have hdl' := hdl
 rw [List.length_append] at hdl
 have hlw : lw.length ≤ 1000 := by omega
 simp only [kS1, bLookup, bMapSet, wantA, isCall, stepOp, evalO, evalL, evalP, evalM, putDst, flat, kA, kB, Nat.reduceLT, ↓reduceIte, kC, Nat.reduceEqDiff, aBuiltin, abinG, guardFree, abin, aInt, aUn, aNilCheck, retQ, retQ1, aresults, aresultL, aresult, mkF, undefV, reduceCtorEq, kD, kE, kF, kG, kH, kI, kJ, kK, aExtract, calleeOf]
 refine KCond.intro (fun ht => ?_) (fun hf => ?_)
 rotate_left
 ·have hle : n - done.length ≤ 2 := by have := of_decide_eq_false hf; omega
  have hst := PI.stop K hle
  have hne : 0 < lw.length := by
   rcases hst with h | ⟨y, h | h, _⟩ <;> rw [h] <;> simp
  obtain ⟨z0, hz0⟩ : ∃ z, lw[0]? = some z := ⟨_, getElem?_of hne⟩
  have hp0 : (lw.map (nodeP b))[0]? = some (nodeP b z0) := by rw [List.getElem?_map, hz0]; rfl
  have ad0 := gv.pr.addr105 (k := .i64) 0 (by rw [List.length_map]; exact hne)
  have ad0 : aIndexAddr Try.prog 127 vv (.int .i64 0) = some (.pointer (some (pAddr vv 0))) := ad0
  have ld0 := gv.pr.load107 hp0
  obtain ⟨h8', h8, e8, e8s, l8, w8, o8⟩ := new107 hwz (nodeP b z0)
  have nN : hz.own hz.next = none := (Le.refl hz).next hwz (Nat.le_refl _)
  generalize hz.next = N at *
  have gv8 := gv.le l8
  simp only [kS1, bLookup, bMapSet, wantA, isCall, stepOp, evalO, evalL, evalP, evalM, putDst, flat, kA, kB, Nat.reduceLT, ↓reduceIte, kC, Nat.reduceEqDiff, aBuiltin, abinG, guardFree, abin, aInt, aUn, aNilCheck, retQ, retQ1, aresults, aresultL, aresult, mkF, undefV, reduceCtorEq, kD, kE, kF, kG, kH, kI, kJ, kK, aExtract, calleeOf, ad0, ld0, e8, e8s]
  refine KCall.intro (by simp only [kS1, bLookup, bMapSet, wantA, isCall, stepOp, evalO, evalL, evalP, evalM, putDst, flat, kA, kB, Nat.reduceLT, ↓reduceIte, kC, Nat.reduceEqDiff, aBuiltin, abinG, guardFree, abin, aInt, aUn, aNilCheck, retQ, retQ1, aresults, aresultL, aresult, mkF, undefV, reduceCtorEq, kD, kE, kF, kG, kH, kI, kJ, kK, aExtract, calleeOf] <;> rfl) ⟨Try.func88, rfl, by decide⟩ (IdxB_any W0 vv (lw.map (nodeP b)) h8 gv8.pr (by rw [List.length_map]; exact hlw)) ?_
  rintro x h9 w9 ⟨l9, hx⟩
  have node0 : ∀ v, (nodeP b v).1 = 0 ↔ v < b := fun v => by
   unfold nodeP; split <;> simp_all
  have fin : ∀ (g : AHeap), g.own N = some (.cells (cellsP (nodeP b (cenM b n ls)))) → aload Try.prog g 3 ⟨N, 0, none⟩ = some (.int .i64 (nodeP b (cenM b n ls)).1) ∧ aload Try.prog g 3 ⟨N, 1, none⟩ = some (.int .i64 (nodeP b (cenM b n ls)).2) := fun g o => ⟨own0 o, own1 o⟩
  have res : Value.tuple #[.bool (decide ((nodeP b (cenM b n ls)).1 = 0)), .int .i64 (nodeP b (cenM b n ls)).2] = centV b (cenM b n ls) := by
   unfold nodeP centV
   by_cases q : cenM b n ls < b
   ·rw [if_pos q, if_pos q]; rfl
   ·rw [if_neg q, if_neg q]
    have : ((cenM b n ls - b : Nat) : Int) = (cenM b n ls : Int) - (b : Int) := by omega
    simp only [this]; rfl
  have o9 := l9.own _ _ o8
  have out := (lhf.trans leq).trans (l8.trans l9)
  rcases hx with ⟨rfl, hno⟩ | ⟨i, p, rfl, hip, hp1, hfst⟩
  ·have hz : z0 = cenM b n ls := by
    rcases hst with h | ⟨y, h | h, h1, h2⟩
    ·rw [h] at hz0; simpa using hz0.symm
    ·rw [h] at hz0; simpa using hz0.symm
    ·exact absurd ((node0 _).2 h1) (hno _ (List.mem_map.2 ⟨cenM b n ls, by rw [h]; simp, rfl⟩))
   rw [hz] at o9
   have d : decide ((-1 : Int) ≥ 0) = false := by decide
   have F := fin h9 o9
   simp only [kS1, bLookup, bMapSet, wantA, isCall, stepOp, evalO, evalL, evalP, evalM, putDst, flat, kA, kB, Nat.reduceLT, ↓reduceIte, kC, Nat.reduceEqDiff, aBuiltin, abinG, guardFree, abin, aInt, aUn, aNilCheck, retQ, retQ1, aresults, aresultL, aresult, mkF, undefV, reduceCtorEq, kD, kE, kF, kG, kH, kI, kJ, kK, aExtract, calleeOf, d]
   refine KDraw.intro mixed (.fl 0 (.fl 1 (.fl 2 (.fl 3 (.fl 4 (.fl 5 (.fl 6 (.done)))))))) (by kernel_rfl) ?_
   simp only [kS1, bLookup, bMapSet, wantA, isCall, stepOp, evalO, evalL, evalP, evalM, putDst, flat, kA, kB, Nat.reduceLT, ↓reduceIte, kC, Nat.reduceEqDiff, aBuiltin, abinG, guardFree, abin, aInt, aUn, aNilCheck, retQ, retQ1, aresults, aresultL, aresult, mkF, undefV, reduceCtorEq, kD, kE, kF, kG, kH, kI, kJ, kK, aExtract, calleeOf, kD1, Nat.reduceBEq, HoldsAll, kL, kM, kN, kO, nf0, nf1, aadd, Nat.zero_add, F.1, F.2]
   exact ⟨out, .inr ⟨K, res⟩⟩
  ·have d : decide ((i : Int) ≥ 0) = true := decide_eq_true (by omega)
   rw [List.getElem?_map] at hip
   cases hli : lw[i]? with
   | none => rw [hli] at hip; cases hip
   | some zi =>
   rw [hli, Option.map_some] at hip
   injection hip with hip
   subst hip
   have hzi := (node0 zi).1 hp1
   have hz : zi = cenM b n ls := by
    have hm := List.mem_of_getElem? hli
    rcases hst with h | ⟨y, h | h, h1, h2⟩
    ·rw [h] at hm; simpa using hm
    ·rw [h] at hm
     rcases List.mem_cons.1 hm with e | hm
     ·exact e
     ·rw [List.mem_singleton] at hm; subst hm; exact absurd hzi (Nat.not_lt.2 h2)
    ·rw [h] at hm
     rcases List.mem_cons.1 hm with e | hm
     ·subst e; exact absurd hzi (Nat.not_lt.2 h2)
     ·rw [List.mem_singleton] at hm; exact hm
   have hpi : (lw.map (nodeP b))[i]? = some (nodeP b zi) := by rw [List.getElem?_map, hli]; rfl
   have adi := gv.pr.addr105 (k := .i64) i (by rw [List.length_map]; exact (List.getElem?_eq_some_iff.1 hli).1)
   have ldi := (gv8.le l9).pr.load107 hpi
   have st := store107 (p := nodeP b zi) o9
   have o10 := AHeap.own_put_eq h9 N (.cells (cellsP (nodeP b zi)))
   have out10 : Le h (h9.put N (.cells (cellsP (nodeP b zi)))) := out.put _ ((lhf.trans leq).none nN)
   rw [hz] at o10
   have F := fin _ o10
   rw [← hz] at F
   rw [← hz] at res
   simp only [kS1, bLookup, bMapSet, wantA, isCall, stepOp, evalO, evalL, evalP, evalM, putDst, flat, kA, kB, Nat.reduceLT, ↓reduceIte, kC, Nat.reduceEqDiff, aBuiltin, abinG, guardFree, abin, aInt, aUn, aNilCheck, retQ, retQ1, aresults, aresultL, aresult, mkF, undefV, reduceCtorEq, kD, kE, kF, kG, kH, kI, kJ, kK, aExtract, calleeOf, d, adi, ldi, st]
   refine KDraw.intro mixed (.fl 0 (.fl 1 (.fl 2 (.fl 3 (.fl 4 (.fl 5 (.fl 6 (.done)))))))) (by kernel_rfl) ?_
   simp only [kS1, bLookup, bMapSet, wantA, isCall, stepOp, evalO, evalL, evalP, evalM, putDst, flat, kA, kB, Nat.reduceLT, ↓reduceIte, kC, Nat.reduceEqDiff, aBuiltin, abinG, guardFree, abin, aInt, aUn, aNilCheck, retQ, retQ1, aresults, aresultL, aresult, mkF, undefV, reduceCtorEq, kD, kE, kF, kG, kH, kI, kJ, kK, aExtract, calleeOf, kD1, Nat.reduceBEq, HoldsAll, kL, kM, kN, kO, nf0, nf1, aadd, Nat.zero_add, F.1, F.2]
   refine ⟨out10, .inr ⟨K, ?_⟩⟩
   rw [← hz]; exact res
 have hgt : 2 < n - done.length := by have := of_decide_eq_true ht; omega
 clear ht
 have hlne := PI.leaves K hgt
 have hl0 : 0 < lw.length := by cases lw with | nil => exact absurd rfl hlne | cons a r => simp
 have hsub : awrap .i64 (((n - done.length : Nat) : Int) - (lw.length : Int)) = ((n - (done ++ lw).length : Nat) : Int) := by rw [List.length_append, awrap_i64 _ (by omega) (by omega)]; omega
 have hless : n - (done ++ lw).length < n - done.length := by rw [List.length_append]; omega
 obtain ⟨h8, e8, l8, w8, o8⟩ := alloc_f hwz []
 have nV : hz.own hz.next = none := (Le.refl hz).next hwz (Nat.le_refl _)
 obtain ⟨g, hg0⟩ : ∃ g, g = (hz.kill CB).kill CC := ⟨_, rfl⟩
 have gCB : g.own CB = none := by rw [hg0, AHeap.own_kill_ne _ _ _ neCC]; exact AHeap.own_kill_eq _ _
 have gCC : g.own CC = none := by rw [hg0]; exact AHeap.own_kill_eq _ _
 have lfg : Le f g := by rw [hg0]; exact (leq.to_kill fCB).to_kill fCC
 have lgz : Le g hz := by rw [hg0]; exact (Le.killed _ _).trans (Le.killed _ _)
 have gvg : GP g vv (lw.map (nodeP b)) := GS.kept gv fun q o hb ho => by
  rw [hg0, AHeap.own_kill_ne _ _ _ (fun e => nvC (by rw [← e]; exact hb)), AHeap.own_kill_ne _ _ _ (fun e => nvB (by rw [← e]; exact hb))]; exact ho
 have g8 : GP h8 (.slice (some ⟨hz.next, 0, none⟩) 0 0) (([] : List Nat).map (nodeP b)) := GS.full o8 rfl (by decide)
 have a8 : Apart g (.slice (some ⟨hz.next, 0, none⟩) 0 0) := fun q hq => by injection hq with hq; subst hq; exact lgz.none nV
 have n8B : blk (.slice (some ⟨hz.next, 0, none⟩) 0 0) ≠ some CB := fun e => by injection e with e; rw [e, oB] at nV; cases nV
 have n8C : blk (.slice (some ⟨hz.next, 0, none⟩) 0 0) ≠ some CC := fun e => by injection e with e; rw [e, oC] at nV; cases nV
 have oB8 := l8.own _ _ oB
 have oC8 := l8.own _ _ oC
 have lg8 := lgz.trans l8
 simp only [kS1, bLookup, bMapSet, wantA, isCall, stepOp, evalO, evalL, evalP, evalM, putDst, flat, kA, kB, Nat.reduceLT, ↓reduceIte, kC, Nat.reduceEqDiff, aBuiltin, abinG, guardFree, abin, aInt, aUn, aNilCheck, retQ, retQ1, aresults, aresultL, aresult, mkF, undefV, reduceCtorEq, kD, kE, kF, kG, kH, kI, kJ, kK, aExtract, calleeOf, lr, hsub, mk105e, e8]
 generalize Value.slice (some ⟨hz.next, 0, none⟩) 0 0 = iv0 at *
 have R0 := RdI.start (b := b) (n := n) (ls := ls) lw (cntU cB cC b)
 have hdb := fun {w : Nat} (hw : w < n) => deg_bound PI hll hw
 have hlwn : ∀ v ∈ lw, v < n := fun v hv => ((PI.lm v).1 hv).1
 have nxt := fun {c' : Nat → Int} {inner : List Nat} (R : RdI b n ls lw lw.length [] (cntU cB cC b) c' inner) => PI.next K hgt R
 clear hg0 gv av nvB nvC nV o8 w8 l8 e8 hwz
 obtain ⟨c0, hc0⟩ : ∃ c0, c0 = cntU cB cC b := ⟨_, rfl⟩
 rw [← hc0] at R0
 simp only [← hc0] at hdb nxt
 rw [hc0] at R0
 have R0 : RdI b n ls lw 0 [] c0 (cntU cB cC b) [] := by rw [hc0]; exact R0
 refine KLoop.intro (fun k fr hy => ∃ (i : Nat) (cB cC : List Int) (iv : Value) (inner : List Nat), k = lw.length - i ∧ i ≤ lw.length ∧ fr = mkF [(4, .pointer (some ⟨X, 0, none⟩)), (6, .pointer (some ⟨Pc, 0, none⟩)), (11, .int .i64 (n - (done ++ lw).length : Nat)), (12, iv), (80, vv), (81, .int .i64 lw.length), (82, .int .i64 i)] ∧
   Le g hy ∧ hy.own CB = some (.cells (I64 cB)) ∧ hy.own CC = some (.cells (I64 cC)) ∧ cB.length = b ∧ cC.length = m ∧ GP hy iv (inner.map (nodeP b)) ∧ Apart g iv ∧ blk iv ≠ some CB ∧ blk iv ≠ some CC ∧ RdI b n ls lw i [] c0 (cntU cB cC b) inner)
  lw.length [(4, .pointer (some ⟨X, 0, none⟩)), (6, .pointer (some ⟨Pc, 0, none⟩)), (11, .int .i64 (n - (done ++ lw).length : Nat)), (12, iv0), (80, vv), (81, .int .i64 lw.length), (82, .int .i64 (0 : Nat))] (by simp only [hasAll, kS1, bLookup, bMapSet, wantA, isCall, stepOp, evalO, evalL, evalP, evalM, putDst, flat, kA, kB, Nat.reduceLT, ↓reduceIte, kC, Nat.reduceEqDiff, aBuiltin, abinG, guardFree, abin, aInt, aUn, aNilCheck, retQ, retQ1, aresults, aresultL, aresult, mkF, undefV, reduceCtorEq, kD, kE, kF, kG, kH, kI, kJ, kK, aExtract, calleeOf]; simp)
  ⟨0, cB, cC, iv0, [], rfl, Nat.zero_le _, rfl, lg8, oB8, oC8, hBl, hCl, g8, a8, n8B, n8C, R0⟩ ?_
 clear lg8 oB8 oC8 g8 a8 n8B n8C R0 oB oC hBl hCl PI hc0
 rintro k fr hy hwy ⟨i, cB, cC, iv, inner, rfl, hi, rfl, lgy, oB, oC, hBl, hCl, gi, ai, niB, niC, Rd⟩
 simp only [kS1, bLookup, bMapSet, wantA, isCall, stepOp, evalO, evalL, evalP, evalM, putDst, flat, kA, kB, Nat.reduceLT, ↓reduceIte, kC, Nat.reduceEqDiff, aBuiltin, abinG, guardFree, abin, aInt, aUn, aNilCheck, retQ, retQ1, aresults, aresultL, aresult, mkF, undefV, reduceCtorEq, kD, kE, kF, kG, kH, kI, kJ, kK, aExtract, calleeOf]
 refine KCond.intro (fun ht => ?_) (fun hf => ?_)
 rotate_left
 ·have hge : lw.length ≤ i := lt_f hf
  obtain rfl : lw.length = i := Nat.le_antisymm hge hi
  simp only [kS1, bLookup, bMapSet, wantA, isCall, stepOp, evalO, evalL, evalP, evalM, putDst, flat, kA, kB, Nat.reduceLT, ↓reduceIte, kC, Nat.reduceEqDiff, aBuiltin, abinG, guardFree, abin, aInt, aUn, aNilCheck, retQ, retQ1, aresults, aresultL, aresult, mkF, undefV, reduceCtorEq, kD, kE, kF, kG, kH, kI, kJ, kK, aExtract, calleeOf]
  exact loop_again (n - (done ++ lw).length) [(4, .pointer (some ⟨X, 0, none⟩)), (6, .pointer (some ⟨Pc, 0, none⟩)), (7, iv), (11, .int .i64 (n - (done ++ lw).length : Nat))] hless (by simp only [hasAll, kS1, bLookup, bMapSet, wantA, isCall, stepOp, evalO, evalL, evalP, evalM, putDst, flat, kA, kB, Nat.reduceLT, ↓reduceIte, kC, Nat.reduceEqDiff, aBuiltin, abinG, guardFree, abin, aInt, aUn, aNilCheck, retQ, retQ1, aresults, aresultL, aresult, mkF, undefV, reduceCtorEq, kD, kE, kF, kG, kH, kI, kJ, kK, aExtract, calleeOf]; simp)
   ⟨done ++ lw, inner, r + 1, cB, cC, iv, rfl, rfl, nxt Rd, lfg.trans lgy, oB, oC, hBl, hCl, gi, (fun q hq => lfg.none (ai q hq)), niB, niC⟩
 have hlt : i < lw.length := lt_t ht
 clear ht
 have hws := wrapS hlt hlw
 have hls := sub_step hlt
 have hvi := getElem?_of hlt
 have hvm := List.getElem_mem hlt
 generalize lw[i] = v at hvi hvm
 have hvn := hlwn v hvm
 have hnv : (lw.map (nodeP b))[i]? = some (nodeP b v) := by rw [List.getElem?_map, hvi]; rfl
 have adr := gvg.pr.addr105 (k := .i64) i (by rw [List.length_map]; exact hlt)
 have ldr := (gvg.le lgy).pr.load107 hnv
 obtain ⟨h8', h8, e8, e8s, l8, w8, o8⟩ := new107 hwy (nodeP b v)
 have nN : hy.own hy.next = none := (Le.refl hy).next hwy (Nat.le_refl _)
 have oB8 := l8.own _ _ oB
 have oC8 := l8.own _ _ oC
 have neNB : hy.next ≠ CB := fun e => by rw [e, oB] at nN; cases nN
 have neNC : hy.next ≠ CC := fun e => by rw [e, oC] at nN; cases nN
 have niN : blk iv ≠ some hy.next := fun e => GS.blk_own gi e nN
 generalize hy.next = N at *
 have lg8 := lgy.trans l8
 have gi8 := gi.le l8
 have m0 := own0 o8
 have m1 := own1 o8
 have w10 : awrap .i64 ((1 : Int) - 0) = 1 := by decide
 have w11 : awrap .i64 ((1 : Int) - 1) = 0 := by decide
 have hndn := nbU_nodup K.ok (good_lk.2 K).nd v
 have hnbm : ∀ u, u ∈ nbU b ls v → u < n := fun u hu => (((nbU_mem K.ok).1 hu).lt (edgesU_in K.ok)).2
 simp only [kS1, bLookup, bMapSet, wantA, isCall, stepOp, evalO, evalL, evalP, evalM, putDst, flat, kA, kB, Nat.reduceLT, ↓reduceIte, kC, Nat.reduceEqDiff, aBuiltin, abinG, guardFree, abin, aInt, aUn, aNilCheck, retQ, retQ1, aresults, aresultL, aresult, mkF, undefV, reduceCtorEq, kD, kE, kF, kG, kH, kI, kJ, kK, aExtract, calleeOf, adr, ldr, e8, e8s]
 by_cases hvb : v < b
 ·have hsz : v < b := hvb
  have hnode : nodeP b v = (0, ((v : Nat) : Int)) := by rw [nodeP, if_pos hvb]
  rw [hnode] at m0 m1 o8
  have hlen : v < (rowsB b ls).length := by rw [rowsB_length]; exact hsz
  have adL := r1.addr (P := Try.prog) Try.underlying32 Try.underlying38 (by kernel_rfl) (k := .i64) v hlen
  obtain ⟨u, ldu, hu⟩ := r1.load' (P := Try.prog) Try.underlying38 rfl v hlen
  have hrow : (rowsB b ls)[v] = rB ls v := by
   have := rowsB_get ls hsz
   rw [List.getElem?_eq_getElem hlen] at this; injection this
  rw [hrow] at hu
  have hu' : GI f u (rB ls v) := hu
  have hnbE : nbU b ls v = (rB ls v).map fun x => b + x.toNat := by rw [nbU, if_pos hvb]
  have hmemr : ∀ x ∈ rB ls v, ∃ c : Nat, x = (c : Int) ∧ c < m := fun x hx => by
   obtain ⟨c, e, h1, h2⟩ := rB_mem K.ok hx; exact ⟨c, e, lt_m hn h1⟩
  have hrl : (rB ls v).length ≤ 1000 := Nat.le_trans (rB_len ls v) hll
  rw [hnbE] at hndn hnbm
  generalize rB ls v = row at *
  have lu := fun g => hu'.rl.len (P := Try.prog) Try.underlying38 g
  have lf8 := lfg.trans lg8
  have P8 := ldX h8 lf8
  refine KDraw.intro mixed (.fl 0 (.fl 1 (.fl 2 (.fl 3 (.fl 4 (.fl 5 (.fl 6 (.fl 7 (.fl 8 (.fl 9 (.done))))))))))) (by kernel_rfl) ?_
  simp only [kS1, bLookup, bMapSet, wantA, isCall, stepOp, evalO, evalL, evalP, evalM, putDst, flat, kA, kB, Nat.reduceLT, ↓reduceIte, kC, Nat.reduceEqDiff, aBuiltin, abinG, guardFree, abin, aInt, aUn, aNilCheck, retQ, retQ1, aresults, aresultL, aresult, mkF, undefV, reduceCtorEq, kD, kE, kF, kG, kH, kI, kJ, kK, aExtract, calleeOf, kD1, Nat.reduceBEq, HoldsAll, kL, kM, kN, kO, nf0, nf1, aadd, Nat.zero_add, m0, m1, (ix101 _).1, P8.1, adL, ldu h8 lf8, lu]
  refine KLoop.intro (fun k fr hx => ∃ (j : Nat) (cB cC : List Int) (iv : Value) (inner : List Nat), k = row.length - j ∧ j ≤ row.length ∧ fr = mkF [(4, .pointer (some ⟨X, 0, none⟩)), (6, .pointer (some ⟨Pc, 0, none⟩)), (11, .int .i64 (n - (done ++ lw).length : Nat)), (12, iv), (14, .pointer (some ⟨N, 0, none⟩)), (80, vv), (81, .int .i64 lw.length), (82, .int .i64 i), (93, u), (94, .int .i64 row.length), (95, .int .i64 j)] ∧
    Le g hx ∧ hx.own N = some (.cells (cellsP (0, ((v : Nat) : Int)))) ∧ hx.own CB = some (.cells (I64 cB)) ∧ hx.own CC = some (.cells (I64 cC)) ∧ cB.length = b ∧ cC.length = m ∧ GP hx iv (inner.map (nodeP b)) ∧ Apart g iv ∧ blk iv ≠ some CB ∧ blk iv ≠ some CC ∧ blk iv ≠ some N ∧ RdI b n ls lw i ((row.take j).map fun x => b + x.toNat) c0 (cntU cB cC b) inner)
   row.length [(4, .pointer (some ⟨X, 0, none⟩)), (6, .pointer (some ⟨Pc, 0, none⟩)), (11, .int .i64 (n - (done ++ lw).length : Nat)), (12, iv), (14, .pointer (some ⟨N, 0, none⟩)), (80, vv), (81, .int .i64 lw.length), (82, .int .i64 i), (93, u), (94, .int .i64 row.length), (95, .int .i64 (0 : Nat))] (by simp only [hasAll, kS1, bLookup, bMapSet, wantA, isCall, stepOp, evalO, evalL, evalP, evalM, putDst, flat, kA, kB, Nat.reduceLT, ↓reduceIte, kC, Nat.reduceEqDiff, aBuiltin, abinG, guardFree, abin, aInt, aUn, aNilCheck, retQ, retQ1, aresults, aresultL, aresult, mkF, undefV, reduceCtorEq, kD, kE, kF, kG, kH, kI, kJ, kK, aExtract, calleeOf]; simp)
   ⟨0, cB, cC, iv, inner, rfl, Nat.zero_le _, rfl, lg8, o8, oB8, oC8, hBl, hCl, gi8, ai, niB, niC, niN, Rd⟩ ?_
  clear lg8 oB8 oC8 gi8 ai niB niC niN Rd m0 m1 o8 w8 e8 e8s l8 P8 lf8 oB oC gi hBl hCl lgy
  rintro k fr hx hwx ⟨j, cB, cC, iv, inner, rfl, hj, rfl, lgx, oN, oB, oC, hBl, hCl, gi, ai, niB, niC, niN, Rd⟩
  simp only [kS1, bLookup, bMapSet, wantA, isCall, stepOp, evalO, evalL, evalP, evalM, putDst, flat, kA, kB, Nat.reduceLT, ↓reduceIte, kC, Nat.reduceEqDiff, aBuiltin, abinG, guardFree, abin, aInt, aUn, aNilCheck, retQ, retQ1, aresults, aresultL, aresult, mkF, undefV, reduceCtorEq, kD, kE, kF, kG, kH, kI, kJ, kK, aExtract, calleeOf]
  refine KCond.intro (fun ht => ?_) (fun hf => ?_)
  rotate_left
  ·have hge : row.length ≤ j := lt_f hf
   rw [List.take_of_length_le hge, ← hnbE] at Rd
   simp only [kS1, bLookup, bMapSet, wantA, isCall, stepOp, evalO, evalL, evalP, evalM, putDst, flat, kA, kB, Nat.reduceLT, ↓reduceIte, kC, Nat.reduceEqDiff, aBuiltin, abinG, guardFree, abin, aInt, aUn, aNilCheck, retQ, retQ1, aresults, aresultL, aresult, mkF, undefV, reduceCtorEq, kD, kE, kF, kG, kH, kI, kJ, kK, aExtract, calleeOf, hws]
   exact loop_again (lw.length - (i + 1)) [(4, .pointer (some ⟨X, 0, none⟩)), (6, .pointer (some ⟨Pc, 0, none⟩)), (11, .int .i64 (n - (done ++ lw).length : Nat)), (12, iv), (80, vv), (81, .int .i64 lw.length), (82, .int .i64 (i + 1 : Nat))] hls (by simp only [hasAll, kS1, bLookup, bMapSet, wantA, isCall, stepOp, evalO, evalL, evalP, evalM, putDst, flat, kA, kB, Nat.reduceLT, ↓reduceIte, kC, Nat.reduceEqDiff, aBuiltin, abinG, guardFree, abin, aInt, aUn, aNilCheck, retQ, retQ1, aresults, aresultL, aresult, mkF, undefV, reduceCtorEq, kD, kE, kF, kG, kH, kI, kJ, kK, aExtract, calleeOf]; simp)
    ⟨i + 1, cB, cC, iv, inner, rfl, hlt, rfl, lgx, oB, oC, hBl, hCl, gi, ai, niB, niC, Rd.turn hvi⟩
  have hlj : j < row.length := lt_t ht
  clear ht
  have hws2 := wrapS hlj hrl
  have hls2 := sub_step hlj
  have lfx := lfg.trans lgx
  have adj_ := hu'.rl.addr (P := Try.prog) Try.underlying38 Try.underlying3 (by kernel_rfl) (k := .i64) j hlj
  have ldj := (hu'.le lfx).rl.loadI (P := Try.prog) Try.underlying3 rfl j hlj
  have htk : row.take (j + 1) = row.take j ++ [row[j]] := List.take_succ_eq_append_getElem hlj
  have hspl : row = row.take j ++ row[j] :: row.drop (j + 1) := by rw [← List.drop_eq_getElem_cons hlj, List.take_append_drop]
  obtain ⟨c, hc, hcz⟩ := hmemr _ (List.getElem_mem hlj)
  rw [hc] at ldj htk hspl
  have hwn : b + c < n := hnbm _ (List.mem_map.2 ⟨(c : Int), by rw [hspl]; simp, by simp⟩)
  have hpre : b + c ∉ (row.take j).map fun x => b + x.toNat := by
   rw [hspl, List.map_append, List.map_cons, List.nodup_append] at hndn
   intro hm
   exact hndn.2.2 _ hm _ (List.mem_cons_self ..) (by simp)
  have htk' : (row.take (j + 1)).map (fun x => b + x.toNat) = (row.take j).map (fun x => b + x.toNat) ++ [b + c] := by rw [htk, List.map_append]; simp
  have m0 := own0 oN
  have C := ldC hx lfx
  have hcl : c < (cC).length := by rw [hCl]; exact hcz
  have hval : (cC).getD c 0 = cntU cB cC b (b + c) := by rw [cntU, if_neg (Nat.not_lt.2 (Nat.le_add_right b c)), Nat.add_sub_cancel_left]
  have ld1 := ldI hx CC _ c oC hcl
  obtain ⟨d0, d1⟩ := hdb hwn
  have hwb := cnt_bound Rd hlw hwn d0 d1
  rw [hval] at ld1
  have st := stI hx CC cC c (cntU cB cC b (b + c) - 1) oC hcl
  have hnew : ∀ u, u < n → cntU cB (cC.set c (cntU cB cC b (b + c) - 1)) b u = if u = b + c then cntU cB cC b u - 1 else cntU cB cC b u := fun u _ => by
   rw [cntC hcz hCl]
   by_cases e : u = b + c
   ·rw [if_pos e, if_pos e, e]
   ·rw [if_neg e, if_neg e]
  have Rn := Rd.step hwn hpre hnew
  rw [← htk'] at Rn
  have hnv2 : cntU cB (cC.set c (cntU cB cC b (b + c) - 1)) b (b + c) = cntU cB cC b (b + c) - 1 := by rw [hnew _ hwn, if_pos rfl]
  have oX1 := AHeap.own_put_eq hx CC (.cells (I64 ((cC).set c (cntU cB cC b (b + c) - 1))))
  have w1 := hwx.put (.cells (I64 ((cC).set c (cntU cB cC b (b + c) - 1)))) (hwx.lt oC)
  have keep : ∀ q o, hx.own q = some o → q ≠ CC → (hx.put CC (.cells (I64 ((cC).set c (cntU cB cC b (b + c) - 1))))).own q = some o := fun q o h1 h2 => by rw [AHeap.own_put_ne _ _ _ _ h2]; exact h1
  have oN1 := keep N _ oN neNC
  have oO1 := keep CB _ oB neCC
  have l1' := lgx.put (.cells (I64 ((cC).set c (cntU cB cC b (b + c) - 1)))) gCC
  have gi1 : GP (hx.put CC (.cells (I64 ((cC).set c (cntU cB cC b (b + c) - 1))))) iv (inner.map (nodeP b)) := GS.put gi _ niC
  have ld2 := ldI _ CC _ c oX1 (by rw [List.length_set]; exact hcl)
  rw [getD_set, if_pos ⟨rfl, hcl⟩] at ld2
  have C1 := ldC _ (lfg.trans l1')
  have m0' := own0 oN1
  generalize hx.put CC (.cells (I64 ((cC).set c (cntU cB cC b (b + c) - 1)))) = hx1 at *
  rw [hnv2] at Rn
  generalize hze : cntU cB cC b (b + c) - 1 = z at *
  by_cases cz : z = 1
  ·have d : decide (z = 1) = true := decide_eq_true cz
   rw [if_pos cz] at Rn
   obtain ⟨iv', g4, g5, k4, k5, gp5, w5', l4', f5, k5p⟩ := gi1.push105 w1 (1, (c : Int)) (by rw [List.length_map]; exact in_len Rd h1)
   obtain ⟨l5', a5⟩ := f5 g l1' ai
   obtain ⟨oN5, nN5⟩ := k5p N _ oN1 niN
   obtain ⟨oX5, nX5⟩ := k5p CC _ oX1 niC
   obtain ⟨oO5, nO5⟩ := k5p CB _ oO1 niB
   have bd := build107 1 (c : Int)
   simp only [kS1, bLookup, bMapSet, wantA, isCall, stepOp, evalO, evalL, evalP, evalM, putDst, flat, kA, kB, Nat.reduceLT, ↓reduceIte, kC, Nat.reduceEqDiff, aBuiltin, abinG, guardFree, abin, aInt, aUn, aNilCheck, retQ, retQ1, aresults, aresultL, aresult, mkF, undefV, reduceCtorEq, kD, kE, kF, kG, kH, kI, kJ, kK, aExtract, calleeOf, adj_, ldj, nf0, aadd, Nat.zero_add, m0, m0', w10, (ix104 _).2, C.2, C1.2, ixC CC m _ c hcz, ld1, hze, hwb, st, ld2, d, bd, k4, k5, hws2]
   refine loop_again (row.length - (j + 1)) [(4, .pointer (some ⟨X, 0, none⟩)), (6, .pointer (some ⟨Pc, 0, none⟩)), (11, .int .i64 (n - (done ++ lw).length : Nat)), (12, iv'), (14, .pointer (some ⟨N, 0, none⟩)), (80, vv), (81, .int .i64 lw.length), (82, .int .i64 i), (93, u), (94, .int .i64 row.length), (95, .int .i64 (j + 1 : Nat))] hls2 (by simp only [hasAll, kS1, bLookup, bMapSet, wantA, isCall, stepOp, evalO, evalL, evalP, evalM, putDst, flat, kA, kB, Nat.reduceLT, ↓reduceIte, kC, Nat.reduceEqDiff, aBuiltin, abinG, guardFree, abin, aInt, aUn, aNilCheck, retQ, retQ1, aresults, aresultL, aresult, mkF, undefV, reduceCtorEq, kD, kE, kF, kG, kH, kI, kJ, kK, aExtract, calleeOf]; simp)
    ⟨j + 1, cB, (cC.set c (z)), iv', inner ++ [b + c], rfl, hlj, rfl, l5', oN5, oO5, oX5, hBl, (by rw [List.length_set]; exact hCl), ?_, a5, nO5, nX5, nN5, Rn⟩
   rw [List.map_append, List.map_cons, List.map_nil, nodeC]; exact gp5
  ·have d : decide (z = 1) = false := decide_eq_false cz
   rw [if_neg cz] at Rn
   simp only [kS1, bLookup, bMapSet, wantA, isCall, stepOp, evalO, evalL, evalP, evalM, putDst, flat, kA, kB, Nat.reduceLT, ↓reduceIte, kC, Nat.reduceEqDiff, aBuiltin, abinG, guardFree, abin, aInt, aUn, aNilCheck, retQ, retQ1, aresults, aresultL, aresult, mkF, undefV, reduceCtorEq, kD, kE, kF, kG, kH, kI, kJ, kK, aExtract, calleeOf, adj_, ldj, nf0, aadd, Nat.zero_add, m0, m0', w10, (ix104 _).2, C.2, C1.2, ixC CC m _ c hcz, ld1, hze, hwb, st, ld2, d, hws2]
   exact loop_again (row.length - (j + 1)) [(4, .pointer (some ⟨X, 0, none⟩)), (6, .pointer (some ⟨Pc, 0, none⟩)), (11, .int .i64 (n - (done ++ lw).length : Nat)), (12, iv), (14, .pointer (some ⟨N, 0, none⟩)), (80, vv), (81, .int .i64 lw.length), (82, .int .i64 i), (93, u), (94, .int .i64 row.length), (95, .int .i64 (j + 1 : Nat))] hls2 (by simp only [hasAll, kS1, bLookup, bMapSet, wantA, isCall, stepOp, evalO, evalL, evalP, evalM, putDst, flat, kA, kB, Nat.reduceLT, ↓reduceIte, kC, Nat.reduceEqDiff, aBuiltin, abinG, guardFree, abin, aInt, aUn, aNilCheck, retQ, retQ1, aresults, aresultL, aresult, mkF, undefV, reduceCtorEq, kD, kE, kF, kG, kH, kI, kJ, kK, aExtract, calleeOf]; simp)
    ⟨j + 1, cB, (cC.set c (z)), iv, inner, rfl, hlj, rfl, l1', oN1, oO1, oX1, hBl, (by rw [List.length_set]; exact hCl), gi1, ai, niB, niC, niN, Rn⟩
 ·have hsz : (v - b) < m := sub_lt_m hn hvn hvb
  have hnode : nodeP b v = (1, (((v - b) : Nat) : Int)) := by rw [nodeP, if_neg hvb]
  rw [hnode] at m0 m1 o8
  have hlen : (v - b) < (rowsC m ls).length := by rw [rowsC_length]; exact hsz
  have adL := r2.addr (P := Try.prog) Try.underlying32 Try.underlying38 (by kernel_rfl) (k := .i64) (v - b) hlen
  obtain ⟨u, ldu, hu⟩ := r2.load' (P := Try.prog) Try.underlying38 rfl (v - b) hlen
  have hrow : (rowsC m ls)[(v - b)] = rC ls (v - b) := by
   have := rowsC_get ls hsz
   rw [List.getElem?_eq_getElem hlen] at this; injection this
  rw [hrow] at hu
  have hu' : GI f u (rC ls (v - b)) := hu
  have hnbE : nbU b ls v = (rC ls (v - b)).map fun x => x.toNat := by rw [nbU, if_neg hvb]
  have hmemr : ∀ x ∈ rC ls (v - b), ∃ c : Nat, x = (c : Int) ∧ c < b := fun x hx => by
   obtain ⟨c, e, h1, h2⟩ := rC_mem K.ok hx; exact ⟨c, e, h1⟩
  have hrl : (rC ls (v - b)).length ≤ 1000 := Nat.le_trans (rC_len ls (v - b)) hll
  rw [hnbE] at hndn hnbm
  generalize rC ls (v - b) = row at *
  have lu := fun g => hu'.rl.len (P := Try.prog) Try.underlying38 g
  have lf8 := lfg.trans lg8
  have P8 := ldX h8 lf8
  refine KDraw.intro mixed (.fl 0 (.fl 1 (.fl 2 (.fl 3 (.fl 4 (.fl 5 (.fl 6 (.fl 7 (.fl 8 (.fl 9 (.done))))))))))) (by kernel_rfl) ?_
  simp only [kS1, bLookup, bMapSet, wantA, isCall, stepOp, evalO, evalL, evalP, evalM, putDst, flat, kA, kB, Nat.reduceLT, ↓reduceIte, kC, Nat.reduceEqDiff, aBuiltin, abinG, guardFree, abin, aInt, aUn, aNilCheck, retQ, retQ1, aresults, aresultL, aresult, mkF, undefV, reduceCtorEq, kD, kE, kF, kG, kH, kI, kJ, kK, aExtract, calleeOf, kD1, Nat.reduceBEq, HoldsAll, kL, kM, kN, kO, nf0, nf1, aadd, Nat.zero_add, m0, m1, (ix101 _).2, P8.2, adL, ldu h8 lf8, lu]
  refine KLoop.intro (fun k fr hx => ∃ (j : Nat) (cB cC : List Int) (iv : Value) (inner : List Nat), k = row.length - j ∧ j ≤ row.length ∧ fr = mkF [(4, .pointer (some ⟨X, 0, none⟩)), (6, .pointer (some ⟨Pc, 0, none⟩)), (11, .int .i64 (n - (done ++ lw).length : Nat)), (12, iv), (14, .pointer (some ⟨N, 0, none⟩)), (80, vv), (81, .int .i64 lw.length), (82, .int .i64 i), (93, u), (94, .int .i64 row.length), (95, .int .i64 j)] ∧
    Le g hx ∧ hx.own N = some (.cells (cellsP (1, (((v - b) : Nat) : Int)))) ∧ hx.own CB = some (.cells (I64 cB)) ∧ hx.own CC = some (.cells (I64 cC)) ∧ cB.length = b ∧ cC.length = m ∧ GP hx iv (inner.map (nodeP b)) ∧ Apart g iv ∧ blk iv ≠ some CB ∧ blk iv ≠ some CC ∧ blk iv ≠ some N ∧ RdI b n ls lw i ((row.take j).map fun x => x.toNat) c0 (cntU cB cC b) inner)
   row.length [(4, .pointer (some ⟨X, 0, none⟩)), (6, .pointer (some ⟨Pc, 0, none⟩)), (11, .int .i64 (n - (done ++ lw).length : Nat)), (12, iv), (14, .pointer (some ⟨N, 0, none⟩)), (80, vv), (81, .int .i64 lw.length), (82, .int .i64 i), (93, u), (94, .int .i64 row.length), (95, .int .i64 (0 : Nat))] (by simp only [hasAll, kS1, bLookup, bMapSet, wantA, isCall, stepOp, evalO, evalL, evalP, evalM, putDst, flat, kA, kB, Nat.reduceLT, ↓reduceIte, kC, Nat.reduceEqDiff, aBuiltin, abinG, guardFree, abin, aInt, aUn, aNilCheck, retQ, retQ1, aresults, aresultL, aresult, mkF, undefV, reduceCtorEq, kD, kE, kF, kG, kH, kI, kJ, kK, aExtract, calleeOf]; simp)
   ⟨0, cB, cC, iv, inner, rfl, Nat.zero_le _, rfl, lg8, o8, oB8, oC8, hBl, hCl, gi8, ai, niB, niC, niN, Rd⟩ ?_
  clear lg8 oB8 oC8 gi8 ai niB niC niN Rd m0 m1 o8 w8 e8 e8s l8 P8 lf8 oB oC gi hBl hCl lgy
  rintro k fr hx hwx ⟨j, cB, cC, iv, inner, rfl, hj, rfl, lgx, oN, oB, oC, hBl, hCl, gi, ai, niB, niC, niN, Rd⟩
  simp only [kS1, bLookup, bMapSet, wantA, isCall, stepOp, evalO, evalL, evalP, evalM, putDst, flat, kA, kB, Nat.reduceLT, ↓reduceIte, kC, Nat.reduceEqDiff, aBuiltin, abinG, guardFree, abin, aInt, aUn, aNilCheck, retQ, retQ1, aresults, aresultL, aresult, mkF, undefV, reduceCtorEq, kD, kE, kF, kG, kH, kI, kJ, kK, aExtract, calleeOf]
  refine KCond.intro (fun ht => ?_) (fun hf => ?_)
  rotate_left
  ·have hge : row.length ≤ j := lt_f hf
   rw [List.take_of_length_le hge, ← hnbE] at Rd
   simp only [kS1, bLookup, bMapSet, wantA, isCall, stepOp, evalO, evalL, evalP, evalM, putDst, flat, kA, kB, Nat.reduceLT, ↓reduceIte, kC, Nat.reduceEqDiff, aBuiltin, abinG, guardFree, abin, aInt, aUn, aNilCheck, retQ, retQ1, aresults, aresultL, aresult, mkF, undefV, reduceCtorEq, kD, kE, kF, kG, kH, kI, kJ, kK, aExtract, calleeOf, hws]
   exact loop_again (lw.length - (i + 1)) [(4, .pointer (some ⟨X, 0, none⟩)), (6, .pointer (some ⟨Pc, 0, none⟩)), (11, .int .i64 (n - (done ++ lw).length : Nat)), (12, iv), (80, vv), (81, .int .i64 lw.length), (82, .int .i64 (i + 1 : Nat))] hls (by simp only [hasAll, kS1, bLookup, bMapSet, wantA, isCall, stepOp, evalO, evalL, evalP, evalM, putDst, flat, kA, kB, Nat.reduceLT, ↓reduceIte, kC, Nat.reduceEqDiff, aBuiltin, abinG, guardFree, abin, aInt, aUn, aNilCheck, retQ, retQ1, aresults, aresultL, aresult, mkF, undefV, reduceCtorEq, kD, kE, kF, kG, kH, kI, kJ, kK, aExtract, calleeOf]; simp)
    ⟨i + 1, cB, cC, iv, inner, rfl, hlt, rfl, lgx, oB, oC, hBl, hCl, gi, ai, niB, niC, Rd.turn hvi⟩
  have hlj : j < row.length := lt_t ht
  clear ht
  have hws2 := wrapS hlj hrl
  have hls2 := sub_step hlj
  have lfx := lfg.trans lgx
  have adj_ := hu'.rl.addr (P := Try.prog) Try.underlying38 Try.underlying3 (by kernel_rfl) (k := .i64) j hlj
  have ldj := (hu'.le lfx).rl.loadI (P := Try.prog) Try.underlying3 rfl j hlj
  have htk : row.take (j + 1) = row.take j ++ [row[j]] := List.take_succ_eq_append_getElem hlj
  have hspl : row = row.take j ++ row[j] :: row.drop (j + 1) := by rw [← List.drop_eq_getElem_cons hlj, List.take_append_drop]
  obtain ⟨c, hc, hcz⟩ := hmemr _ (List.getElem_mem hlj)
  rw [hc] at ldj htk hspl
  have hwn : c < n := hnbm _ (List.mem_map.2 ⟨(c : Int), by rw [hspl]; simp, by simp⟩)
  have hpre : c ∉ (row.take j).map fun x => x.toNat := by
   rw [hspl, List.map_append, List.map_cons, List.nodup_append] at hndn
   intro hm
   exact hndn.2.2 _ hm _ (List.mem_cons_self ..) (by simp)
  have htk' : (row.take (j + 1)).map (fun x => x.toNat) = (row.take j).map (fun x => x.toNat) ++ [c] := by rw [htk, List.map_append]; simp
  have m0 := own0 oN
  have C := ldC hx lfx
  have hcl : c < (cB).length := by rw [hBl]; exact hcz
  have hval : (cB).getD c 0 = cntU cB cC b (c) := by rw [cntU, if_pos hcz]
  have ld1 := ldI hx CB _ c oB hcl
  obtain ⟨d0, d1⟩ := hdb hwn
  have hwb := cnt_bound Rd hlw hwn d0 d1
  rw [hval] at ld1
  have st := stI hx CB cB c (cntU cB cC b (c) - 1) oB hcl
  have hnew : ∀ u, u < n → cntU (cB.set c (cntU cB cC b (c) - 1)) cC b u = if u = c then cntU cB cC b u - 1 else cntU cB cC b u := fun u _ => by
   rw [cntB hcz hBl]
   by_cases e : u = c
   ·rw [if_pos e, if_pos e, e]
   ·rw [if_neg e, if_neg e]
  have Rn := Rd.step hwn hpre hnew
  rw [← htk'] at Rn
  have hnv2 : cntU (cB.set c (cntU cB cC b (c) - 1)) cC b (c) = cntU cB cC b (c) - 1 := by rw [hnew _ hwn, if_pos rfl]
  have oX1 := AHeap.own_put_eq hx CB (.cells (I64 ((cB).set c (cntU cB cC b (c) - 1))))
  have w1 := hwx.put (.cells (I64 ((cB).set c (cntU cB cC b (c) - 1)))) (hwx.lt oB)
  have keep : ∀ q o, hx.own q = some o → q ≠ CB → (hx.put CB (.cells (I64 ((cB).set c (cntU cB cC b (c) - 1))))).own q = some o := fun q o h1 h2 => by rw [AHeap.own_put_ne _ _ _ _ h2]; exact h1
  have oN1 := keep N _ oN neNB
  have oO1 := keep CC _ oC neCC.symm
  have l1' := lgx.put (.cells (I64 ((cB).set c (cntU cB cC b (c) - 1)))) gCB
  have gi1 : GP (hx.put CB (.cells (I64 ((cB).set c (cntU cB cC b (c) - 1))))) iv (inner.map (nodeP b)) := GS.put gi _ niB
  have ld2 := ldI _ CB _ c oX1 (by rw [List.length_set]; exact hcl)
  rw [getD_set, if_pos ⟨rfl, hcl⟩] at ld2
  have C1 := ldC _ (lfg.trans l1')
  have m0' := own0 oN1
  generalize hx.put CB (.cells (I64 ((cB).set c (cntU cB cC b (c) - 1)))) = hx1 at *
  rw [hnv2] at Rn
  generalize hze : cntU cB cC b (c) - 1 = z at *
  by_cases cz : z = 1
  ·have d : decide (z = 1) = true := decide_eq_true cz
   rw [if_pos cz] at Rn
   obtain ⟨iv', g4, g5, k4, k5, gp5, w5', l4', f5, k5p⟩ := gi1.push105 w1 (0, (c : Int)) (by rw [List.length_map]; exact in_len Rd h1)
   obtain ⟨l5', a5⟩ := f5 g l1' ai
   obtain ⟨oN5, nN5⟩ := k5p N _ oN1 niN
   obtain ⟨oX5, nX5⟩ := k5p CB _ oX1 niB
   obtain ⟨oO5, nO5⟩ := k5p CC _ oO1 niC
   have bd := build107 0 (c : Int)
   simp only [kS1, bLookup, bMapSet, wantA, isCall, stepOp, evalO, evalL, evalP, evalM, putDst, flat, kA, kB, Nat.reduceLT, ↓reduceIte, kC, Nat.reduceEqDiff, aBuiltin, abinG, guardFree, abin, aInt, aUn, aNilCheck, retQ, retQ1, aresults, aresultL, aresult, mkF, undefV, reduceCtorEq, kD, kE, kF, kG, kH, kI, kJ, kK, aExtract, calleeOf, adj_, ldj, nf0, aadd, Nat.zero_add, m0, m0', w11, (ix104 _).1, C.1, C1.1, ixC CB b _ c hcz, ld1, hze, hwb, st, ld2, d, bd, k4, k5, hws2]
   refine loop_again (row.length - (j + 1)) [(4, .pointer (some ⟨X, 0, none⟩)), (6, .pointer (some ⟨Pc, 0, none⟩)), (11, .int .i64 (n - (done ++ lw).length : Nat)), (12, iv'), (14, .pointer (some ⟨N, 0, none⟩)), (80, vv), (81, .int .i64 lw.length), (82, .int .i64 i), (93, u), (94, .int .i64 row.length), (95, .int .i64 (j + 1 : Nat))] hls2 (by simp only [hasAll, kS1, bLookup, bMapSet, wantA, isCall, stepOp, evalO, evalL, evalP, evalM, putDst, flat, kA, kB, Nat.reduceLT, ↓reduceIte, kC, Nat.reduceEqDiff, aBuiltin, abinG, guardFree, abin, aInt, aUn, aNilCheck, retQ, retQ1, aresults, aresultL, aresult, mkF, undefV, reduceCtorEq, kD, kE, kF, kG, kH, kI, kJ, kK, aExtract, calleeOf]; simp)
    ⟨j + 1, (cB.set c (z)), cC, iv', inner ++ [c], rfl, hlj, rfl, l5', oN5, oX5, oO5, (by rw [List.length_set]; exact hBl), hCl, ?_, a5, nX5, nO5, nN5, Rn⟩
   rw [List.map_append, List.map_cons, List.map_nil, nodeB hcz]; exact gp5
  ·have d : decide (z = 1) = false := decide_eq_false cz
   rw [if_neg cz] at Rn
   simp only [kS1, bLookup, bMapSet, wantA, isCall, stepOp, evalO, evalL, evalP, evalM, putDst, flat, kA, kB, Nat.reduceLT, ↓reduceIte, kC, Nat.reduceEqDiff, aBuiltin, abinG, guardFree, abin, aInt, aUn, aNilCheck, retQ, retQ1, aresults, aresultL, aresult, mkF, undefV, reduceCtorEq, kD, kE, kF, kG, kH, kI, kJ, kK, aExtract, calleeOf, adj_, ldj, nf0, aadd, Nat.zero_add, m0, m0', w11, (ix104 _).1, C.1, C1.1, ixC CB b _ c hcz, ld1, hze, hwb, st, ld2, d, hws2]
   exact loop_again (row.length - (j + 1)) [(4, .pointer (some ⟨X, 0, none⟩)), (6, .pointer (some ⟨Pc, 0, none⟩)), (11, .int .i64 (n - (done ++ lw).length : Nat)), (12, iv), (14, .pointer (some ⟨N, 0, none⟩)), (80, vv), (81, .int .i64 lw.length), (82, .int .i64 i), (93, u), (94, .int .i64 row.length), (95, .int .i64 (j + 1 : Nat))] hls2 (by simp only [hasAll, kS1, bLookup, bMapSet, wantA, isCall, stepOp, evalO, evalL, evalP, evalM, putDst, flat, kA, kB, Nat.reduceLT, ↓reduceIte, kC, Nat.reduceEqDiff, aBuiltin, abinG, guardFree, abin, aInt, aUn, aNilCheck, retQ, retQ1, aresults, aresultL, aresult, mkF, undefV, reduceCtorEq, kD, kE, kF, kG, kH, kI, kJ, kK, aExtract, calleeOf]; simp)
    ⟨j + 1, (cB.set c (z)), cC, iv, inner, rfl, hlj, rfl, l1', oN1, oX1, oO1, (by rw [List.length_set]; exact hBl), hCl, gi1, ai, niB, niC, niN, Rn⟩
end Go.Fw
