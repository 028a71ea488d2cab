/- A text of the proof. -/
import Derived.Test.YtnaahaldkpdjlaaFwLZ6
import Derived.Test.YtnaahaldkpdjlaaFwLB16
set_option linter.unusedSimpArgs false
set_option linter.unusedVariables false
namespace Go.Fw
open Go.Proofs
attribute [local irreducible] KO4 KO3 KO2 KO1 KO KN KX KE VK KCond KDraw KCall KLoop
set_option maxHeartbeats 8000000
set_option maxRecDepth 10000
def lowE (ls : List Lw) (p : Pr) : Nat := if (getL ls p.1.toNat).1 > (getL ls p.2.toNat).1 then p.1.toNat else p.2.toNat
def hdS (ls : List Lw) (H : List Int) (v : Nat) : List Int :=
 if 0 ≤ (getL ls v).2.1 ∧ (getL ls v).2.2 < (getL ls (getL ls v).2.1.toNat).1 then (H.set v (v : Int)).set v ((H.set v (v : Int)).getD (getL ls v).2.1.toNat 0) else H.set v (v : Int)
def hdM (ls : List Lw) (o : List Nat) (n : Nat) : List Int := o.foldl (hdS ls) (List.replicate n 0)
theorem hdS_length (ls : List Lw) (c : List Int) (v : Nat) : (hdS ls c v).length = c.length := by unfold hdS; split <;> simp
theorem hdF_length (ls : List Lw) : ∀ (o : List Nat) (c : List Int), (o.foldl (hdS ls) c).length = c.length
 | [], c => rfl
 | v :: o, c => by rw [List.foldl_cons, hdF_length ls o, hdS_length]
def keyE (n : Nat) (es : List Pr) (p : Pr) : Int := (hdM (lowM n es).1 (lowM n es).2 n).getD (lowE (lowM n es).1 p) 0
def blocksM (n : Nat) (es : List Pr) : List (List Pr) := (grpsM (fun p _ => keyE n es p) es [] es.length).map (·.2)
theorem lower_any (W0 : Base) (n L LV a c : Nat) (ls : List Lw) (h : AHeap) (hl : ls.length = n) (oV : h.own LV = some (.cells [.slice (some ⟨L, 0, none⟩) n n])) (oL : h.own L = some (.cells (flatL ls))) (ha : a < n) (hc : c < n) :
  AC Try.prog W0 60 [valP ((a : Int), (c : Int)), .pointer (some ⟨LV, 0, none⟩)] h fun x h' => x = .int .i64 (lowE ls ((a : Int), (c : Int)) : Nat) ∧ Le h h' := by
 have ldV := fun (g : AHeap) (o : g.own LV = some (.cells [.slice (some ⟨L, 0, none⟩) n n])) => (aload_one (P := Try.prog) Try.underlying89 rfl o (off := 0) : aload Try.prog g 89 ⟨LV, 0, none⟩ = _)
 simp only [List.getElem?_cons_zero] at ldV
 refine AC.vc (fn := Try.f60) (c := _) ⟨Try.func60, rfl, by decide⟩ Try.ntmps60 Try.results60 (by simp) fun hwf => ?_
 simp only [argFrame, argFrom, Nat.reduceAdd]
 obtain ⟨h1, e1, l1, w1, o1⟩ := alloc_f hwf (cellsP ((a : Int), (c : Int)))
 have m1 := own0 o1
 have m2 := own1 o1
 simp only at m1 m2
 have ga := getL_of (ls := ls) (v := a) (by omega)
 have gc := getL_of (ls := ls) (v := c) (by omega)
 have oL1 := l1.own _ _ oL
 have q := ldV h1 (l1.own _ _ oV)
 simp only [kS1, bLookup, bMapSet, wantA, isCall, stepOp, evalO, evalL, evalP, evalM, putDst, flat, kA, kB, Nat.reduceLT, ↓reduceIte, kC, Nat.reduceEqDiff, aBuiltin, abinG, guardFree, abin, aInt, aUn, aNilCheck, retQ, retQ1, aresults, aresultL, aresult, mkF, undefV, reduceCtorEq, kD, kE, kF, kG, kH, kI, kJ, kK, aExtract, calleeOf, box42, e1]
 generalize h.next = E at *
 by_cases k : (getL ls a).1 > (getL ls c).1
 ·have d : decide ((getL ls a).1 > (getL ls c).1) = true := decide_eq_true k
  have hE : lowE ls ((a : Int), (c : Int)) = a := by simp only [lowE, Int.toNat_natCast]; rw [if_pos k]
  refine KDraw.intro mixed (.fl 0 (.fl 1 (.fl 2 (.fl 3 (.fl 4 (.fl 5 (.fl 6 (.fl 7 (.fl 8 (.fl 9 (.fl 10 (.fl 11 (.fl 12 (.done)))))))))))))) (by kernel_rfl) ?_
  simp only [kS1, bLookup, bMapSet, wantA, isCall, stepOp, evalO, evalL, evalP, evalM, putDst, flat, kA, kB, Nat.reduceLT, ↓reduceIte, kC, Nat.reduceEqDiff, aBuiltin, abinG, guardFree, abin, aInt, aUn, aNilCheck, retQ, retQ1, aresults, aresultL, aresult, mkF, undefV, reduceCtorEq, kD, kE, kF, kG, kH, kI, kJ, kK, aExtract, calleeOf, kD1, Nat.reduceBEq, HoldsAll, kL, kM, kN, kO, pa0, pa1, aadd, Nat.add_zero, Nat.zero_add, m1, m2, q, lAddr a ha, lAddr c hc, fl0, lNum oL1 ga, lNum oL1 gc, d]
  exact ⟨by rw [hE], l1⟩
 ·have d : decide ((getL ls a).1 > (getL ls c).1) = false := decide_eq_false k
  have hE : lowE ls ((a : Int), (c : Int)) = c := by simp only [lowE, Int.toNat_natCast]; rw [if_neg k]
  refine KDraw.intro mixed (.fl 0 (.fl 1 (.fl 2 (.fl 3 (.fl 4 (.fl 5 (.fl 6 (.fl 7 (.fl 8 (.fl 9 (.fl 10 (.fl 11 (.fl 12 (.done)))))))))))))) (by kernel_rfl) ?_
  simp only [kS1, bLookup, bMapSet, wantA, isCall, stepOp, evalO, evalL, evalP, evalM, putDst, flat, kA, kB, Nat.reduceLT, ↓reduceIte, kC, Nat.reduceEqDiff, aBuiltin, abinG, guardFree, abin, aInt, aUn, aNilCheck, retQ, retQ1, aresults, aresultL, aresult, mkF, undefV, reduceCtorEq, kD, kE, kF, kG, kH, kI, kJ, kK, aExtract, calleeOf, kD1, Nat.reduceBEq, HoldsAll, kL, kM, kN, kO, pa0, pa1, aadd, Nat.add_zero, Nat.zero_add, m1, m2, q, lAddr a ha, lAddr c hc, fl0, lNum oL1 ga, lNum oL1 gc, d]
  exact ⟨by rw [hE], l1⟩
theorem Stays.PR : Stays PR := fun _ _ _ _ r e => PR.le r e
theorem Blocks_any (W0 : Base) (v : Value) (G : GM) (h : AHeap) (hg : GR h v G) :
  AC Try.prog W0 16 [v] h fun x h' => Le h h' ∧ ((¬ RightG G ∧ x = .tuple #[.slice none 0 0, .int .i64 20]) ∨ (RightG G ∧ ∃ bv, x = .tuple #[bv, .int .i64 0] ∧ RL PR h' bv (blocksM G.n.toNat G.es))) := by
 have hg0 := hg
 obtain ⟨gn, es⟩ := G
 obtain ⟨ev, rfl, hp⟩ := hg.open
 refine AC.vc (fn := Try.f16) (c := _) ⟨Try.func16, rfl, by decide⟩ Try.ntmps16 Try.results16 (by simp) fun hwf => ?_
 simp only [argFrame, argFrom, Nat.reduceAdd]
 obtain ⟨h1, b1, le1, wf1, -, lA⟩ := boxG (n := gn) hwf hp
 generalize h.next = B at *
 have lA1 := lA h1 (Le.refl _)
 simp only [kS1, bLookup, bMapSet, wantA, isCall, stepOp, evalO, evalL, evalP, evalM, putDst, flat, kA, kB, Nat.reduceLT, ↓reduceIte, kC, Nat.reduceEqDiff, aBuiltin, abinG, guardFree, abin, aInt, aUn, aNilCheck, retQ, retQ1, aresults, aresultL, aresult, mkF, undefV, reduceCtorEq, kD, kE, kF, kG, kH, kI, kJ, kK, aExtract, calleeOf, b1, lA1.1]
 refine KCall.intro (by simp only [kS1, bLookup, bMapSet, wantA, isCall, stepOp, evalO, evalL, evalP, evalM, putDst, flat, kA, kB, Nat.reduceLT, ↓reduceIte, kC, Nat.reduceEqDiff, aBuiltin, abinG, guardFree, abin, aInt, aUn, aNilCheck, retQ, retQ1, aresults, aresultL, aresult, mkF, undefV, reduceCtorEq, kD, kE, kF, kG, kH, kI, kJ, kK, aExtract, calleeOf] <;> rfl) ⟨Try.func59, rfl, by decide⟩ (search_any W0 _ _ h1 (hg0.le le1)) ?_
 rintro x h2 wf2 ⟨le2, hcase⟩
 have al := alloc27 h2
 obtain ⟨h3, e3, l3, w3, o3⟩ := alloc_f wf2 [.slice none 0 0]
 rw [e3] at al
 have nV : h2.own h2.next = none := (Le.refl h2).next wf2 (Nat.le_refl _)
 rcases hcase with ⟨hr, rfl⟩ | ⟨hr, L, ov, rfl, oL, nL, go, nb, ao⟩
 ·have st := aStore1 (P := Try.prog) (t := 89) (x := .slice none 0 0) Try.underlying89 (by kernel_rfl) o3 (off := 0) (by simp) rfl rfl
  have d20 : decide ((20 : Int) = 0) = false := by decide
  simp only [kS1, bLookup, bMapSet, wantA, isCall, stepOp, evalO, evalL, evalP, evalM, putDst, flat, kA, kB, Nat.reduceLT, ↓reduceIte, kC, Nat.reduceEqDiff, aBuiltin, abinG, guardFree, abin, aInt, aUn, aNilCheck, retQ, retQ1, aresults, aresultL, aresult, mkF, undefV, reduceCtorEq, kD, kE, kF, kG, kH, kI, kJ, kK, aExtract, calleeOf, al, st, bne, d20]
  exact ⟨(le1.trans le2).trans (l3.put _ nV), .inl ⟨hr, trivial⟩⟩
 have h0 : 0 ≤ gn := hr.n0
 obtain ⟨n, rfl⟩ := Int.eq_ofNat_of_zero_le h0
 have h200 : (n : Int) ≤ 200 := hr.n1
 have h594 : es.length ≤ 594 := hr.len
 have hR := hr.inR
 have R := lowM_R hr.inR
 simp only [Int.toNat_natCast] at oL go ⊢
 have hM : blocksM n es = (grpsM (fun p _ => (hdM (lowM n es).1 (lowM n es).2 n).getD (lowE (lowM n es).1 p) 0) es [] es.length).map (·.2) := rfl
 generalize (lowM n es).1 = ls at *
 generalize (lowM n es).2 = o at *
 have hol := R.olen
 have st := aStore1 (P := Try.prog) (t := 89) (x := .slice (some ⟨L, 0, none⟩) n n) Try.underlying89 (by kernel_rfl) o3 (off := 0) (by simp) rfl rfl
 have w4 := w3.put (.cells ([Value.slice none 0 0].set 0 (.slice (some ⟨L, 0, none⟩) n n))) (w3.lt o3)
 have l4 := l3.put (.cells ([Value.slice none 0 0].set 0 (.slice (some ⟨L, 0, none⟩) n n))) nV
 have oV4 := AHeap.own_put_eq h3 h2.next (.cells ([Value.slice none 0 0].set 0 (.slice (some ⟨L, 0, none⟩) n n)))
 simp only [List.set_cons_zero] at oV4 l4 w4 st
 have lo := fun g => go.rl.len (P := Try.prog) Try.underlying38 g
 rw [nat64_length] at lo
 simp only [kS1, bLookup, bMapSet, wantA, isCall, stepOp, evalO, evalL, evalP, evalM, putDst, flat, kA, kB, Nat.reduceLT, ↓reduceIte, kC, Nat.reduceEqDiff, aBuiltin, abinG, guardFree, abin, aInt, aUn, aNilCheck, retQ, retQ1, aresults, aresultL, aresult, mkF, undefV, reduceCtorEq, kD, kE, kF, kG, kH, kI, kJ, kK, aExtract, calleeOf, al, st, bne]
 clear st al e3 o3 w3 l3
 generalize h3.put h2.next (.cells [.slice (some ⟨L, 0, none⟩) n n]) = h4 at *
 generalize h2.next = LV at *
 clear h3
 have lA4 := lA h4 (le2.trans l4)
 have mk := aMakeSlice1 (P := Try.prog) (t := 38) (z := .int .i64 0) h4 Try.underlying38 rfl rfl rfl rfl (by kernel_rfl) Try.underlying3 (by kernel_rfl) n (by omega)
 obtain ⟨h5, e5, l5, w5, o5⟩ := alloc_f w4 (List.replicate n (.int .i64 0))
 rw [e5] at mk
 have nC : h4.own h4.next = none := (Le.refl h4).next w4 (Nat.le_refl _)
 simp only [kS1, bLookup, bMapSet, wantA, isCall, stepOp, evalO, evalL, evalP, evalM, putDst, flat, kA, kB, Nat.reduceLT, ↓reduceIte, kC, Nat.reduceEqDiff, aBuiltin, abinG, guardFree, abin, aInt, aUn, aNilCheck, retQ, retQ1, aresults, aresultL, aresult, mkF, undefV, reduceCtorEq, kD, kE, kF, kG, kH, kI, kJ, kK, aExtract, calleeOf, fg0, aadd, Nat.zero_add, lA4.2.1, mk, lo]
 generalize h4.next = C at *
 have oC5 : h5.own C = some (.cells (I64 (List.replicate n 0))) := by rw [o5]; simp [I64]
 have oL4 := l4.own _ _ oL
 have go4 := go.le l4
 have ldV := fun (g : AHeap) (o : Le h4 g) => (aload_one (P := Try.prog) Try.underlying89 rfl (o.own _ _ oV4) (off := 0) : aload Try.prog g 89 ⟨LV, 0, none⟩ = _)
 simp only [List.getElem?_cons_zero] at ldV
 have ixC : ∀ (k : IntKind) (j : Nat), j < n → aIndexAddr Try.prog 38 (.slice (some ⟨C, 0, none⟩) n n) (.int k j) = some (.pointer (some ⟨C, j, none⟩)) := fun k j hj => by rw [aIdx Try.underlying38 Try.underlying3 (by kernel_rfl) j hj]; simp [aadd]
 have ldC : ∀ (g : AHeap) (c : List Int) (j : Nat), g.own C = some (.cells (I64 c)) → c.length = n → j < n → aload Try.prog g 3 ⟨C, j, none⟩ = some (.int .i64 (c.getD j 0)) := fun g c j ho hl hj => by
  rw [aload_one Try.underlying3 rfl ho, getD_of (by omega)]; simp [I64, getElem?_of (show j < c.length by omega)]
 refine KLoop.intro (fun k fr hq => ∃ (i : Nat), k = o.length - i ∧ i ≤ o.length ∧ fr = mkF [(1, .pointer (some ⟨B, 0, none⟩)), (4, .pointer (some ⟨LV, 0, none⟩)), (7, .slice (some ⟨C, 0, none⟩) n n), (32, ov), (33, .int .i64 o.length), (34, .int .i64 i)] ∧ hq.own C = some (.cells (I64 ((o.take i).foldl (hdS ls) (List.replicate n 0)))) ∧ Le h4 hq)
  o.length [(1, .pointer (some ⟨B, 0, none⟩)), (4, .pointer (some ⟨LV, 0, none⟩)), (7, .slice (some ⟨C, 0, none⟩) n n), (32, ov), (33, .int .i64 o.length), (34, .int .i64 (0 : Nat))] (by simp only [hasAll, kS1, bLookup, bMapSet, wantA, isCall, stepOp, evalO, evalL, evalP, evalM, putDst, flat, kA, kB, Nat.reduceLT, ↓reduceIte, kC, Nat.reduceEqDiff, aBuiltin, abinG, guardFree, abin, aInt, aUn, aNilCheck, retQ, retQ1, aresults, aresultL, aresult, mkF, undefV, reduceCtorEq, kD, kE, kF, kG, kH, kI, kJ, kK, aExtract, calleeOf]; simp) ⟨0, rfl, Nat.zero_le _, rfl, oC5, l5⟩ ?_
 clear oC5 o5 w5 l5 e5 mk lo lA4
 clear h5
 rintro k fr hq hwq ⟨i, rfl, hi, rfl, oC, leq⟩
 have hcl : ((o.take i).foldl (hdS ls) (List.replicate n 0)).length = n := by rw [hdF_length]; simp
 simp only [kS1, bLookup, bMapSet, wantA, isCall, stepOp, evalO, evalL, evalP, evalM, putDst, flat, kA, kB, Nat.reduceLT, ↓reduceIte, kC, Nat.reduceEqDiff, aBuiltin, abinG, guardFree, abin, aInt, aUn, aNilCheck, retQ, retQ1, aresults, aresultL, aresult, mkF, undefV, reduceCtorEq, kD, kE, kF, kG, kH, kI, kJ, kK, aExtract, calleeOf]
 refine KCond.intro (fun ht => ?_) (fun hf => ?_)
 ·have hlt : i < o.length := lt_t ht
  clear ht
  have hoi := getElem?_of hlt
  have ad := go.rl.addr (P := Try.prog) Try.underlying38 Try.underlying3 (by kernel_rfl) (k := .i64) i (by rw [nat64_length]; exact hlt)
  have ld := (go4.le leq).rl.loadI (P := Try.prog) Try.underlying3 rfl i (by rw [nat64_length]; exact hlt)
  rw [nat64_get hlt] at ld
  have htk : o.take (i + 1) = o.take i ++ [o[i]] := List.take_succ_eq_append_getElem hlt
  generalize o[i] = w at hoi ld htk
  have hwn := R.lt w (List.mem_of_getElem? hoi)
  have gw := getL_of (ls := ls) (v := w) (by rw [R.len]; exact hwn)
  have hstep : (o.take (i + 1)).foldl (hdS ls) (List.replicate n 0) = hdS ls ((o.take i).foldl (hdS ls) (List.replicate n 0)) w := by rw [htk, List.foldl_append]; rfl
  generalize (o.take i).foldl (hdS ls) (List.replicate n 0) = H at *
  have st1 := aStore1 (P := Try.prog) (t := 3) (x := .int .i64 (w : Int)) Try.underlying3 (by kernel_rfl) oC (off := w) (by simp [I64]; omega) rfl rfl
  rw [I64_set] at st1
  have leq1 := leq.put (.cells (I64 (H.set w (w : Int)))) nC
  have oC1 := AHeap.own_put_eq hq C (.cells (I64 (H.set w (w : Int))))
  have hcl1 : (H.set w (w : Int)).length = n := by simpa using hcl
  generalize hq.put C (.cells (I64 (H.set w (w : Int)))) = h6 at *
  have oL6 := leq1.own _ _ oL4
  simp only [kS1, bLookup, bMapSet, wantA, isCall, stepOp, evalO, evalL, evalP, evalM, putDst, flat, kA, kB, Nat.reduceLT, ↓reduceIte, kC, Nat.reduceEqDiff, aBuiltin, abinG, guardFree, abin, aInt, aUn, aNilCheck, retQ, retQ1, aresults, aresultL, aresult, mkF, undefV, reduceCtorEq, kD, kE, kF, kG, kH, kI, kJ, kK, aExtract, calleeOf, ad, ld, ixC _ w hwn, st1, ldV h6 leq1, lAddr w hwn, fl1, aadd, lUp oL6 gw]
  by_cases c1 : 0 ≤ (getL ls w).2.1
  ·obtain ⟨u, hu⟩ := Int.eq_ofNat_of_zero_le c1
   have hun : u < n := by have := R.up w hwn; omega
   have gu := getL_of (ls := ls) (v := u) (by rw [R.len]; exact hun)
   have d1 : decide ((u : Int) ≥ 0) = true := decide_eq_true (by omega)
   by_cases c2 : (getL ls w).2.2 < (getL ls u).1
   ·have d2 : decide ((getL ls w).2.2 < (getL ls u).1) = true := decide_eq_true c2
    have hE : hdS ls H w = (H.set w (w : Int)).set w ((H.set w (w : Int)).getD u 0) := by unfold hdS; rw [hu, Int.toNat_natCast, if_pos ⟨by omega, c2⟩]
    have st := aStore1 (P := Try.prog) (t := 3) (x := .int .i64 ((H.set w (w : Int)).getD u 0)) Try.underlying3 (by kernel_rfl) oC1 (off := w) (by simp [I64]; omega) rfl rfl
    rw [I64_set, ← hE, ← hstep] at st
    simp only [hu]
    refine KDraw.intro mixed (.fl 0 (.fl 1 (.fl 2 (.fl 3 (.fl 4 (.fl 5 (.fl 6 (.fl 7 (.fl 8 (.fl 9 (.fl 10 (.fl 11 (.fl 12 (.fl 13 (.fl 14 (.done)))))))))))))))) (by kernel_rfl) ?_
    simp only [kS1, bLookup, bMapSet, wantA, isCall, stepOp, evalO, evalL, evalP, evalM, putDst, flat, kA, kB, Nat.reduceLT, ↓reduceIte, kC, Nat.reduceEqDiff, aBuiltin, abinG, guardFree, abin, aInt, aUn, aNilCheck, retQ, retQ1, aresults, aresultL, aresult, mkF, undefV, reduceCtorEq, kD, kE, kF, kG, kH, kI, kJ, kK, aExtract, calleeOf, kD1, Nat.reduceBEq, HoldsAll, kL, kM, kN, kO, d1, d2, ldV h6 leq1, lAddr w hwn, lAddr u hun, fl0, fl2, aadd, Nat.add_zero, lLow oL6 gw, lNum oL6 gu, ixC _ u hun, ixC _ w hwn, ldC h6 _ u oC1 hcl1 hun, st, awrap_succ i (by omega)]
    exact loop_again (o.length - (i + 1)) [(1, .pointer (some ⟨B, 0, none⟩)), (4, .pointer (some ⟨LV, 0, none⟩)), (7, .slice (some ⟨C, 0, none⟩) n n), (32, ov), (33, .int .i64 o.length), (34, .int .i64 (i + 1 : Nat))] (by omega) (by simp only [hasAll, kS1, bLookup, bMapSet, wantA, isCall, stepOp, evalO, evalL, evalP, evalM, putDst, flat, kA, kB, Nat.reduceLT, ↓reduceIte, kC, Nat.reduceEqDiff, aBuiltin, abinG, guardFree, abin, aInt, aUn, aNilCheck, retQ, retQ1, aresults, aresultL, aresult, mkF, undefV, reduceCtorEq, kD, kE, kF, kG, kH, kI, kJ, kK, aExtract, calleeOf]; simp) ⟨i + 1, rfl, hlt, rfl, AHeap.own_put_eq _ _ _, leq1.put _ nC⟩
   ·have d2 : decide ((getL ls w).2.2 < (getL ls u).1) = false := decide_eq_false c2
    have hE : hdS ls H w = H.set w (w : Int) := by unfold hdS; rw [hu, Int.toNat_natCast, if_neg (fun h => c2 h.2)]
    simp only [hu]
    refine KDraw.intro mixed (.fl 0 (.fl 1 (.fl 2 (.fl 3 (.fl 4 (.fl 5 (.fl 6 (.fl 7 (.fl 8 (.fl 9 (.fl 10 (.fl 11 (.fl 12 (.fl 13 (.fl 14 (.done)))))))))))))))) (by kernel_rfl) ?_
    simp only [kS1, bLookup, bMapSet, wantA, isCall, stepOp, evalO, evalL, evalP, evalM, putDst, flat, kA, kB, Nat.reduceLT, ↓reduceIte, kC, Nat.reduceEqDiff, aBuiltin, abinG, guardFree, abin, aInt, aUn, aNilCheck, retQ, retQ1, aresults, aresultL, aresult, mkF, undefV, reduceCtorEq, kD, kE, kF, kG, kH, kI, kJ, kK, aExtract, calleeOf, kD1, Nat.reduceBEq, HoldsAll, kL, kM, kN, kO, d1, d2, ldV h6 leq1, lAddr w hwn, lAddr u hun, fl0, fl2, aadd, Nat.add_zero, lLow oL6 gw, lNum oL6 gu, awrap_succ i (by omega)]
    exact loop_again (o.length - (i + 1)) [(1, .pointer (some ⟨B, 0, none⟩)), (4, .pointer (some ⟨LV, 0, none⟩)), (7, .slice (some ⟨C, 0, none⟩) n n), (32, ov), (33, .int .i64 o.length), (34, .int .i64 (i + 1 : Nat))] (by omega) (by simp only [hasAll, kS1, bLookup, bMapSet, wantA, isCall, stepOp, evalO, evalL, evalP, evalM, putDst, flat, kA, kB, Nat.reduceLT, ↓reduceIte, kC, Nat.reduceEqDiff, aBuiltin, abinG, guardFree, abin, aInt, aUn, aNilCheck, retQ, retQ1, aresults, aresultL, aresult, mkF, undefV, reduceCtorEq, kD, kE, kF, kG, kH, kI, kJ, kK, aExtract, calleeOf]; simp) ⟨i + 1, rfl, hlt, rfl, by rw [hstep, hE]; exact oC1, leq1⟩
  ·have d1 : decide ((getL ls w).2.1 ≥ 0) = false := decide_eq_false c1
   have hE : hdS ls H w = H.set w (w : Int) := by unfold hdS; rw [if_neg (fun h => c1 h.1)]
   refine KDraw.intro mixed (.fl 0 (.fl 1 (.fl 2 (.fl 3 (.fl 4 (.fl 5 (.fl 6 (.fl 7 (.fl 8 (.fl 9 (.fl 10 (.fl 11 (.fl 12 (.fl 13 (.fl 14 (.done)))))))))))))))) (by kernel_rfl) ?_
   simp only [kS1, bLookup, bMapSet, wantA, isCall, stepOp, evalO, evalL, evalP, evalM, putDst, flat, kA, kB, Nat.reduceLT, ↓reduceIte, kC, Nat.reduceEqDiff, aBuiltin, abinG, guardFree, abin, aInt, aUn, aNilCheck, retQ, retQ1, aresults, aresultL, aresult, mkF, undefV, reduceCtorEq, kD, kE, kF, kG, kH, kI, kJ, kK, aExtract, calleeOf, kD1, Nat.reduceBEq, HoldsAll, kL, kM, kN, kO, d1, awrap_succ i (by omega)]
   exact loop_again (o.length - (i + 1)) [(1, .pointer (some ⟨B, 0, none⟩)), (4, .pointer (some ⟨LV, 0, none⟩)), (7, .slice (some ⟨C, 0, none⟩) n n), (32, ov), (33, .int .i64 o.length), (34, .int .i64 (i + 1 : Nat))] (by omega) (by simp only [hasAll, kS1, bLookup, bMapSet, wantA, isCall, stepOp, evalO, evalL, evalP, evalM, putDst, flat, kA, kB, Nat.reduceLT, ↓reduceIte, kC, Nat.reduceEqDiff, aBuiltin, abinG, guardFree, abin, aInt, aUn, aNilCheck, retQ, retQ1, aresults, aresultL, aresult, mkF, undefV, reduceCtorEq, kD, kE, kF, kG, kH, kI, kJ, kK, aExtract, calleeOf]; simp) ⟨i + 1, rfl, hlt, rfl, by rw [hstep, hE]; exact oC1, leq1⟩
 have hge : o.length ≤ i := lt_f hf
 rw [List.take_of_length_le hge] at oC hcl
 have hcM : o.foldl (hdS ls) (List.replicate n 0) = hdM ls o n := rfl
 rw [hcM] at oC hcl
 rw [hM]
 clear hM hcM
 generalize hdM ls o n = H at *
 obtain ⟨h7, e7, le7, wf7, o7⟩ : ∃ h7, hq.alloc (.map []) = h7 ∧ Le hq h7 ∧ WF h7 ∧ h7.own hq.next = some (.map []) := ⟨_, rfl, (Le.refl hq).alloc hwq _, hwq.alloc _, AHeap.own_alloc_eq _ _⟩
 obtain ⟨h8, e8, le8, wf8, o8⟩ := alloc_f wf7 []
 have bs0 : aBuildSlice Try.prog h7 38 0 [] = some (.slice (some ⟨h7.next, 0, none⟩) 0 0, h8) := by rw [← e8]; rfl
 have nM : hq.own hq.next = none := (Le.refl hq).next hwq (Nat.le_refl _)
 have nD : hq.own h7.next = none := le7.next wf7 (Nat.le_refl _)
 have neMD : h7.next ≠ hq.next := fun e => by have := wf7.lt o7; omega
 have le1q := le2.trans (l4.trans leq)
 have lA8 := lA h8 (le1q.trans (le7.trans le8))
 have ll := fun g => hp.len g
 simp only [kS1, bLookup, bMapSet, wantA, isCall, stepOp, evalO, evalL, evalP, evalM, putDst, flat, kA, kB, Nat.reduceLT, ↓reduceIte, kC, Nat.reduceEqDiff, aBuiltin, abinG, guardFree, abin, aInt, aUn, aNilCheck, retQ, retQ1, aresults, aresultL, aresult, mkF, undefV, reduceCtorEq, kD, kE, kF, kG, kH, kI, kJ, kK, aExtract, calleeOf, e7, bs0, fg1, aadd, Nat.zero_add, lA8.2.2, ll]
 have oM8 := le8.own _ _ o7
 generalize hq.next = M at *
 generalize h7.next = D at *
 have hpq := hp.le (le1.trans le1q)
 have oLq := (l4.trans leq).own _ _ oL
 have oVq := leq.own _ _ oV4
 generalize hfr : (fun (p : Pr) (_ : Nat) => H.getD (lowE ls p) 0) = fr at *
 have R0 : Grps hq h8 M [] (grpsM fr es [] 0) := ⟨oM8, rfl, fun j u g hu => by simp at hu, fun j u hu => by simp at hu, fun j k u u' b _ hu => by simp at hu, fun j u hu => by simp at hu, le7.trans le8, nM⟩
 have gC : GI h8 (.slice (some ⟨D, 0, none⟩) 0 0) (keysG (grpsM fr es [] 0)) := GS.full o8 rfl (by decide)
 refine KLoop.intro (fun k frm hh => ∃ (i : Nat) (cv : Value) (us : List Value), k = es.length - i ∧ i ≤ es.length ∧ frm = mkF [(7, .slice (some ⟨C, 0, none⟩) n n), (11, .func (.func 60) #[] #[.pointer (some ⟨LV, 0, none⟩)]), (12, .map (some M)), (13, cv), (74, ev), (75, .int .i64 es.length), (76, .int .i64 i)] ∧
   Grps hq hh M us (grpsM fr es [] i) ∧ GI hh cv (keysG (grpsM fr es [] i)) ∧ blk cv ≠ some M ∧ (∀ (j : Nat) u b, us[j]? = some u → blk u = some b → blk cv ≠ some b) ∧ Apart hq cv)
  es.length [(7, .slice (some ⟨C, 0, none⟩) n n), (11, .func (.func 60) #[] #[.pointer (some ⟨LV, 0, none⟩)]), (12, .map (some M)), (13, .slice (some ⟨D, 0, none⟩) 0 0), (74, ev), (75, .int .i64 es.length), (76, .int .i64 (0 : Nat))] (by simp only [hasAll, kS1, bLookup, bMapSet, wantA, isCall, stepOp, evalO, evalL, evalP, evalM, putDst, flat, kA, kB, Nat.reduceLT, ↓reduceIte, kC, Nat.reduceEqDiff, aBuiltin, abinG, guardFree, abin, aInt, aUn, aNilCheck, retQ, retQ1, aresults, aresultL, aresult, mkF, undefV, reduceCtorEq, kD, kE, kF, kG, kH, kI, kJ, kK, aExtract, calleeOf]; simp)
  ⟨0, _, [], rfl, Nat.zero_le _, rfl, R0, gC, by simpa [blk] using neMD, fun j u b hu => by simp at hu, fun b hb => by simp [blk] at hb; subst hb; exact nD⟩ ?_
 clear R0 gC oM8 lA8 nD neMD bs0 o8 wf8 le8 e8 o7 wf7 le7 e7
 rintro k frm hh hwh ⟨i, cv, us, rfl, hi, rfl, Rg, gc, nc, dc, ac⟩
 have leh := Rg.le
 simp only [kS1, bLookup, bMapSet, wantA, isCall, stepOp, evalO, evalL, evalP, evalM, putDst, flat, kA, kB, Nat.reduceLT, ↓reduceIte, kC, Nat.reduceEqDiff, aBuiltin, abinG, guardFree, abin, aInt, aUn, aNilCheck, retQ, retQ1, aresults, aresultL, aresult, mkF, undefV, reduceCtorEq, kD, kE, kF, kG, kH, kI, kJ, kK, aExtract, calleeOf]
 refine KCond.intro (fun ht => ?_) (fun hf => ?_)
 rotate_left
 ·have hge : es.length ≤ i := lt_f hf
  obtain rfl : i = es.length := by omega
  obtain ⟨nd, gne, glen, gll, gmem⟩ := grpsM_ok fr es [] es.length
  generalize hgs : grpsM fr es [] es.length = gs at *
  have lc := fun g => gc.rl.len (P := Try.prog) Try.underlying38 g
  have hkl : (keysG gs).length = gs.length := by simp [keysG]
  rw [hkl] at lc
  have mk := aMakeSlice1 (P := Try.prog) (t := 28) (z := .slice none 0 0) hh Try.underlying28 azero22 rfl rfl rfl (by kernel_rfl) Try.underlying22 (by kernel_rfl) gs.length (by omega)
  obtain ⟨h9, e9, le9, wf9, o9⟩ := alloc_f hwh (List.replicate gs.length (.slice none 0 0))
  rw [e9] at mk
  have nF : hh.own hh.next = none := (Le.refl hh).next hwh (Nat.le_refl _)
  generalize hh.next = F at *
  simp only [kS1, bLookup, bMapSet, wantA, isCall, stepOp, evalO, evalL, evalP, evalM, putDst, flat, kA, kB, Nat.reduceLT, ↓reduceIte, kC, Nat.reduceEqDiff, aBuiltin, abinG, guardFree, abin, aInt, aUn, aNilCheck, retQ, retQ1, aresults, aresultL, aresult, mkF, undefV, reduceCtorEq, kD, kE, kF, kG, kH, kI, kJ, kK, aExtract, calleeOf, lc, mk]
  refine KLoop.intro (fun k frm hz => ∃ (j : Nat) (cs : List Value), k = gs.length - j ∧ j ≤ gs.length ∧ frm = mkF [(12, .map (some M)), (17, .slice (some ⟨F, 0, none⟩) gs.length gs.length), (107, cv), (108, .int .i64 gs.length), (109, .int .i64 j)] ∧
    Le hh hz ∧ hz.own F = some (.cells cs) ∧ cs.length = gs.length ∧ ∀ (a : Nat) g, a < j → gs[a]? = some g → ∃ x, cs[a]? = some x ∧ PR hh x g.2)
   gs.length [(12, .map (some M)), (17, .slice (some ⟨F, 0, none⟩) gs.length gs.length), (107, cv), (108, .int .i64 gs.length), (109, .int .i64 (0 : Nat))] (by simp only [hasAll, kS1, bLookup, bMapSet, wantA, isCall, stepOp, evalO, evalL, evalP, evalM, putDst, flat, kA, kB, Nat.reduceLT, ↓reduceIte, kC, Nat.reduceEqDiff, aBuiltin, abinG, guardFree, abin, aInt, aUn, aNilCheck, retQ, retQ1, aresults, aresultL, aresult, mkF, undefV, reduceCtorEq, kD, kE, kF, kG, kH, kI, kJ, kK, aExtract, calleeOf]; simp)
   ⟨0, _, rfl, Nat.zero_le _, rfl, le9, o9, by simp, by omega⟩ ?_
  clear e9 o9 wf9 le9 mk
  clear h9
  rintro k frm hz hwz ⟨j, cs, rfl, hj, rfl, lez, oF, hcs, hdone⟩
  simp only [kS1, bLookup, bMapSet, wantA, isCall, stepOp, evalO, evalL, evalP, evalM, putDst, flat, kA, kB, Nat.reduceLT, ↓reduceIte, kC, Nat.reduceEqDiff, aBuiltin, abinG, guardFree, abin, aInt, aUn, aNilCheck, retQ, retQ1, aresults, aresultL, aresult, mkF, undefV, reduceCtorEq, kD, kE, kF, kG, kH, kI, kJ, kK, aExtract, calleeOf]
  refine KCond.intro (fun ht => ?_) (fun hf => ?_)
  rotate_left
  ·have hge : gs.length ≤ j := lt_f hf
   simp only [kS1, bLookup, bMapSet, wantA, isCall, stepOp, evalO, evalL, evalP, evalM, putDst, flat, kA, kB, Nat.reduceLT, ↓reduceIte, kC, Nat.reduceEqDiff, aBuiltin, abinG, guardFree, abin, aInt, aUn, aNilCheck, retQ, retQ1, aresults, aresultL, aresult, mkF, undefV, reduceCtorEq, kD, kE, kF, kG, kH, kI, kJ, kK, aExtract, calleeOf]
   refine ⟨(le1.trans le1q).trans (leh.trans lez), .inr ⟨hr, _, rfl, cs, ?_, by simpa using hcs, fun a f u ha hu => ?_⟩⟩
   ·rw [← hcs]; exact RS.whole oF rfl
   ·rw [List.getElem?_map] at ha
    cases hga : gs[a]? with
    | none => rw [hga] at ha; cases ha
    | some g =>
     rw [hga] at ha; simp at ha; subst ha
     obtain ⟨x, q1, q2⟩ := hdone a g (by have := (List.getElem?_eq_some_iff.1 hga).1; omega) hga
     rw [hu] at q1; injection q1 with q1; subst q1
     exact q2.le lez
  have hjl : j < gs.length := lt_t ht
  clear ht
  have hgj := getElem?_of hjl
  generalize gs[j] = g at hgj
  obtain ⟨f, l⟩ := g
  have hkj : (keysG gs)[j]? = some f := by simp [keysG, hgj]
  have hjk := (List.getElem?_eq_some_iff.1 hkj).1
  have adk := gc.rl.addr (P := Try.prog) Try.underlying38 Try.underlying3 (by kernel_rfl) (k := .i64) j hjk
  have ldk := (gc.rl.le Stays.isI lez).loadI (P := Try.prog) Try.underlying3 rfl j hjk
  rw [(List.getElem?_eq_some_iff.1 hkj).2] at ldk
  have Rz := Rg.up lez
  obtain ⟨u, hu0, gu0⟩ := Rg.look f
  rw [lstG_get nd hgj] at gu0
  have hu : aLookup Try.prog hz 95 (.map (some M)) (.int .i64 f) false = some u := by rw [← hu0]; simp only [aLookup, Try.underlying95, Try.underlying3, Rz.oM, Rg.oM]
  have ixF : ∀ k : IntKind, aIndexAddr Try.prog 28 (.slice (some ⟨F, 0, none⟩) gs.length gs.length) (.int k j) = some (.pointer (some ⟨F, j, none⟩)) := fun k => by rw [aIdx Try.underlying28 Try.underlying22 (by kernel_rfl) j hjl]; simp [aadd]
  have stF := aStore1 (P := Try.prog) (t := 22) (x := u) Try.underlying22 (by kernel_rfl) oF (off := j) (by omega) (isSl.cells gu0.pr.sl) (isSl.one gu0.pr.sl)
  simp only [kS1, bLookup, bMapSet, wantA, isCall, stepOp, evalO, evalL, evalP, evalM, putDst, flat, kA, kB, Nat.reduceLT, ↓reduceIte, kC, Nat.reduceEqDiff, aBuiltin, abinG, guardFree, abin, aInt, aUn, aNilCheck, retQ, retQ1, aresults, aresultL, aresult, mkF, undefV, reduceCtorEq, kD, kE, kF, kG, kH, kI, kJ, kK, aExtract, calleeOf, adk, ldk, hu, ixF, stF, awrap_succ j (by omega)]
  refine loop_again (gs.length - (j + 1)) [(12, .map (some M)), (17, .slice (some ⟨F, 0, none⟩) gs.length gs.length), (107, cv), (108, .int .i64 gs.length), (109, .int .i64 (j + 1 : Nat))] (by omega) (by simp only [hasAll, kS1, bLookup, bMapSet, wantA, isCall, stepOp, evalO, evalL, evalP, evalM, putDst, flat, kA, kB, Nat.reduceLT, ↓reduceIte, kC, Nat.reduceEqDiff, aBuiltin, abinG, guardFree, abin, aInt, aUn, aNilCheck, retQ, retQ1, aresults, aresultL, aresult, mkF, undefV, reduceCtorEq, kD, kE, kF, kG, kH, kI, kJ, kK, aExtract, calleeOf]; simp)
   ⟨j + 1, cs.set j u, rfl, hjl, rfl, lez.put _ nF, AHeap.own_put_eq _ _ _, by simpa using hcs, fun a g ha hga => ?_⟩
  by_cases e : a = j
  ·subst e
   rw [hgj] at hga; injection hga with hga; subst hga
   exact ⟨u, by rw [List.getElem?_set, if_pos rfl, if_pos (by omega)], gu0.pr⟩
  ·obtain ⟨x', q1, q2⟩ := hdone a g (by omega) hga
   exact ⟨x', by rw [List.getElem?_set, if_neg (Ne.symm e)]; exact q1, q2⟩
 have hlt : i < es.length := lt_t ht
 clear ht
 have hpi := getElem?_of hlt
 generalize es[i] = p at hpi
 have hpm := List.mem_of_getElem? hpi
 have hpos := hR p hpm
 have hph := hpq.le leh
 have ad := hp.addr (k := .i64) i hlt
 have ld := hph.load hpi
 obtain ⟨a, c⟩ := p
 simp only at hpos
 obtain ⟨a, rfl⟩ := Int.eq_ofNat_of_zero_le hpos.1
 obtain ⟨c, rfl⟩ := Int.eq_ofNat_of_zero_le (show 0 ≤ c by omega)
 obtain ⟨h7', h7, e7, e7s, le7, wf7, o7⟩ := new42 hwh ((a : Int), (c : Int))
 have nEh : hh.own hh.next = none := (Le.refl hh).next hwh (Nat.le_refl _)
 have leh7 := leh.trans le7
 have R7 := Rg.up le7
 have gc7 := gc.le le7
 have nEM : hh.next ≠ M := fun e => by have := Rg.oM; rw [← e, nEh] at this; cases this
 have nEc : blk cv ≠ some hh.next := fun e => GS.blk_own gc e nEh
 have nEu : ∀ (j : Nat) u, us[j]? = some u → blk u ≠ some hh.next := fun j u hu e => by
  have hgs : ∃ q, (grpsM fr es [] i)[j]? = some q := ⟨_, getElem?_of (by rw [← Rg.len]; exact (List.getElem?_eq_some_iff.1 hu).1)⟩
  obtain ⟨q, hq⟩ := hgs
  exact GS.blk_own (Rg.gp j u q hu hq) e nEh
 generalize hh.next = E at *
 have LP7 := own42 o7
 simp only [kS1, bLookup, bMapSet, wantA, isCall, stepOp, evalO, evalL, evalP, evalM, putDst, flat, kA, kB, Nat.reduceLT, ↓reduceIte, kC, Nat.reduceEqDiff, aBuiltin, abinG, guardFree, abin, aInt, aUn, aNilCheck, retQ, retQ1, aresults, aresultL, aresult, mkF, undefV, reduceCtorEq, kD, kE, kF, kG, kH, kI, kJ, kK, aExtract, calleeOf, ad, ld, e7, e7s, LP7]
 refine KCall.intro (by simp only [kS1, bLookup, bMapSet, wantA, isCall, stepOp, evalO, evalL, evalP, evalM, putDst, flat, kA, kB, Nat.reduceLT, ↓reduceIte, kC, Nat.reduceEqDiff, aBuiltin, abinG, guardFree, abin, aInt, aUn, aNilCheck, retQ, retQ1, aresults, aresultL, aresult, mkF, undefV, reduceCtorEq, kD, kE, kF, kG, kH, kI, kJ, kK, aExtract, calleeOf] <;> rfl) ⟨Try.func60, rfl, by decide⟩ (lower_any W0 n L LV a c ls h7 R.len (leh7.own _ _ oVq) (leh7.own _ _ oLq) (by omega) (by omega)) ?_
 rintro x h9 wf9 ⟨rfl, le9⟩
 have hle : lowE ls ((a : Int), (c : Int)) < n := by simp only [lowE, Int.toNat_natCast]; split <;> omega
 have leh9 := leh7.trans le9
 have R9 := R7.up le9
 have gc9 := gc7.le le9
 have o9 := le9.own _ _ o7
 have ldH := ldC h9 H _ (leh9.own _ _ oC) hcl hle
 have c1 : ((a : Int), (c : Int)) ∉ ([] : List Pr) := by simp
 obtain ⟨nd, gne, glen, gll, gmem⟩ := grpsM_ok fr es [] i
 have hout := grpsM_out (fr := fr) hpi c1
 have hfe : fr ((a : Int), (c : Int)) i = H.getD (lowE ls ((a : Int), (c : Int))) 0 := by rw [← hfr]
 rw [← hfe] at ldH
 have hadd := keysG_add (grpsM fr es [] i) (fr ((a : Int), (c : Int)) i) ((a : Int), (c : Int))
 have hne := lstG_ne (f := fr ((a : Int), (c : Int)) i) gne
 have hll := lstG_len (fr ((a : Int), (c : Int)) i) _ _ glen
 have ixH := ixC .i64 _ hle
 generalize hgs : grpsM fr es [] i = gs at *
 generalize fr ((a : Int), (c : Int)) i = f at *
 generalize lowE ls ((a : Int), (c : Int)) = lw at *
 have hkl : (keysG gs).length ≤ 1000 := by simp [keysG]; omega
 obtain ⟨u, hu, gu⟩ := R9.look f
 have lu := fun g => gu.pr.len g
 have usown : ∀ (j : Nat) a b, us[j]? = some a → blk a = some b → ∃ o, h9.own b = some o := fun j a b ha hb => by
  have hq : ∃ q, gs[j]? = some q := ⟨_, getElem?_of (by rw [← R9.len]; exact (List.getElem?_eq_some_iff.1 ha).1)⟩
  obtain ⟨q, hq⟩ := hq
  exact Option.ne_none_iff_exists'.1 (GS.blk_own (R9.gp j a q ha hq) hb)
 by_cases c2 : lstG gs f = []
 ·have lu0 : ∀ g, aLen Try.prog g 22 u = some (.int .i64 0) := fun g => by rw [lu g, c2]; rfl
  have hnk : f ∉ keysG gs := fun hm => hne.1 hm c2
  rw [if_neg hnk] at hadd
  obtain ⟨cv', g4, g5, e4, e5, gc5, w5, l4, hf5, hk5⟩ := gc9.push wf9 f (by omega)
  obtain ⟨l5, a5⟩ := hf5 hq leh9 ac
  have R5 : Grps hq g5 M us gs := R9.keep l5 fun b o ho hb => (hk5 b o ho (by
   rcases hb with rfl | ⟨j, a, ha, hb⟩
   ·exact nc
   ·exact dc j a b ha hb)).1
  obtain ⟨oE5, nE5⟩ := hk5 E _ o9 nEc
  have nM5 := (hk5 M _ R9.oM nc).2
  obtain ⟨u2, u2', q4, q5, q6, us', eu, eb, ea, em, Rn, wn, lq4, kq⟩ := R5.push w5 f ((a : Int), (c : Int)) (by rw [c2]; simp)
  have LP5 := own42 oE5
  rw [← hadd] at gc5
  have ku : ∀ (j : Nat) a b, us[j]? = some a → blk a = some b → blk cv' ≠ some b := fun j a b ha hb => by
   obtain ⟨o, ho⟩ := usown j a b ha hb
   exact (hk5 b o ho (dc j a b ha hb)).2
  have gcn : GI q6 cv' (keysG (addG gs f ((a : Int), (c : Int)))) := GS.kept gc5 fun b o hb ho => (kq b o ho (fun e => nM5 (by rw [← e]; exact hb)) (fun j a ha hb2 => ku j a b ha hb2 hb)).2.1
  simp only [kS1, bLookup, bMapSet, wantA, isCall, stepOp, evalO, evalL, evalP, evalM, putDst, flat, kA, kB, Nat.reduceLT, ↓reduceIte, kC, Nat.reduceEqDiff, aBuiltin, abinG, guardFree, abin, aInt, aUn, aNilCheck, retQ, retQ1, aresults, aresultL, aresult, mkF, undefV, reduceCtorEq, kD, kE, kF, kG, kH, kI, kJ, kK, aExtract, calleeOf, ixH, ldH, hu, lu0, e4, e5, eu, LP5, eb, ea, em, awrap_succ i (by omega)]
  refine loop_again (es.length - (i + 1)) [(7, .slice (some ⟨C, 0, none⟩) n n), (11, .func (.func 60) #[] #[.pointer (some ⟨LV, 0, none⟩)]), (12, .map (some M)), (13, cv'), (74, ev), (75, .int .i64 es.length), (76, .int .i64 (i + 1 : Nat))] (by omega) (by simp only [hasAll, kS1, bLookup, bMapSet, wantA, isCall, stepOp, evalO, evalL, evalP, evalM, putDst, flat, kA, kB, Nat.reduceLT, ↓reduceIte, kC, Nat.reduceEqDiff, aBuiltin, abinG, guardFree, abin, aInt, aUn, aNilCheck, retQ, retQ1, aresults, aresultL, aresult, mkF, undefV, reduceCtorEq, kD, kE, kF, kG, kH, kI, kJ, kK, aExtract, calleeOf]; simp)
   ⟨i + 1, cv', us', rfl, hlt, rfl, ?_⟩
  rw [hout]
  refine ⟨Rn, gcn, nM5, fun j a b ha hb hc => ?_, a5⟩
  obtain ⟨o, ho⟩ := Option.ne_none_iff_exists'.1 (GS.blk_own gc5 hc)
  exact (kq b o ho (fun e => nM5 (by rw [← e]; exact hc)) (fun j a ha hb2 => ku j a b ha hb2 hc)).2.2 j a ha hb
 ·have hz : (((lstG gs f).length : Nat) : Int) ≠ 0 := by
   have : (lstG gs f).length ≠ 0 := fun e => c2 (List.length_eq_zero_iff.1 e)
   omega
  rw [if_pos (hne.2 c2)] at hadd
  obtain ⟨u2, u2', q4, q5, q6, us', eu, eb, ea, em, Rn, wn, lq4, kq⟩ := R9.push wf9 f ((a : Int), (c : Int)) (by omega)
  obtain rfl : u = u2 := by rw [hu] at eu; injection eu
  have LP5 := own42 o9
  have gcn : GI q6 cv (keysG (addG gs f ((a : Int), (c : Int)))) := by
   rw [hadd]
   exact GS.kept gc9 fun b o hb ho => (kq b o ho (fun e => nc (by rw [← e]; exact hb)) (fun j a ha hb2 => dc j a b ha hb2 hb)).2.1
  simp only [kS1, bLookup, bMapSet, wantA, isCall, stepOp, evalO, evalL, evalP, evalM, putDst, flat, kA, kB, Nat.reduceLT, ↓reduceIte, kC, Nat.reduceEqDiff, aBuiltin, abinG, guardFree, abin, aInt, aUn, aNilCheck, retQ, retQ1, aresults, aresultL, aresult, mkF, undefV, reduceCtorEq, kD, kE, kF, kG, kH, kI, kJ, kK, aExtract, calleeOf, ixH, ldH, hu, lu, eq_false hz, LP5, eb, ea, em, awrap_succ i (by omega)]
  refine loop_again (es.length - (i + 1)) [(7, .slice (some ⟨C, 0, none⟩) n n), (11, .func (.func 60) #[] #[.pointer (some ⟨LV, 0, none⟩)]), (12, .map (some M)), (13, cv), (74, ev), (75, .int .i64 es.length), (76, .int .i64 (i + 1 : Nat))] (by omega) (by simp only [hasAll, kS1, bLookup, bMapSet, wantA, isCall, stepOp, evalO, evalL, evalP, evalM, putDst, flat, kA, kB, Nat.reduceLT, ↓reduceIte, kC, Nat.reduceEqDiff, aBuiltin, abinG, guardFree, abin, aInt, aUn, aNilCheck, retQ, retQ1, aresults, aresultL, aresult, mkF, undefV, reduceCtorEq, kD, kE, kF, kG, kH, kI, kJ, kK, aExtract, calleeOf]; simp)
   ⟨i + 1, cv, us', rfl, hlt, rfl, ?_⟩
  rw [hout]
  refine ⟨Rn, gcn, nc, fun j a b ha hb hc => ?_, ac⟩
  obtain ⟨o, ho⟩ := Option.ne_none_iff_exists'.1 (GS.blk_own gc9 hc)
  exact (kq b o ho (fun e => nc (by rw [← e]; exact hc)) (fun j a ha hb2 => dc j a b ha hb2 hc)).2.2 j a ha hb
end Go.Fw
