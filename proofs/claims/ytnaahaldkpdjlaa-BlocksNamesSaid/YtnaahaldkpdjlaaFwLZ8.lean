/- A text of the proof. -/
import Derived.Test.YtnaahaldkpdjlaaFwLZ6
set_option linter.unusedSimpArgs false
set_option linter.unusedVariables false
namespace Go.Fw
open Go.Proofs
attribute [local irreducible] KO4 KO3 KO2 KO1 KO KN KX KE VK KCond KDraw KCall KLoop
set_option maxHeartbeats 8000000
set_option maxRecDepth 10000
def cntS (ls : List Lw) (c : List Int) (v : Nat) : List Int :=
 if 0 ≤ (getL ls v).2.1 ∧ (getL ls (getL ls v).2.1.toNat).1 ≤ (getL ls v).2.2 then c.set (getL ls v).2.1.toNat (c.getD (getL ls v).2.1.toNat 0 + 1) else c
def cntM (ls : List Lw) (o : List Nat) (n : Nat) : List Int := o.foldl (cntS ls) (List.replicate n 0)
theorem cntS_length (ls : List Lw) (c : List Int) (v : Nat) : (cntS ls c v).length = c.length := by unfold cntS; split <;> simp
theorem cntF_length (ls : List Lw) : ∀ (o : List Nat) (c : List Int), (o.foldl (cntS ls) c).length = c.length
 | [], c => rfl
 | v :: o, c => by rw [List.foldl_cons, cntF_length ls o, cntS_length]
theorem cntF_le (ls : List Lw) : ∀ (o : List Nat) (c : List Int) (m : Int), (∀ x ∈ c, 0 ≤ x ∧ x ≤ m) → ∀ x ∈ o.foldl (cntS ls) c, 0 ≤ x ∧ x ≤ m + o.length
  | [], c, m, h => by simpa using h
  | v :: o, c, m, h => by
    rw [List.foldl_cons]
    have := cntF_le ls o (cntS ls c v) (m + 1) fun x hx => by
      unfold cntS at hx
      split at hx
      · rcases List.mem_or_eq_of_mem_set hx with e | e
        · have := h x e; omega
        · subst e
          rw [List.getD_eq_getElem?_getD]
          cases hg : c[(getL ls v).2.1.toNat]? with
          | none => rename_i hc; have := List.getElem?_eq_none_iff.1 hg
                    rw [List.set_eq_of_length_le this] at hx
                    have := h _ hx; rw [List.getD_eq_getElem?_getD, hg] at this
                    exact ⟨by omega, by omega⟩
          | some y => have := h y (List.mem_of_getElem? hg); simp; omega
      · have := h x hx; omega
    intro x hx
    have := this x hx
    simp only [List.length_cons]; omega
def isCut (ls : List Lw) (c : List Int) (v : Nat) : Bool := decide (c.getD v 0 > 1) || (decide (c.getD v 0 = 1) && decide ((getL ls v).2.1 ≥ 0))
def cutsM (n : Nat) (es : List Pr) : List Nat := (List.range n).filter (isCut (lowM n es).1 (cntM (lowM n es).1 (lowM n es).2 n))
theorem mkI0 (h : AHeap) : aBuildSlice Try.prog h 38 0 [] = some (.slice (some ⟨h.next, 0, none⟩) 0 0, h.alloc (.cells [])) := rfl
theorem Cuts_any (W0 : Base) (v : Value) (G : GM) (h : AHeap) (hg : GR h v G) :
  AC Try.prog W0 86 [v] h fun x h' => Le h h' ∧ ((¬ RightG G ∧ x = .tuple #[.slice none 0 0, .int .i64 20]) ∨ (RightG G ∧ ∃ cv, x = .tuple #[cv, .int .i64 0] ∧ GI h' cv (nat64 (cutsM G.n.toNat G.es)) ∧ Apart h cv)) := by
 have hg0 := hg
 obtain ⟨gn, es⟩ := G
 obtain ⟨ev, rfl, hp⟩ := hg.open
 refine AC.vc (fn := Try.f86) (c := _) ⟨Try.func86, rfl, by decide⟩ Try.ntmps86 Try.results86 (by simp) fun hwf => ?_
 simp only [argFrame, argFrom, Nat.reduceAdd]
 obtain ⟨h1, b1, le1, wf1, -, lA⟩ := boxG (n := gn) hwf hp
 generalize h.next = B at *
 have lA1 := lA h1 (Le.refl _)
 simp only [kS1, bLookup, bMapSet, wantA, isCall, stepOp, evalO, evalL, evalP, evalM, putDst, flat, kA, kB, Nat.reduceLT, ↓reduceIte, kC, Nat.reduceEqDiff, aBuiltin, abinG, guardFree, abin, aInt, aUn, aNilCheck, retQ, retQ1, aresults, aresultL, aresult, mkF, undefV, reduceCtorEq, kD, kE, kF, kG, kH, kI, kJ, kK, aExtract, calleeOf, b1, lA1.1]
 refine KCall.intro (by simp only [kS1, bLookup, bMapSet, wantA, isCall, stepOp, evalO, evalL, evalP, evalM, putDst, flat, kA, kB, Nat.reduceLT, ↓reduceIte, kC, Nat.reduceEqDiff, aBuiltin, abinG, guardFree, abin, aInt, aUn, aNilCheck, retQ, retQ1, aresults, aresultL, aresult, mkF, undefV, reduceCtorEq, kD, kE, kF, kG, kH, kI, kJ, kK, aExtract, calleeOf] <;> rfl) ⟨Try.func59, rfl, by decide⟩ (search_any W0 _ _ h1 (hg0.le le1)) ?_
 rintro x h2 wf2 ⟨le2, ⟨hr, rfl⟩ | ⟨hr, L, ov, rfl, oL, nL, go, nb, ao⟩⟩
 ·have d20 : decide ((20 : Int) = 0) = false := by decide
  simp only [kS1, bLookup, bMapSet, wantA, isCall, stepOp, evalO, evalL, evalP, evalM, putDst, flat, kA, kB, Nat.reduceLT, ↓reduceIte, kC, Nat.reduceEqDiff, aBuiltin, abinG, guardFree, abin, aInt, aUn, aNilCheck, retQ, retQ1, aresults, aresultL, aresult, mkF, undefV, reduceCtorEq, kD, kE, kF, kG, kH, kI, kJ, kK, aExtract, calleeOf, bne, d20]
  exact ⟨le1.trans le2, .inl ⟨hr, trivial⟩⟩
 have h0 : 0 ≤ gn := hr.n0
 obtain ⟨n, rfl⟩ := Int.eq_ofNat_of_zero_le h0
 have h200 : (n : Int) ≤ 200 := hr.n1
 have R := lowM_R hr.inR
 simp only [Int.toNat_natCast] at oL go ⊢
 have hM : cutsM n es = (List.range n).filter (isCut (lowM n es).1 (cntM (lowM n es).1 (lowM n es).2 n)) := rfl
 generalize (lowM n es).1 = ls at *
 generalize (lowM n es).2 = o at *
 have hol := R.olen
 have lA2 := lA h2 le2
 have mk := aMakeSlice1 (P := Try.prog) (t := 38) (z := .int .i64 0) h2 Try.underlying38 rfl rfl rfl rfl (by kernel_rfl) Try.underlying3 (by kernel_rfl) n (by omega)
 obtain ⟨h3, e3, l3, w3, o3⟩ := alloc_f wf2 (List.replicate n (.int .i64 0))
 rw [e3] at mk
 have nC : h2.own h2.next = none := (Le.refl h2).next wf2 (Nat.le_refl _)
 have lo := fun g => go.rl.len (P := Try.prog) Try.underlying38 g
 rw [nat64_length] at lo
 simp only [kS1, bLookup, bMapSet, wantA, isCall, stepOp, evalO, evalL, evalP, evalM, putDst, flat, kA, kB, Nat.reduceLT, ↓reduceIte, kC, Nat.reduceEqDiff, aBuiltin, abinG, guardFree, abin, aInt, aUn, aNilCheck, retQ, retQ1, aresults, aresultL, aresult, mkF, undefV, reduceCtorEq, kD, kE, kF, kG, kH, kI, kJ, kK, aExtract, calleeOf, bne, fg0, aadd, Nat.zero_add, lA2.2.1, mk, lo]
 generalize h2.next = C at *
 have oC3 : h3.own C = some (.cells (I64 (List.replicate n 0))) := by rw [o3]; simp [I64]
 have ixC : ∀ (k : IntKind) (j : Nat), j < n → aIndexAddr Try.prog 38 (.slice (some ⟨C, 0, none⟩) n n) (.int k j) = some (.pointer (some ⟨C, j, none⟩)) := fun k j hj => by rw [aIdx Try.underlying38 Try.underlying3 (by kernel_rfl) j hj]; simp [aadd]
 have ldC : ∀ (g : AHeap) (c : List Int) (j : Nat), g.own C = some (.cells (I64 c)) → c.length = n → j < n → aload Try.prog g 3 ⟨C, j, none⟩ = some (.int .i64 (c.getD j 0)) := fun g c j ho hl hj => by
  rw [aload_one Try.underlying3 rfl ho, getD_of (by omega)]; simp [I64, getElem?_of (show j < c.length by omega)]
 refine KLoop.intro (fun k fr hq => ∃ (i : Nat), k = o.length - i ∧ i ≤ o.length ∧ fr = mkF [(1, .pointer (some ⟨B, 0, none⟩)), (4, .slice (some ⟨L, 0, none⟩) n n), (7, .slice (some ⟨C, 0, none⟩) n n), (25, ov), (26, .int .i64 o.length), (27, .int .i64 i)] ∧ hq.own C = some (.cells (I64 ((o.take i).foldl (cntS ls) (List.replicate n 0)))) ∧ Le h2 hq)
  o.length [(1, .pointer (some ⟨B, 0, none⟩)), (4, .slice (some ⟨L, 0, none⟩) n n), (7, .slice (some ⟨C, 0, none⟩) n n), (25, ov), (26, .int .i64 o.length), (27, .int .i64 (0 : Nat))] (by simp only [hasAll, kS1, bLookup, bMapSet, wantA, isCall, stepOp, evalO, evalL, evalP, evalM, putDst, flat, kA, kB, Nat.reduceLT, ↓reduceIte, kC, Nat.reduceEqDiff, aBuiltin, abinG, guardFree, abin, aInt, aUn, aNilCheck, retQ, retQ1, aresults, aresultL, aresult, mkF, undefV, reduceCtorEq, kD, kE, kF, kG, kH, kI, kJ, kK, aExtract, calleeOf]; simp) ⟨0, rfl, Nat.zero_le _, rfl, oC3, l3⟩ ?_
 clear oC3 o3 w3 l3 e3 mk lo lA2
 clear h3
 rintro k fr hq hwq ⟨i, rfl, hi, rfl, oC, le3⟩
 have hcl : ((o.take i).foldl (cntS ls) (List.replicate n 0)).length = n := by rw [cntF_length]; simp
 have hcm := cntF_le ls (o.take i) (List.replicate n 0) 0 fun x hx => by rw [List.eq_of_mem_replicate hx]; omega
 simp only [kS1, bLookup, bMapSet, wantA, isCall, stepOp, evalO, evalL, evalP, evalM, putDst, flat, kA, kB, Nat.reduceLT, ↓reduceIte, kC, Nat.reduceEqDiff, aBuiltin, abinG, guardFree, abin, aInt, aUn, aNilCheck, retQ, retQ1, aresults, aresultL, aresult, mkF, undefV, reduceCtorEq, kD, kE, kF, kG, kH, kI, kJ, kK, aExtract, calleeOf]
 refine KCond.intro (fun ht => ?_) (fun hf => ?_)
 ·have hlt : i < o.length := lt_t ht
  clear ht
  have hoi := getElem?_of hlt
  have ad := go.rl.addr (P := Try.prog) Try.underlying38 Try.underlying3 (by kernel_rfl) (k := .i64) i (by rw [nat64_length]; exact hlt)
  have ld := (go.le le3).rl.loadI (P := Try.prog) Try.underlying3 rfl i (by rw [nat64_length]; exact hlt)
  rw [nat64_get hlt] at ld
  have htk : o.take (i + 1) = o.take i ++ [o[i]] := List.take_succ_eq_append_getElem hlt
  generalize o[i] = w at hoi ld htk
  have hwn := R.lt w (List.mem_of_getElem? hoi)
  have gw := getL_of (ls := ls) (v := w) (by rw [R.len]; exact hwn)
  have oL3 := le3.own _ _ oL
  have hstep : (o.take (i + 1)).foldl (cntS ls) (List.replicate n 0) = cntS ls ((o.take i).foldl (cntS ls) (List.replicate n 0)) w := by rw [htk, List.foldl_append]; rfl
  have htl : (o.take i).length = i := by simp; omega
  rw [htl] at hcm
  generalize (o.take i).foldl (cntS ls) (List.replicate n 0) = c at *
  simp only [kS1, bLookup, bMapSet, wantA, isCall, stepOp, evalO, evalL, evalP, evalM, putDst, flat, kA, kB, Nat.reduceLT, ↓reduceIte, kC, Nat.reduceEqDiff, aBuiltin, abinG, guardFree, abin, aInt, aUn, aNilCheck, retQ, retQ1, aresults, aresultL, aresult, mkF, undefV, reduceCtorEq, kD, kE, kF, kG, kH, kI, kJ, kK, aExtract, calleeOf, ad, ld, lAddr w hwn, fl1, aadd, lUp oL3 gw]
  by_cases c1 : 0 ≤ (getL ls w).2.1
  ·obtain ⟨u, hu⟩ := Int.eq_ofNat_of_zero_le c1
   have hun : u < n := by have := R.up w hwn; omega
   have gu := getL_of (ls := ls) (v := u) (by rw [R.len]; exact hun)
   have d1 : decide ((u : Int) ≥ 0) = true := decide_eq_true (by omega)
   by_cases c2 : (getL ls u).1 ≤ (getL ls w).2.2
   ·have d2 : decide ((getL ls w).2.2 ≥ (getL ls u).1) = true := decide_eq_true c2
    have hE : cntS ls c w = c.set u (c.getD u 0 + 1) := by unfold cntS; rw [hu, Int.toNat_natCast, if_pos ⟨by omega, c2⟩]
    have hcu : 0 ≤ c.getD u 0 ∧ c.getD u 0 ≤ 0 + (i : Int) := by rw [getD_of (by omega)]; exact hcm _ (List.getElem_mem _)
    have w1 : awrap .i64 (c.getD u 0 + 1) = c.getD u 0 + 1 := awrap_in _ (by omega) (by omega)
    have st := aStore1 (P := Try.prog) (t := 3) (x := .int .i64 (c.getD u 0 + 1)) Try.underlying3 (by kernel_rfl) oC (off := u) (by simp [I64]; omega) rfl rfl
    rw [I64_set, ← hE, ← hstep] at st
    simp only [hu]
    refine KDraw.intro mixed (.fl 0 (.fl 1 (.fl 2 (.fl 3 (.fl 4 (.fl 5 (.fl 6 (.fl 7 (.fl 8 (.fl 9 (.fl 10 (.fl 11 (.fl 12 (.fl 13 (.fl 14 (.done)))))))))))))))) (by kernel_rfl) ?_
    simp only [kS1, bLookup, bMapSet, wantA, isCall, stepOp, evalO, evalL, evalP, evalM, putDst, flat, kA, kB, Nat.reduceLT, ↓reduceIte, kC, Nat.reduceEqDiff, aBuiltin, abinG, guardFree, abin, aInt, aUn, aNilCheck, retQ, retQ1, aresults, aresultL, aresult, mkF, undefV, reduceCtorEq, kD, kE, kF, kG, kH, kI, kJ, kK, aExtract, calleeOf, kD1, Nat.reduceBEq, HoldsAll, kL, kM, kN, kO, d1, d2, lAddr w hwn, lAddr u hun, fl0, fl2, aadd, Nat.add_zero, lLow oL3 gw, lNum oL3 gu, ixC _ u hun, ldC hq c u oC hcl hun, w1, st, awrap_succ i (by omega)]
    exact loop_again (o.length - (i + 1)) [(1, .pointer (some ⟨B, 0, none⟩)), (4, .slice (some ⟨L, 0, none⟩) n n), (7, .slice (some ⟨C, 0, none⟩) n n), (25, ov), (26, .int .i64 o.length), (27, .int .i64 (i + 1 : Nat))] (by omega) (by simp only [hasAll, kS1, bLookup, bMapSet, wantA, isCall, stepOp, evalO, evalL, evalP, evalM, putDst, flat, kA, kB, Nat.reduceLT, ↓reduceIte, kC, Nat.reduceEqDiff, aBuiltin, abinG, guardFree, abin, aInt, aUn, aNilCheck, retQ, retQ1, aresults, aresultL, aresult, mkF, undefV, reduceCtorEq, kD, kE, kF, kG, kH, kI, kJ, kK, aExtract, calleeOf]; simp) ⟨i + 1, rfl, hlt, rfl, AHeap.own_put_eq _ _ _, le3.put _ nC⟩
   ·have d2 : decide ((getL ls w).2.2 ≥ (getL ls u).1) = false := decide_eq_false c2
    have hE : cntS ls c w = c := by unfold cntS; rw [hu, Int.toNat_natCast, if_neg (fun h => c2 h.2)]
    simp only [hu]
    refine KDraw.intro mixed (.fl 0 (.fl 1 (.fl 2 (.fl 3 (.fl 4 (.fl 5 (.fl 6 (.fl 7 (.fl 8 (.fl 9 (.fl 10 (.fl 11 (.fl 12 (.fl 13 (.fl 14 (.done)))))))))))))))) (by kernel_rfl) ?_
    simp only [kS1, bLookup, bMapSet, wantA, isCall, stepOp, evalO, evalL, evalP, evalM, putDst, flat, kA, kB, Nat.reduceLT, ↓reduceIte, kC, Nat.reduceEqDiff, aBuiltin, abinG, guardFree, abin, aInt, aUn, aNilCheck, retQ, retQ1, aresults, aresultL, aresult, mkF, undefV, reduceCtorEq, kD, kE, kF, kG, kH, kI, kJ, kK, aExtract, calleeOf, kD1, Nat.reduceBEq, HoldsAll, kL, kM, kN, kO, d1, d2, lAddr w hwn, lAddr u hun, fl0, fl2, aadd, Nat.add_zero, lLow oL3 gw, lNum oL3 gu, awrap_succ i (by omega)]
    exact loop_again (o.length - (i + 1)) [(1, .pointer (some ⟨B, 0, none⟩)), (4, .slice (some ⟨L, 0, none⟩) n n), (7, .slice (some ⟨C, 0, none⟩) n n), (25, ov), (26, .int .i64 o.length), (27, .int .i64 (i + 1 : Nat))] (by omega) (by simp only [hasAll, kS1, bLookup, bMapSet, wantA, isCall, stepOp, evalO, evalL, evalP, evalM, putDst, flat, kA, kB, Nat.reduceLT, ↓reduceIte, kC, Nat.reduceEqDiff, aBuiltin, abinG, guardFree, abin, aInt, aUn, aNilCheck, retQ, retQ1, aresults, aresultL, aresult, mkF, undefV, reduceCtorEq, kD, kE, kF, kG, kH, kI, kJ, kK, aExtract, calleeOf]; simp) ⟨i + 1, rfl, hlt, rfl, by rw [hstep, hE]; exact oC, le3⟩
  ·have d1 : decide ((getL ls w).2.1 ≥ 0) = false := decide_eq_false c1
   have hE : cntS ls c w = c := by unfold cntS; rw [if_neg (fun h => c1 h.1)]
   refine KDraw.intro mixed (.fl 0 (.fl 1 (.fl 2 (.fl 3 (.fl 4 (.fl 5 (.fl 6 (.fl 7 (.fl 8 (.fl 9 (.fl 10 (.fl 11 (.fl 12 (.fl 13 (.fl 14 (.done)))))))))))))))) (by kernel_rfl) ?_
   simp only [kS1, bLookup, bMapSet, wantA, isCall, stepOp, evalO, evalL, evalP, evalM, putDst, flat, kA, kB, Nat.reduceLT, ↓reduceIte, kC, Nat.reduceEqDiff, aBuiltin, abinG, guardFree, abin, aInt, aUn, aNilCheck, retQ, retQ1, aresults, aresultL, aresult, mkF, undefV, reduceCtorEq, kD, kE, kF, kG, kH, kI, kJ, kK, aExtract, calleeOf, kD1, Nat.reduceBEq, HoldsAll, kL, kM, kN, kO, d1, awrap_succ i (by omega)]
   exact loop_again (o.length - (i + 1)) [(1, .pointer (some ⟨B, 0, none⟩)), (4, .slice (some ⟨L, 0, none⟩) n n), (7, .slice (some ⟨C, 0, none⟩) n n), (25, ov), (26, .int .i64 o.length), (27, .int .i64 (i + 1 : Nat))] (by omega) (by simp only [hasAll, kS1, bLookup, bMapSet, wantA, isCall, stepOp, evalO, evalL, evalP, evalM, putDst, flat, kA, kB, Nat.reduceLT, ↓reduceIte, kC, Nat.reduceEqDiff, aBuiltin, abinG, guardFree, abin, aInt, aUn, aNilCheck, retQ, retQ1, aresults, aresultL, aresult, mkF, undefV, reduceCtorEq, kD, kE, kF, kG, kH, kI, kJ, kK, aExtract, calleeOf]; simp) ⟨i + 1, rfl, hlt, rfl, by rw [hstep, hE]; exact oC, le3⟩
 have hge : o.length ≤ i := lt_f hf
 rw [List.take_of_length_le hge] at oC hcl hcm
 have hcM : o.foldl (cntS ls) (List.replicate n 0) = cntM ls o n := rfl
 rw [hcM] at oC hcl hcm
 rw [hM]
 generalize cntM ls o n = c at *
 have lAq := lA hq (le2.trans le3)
 obtain ⟨h4, e4, l4, w4, o4⟩ := alloc_f hwq []
 have nK : hq.own hq.next = none := (Le.refl hq).next hwq (Nat.le_refl _)
 have lA4 := lA h4 ((le2.trans le3).trans l4)
 simp only [kS1, bLookup, bMapSet, wantA, isCall, stepOp, evalO, evalL, evalP, evalM, putDst, flat, kA, kB, Nat.reduceLT, ↓reduceIte, kC, Nat.reduceEqDiff, aBuiltin, abinG, guardFree, abin, aInt, aUn, aNilCheck, retQ, retQ1, aresults, aresultL, aresult, mkF, undefV, reduceCtorEq, kD, kE, kF, kG, kH, kI, kJ, kK, aExtract, calleeOf, mkI0, e4, fg0, aadd, Nat.zero_add, lA4.2.1]
 have g4 : GI h4 (.slice (some ⟨hq.next, 0, none⟩) 0 0) [] := GS.full o4 rfl (by decide)
 have a4 : Apart hq (.slice (some ⟨hq.next, 0, none⟩) 0 0) := fun b hb => by injection hb with hb; subst hb; exact nK
 generalize Value.slice (some ⟨hq.next, 0, none⟩) 0 0 = cv0 at *
 refine KLoop.intro (fun k fr hh => ∃ (j : Nat) (cv : Value), k = n - j ∧ j ≤ n ∧ fr = mkF [(4, .slice (some ⟨L, 0, none⟩) n n), (7, .slice (some ⟨C, 0, none⟩) n n), (11, cv), (60, .int .i64 n), (61, .int .i64 j)] ∧ GI hh cv (nat64 ((List.range j).filter (isCut ls c))) ∧ Le hq hh ∧ Apart hq cv)
  n [(4, .slice (some ⟨L, 0, none⟩) n n), (7, .slice (some ⟨C, 0, none⟩) n n), (11, cv0), (60, .int .i64 n), (61, .int .i64 (0 : Nat))] (by simp only [hasAll, kS1, bLookup, bMapSet, wantA, isCall, stepOp, evalO, evalL, evalP, evalM, putDst, flat, kA, kB, Nat.reduceLT, ↓reduceIte, kC, Nat.reduceEqDiff, aBuiltin, abinG, guardFree, abin, aInt, aUn, aNilCheck, retQ, retQ1, aresults, aresultL, aresult, mkF, undefV, reduceCtorEq, kD, kE, kF, kG, kH, kI, kJ, kK, aExtract, calleeOf]; simp) ⟨0, cv0, rfl, Nat.zero_le _, rfl, g4, l4, a4⟩ ?_
 clear g4 a4 cv0 lA4 nK o4 w4 l4 e4 lAq
 clear h4
 rintro k fr hh hwh ⟨j, cv, rfl, hj, rfl, gc, leh, ac⟩
 simp only [kS1, bLookup, bMapSet, wantA, isCall, stepOp, evalO, evalL, evalP, evalM, putDst, flat, kA, kB, Nat.reduceLT, ↓reduceIte, kC, Nat.reduceEqDiff, aBuiltin, abinG, guardFree, abin, aInt, aUn, aNilCheck, retQ, retQ1, aresults, aresultL, aresult, mkF, undefV, reduceCtorEq, kD, kE, kF, kG, kH, kI, kJ, kK, aExtract, calleeOf]
 refine KCond.intro (fun ht => ?_) (fun hf => ?_)
 ·have hlt : j < n := lt_t ht
  clear ht
  have gj := getL_of (ls := ls) (v := j) (by rw [R.len]; exact hlt)
  have oLh := (le3.trans leh).own _ _ oL
  have oCh := leh.own _ _ oC
  have hfl : ((List.range j).filter (isCut ls c)).length ≤ j := by have := List.length_filter_le (isCut ls c) (List.range j); simpa using this
  have hrs : ∀ b, isCut ls c j = b → (List.range (j + 1)).filter (isCut ls c) = (List.range j).filter (isCut ls c) ++ cond b [j] [] := fun b hb => by
   rw [List.range_succ, List.filter_append]; subst hb; cases h : isCut ls c j <;> simp [h]
  have lc := ldC hh c j oCh hcl hlt
  have lu := lUp oLh gj
  obtain ⟨v', h4, h5, e4, e5, g5, w5, l4, f5, -⟩ := gc.push hwh (j : Int) (by rw [nat64_length]; omega)
  obtain ⟨l5, a5⟩ := f5 hq leh ac
  have yes : isCut ls c j = true → GI h5 v' (nat64 ((List.range (j + 1)).filter (isCut ls c))) := fun hb => by rw [hrs _ hb]; simpa [nat64] using g5
  have no : isCut ls c j = false → GI hh cv (nat64 ((List.range (j + 1)).filter (isCut ls c))) := fun hb => by rw [hrs _ hb]; simpa [nat64] using gc
  by_cases c1 : c.getD j 0 > 1
  ·have d1 : decide (c.getD j 0 > 1) = true := decide_eq_true c1
   simp only [kS1, bLookup, bMapSet, wantA, isCall, stepOp, evalO, evalL, evalP, evalM, putDst, flat, kA, kB, Nat.reduceLT, ↓reduceIte, kC, Nat.reduceEqDiff, aBuiltin, abinG, guardFree, abin, aInt, aUn, aNilCheck, retQ, retQ1, aresults, aresultL, aresult, mkF, undefV, reduceCtorEq, kD, kE, kF, kG, kH, kI, kJ, kK, aExtract, calleeOf, ixC _ j hlt, lc, d1, e4, e5, awrap_succ j (by omega)]
   exact loop_again (n - (j + 1)) [(4, .slice (some ⟨L, 0, none⟩) n n), (7, .slice (some ⟨C, 0, none⟩) n n), (11, v'), (60, .int .i64 n), (61, .int .i64 (j + 1 : Nat))] (by omega) (by simp only [hasAll, kS1, bLookup, bMapSet, wantA, isCall, stepOp, evalO, evalL, evalP, evalM, putDst, flat, kA, kB, Nat.reduceLT, ↓reduceIte, kC, Nat.reduceEqDiff, aBuiltin, abinG, guardFree, abin, aInt, aUn, aNilCheck, retQ, retQ1, aresults, aresultL, aresult, mkF, undefV, reduceCtorEq, kD, kE, kF, kG, kH, kI, kJ, kK, aExtract, calleeOf]; simp) ⟨j + 1, v', rfl, hlt, rfl, yes (by simp only [isCut, d1, Bool.true_or]), l5, a5⟩
  have d1 : decide (c.getD j 0 > 1) = false := decide_eq_false c1
  by_cases c2 : c.getD j 0 = 1
  ·have d2 : decide (c.getD j 0 = 1) = true := decide_eq_true c2
   by_cases c3 : (getL ls j).2.1 ≥ 0
   ·have d3 : decide ((getL ls j).2.1 ≥ 0) = true := decide_eq_true c3
    simp only [kS1, bLookup, bMapSet, wantA, isCall, stepOp, evalO, evalL, evalP, evalM, putDst, flat, kA, kB, Nat.reduceLT, ↓reduceIte, kC, Nat.reduceEqDiff, aBuiltin, abinG, guardFree, abin, aInt, aUn, aNilCheck, retQ, retQ1, aresults, aresultL, aresult, mkF, undefV, reduceCtorEq, kD, kE, kF, kG, kH, kI, kJ, kK, aExtract, calleeOf, ixC _ j hlt, lc, d1, d2, lAddr j hlt, fl1, aadd, lu, d3, e4, e5, awrap_succ j (by omega)]
    exact loop_again (n - (j + 1)) [(4, .slice (some ⟨L, 0, none⟩) n n), (7, .slice (some ⟨C, 0, none⟩) n n), (11, v'), (60, .int .i64 n), (61, .int .i64 (j + 1 : Nat))] (by omega) (by simp only [hasAll, kS1, bLookup, bMapSet, wantA, isCall, stepOp, evalO, evalL, evalP, evalM, putDst, flat, kA, kB, Nat.reduceLT, ↓reduceIte, kC, Nat.reduceEqDiff, aBuiltin, abinG, guardFree, abin, aInt, aUn, aNilCheck, retQ, retQ1, aresults, aresultL, aresult, mkF, undefV, reduceCtorEq, kD, kE, kF, kG, kH, kI, kJ, kK, aExtract, calleeOf]; simp) ⟨j + 1, v', rfl, hlt, rfl, yes (by simp only [isCut, d1, d2, d3]; rfl), l5, a5⟩
   ·have d3 : decide ((getL ls j).2.1 ≥ 0) = false := decide_eq_false c3
    simp only [kS1, bLookup, bMapSet, wantA, isCall, stepOp, evalO, evalL, evalP, evalM, putDst, flat, kA, kB, Nat.reduceLT, ↓reduceIte, kC, Nat.reduceEqDiff, aBuiltin, abinG, guardFree, abin, aInt, aUn, aNilCheck, retQ, retQ1, aresults, aresultL, aresult, mkF, undefV, reduceCtorEq, kD, kE, kF, kG, kH, kI, kJ, kK, aExtract, calleeOf, ixC _ j hlt, lc, d1, d2, lAddr j hlt, fl1, aadd, lu, d3, awrap_succ j (by omega)]
    exact loop_again (n - (j + 1)) [(4, .slice (some ⟨L, 0, none⟩) n n), (7, .slice (some ⟨C, 0, none⟩) n n), (11, cv), (60, .int .i64 n), (61, .int .i64 (j + 1 : Nat))] (by omega) (by simp only [hasAll, kS1, bLookup, bMapSet, wantA, isCall, stepOp, evalO, evalL, evalP, evalM, putDst, flat, kA, kB, Nat.reduceLT, ↓reduceIte, kC, Nat.reduceEqDiff, aBuiltin, abinG, guardFree, abin, aInt, aUn, aNilCheck, retQ, retQ1, aresults, aresultL, aresult, mkF, undefV, reduceCtorEq, kD, kE, kF, kG, kH, kI, kJ, kK, aExtract, calleeOf]; simp) ⟨j + 1, cv, rfl, hlt, rfl, no (by simp only [isCut, d1, d2, d3]; rfl), leh, ac⟩
  ·have d2 : decide (c.getD j 0 = 1) = false := decide_eq_false c2
   simp only [kS1, bLookup, bMapSet, wantA, isCall, stepOp, evalO, evalL, evalP, evalM, putDst, flat, kA, kB, Nat.reduceLT, ↓reduceIte, kC, Nat.reduceEqDiff, aBuiltin, abinG, guardFree, abin, aInt, aUn, aNilCheck, retQ, retQ1, aresults, aresultL, aresult, mkF, undefV, reduceCtorEq, kD, kE, kF, kG, kH, kI, kJ, kK, aExtract, calleeOf, ixC _ j hlt, lc, d1, d2, awrap_succ j (by omega)]
   exact loop_again (n - (j + 1)) [(4, .slice (some ⟨L, 0, none⟩) n n), (7, .slice (some ⟨C, 0, none⟩) n n), (11, cv), (60, .int .i64 n), (61, .int .i64 (j + 1 : Nat))] (by omega) (by simp only [hasAll, kS1, bLookup, bMapSet, wantA, isCall, stepOp, evalO, evalL, evalP, evalM, putDst, flat, kA, kB, Nat.reduceLT, ↓reduceIte, kC, Nat.reduceEqDiff, aBuiltin, abinG, guardFree, abin, aInt, aUn, aNilCheck, retQ, retQ1, aresults, aresultL, aresult, mkF, undefV, reduceCtorEq, kD, kE, kF, kG, kH, kI, kJ, kK, aExtract, calleeOf]; simp) ⟨j + 1, cv, rfl, hlt, rfl, no (by simp only [isCut, d1, d2]; rfl), leh, ac⟩
 ·have hge : n ≤ j := lt_f hf
  obtain rfl : j = n := by omega
  simp only [kS1, bLookup, bMapSet, wantA, isCall, stepOp, evalO, evalL, evalP, evalM, putDst, flat, kA, kB, Nat.reduceLT, ↓reduceIte, kC, Nat.reduceEqDiff, aBuiltin, abinG, guardFree, abin, aInt, aUn, aNilCheck, retQ, retQ1, aresults, aresultL, aresult, mkF, undefV, reduceCtorEq, kD, kE, kF, kG, kH, kI, kJ, kK, aExtract, calleeOf]
  exact ⟨((le1.trans le2).trans le3).trans leh, .inr ⟨hr, cv, rfl, gc, fun b hb => ((le1.trans le2).trans le3).none (ac b hb)⟩⟩
end Go.Fw
