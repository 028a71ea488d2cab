/- A text of the proof. -/
import Derived.Test.YtnaahaldkpdjlaaFwLF8
import Derived.Test.YtnaahaldkpdjlaaFwLT7
set_option linter.unusedSimpArgs false
set_option linter.unusedVariables false
namespace Go.Fw
open Go.Proofs
attribute [local irreducible] KO4 KO3 KO2 KO1 KO KN KX KE VK KCond KDraw KCall KLoop
set_option maxHeartbeats 16000000
set_option maxRecDepth 10000
attribute [local instance] Classical.propDecidable
def RowsV (b0 h : AHeap) (x : Value) (rows : List (List Int)) : Prop := ∃ L us, x = .slice (some ⟨L, 0, none⟩) rows.length rows.length ∧ Rows b0 h L us rows
theorem RowsV.le {b0 h : AHeap} {x : Value} {rows : List (List Int)} (R : RowsV b0 h x rows) : Le b0 h := by
 obtain ⟨L, us, rfl, R⟩ := R; exact R.le
theorem Rows.put {b0 h : AHeap} {L : Nat} {us : List Value} {rows : List (List Int)} (R : Rows b0 h L us rows) (hwf : WF h) {w : Nat} {u : Value} {r : List Int} (hu : us[w]? = some u) (hr : rows[w]? = some r) {i : Nat} (hi : i < r.length) (x : Int) :
  ∃ h', aStore Try.prog h 3 (.pointer (some (elemAddr u i))) (.int .i64 x) = some h' ∧ Rows b0 h' L us (rows.set w (r.set i x)) ∧ WF h' ∧ (∀ f, Le f h → Apart f u → Le f h') ∧ (∀ b o, h.own b = some o → blk u ≠ some b → h'.own b = some o) := by
 obtain ⟨h', e, g, wf, lf, keep⟩ := GI.store (show GI h u r from R.gs w u r hu hr) hwf hi x
 refine ⟨h', e, ⟨keep _ _ R.oL (R.nL w u hu), by rw [List.length_set]; exact R.len, fun v a q ha hq => ?_, R.nL, R.dis, R.ap, lf _ R.le (R.ap w u hu), R.bL⟩, wf, lf, keep⟩
 rw [List.getElem?_set] at hq
 by_cases c : w = v
 ·subst c
  rw [if_pos rfl, if_pos (List.getElem?_eq_some_iff.1 hr).1] at hq
  injection hq with hq; subst hq
  rw [hu] at ha; injection ha with ha; subst ha
  exact g
 ·rw [if_neg c] at hq
  refine (R.gs v a q ha hq).kept fun b o hb ho => keep b o ho fun hb' => R.dis w v u a b c hu ha hb' hb
theorem Beside_rows (W0 : Base) (v : Value) (n : Nat) (es : List Pr) (h : AHeap) (hg : GR h v ⟨(n : Int), es⟩) (hr : RightG ⟨(n : Int), es⟩) : AC Try.prog W0 55 [v] h fun x h' => ∃ b0, RowsV b0 h' x (besM n es) ∧ Le h b0 := by
 have hg0 := hg
 obtain ⟨ev, rfl, hp⟩ := hg.open
 have h200 : (n : Int) ≤ 200 := hr.n1
 have h594 : es.length ≤ 594 := hr.len
 have hrng : ∀ p ∈ es, 0 ≤ p.1 ∧ p.1 < p.2 ∧ p.2 < (n : Int) := fun p hpm => by
  obtain ⟨i, hi⟩ := List.mem_iff_getElem?.1 hpm
  exact (hr.ok i (List.getElem?_eq_some_iff.1 hi).1 p hi).1
 refine AC.vc (fn := Try.f55) (c := _) ⟨Try.func55, rfl, by decide⟩ Try.ntmps55 Try.results55 (by simp) fun hwf => ?_
 simp only [argFrame, argFrom, Nat.reduceAdd]
 obtain ⟨h1, b1, le1, wf1, -, lA⟩ := boxG (n := (n : Int)) hwf hp
 generalize h.next = B at *
 have lA1 := lA h1 (Le.refl _)
 have ll := fun g => hp.len g
 simp only [kS1, bLookup, bMapSet, wantA, isCall, stepOp, evalO, evalL, evalP, evalM, putDst, flat, kA, kB, Nat.reduceLT, ↓reduceIte, kC, Nat.reduceEqDiff, aBuiltin, abinG, guardFree, abin, aInt, aUn, aNilCheck, retQ, retQ1, aresults, aresultL, aresult, mkF, undefV, reduceCtorEq, kD, kE, kF, kG, kH, kI, kJ, kK, aExtract, calleeOf, b1, lA1.1]
 refine KCall.intro (by simp only [kS1, bLookup, bMapSet, wantA, isCall, stepOp, evalO, evalL, evalP, evalM, putDst, flat, kA, kB, Nat.reduceLT, ↓reduceIte, kC, Nat.reduceEqDiff, aBuiltin, abinG, guardFree, abin, aInt, aUn, aNilCheck, retQ, retQ1, aresults, aresultL, aresult, mkF, undefV, reduceCtorEq, kD, kE, kF, kG, kH, kI, kJ, kK, aExtract, calleeOf] <;> rfl) ⟨Try.func57, rfl, by decide⟩ (Right_any W0 _ _ h1 (hg0.le le1)) ?_
 rintro x h2 wf2 ⟨⟨bb, rfl, hbb⟩, le2⟩
 obtain rfl : bb = true := hbb.2 hr
 have lA2 := lA h2 le2
 have mk := aMakeSlice1 (P := Try.prog) (t := 32) (z := .slice none 0 0) h2 Try.underlying32 rfl rfl rfl rfl (by kernel_rfl) Try.underlying38 (by kernel_rfl) n (by omega)
 obtain ⟨h3, e3, le3, wf3, o3⟩ := alloc_f wf2 (List.replicate n (.slice none 0 0))
 rw [e3] at mk
 have nL : h2.own h2.next = none := (Le.refl h2).next wf2 (Nat.le_refl _)
 generalize h2.next = L at *
 have lA3 := lA h3 (le2.trans le3)
 simp only [kS1, bLookup, bMapSet, wantA, isCall, stepOp, evalO, evalL, evalP, evalM, putDst, flat, kA, kB, Nat.reduceLT, ↓reduceIte, kC, Nat.reduceEqDiff, aBuiltin, abinG, guardFree, abin, aInt, aUn, aNilCheck, retQ, retQ1, aresults, aresultL, aresult, mkF, undefV, reduceCtorEq, kD, kE, kF, kG, kH, kI, kJ, kK, aExtract, calleeOf, fg0, fg1, aadd, Nat.zero_add, lA2.2.1, mk, lA3.2.2, ll]
 have R0 : Rows h2 h3 L (List.replicate n (.slice none 0 0)) (besM n (es.take 0)) := by
  have : besM n (es.take 0) = List.replicate n [] := by simp [besM]
  rw [this]; exact Rows.start o3 le3 nL
 refine KLoop.intro (fun k fr hh => ∃ (i : Nat) (us : List Value), k = es.length - i ∧ i ≤ es.length ∧ fr = mkF [(3, .slice (some ⟨L, 0, none⟩) n n), (13, ev), (14, .int .i64 es.length), (15, .int .i64 i)] ∧ Rows h2 hh L us (besM n (es.take i)))
  es.length [(3, .slice (some ⟨L, 0, none⟩) n n), (13, ev), (14, .int .i64 es.length), (15, .int .i64 (0 : Nat))] (by simp only [hasAll, kS1, bLookup, bMapSet, wantA, isCall, stepOp, evalO, evalL, evalP, evalM, putDst, flat, kA, kB, Nat.reduceLT, ↓reduceIte, kC, Nat.reduceEqDiff, aBuiltin, abinG, guardFree, abin, aInt, aUn, aNilCheck, retQ, retQ1, aresults, aresultL, aresult, mkF, undefV, reduceCtorEq, kD, kE, kF, kG, kH, kI, kJ, kK, aExtract, calleeOf]; simp) ⟨0, _, rfl, Nat.zero_le _, rfl, R0⟩ ?_
 rintro k fr hh hwh ⟨i, us, rfl, hi, rfl, R⟩
 simp only [kS1, bLookup, bMapSet, wantA, isCall, stepOp, evalO, evalL, evalP, evalM, putDst, flat, kA, kB, Nat.reduceLT, ↓reduceIte, kC, Nat.reduceEqDiff, aBuiltin, abinG, guardFree, abin, aInt, aUn, aNilCheck, retQ, retQ1, aresults, aresultL, aresult, mkF, undefV, reduceCtorEq, kD, kE, kF, kG, kH, kI, kJ, kK, aExtract, calleeOf]
 refine KCond.intro (fun ht => ?_) (fun hf => ?_)
 rotate_left
 ·have hge : es.length ≤ i := lt_f hf
  rw [List.take_of_length_le hge] at R
  simp only [kS1, bLookup, bMapSet, wantA, isCall, stepOp, evalO, evalL, evalP, evalM, putDst, flat, kA, kB, Nat.reduceLT, ↓reduceIte, kC, Nat.reduceEqDiff, aBuiltin, abinG, guardFree, abin, aInt, aUn, aNilCheck, retQ, retQ1, aresults, aresultL, aresult, mkF, undefV, reduceCtorEq, kD, kE, kF, kG, kH, kI, kJ, kK, aExtract, calleeOf]
  exact ⟨h2, ⟨L, us, by rw [besM_length], R⟩, le1.trans le2⟩
 have hlt : i < es.length := lt_t ht
 clear ht
 have hpi := getElem?_of hlt
 have htk : es.take (i + 1) = es.take i ++ [es[i]] := List.take_succ_eq_append_getElem hlt
 generalize es[i] = p at hpi htk
 obtain ⟨p1, p2, p3⟩ := hrng p (List.mem_of_getElem? hpi)
 have hph := hp.le ((le1.trans le2).trans R.le)
 have ad := hp.addr (k := .i64) i hlt
 have ld := hph.load hpi
 obtain ⟨h4', h4, e4, e4s, le4, wf4, o4⟩ := new42 hwh p
 have nE2 : hh.own hh.next = none := (Le.refl hh).next hwh (Nat.le_refl _)
 obtain ⟨a, c⟩ := p
 simp only at p1 p2 p3
 obtain ⟨a, rfl⟩ := Int.eq_ofNat_of_zero_le p1
 obtain ⟨c, rfl⟩ := Int.eq_ofNat_of_zero_le (show 0 ≤ c by omega)
 have R4 := R.up le4
 have hnE : ∀ (v : Nat) u, us[v]? = some u → blk u ≠ some hh.next := fun v u hu hb => by
  have hgs : ∃ q, (besM n (es.take i))[v]? = some q := ⟨_, getElem?_of (by rw [← R.len]; exact (List.getElem?_eq_some_iff.1 hu).1)⟩
  obtain ⟨q, hq⟩ := hgs
  exact (R.gs v u q hu hq).blk_own hb nE2
 have hEL : hh.next ≠ L := fun e => by have := R.oL; rw [← e, nE2] at this; cases this
 generalize hh.next = E at *
 simp only [kS1, bLookup, bMapSet, wantA, isCall, stepOp, evalO, evalL, evalP, evalM, putDst, flat, kA, kB, Nat.reduceLT, ↓reduceIte, kC, Nat.reduceEqDiff, aBuiltin, abinG, guardFree, abin, aInt, aUn, aNilCheck, retQ, retQ1, aresults, aresultL, aresult, mkF, undefV, reduceCtorEq, kD, kE, kF, kG, kH, kI, kJ, kK, aExtract, calleeOf, ad, ld, e4, e4s]
 have hrows := besM_rows n (es.take i)
 have htl : (es.take i).length ≤ 594 := by rw [List.length_take]; omega
 have ixL : ∀ (k : IntKind) (j : Nat), j < n → aIndexAddr Try.prog 32 (.slice (some ⟨L, 0, none⟩) n n) (.int k j) = some (.pointer (some ⟨L, j, none⟩)) := fun k j hj => by rw [aIdx Try.underlying32 Try.underlying38 (by kernel_rfl) j hj]; simp [aadd]
 have hba : a < (besM n (es.take i)).length := by rw [besM_length]; omega
 have hra := getElem?_of hba
 have hga : (besM n (es.take i)).getD a [] = (besM n (es.take i))[a] := getD_of hba
 have hla : ((besM n (es.take i))[a]).length ≤ 100000 := by have := hrows _ (List.getElem_mem hba); omega
 generalize (besM n (es.take i))[a] = ra at hra hga hla
 obtain ⟨u, u', h5, h6, h7, hu, e5, e6, e7, l5, l6, oL6, R7, wf7, keep⟩ := R4.push wf4 hra (c : Int) hla
 obtain ⟨keepE6, keepE7, hnE7⟩ := keep _ _ o4 hEL hnE
 have m4a := own0 o4
 have m4b := own1 o4
 have m5a := own0 (l5.own _ _ o4)
 have m5b := own1 (l5.own _ _ o4)
 have m6a := own0 keepE6
 have m6b := own1 keepE6
 have m7a := own0 keepE7
 have m7b := own1 keepE7
 simp only at m4a m4b m5a m5b m6a m6b m7a m7b
 have lu4 : aload Try.prog h4 38 ⟨L, a, none⟩ = some u := by rw [aload_one Try.underlying38 rfl R4.oL]; exact hu
 have lu5 : aload Try.prog h5 38 ⟨L, a, none⟩ = some u := by rw [aload_one Try.underlying38 rfl (l5.own _ _ R4.oL)]; exact hu
 have bs : aBuildSlice Try.prog h4 38 1 [(0, .int .i64 (c : Int))] = some (.slice (some ⟨h4.next, 0, none⟩) 1 1, h5) := by rw [mk1, e5]
 refine KDraw.intro mixed (.fl 0 (.fl 1 (.fl 2 (.fl 3 (.fl 4 (.fl 5 (.fl 6 (.fl 7 (.fl 8 (.fl 9 (.ch 10 [9] (.ch 11 [7, 10] (.fl 12 (.ch 13 [0, 1, 2, 3, 4, 5, 6, 7, 8, 9, 10, 11, 12] (.done) .no)) .no) .no))))))))))) (by kernel_rfl) ?_
 simp only [kS1, bLookup, bMapSet, wantA, isCall, stepOp, evalO, evalL, evalP, evalM, putDst, flat, kA, kB, Nat.reduceLT, ↓reduceIte, kC, Nat.reduceEqDiff, aBuiltin, abinG, guardFree, abin, aInt, aUn, aNilCheck, retQ, retQ1, aresults, aresultL, aresult, mkF, undefV, reduceCtorEq, kD, kE, kF, kG, kH, kI, kJ, kK, aExtract, calleeOf, kD1, Nat.reduceBEq, HoldsAll, kL, kM, kN, kO, pa0, pa1, aadd, Nat.zero_add, m4a, m4b, m5a, m5b, m6a, m6b, ixL _ a (by omega), lu4, lu5, bs, e6, e7]
 -- the other end
 have hl7 : ((besM n (es.take i)).set a (ra ++ [(c : Int)])).length = n := by simp [besM_length]
 have hbc : c < ((besM n (es.take i)).set a (ra ++ [(c : Int)])).length := by omega
 have hrc := getElem?_of hbc
 have hgc : ((besM n (es.take i)).set a (ra ++ [(c : Int)])).getD c [] = ((besM n (es.take i)).set a (ra ++ [(c : Int)]))[c] := getD_of hbc
 have hlc : (((besM n (es.take i)).set a (ra ++ [(c : Int)]))[c]).length ≤ 100000 := by
  rcases List.mem_or_eq_of_mem_set (List.getElem_mem hbc) with e | e
  ·have := hrows _ e; omega
  ·rw [e]; simp; have := hrows ra (List.mem_of_getElem? hra); omega
 generalize ((besM n (es.take i)).set a (ra ++ [(c : Int)]))[c] = rc at hrc hgc hlc
 obtain ⟨w, w', h8, h9, h10, hw, e8, e9, e10, l8, l9, oL9, R10, wf10, keep2⟩ := R7.push wf7 hrc (a : Int) hlc
 obtain ⟨keepE9, keepE10, -⟩ := keep2 _ _ keepE7 hEL hnE7
 have m8a := own0 (l8.own _ _ keepE7)
 have m8b := own1 (l8.own _ _ keepE7)
 have m9a := own0 keepE9
 have m9b := own1 keepE9
 simp only at m8a m8b m9a m9b
 have lw7 : aload Try.prog h7 38 ⟨L, c, none⟩ = some w := by rw [aload_one Try.underlying38 rfl R7.oL]; exact hw
 have lw8 : aload Try.prog h8 38 ⟨L, c, none⟩ = some w := by rw [aload_one Try.underlying38 rfl (l8.own _ _ R7.oL)]; exact hw
 have bs2 : aBuildSlice Try.prog h7 38 1 [(0, .int .i64 (a : Int))] = some (.slice (some ⟨h7.next, 0, none⟩) 1 1, h8) := by rw [mk1, e8]
 refine KDraw.intro mixed (.fl 0 (.fl 1 (.fl 2 (.fl 3 (.fl 4 (.fl 5 (.fl 6 (.fl 7 (.fl 8 (.fl 9 (.ch 10 [9] (.ch 11 [7, 10] (.fl 12 (.ch 13 [0, 1, 2, 3, 4, 5, 6, 7, 8, 9, 10, 11, 12] (.done) .no)) .no) .no))))))))))) (by kernel_rfl) ?_
 simp only [kS1, bLookup, bMapSet, wantA, isCall, stepOp, evalO, evalL, evalP, evalM, putDst, flat, kA, kB, Nat.reduceLT, ↓reduceIte, kC, Nat.reduceEqDiff, aBuiltin, abinG, guardFree, abin, aInt, aUn, aNilCheck, retQ, retQ1, aresults, aresultL, aresult, mkF, undefV, reduceCtorEq, kD, kE, kF, kG, kH, kI, kJ, kK, aExtract, calleeOf, kD1, Nat.reduceBEq, HoldsAll, kL, kM, kN, kO, pa0, pa1, aadd, Nat.zero_add, m7a, m7b, m8a, m8b, m9a, m9b, ixL _ c (by omega), lw7, lw8, bs2, e9, e10, awrap_succ i (by omega)]
 have : besStep (besM n (es.take i)) ((a : Int), (c : Int)) = ((besM n (es.take i)).set a (ra ++ [(c : Int)])).set c (rc ++ [(a : Int)]) := by
  simp only [besStep, Int.toNat_natCast, hga, hgc]
 rw [← this, ← besM_snoc, ← htk] at R10
 exact loop_again (es.length - (i + 1)) [(3, .slice (some ⟨L, 0, none⟩) n n), (13, ev), (14, .int .i64 es.length), (15, .int .i64 (i + 1 : Nat))] (by omega) (by simp only [hasAll, kS1, bLookup, bMapSet, wantA, isCall, stepOp, evalO, evalL, evalP, evalM, putDst, flat, kA, kB, Nat.reduceLT, ↓reduceIte, kC, Nat.reduceEqDiff, aBuiltin, abinG, guardFree, abin, aInt, aUn, aNilCheck, retQ, retQ1, aresults, aresultL, aresult, mkF, undefV, reduceCtorEq, kD, kE, kF, kG, kH, kI, kJ, kK, aExtract, calleeOf]; simp) ⟨i + 1, _, rfl, hlt, rfl, R10⟩
def isH (_ : AHeap) (v : Value) (n : Int) : Prop := v = .int .u16 n ∧ 0 ≤ n ∧ n < 65536
theorem Stays.isH : Stays Fw.isH := fun _ _ _ _ r _ => r
theorem RL.loadH {h : AHeap} {v : Value} {xs : List Int} (hv : RL isH h v xs) {e : TypeId} {d : TypeDesc} (hu : Try.prog.underlying e = some d) (hd : isAggD d = false) (i : Nat) (hi : i < xs.length) :
  aload Try.prog h e (elemAddr v i) = some (.int .u16 xs[i]) ∧ 0 ≤ xs[i] ∧ xs[i] < 65536 := by obtain ⟨u, h1, h2⟩ := hv.load hu hd i hi; exact ⟨by rw [h1, h2.1], h2.2⟩
theorem around_k {i len : Nat} {x : Int} (hi : i < len) (h0 : 0 ≤ x) : ∃ k : Nat, i ≤ k ∧ k < len ∧ (i : Int) + x.tmod ((len : Int) - (i : Int)) = (k : Int) := by
 obtain ⟨m, rfl⟩ := Int.eq_ofNat_of_zero_le h0
 have e : ((len : Int) - (i : Int)) = ((len - i : Nat) : Int) := by omega
 have := Nat.mod_lt m (show len - i > 0 by omega)
 refine ⟨i + m % (len - i), by omega, by omega, ?_⟩
 rw [e, tm_nat]; omega
theorem RotG.swap {n : Nat} {es : List Pr} {rs : List (List Int)} (G : RotG n es rs) {w : Nat} {r q : List Int} (hr : rs[w]? = some r) (hq : q.Perm r) : RotG n es (rs.set w q) := by
 refine ⟨by rw [List.length_set]; exact G.len, fun v hv => ?_⟩
 by_cases c : w = v
 ·subst c
  have hw := (List.getElem?_eq_some_iff.1 hr).1
  have e : (rs.set w q).getD w [] = q := by rw [List.getD_eq_getElem?_getD, List.getElem?_set_self hw]; rfl
  have e2 : rs.getD w [] = r := by rw [List.getD_eq_getElem?_getD, hr]; rfl
  rw [e]; exact hq.trans (by rw [← e2]; exact G.perm w hv)
 ·have e : (rs.set w q).getD v [] = rs.getD v [] := by rw [List.getD_eq_getElem?_getD, List.getElem?_set_ne c, ← List.getD_eq_getElem?_getD]
  rw [e]; exact G.perm v hv
theorem wrap_x {x : Int} (h0 : 0 ≤ x) (h1 : x < 65536) : awrap .i64 x = x := awrap_i64 _ (by omega) (by omega)
theorem wrap_d {m i : Nat} (h : i < m) (h1 : m ≤ 1188) : awrap .i64 ((m : Int) - (i : Int)) = (m : Int) - (i : Int) := awrap_i64 _ (by omega) (by omega)
theorem wrap_k {x : Int} {i m k : Nat} (h : (i : Int) + x.tmod ((m : Int) - (i : Int)) = (k : Int)) (hk : k < m) (hi : i < m) (h1 : m ≤ 1188) : awrap .i64 (x.tmod ((m : Int) - (i : Int))) = x.tmod ((m : Int) - (i : Int)) := awrap_i64 _ (by omega) (by omega)
theorem wrap_n {k m : Nat} (h : k < m) (h1 : m ≤ 1188) : awrap .i64 (k : Int) = (k : Int) := awrap_i64 _ (by omega) (by omega)
theorem cnt_b {c w i n : Nat} (h : c ≤ w * 2000 + i) (hw : w < n) (hi : i ≤ 1188) (hn : n ≤ 200) : c < 4611686018427387904 := by omega
theorem cnt_n {c w i : Nat} (h : c ≤ w * 2000 + i) (hi : i ≤ 1188) : c ≤ (w + 1) * 2000 := by omega
theorem cnt_s {c w i : Nat} (h : c ≤ w * 2000 + i) : c + 1 ≤ w * 2000 + (i + 1) := by omega
end Go.Fw
