/- A text of the proof. -/
import Derived.Test.YtnaahaldkpdjlaaFwLF13
import Derived.Test.YtnaahaldkpdjlaaFwLF9
set_option linter.unusedSimpArgs false
set_option linter.unusedVariables false
namespace Go.Fw
open Go.Proofs
attribute [local irreducible] KO4 KO3 KO2 KO1 KO KN KX KE VK KCond KDraw KCall KLoop
set_option maxHeartbeats 16000000
set_option maxRecDepth 10000
attribute [local instance] Classical.propDecidable
theorem AroundV_any (W0 : Base) (v ov : Value) (n : Nat) (es : List Pr) (os : List Int) (h : AHeap) (hg : GR h v ⟨(n : Int), es⟩) (ho : RL isH h ov os) (hr : RightG ⟨(n : Int), es⟩) :
  AC Try.prog W0 28 [v, ov] h fun x h' => ∃ rs L, RotG n es rs ∧ RL isG h' x rs ∧ Le h h' ∧ x = .slice (some ⟨L, 0, none⟩) n n := by
 have hg0 := hg
 obtain ⟨ev, rfl, hp⟩ := hg.open
 have h200 : (n : Int) ≤ 200 := hr.n1
 have h594 : es.length ≤ 594 := hr.len
 refine AC.vc (fn := Try.f28) (c := _) ⟨Try.func28, rfl, by decide⟩ Try.ntmps28 Try.results28 (by simp) fun hwf => ?_
 simp only [argFrame, argFrom, Nat.reduceAdd]
 obtain ⟨h1, b1, le1, wf1, -, lA⟩ := boxG (n := (n : Int)) hwf hp
 generalize h.next = B at *
 have lA1 := lA h1 (Le.refl _)
 simp only [kS1, bLookup, bMapSet, wantA, isCall, stepOp, evalO, evalL, evalP, evalM, putDst, flat, kA, kB, Nat.reduceLT, ↓reduceIte, kC, Nat.reduceEqDiff, aBuiltin, abinG, guardFree, abin, aInt, aUn, aNilCheck, retQ, retQ1, aresults, aresultL, aresult, mkF, undefV, reduceCtorEq, kD, kE, kF, kG, kH, kI, kJ, kK, aExtract, calleeOf, b1, lA1.1]
 refine KCall.intro (by simp only [kS1, bLookup, bMapSet, wantA, isCall, stepOp, evalO, evalL, evalP, evalM, putDst, flat, kA, kB, Nat.reduceLT, ↓reduceIte, kC, Nat.reduceEqDiff, aBuiltin, abinG, guardFree, abin, aInt, aUn, aNilCheck, retQ, retQ1, aresults, aresultL, aresult, mkF, undefV, reduceCtorEq, kD, kE, kF, kG, kH, kI, kJ, kK, aExtract, calleeOf] <;> rfl) ⟨Try.func55, rfl, by decide⟩ (Beside_rows W0 _ n es h1 (hg0.le le1) hr) ?_
 rintro rv h2 w2 ⟨b0, ⟨L, us, rfl, R⟩, l0⟩
 have lr : ∀ g m, aLen Try.prog g 52 (.slice (some ⟨L, 0, none⟩) m m) = some (.int .i64 m) := fun g m => aLenS Try.underlying52 g
 have l02 := le1.trans l0
 have hbl := besM_length n es
 have lo := fun g => ho.len (P := Try.prog) Try.underlying50 g
 have hrow : ∀ r ∈ besM n es, r.length ≤ 1188 := fun r hr' => by have := besM_rows n es r hr'; omega
 rw [hbl]
 simp only [kS1, bLookup, bMapSet, wantA, isCall, stepOp, evalO, evalL, evalP, evalM, putDst, flat, kA, kB, Nat.reduceLT, ↓reduceIte, kC, Nat.reduceEqDiff, aBuiltin, abinG, guardFree, abin, aInt, aUn, aNilCheck, retQ, retQ1, aresults, aresultL, aresult, mkF, undefV, reduceCtorEq, kD, kE, kF, kG, kH, kI, kJ, kK, aExtract, calleeOf, lr]
 refine KLoop.intro (fun k fr hq => ∃ (w c : Nat) (rs : List (List Int)), k = n - w ∧ w ≤ n ∧ fr = mkF [(1, ov), (5, .slice (some ⟨L, 0, none⟩) n n), (6, .int .i64 c), (13, .slice (some ⟨L, 0, none⟩) n n), (14, .int .i64 n), (15, .int .i64 w)] ∧
   c ≤ w * 2000 ∧ RotG n es rs ∧ Rows b0 hq L us rs ∧ Le h hq)
  n [(1, ov), (5, .slice (some ⟨L, 0, none⟩) n n), (6, .int .i64 (0 : Nat)), (13, .slice (some ⟨L, 0, none⟩) n n), (14, .int .i64 n), (15, .int .i64 (0 : Nat))] (by simp only [hasAll, kS1, bLookup, bMapSet, wantA, isCall, stepOp, evalO, evalL, evalP, evalM, putDst, flat, kA, kB, Nat.reduceLT, ↓reduceIte, kC, Nat.reduceEqDiff, aBuiltin, abinG, guardFree, abin, aInt, aUn, aNilCheck, retQ, retQ1, aresults, aresultL, aresult, mkF, undefV, reduceCtorEq, kD, kE, kF, kG, kH, kI, kJ, kK, aExtract, calleeOf]; simp)
  ⟨0, 0, _, rfl, Nat.zero_le _, rfl, Nat.zero_le _, ⟨hbl, fun v _ => List.Perm.refl _⟩, R, l02.trans R.le⟩ ?_
 clear R w2
 clear h2
 rintro k fr hq hwq ⟨w, c, rs, rfl, hw, rfl, hc, G, R, lq⟩
 simp only [kS1, bLookup, bMapSet, wantA, isCall, stepOp, evalO, evalL, evalP, evalM, putDst, flat, kA, kB, Nat.reduceLT, ↓reduceIte, kC, Nat.reduceEqDiff, aBuiltin, abinG, guardFree, abin, aInt, aUn, aNilCheck, retQ, retQ1, aresults, aresultL, aresult, mkF, undefV, reduceCtorEq, kD, kE, kF, kG, kH, kI, kJ, kK, aExtract, calleeOf]
 refine KCond.intro (fun ht => ?_) (fun hf => ?_)
 ·have hlt : w < n := lt_t ht
  clear ht
  have hwr : w < rs.length := by rw [G.len]; exact hlt
  have hwu : w < us.length := by rw [R.len]; exact hwr
  have hu := getElem?_of hwu
  generalize us[w] = u at hu
  have ad := aIdx (P := Try.prog) (a := ⟨L, 0, none⟩) (n := n) (cap := n) (k := .i64) Try.underlying52 Try.underlying38 (by kernel_rfl) w hlt
  simp only [aadd, Nat.zero_add, Nat.mul_one] at ad
  have ld : aload Try.prog hq 38 ⟨L, w, none⟩ = some u := by rw [aload_one Try.underlying38 rfl R.oL]; exact hu
  have hpl := (G.perm w hlt).length_eq
  have hr0 := getElem?_of hwr
  have hgd : rs.getD w [] = rs[w] := getD_of hwr
  have hlen : (rs[w]).length ≤ 1188 := by
   rw [← hgd, hpl]
   have hb : w < (besM n es).length := by rw [hbl]; exact hlt
   rw [getD_of hb]; exact hrow _ (List.getElem_mem hb)
  have lu := fun g => (RL.ofI (R.gs w u rs[w] hu hr0).cs.rs).len (P := Try.prog) Try.underlying38 g
  generalize hm : (rs[w]).length = m at *
  have hR0 : ∃ r, rs[w]? = some r ∧ r.length = m := ⟨_, hr0, hm⟩
  clear hr0 hgd hpl hm
  simp only [kS1, bLookup, bMapSet, wantA, isCall, stepOp, evalO, evalL, evalP, evalM, putDst, flat, kA, kB, Nat.reduceLT, ↓reduceIte, kC, Nat.reduceEqDiff, aBuiltin, abinG, guardFree, abin, aInt, aUn, aNilCheck, retQ, retQ1, aresults, aresultL, aresult, mkF, undefV, reduceCtorEq, kD, kE, kF, kG, kH, kI, kJ, kK, aExtract, calleeOf, ad, ld, lu]
  refine KLoop.intro (fun k fr hz => ∃ (i c : Nat) (rs : List (List Int)), k = m - i ∧ i ≤ m ∧ fr = mkF [(1, ov), (5, .slice (some ⟨L, 0, none⟩) n n), (6, .int .i64 c), (8, u), (13, .slice (some ⟨L, 0, none⟩) n n), (14, .int .i64 n), (15, .int .i64 w), (20, .int .i64 m), (21, .int .i64 i)] ∧
    c ≤ w * 2000 + i ∧ RotG n es rs ∧ Rows b0 hz L us rs ∧ Le h hz ∧ ∃ r, rs[w]? = some r ∧ r.length = m)
   m [(1, ov), (5, .slice (some ⟨L, 0, none⟩) n n), (6, .int .i64 c), (8, u), (13, .slice (some ⟨L, 0, none⟩) n n), (14, .int .i64 n), (15, .int .i64 w), (20, .int .i64 m), (21, .int .i64 (0 : Nat))] (by simp only [hasAll, kS1, bLookup, bMapSet, wantA, isCall, stepOp, evalO, evalL, evalP, evalM, putDst, flat, kA, kB, Nat.reduceLT, ↓reduceIte, kC, Nat.reduceEqDiff, aBuiltin, abinG, guardFree, abin, aInt, aUn, aNilCheck, retQ, retQ1, aresults, aresultL, aresult, mkF, undefV, reduceCtorEq, kD, kE, kF, kG, kH, kI, kJ, kK, aExtract, calleeOf]; simp)
   ⟨0, c, rs, rfl, Nat.zero_le _, rfl, hc, G, R, lq, hR0⟩ ?_
  clear hR0 lq R G hwq hc hwr ld
  clear hq rs c
  rintro k fr hz hwz ⟨i, c, rs, rfl, hi, rfl, hc, G, R, lz, r, hr', hrm⟩
  simp only [kS1, bLookup, bMapSet, wantA, isCall, stepOp, evalO, evalL, evalP, evalM, putDst, flat, kA, kB, Nat.reduceLT, ↓reduceIte, kC, Nat.reduceEqDiff, aBuiltin, abinG, guardFree, abin, aInt, aUn, aNilCheck, retQ, retQ1, aresults, aresultL, aresult, mkF, undefV, reduceCtorEq, kD, kE, kF, kG, kH, kI, kJ, kK, aExtract, calleeOf]
  refine KCond.intro (fun ht => ?_) (fun hf => ?_)
  ·have hit : i < m := lt_t ht
   clear ht
   simp only [kS1, bLookup, bMapSet, wantA, isCall, stepOp, evalO, evalL, evalP, evalM, putDst, flat, kA, kB, Nat.reduceLT, ↓reduceIte, kC, Nat.reduceEqDiff, aBuiltin, abinG, guardFree, abin, aInt, aUn, aNilCheck, retQ, retQ1, aresults, aresultL, aresult, mkF, undefV, reduceCtorEq, kD, kE, kF, kG, kH, kI, kJ, kK, aExtract, calleeOf, lo]
   by_cases c1 : (c : Int) < (os.length : Int)
   ·have hcl : c < os.length := by omega
    have ado := ho.addr (P := Try.prog) Try.underlying50 Try.underlying110 (by kernel_rfl) (k := .i64) c hcl
    obtain ⟨ldo, o0, o1⟩ := (ho.le Stays.isH lz).loadH Try.underlying110 rfl c hcl
    generalize os[c] = x at *
    obtain ⟨k, hik, hkm, hk⟩ := around_k hit o0
    have d : decide ((c : Int) < (os.length : Int)) = true := decide_eq_true c1
    have w1 := wrap_x o0 o1
    have w2 := wrap_d hit hlen
    have w3 := wrap_k hk hkm hit hlen
    have w4 := wrap_n hkm hlen
    have nz : ¬ ((m : Int) - (i : Int) = 0) := by omega
    have ru := RL.ofI (R.gs w u r hu hr').cs.rs
    have hri : i < r.length := by rw [hrm]; exact hit
    have hrk : k < r.length := by rw [hrm]; exact hkm
    have adi := ru.addr (P := Try.prog) Try.underlying38 Try.underlying3 (by kernel_rfl) (k := .i64) i hri
    have adk := ru.addr (P := Try.prog) Try.underlying38 Try.underlying3 (by kernel_rfl) (k := .i64) k hrk
    have ldi := ru.loadI (P := Try.prog) Try.underlying3 rfl i hri
    have ldk := ru.loadI (P := Try.prog) Try.underlying3 rfl k hrk
    obtain ⟨h5, e5, R5, w5, lf5, -⟩ := R.put hwz hu hr' hri r[k]
    have hr5 : (rs.set w (r.set i r[k]))[w]? = some (r.set i r[k]) := List.getElem?_set_self (List.getElem?_eq_some_iff.1 hr').1
    obtain ⟨h6, e6, R6, w6, lf6, -⟩ := R5.put w5 hu hr5 (i := k) (by rw [List.length_set]; exact hrk) r[i]
    rw [List.set_set] at R6
    have G6 := G.swap hr' (List.set_set_perm hri hrk)
    have hr6 : (rs.set w ((r.set i r[k]).set k r[i]))[w]? = some ((r.set i r[k]).set k r[i]) := List.getElem?_set_self (List.getElem?_eq_some_iff.1 hr').1
    have hl6 : ((r.set i r[k]).set k r[i]).length = m := by rw [List.length_set, List.length_set]; exact hrm
    have l6 : Le h h6 := l02.trans R6.le
    have hwc := awrap_succ c (cnt_b hc hlt (Nat.le_trans hi hlen) (by omega))
    have hwi := awrap_succ i (by omega)
    simp only [kS1, bLookup, bMapSet, wantA, isCall, stepOp, evalO, evalL, evalP, evalM, putDst, flat, kA, kB, Nat.reduceLT, ↓reduceIte, kC, Nat.reduceEqDiff, aBuiltin, abinG, guardFree, abin, aInt, aUn, aNilCheck, retQ, retQ1, aresults, aresultL, aresult, mkF, undefV, reduceCtorEq, kD, kE, kF, kG, kH, kI, kJ, kK, aExtract, calleeOf, d, ado, ldo, lu, aConvert, Try.underlying110, Try.underlying3, w1, w2, nz, w3, hk, w4]
    refine KDraw.intro mixed (.fl 0 (.fl 1 (.fl 2 (.fl 3 (.fl 4 (.fl 5 (.fl 6 (.fl 7 (.fl 8 (.fl 9 (.fl 10 (.fl 11 (.fl 12 (.ch 13 [0, 1, 4, 5, 6, 7, 11, 12] (.fl 14 (.ch 15 [0, 1, 2, 3, 4, 5, 6, 7, 8, 9, 10, 11, 12, 13, 14] (.done) .no)) .no)))))))))))))) (by kernel_rfl) ?_
    simp only [kS1, bLookup, bMapSet, wantA, isCall, stepOp, evalO, evalL, evalP, evalM, putDst, flat, kA, kB, Nat.reduceLT, ↓reduceIte, kC, Nat.reduceEqDiff, aBuiltin, abinG, guardFree, abin, aInt, aUn, aNilCheck, retQ, retQ1, aresults, aresultL, aresult, mkF, undefV, reduceCtorEq, kD, kE, kF, kG, kH, kI, kJ, kK, aExtract, calleeOf, kD1, Nat.reduceBEq, HoldsAll, kL, kM, kN, kO, adi, adk, ldi, ldk, e5, e6, hwc, hwi]
    exact loop_again (m - (i + 1)) [(1, ov), (5, .slice (some ⟨L, 0, none⟩) n n), (6, .int .i64 (c + 1 : Nat)), (8, u), (13, .slice (some ⟨L, 0, none⟩) n n), (14, .int .i64 n), (15, .int .i64 w), (20, .int .i64 m), (21, .int .i64 (i + 1 : Nat))] (stp hit) (by simp only [hasAll, kS1, bLookup, bMapSet, wantA, isCall, stepOp, evalO, evalL, evalP, evalM, putDst, flat, kA, kB, Nat.reduceLT, ↓reduceIte, kC, Nat.reduceEqDiff, aBuiltin, abinG, guardFree, abin, aInt, aUn, aNilCheck, retQ, retQ1, aresults, aresultL, aresult, mkF, undefV, reduceCtorEq, kD, kE, kF, kG, kH, kI, kJ, kK, aExtract, calleeOf]; simp)
     ⟨i + 1, c + 1, _, rfl, hit, rfl, cnt_s hc, G6, R6, l6, _, hr6, hl6⟩
   ·have d : decide ((c : Int) < (os.length : Int)) = false := decide_eq_false c1
    have hwc := awrap_succ c (cnt_b hc hlt (Nat.le_trans hi hlen) (by omega))
    have hwi := awrap_succ i (by omega)
    simp only [kS1, bLookup, bMapSet, wantA, isCall, stepOp, evalO, evalL, evalP, evalM, putDst, flat, kA, kB, Nat.reduceLT, ↓reduceIte, kC, Nat.reduceEqDiff, aBuiltin, abinG, guardFree, abin, aInt, aUn, aNilCheck, retQ, retQ1, aresults, aresultL, aresult, mkF, undefV, reduceCtorEq, kD, kE, kF, kG, kH, kI, kJ, kK, aExtract, calleeOf, d, hwc, hwi]
    exact loop_again (m - (i + 1)) [(1, ov), (5, .slice (some ⟨L, 0, none⟩) n n), (6, .int .i64 (c + 1 : Nat)), (8, u), (13, .slice (some ⟨L, 0, none⟩) n n), (14, .int .i64 n), (15, .int .i64 w), (20, .int .i64 m), (21, .int .i64 (i + 1 : Nat))] (stp hit) (by simp only [hasAll, kS1, bLookup, bMapSet, wantA, isCall, stepOp, evalO, evalL, evalP, evalM, putDst, flat, kA, kB, Nat.reduceLT, ↓reduceIte, kC, Nat.reduceEqDiff, aBuiltin, abinG, guardFree, abin, aInt, aUn, aNilCheck, retQ, retQ1, aresults, aresultL, aresult, mkF, undefV, reduceCtorEq, kD, kE, kF, kG, kH, kI, kJ, kK, aExtract, calleeOf]; simp)
     ⟨i + 1, c + 1, _, rfl, hit, rfl, cnt_s hc, G, R, lz, _, hr', hrm⟩
  ·have hwn := awrap_succ w (by omega)
   simp only [kS1, bLookup, bMapSet, wantA, isCall, stepOp, evalO, evalL, evalP, evalM, putDst, flat, kA, kB, Nat.reduceLT, ↓reduceIte, kC, Nat.reduceEqDiff, aBuiltin, abinG, guardFree, abin, aInt, aUn, aNilCheck, retQ, retQ1, aresults, aresultL, aresult, mkF, undefV, reduceCtorEq, kD, kE, kF, kG, kH, kI, kJ, kK, aExtract, calleeOf, hwn]
   exact loop_again (n - (w + 1)) [(1, ov), (5, .slice (some ⟨L, 0, none⟩) n n), (6, .int .i64 c), (13, .slice (some ⟨L, 0, none⟩) n n), (14, .int .i64 n), (15, .int .i64 (w + 1 : Nat))] (stp hlt) (by simp only [hasAll, kS1, bLookup, bMapSet, wantA, isCall, stepOp, evalO, evalL, evalP, evalM, putDst, flat, kA, kB, Nat.reduceLT, ↓reduceIte, kC, Nat.reduceEqDiff, aBuiltin, abinG, guardFree, abin, aInt, aUn, aNilCheck, retQ, retQ1, aresults, aresultL, aresult, mkF, undefV, reduceCtorEq, kD, kE, kF, kG, kH, kI, kJ, kK, aExtract, calleeOf]; simp)
    ⟨w + 1, c, _, rfl, hlt, rfl, cnt_n hc (Nat.le_trans hi hlen), G, R, lz⟩
 have hge : n ≤ w := lt_f hf
 simp only [kS1, bLookup, bMapSet, wantA, isCall, stepOp, evalO, evalL, evalP, evalM, putDst, flat, kA, kB, Nat.reduceLT, ↓reduceIte, kC, Nat.reduceEqDiff, aBuiltin, abinG, guardFree, abin, aInt, aUn, aNilCheck, retQ, retQ1, aresults, aresultL, aresult, mkF, undefV, reduceCtorEq, kD, kE, kF, kG, kH, kI, kJ, kK, aExtract, calleeOf]
 have rl := R.rlG (n := n) (c := n) (by rw [R.len, G.len])
 exact ⟨rs, L, G, rl, lq, rfl⟩
structure CopyP (h0 h : AHeap) (x : Value) (us : List Value) (rs : List (List Int)) : Prop where
 sl : GS 1 h x us.length us
 one : us.all (·.oneCell') = true
 len : us.length = rs.length
 gs : ∀ (i : Nat) u r, us[i]? = some u → rs[i]? = some r → GI h u r
 nx : ∀ (i : Nat) u b, us[i]? = some u → blk u = some b → blk x ≠ some b
 dis : ∀ (i j : Nat) u u' b, i ≠ j → us[i]? = some u → us[j]? = some u' → blk u = some b → blk u' ≠ some b
 ax : Apart h0 x
 au : ∀ (i : Nat) u, us[i]? = some u → Apart h0 u
 le : Le h0 h
def InC (x : Value) (us : List Value) (b : Nat) : Prop := blk x = some b ∨ ∃ (i : Nat) (u : Value), us[i]? = some u ∧ blk u = some b
theorem CopyP.rl {h0 h : AHeap} {x : Value} {us : List Value} {rs : List (List Int)} (C : CopyP h0 h x us rs) : RL (RL isI) h x rs :=
 ⟨us, (GS.cs C.sl).rs, C.len, fun i r u hr hu => (C.gs i u r hu hr).rl⟩
theorem CopyP.own {h0 h : AHeap} {x : Value} {us : List Value} {rs : List (List Int)} (C : CopyP h0 h x us rs) {b : Nat} (hb : InC x us b) : h.own b ≠ none := by
 rcases hb with hb | ⟨i, u, hu, hb⟩
 ·exact GS.blk_own C.sl hb
 ·have hl : i < rs.length := by rw [← C.len]; exact (List.getElem?_eq_some_iff.1 hu).1
  exact GS.blk_own (C.gs i u _ hu (getElem?_of hl)) hb
theorem CopyP.apart {h0 h : AHeap} {x : Value} {us : List Value} {rs : List (List Int)} (C : CopyP h0 h x us rs) {b : Nat} (hb : InC x us b) : h0.own b = none := by
 rcases hb with hb | ⟨i, u, hu, hb⟩
 ·exact C.ax b hb
 ·exact C.au i u hu b hb
theorem CopyP.kept {h0 h h' : AHeap} {x : Value} {us : List Value} {rs : List (List Int)} (C : CopyP h0 h x us rs) (hk : ∀ b o, InC x us b → h.own b = some o → h'.own b = some o) (l : Le h0 h') : CopyP h0 h' x us rs :=
 ⟨GS.kept C.sl fun b o hb ho => hk b o (.inl hb) ho, C.one, C.len, fun i u r hu hr => GS.kept (C.gs i u r hu hr) fun b o hb ho => hk b o (.inr ⟨i, u, hu, hb⟩) ho, C.nx, C.dis, C.ax, C.au, l⟩
theorem CopyP.mono {h0 h h' : AHeap} {x : Value} {us : List Value} {rs : List (List Int)} (C : CopyP h0 h x us rs) (l : Le h h') : CopyP h0 h' x us rs := C.kept (fun b o _ ho => l.own b o ho) (C.le.trans l)
theorem CopyP.nil (h0 : AHeap) : CopyP h0 h0 (.slice none 0 0) [] [] :=
 ⟨GS.nil 1 h0, rfl, rfl, fun i u r hu => by simp at hu, fun i u b hu => by simp at hu, fun i j u u' b _ hu => by simp at hu, fun b hb => by simp [blk] at hb, fun i u hu => by simp at hu, Le.refl _⟩
theorem CopyP.push {h0 h : AHeap} {x : Value} {us : List Value} {rs : List (List Int)} (C : CopyP h0 h x us rs) (hwf : WF h) {u : Value} {r : List Int} (g : GI h u r) (ag : Apart h0 u) (au : ∀ b, blk u = some b → ¬ InC x us b) (hn : rs.length ≤ 100000) :
  ∃ h4 x' h5, h.alloc (.cells [u]) = h4 ∧ aAppend Try.prog h4 52 52 x (.slice (some ⟨h.next, 0, none⟩) 1 1) = some (x', h5) ∧ CopyP h0 h5 x' (us ++ [u]) (rs ++ [r]) ∧ WF h5 := by
 obtain ⟨h4, e4, l4, w4, o4⟩ := alloc_f hwf [u]
 have u1 : u.oneCell' = true := g.rl.sl.one
 obtain ⟨x', h5, e5, g5, f5⟩ := GS.push (P := Try.prog) (t := 52) (by kernel_rfl) (GS.le C.sl l4) o4 C.one u1 (by rw [C.len]; omega)
 have k5 := fun b o ho hb => keep_own (a := b) (o := o) (h := h4) (h' := h5) (v := x) (v' := x') f5 w4 ho hb
 obtain ⟨l5, a5⟩ := f5 h0 w4 (C.le.trans l4) C.ax
 have hg : ∀ (i : Nat) v q, (us ++ [u])[i]? = some v → (rs ++ [r])[i]? = some q → GI h v q ∧ (∀ b, blk v = some b → blk x ≠ some b) := fun i v q hv hq => by
  by_cases c : i < us.length
  ·rw [List.getElem?_append_left c] at hv
   rw [List.getElem?_append_left (by rw [← C.len]; exact c)] at hq
   exact ⟨C.gs i v q hv hq, fun b hb => C.nx i v b hv hb⟩
  ·rw [List.getElem?_append_right (by omega)] at hv
   rw [List.getElem?_append_right (by rw [← C.len]; omega)] at hq
   have hi : i - us.length = 0 := by
    have := (List.getElem?_eq_some_iff.1 hv).1
    simp at this; omega
   rw [hi] at hv
   rw [← C.len, hi] at hq
   simp at hv hq
   subst hv hq
   exact ⟨g, fun b hb e => au b hb (.inl e)⟩
 have hrl : ∀ (i : Nat) v, (us ++ [u])[i]? = some v → ∃ q, (rs ++ [r])[i]? = some q := fun i v hv => ⟨_, getElem?_of (by have := (List.getElem?_eq_some_iff.1 hv).1; simp at this ⊢; rw [← C.len]; exact this)⟩
 refine ⟨h4, x', h5, e4, e5, ⟨?_, ?_, by simp [C.len], fun i v q hv hq => ?_, fun i v b hv hb => ?_, fun i j v v' b hij hv hv' hb => ?_, a5, fun i v hv => ?_, l5⟩, aAppend_wf w4 e5⟩
 ·rw [List.length_append]; exact g5
 ·rw [List.all_append, C.one]; simp [u1]
 ·obtain ⟨g1, n1⟩ := hg i v q hv hq
  exact GS.kept g1 fun b o hb ho => (k5 b o (l4.own _ _ ho) (n1 b hb)).1
 ·obtain ⟨q, hq⟩ := hrl i v hv
  obtain ⟨g1, n1⟩ := hg i v q hv hq
  have := GS.blk_own g1 hb
  cases ho : h.own b with
  | none => exact absurd ho this
  | some o => exact (k5 b o (l4.own _ _ ho) (n1 b hb)).2
 ·have q : ∀ (i : Nat) v, (us ++ [u])[i]? = some v → (i < us.length ∧ us[i]? = some v) ∨ (i = us.length ∧ v = u) := fun i v hv => by
   by_cases c : i < us.length
   ·rw [List.getElem?_append_left c] at hv; exact .inl ⟨c, hv⟩
   ·rw [List.getElem?_append_right (by omega)] at hv
    have hi : i - us.length = 0 := by
     have := (List.getElem?_eq_some_iff.1 hv).1
     simp at this; omega
    rw [hi] at hv; simp at hv
    exact .inr ⟨by omega, hv.symm⟩
  rcases q i v hv with ⟨_, h1⟩ | ⟨h1, rfl⟩
  ·rcases q j v' hv' with ⟨_, h2⟩ | ⟨_, rfl⟩
   ·exact C.dis i j v v' b hij h1 h2 hb
   ·exact fun e => au b e (.inr ⟨i, v, h1, hb⟩)
  ·rcases q j v' hv' with ⟨_, h2⟩ | ⟨h2, _⟩
   ·exact fun e => au b hb (.inr ⟨j, v', h2, e⟩)
   ·omega
 ·by_cases c : i < us.length
  ·rw [List.getElem?_append_left c] at hv; exact C.au i v hv
  ·rw [List.getElem?_append_right (by omega)] at hv
   have hi : i - us.length = 0 := by
    have := (List.getElem?_eq_some_iff.1 hv).1
    simp at this; omega
   rw [hi] at hv; simp at hv
   subst hv; exact ag
theorem CopyV_any (W0 : Base) (v : Value) (rs : List (List Int)) (h : AHeap) (hv : RL (RL isI) h v rs) (hn : rs.length ≤ 100000) (hl : ∀ l ∈ rs, l.length ≤ 100000) : AC Try.prog W0 35 [v] h fun x h' => ∃ us, CopyP h h' x us rs := by
 refine AC.vc (fn := Try.f35) (c := _) ⟨Try.func35, rfl, by decide⟩ Try.ntmps35 Try.results35 (by simp) fun hwf => ?_
 simp only [argFrame, argFrom, Nat.reduceAdd]
 have lr := fun g => hv.len (P := Try.prog) Try.underlying52 g
 simp only [kS1, bLookup, bMapSet, wantA, isCall, stepOp, evalO, evalL, evalP, evalM, putDst, flat, kA, kB, Nat.reduceLT, ↓reduceIte, kC, Nat.reduceEqDiff, aBuiltin, abinG, guardFree, abin, aInt, aUn, aNilCheck, retQ, retQ1, aresults, aresultL, aresult, mkF, undefV, reduceCtorEq, kD, kE, kF, kG, kH, kI, kJ, kK, aExtract, calleeOf, lr]
 refine KLoop.intro (fun k fr hq => ∃ (i : Nat) (ov : Value) (us : List Value), k = rs.length - i ∧ i ≤ rs.length ∧ fr = mkF [(3, ov), (6, v), (7, .int .i64 rs.length), (8, .int .i64 i)] ∧ CopyP h hq ov us (rs.take i))
  rs.length [(3, .slice none 0 0), (6, v), (7, .int .i64 rs.length), (8, .int .i64 (0 : Nat))] (by simp only [hasAll, kS1, bLookup, bMapSet, wantA, isCall, stepOp, evalO, evalL, evalP, evalM, putDst, flat, kA, kB, Nat.reduceLT, ↓reduceIte, kC, Nat.reduceEqDiff, aBuiltin, abinG, guardFree, abin, aInt, aUn, aNilCheck, retQ, retQ1, aresults, aresultL, aresult, mkF, undefV, reduceCtorEq, kD, kE, kF, kG, kH, kI, kJ, kK, aExtract, calleeOf]; simp) ⟨0, _, [], rfl, Nat.zero_le _, rfl, CopyP.nil h⟩ ?_
 rintro k fr hq hwq ⟨i, ov, us, rfl, hi, rfl, C⟩
 simp only [kS1, bLookup, bMapSet, wantA, isCall, stepOp, evalO, evalL, evalP, evalM, putDst, flat, kA, kB, Nat.reduceLT, ↓reduceIte, kC, Nat.reduceEqDiff, aBuiltin, abinG, guardFree, abin, aInt, aUn, aNilCheck, retQ, retQ1, aresults, aresultL, aresult, mkF, undefV, reduceCtorEq, kD, kE, kF, kG, kH, kI, kJ, kK, aExtract, calleeOf]
 refine KCond.intro (fun ht => ?_) (fun hf => ?_)
 ·have hlt : i < rs.length := lt_t ht
  clear ht
  have ar := hv.addr (P := Try.prog) Try.underlying52 Try.underlying38 (by kernel_rfl) (k := .i64) i hlt
  obtain ⟨u, lu', hu⟩ := hv.load' (P := Try.prog) Try.underlying38 rfl i hlt
  have lu := lu' hq C.le
  have htk : rs.take (i + 1) = rs.take i ++ [rs[i]] := List.take_succ_eq_append_getElem hlt
  have hll := hl _ (List.getElem_mem hlt)
  generalize rs[i] = r at *
  simp only [kS1, bLookup, bMapSet, wantA, isCall, stepOp, evalO, evalL, evalP, evalM, putDst, flat, kA, kB, Nat.reduceLT, ↓reduceIte, kC, Nat.reduceEqDiff, aBuiltin, abinG, guardFree, abin, aInt, aUn, aNilCheck, retQ, retQ1, aresults, aresultL, aresult, mkF, undefV, reduceCtorEq, kD, kE, kF, kG, kH, kI, kJ, kK, aExtract, calleeOf, ar, lu]
  refine KCall.intro (by simp only [kS1, bLookup, bMapSet, wantA, isCall, stepOp, evalO, evalL, evalP, evalM, putDst, flat, kA, kB, Nat.reduceLT, ↓reduceIte, kC, Nat.reduceEqDiff, aBuiltin, abinG, guardFree, abin, aInt, aUn, aNilCheck, retQ, retQ1, aresults, aresultL, aresult, mkF, undefV, reduceCtorEq, kD, kE, kF, kG, kH, kI, kJ, kK, aExtract, calleeOf] <;> rfl) ⟨Try.func29, rfl, by decide⟩ (CopyInts_any W0 u r hq (hu.le Stays.isI C.le) hll) ?_
  rintro cv h2 w2 ⟨gc, l2, ac⟩
  have C2 := C.mono l2
  obtain ⟨h4, pv', h5, e4, e5, C5, w5⟩ := C2.push w2 gc (fun b hb => C.le.none (ac b hb)) (fun b hb hm => C.own hm (ac b hb)) (by rw [List.length_take]; omega)
  have hw := awrap_succ i (by omega)
  have bs : aBuildSlice Try.prog h2 52 1 [(0, cv)] = some (.slice (some ⟨h2.next, 0, none⟩) 1 1, h4) := by rw [mkR h2 gc.rl.sl, e4]
  simp only [kS1, bLookup, bMapSet, wantA, isCall, stepOp, evalO, evalL, evalP, evalM, putDst, flat, kA, kB, Nat.reduceLT, ↓reduceIte, kC, Nat.reduceEqDiff, aBuiltin, abinG, guardFree, abin, aInt, aUn, aNilCheck, retQ, retQ1, aresults, aresultL, aresult, mkF, undefV, reduceCtorEq, kD, kE, kF, kG, kH, kI, kJ, kK, aExtract, calleeOf, bs, e5, hw]
  exact loop_again (rs.length - (i + 1)) [(3, pv'), (6, v), (7, .int .i64 rs.length), (8, .int .i64 (i + 1 : Nat))] (stp hlt) (by simp only [hasAll, kS1, bLookup, bMapSet, wantA, isCall, stepOp, evalO, evalL, evalP, evalM, putDst, flat, kA, kB, Nat.reduceLT, ↓reduceIte, kC, Nat.reduceEqDiff, aBuiltin, abinG, guardFree, abin, aInt, aUn, aNilCheck, retQ, retQ1, aresults, aresultL, aresult, mkF, undefV, reduceCtorEq, kD, kE, kF, kG, kH, kI, kJ, kK, aExtract, calleeOf]; simp) ⟨i + 1, pv', _, rfl, hlt, rfl, by rw [htk]; exact C5⟩
 ·have hge : rs.length ≤ i := lt_f hf
  rw [List.take_of_length_le hge] at C
  simp only [kS1, bLookup, bMapSet, wantA, isCall, stepOp, evalO, evalL, evalP, evalM, putDst, flat, kA, kB, Nat.reduceLT, ↓reduceIte, kC, Nat.reduceEqDiff, aBuiltin, abinG, guardFree, abin, aInt, aUn, aNilCheck, retQ, retQ1, aresults, aresultL, aresult, mkF, undefV, reduceCtorEq, kD, kE, kF, kG, kH, kI, kJ, kK, aExtract, calleeOf]
  exact ⟨us, C⟩
end Go.Fw
