/- A text of the proof. -/
import Derived.Test.YtmgcmoifdnkaoaaFwLT12
set_option linter.unusedSimpArgs false
set_option linter.unusedVariables false
namespace Go.Fw
open Go.Proofs
attribute [local irreducible] KO4 KO3 KO2 KO1 KO KN KX KE VK KCond KDraw KCall KLoop
set_option maxHeartbeats 16000000
set_option maxRecDepth 10000
theorem sub_step {a j : Nat} (h : j < a) : a - (j + 1) < a - j := by omega
theorem wrapS {j m : Nat} (h : j < m) (hm : m ≤ 1000) : awrap .i64 ((j : Int) + 1) = ((j + 1 : Nat) : Int) := awrap_succ j (by omega)
theorem wrapA {b y n : Nat} (h : b + y < n) (hm : n ≤ 1000) : awrap .i64 ((b : Int) + (y : Int)) = ((b + y : Nat) : Int) := by rw [awrap_i64 _ (by omega) (by omega)]; omega
theorem wrapS' {j m : Nat} (h : j < m) (hm : m ≤ 1000) : awrap .i64 ((j : Int) + 1) = (j : Int) + 1 := awrap_i64 _ (by omega) (by omega)
def linkS (b : Nat) (far : Int) (L : List Int) (p : Pr) : List Int :=
 let L1 := if L.getD p.1.toNat 0 = far ∧ L.getD (b + p.2.toNat) 0 < 0 then L.set (b + p.2.toNat) (far + 1) else L
 if L1.getD (b + p.2.toNat) 0 = far ∧ L1.getD p.1.toNat 0 < 0 then L1.set p.1.toNat (far + 1) else L1
theorem linkS_length (b : Nat) (far : Int) (L : List Int) (p : Pr) : (linkS b far L p).length = L.length := by
 simp only [linkS]; split <;> split <;> simp
theorem round_length (b : Nat) (far : Int) : ∀ (ls : List Pr) (L : List Int), (ls.foldl (linkS b far) L).length = L.length
 | [], L => rfl
 | p :: ls, L => by rw [List.foldl_cons, round_length b far ls, linkS_length]
def roundM (b : Nat) (ls : List Pr) (L : List Int) (far : Nat) : List Int := ls.foldl (linkS b (far : Int)) L
def awayK (b n : Nat) (ls : List Pr) (s k : Nat) : List Int := (List.range k).foldl (roundM b ls) ((List.replicate n (-1)).set s 0)
theorem awayK_succ (b n : Nat) (ls : List Pr) (s k : Nat) : awayK b n ls s (k + 1) = roundM b ls (awayK b n ls s k) k := by simp [awayK, List.range_succ]
theorem awayK_length (b n : Nat) (ls : List Pr) (s : Nat) : ∀ k, (awayK b n ls s k).length = n
 | 0 => by simp [awayK]
 | k + 1 => by rw [awayK_succ, roundM, round_length, awayK_length]
def awayM (b n : Nat) (ls : List Pr) (s : Nat) : List Int := awayK b n ls s n
def maxL (L : List Int) : Int := L.foldl max 0
structure LinkOK (b n : Nat) (p : Pr) : Prop where
 x0 : 0 ≤ p.1
 x1 : p.1 < (b : Int)
 y0 : 0 ≤ p.2
 y1 : (b : Int) + p.2 < (n : Int)
structure GoodT (b n : Nat) (ls : List Pr) : Prop where
 n0 : n ≠ 0
 len : ls.length + 1 = n
 ok : ∀ p ∈ ls, LinkOK b n p
 nd : ls.Nodup
 all : ∀ s, s < n → ∀ x ∈ awayM b n ls s, 0 ≤ x
def depK (b n : Nat) (ls : List Pr) (k : Nat) : List Int := (List.range k).map fun s => maxL (awayM b n ls s)
theorem depK_succ (b n : Nat) (ls : List Pr) (k : Nat) : depK b n ls (k + 1) = depK b n ls k ++ [maxL (awayM b n ls k)] := by simp [depK, List.range_succ]
theorem Depths_any (W0 : Base) (v : Value) (T : TM) (h : AHeap) (hv : TR h v T) (n : Nat) (hn : n = T.bs.length + T.cs.length) (h1 : n ≤ 1000) (h2 : T.ls.length ≤ 100000) :
  AC Try.prog W0 80 [v] h fun x h' => Le h h' ∧ ((¬ GoodT T.bs.length n T.ls ∧ x = .tuple #[.slice none 0 0, .bool false]) ∨ (GoodT T.bs.length n T.ls ∧ ∃ dv, x = .tuple #[dv, .bool true] ∧ RL isI h' dv (depK T.bs.length n T.ls n))) := by
 obtain ⟨bs, cs, ls⟩ := T
 obtain ⟨bv, cv, lv, rfl, hb, hc, hl⟩ := hv
 simp only at hn h2 hb hc hl ⊢
 refine AC.vc (fn := Try.f80) (c := _) ⟨Try.func80, rfl, by decide⟩ Try.ntmps80 Try.results80 (by simp) fun hwf => ?_
 simp only [argFrame, argFrom, Nat.reduceAdd]
 obtain ⟨h3, e3, l3, w3, lA⟩ := boxT (T := ⟨bs, cs, ls⟩) hwf hb hc hl
 generalize h.next = B at *
 have fA := lA h3 (Le.refl _)
 have lb := fun g => hb.len (P := Try.prog) Try.underlying38 g
 have lc := fun g => hc.len (P := Try.prog) Try.underlying35 g
 have ll := fun g => hl.len g
 generalize hbl : bs.length = b at *
 have hw : awrap .i64 ((b : Int) + (cs.length : Int)) = (n : Int) := by rw [awrap_i64 _ (by omega) (by omega)]; omega
 have hnb : awrap .i64 ((n : Int) - (b : Int)) = (n : Int) - (b : Int) := awrap_i64 _ (by omega) (by omega)
 simp only [kS1, bLookup, bMapSet, wantA, isCall, stepOp, evalO, evalL, evalP, evalM, putDst, flat, kA, kB, Nat.reduceLT, ↓reduceIte, kC, Nat.reduceEqDiff, aBuiltin, abinG, guardFree, abin, aInt, aUn, aNilCheck, retQ, retQ1, aresults, aresultL, aresult, mkF, undefV, reduceCtorEq, kD, kE, kF, kG, kH, kI, kJ, kK, aExtract, calleeOf, e3, tf0, tf1, aadd, Nat.zero_add, fA.2.1, fA.2.2.1, lb, lc, hw]
 by_cases c0 : (n : Int) = 0
 ·have d0 : decide ((n : Int) = 0) = true := decide_eq_true c0
  simp only [kS1, bLookup, bMapSet, wantA, isCall, stepOp, evalO, evalL, evalP, evalM, putDst, flat, kA, kB, Nat.reduceLT, ↓reduceIte, kC, Nat.reduceEqDiff, aBuiltin, abinG, guardFree, abin, aInt, aUn, aNilCheck, retQ, retQ1, aresults, aresultL, aresult, mkF, undefV, reduceCtorEq, kD, kE, kF, kG, kH, kI, kJ, kK, aExtract, calleeOf, d0]
  exact ⟨l3, .inl ⟨fun G => G.n0 (by omega), trivial⟩⟩
 have d0 : decide ((n : Int) = 0) = false := decide_eq_false c0
 have hn1 : awrap .i64 ((n : Int) - 1) = (n : Int) - 1 := awrap_i64 _ (by omega) (by omega)
 by_cases c1 : (ls.length : Int) = (n : Int) - 1
 rotate_left
 ·have d1 : decide ((ls.length : Int) = (n : Int) - 1) = false := decide_eq_false c1
  simp only [kS1, bLookup, bMapSet, wantA, isCall, stepOp, evalO, evalL, evalP, evalM, putDst, flat, kA, kB, Nat.reduceLT, ↓reduceIte, kC, Nat.reduceEqDiff, aBuiltin, abinG, guardFree, abin, aInt, aUn, aNilCheck, retQ, retQ1, aresults, aresultL, aresult, mkF, undefV, reduceCtorEq, kD, kE, kF, kG, kH, kI, kJ, kK, aExtract, calleeOf, d0, tf2, aadd, Nat.zero_add, fA.2.2.2, ll, hn1, bne, d1]
  exact ⟨l3, .inl ⟨fun G => c1 (by have := G.len; omega), trivial⟩⟩
 have d1 : decide ((ls.length : Int) = (n : Int) - 1) = true := decide_eq_true c1
 simp only [kS1, bLookup, bMapSet, wantA, isCall, stepOp, evalO, evalL, evalP, evalM, putDst, flat, kA, kB, Nat.reduceLT, ↓reduceIte, kC, Nat.reduceEqDiff, aBuiltin, abinG, guardFree, abin, aInt, aUn, aNilCheck, retQ, retQ1, aresults, aresultL, aresult, mkF, undefV, reduceCtorEq, kD, kE, kF, kG, kH, kI, kJ, kK, aExtract, calleeOf, d0, tf2, aadd, Nat.zero_add, fA.2.2.2, ll, hn1, bne, d1]
 have hll : ls.length ≤ 1000 := by omega
 -- the links are right, and unlike
 refine KLoop.intro (fun k fr hq => ∃ (i : Nat), k = ls.length - i ∧ i ≤ ls.length ∧ fr = mkF [(1, .pointer (some ⟨B, 0, none⟩)), (4, .int .i64 b), (5, .int .i64 n), (6, .int .i64 i)] ∧ (∀ p ∈ ls.take i, LinkOK b n p) ∧ (ls.take i).Nodup ∧ Le h3 hq)
  ls.length [(1, .pointer (some ⟨B, 0, none⟩)), (4, .int .i64 b), (5, .int .i64 n), (6, .int .i64 (0 : Nat))] (by simp only [hasAll, kS1, bLookup, bMapSet, wantA, isCall, stepOp, evalO, evalL, evalP, evalM, putDst, flat, kA, kB, Nat.reduceLT, ↓reduceIte, kC, Nat.reduceEqDiff, aBuiltin, abinG, guardFree, abin, aInt, aUn, aNilCheck, retQ, retQ1, aresults, aresultL, aresult, mkF, undefV, reduceCtorEq, kD, kE, kF, kG, kH, kI, kJ, kK, aExtract, calleeOf]; simp)
  ⟨0, rfl, Nat.zero_le _, rfl, by simp, by simp, Le.refl _⟩ ?_
 rintro k fr hq hwq ⟨i, rfl, hi, rfl, hok, hnd, leq⟩
 have fq := lA hq leq
 simp only [kS1, bLookup, bMapSet, wantA, isCall, stepOp, evalO, evalL, evalP, evalM, putDst, flat, kA, kB, Nat.reduceLT, ↓reduceIte, kC, Nat.reduceEqDiff, aBuiltin, abinG, guardFree, abin, aInt, aUn, aNilCheck, retQ, retQ1, aresults, aresultL, aresult, mkF, undefV, reduceCtorEq, kD, kE, kF, kG, kH, kI, kJ, kK, aExtract, calleeOf, tf2, aadd, Nat.zero_add, fq.2.2.2, ll]
 refine KCond.intro (fun ht => ?_) (fun hf => ?_)
 ·have hlt : i < ls.length := lt_t ht
  clear ht
  have hpi := getElem?_of hlt
  have htk : ls.take (i + 1) = ls.take i ++ [ls[i]] := List.take_succ_eq_append_getElem hlt
  have hpm := List.getElem_mem hlt
  generalize ls[i] = p at *
  have ad := hl.addr (k := .i64) i hlt
  have ld := (hl.le (l3.trans leq)).load hpi
  obtain ⟨h7', h7, e7, e7s, l7, w7, o7⟩ := new42 hwq p
  generalize hq.next = E at *
  have m0 := own0 o7
  have m1 := own1 o7
  have le7 := leq.trans l7
  have bad : ¬ LinkOK b n p → ¬ GoodT b n ls := fun hno G => hno (G.ok p hpm)
  by_cases q1 : p.1 < 0
  ·have d : decide (p.1 < 0) = true := decide_eq_true q1
   simp only [kS1, bLookup, bMapSet, wantA, isCall, stepOp, evalO, evalL, evalP, evalM, putDst, flat, kA, kB, Nat.reduceLT, ↓reduceIte, kC, Nat.reduceEqDiff, aBuiltin, abinG, guardFree, abin, aInt, aUn, aNilCheck, retQ, retQ1, aresults, aresultL, aresult, mkF, undefV, reduceCtorEq, kD, kE, kF, kG, kH, kI, kJ, kK, aExtract, calleeOf, tf2, fq.2.2.2, ad, ld, e7, e7s, pa0, pa1, aadd, Nat.zero_add, m0, m1, d]
   exact ⟨l3.trans le7, .inl ⟨bad fun L => by have := L.x0; omega, trivial⟩⟩
  have dq1 : decide (p.1 < 0) = false := decide_eq_false q1
  by_cases q2 : p.1 ≥ (b : Int)
  ·have d : decide (p.1 ≥ (b : Int)) = true := decide_eq_true q2
   simp only [kS1, bLookup, bMapSet, wantA, isCall, stepOp, evalO, evalL, evalP, evalM, putDst, flat, kA, kB, Nat.reduceLT, ↓reduceIte, kC, Nat.reduceEqDiff, aBuiltin, abinG, guardFree, abin, aInt, aUn, aNilCheck, retQ, retQ1, aresults, aresultL, aresult, mkF, undefV, reduceCtorEq, kD, kE, kF, kG, kH, kI, kJ, kK, aExtract, calleeOf, tf2, fq.2.2.2, ad, ld, e7, e7s, pa0, pa1, aadd, Nat.zero_add, m0, m1, dq1, d]
   exact ⟨l3.trans le7, .inl ⟨bad fun L => by have := L.x1; omega, trivial⟩⟩
  have dq2 : decide (p.1 ≥ (b : Int)) = false := decide_eq_false q2
  by_cases q3 : p.2 < 0
  ·have d : decide (p.2 < 0) = true := decide_eq_true q3
   simp only [kS1, bLookup, bMapSet, wantA, isCall, stepOp, evalO, evalL, evalP, evalM, putDst, flat, kA, kB, Nat.reduceLT, ↓reduceIte, kC, Nat.reduceEqDiff, aBuiltin, abinG, guardFree, abin, aInt, aUn, aNilCheck, retQ, retQ1, aresults, aresultL, aresult, mkF, undefV, reduceCtorEq, kD, kE, kF, kG, kH, kI, kJ, kK, aExtract, calleeOf, tf2, fq.2.2.2, ad, ld, e7, e7s, pa0, pa1, aadd, Nat.zero_add, m0, m1, dq1, dq2, d]
   exact ⟨l3.trans le7, .inl ⟨bad fun L => by have := L.y0; omega, trivial⟩⟩
  have dq3 : decide (p.2 < 0) = false := decide_eq_false q3
  by_cases q4 : p.2 ≥ (n : Int) - (b : Int)
  ·have d : decide (p.2 ≥ (n : Int) - (b : Int)) = true := decide_eq_true q4
   simp only [kS1, bLookup, bMapSet, wantA, isCall, stepOp, evalO, evalL, evalP, evalM, putDst, flat, kA, kB, Nat.reduceLT, ↓reduceIte, kC, Nat.reduceEqDiff, aBuiltin, abinG, guardFree, abin, aInt, aUn, aNilCheck, retQ, retQ1, aresults, aresultL, aresult, mkF, undefV, reduceCtorEq, kD, kE, kF, kG, kH, kI, kJ, kK, aExtract, calleeOf, tf2, fq.2.2.2, ad, ld, e7, e7s, pa0, pa1, aadd, Nat.zero_add, m0, m1, dq1, dq2, dq3, hnb, d]
   exact ⟨l3.trans le7, .inl ⟨bad fun L => by have := L.y1; omega, trivial⟩⟩
  have dq4 : decide (p.2 ≥ (n : Int) - (b : Int)) = false := decide_eq_false q4
  have hLp : LinkOK b n p := ⟨by omega, by omega, by omega, by omega⟩
  simp only [kS1, bLookup, bMapSet, wantA, isCall, stepOp, evalO, evalL, evalP, evalM, putDst, flat, kA, kB, Nat.reduceLT, ↓reduceIte, kC, Nat.reduceEqDiff, aBuiltin, abinG, guardFree, abin, aInt, aUn, aNilCheck, retQ, retQ1, aresults, aresultL, aresult, mkF, undefV, reduceCtorEq, kD, kE, kF, kG, kH, kI, kJ, kK, aExtract, calleeOf, tf2, fq.2.2.2, ad, ld, e7, e7s, pa0, pa1, aadd, Nat.zero_add, m0, m1, dq1, dq2, dq3, hnb, dq4]
  refine KLoop.intro (fun k fr hz => ∃ (j : Nat), k = i - j ∧ j ≤ i ∧ fr = mkF [(1, .pointer (some ⟨B, 0, none⟩)), (4, .int .i64 b), (5, .int .i64 n), (6, .int .i64 i), (7, .pointer (some ⟨E, 0, none⟩)), (8, .int .i64 j)] ∧ p ∉ ls.take j ∧ Le h7 hz)
   i [(1, .pointer (some ⟨B, 0, none⟩)), (4, .int .i64 b), (5, .int .i64 n), (6, .int .i64 i), (7, .pointer (some ⟨E, 0, none⟩)), (8, .int .i64 (0 : Nat))] (by simp only [hasAll, kS1, bLookup, bMapSet, wantA, isCall, stepOp, evalO, evalL, evalP, evalM, putDst, flat, kA, kB, Nat.reduceLT, ↓reduceIte, kC, Nat.reduceEqDiff, aBuiltin, abinG, guardFree, abin, aInt, aUn, aNilCheck, retQ, retQ1, aresults, aresultL, aresult, mkF, undefV, reduceCtorEq, kD, kE, kF, kG, kH, kI, kJ, kK, aExtract, calleeOf]; simp)
   ⟨0, rfl, Nat.zero_le _, rfl, by simp, Le.refl _⟩ ?_
  rintro k fr hz hwz ⟨j, rfl, hj, rfl, hno, lez⟩
  simp only [kS1, bLookup, bMapSet, wantA, isCall, stepOp, evalO, evalL, evalP, evalM, putDst, flat, kA, kB, Nat.reduceLT, ↓reduceIte, kC, Nat.reduceEqDiff, aBuiltin, abinG, guardFree, abin, aInt, aUn, aNilCheck, retQ, retQ1, aresults, aresultL, aresult, mkF, undefV, reduceCtorEq, kD, kE, kF, kG, kH, kI, kJ, kK, aExtract, calleeOf]
  refine KCond.intro (fun ht => ?_) (fun hf => ?_)
  rotate_left
  ·have hge : i ≤ j := lt_f hf
   obtain rfl : i = j := by omega
   simp only [kS1, bLookup, bMapSet, wantA, isCall, stepOp, evalO, evalL, evalP, evalM, putDst, flat, kA, kB, Nat.reduceLT, ↓reduceIte, kC, Nat.reduceEqDiff, aBuiltin, abinG, guardFree, abin, aInt, aUn, aNilCheck, retQ, retQ1, aresults, aresultL, aresult, mkF, undefV, reduceCtorEq, kD, kE, kF, kG, kH, kI, kJ, kK, aExtract, calleeOf, awrap_succ i (by omega)]
   refine loop_again (ls.length - (i + 1)) [(1, .pointer (some ⟨B, 0, none⟩)), (4, .int .i64 b), (5, .int .i64 n), (6, .int .i64 (i + 1 : Nat))] (by omega) (by simp only [hasAll, kS1, bLookup, bMapSet, wantA, isCall, stepOp, evalO, evalL, evalP, evalM, putDst, flat, kA, kB, Nat.reduceLT, ↓reduceIte, kC, Nat.reduceEqDiff, aBuiltin, abinG, guardFree, abin, aInt, aUn, aNilCheck, retQ, retQ1, aresults, aresultL, aresult, mkF, undefV, reduceCtorEq, kD, kE, kF, kG, kH, kI, kJ, kK, aExtract, calleeOf]; simp)
    ⟨i + 1, rfl, hlt, rfl, fun q hq => ?_, ?_, le7.trans lez⟩
   ·rw [htk, List.mem_append] at hq
    rcases hq with hq | hq
    ·exact hok q hq
    ·simp at hq; subst hq; exact hLp
   ·rw [htk, List.nodup_append]
    refine ⟨hnd, by simp, fun a ha c hc e => ?_⟩
    simp at hc; subst hc; subst e; exact hno ha
  have hji : j < i := lt_t ht
  clear ht
  have hjl : j < ls.length := by omega
  have hqj := getElem?_of hjl
  have htj : ls.take (j + 1) = ls.take j ++ [ls[j]] := List.take_succ_eq_append_getElem hjl
  have hqm : ls[j] ∈ ls.take i := by
   rw [List.mem_take_iff_getElem]; exact ⟨j, by omega, rfl⟩
  generalize ls[j] = q at *
  have adj_ := hl.addr (k := .i64) j hjl
  have ldj := (hl.le ((l3.trans le7).trans lez)).load hqj
  have lp := own42 (lez.own _ _ o7)
  have fz := lA hz (le7.trans lez)
  simp only [kS1, bLookup, bMapSet, wantA, isCall, stepOp, evalO, evalL, evalP, evalM, putDst, flat, kA, kB, Nat.reduceLT, ↓reduceIte, kC, Nat.reduceEqDiff, aBuiltin, abinG, guardFree, abin, aInt, aUn, aNilCheck, retQ, retQ1, aresults, aresultL, aresult, mkF, undefV, reduceCtorEq, kD, kE, kF, kG, kH, kI, kJ, kK, aExtract, calleeOf]
  refine KDraw.intro mixed (.fl 0 (.fl 1 (.fl 2 (.fl 3 (.fl 4 (.fl 5 (.fl 6 (.done)))))))) (by kernel_rfl) ?_
  have ab := eqP q p
  simp only [valP] at ab
  by_cases qe : q = p
  ·have d : decide (q = p) = true := decide_eq_true qe
   simp only [kS1, bLookup, bMapSet, wantA, isCall, stepOp, evalO, evalL, evalP, evalM, putDst, flat, kA, kB, Nat.reduceLT, ↓reduceIte, kC, Nat.reduceEqDiff, aBuiltin, abinG, guardFree, abin, aInt, aUn, aNilCheck, retQ, retQ1, aresults, aresultL, aresult, mkF, undefV, reduceCtorEq, kD, kE, kF, kG, kH, kI, kJ, kK, aExtract, calleeOf, kD1, Nat.reduceBEq, HoldsAll, kL, kM, kN, kO, tf2, aadd, Nat.zero_add, fz.2.2.2, adj_, ldj, lp, valP, ab, d]
   refine ⟨(l3.trans le7).trans lez, .inl fun G => ?_⟩
   subst qe
   have nd := G.nd
   rw [← List.take_append_drop (i + 1) ls, htk] at nd
   have := (List.nodup_append.1 nd).1
   rw [List.nodup_append] at this
   exact this.2.2 _ hqm _ (by simp) rfl
  have d : decide (q = p) = false := decide_eq_false qe
  simp only [kS1, bLookup, bMapSet, wantA, isCall, stepOp, evalO, evalL, evalP, evalM, putDst, flat, kA, kB, Nat.reduceLT, ↓reduceIte, kC, Nat.reduceEqDiff, aBuiltin, abinG, guardFree, abin, aInt, aUn, aNilCheck, retQ, retQ1, aresults, aresultL, aresult, mkF, undefV, reduceCtorEq, kD, kE, kF, kG, kH, kI, kJ, kK, aExtract, calleeOf, kD1, Nat.reduceBEq, HoldsAll, kL, kM, kN, kO, tf2, aadd, Nat.zero_add, fz.2.2.2, adj_, ldj, lp, valP, ab, d, awrap_succ j (by omega)]
  exact loop_again (i - (j + 1)) [(1, .pointer (some ⟨B, 0, none⟩)), (4, .int .i64 b), (5, .int .i64 n), (6, .int .i64 i), (7, .pointer (some ⟨E, 0, none⟩)), (8, .int .i64 (j + 1 : Nat))] (by omega) (by simp only [hasAll, kS1, bLookup, bMapSet, wantA, isCall, stepOp, evalO, evalL, evalP, evalM, putDst, flat, kA, kB, Nat.reduceLT, ↓reduceIte, kC, Nat.reduceEqDiff, aBuiltin, abinG, guardFree, abin, aInt, aUn, aNilCheck, retQ, retQ1, aresults, aresultL, aresult, mkF, undefV, reduceCtorEq, kD, kE, kF, kG, kH, kI, kJ, kK, aExtract, calleeOf]; simp)
   ⟨j + 1, rfl, hji, rfl, by rw [htj, List.mem_append]; simp [hno, Ne.symm qe], lez⟩
 have hge : ls.length ≤ i := lt_f hf
 rw [List.take_of_length_le hge] at hok hnd
 clear hge hf hi
 have hlx : ∀ p ∈ ls, LinkOK b n p := hok
 simp only [kS1, bLookup, bMapSet, wantA, isCall, stepOp, evalO, evalL, evalP, evalM, putDst, flat, kA, kB, Nat.reduceLT, ↓reduceIte, kC, Nat.reduceEqDiff, aBuiltin, abinG, guardFree, abin, aInt, aUn, aNilCheck, retQ, retQ1, aresults, aresultL, aresult, mkF, undefV, reduceCtorEq, kD, kE, kF, kG, kH, kI, kJ, kK, aExtract, calleeOf]
 -- from each one
 refine KLoop.intro (fun k fr hz => ∃ (s : Nat) (dv : Value), k = n - s ∧ s ≤ n ∧ fr = mkF [(1, .pointer (some ⟨B, 0, none⟩)), (4, .int .i64 b), (5, .int .i64 n), (9, dv), (10, .int .i64 s)] ∧ GI hz dv (depK b n ls s) ∧ (∀ t, t < s → ∀ x ∈ awayM b n ls t, 0 ≤ x) ∧ Le h3 hz ∧ Apart h3 dv)
  n [(1, .pointer (some ⟨B, 0, none⟩)), (4, .int .i64 b), (5, .int .i64 n), (9, .slice none 0 0), (10, .int .i64 (0 : Nat))] (by simp only [hasAll, kS1, bLookup, bMapSet, wantA, isCall, stepOp, evalO, evalL, evalP, evalM, putDst, flat, kA, kB, Nat.reduceLT, ↓reduceIte, kC, Nat.reduceEqDiff, aBuiltin, abinG, guardFree, abin, aInt, aUn, aNilCheck, retQ, retQ1, aresults, aresultL, aresult, mkF, undefV, reduceCtorEq, kD, kE, kF, kG, kH, kI, kJ, kK, aExtract, calleeOf]; simp)
  ⟨0, _, rfl, Nat.zero_le _, rfl, GI.nil _, by intro t h; omega, leq, fun b hb => by cases hb⟩ ?_
 clear leq fq hwq fA
 clear hq
 rintro k fr hq hwq ⟨s, dv, rfl, hs, rfl, gd, hall, leq, ad3⟩
 simp only [kS1, bLookup, bMapSet, wantA, isCall, stepOp, evalO, evalL, evalP, evalM, putDst, flat, kA, kB, Nat.reduceLT, ↓reduceIte, kC, Nat.reduceEqDiff, aBuiltin, abinG, guardFree, abin, aInt, aUn, aNilCheck, retQ, retQ1, aresults, aresultL, aresult, mkF, undefV, reduceCtorEq, kD, kE, kF, kG, kH, kI, kJ, kK, aExtract, calleeOf]
 refine KCond.intro (fun ht => ?_) (fun hf => ?_)
 rotate_left
 ·have hge : n ≤ s := lt_f hf
  obtain rfl : s = n := by omega
  simp only [kS1, bLookup, bMapSet, wantA, isCall, stepOp, evalO, evalL, evalP, evalM, putDst, flat, kA, kB, Nat.reduceLT, ↓reduceIte, kC, Nat.reduceEqDiff, aBuiltin, abinG, guardFree, abin, aInt, aUn, aNilCheck, retQ, retQ1, aresults, aresultL, aresult, mkF, undefV, reduceCtorEq, kD, kE, kF, kG, kH, kI, kJ, kK, aExtract, calleeOf]
  exact ⟨l3.trans leq, .inr ⟨⟨by omega, by omega, hlx, hnd, hall⟩, dv, rfl, gd.rl⟩⟩
 have hsn : s < n := lt_t ht
 clear ht
 have mk := aMakeSlice1 (P := Try.prog) (t := 35) (z := .int .i64 0) hq Try.underlying35 rfl rfl rfl rfl (by kernel_rfl) Try.underlying3 (by kernel_rfl) n (by omega)
 obtain ⟨h8, e8, l8, w8, o8⟩ := alloc_f hwq (List.replicate n (.int .i64 0))
 rw [e8] at mk
 have nA : hq.own hq.next = none := (Le.refl hq).next hwq (Nat.le_refl _)
 have ndA : blk dv ≠ some hq.next := fun e => GS.blk_own gd e nA
 generalize hq.next = A at *
 have nA3 : h3.own A = none := leq.none nA
 have oA8 : h8.own A = some (.cells (I64 (List.replicate 0 (-1) ++ List.replicate (n - 0) 0))) := by rw [o8]; simp [I64]
 have ixA : ∀ (k : IntKind) (j : Nat), j < n → aIndexAddr Try.prog 35 (.slice (some ⟨A, 0, none⟩) n n) (.int k j) = some (.pointer (some ⟨A, j, none⟩)) := fun k j hj => by rw [aIdx Try.underlying35 Try.underlying3 (by kernel_rfl) j hj]; simp [aadd]
 have ldA : ∀ (g : AHeap) (L : List Int) (j : Nat), g.own A = some (.cells (I64 L)) → L.length = n → j < n → aload Try.prog g 3 ⟨A, j, none⟩ = some (.int .i64 (L.getD j 0)) := fun g L j ho hl hj => by
  rw [aload_one Try.underlying3 rfl ho, getD_of (by omega)]; simp [I64, getElem?_of (show j < L.length by omega)]
 have stA : ∀ (g : AHeap) (L : List Int) (j : Nat) (x : Int), g.own A = some (.cells (I64 L)) → L.length = n → j < n → aStore Try.prog g 3 (.pointer (some ⟨A, j, none⟩)) (.int .i64 x) = some (g.put A (.cells (I64 (L.set j x)))) := fun g L j x ho hl hj => by
  have := aStore1 (P := Try.prog) (t := 3) (x := .int .i64 x) Try.underlying3 (by kernel_rfl) ho (off := j) (by simp [I64]; omega) rfl rfl
  rw [this, I64_set]
 simp only [kS1, bLookup, bMapSet, wantA, isCall, stepOp, evalO, evalL, evalP, evalM, putDst, flat, kA, kB, Nat.reduceLT, ↓reduceIte, kC, Nat.reduceEqDiff, aBuiltin, abinG, guardFree, abin, aInt, aUn, aNilCheck, retQ, retQ1, aresults, aresultL, aresult, mkF, undefV, reduceCtorEq, kD, kE, kF, kG, kH, kI, kJ, kK, aExtract, calleeOf, mk]
 refine KLoop.intro (fun k fr hz => ∃ (i : Nat), k = n - i ∧ i ≤ n ∧ fr = mkF [(1, .pointer (some ⟨B, 0, none⟩)), (4, .int .i64 b), (5, .int .i64 n), (9, dv), (10, .int .i64 s), (11, .slice (some ⟨A, 0, none⟩) n n), (12, .int .i64 i)] ∧ hz.own A = some (.cells (I64 (List.replicate i (-1) ++ List.replicate (n - i) 0))) ∧ Le hq hz)
  n [(1, .pointer (some ⟨B, 0, none⟩)), (4, .int .i64 b), (5, .int .i64 n), (9, dv), (10, .int .i64 s), (11, .slice (some ⟨A, 0, none⟩) n n), (12, .int .i64 (0 : Nat))] (by simp only [hasAll, kS1, bLookup, bMapSet, wantA, isCall, stepOp, evalO, evalL, evalP, evalM, putDst, flat, kA, kB, Nat.reduceLT, ↓reduceIte, kC, Nat.reduceEqDiff, aBuiltin, abinG, guardFree, abin, aInt, aUn, aNilCheck, retQ, retQ1, aresults, aresultL, aresult, mkF, undefV, reduceCtorEq, kD, kE, kF, kG, kH, kI, kJ, kK, aExtract, calleeOf]; simp)
  ⟨0, rfl, Nat.zero_le _, rfl, oA8, l8⟩ ?_
 clear mk e8 l8 w8 o8 oA8
 clear h8
 rintro k fr hz hwz ⟨i, rfl, hi, rfl, oA, lez⟩
 simp only [kS1, bLookup, bMapSet, wantA, isCall, stepOp, evalO, evalL, evalP, evalM, putDst, flat, kA, kB, Nat.reduceLT, ↓reduceIte, kC, Nat.reduceEqDiff, aBuiltin, abinG, guardFree, abin, aInt, aUn, aNilCheck, retQ, retQ1, aresults, aresultL, aresult, mkF, undefV, reduceCtorEq, kD, kE, kF, kG, kH, kI, kJ, kK, aExtract, calleeOf]
 refine KCond.intro (fun ht => ?_) (fun hf => ?_)
 ·have hin : i < n := lt_t ht
  clear ht
  have st := stA hz _ i (-1) oA (by simp; omega) hin
  have hset : (List.replicate i (-1 : Int) ++ List.replicate (n - i) 0).set i (-1) = List.replicate (i + 1) (-1) ++ List.replicate (n - (i + 1)) 0 := by
   rw [List.set_append_right _ _ (by simp), List.length_replicate, Nat.sub_self, show n - i = (n - (i + 1)) + 1 by omega, List.replicate_succ, List.set_cons_zero, List.replicate_succ', List.append_assoc]; rfl
  rw [hset] at st
  simp only [kS1, bLookup, bMapSet, wantA, isCall, stepOp, evalO, evalL, evalP, evalM, putDst, flat, kA, kB, Nat.reduceLT, ↓reduceIte, kC, Nat.reduceEqDiff, aBuiltin, abinG, guardFree, abin, aInt, aUn, aNilCheck, retQ, retQ1, aresults, aresultL, aresult, mkF, undefV, reduceCtorEq, kD, kE, kF, kG, kH, kI, kJ, kK, aExtract, calleeOf, ixA _ i hin, st, awrap_succ i (by omega)]
  exact loop_again (n - (i + 1)) [(1, .pointer (some ⟨B, 0, none⟩)), (4, .int .i64 b), (5, .int .i64 n), (9, dv), (10, .int .i64 s), (11, .slice (some ⟨A, 0, none⟩) n n), (12, .int .i64 (i + 1 : Nat))] (by omega) (by simp only [hasAll, kS1, bLookup, bMapSet, wantA, isCall, stepOp, evalO, evalL, evalP, evalM, putDst, flat, kA, kB, Nat.reduceLT, ↓reduceIte, kC, Nat.reduceEqDiff, aBuiltin, abinG, guardFree, abin, aInt, aUn, aNilCheck, retQ, retQ1, aresults, aresultL, aresult, mkF, undefV, reduceCtorEq, kD, kE, kF, kG, kH, kI, kJ, kK, aExtract, calleeOf]; simp)
   ⟨i + 1, rfl, hin, rfl, AHeap.own_put_eq _ _ _, lez.put _ nA⟩
 have hge : n ≤ i := lt_f hf
 obtain rfl : i = n := by omega
 simp only [Nat.sub_self, List.replicate_zero, List.append_nil] at oA
 have st := stA hz _ s 0 oA (by simp) hsn
 have oA9 := AHeap.own_put_eq hz A (.cells (I64 ((List.replicate i (-1)).set s 0)))
 have l9 := lez.put (.cells (I64 ((List.replicate i (-1)).set s 0))) nA
 simp only [kS1, bLookup, bMapSet, wantA, isCall, stepOp, evalO, evalL, evalP, evalM, putDst, flat, kA, kB, Nat.reduceLT, ↓reduceIte, kC, Nat.reduceEqDiff, aBuiltin, abinG, guardFree, abin, aInt, aUn, aNilCheck, retQ, retQ1, aresults, aresultL, aresult, mkF, undefV, reduceCtorEq, kD, kE, kF, kG, kH, kI, kJ, kK, aExtract, calleeOf, ixA _ s hsn, st]
 refine KLoop.intro (fun k fr hy => ∃ (far : Nat), k = i - far ∧ far ≤ i ∧ fr = mkF [(1, .pointer (some ⟨B, 0, none⟩)), (4, .int .i64 b), (5, .int .i64 i), (9, dv), (10, .int .i64 s), (11, .slice (some ⟨A, 0, none⟩) i i), (13, .int .i64 (0 : Nat)), (14, .int .i64 far)] ∧ hy.own A = some (.cells (I64 (awayK b i ls s far))) ∧ Le hq hy)
  i [(1, .pointer (some ⟨B, 0, none⟩)), (4, .int .i64 b), (5, .int .i64 i), (9, dv), (10, .int .i64 s), (11, .slice (some ⟨A, 0, none⟩) i i), (13, .int .i64 (0 : Nat)), (14, .int .i64 (0 : Nat))] (by simp only [hasAll, kS1, bLookup, bMapSet, wantA, isCall, stepOp, evalO, evalL, evalP, evalM, putDst, flat, kA, kB, Nat.reduceLT, ↓reduceIte, kC, Nat.reduceEqDiff, aBuiltin, abinG, guardFree, abin, aInt, aUn, aNilCheck, retQ, retQ1, aresults, aresultL, aresult, mkF, undefV, reduceCtorEq, kD, kE, kF, kG, kH, kI, kJ, kK, aExtract, calleeOf]; simp)
  ⟨0, rfl, Nat.zero_le _, rfl, by simpa [awayK] using oA9, l9⟩ ?_
 clear oA9 l9 st oA lez hge hf hwz hi
 clear hz
 rintro k fr hy hwy ⟨far, rfl, hfar, rfl, oA, ley⟩
 simp only [kS1, bLookup, bMapSet, wantA, isCall, stepOp, evalO, evalL, evalP, evalM, putDst, flat, kA, kB, Nat.reduceLT, ↓reduceIte, kC, Nat.reduceEqDiff, aBuiltin, abinG, guardFree, abin, aInt, aUn, aNilCheck, retQ, retQ1, aresults, aresultL, aresult, mkF, undefV, reduceCtorEq, kD, kE, kF, kG, kH, kI, kJ, kK, aExtract, calleeOf]
 refine KCond.intro (fun ht => ?_) (fun hf => ?_)
 ·have hfi : far < i := lt_t ht
  clear ht
  have hKl := awayK_length b i ls s far
  generalize hL : awayK b i ls s far = L at *
  simp only [kS1, bLookup, bMapSet, wantA, isCall, stepOp, evalO, evalL, evalP, evalM, putDst, flat, kA, kB, Nat.reduceLT, ↓reduceIte, kC, Nat.reduceEqDiff, aBuiltin, abinG, guardFree, abin, aInt, aUn, aNilCheck, retQ, retQ1, aresults, aresultL, aresult, mkF, undefV, reduceCtorEq, kD, kE, kF, kG, kH, kI, kJ, kK, aExtract, calleeOf]
  refine KLoop.intro (fun k fr hx => ∃ (j : Nat), k = ls.length - j ∧ j ≤ ls.length ∧ fr = mkF [(1, .pointer (some ⟨B, 0, none⟩)), (4, .int .i64 b), (5, .int .i64 i), (9, dv), (10, .int .i64 s), (11, .slice (some ⟨A, 0, none⟩) i i), (13, .int .i64 (0 : Nat)), (14, .int .i64 far), (15, .int .i64 j)] ∧ hx.own A = some (.cells (I64 ((ls.take j).foldl (linkS b (far : Int)) L))) ∧ Le hq hx)
   ls.length [(1, .pointer (some ⟨B, 0, none⟩)), (4, .int .i64 b), (5, .int .i64 i), (9, dv), (10, .int .i64 s), (11, .slice (some ⟨A, 0, none⟩) i i), (13, .int .i64 (0 : Nat)), (14, .int .i64 far), (15, .int .i64 (0 : Nat))] (by simp only [hasAll, kS1, bLookup, bMapSet, wantA, isCall, stepOp, evalO, evalL, evalP, evalM, putDst, flat, kA, kB, Nat.reduceLT, ↓reduceIte, kC, Nat.reduceEqDiff, aBuiltin, abinG, guardFree, abin, aInt, aUn, aNilCheck, retQ, retQ1, aresults, aresultL, aresult, mkF, undefV, reduceCtorEq, kD, kE, kF, kG, kH, kI, kJ, kK, aExtract, calleeOf]; simp)
   ⟨0, rfl, Nat.zero_le _, rfl, by simpa using oA, ley⟩ ?_
  rintro k fr hx hwx ⟨j, rfl, hj, rfl, oX, lex⟩
  have fx := lA hx (leq.trans lex)
  simp only [kS1, bLookup, bMapSet, wantA, isCall, stepOp, evalO, evalL, evalP, evalM, putDst, flat, kA, kB, Nat.reduceLT, ↓reduceIte, kC, Nat.reduceEqDiff, aBuiltin, abinG, guardFree, abin, aInt, aUn, aNilCheck, retQ, retQ1, aresults, aresultL, aresult, mkF, undefV, reduceCtorEq, kD, kE, kF, kG, kH, kI, kJ, kK, aExtract, calleeOf, tf2, aadd, Nat.zero_add, fx.2.2.2, ll]
  refine KCond.intro (fun ht => ?_) (fun hf => ?_)
  rotate_left
  ·have hge : ls.length ≤ j := lt_f hf
   rw [List.take_of_length_le hge] at oX
   simp only [kS1, bLookup, bMapSet, wantA, isCall, stepOp, evalO, evalL, evalP, evalM, putDst, flat, kA, kB, Nat.reduceLT, ↓reduceIte, kC, Nat.reduceEqDiff, aBuiltin, abinG, guardFree, abin, aInt, aUn, aNilCheck, retQ, retQ1, aresults, aresultL, aresult, mkF, undefV, reduceCtorEq, kD, kE, kF, kG, kH, kI, kJ, kK, aExtract, calleeOf, awrap_succ far (by omega)]
   exact loop_again (i - (far + 1)) [(1, .pointer (some ⟨B, 0, none⟩)), (4, .int .i64 b), (5, .int .i64 i), (9, dv), (10, .int .i64 s), (11, .slice (some ⟨A, 0, none⟩) i i), (13, .int .i64 (0 : Nat)), (14, .int .i64 (far + 1 : Nat))] (by omega) (by simp only [hasAll, kS1, bLookup, bMapSet, wantA, isCall, stepOp, evalO, evalL, evalP, evalM, putDst, flat, kA, kB, Nat.reduceLT, ↓reduceIte, kC, Nat.reduceEqDiff, aBuiltin, abinG, guardFree, abin, aInt, aUn, aNilCheck, retQ, retQ1, aresults, aresultL, aresult, mkF, undefV, reduceCtorEq, kD, kE, kF, kG, kH, kI, kJ, kK, aExtract, calleeOf]; simp)
    ⟨far + 1, rfl, hfi, rfl, by rw [awayK_succ, hL]; exact oX, lex⟩
  have hjl : j < ls.length := lt_t ht
  clear ht
  have hws : awrap .i64 ((j : Int) + 1) = ((j + 1 : Nat) : Int) := wrapS hjl hll
  have hls : ls.length - (j + 1) < ls.length - j := sub_step hjl
  have hfw : awrap .i64 ((far : Int) + 1) = (far : Int) + 1 := wrapS' hfi h1
  have hpj := getElem?_of hjl
  have htk : ls.take (j + 1) = ls.take j ++ [ls[j]] := List.take_succ_eq_append_getElem hjl
  have hLk := hlx _ (List.getElem_mem hjl)
  generalize ls[j] = p at *
  have hfl : (ls.take (j + 1)).foldl (linkS b (far : Int)) L = linkS b (far : Int) ((ls.take j).foldl (linkS b (far : Int)) L) p := by rw [htk, List.foldl_append]; rfl
  have hcl : ((ls.take j).foldl (linkS b (far : Int)) L).length = i := by rw [round_length, hKl]
  generalize (ls.take j).foldl (linkS b (far : Int)) L = C at *
  obtain ⟨x, ex⟩ := Int.eq_ofNat_of_zero_le hLk.x0
  obtain ⟨y, ey⟩ := Int.eq_ofNat_of_zero_le hLk.y0
  have hx1 := hLk.x1
  have hy1 := hLk.y1
  have hxn : x < i := by omega
  have hyn : b + y < i := by omega
  have ad := hl.addr (k := .i64) j hjl
  have lx := (hl.le ((l3.trans leq).trans lex)).l0 hpj
  have ly := (hl.le ((l3.trans leq).trans lex)).l1 hpj
  rw [ex] at lx
  rw [ey] at ly
  simp only [aadd, Nat.add_zero] at lx ly
  have hwy : awrap .i64 ((b : Int) + (y : Int)) = ((b + y : Nat) : Int) := wrapA hyn h1
  simp only [kS1, bLookup, bMapSet, wantA, isCall, stepOp, evalO, evalL, evalP, evalM, putDst, flat, kA, kB, Nat.reduceLT, ↓reduceIte, kC, Nat.reduceEqDiff, aBuiltin, abinG, guardFree, abin, aInt, aUn, aNilCheck, retQ, retQ1, aresults, aresultL, aresult, mkF, undefV, reduceCtorEq, kD, kE, kF, kG, kH, kI, kJ, kK, aExtract, calleeOf]
  refine KDraw.intro mixed (.fl 0 (.fl 1 (.fl 2 (.fl 3 (.fl 4 (.fl 5 (.fl 6 (.fl 7 (.fl 8 (.fl 9 (.fl 10 (.fl 11 (.fl 12 (.fl 13 (.fl 14 (.fl 15 (.done))))))))))))))))) (by kernel_rfl) ?_
  simp only [kS1, bLookup, bMapSet, wantA, isCall, stepOp, evalO, evalL, evalP, evalM, putDst, flat, kA, kB, Nat.reduceLT, ↓reduceIte, kC, Nat.reduceEqDiff, aBuiltin, abinG, guardFree, abin, aInt, aUn, aNilCheck, retQ, retQ1, aresults, aresultL, aresult, mkF, undefV, reduceCtorEq, kD, kE, kF, kG, kH, kI, kJ, kK, aExtract, calleeOf, kD1, Nat.reduceBEq, HoldsAll, kL, kM, kN, kO, tf2, aadd, Nat.zero_add, Nat.add_zero, fx.2.2.2, ad, pa0, pa1, lx, ly, hwy]
  have hlk : linkS b (far : Int) C p = (let L1 := if C.getD x 0 = (far : Int) ∧ C.getD (b + y) 0 < 0 then C.set (b + y) ((far : Int) + 1) else C; if L1.getD (b + y) 0 = (far : Int) ∧ L1.getD x 0 < 0 then L1.set x ((far : Int) + 1) else L1) := by
   simp only [linkS, ex, ey, Int.toNat_natCast]
  have l1' := ldA hx C (b + y) oX hcl hyn
  have l2' := ldA hx C x oX hcl hxn
  by_cases q1 : C.getD x 0 = (far : Int)
  ·have d1 : decide (C.getD x 0 = (far : Int)) = true := decide_eq_true q1
   by_cases q2 : C.getD (b + y) 0 < 0
   ·have d2 : decide (C.getD (b + y) 0 < 0) = true := decide_eq_true q2
    have st1 := stA hx C (b + y) ((far : Int) + 1) oX hcl hyn
    have oX1 := AHeap.own_put_eq hx A (.cells (I64 (C.set (b + y) ((far : Int) + 1))))
    have lex1 := lex.put (.cells (I64 (C.set (b + y) ((far : Int) + 1)))) nA
    have hD : (if C.getD x 0 = (far : Int) ∧ C.getD (b + y) 0 < 0 then C.set (b + y) ((far : Int) + 1) else C) = C.set (b + y) ((far : Int) + 1) := if_pos ⟨q1, q2⟩
    have hDl : (C.set (b + y) ((far : Int) + 1)).length = i := by rw [List.length_set, hcl]
    simp only [kS1, bLookup, bMapSet, wantA, isCall, stepOp, evalO, evalL, evalP, evalM, putDst, flat, kA, kB, Nat.reduceLT, ↓reduceIte, kC, Nat.reduceEqDiff, aBuiltin, abinG, guardFree, abin, aInt, aUn, aNilCheck, retQ, retQ1, aresults, aresultL, aresult, mkF, undefV, reduceCtorEq, kD, kE, kF, kG, kH, kI, kJ, kK, aExtract, calleeOf, ixA _ (b + y) hyn, ixA _ x hxn, l1', l2', d1, d2, hfw, st1]
    generalize hx.put A (.cells (I64 (C.set (b + y) ((far : Int) + 1)))) = hx1 at *
    generalize C.set (b + y) ((far : Int) + 1) = D at *
    have l1 := ldA hx1 D (b + y) oX1 hDl hyn
    have l2 := ldA hx1 D x oX1 hDl hxn
    by_cases r1 : D.getD (b + y) 0 = (far : Int)
    ·have e1 : decide (D.getD (b + y) 0 = (far : Int)) = true := decide_eq_true r1
     by_cases r2 : D.getD x 0 < 0
     ·have e2 : decide (D.getD x 0 < 0) = true := decide_eq_true r2
      have st2 := stA hx1 D x ((far : Int) + 1) oX1 hDl hxn
      simp only [kS1, bLookup, bMapSet, wantA, isCall, stepOp, evalO, evalL, evalP, evalM, putDst, flat, kA, kB, Nat.reduceLT, ↓reduceIte, kC, Nat.reduceEqDiff, aBuiltin, abinG, guardFree, abin, aInt, aUn, aNilCheck, retQ, retQ1, aresults, aresultL, aresult, mkF, undefV, reduceCtorEq, kD, kE, kF, kG, kH, kI, kJ, kK, aExtract, calleeOf, ixA _ (b + y) hyn, ixA _ x hxn, l1, l2, e1, e2, hfw, st2, hws]
      exact loop_again (ls.length - (j + 1)) [(1, .pointer (some ⟨B, 0, none⟩)), (4, .int .i64 b), (5, .int .i64 i), (9, dv), (10, .int .i64 s), (11, .slice (some ⟨A, 0, none⟩) i i), (13, .int .i64 (0 : Nat)), (14, .int .i64 far), (15, .int .i64 (j + 1 : Nat))] hls (by simp only [hasAll, kS1, bLookup, bMapSet, wantA, isCall, stepOp, evalO, evalL, evalP, evalM, putDst, flat, kA, kB, Nat.reduceLT, ↓reduceIte, kC, Nat.reduceEqDiff, aBuiltin, abinG, guardFree, abin, aInt, aUn, aNilCheck, retQ, retQ1, aresults, aresultL, aresult, mkF, undefV, reduceCtorEq, kD, kE, kF, kG, kH, kI, kJ, kK, aExtract, calleeOf]; simp) ⟨j + 1, rfl, hjl, rfl, by rw [hfl, hlk, hD, if_pos ⟨r1, r2⟩]; exact AHeap.own_put_eq _ _ _, (lex1).put _ nA⟩
     ·have e2 : decide (D.getD x 0 < 0) = false := decide_eq_false r2
      simp only [kS1, bLookup, bMapSet, wantA, isCall, stepOp, evalO, evalL, evalP, evalM, putDst, flat, kA, kB, Nat.reduceLT, ↓reduceIte, kC, Nat.reduceEqDiff, aBuiltin, abinG, guardFree, abin, aInt, aUn, aNilCheck, retQ, retQ1, aresults, aresultL, aresult, mkF, undefV, reduceCtorEq, kD, kE, kF, kG, kH, kI, kJ, kK, aExtract, calleeOf, ixA _ (b + y) hyn, ixA _ x hxn, l1, l2, e1, e2, hws]
      exact loop_again (ls.length - (j + 1)) [(1, .pointer (some ⟨B, 0, none⟩)), (4, .int .i64 b), (5, .int .i64 i), (9, dv), (10, .int .i64 s), (11, .slice (some ⟨A, 0, none⟩) i i), (13, .int .i64 (0 : Nat)), (14, .int .i64 far), (15, .int .i64 (j + 1 : Nat))] hls (by simp only [hasAll, kS1, bLookup, bMapSet, wantA, isCall, stepOp, evalO, evalL, evalP, evalM, putDst, flat, kA, kB, Nat.reduceLT, ↓reduceIte, kC, Nat.reduceEqDiff, aBuiltin, abinG, guardFree, abin, aInt, aUn, aNilCheck, retQ, retQ1, aresults, aresultL, aresult, mkF, undefV, reduceCtorEq, kD, kE, kF, kG, kH, kI, kJ, kK, aExtract, calleeOf]; simp) ⟨j + 1, rfl, hjl, rfl, by rw [hfl, hlk, hD, if_neg (fun h => r2 h.2)]; exact oX1, lex1⟩
    ·have e1 : decide (D.getD (b + y) 0 = (far : Int)) = false := decide_eq_false r1
     simp only [kS1, bLookup, bMapSet, wantA, isCall, stepOp, evalO, evalL, evalP, evalM, putDst, flat, kA, kB, Nat.reduceLT, ↓reduceIte, kC, Nat.reduceEqDiff, aBuiltin, abinG, guardFree, abin, aInt, aUn, aNilCheck, retQ, retQ1, aresults, aresultL, aresult, mkF, undefV, reduceCtorEq, kD, kE, kF, kG, kH, kI, kJ, kK, aExtract, calleeOf, ixA _ (b + y) hyn, ixA _ x hxn, l1, l2, e1, hws]
     exact loop_again (ls.length - (j + 1)) [(1, .pointer (some ⟨B, 0, none⟩)), (4, .int .i64 b), (5, .int .i64 i), (9, dv), (10, .int .i64 s), (11, .slice (some ⟨A, 0, none⟩) i i), (13, .int .i64 (0 : Nat)), (14, .int .i64 far), (15, .int .i64 (j + 1 : Nat))] hls (by simp only [hasAll, kS1, bLookup, bMapSet, wantA, isCall, stepOp, evalO, evalL, evalP, evalM, putDst, flat, kA, kB, Nat.reduceLT, ↓reduceIte, kC, Nat.reduceEqDiff, aBuiltin, abinG, guardFree, abin, aInt, aUn, aNilCheck, retQ, retQ1, aresults, aresultL, aresult, mkF, undefV, reduceCtorEq, kD, kE, kF, kG, kH, kI, kJ, kK, aExtract, calleeOf]; simp) ⟨j + 1, rfl, hjl, rfl, by rw [hfl, hlk, hD, if_neg (fun h => r1 h.1)]; exact oX1, lex1⟩
   ·have d2 : decide (C.getD (b + y) 0 < 0) = false := decide_eq_false q2
    have hD : (if C.getD x 0 = (far : Int) ∧ C.getD (b + y) 0 < 0 then C.set (b + y) ((far : Int) + 1) else C) = C := if_neg fun h => q2 h.2
    simp only [kS1, bLookup, bMapSet, wantA, isCall, stepOp, evalO, evalL, evalP, evalM, putDst, flat, kA, kB, Nat.reduceLT, ↓reduceIte, kC, Nat.reduceEqDiff, aBuiltin, abinG, guardFree, abin, aInt, aUn, aNilCheck, retQ, retQ1, aresults, aresultL, aresult, mkF, undefV, reduceCtorEq, kD, kE, kF, kG, kH, kI, kJ, kK, aExtract, calleeOf, ixA _ (b + y) hyn, ixA _ x hxn, l1', l2', d1, d2]
    have l1 := ldA hx C (b + y) oX hcl hyn
    have l2 := ldA hx C x oX hcl hxn
    by_cases r1 : C.getD (b + y) 0 = (far : Int)
    ·have e1 : decide (C.getD (b + y) 0 = (far : Int)) = true := decide_eq_true r1
     by_cases r2 : C.getD x 0 < 0
     ·have e2 : decide (C.getD x 0 < 0) = true := decide_eq_true r2
      have st2 := stA hx C x ((far : Int) + 1) oX hcl hxn
      simp only [kS1, bLookup, bMapSet, wantA, isCall, stepOp, evalO, evalL, evalP, evalM, putDst, flat, kA, kB, Nat.reduceLT, ↓reduceIte, kC, Nat.reduceEqDiff, aBuiltin, abinG, guardFree, abin, aInt, aUn, aNilCheck, retQ, retQ1, aresults, aresultL, aresult, mkF, undefV, reduceCtorEq, kD, kE, kF, kG, kH, kI, kJ, kK, aExtract, calleeOf, ixA _ (b + y) hyn, ixA _ x hxn, l1, l2, e1, e2, hfw, st2, hws]
      exact loop_again (ls.length - (j + 1)) [(1, .pointer (some ⟨B, 0, none⟩)), (4, .int .i64 b), (5, .int .i64 i), (9, dv), (10, .int .i64 s), (11, .slice (some ⟨A, 0, none⟩) i i), (13, .int .i64 (0 : Nat)), (14, .int .i64 far), (15, .int .i64 (j + 1 : Nat))] hls (by simp only [hasAll, kS1, bLookup, bMapSet, wantA, isCall, stepOp, evalO, evalL, evalP, evalM, putDst, flat, kA, kB, Nat.reduceLT, ↓reduceIte, kC, Nat.reduceEqDiff, aBuiltin, abinG, guardFree, abin, aInt, aUn, aNilCheck, retQ, retQ1, aresults, aresultL, aresult, mkF, undefV, reduceCtorEq, kD, kE, kF, kG, kH, kI, kJ, kK, aExtract, calleeOf]; simp) ⟨j + 1, rfl, hjl, rfl, by rw [hfl, hlk, hD, if_pos ⟨r1, r2⟩]; exact AHeap.own_put_eq _ _ _, (lex).put _ nA⟩
     ·have e2 : decide (C.getD x 0 < 0) = false := decide_eq_false r2
      simp only [kS1, bLookup, bMapSet, wantA, isCall, stepOp, evalO, evalL, evalP, evalM, putDst, flat, kA, kB, Nat.reduceLT, ↓reduceIte, kC, Nat.reduceEqDiff, aBuiltin, abinG, guardFree, abin, aInt, aUn, aNilCheck, retQ, retQ1, aresults, aresultL, aresult, mkF, undefV, reduceCtorEq, kD, kE, kF, kG, kH, kI, kJ, kK, aExtract, calleeOf, ixA _ (b + y) hyn, ixA _ x hxn, l1, l2, e1, e2, hws]
      exact loop_again (ls.length - (j + 1)) [(1, .pointer (some ⟨B, 0, none⟩)), (4, .int .i64 b), (5, .int .i64 i), (9, dv), (10, .int .i64 s), (11, .slice (some ⟨A, 0, none⟩) i i), (13, .int .i64 (0 : Nat)), (14, .int .i64 far), (15, .int .i64 (j + 1 : Nat))] hls (by simp only [hasAll, kS1, bLookup, bMapSet, wantA, isCall, stepOp, evalO, evalL, evalP, evalM, putDst, flat, kA, kB, Nat.reduceLT, ↓reduceIte, kC, Nat.reduceEqDiff, aBuiltin, abinG, guardFree, abin, aInt, aUn, aNilCheck, retQ, retQ1, aresults, aresultL, aresult, mkF, undefV, reduceCtorEq, kD, kE, kF, kG, kH, kI, kJ, kK, aExtract, calleeOf]; simp) ⟨j + 1, rfl, hjl, rfl, by rw [hfl, hlk, hD, if_neg (fun h => r2 h.2)]; exact oX, lex⟩
    ·have e1 : decide (C.getD (b + y) 0 = (far : Int)) = false := decide_eq_false r1
     simp only [kS1, bLookup, bMapSet, wantA, isCall, stepOp, evalO, evalL, evalP, evalM, putDst, flat, kA, kB, Nat.reduceLT, ↓reduceIte, kC, Nat.reduceEqDiff, aBuiltin, abinG, guardFree, abin, aInt, aUn, aNilCheck, retQ, retQ1, aresults, aresultL, aresult, mkF, undefV, reduceCtorEq, kD, kE, kF, kG, kH, kI, kJ, kK, aExtract, calleeOf, ixA _ (b + y) hyn, ixA _ x hxn, l1, l2, e1, hws]
     exact loop_again (ls.length - (j + 1)) [(1, .pointer (some ⟨B, 0, none⟩)), (4, .int .i64 b), (5, .int .i64 i), (9, dv), (10, .int .i64 s), (11, .slice (some ⟨A, 0, none⟩) i i), (13, .int .i64 (0 : Nat)), (14, .int .i64 far), (15, .int .i64 (j + 1 : Nat))] hls (by simp only [hasAll, kS1, bLookup, bMapSet, wantA, isCall, stepOp, evalO, evalL, evalP, evalM, putDst, flat, kA, kB, Nat.reduceLT, ↓reduceIte, kC, Nat.reduceEqDiff, aBuiltin, abinG, guardFree, abin, aInt, aUn, aNilCheck, retQ, retQ1, aresults, aresultL, aresult, mkF, undefV, reduceCtorEq, kD, kE, kF, kG, kH, kI, kJ, kK, aExtract, calleeOf]; simp) ⟨j + 1, rfl, hjl, rfl, by rw [hfl, hlk, hD, if_neg (fun h => r1 h.1)]; exact oX, lex⟩
  ·have d1 : decide (C.getD x 0 = (far : Int)) = false := decide_eq_false q1
   have hD : (if C.getD x 0 = (far : Int) ∧ C.getD (b + y) 0 < 0 then C.set (b + y) ((far : Int) + 1) else C) = C := if_neg fun h => q1 h.1
   simp only [kS1, bLookup, bMapSet, wantA, isCall, stepOp, evalO, evalL, evalP, evalM, putDst, flat, kA, kB, Nat.reduceLT, ↓reduceIte, kC, Nat.reduceEqDiff, aBuiltin, abinG, guardFree, abin, aInt, aUn, aNilCheck, retQ, retQ1, aresults, aresultL, aresult, mkF, undefV, reduceCtorEq, kD, kE, kF, kG, kH, kI, kJ, kK, aExtract, calleeOf, ixA _ (b + y) hyn, ixA _ x hxn, l1', l2', d1]
   have l1 := ldA hx C (b + y) oX hcl hyn
   have l2 := ldA hx C x oX hcl hxn
   by_cases r1 : C.getD (b + y) 0 = (far : Int)
   ·have e1 : decide (C.getD (b + y) 0 = (far : Int)) = true := decide_eq_true r1
    by_cases r2 : C.getD x 0 < 0
    ·have e2 : decide (C.getD x 0 < 0) = true := decide_eq_true r2
     have st2 := stA hx C x ((far : Int) + 1) oX hcl hxn
     simp only [kS1, bLookup, bMapSet, wantA, isCall, stepOp, evalO, evalL, evalP, evalM, putDst, flat, kA, kB, Nat.reduceLT, ↓reduceIte, kC, Nat.reduceEqDiff, aBuiltin, abinG, guardFree, abin, aInt, aUn, aNilCheck, retQ, retQ1, aresults, aresultL, aresult, mkF, undefV, reduceCtorEq, kD, kE, kF, kG, kH, kI, kJ, kK, aExtract, calleeOf, ixA _ (b + y) hyn, ixA _ x hxn, l1, l2, e1, e2, hfw, st2, hws]
     exact loop_again (ls.length - (j + 1)) [(1, .pointer (some ⟨B, 0, none⟩)), (4, .int .i64 b), (5, .int .i64 i), (9, dv), (10, .int .i64 s), (11, .slice (some ⟨A, 0, none⟩) i i), (13, .int .i64 (0 : Nat)), (14, .int .i64 far), (15, .int .i64 (j + 1 : Nat))] hls (by simp only [hasAll, kS1, bLookup, bMapSet, wantA, isCall, stepOp, evalO, evalL, evalP, evalM, putDst, flat, kA, kB, Nat.reduceLT, ↓reduceIte, kC, Nat.reduceEqDiff, aBuiltin, abinG, guardFree, abin, aInt, aUn, aNilCheck, retQ, retQ1, aresults, aresultL, aresult, mkF, undefV, reduceCtorEq, kD, kE, kF, kG, kH, kI, kJ, kK, aExtract, calleeOf]; simp) ⟨j + 1, rfl, hjl, rfl, by rw [hfl, hlk, hD, if_pos ⟨r1, r2⟩]; exact AHeap.own_put_eq _ _ _, (lex).put _ nA⟩
    ·have e2 : decide (C.getD x 0 < 0) = false := decide_eq_false r2
     simp only [kS1, bLookup, bMapSet, wantA, isCall, stepOp, evalO, evalL, evalP, evalM, putDst, flat, kA, kB, Nat.reduceLT, ↓reduceIte, kC, Nat.reduceEqDiff, aBuiltin, abinG, guardFree, abin, aInt, aUn, aNilCheck, retQ, retQ1, aresults, aresultL, aresult, mkF, undefV, reduceCtorEq, kD, kE, kF, kG, kH, kI, kJ, kK, aExtract, calleeOf, ixA _ (b + y) hyn, ixA _ x hxn, l1, l2, e1, e2, hws]
     exact loop_again (ls.length - (j + 1)) [(1, .pointer (some ⟨B, 0, none⟩)), (4, .int .i64 b), (5, .int .i64 i), (9, dv), (10, .int .i64 s), (11, .slice (some ⟨A, 0, none⟩) i i), (13, .int .i64 (0 : Nat)), (14, .int .i64 far), (15, .int .i64 (j + 1 : Nat))] hls (by simp only [hasAll, kS1, bLookup, bMapSet, wantA, isCall, stepOp, evalO, evalL, evalP, evalM, putDst, flat, kA, kB, Nat.reduceLT, ↓reduceIte, kC, Nat.reduceEqDiff, aBuiltin, abinG, guardFree, abin, aInt, aUn, aNilCheck, retQ, retQ1, aresults, aresultL, aresult, mkF, undefV, reduceCtorEq, kD, kE, kF, kG, kH, kI, kJ, kK, aExtract, calleeOf]; simp) ⟨j + 1, rfl, hjl, rfl, by rw [hfl, hlk, hD, if_neg (fun h => r2 h.2)]; exact oX, lex⟩
   ·have e1 : decide (C.getD (b + y) 0 = (far : Int)) = false := decide_eq_false r1
    simp only [kS1, bLookup, bMapSet, wantA, isCall, stepOp, evalO, evalL, evalP, evalM, putDst, flat, kA, kB, Nat.reduceLT, ↓reduceIte, kC, Nat.reduceEqDiff, aBuiltin, abinG, guardFree, abin, aInt, aUn, aNilCheck, retQ, retQ1, aresults, aresultL, aresult, mkF, undefV, reduceCtorEq, kD, kE, kF, kG, kH, kI, kJ, kK, aExtract, calleeOf, ixA _ (b + y) hyn, ixA _ x hxn, l1, l2, e1, hws]
    exact loop_again (ls.length - (j + 1)) [(1, .pointer (some ⟨B, 0, none⟩)), (4, .int .i64 b), (5, .int .i64 i), (9, dv), (10, .int .i64 s), (11, .slice (some ⟨A, 0, none⟩) i i), (13, .int .i64 (0 : Nat)), (14, .int .i64 far), (15, .int .i64 (j + 1 : Nat))] hls (by simp only [hasAll, kS1, bLookup, bMapSet, wantA, isCall, stepOp, evalO, evalL, evalP, evalM, putDst, flat, kA, kB, Nat.reduceLT, ↓reduceIte, kC, Nat.reduceEqDiff, aBuiltin, abinG, guardFree, abin, aInt, aUn, aNilCheck, retQ, retQ1, aresults, aresultL, aresult, mkF, undefV, reduceCtorEq, kD, kE, kF, kG, kH, kI, kJ, kK, aExtract, calleeOf]; simp) ⟨j + 1, rfl, hjl, rfl, by rw [hfl, hlk, hD, if_neg (fun h => r1 h.1)]; exact oX, lex⟩
 have hge : i ≤ far := lt_f hf
 obtain rfl : i = far := by omega
 have hML : awayK b i ls s i = awayM b i ls s := rfl
 have hKl := awayK_length b i ls s i
 rw [hML] at oA hKl
 have hsucc := depK_succ b i ls s
 have hdl : (depK b i ls s).length = s := by simp [depK]
 generalize hLM : awayM b i ls s = L at *
 simp only [kS1, bLookup, bMapSet, wantA, isCall, stepOp, evalO, evalL, evalP, evalM, putDst, flat, kA, kB, Nat.reduceLT, ↓reduceIte, kC, Nat.reduceEqDiff, aBuiltin, abinG, guardFree, abin, aInt, aUn, aNilCheck, retQ, retQ1, aresults, aresultL, aresult, mkF, undefV, reduceCtorEq, kD, kE, kF, kG, kH, kI, kJ, kK, aExtract, calleeOf]
 refine KLoop.intro (fun k fr hx => ∃ (j : Nat), k = i - j ∧ j ≤ i ∧ fr = mkF [(1, .pointer (some ⟨B, 0, none⟩)), (4, .int .i64 b), (5, .int .i64 i), (9, dv), (10, .int .i64 s), (11, .slice (some ⟨A, 0, none⟩) i i), (13, .int .i64 (maxL (L.take j))), (18, .int .i64 j)] ∧ (∀ x ∈ L.take j, 0 ≤ x) ∧ hx = hy)
  i [(1, .pointer (some ⟨B, 0, none⟩)), (4, .int .i64 b), (5, .int .i64 i), (9, dv), (10, .int .i64 s), (11, .slice (some ⟨A, 0, none⟩) i i), (13, .int .i64 ((0 : Nat) : Int)), (18, .int .i64 (0 : Nat))] (by simp only [hasAll, kS1, bLookup, bMapSet, wantA, isCall, stepOp, evalO, evalL, evalP, evalM, putDst, flat, kA, kB, Nat.reduceLT, ↓reduceIte, kC, Nat.reduceEqDiff, aBuiltin, abinG, guardFree, abin, aInt, aUn, aNilCheck, retQ, retQ1, aresults, aresultL, aresult, mkF, undefV, reduceCtorEq, kD, kE, kF, kG, kH, kI, kJ, kK, aExtract, calleeOf]; simp)
  ⟨0, rfl, Nat.zero_le _, by simp [maxL], by simp, rfl⟩ ?_
 rintro k fr hx hwx ⟨j, rfl, hj, rfl, hpos, rfl⟩
 simp only [kS1, bLookup, bMapSet, wantA, isCall, stepOp, evalO, evalL, evalP, evalM, putDst, flat, kA, kB, Nat.reduceLT, ↓reduceIte, kC, Nat.reduceEqDiff, aBuiltin, abinG, guardFree, abin, aInt, aUn, aNilCheck, retQ, retQ1, aresults, aresultL, aresult, mkF, undefV, reduceCtorEq, kD, kE, kF, kG, kH, kI, kJ, kK, aExtract, calleeOf]
 refine KCond.intro (fun ht => ?_) (fun hf => ?_)
 ·have hji : j < i := lt_t ht
  clear ht
  have ld := ldA hx L j oA hKl hji
  have hgd : L.getD j 0 = L[j] := getD_of (by omega)
  have htk : L.take (j + 1) = L.take j ++ [L[j]] := List.take_succ_eq_append_getElem (by omega)
  have hmem := List.getElem_mem (show j < L.length by omega)
  rw [hgd] at ld
  generalize L[j] = x at *
  by_cases q : x < 0
  ·have d : decide (x < 0) = true := decide_eq_true q
   simp only [kS1, bLookup, bMapSet, wantA, isCall, stepOp, evalO, evalL, evalP, evalM, putDst, flat, kA, kB, Nat.reduceLT, ↓reduceIte, kC, Nat.reduceEqDiff, aBuiltin, abinG, guardFree, abin, aInt, aUn, aNilCheck, retQ, retQ1, aresults, aresultL, aresult, mkF, undefV, reduceCtorEq, kD, kE, kF, kG, kH, kI, kJ, kK, aExtract, calleeOf, ixA _ j hji, ld, d]
   exact ⟨l3.trans (leq.trans ley), .inl ⟨fun G => by have := G.all s hsn x (by rw [hLM]; exact hmem); omega, trivial⟩⟩
  have d : decide (x < 0) = false := decide_eq_false q
  have hmx : maxL (L.take (j + 1)) = max (maxL (L.take j)) x := by rw [htk, maxL, List.foldl_append]; rfl
  simp only [kS1, bLookup, bMapSet, wantA, isCall, stepOp, evalO, evalL, evalP, evalM, putDst, flat, kA, kB, Nat.reduceLT, ↓reduceIte, kC, Nat.reduceEqDiff, aBuiltin, abinG, guardFree, abin, aInt, aUn, aNilCheck, retQ, retQ1, aresults, aresultL, aresult, mkF, undefV, reduceCtorEq, kD, kE, kF, kG, kH, kI, kJ, kK, aExtract, calleeOf, ixA _ j hji, ld, d, amax_i, awrap_succ j (by omega)]
  exact loop_again (i - (j + 1)) [(1, .pointer (some ⟨B, 0, none⟩)), (4, .int .i64 b), (5, .int .i64 i), (9, dv), (10, .int .i64 s), (11, .slice (some ⟨A, 0, none⟩) i i), (13, .int .i64 (max (maxL (L.take j)) x)), (18, .int .i64 (j + 1 : Nat))] (by omega) (by simp only [hasAll, kS1, bLookup, bMapSet, wantA, isCall, stepOp, evalO, evalL, evalP, evalM, putDst, flat, kA, kB, Nat.reduceLT, ↓reduceIte, kC, Nat.reduceEqDiff, aBuiltin, abinG, guardFree, abin, aInt, aUn, aNilCheck, retQ, retQ1, aresults, aresultL, aresult, mkF, undefV, reduceCtorEq, kD, kE, kF, kG, kH, kI, kJ, kK, aExtract, calleeOf]; simp)
   ⟨j + 1, rfl, hji, by rw [hmx]; rfl, (fun y hy => by
    rw [htk, List.mem_append] at hy
    rcases hy with hy | hy
    ·exact hpos y hy
    ·simp at hy; omega), rfl⟩
 have hge2 : i ≤ j := lt_f hf
 rw [List.take_of_length_le (by omega)] at hpos
 rw [show L.take j = L from List.take_of_length_le (by omega)]
 obtain ⟨v', g4, g5, q4, q5, gd5, w5, lq4, f5, -⟩ := (gd.le ley).push hwx (maxL L) (by omega)
 obtain ⟨l5, a5⟩ := f5 h3 (leq.trans ley) ad3
 rw [← hsucc] at gd5
 simp only [kS1, bLookup, bMapSet, wantA, isCall, stepOp, evalO, evalL, evalP, evalM, putDst, flat, kA, kB, Nat.reduceLT, ↓reduceIte, kC, Nat.reduceEqDiff, aBuiltin, abinG, guardFree, abin, aInt, aUn, aNilCheck, retQ, retQ1, aresults, aresultL, aresult, mkF, undefV, reduceCtorEq, kD, kE, kF, kG, kH, kI, kJ, kK, aExtract, calleeOf, q4, q5, awrap_succ s (by omega)]
 refine loop_again (i - (s + 1)) [(1, .pointer (some ⟨B, 0, none⟩)), (4, .int .i64 b), (5, .int .i64 i), (9, v'), (10, .int .i64 (s + 1 : Nat))] (by omega) (by simp only [hasAll, kS1, bLookup, bMapSet, wantA, isCall, stepOp, evalO, evalL, evalP, evalM, putDst, flat, kA, kB, Nat.reduceLT, ↓reduceIte, kC, Nat.reduceEqDiff, aBuiltin, abinG, guardFree, abin, aInt, aUn, aNilCheck, retQ, retQ1, aresults, aresultL, aresult, mkF, undefV, reduceCtorEq, kD, kE, kF, kG, kH, kI, kJ, kK, aExtract, calleeOf]; simp)
  ⟨s + 1, v', rfl, hsn, rfl, gd5, fun t ht x hx' => ?_, l5, a5⟩
 by_cases e : t = s
 ·subst e; rw [hLM] at hx'; exact hpos x hx'
 ·exact hall t (by omega) x hx'
end Go.Fw
