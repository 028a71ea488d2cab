/- A text of the proof. -/
import Derived.Test.YtnaahaldkpdjlaaFwLH8
import Derived.Test.YtnaahaldkpdjlaaFwLF28
import Derived.Test.YtnaahaldkpdjlaaFwLF14
import Derived.Test.YtnaahaldkpdjlaaFwLB8
import Derived.Test.YtnaahaldkpdjlaaFwLB11
set_option linter.unusedSimpArgs false
set_option linter.unusedVariables false
namespace Go.Fw
open Go.Proofs
attribute [local irreducible] KO4 KO3 KO2 KO1 KO KN KX KE VK KCond KDraw KCall KLoop
set_option maxHeartbeats 16000000
set_option maxRecDepth 10000
attribute [local instance] Classical.propDecidable
attribute [local irreducible] facesM PlaneM besM
theorem Great2_any (W0 : Base) (v : Value) (rs : List (List Int)) (h : AHeap) (hv : RL (RL isI) h v rs) (hn : rs.length ≤ 9223372036854775807) : AC Try.prog W0 37 [v] h fun x h' => BoolIs (GreatM rs) x ∧ h' = h := by
 refine AC.vc (fn := Try.f37) (c := _) ⟨Try.func37, rfl, by decide⟩ Try.ntmps37 Try.results37 (by simp) fun hwf => ?_
 simp only [argFrame, argFrom, Nat.reduceAdd]
 have lr := fun g => hv.len (P := Try.prog) Try.underlying52 g
 simp only [kS1, bLookup, bMapSet, wantA, isCall, stepOp, evalO, evalL, evalP, evalM, putDst, flat, kA, kB, Nat.reduceLT, ↓reduceIte, kC, Nat.reduceEqDiff, aBuiltin, abinG, guardFree, abin, aInt, aUn, aNilCheck, retQ, retQ1, aresults, aresultL, aresult, mkF, undefV, reduceCtorEq, kD, kE, kF, kG, kH, kI, kJ, kK, aExtract, calleeOf, lr]
 refine KLoop.intro (fun k fr hq => ∃ i, k = rs.length - i ∧ i ≤ rs.length ∧ fr = mkF [(0, v), (5, v), (6, .int .i64 rs.length), (7, .int .i64 i)] ∧ hq = h ∧ ∀ l ∈ rs.take i, ¬ 40 < l.length)
  rs.length [(0, v), (5, v), (6, .int .i64 rs.length), (7, .int .i64 (0 : Nat))] (by simp only [hasAll, kS1, bLookup, bMapSet, wantA, isCall, stepOp, evalO, evalL, evalP, evalM, putDst, flat, kA, kB, Nat.reduceLT, ↓reduceIte, kC, Nat.reduceEqDiff, aBuiltin, abinG, guardFree, abin, aInt, aUn, aNilCheck, retQ, retQ1, aresults, aresultL, aresult, mkF, undefV, reduceCtorEq, kD, kE, kF, kG, kH, kI, kJ, kK, aExtract, calleeOf]; simp) ⟨0, rfl, Nat.zero_le _, rfl, rfl, fun l hl => absurd hl List.not_mem_nil⟩ ?_
 rintro k fr hq hwq ⟨i, rfl, hi, rfl, rfl, hno⟩
 simp only [kS1, bLookup, bMapSet, wantA, isCall, stepOp, evalO, evalL, evalP, evalM, putDst, flat, kA, kB, Nat.reduceLT, ↓reduceIte, kC, Nat.reduceEqDiff, aBuiltin, abinG, guardFree, abin, aInt, aUn, aNilCheck, retQ, retQ1, aresults, aresultL, aresult, mkF, undefV, reduceCtorEq, kD, kE, kF, kG, kH, kI, kJ, kK, aExtract, calleeOf]
 refine KCond.intro (fun ht => ?_) (fun hf => ?_)
 ·have hlt : i < rs.length := lt_t ht
  clear ht
  have ar := hv.addr (P := Try.prog) Try.underlying52 Try.underlying38 (by kernel_rfl) (k := .i64) i hlt
  obtain ⟨u, lu, hu⟩ := hv.load (P := Try.prog) Try.underlying38 rfl i hlt
  have ll := fun g => hu.len (P := Try.prog) Try.underlying38 g
  have htk : rs.take (i + 1) = rs.take i ++ [rs[i]] := List.take_succ_eq_append_getElem hlt
  by_cases c : 40 < (rs[i]).length
  ·have d : decide ((((rs[i]).length : Nat) : Int) > 40) = true := decide_eq_true (by omega)
   simp only [kS1, bLookup, bMapSet, wantA, isCall, stepOp, evalO, evalL, evalP, evalM, putDst, flat, kA, kB, Nat.reduceLT, ↓reduceIte, kC, Nat.reduceEqDiff, aBuiltin, abinG, guardFree, abin, aInt, aUn, aNilCheck, retQ, retQ1, aresults, aresultL, aresult, mkF, undefV, reduceCtorEq, kD, kE, kF, kG, kH, kI, kJ, kK, aExtract, calleeOf, ar, lu, ll, d]
   exact ⟨BoolIs.t (.inl ⟨_, List.getElem_mem hlt, c⟩), trivial⟩
  ·have d : decide ((((rs[i]).length : Nat) : Int) > 40) = false := decide_eq_false (by omega)
   have hw : awrap .i64 ((i : Int) + 1) = ((i + 1 : Nat) : Int) := awrap_i64 _ (by omega) (by omega)
   simp only [kS1, bLookup, bMapSet, wantA, isCall, stepOp, evalO, evalL, evalP, evalM, putDst, flat, kA, kB, Nat.reduceLT, ↓reduceIte, kC, Nat.reduceEqDiff, aBuiltin, abinG, guardFree, abin, aInt, aUn, aNilCheck, retQ, retQ1, aresults, aresultL, aresult, mkF, undefV, reduceCtorEq, kD, kE, kF, kG, kH, kI, kJ, kK, aExtract, calleeOf, ar, lu, ll, d, hw]
   refine loop_again (rs.length - (i + 1)) [(0, v), (5, v), (6, .int .i64 rs.length), (7, .int .i64 (i + 1 : Nat))] (stp hlt) (by simp only [hasAll, kS1, bLookup, bMapSet, wantA, isCall, stepOp, evalO, evalL, evalP, evalM, putDst, flat, kA, kB, Nat.reduceLT, ↓reduceIte, kC, Nat.reduceEqDiff, aBuiltin, abinG, guardFree, abin, aInt, aUn, aNilCheck, retQ, retQ1, aresults, aresultL, aresult, mkF, undefV, reduceCtorEq, kD, kE, kF, kG, kH, kI, kJ, kK, aExtract, calleeOf]; simp) ⟨i + 1, rfl, hlt, rfl, rfl, fun l hl => ?_⟩
   rw [htk, List.mem_append, List.mem_singleton] at hl
   rcases hl with hl | rfl
   ·exact hno l hl
   ·exact c
 ·have hge : rs.length ≤ i := lt_f hf
  rw [List.take_of_length_le hge] at hno
  simp only [kS1, bLookup, bMapSet, wantA, isCall, stepOp, evalO, evalL, evalP, evalM, putDst, flat, kA, kB, Nat.reduceLT, ↓reduceIte, kC, Nat.reduceEqDiff, aBuiltin, abinG, guardFree, abin, aInt, aUn, aNilCheck, retQ, retQ1, aresults, aresultL, aresult, mkF, undefV, reduceCtorEq, kD, kE, kF, kG, kH, kI, kJ, kK, aExtract, calleeOf, lr]
  refine ⟨⟨_, rfl, ?_⟩, trivial⟩
  rw [decide_eq_true_iff]
  constructor
  ·intro h; exact .inr (by omega)
  ·rintro (⟨l, hl, h⟩ | h)
   ·exact absurd h (hno l hl)
   ·omega
def RC (rs : List (List Int)) : Prop := ∃ es, RightG ⟨(rs.length : Int), es⟩ ∧ RotG rs.length es rs
noncomputable def FLs (rs : List (List Int)) : List (List Int) := if RC rs then facesM rs.length rs else []
noncomputable def EEs (rs : List (List Int)) : Int := if RC rs then 0 else 70
theorem faces_un {rs : List (List Int)} {h : AHeap} {x : Value} (H : (x = .tuple #[.slice none 0 0, .int .i64 70] ∧ ¬ ∃ es, RightG ⟨(rs.length : Int), es⟩ ∧ RotG rs.length es rs) ∨
      ∃ es fv, RightG ⟨(rs.length : Int), es⟩ ∧ RotG rs.length es rs ∧ x = .tuple #[fv, .int .i64 0] ∧ RL (RL isI) h fv (facesM rs.length rs)) : ∃ fv, x = .tuple #[fv, .int .i64 (EEs rs)] ∧ RL (RL isI) h fv (FLs rs) := by
  rcases H with ⟨rfl, hno⟩ | ⟨es, fv, hr, G, rfl, hf⟩
  · have hno : ¬ RC rs := hno
    refine ⟨.slice none 0 0, ?_, ?_⟩
    · unfold EEs; rw [if_neg hno]
    · unfold FLs; rw [if_neg hno]; exact RL.nil
  · refine ⟨fv, ?_, ?_⟩
    · unfold EEs; rw [if_pos ⟨es, hr, G⟩]
    · unfold FLs; rw [if_pos ⟨es, hr, G⟩]; exact hf
theorem FLs_len (rs : List (List Int)) : (FLs rs).length ≤ 40000 ∧ ∀ f ∈ FLs rs, f.length ≤ 40000 := by
 unfold FLs
 by_cases c : RC rs
 ·rw [if_pos c]
  obtain ⟨es, hr, G⟩ := c
  exact dart_len hr G
 ·rw [if_neg c]; simp
theorem boolIs_eq {P : Prop} {b c : Bool} (h1 : b = true ↔ P) (h2 : c = true ↔ P) : b = c := by
 rw [Bool.eq_iff_iff, h1, h2]
def RotL (h : AHeap) (v : Value) (rs : List (List Int)) : Prop := RL (RL isI) h v rs ∧ rs.length ≤ 9223372036854775807
theorem FTells_law (W0 : Base) (v rv : Value) (G : GM) (rs : List (List Int)) (h : AHeap) (hg : GR h v G) (hrl : RotL h rv rs) :
  AC Try.prog W0 9 [v, rv] h fun x h' => x = .bool true ∧ True := by
 have hg0 := hg
 obtain ⟨gn, es⟩ := G
 obtain ⟨ev, rfl, hp⟩ := hg.open
 obtain ⟨hr, hlen⟩ := hrl
 refine AC.vc (fn := Try.f9) (c := _) ⟨Try.func9, rfl, by decide⟩ Try.ntmps9 Try.results9 (by simp) fun hwf => ?_
 simp only [argFrame, argFrom, Nat.reduceAdd]
 obtain ⟨h1, b1, le1, wf1, -, lA⟩ := boxG (n := gn) hwf hp
 have lA1 := lA h1 (Le.refl _)
 generalize h.next = B at *
 have ll := fun g => hp.len g
 by_cases c1 : gn > 30
 ·have d1 : decide (gn > 30) = true := decide_eq_true c1
  simp only [kS1, bLookup, bMapSet, wantA, isCall, stepOp, evalO, evalL, evalP, evalM, putDst, flat, kA, kB, Nat.reduceLT, ↓reduceIte, kC, Nat.reduceEqDiff, aBuiltin, abinG, guardFree, abin, aInt, aUn, aNilCheck, retQ, retQ1, aresults, aresultL, aresult, mkF, undefV, reduceCtorEq, kD, kE, kF, kG, kH, kI, kJ, kK, aExtract, calleeOf, b1, fg0, fg1, aadd, Nat.zero_add, lA1.2.1, d1]
  refine KCall.intro (by simp only [kS1, bLookup, bMapSet, wantA, isCall, stepOp, evalO, evalL, evalP, evalM, putDst, flat, kA, kB, Nat.reduceLT, ↓reduceIte, kC, Nat.reduceEqDiff, aBuiltin, abinG, guardFree, abin, aInt, aUn, aNilCheck, retQ, retQ1, aresults, aresultL, aresult, mkF, undefV, reduceCtorEq, kD, kE, kF, kG, kH, kI, kJ, kK, aExtract, calleeOf] <;> rfl) ⟨Try.func27, rfl, by decide⟩ (awake7_any W0 h1) ?_
  rintro x h2 w2 ⟨rfl, l2⟩
  simp only [kS1, bLookup, bMapSet, wantA, isCall, stepOp, evalO, evalL, evalP, evalM, putDst, flat, kA, kB, Nat.reduceLT, ↓reduceIte, kC, Nat.reduceEqDiff, aBuiltin, abinG, guardFree, abin, aInt, aUn, aNilCheck, retQ, retQ1, aresults, aresultL, aresult, mkF, undefV, reduceCtorEq, kD, kE, kF, kG, kH, kI, kJ, kK, aExtract, calleeOf]
  exact ⟨trivial, trivial⟩
 have d1 : decide (gn > 30) = false := decide_eq_false c1
 by_cases c2 : (es.length : Int) > 200
 ·have d2 : decide ((es.length : Int) > 200) = true := decide_eq_true c2
  simp only [kS1, bLookup, bMapSet, wantA, isCall, stepOp, evalO, evalL, evalP, evalM, putDst, flat, kA, kB, Nat.reduceLT, ↓reduceIte, kC, Nat.reduceEqDiff, aBuiltin, abinG, guardFree, abin, aInt, aUn, aNilCheck, retQ, retQ1, aresults, aresultL, aresult, mkF, undefV, reduceCtorEq, kD, kE, kF, kG, kH, kI, kJ, kK, aExtract, calleeOf, b1, fg0, fg1, aadd, Nat.zero_add, lA1.2.1, lA1.2.2, ll, d1, d2]
  refine KCall.intro (by simp only [kS1, bLookup, bMapSet, wantA, isCall, stepOp, evalO, evalL, evalP, evalM, putDst, flat, kA, kB, Nat.reduceLT, ↓reduceIte, kC, Nat.reduceEqDiff, aBuiltin, abinG, guardFree, abin, aInt, aUn, aNilCheck, retQ, retQ1, aresults, aresultL, aresult, mkF, undefV, reduceCtorEq, kD, kE, kF, kG, kH, kI, kJ, kK, aExtract, calleeOf] <;> rfl) ⟨Try.func27, rfl, by decide⟩ (awake7_any W0 h1) ?_
  rintro x h2 w2 ⟨rfl, l2⟩
  simp only [kS1, bLookup, bMapSet, wantA, isCall, stepOp, evalO, evalL, evalP, evalM, putDst, flat, kA, kB, Nat.reduceLT, ↓reduceIte, kC, Nat.reduceEqDiff, aBuiltin, abinG, guardFree, abin, aInt, aUn, aNilCheck, retQ, retQ1, aresults, aresultL, aresult, mkF, undefV, reduceCtorEq, kD, kE, kF, kG, kH, kI, kJ, kK, aExtract, calleeOf]
  exact ⟨trivial, trivial⟩
 have d2 : decide ((es.length : Int) > 200) = false := decide_eq_false c2
 have hes : es.length ≤ 200 := by omega
 simp only [kS1, bLookup, bMapSet, wantA, isCall, stepOp, evalO, evalL, evalP, evalM, putDst, flat, kA, kB, Nat.reduceLT, ↓reduceIte, kC, Nat.reduceEqDiff, aBuiltin, abinG, guardFree, abin, aInt, aUn, aNilCheck, retQ, retQ1, aresults, aresultL, aresult, mkF, undefV, reduceCtorEq, kD, kE, kF, kG, kH, kI, kJ, kK, aExtract, calleeOf, b1, fg0, fg1, aadd, Nat.zero_add, lA1.2.1, lA1.2.2, ll, d1, d2]
 refine KCall.intro (by simp only [kS1, bLookup, bMapSet, wantA, isCall, stepOp, evalO, evalL, evalP, evalM, putDst, flat, kA, kB, Nat.reduceLT, ↓reduceIte, kC, Nat.reduceEqDiff, aBuiltin, abinG, guardFree, abin, aInt, aUn, aNilCheck, retQ, retQ1, aresults, aresultL, aresult, mkF, undefV, reduceCtorEq, kD, kE, kF, kG, kH, kI, kJ, kK, aExtract, calleeOf] <;> rfl) ⟨Try.func37, rfl, by decide⟩ (Great2_any W0 rv rs h1 (hr.le (Stays.RL Stays.isI) le1) hlen) ?_
 rintro x h1' w1' ⟨⟨b, rfl, hb⟩, rfl⟩
 cases b with
 | true =>
  simp only [kS1, bLookup, bMapSet, wantA, isCall, stepOp, evalO, evalL, evalP, evalM, putDst, flat, kA, kB, Nat.reduceLT, ↓reduceIte, kC, Nat.reduceEqDiff, aBuiltin, abinG, guardFree, abin, aInt, aUn, aNilCheck, retQ, retQ1, aresults, aresultL, aresult, mkF, undefV, reduceCtorEq, kD, kE, kF, kG, kH, kI, kJ, kK, aExtract, calleeOf]
  refine KCall.intro (by simp only [kS1, bLookup, bMapSet, wantA, isCall, stepOp, evalO, evalL, evalP, evalM, putDst, flat, kA, kB, Nat.reduceLT, ↓reduceIte, kC, Nat.reduceEqDiff, aBuiltin, abinG, guardFree, abin, aInt, aUn, aNilCheck, retQ, retQ1, aresults, aresultL, aresult, mkF, undefV, reduceCtorEq, kD, kE, kF, kG, kH, kI, kJ, kK, aExtract, calleeOf] <;> rfl) ⟨Try.func27, rfl, by decide⟩ (awake7_any W0 h1') ?_
  rintro x h2 w2 ⟨rfl, l2⟩
  simp only [kS1, bLookup, bMapSet, wantA, isCall, stepOp, evalO, evalL, evalP, evalM, putDst, flat, kA, kB, Nat.reduceLT, ↓reduceIte, kC, Nat.reduceEqDiff, aBuiltin, abinG, guardFree, abin, aInt, aUn, aNilCheck, retQ, retQ1, aresults, aresultL, aresult, mkF, undefV, reduceCtorEq, kD, kE, kF, kG, kH, kI, kJ, kK, aExtract, calleeOf]
  exact ⟨trivial, trivial⟩
 | false =>
 have hng : ¬ GreatM rs := fun q => by cases hb.2 q
 have h30 : rs.length ≤ 30 := by
  have : ¬ 30 < rs.length := fun q => hng (.inr q)
  omega
 have h40 : ∀ l ∈ rs, l.length ≤ 40 := fun l hl => by
  have : ¬ 40 < l.length := fun q => hng (.inl ⟨l, hl, q⟩)
  omega
 have h40' : ∀ l ∈ rs, l.length ≤ 100000 := fun l hl => Nat.le_trans (h40 l hl) (by decide)
 clear hb hng c1 c2 d1 d2
 simp only [kS1, bLookup, bMapSet, wantA, isCall, stepOp, evalO, evalL, evalP, evalM, putDst, flat, kA, kB, Nat.reduceLT, ↓reduceIte, kC, Nat.reduceEqDiff, aBuiltin, abinG, guardFree, abin, aInt, aUn, aNilCheck, retQ, retQ1, aresults, aresultL, aresult, mkF, undefV, reduceCtorEq, kD, kE, kF, kG, kH, kI, kJ, kK, aExtract, calleeOf]
 have hp1 := hp.le le1
 apply byOne2 (F := fun (fr : AFrame) (h5 : AHeap) => ∃ (X : Nat) (cv : Value), hasAll fr [(1, rv), (2, .pointer (some ⟨B, 0, none⟩)), (5, .pointer (some ⟨X, 0, none⟩))] ∧ Le h1' h5 ∧ WF h5 ∧ PR h5 cv es ∧ ∀ g, Le h5 g → aload Try.prog g 24 ⟨X, 0, none⟩ = some (.agg #[.int .i64 gn, cv]))
 ·intro cont
  refine KDraw.intro mixed (.fl 0 (.fl 1 (.fl 2 (.fl 3 (.ch 4 [3] (.fl 5 (.ch 6 [] (.ch 7 [0, 1, 2, 3, 4, 5, 6] (.done) .no) .no)) (.ch 6 [] (.ch 4 [3] (.fl 5 (.ch 7 [0, 1, 2, 3, 4, 5, 6] (.done) .no)) .no) .no)))))) (by kernel_rfl) ?_
  have alX : ∃ g, h1'.alloc (.cells [.int .i64 0, .slice none 0 0]) = g ∧ Le h1' g ∧ WF g ∧ g.own h1'.next = some (.cells [.int .i64 0, .slice none 0 0]) := alloc_f wf1 _
  obtain ⟨q1, y1, m1, v1, u1⟩ := alX
  have al1 : aAlloc Try.prog h1' 24 = some (.pointer (some ⟨h1'.next, 0, none⟩), q1) := by rw [alloc24, y1]
  have Q1 := lA q1 m1
  simp only [kJ1, bLookup, bMapSet, wantA, isCall, stepOp, evalO, evalL, evalP, evalM, putDst, flat, kA, kB, Nat.reduceLT, ↓reduceIte, kC, Nat.reduceEqDiff, aBuiltin, abinG, guardFree, abin, aInt, aUn, aNilCheck, retQ, retQ1, aresults, aresultL, aresult, mkF, undefV, reduceCtorEq, kD, kE, kF, kG, kH, kI, kJ, kK, aExtract, calleeOf, kD1, Nat.reduceBEq, HoldsAll, kL, kM, kN, kO, fg0, fg1, aadd, Nat.zero_add, lA1.2.1, lA1.2.2, al1, Q1.2.1, Q1.2.2]
  refine ⟨?_, ?_⟩
  ·refine KGCall.intro (by simp only [kS1, bLookup, bMapSet, wantA, isCall, stepOp, evalO, evalL, evalP, evalM, putDst, flat, kA, kB, Nat.reduceLT, ↓reduceIte, kC, Nat.reduceEqDiff, aBuiltin, abinG, guardFree, abin, aInt, aUn, aNilCheck, retQ, retQ1, aresults, aresultL, aresult, mkF, undefV, reduceCtorEq, kD, kE, kF, kG, kH, kI, kJ, kK, aExtract, calleeOf] <;> rfl) ⟨Try.func38, rfl, by decide⟩ (CopyPairs_any W0 ev es h1' hp1 (by omega)) ?_
   rintro cv h2 w2 ⟨gc, l2, -⟩
   have A2 := lA h2 l2
   have bld := build24 (n := gn) gc.pr.sl
   obtain ⟨h3, h4, a3, s3, l4, w4, lG⟩ := newG (n := gn) w2 gc.pr
   have A4 := lA h4 (l2.trans l4)
   have A3 : Le h2 h3 := by
    have := alloc24 h2; rw [a3] at this; injection this with this; injection this with _ this; rw [this]; exact (Le.refl h2).alloc w2 _
   have A3 := lA h3 (l2.trans A3)
   simp only [kJ1, bLookup, bMapSet, wantA, isCall, stepOp, evalO, evalL, evalP, evalM, putDst, flat, kA, kB, Nat.reduceLT, ↓reduceIte, kC, Nat.reduceEqDiff, aBuiltin, abinG, guardFree, abin, aInt, aUn, aNilCheck, retQ, retQ1, aresults, aresultL, aresult, mkF, undefV, reduceCtorEq, kD, kE, kF, kG, kH, kI, kJ, kK, aExtract, calleeOf, kD1, Nat.reduceBEq, HoldsAll, kL, kM, kN, kO, fg0, fg1, aadd, Nat.zero_add, A2.2.1, A2.2.2, bld, a3, s3, A3.2.1, A3.2.2, A4.2.1, A4.2.2]
   refine KN.gen2 fun fr' h' x y => cont fr' h' ?_
   subst x y
   exact ⟨_, cv, (by simp only [hasAll, kS1, bLookup, bMapSet, wantA, isCall, stepOp, evalO, evalL, evalP, evalM, putDst, flat, kA, kB, Nat.reduceLT, ↓reduceIte, kC, Nat.reduceEqDiff, aBuiltin, abinG, guardFree, abin, aInt, aUn, aNilCheck, retQ, retQ1, aresults, aresultL, aresult, mkF, undefV, reduceCtorEq, kD, kE, kF, kG, kH, kI, kJ, kK, aExtract, calleeOf]; simp), l2.trans l4, w4, gc.pr.le l4, fun g l => (lG g l).1⟩
  ·refine KGCall.intro (by simp only [kS1, bLookup, bMapSet, wantA, isCall, stepOp, evalO, evalL, evalP, evalM, putDst, flat, kA, kB, Nat.reduceLT, ↓reduceIte, kC, Nat.reduceEqDiff, aBuiltin, abinG, guardFree, abin, aInt, aUn, aNilCheck, retQ, retQ1, aresults, aresultL, aresult, mkF, undefV, reduceCtorEq, kD, kE, kF, kG, kH, kI, kJ, kK, aExtract, calleeOf] <;> rfl) ⟨Try.func38, rfl, by decide⟩ (CopyPairs_any W0 ev es q1 (hp1.le m1) (by omega)) ?_
   rintro cv h2 w2 ⟨gc, l2, ac⟩
   have A2 := lA h2 (m1.trans l2)
   have bld := build24 (n := gn) gc.pr.sl
   have nX : blk cv ≠ some h1'.next := fun e => by have := ac _ e; rw [u1] at this; cases this
   have oX := l2.own _ _ u1
   have n1 : h1'.own h1'.next = none := (Le.refl h1').next wf1 (Nat.le_refl _)
   have one := gc.pr.sl.one
   have ts24 : tsize Try.prog 24 = 2 := by kernel_rfl
   have hc : (Value.agg #[.int .i64 gn, cv]).cells = #[.int .i64 gn, cv] := rfl
   have hz0 : (Value.int IntKind.i64 gn).oneCell' = true := rfl
   have st : aStore Try.prog h2 24 (.pointer (some ⟨h1'.next, 0, none⟩)) (.agg #[.int .i64 gn, cv]) = some (h2.put h1'.next (.cells [.int .i64 gn, cv])) := by
    simp [aStore, oX, hc, ts24, putCells, Try.underlying24, one, hz0]
   have ho : (h2.put h1'.next (.cells [.int .i64 gn, cv])).own h1'.next = some (.cells [.int .i64 gn, cv]) := AHeap.own_put_eq _ _ _
   have l4 : Le h1' (h2.put h1'.next (.cells [.int .i64 gn, cv])) := (m1.trans l2).put _ n1
   have A4 := lA _ l4
   simp only [kJ1, bLookup, bMapSet, wantA, isCall, stepOp, evalO, evalL, evalP, evalM, putDst, flat, kA, kB, Nat.reduceLT, ↓reduceIte, kC, Nat.reduceEqDiff, aBuiltin, abinG, guardFree, abin, aInt, aUn, aNilCheck, retQ, retQ1, aresults, aresultL, aresult, mkF, undefV, reduceCtorEq, kD, kE, kF, kG, kH, kI, kJ, kK, aExtract, calleeOf, kD1, Nat.reduceBEq, HoldsAll, kL, kM, kN, kO, fg0, fg1, aadd, Nat.zero_add, A2.2.1, A2.2.2, bld, st, A4.2.1, A4.2.2]
   refine KN.gen2 fun fr' h' x y => cont fr' h' ?_
   subst x y
   exact ⟨h1'.next, cv, (by simp only [hasAll, kS1, bLookup, bMapSet, wantA, isCall, stepOp, evalO, evalL, evalP, evalM, putDst, flat, kA, kB, Nat.reduceLT, ↓reduceIte, kC, Nat.reduceEqDiff, aBuiltin, abinG, guardFree, abin, aInt, aUn, aNilCheck, retQ, retQ1, aresults, aresultL, aresult, mkF, undefV, reduceCtorEq, kD, kE, kF, kG, kH, kI, kJ, kK, aExtract, calleeOf]; simp), l4, w2.put _ (w2.lt oX), GP.pr (GS.put gc _ nX), fun g l => by rw [aload_own Try.underlying24 rfl ts24 (l.own _ _ ho) (by simp)]; rfl⟩
 rintro fr h5 ⟨X, cv, hfr, le5, wf5, pc, lX⟩
 simp only [hasAll] at hfr
 obtain ⟨f1, f2, f3, -⟩ := hfr
 have gX : ∀ g, Le h5 g → GR g (.agg #[.int .i64 gn, cv]) ⟨gn, es⟩ := fun g l => ⟨cv, rfl, pc.le l⟩
 have gA : ∀ g, Le h5 g → GR g (.agg #[.int .i64 gn, ev]) ⟨gn, es⟩ := fun g l => hg0.le (le1.trans (le5.trans l))
 have rA : ∀ g, Le h5 g → RL (RL isI) g rv rs := fun g l => hr.le (Stays.RL Stays.isI) (le1.trans (le5.trans l))
 have lA5 := fun g (l : Le h5 g) => lA g (le5.trans l)
 simp only [kS1, bLookup, bMapSet, wantA, isCall, stepOp, evalO, evalL, evalP, evalM, putDst, flat, kA, kB, Nat.reduceLT, ↓reduceIte, kC, Nat.reduceEqDiff, aBuiltin, abinG, guardFree, abin, aInt, aUn, aNilCheck, retQ, retQ1, aresults, aresultL, aresult, mkF, undefV, reduceCtorEq, kD, kE, kF, kG, kH, kI, kJ, kK, aExtract, calleeOf, f1]
 refine KCall.intro (by simp only [kS1, bLookup, bMapSet, wantA, isCall, stepOp, evalO, evalL, evalP, evalM, putDst, flat, kA, kB, Nat.reduceLT, ↓reduceIte, kC, Nat.reduceEqDiff, aBuiltin, abinG, guardFree, abin, aInt, aUn, aNilCheck, retQ, retQ1, aresults, aresultL, aresult, mkF, undefV, reduceCtorEq, kD, kE, kF, kG, kH, kI, kJ, kK, aExtract, calleeOf] <;> rfl) ⟨Try.func35, rfl, by decide⟩ (Copy_any W0 rv rs h5 (rA h5 (Le.refl _)) (by omega) h40') ?_
 rintro ov h6 w6 ⟨ro, l6⟩
 simp only [kS1, bLookup, bMapSet, wantA, isCall, stepOp, evalO, evalL, evalP, evalM, putDst, flat, kA, kB, Nat.reduceLT, ↓reduceIte, kC, Nat.reduceEqDiff, aBuiltin, abinG, guardFree, abin, aInt, aUn, aNilCheck, retQ, retQ1, aresults, aresultL, aresult, mkF, undefV, reduceCtorEq, kD, kE, kF, kG, kH, kI, kJ, kK, aExtract, calleeOf]
 refine KCall.intro (by simp only [kS1, bLookup, bMapSet, wantA, isCall, stepOp, evalO, evalL, evalP, evalM, putDst, flat, kA, kB, Nat.reduceLT, ↓reduceIte, kC, Nat.reduceEqDiff, aBuiltin, abinG, guardFree, abin, aInt, aUn, aNilCheck, retQ, retQ1, aresults, aresultL, aresult, mkF, undefV, reduceCtorEq, kD, kE, kF, kG, kH, kI, kJ, kK, aExtract, calleeOf] <;> rfl) ⟨Try.func30, rfl, by decide⟩ (Faces_any W0 ov rs h6 ro) ?_
 rintro x h7 w7 ⟨l7, H⟩
 obtain ⟨g1, rfl, hg1⟩ := faces_un H
 clear H
 simp only [kS1, bLookup, bMapSet, wantA, isCall, stepOp, evalO, evalL, evalP, evalM, putDst, flat, kA, kB, Nat.reduceLT, ↓reduceIte, kC, Nat.reduceEqDiff, aBuiltin, abinG, guardFree, abin, aInt, aUn, aNilCheck, retQ, retQ1, aresults, aresultL, aresult, mkF, undefV, reduceCtorEq, kD, kE, kF, kG, kH, kI, kJ, kK, aExtract, calleeOf, f1]
 refine KCall.intro (by simp only [kS1, bLookup, bMapSet, wantA, isCall, stepOp, evalO, evalL, evalP, evalM, putDst, flat, kA, kB, Nat.reduceLT, ↓reduceIte, kC, Nat.reduceEqDiff, aBuiltin, abinG, guardFree, abin, aInt, aUn, aNilCheck, retQ, retQ1, aresults, aresultL, aresult, mkF, undefV, reduceCtorEq, kD, kE, kF, kG, kH, kI, kJ, kK, aExtract, calleeOf] <;> rfl) ⟨Try.func39, rfl, by decide⟩ (RFaces_any W0 rv rs h7 (rA h7 (l6.trans l7)) h40') ?_
 rintro x h8 w8 ⟨l8, H⟩
 obtain ⟨g2, rfl, hg2⟩ := faces_un H
 clear H
 have l08 := (l6.trans l7).trans l8
 have ro8 := ro.le (Stays.RL Stays.isI) (l7.trans l8)
 obtain ⟨n1, n2⟩ := FLs_len rs
 have n2' : ∀ f ∈ FLs rs, f.length ≤ 100000 := fun f hf => Nat.le_trans (n2 f hf) (by decide)
 have X8 := lX h8 l08
 have A8 := lA5 h8 l08
 simp only [kS1, bLookup, bMapSet, wantA, isCall, stepOp, evalO, evalL, evalP, evalM, putDst, flat, kA, kB, Nat.reduceLT, ↓reduceIte, kC, Nat.reduceEqDiff, aBuiltin, abinG, guardFree, abin, aInt, aUn, aNilCheck, retQ, retQ1, aresults, aresultL, aresult, mkF, undefV, reduceCtorEq, kD, kE, kF, kG, kH, kI, kJ, kK, aExtract, calleeOf, f1, f2, f3]
 refine KDraw.intro mixed (.fl 0 (.fl 1 (.fl 3 (.fl 4 (.ch 2 [0, 1] (.ch 5 [2, 3, 4] (.fl 6 (.fl 7 (.fl 8 (.fl 9 (.fl 10 (.fl 11 (.fl 12 (.fl 13 (.fl 14 (.ch 15 [12, 13, 14] (.fl 16 (.fl 17 (.fl 18 (.fl 19 (.fl 21 (.fl 22 (.ch 20 [17, 18, 19] (.ch 23 [17, 20, 21, 22] (.fl 24 (.fl 25 (.fl 26 (.fl 27 (.fl 29 (.ch 28 [26, 27] (.ch 30 [26, 28, 29] (.ch 31 [26, 28, 30] (.fl 32 (.fl 33 (.fl 34 (.fl 35 (.ch 36 [33, 34, 35] (.fl 37 (.fl 38 (.fl 39 (.fl 40 (.ch 41 [38, 39, 40] (.fl 42 (.fl 43 (.ch 44 [43] (.fl 45 (.fl 46 (.done))) .no))) .no))))) .no))))) .no) .no) .no)))))) .no) .no))))))) .no)))))))))) .no) .no))))) (by kernel_rfl) ?_
 simp only [kS1, bLookup, bMapSet, wantA, isCall, stepOp, evalO, evalL, evalP, evalM, putDst, flat, kA, kB, Nat.reduceLT, ↓reduceIte, kC, Nat.reduceEqDiff, aBuiltin, abinG, guardFree, abin, aInt, aUn, aNilCheck, retQ, retQ1, aresults, aresultL, aresult, mkF, undefV, reduceCtorEq, kD, kE, kF, kG, kH, kI, kJ, kK, aExtract, calleeOf, kD1, Nat.reduceBEq, HoldsAll, kL, kM, kN, kO, f1, f2, f3, X8, A8.1]
 refine KGCall.intro (by simp only [kS1, bLookup, bMapSet, wantA, isCall, stepOp, evalO, evalL, evalP, evalM, putDst, flat, kA, kB, Nat.reduceLT, ↓reduceIte, kC, Nat.reduceEqDiff, aBuiltin, abinG, guardFree, abin, aInt, aUn, aNilCheck, retQ, retQ1, aresults, aresultL, aresult, mkF, undefV, reduceCtorEq, kD, kE, kF, kG, kH, kI, kJ, kK, aExtract, calleeOf] <;> rfl) ⟨Try.func31, rfl, by decide⟩ (FRight_any W0 _ ov ⟨gn, es⟩ rs h8 (gX h8 l08) ro8) ?_
 rintro x h9 w9 ⟨⟨b, rfl, hb9⟩, l9⟩
 have X9 := lX h9 (l08.trans l9)
 have A9 := lA5 h9 (l08.trans l9)
 simp only [kS1, bLookup, bMapSet, wantA, isCall, stepOp, evalO, evalL, evalP, evalM, putDst, flat, kA, kB, Nat.reduceLT, ↓reduceIte, kC, Nat.reduceEqDiff, aBuiltin, abinG, guardFree, abin, aInt, aUn, aNilCheck, retQ, retQ1, aresults, aresultL, aresult, mkF, undefV, reduceCtorEq, kD, kE, kF, kG, kH, kI, kJ, kK, aExtract, calleeOf, kD1, Nat.reduceBEq, HoldsAll, kL, kM, kN, kO, f1, f2, f3, X8, A8.1, X9, A9.1]
 refine KGCall.intro (by simp only [kS1, bLookup, bMapSet, wantA, isCall, stepOp, evalO, evalL, evalP, evalM, putDst, flat, kA, kB, Nat.reduceLT, ↓reduceIte, kC, Nat.reduceEqDiff, aBuiltin, abinG, guardFree, abin, aInt, aUn, aNilCheck, retQ, retQ1, aresults, aresultL, aresult, mkF, undefV, reduceCtorEq, kD, kE, kF, kG, kH, kI, kJ, kK, aExtract, calleeOf] <;> rfl) ⟨Try.func40, rfl, by decide⟩ (RRight_any W0 _ rv ⟨gn, es⟩ rs h9 (gA h9 (l08.trans l9)) (rA h9 (l08.trans l9)) h40') ?_
 rintro x h10 w10 ⟨⟨b', rfl, hb10⟩, l10⟩
 obtain rfl := boolIs_eq hb9 hb10
 clear hb9 hb10
 have L10 := (l08.trans l9).trans l10
 have X10 := lX h10 L10
 have A10 := lA5 h10 L10
 have bb : (b == b) = true := by simp
 have dee : decide (EEs rs = EEs rs) = true := decide_eq_true rfl
 simp only [kS1, bLookup, bMapSet, wantA, isCall, stepOp, evalO, evalL, evalP, evalM, putDst, flat, kA, kB, Nat.reduceLT, ↓reduceIte, kC, Nat.reduceEqDiff, aBuiltin, abinG, guardFree, abin, aInt, aUn, aNilCheck, retQ, retQ1, aresults, aresultL, aresult, mkF, undefV, reduceCtorEq, kD, kE, kF, kG, kH, kI, kJ, kK, aExtract, calleeOf, kD1, Nat.reduceBEq, HoldsAll, kL, kM, kN, kO, f1, f2, f3, aEq, Try.underlying4, X8, A8.1, X9, A9.1, X10, A10.1, bb, dee]
 have rf1 := hg1.le (Stays.RL Stays.isI) ((l8.trans l9).trans l10)
 have rf2 := hg2.le (Stays.RL Stays.isI) (l9.trans l10)
 refine KGCall.intro (by simp only [kS1, bLookup, bMapSet, wantA, isCall, stepOp, evalO, evalL, evalP, evalM, putDst, flat, kA, kB, Nat.reduceLT, ↓reduceIte, kC, Nat.reduceEqDiff, aBuiltin, abinG, guardFree, abin, aInt, aUn, aNilCheck, retQ, retQ1, aresults, aresultL, aresult, mkF, undefV, reduceCtorEq, kD, kE, kF, kG, kH, kI, kJ, kK, aExtract, calleeOf] <;> rfl) ⟨Try.func32, rfl, by decide⟩ (SameLists_any W0 g1 g2 _ _ h10 rf1 rf2 (by omega) n2') ?_
 rintro x h11 w11 ⟨rfl, rfl⟩
 have dff : decide (FLs rs = FLs rs) = true := decide_eq_true rfl
 simp only [kS1, bLookup, bMapSet, wantA, isCall, stepOp, evalO, evalL, evalP, evalM, putDst, flat, kA, kB, Nat.reduceLT, ↓reduceIte, kC, Nat.reduceEqDiff, aBuiltin, abinG, guardFree, abin, aInt, aUn, aNilCheck, retQ, retQ1, aresults, aresultL, aresult, mkF, undefV, reduceCtorEq, kD, kE, kF, kG, kH, kI, kJ, kK, aExtract, calleeOf, kD1, Nat.reduceBEq, HoldsAll, kL, kM, kN, kO, f1, f2, f3, aEq, Try.underlying4, X8, A8.1, X9, A9.1, X10, A10.1, bb, dee, dff]
 have ro11 := ro8.le (Stays.RL Stays.isI) (l9.trans l10)
 refine KGCall.intro (by simp only [kS1, bLookup, bMapSet, wantA, isCall, stepOp, evalO, evalL, evalP, evalM, putDst, flat, kA, kB, Nat.reduceLT, ↓reduceIte, kC, Nat.reduceEqDiff, aBuiltin, abinG, guardFree, abin, aInt, aUn, aNilCheck, retQ, retQ1, aresults, aresultL, aresult, mkF, undefV, reduceCtorEq, kD, kE, kF, kG, kH, kI, kJ, kK, aExtract, calleeOf] <;> rfl) ⟨Try.func33, rfl, by decide⟩ (Plane_any W0 _ ov ⟨gn, es⟩ rs h11 (gX h11 L10) ro11) ?_
 rintro x h12 w12 ⟨⟨p, rfl, hp1'⟩, l12⟩
 have L12 := L10.trans l12
 have X12 := lX h12 L12
 have A12 := lA5 h12 L12
 simp only [kS1, bLookup, bMapSet, wantA, isCall, stepOp, evalO, evalL, evalP, evalM, putDst, flat, kA, kB, Nat.reduceLT, ↓reduceIte, kC, Nat.reduceEqDiff, aBuiltin, abinG, guardFree, abin, aInt, aUn, aNilCheck, retQ, retQ1, aresults, aresultL, aresult, mkF, undefV, reduceCtorEq, kD, kE, kF, kG, kH, kI, kJ, kK, aExtract, calleeOf, kD1, Nat.reduceBEq, HoldsAll, kL, kM, kN, kO, f1, f2, f3, aEq, Try.underlying4, X8, A8.1, X9, A9.1, X10, A10.1, bb, dee, dff, X12, A12.1]
 refine KGCall.intro (by simp only [kS1, bLookup, bMapSet, wantA, isCall, stepOp, evalO, evalL, evalP, evalM, putDst, flat, kA, kB, Nat.reduceLT, ↓reduceIte, kC, Nat.reduceEqDiff, aBuiltin, abinG, guardFree, abin, aInt, aUn, aNilCheck, retQ, retQ1, aresults, aresultL, aresult, mkF, undefV, reduceCtorEq, kD, kE, kF, kG, kH, kI, kJ, kK, aExtract, calleeOf] <;> rfl) ⟨Try.func41, rfl, by decide⟩ (RPlane_any W0 _ rv ⟨gn, es⟩ rs h12 (gA h12 L12) (rA h12 L12) h40') ?_
 rintro x h13 w13 ⟨⟨p', rfl, hp2'⟩, l13⟩
 obtain rfl := boolIs_eq hp1' hp2'
 clear hp1' hp2'
 have pp : (p == p) = true := by simp
 have L13 := L12.trans l13
 have X13 := lX h13 L13
 have A13 := lA5 h13 L13
 have ro13 := ro11.le (Stays.RL Stays.isI) (l12.trans l13)
 simp only [kS1, bLookup, bMapSet, wantA, isCall, stepOp, evalO, evalL, evalP, evalM, putDst, flat, kA, kB, Nat.reduceLT, ↓reduceIte, kC, Nat.reduceEqDiff, aBuiltin, abinG, guardFree, abin, aInt, aUn, aNilCheck, retQ, retQ1, aresults, aresultL, aresult, mkF, undefV, reduceCtorEq, kD, kE, kF, kG, kH, kI, kJ, kK, aExtract, calleeOf, kD1, Nat.reduceBEq, HoldsAll, kL, kM, kN, kO, f1, f2, f3, aEq, Try.underlying4, X8, A8.1, X9, A9.1, X10, A10.1, bb, dee, dff, X12, A12.1, X13, A13.1, pp]
 refine KGCall.intro (by simp only [kS1, bLookup, bMapSet, wantA, isCall, stepOp, evalO, evalL, evalP, evalM, putDst, flat, kA, kB, Nat.reduceLT, ↓reduceIte, kC, Nat.reduceEqDiff, aBuiltin, abinG, guardFree, abin, aInt, aUn, aNilCheck, retQ, retQ1, aresults, aresultL, aresult, mkF, undefV, reduceCtorEq, kD, kE, kF, kG, kH, kI, kJ, kK, aExtract, calleeOf] <;> rfl) ⟨Try.func42, rfl, by decide⟩ (Mirror_any W0 ov rs h13 ro13 (by omega) h40') ?_
 rintro m1 h14 w14 ⟨rm1, l14⟩
 have L14 := L13.trans l14
 have X14 := lX h14 L14
 have A14 := lA5 h14 L14
 simp only [kS1, bLookup, bMapSet, wantA, isCall, stepOp, evalO, evalL, evalP, evalM, putDst, flat, kA, kB, Nat.reduceLT, ↓reduceIte, kC, Nat.reduceEqDiff, aBuiltin, abinG, guardFree, abin, aInt, aUn, aNilCheck, retQ, retQ1, aresults, aresultL, aresult, mkF, undefV, reduceCtorEq, kD, kE, kF, kG, kH, kI, kJ, kK, aExtract, calleeOf, kD1, Nat.reduceBEq, HoldsAll, kL, kM, kN, kO, f1, f2, f3, aEq, Try.underlying4, X8, A8.1, X9, A9.1, X10, A10.1, bb, dee, dff, X12, A12.1, X13, A13.1, pp, X14, A14.1]
 refine KGCall.intro (by simp only [kS1, bLookup, bMapSet, wantA, isCall, stepOp, evalO, evalL, evalP, evalM, putDst, flat, kA, kB, Nat.reduceLT, ↓reduceIte, kC, Nat.reduceEqDiff, aBuiltin, abinG, guardFree, abin, aInt, aUn, aNilCheck, retQ, retQ1, aresults, aresultL, aresult, mkF, undefV, reduceCtorEq, kD, kE, kF, kG, kH, kI, kJ, kK, aExtract, calleeOf] <;> rfl) ⟨Try.func43, rfl, by decide⟩ (RMirror_any W0 rv rs h14 (rA h14 L14) (by omega) h40') ?_
 rintro m2 h15 w15 ⟨rm2, l15⟩
 have L15 := L14.trans l15
 have X15 := lX h15 L15
 have A15 := lA5 h15 L15
 simp only [kS1, bLookup, bMapSet, wantA, isCall, stepOp, evalO, evalL, evalP, evalM, putDst, flat, kA, kB, Nat.reduceLT, ↓reduceIte, kC, Nat.reduceEqDiff, aBuiltin, abinG, guardFree, abin, aInt, aUn, aNilCheck, retQ, retQ1, aresults, aresultL, aresult, mkF, undefV, reduceCtorEq, kD, kE, kF, kG, kH, kI, kJ, kK, aExtract, calleeOf, kD1, Nat.reduceBEq, HoldsAll, kL, kM, kN, kO, f1, f2, f3, aEq, Try.underlying4, X8, A8.1, X9, A9.1, X10, A10.1, bb, dee, dff, X12, A12.1, X13, A13.1, pp, X14, A14.1, X15, A15.1]
 refine KGCall.intro (by simp only [kS1, bLookup, bMapSet, wantA, isCall, stepOp, evalO, evalL, evalP, evalM, putDst, flat, kA, kB, Nat.reduceLT, ↓reduceIte, kC, Nat.reduceEqDiff, aBuiltin, abinG, guardFree, abin, aInt, aUn, aNilCheck, retQ, retQ1, aresults, aresultL, aresult, mkF, undefV, reduceCtorEq, kD, kE, kF, kG, kH, kI, kJ, kK, aExtract, calleeOf] <;> rfl) ⟨Try.func32, rfl, by decide⟩ (SameLists_any W0 m1 m2 _ _ h15 (rm1.le (Stays.RL Stays.isI) l15) rm2 (by rw [List.length_map]; omega) (fun l hl => by obtain ⟨l', hl', rfl⟩ := List.mem_map.1 hl; rw [List.length_reverse]; exact h40' l' hl')) ?_
 rintro x h16 w16 ⟨rfl, rfl⟩
 have dmm : decide (rs.map List.reverse = rs.map List.reverse) = true := decide_eq_true rfl
 simp only [kS1, bLookup, bMapSet, wantA, isCall, stepOp, evalO, evalL, evalP, evalM, putDst, flat, kA, kB, Nat.reduceLT, ↓reduceIte, kC, Nat.reduceEqDiff, aBuiltin, abinG, guardFree, abin, aInt, aUn, aNilCheck, retQ, retQ1, aresults, aresultL, aresult, mkF, undefV, reduceCtorEq, kD, kE, kF, kG, kH, kI, kJ, kK, aExtract, calleeOf, kD1, Nat.reduceBEq, HoldsAll, kL, kM, kN, kO, f1, f2, f3, aEq, Try.underlying4, X8, A8.1, X9, A9.1, X10, A10.1, bb, dee, dff, X12, A12.1, X13, A13.1, pp, X14, A14.1, X15, A15.1, dmm]
 refine KGCall.intro (by simp only [kS1, bLookup, bMapSet, wantA, isCall, stepOp, evalO, evalL, evalP, evalM, putDst, flat, kA, kB, Nat.reduceLT, ↓reduceIte, kC, Nat.reduceEqDiff, aBuiltin, abinG, guardFree, abin, aInt, aUn, aNilCheck, retQ, retQ1, aresults, aresultL, aresult, mkF, undefV, reduceCtorEq, kD, kE, kF, kG, kH, kI, kJ, kK, aExtract, calleeOf] <;> rfl) ⟨Try.func44, rfl, by decide⟩ (SameGraph_any W0 _ _ ⟨gn, es⟩ ⟨gn, es⟩ h16 (gX h16 L15) (gA h16 L15) (by show es.length ≤ 100000; omega)) ?_
 rintro x h17 w17 ⟨rfl, l17⟩
 have dgg : decide (gn = gn ∧ es = es) = true := decide_eq_true ⟨rfl, rfl⟩
 have L17 := L15.trans l17
 have X17 := lX h17 L17
 have A17 := lA5 h17 L17
 simp only [kS1, bLookup, bMapSet, wantA, isCall, stepOp, evalO, evalL, evalP, evalM, putDst, flat, kA, kB, Nat.reduceLT, ↓reduceIte, kC, Nat.reduceEqDiff, aBuiltin, abinG, guardFree, abin, aInt, aUn, aNilCheck, retQ, retQ1, aresults, aresultL, aresult, mkF, undefV, reduceCtorEq, kD, kE, kF, kG, kH, kI, kJ, kK, aExtract, calleeOf, kD1, Nat.reduceBEq, HoldsAll, kL, kM, kN, kO, f1, f2, f3, aEq, Try.underlying4, X8, A8.1, X9, A9.1, X10, A10.1, bb, dee, dff, X12, A12.1, X13, A13.1, pp, X14, A14.1, X15, A15.1, dmm, X17, A17.1, dgg]
 have ro17 := ro13.le (Stays.RL Stays.isI) ((l14.trans l15).trans l17)
 refine KGCall.intro (by simp only [kS1, bLookup, bMapSet, wantA, isCall, stepOp, evalO, evalL, evalP, evalM, putDst, flat, kA, kB, Nat.reduceLT, ↓reduceIte, kC, Nat.reduceEqDiff, aBuiltin, abinG, guardFree, abin, aInt, aUn, aNilCheck, retQ, retQ1, aresults, aresultL, aresult, mkF, undefV, reduceCtorEq, kD, kE, kF, kG, kH, kI, kJ, kK, aExtract, calleeOf] <;> rfl) ⟨Try.func32, rfl, by decide⟩ (SameLists_any W0 ov rv _ _ h17 ro17 (rA h17 L17) (by omega) h40') ?_
 rintro x h18 w18 ⟨rfl, rfl⟩
 have drr : decide (rs = rs) = true := decide_eq_true rfl
 simp only [kS1, bLookup, bMapSet, wantA, isCall, stepOp, evalO, evalL, evalP, evalM, putDst, flat, kA, kB, Nat.reduceLT, ↓reduceIte, kC, Nat.reduceEqDiff, aBuiltin, abinG, guardFree, abin, aInt, aUn, aNilCheck, retQ, retQ1, aresults, aresultL, aresult, mkF, undefV, reduceCtorEq, kD, kE, kF, kG, kH, kI, kJ, kK, aExtract, calleeOf, kD1, Nat.reduceBEq, HoldsAll, kL, kM, kN, kO, f1, f2, f3, aEq, Try.underlying4, X8, A8.1, X9, A9.1, X10, A10.1, bb, dee, dff, X12, A12.1, X13, A13.1, pp, X14, A14.1, X15, A15.1, dmm, X17, A17.1, dgg, drr]
 refine KGCall.intro (by simp only [kS1, bLookup, bMapSet, wantA, isCall, stepOp, evalO, evalL, evalP, evalM, putDst, flat, kA, kB, Nat.reduceLT, ↓reduceIte, kC, Nat.reduceEqDiff, aBuiltin, abinG, guardFree, abin, aInt, aUn, aNilCheck, retQ, retQ1, aresults, aresultL, aresult, mkF, undefV, reduceCtorEq, kD, kE, kF, kG, kH, kI, kJ, kK, aExtract, calleeOf] <;> rfl) ⟨Try.func27, rfl, by decide⟩ (awake7_any W0 h18) ?_
 rintro x h19 w19 ⟨rfl, l19⟩
 simp only [kS1, bLookup, bMapSet, wantA, isCall, stepOp, evalO, evalL, evalP, evalM, putDst, flat, kA, kB, Nat.reduceLT, ↓reduceIte, kC, Nat.reduceEqDiff, aBuiltin, abinG, guardFree, abin, aInt, aUn, aNilCheck, retQ, retQ1, aresults, aresultL, aresult, mkF, undefV, reduceCtorEq, kD, kE, kF, kG, kH, kI, kJ, kK, aExtract, calleeOf, kD1, Nat.reduceBEq, HoldsAll, kL, kM, kN, kO, f1, f2, f3, aEq, Try.underlying4, X8, A8.1, X9, A9.1, X10, A10.1, bb, dee, dff, X12, A12.1, X13, A13.1, pp, X14, A14.1, X15, A15.1, dmm, X17, A17.1, dgg, drr]
end Go.Fw
