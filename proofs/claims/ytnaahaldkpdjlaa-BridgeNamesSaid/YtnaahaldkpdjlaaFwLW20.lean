/- A text of the proof. -/
import Derived.Test.YtnaahaldkpdjlaaFwLW12
import Derived.Test.YtnaahaldkpdjlaaFwLW6
import Derived.Test.YtnaahaldkpdjlaaFwLT16
set_option linter.unusedSimpArgs false
set_option linter.unusedVariables false
namespace Go.Fw
open Go.Proofs
attribute [local irreducible] KO4 KO3 KO2 KO1 KO KN KX KE VK KCond KDraw KCall KLoop
set_option maxHeartbeats 16000000
set_option maxRecDepth 10000
attribute [local irreducible] lowM bridgesM cutsM blocksM keyE
theorem norm_map {ps : List Int} (k : PermOK ps) {n : Nat} (hl : ps.length = n) {es : List Pr} (hR : InR n es) {p : Pr} (hp : p ∈ es) : normP (appP ps p) = mapE (permF ps) p := by
 obtain ⟨a, c, rfl, hac, hcn, _⟩ := ends hR hp
 rw [appP_nat k (by omega) (by omega)]; rfl
theorem mem_appE {ps : List Int} (k : PermOK ps) {n : Nat} (hl : ps.length = n) {l : List Pr} (hR : InR n l) (q : Pr) : q ∈ appE ps l ↔ ∃ p ∈ l, mapE (permF ps) p = q := by
 rw [appE, sortP_mem, List.map_map, List.mem_map]
 constructor
 ·rintro ⟨p, hp, rfl⟩; exact ⟨p, hp, (norm_map k hl hR hp).symm⟩
 ·rintro ⟨p, hp, rfl⟩; exact ⟨p, hp, norm_map k hl hR hp⟩
theorem app_sub {n : Nat} {es l : List Pr} {ps : List Int} (A : AppOK ⟨(n : Int), es⟩ ps) (h : l.Sublist es) : AppOK ⟨(n : Int), l⟩ ps := ⟨right_sub A.1 h, A.2.1, A.2.2⟩
theorem app_isoW {n : Nat} {es web : List Pr} {ps : List Int} (A : AppOK ⟨(n : Int), es⟩ ps) (h : web.Sublist es) : IsoW n es (appE ps es) web (appE ps web) (permF ps) := by
 have hl : ps.length = n := by have := A.2.2; simp only at this; omega
 have hR := A.1.inR
 have hW : InR n web := fun p hp => hR p (h.subset hp)
 refine ⟨A.iso, fun p hp => h.subset hp, fun q hq => ?_, fun p hp => ?_⟩
 ·rw [mem_appE A.2.1 hl hW] at hq
  rw [mem_appE A.2.1 hl hR]
  obtain ⟨p, hp, e⟩ := hq; exact ⟨p, h.subset hp, e⟩
 ·rw [mem_appE A.2.1 hl hW]
  constructor
  ·rintro ⟨q, hq, e⟩
   rw [← A.iso.inj_E (h.subset hq) hp e]; exact hq
  ·intro hp'; exact ⟨p, hp', rfl⟩
theorem app_web {n : Nat} {es web : List Pr} {ps : List Int} (A : AppOK ⟨(n : Int), es⟩ ps) (h : web.Sublist es) : WebOK (appE ps es) (appE ps web) := by
 have ha := (app_sub A h).right.asc
 exact ⟨fun i p q hi hq => ha i (i + 1) p q (by omega) hi hq, (app_isoW A h).s2⟩
theorem aBox2 {h : AHeap} {a b : Value} (ha : a.oneCell' = true) (hb : b.oneCell' = true) : aBox h (.agg #[a, b]) = some (.pointer (some ⟨h.next, 0, none⟩), h.alloc (.cells [a, b])) := by
 simp [aBox, aNewRow, Value.cells, ha, hb]
theorem boxFr {h : AHeap} (hwf : WF h) {a b : Value} {n m : Nat} (ha : isSl a n) (hb : isSl b m) : ∃ h1, aBox h (.agg #[a, b]) = some (.pointer (some ⟨h.next, 0, none⟩), h1) ∧ Le h h1 ∧ WF h1 ∧
  ∀ g, Le h1 g → aload Try.prog g 22 ⟨h.next, 0, none⟩ = some a ∧ aload Try.prog g 38 ⟨h.next, 1, none⟩ = some b := by
 obtain ⟨h1, e1, l1, w1, o1⟩ := alloc_f hwf [a, b]
 refine ⟨h1, by rw [aBox2 ha.one hb.one, e1], l1, w1, fun g lg => ?_⟩
 have o := lg.own _ _ o1
 exact ⟨by rw [aload_one Try.underlying22 rfl o]; rfl, by rw [aload_one Try.underlying38 rfl o]; rfl⟩
theorem clos23_any (W0 : Base) (D FT : Nat) (wv xv : Value) (want : List Pr) (feet : List Int) (y : FM) (a b : Value) (h : AHeap) (hW : ∀ g, Le h g → aload Try.prog g 22 ⟨D, 1, none⟩ = some wv) (hw : PR h wv want) (hF : h.own FT = some (.cells [xv])) (hx : RL isI h xv feet)
  (ha : PR h a y.edges) (hb : RL isI h b y.feet) (n1 : y.edges.length ≤ 100000) (n2 : y.feet.length ≤ 100000) :
  AC Try.prog W0 23 [.agg #[a, b], .pointer (some ⟨D, 0, none⟩), .pointer (some ⟨FT, 0, none⟩)] h fun x h' => x = .bool (decide (y.edges = want) && decide (y.feet = feet)) ∧ Le h h' := by
 refine AC.vc (fn := Try.f23) (c := _) ⟨Try.func23, rfl, by decide⟩ Try.ntmps23 Try.results23 (by simp) fun hwf => ?_
 simp only [argFrame, argFrom, Nat.reduceAdd]
 obtain ⟨h1, b1, l1, w1, L1⟩ := boxFr hwf ha.sl hb.sl
 generalize h.next = B at *
 have A1 := L1 h1 (Le.refl _)
 have W1 := hW h1 l1
 have F1 : aload Try.prog h1 38 ⟨FT, 0, none⟩ = some xv := by rw [aload_one Try.underlying38 rfl (l1.own _ _ hF)]; rfl
 simp only [kS1, bLookup, bMapSet, wantA, isCall, stepOp, evalO, evalL, evalP, evalM, putDst, flat, kA, kB, Nat.reduceLT, ↓reduceIte, kC, Nat.reduceEqDiff, aBuiltin, abinG, guardFree, abin, aInt, aUn, aNilCheck, retQ, retQ1, aresults, aresultL, aresult, mkF, undefV, reduceCtorEq, kD, kE, kF, kG, kH, kI, kJ, kK, aExtract, calleeOf, b1, ff0, fg1, aadd, Nat.zero_add, A1.1, W1]
 refine KCall.intro (by simp only [kS1, bLookup, bMapSet, wantA, isCall, stepOp, evalO, evalL, evalP, evalM, putDst, flat, kA, kB, Nat.reduceLT, ↓reduceIte, kC, Nat.reduceEqDiff, aBuiltin, abinG, guardFree, abin, aInt, aUn, aNilCheck, retQ, retQ1, aresults, aresultL, aresult, mkF, undefV, reduceCtorEq, kD, kE, kF, kG, kH, kI, kJ, kK, aExtract, calleeOf] <;> rfl) ⟨Try.func24, rfl, by decide⟩ (SamePairs_any W0 a wv _ _ h1 (ha.le l1) (hw.le l1) n1) ?_
 rintro x h2 w2 ⟨rfl, rfl⟩
 cases c : decide (y.edges = want) with
 | false => simp only [kS1, bLookup, bMapSet, wantA, isCall, stepOp, evalO, evalL, evalP, evalM, putDst, flat, kA, kB, Nat.reduceLT, ↓reduceIte, kC, Nat.reduceEqDiff, aBuiltin, abinG, guardFree, abin, aInt, aUn, aNilCheck, retQ, retQ1, aresults, aresultL, aresult, mkF, undefV, reduceCtorEq, kD, kE, kF, kG, kH, kI, kJ, kK, aExtract, calleeOf]; exact ⟨trivial, l1⟩
 | true =>
  simp only [kS1, bLookup, bMapSet, wantA, isCall, stepOp, evalO, evalL, evalP, evalM, putDst, flat, kA, kB, Nat.reduceLT, ↓reduceIte, kC, Nat.reduceEqDiff, aBuiltin, abinG, guardFree, abin, aInt, aUn, aNilCheck, retQ, retQ1, aresults, aresultL, aresult, mkF, undefV, reduceCtorEq, kD, kE, kF, kG, kH, kI, kJ, kK, aExtract, calleeOf, ff1, aadd, Nat.zero_add, A1.2, F1]
  refine KCall.intro (by simp only [kS1, bLookup, bMapSet, wantA, isCall, stepOp, evalO, evalL, evalP, evalM, putDst, flat, kA, kB, Nat.reduceLT, ↓reduceIte, kC, Nat.reduceEqDiff, aBuiltin, abinG, guardFree, abin, aInt, aUn, aNilCheck, retQ, retQ1, aresults, aresultL, aresult, mkF, undefV, reduceCtorEq, kD, kE, kF, kG, kH, kI, kJ, kK, aExtract, calleeOf] <;> rfl) ⟨Try.func25, rfl, by decide⟩ (SameInts_any W0 b xv _ _ h2 (hb.le Stays.isI l1) (hx.le Stays.isI l1) n2) ?_
  rintro x h3 w3 ⟨rfl, rfl⟩
  simp only [kS1, bLookup, bMapSet, wantA, isCall, stepOp, evalO, evalL, evalP, evalM, putDst, flat, kA, kB, Nat.reduceLT, ↓reduceIte, kC, Nat.reduceEqDiff, aBuiltin, abinG, guardFree, abin, aInt, aUn, aNilCheck, retQ, retQ1, aresults, aresultL, aresult, mkF, undefV, reduceCtorEq, kD, kE, kF, kG, kH, kI, kJ, kK, aExtract, calleeOf]
  exact ⟨trivial, l1⟩
theorem IdxFr_any (W0 : Base) (lv : Value) (fs : List FM) (P : FM → Bool) (F : FuncId) {fn : Func} {c : Code} (hgood : Good Try.prog F fn c) (cap : List Value) (h : AHeap) (hv : FL h lv fs) (hn : fs.length ≤ 100000)
  (hf : ∀ g y a b, Le h g → y ∈ fs → PR g a y.edges → RL isI g b y.feet → AC Try.prog W0 F (.agg #[a, b] :: cap) g fun x g' => x = .bool (P y) ∧ Le g g') :
  AC Try.prog W0 71 [lv, .func (.func F) #[] cap.toArray] h fun x h' => Le h h' ∧ ((x = .int .i64 (-1) ∧ fs.any P = false) ∨ ∃ i : Nat, x = .int .i64 (i : Int) ∧ fs.any P = true) := by
 refine AC.vc (fn := Try.f71) (c := _) ⟨Try.func71, rfl, by decide⟩ Try.ntmps71 Try.results71 (by simp) fun hwf => ?_
 simp only [argFrame, argFrom, Nat.reduceAdd]
 have lr := fun g => hv.len g
 simp only [kS1, bLookup, bMapSet, wantA, isCall, stepOp, evalO, evalL, evalP, evalM, putDst, flat, kA, kB, Nat.reduceLT, ↓reduceIte, kC, Nat.reduceEqDiff, aBuiltin, abinG, guardFree, abin, aInt, aUn, aNilCheck, retQ, retQ1, aresults, aresultL, aresult, mkF, undefV, reduceCtorEq, kD, kE, kF, kG, kH, kI, kJ, kK, aExtract, calleeOf, lr]
 refine KLoop.intro (fun k fr hq => ∃ (i : Nat), k = fs.length - i ∧ i ≤ fs.length ∧ fr = mkF [(0, lv), (1, .func (.func F) #[] cap.toArray), (7, .int .i64 fs.length), (8, .int .i64 i)] ∧ Le h hq ∧ (fs.take i).any P = false)
  fs.length [(0, lv), (1, .func (.func F) #[] cap.toArray), (7, .int .i64 fs.length), (8, .int .i64 (0 : Nat))] (by simp only [hasAll, kS1, bLookup, bMapSet, wantA, isCall, stepOp, evalO, evalL, evalP, evalM, putDst, flat, kA, kB, Nat.reduceLT, ↓reduceIte, kC, Nat.reduceEqDiff, aBuiltin, abinG, guardFree, abin, aInt, aUn, aNilCheck, retQ, retQ1, aresults, aresultL, aresult, mkF, undefV, reduceCtorEq, kD, kE, kF, kG, kH, kI, kJ, kK, aExtract, calleeOf]; simp) ⟨0, rfl, Nat.zero_le _, rfl, Le.refl _, by simp⟩ ?_
 rintro k fr hq hwq ⟨i, rfl, hi, rfl, leq, hno⟩
 simp only [kS1, bLookup, bMapSet, wantA, isCall, stepOp, evalO, evalL, evalP, evalM, putDst, flat, kA, kB, Nat.reduceLT, ↓reduceIte, kC, Nat.reduceEqDiff, aBuiltin, abinG, guardFree, abin, aInt, aUn, aNilCheck, retQ, retQ1, aresults, aresultL, aresult, mkF, undefV, reduceCtorEq, kD, kE, kF, kG, kH, kI, kJ, kK, aExtract, calleeOf]
 refine KCond.intro (fun ht => ?_) (fun hf => ?_)
 rotate_left
 ·have hge : fs.length ≤ i := lt_f hf
  rw [List.take_of_length_le hge] at hno
  simp only [kS1, bLookup, bMapSet, wantA, isCall, stepOp, evalO, evalL, evalP, evalM, putDst, flat, kA, kB, Nat.reduceLT, ↓reduceIte, kC, Nat.reduceEqDiff, aBuiltin, abinG, guardFree, abin, aInt, aUn, aNilCheck, retQ, retQ1, aresults, aresultL, aresult, mkF, undefV, reduceCtorEq, kD, kE, kF, kG, kH, kI, kJ, kK, aExtract, calleeOf]
  exact ⟨leq, .inl ⟨trivial, hno⟩⟩
 have hlt : i < fs.length := lt_t ht
 clear ht
 have hpi := getElem?_of hlt
 have htk : fs.take (i + 1) = fs.take i ++ [fs[i]] := List.take_succ_eq_append_getElem hlt
 generalize fs[i] = p at hpi htk
 have ad := hv.addr (k := .i64) i hlt
 obtain ⟨a, b, ld, pa, pb⟩ := hv.load hpi
 have ldq := ld hq leq
 simp only [kS1, bLookup, bMapSet, wantA, isCall, stepOp, evalO, evalL, evalP, evalM, putDst, flat, kA, kB, Nat.reduceLT, ↓reduceIte, kC, Nat.reduceEqDiff, aBuiltin, abinG, guardFree, abin, aInt, aUn, aNilCheck, retQ, retQ1, aresults, aresultL, aresult, mkF, undefV, reduceCtorEq, kD, kE, kF, kG, kH, kI, kJ, kK, aExtract, calleeOf, ad, ldq]
 refine KCall.intro (g := F) (args := .agg #[a, b] :: cap) (by simp only [kS1, bLookup, bMapSet, wantA, isCall, stepOp, evalO, evalL, evalP, evalM, putDst, flat, kA, kB, Nat.reduceLT, ↓reduceIte, kC, Nat.reduceEqDiff, aBuiltin, abinG, guardFree, abin, aInt, aUn, aNilCheck, retQ, retQ1, aresults, aresultL, aresult, mkF, undefV, reduceCtorEq, kD, kE, kF, kG, kH, kI, kJ, kK, aExtract, calleeOf, List.toList_toArray, List.append_nil]) hgood (hf hq p a b leq (List.mem_of_getElem? hpi) (pa.le leq) (pb.le Stays.isI leq)) ?_
 rintro x h2 w2 ⟨rfl, l2⟩
 cases hb : P p with
 | true =>
  simp only [kS1, bLookup, bMapSet, wantA, isCall, stepOp, evalO, evalL, evalP, evalM, putDst, flat, kA, kB, Nat.reduceLT, ↓reduceIte, kC, Nat.reduceEqDiff, aBuiltin, abinG, guardFree, abin, aInt, aUn, aNilCheck, retQ, retQ1, aresults, aresultL, aresult, mkF, undefV, reduceCtorEq, kD, kE, kF, kG, kH, kI, kJ, kK, aExtract, calleeOf]
  exact ⟨leq.trans l2, .inr ⟨i, rfl, List.any_eq_true.2 ⟨p, List.mem_of_getElem? hpi, hb⟩⟩⟩
 | false =>
  simp only [kS1, bLookup, bMapSet, wantA, isCall, stepOp, evalO, evalL, evalP, evalM, putDst, flat, kA, kB, Nat.reduceLT, ↓reduceIte, kC, Nat.reduceEqDiff, aBuiltin, abinG, guardFree, abin, aInt, aUn, aNilCheck, retQ, retQ1, aresults, aresultL, aresult, mkF, undefV, reduceCtorEq, kD, kE, kF, kG, kH, kI, kJ, kK, aExtract, calleeOf, awrap_succ i (by omega)]
  refine loop_again (fs.length - (i + 1)) [(0, lv), (1, .func (.func F) #[] cap.toArray), (7, .int .i64 fs.length), (8, .int .i64 (i + 1 : Nat))] (by omega) (by simp only [hasAll, kS1, bLookup, bMapSet, wantA, isCall, stepOp, evalO, evalL, evalP, evalM, putDst, flat, kA, kB, Nat.reduceLT, ↓reduceIte, kC, Nat.reduceEqDiff, aBuiltin, abinG, guardFree, abin, aInt, aUn, aNilCheck, retQ, retQ1, aresults, aresultL, aresult, mkF, undefV, reduceCtorEq, kD, kE, kF, kG, kH, kI, kJ, kK, aExtract, calleeOf]; simp) ⟨i + 1, rfl, hlt, rfl, leq.trans l2, ?_⟩
  rw [htk, List.any_append, hno]; simp [hb]
theorem ContFr_any (W0 : Base) (lv : Value) (fs : List FM) (P : FM → Bool) (F : FuncId) {fn : Func} {c : Code} (hgood : Good Try.prog F fn c) (cap : List Value) (h : AHeap) (hv : FL h lv fs) (hn : fs.length ≤ 100000)
  (hf : ∀ g y a b, Le h g → y ∈ fs → PR g a y.edges → RL isI g b y.feet → AC Try.prog W0 F (.agg #[a, b] :: cap) g fun x g' => x = .bool (P y) ∧ Le g g') :
  AC Try.prog W0 22 [lv, .func (.func F) #[] cap.toArray] h fun x h' => x = .bool (fs.any P) ∧ Le h h' := by
 refine AC.vc (fn := Try.f22) (c := _) ⟨Try.func22, rfl, by decide⟩ Try.ntmps22 Try.results22 (by simp) fun hwf => ?_
 simp only [argFrame, argFrom, Nat.reduceAdd]
 simp only [kS1, bLookup, bMapSet, wantA, isCall, stepOp, evalO, evalL, evalP, evalM, putDst, flat, kA, kB, Nat.reduceLT, ↓reduceIte, kC, Nat.reduceEqDiff, aBuiltin, abinG, guardFree, abin, aInt, aUn, aNilCheck, retQ, retQ1, aresults, aresultL, aresult, mkF, undefV, reduceCtorEq, kD, kE, kF, kG, kH, kI, kJ, kK, aExtract, calleeOf]
 refine KCall.intro (by simp only [kS1, bLookup, bMapSet, wantA, isCall, stepOp, evalO, evalL, evalP, evalM, putDst, flat, kA, kB, Nat.reduceLT, ↓reduceIte, kC, Nat.reduceEqDiff, aBuiltin, abinG, guardFree, abin, aInt, aUn, aNilCheck, retQ, retQ1, aresults, aresultL, aresult, mkF, undefV, reduceCtorEq, kD, kE, kF, kG, kH, kI, kJ, kK, aExtract, calleeOf] <;> rfl) ⟨Try.func71, rfl, by decide⟩ (IdxFr_any W0 lv fs P F hgood cap h hv hn hf) ?_
 rintro x h2 w2 ⟨l2, ⟨rfl, e⟩ | ⟨i, rfl, e⟩⟩
 ·have d : decide ((-1 : Int) ≥ 0) = false := by decide
  simp only [kS1, bLookup, bMapSet, wantA, isCall, stepOp, evalO, evalL, evalP, evalM, putDst, flat, kA, kB, Nat.reduceLT, ↓reduceIte, kC, Nat.reduceEqDiff, aBuiltin, abinG, guardFree, abin, aInt, aUn, aNilCheck, retQ, retQ1, aresults, aresultL, aresult, mkF, undefV, reduceCtorEq, kD, kE, kF, kG, kH, kI, kJ, kK, aExtract, calleeOf, d, e]
  exact ⟨trivial, l2⟩
 ·have d : decide ((i : Int) ≥ 0) = true := by simp
  simp only [kS1, bLookup, bMapSet, wantA, isCall, stepOp, evalO, evalL, evalP, evalM, putDst, flat, kA, kB, Nat.reduceLT, ↓reduceIte, kC, Nat.reduceEqDiff, aBuiltin, abinG, guardFree, abin, aInt, aUn, aNilCheck, retQ, retQ1, aresults, aresultL, aresult, mkF, undefV, reduceCtorEq, kD, kE, kF, kG, kH, kI, kJ, kK, aExtract, calleeOf, d, e]
  exact ⟨trivial, l2⟩
end Go.Fw
