/- One of the texts of the layer and the walks: it proves what its theorems say of the functions of the seat, with no condition beyond theirs. -/
import Derived.Test.YtmakcgajgepabaaFwW5
import Derived.Test.YtmakcgajgepabaaFwW6
import Derived.Test.YtmakcgajgepabaaFwB26
import Derived.Test.YtmakcgajgepabaaFwBR
set_option linter.unusedSimpArgs false
set_option linter.unusedVariables false
namespace Go.Fw
open Go.Proofs Go.ChangeShapes Go.WideShapes Go.RowKit Go.ChangeAt
attribute [local irreducible] KO4 KO3 KO2 KO1 KO KN KX KE VK KCond KDraw KCall KLoop
open Go.Proofs.Ytmakcgajgepabaa
set_option maxHeartbeats 8000000
set_option maxRecDepth 100000
theorem right17_any (W0 : World) (v : Value) (G : GM) (h : AHeap) (hg : GR h v G) : AC Try.prog W0 17 [v] h fun x h' => BoolIs (RightG G ∧ G.n ≤ 30) x ∧ Le h h' := by
  have hg0 := hg
  obtain ⟨gn, es⟩ := G
  obtain ⟨ev, rfl, hp⟩ := hg.open
  refine AC.vc (fn := Try.f17) (c := _) ⟨Try.func17, rfl, by decide⟩ Try.ntmps17 Try.results17 (by simp) fun hwf => ?_
  simp only [argFrame, argFrom, Nat.reduceAdd]
  obtain ⟨h1, b1, le1, wf1, -, lA⟩ := boxG (n := gn) hwf hp
  generalize h.next = B at *
  have lA1 := lA h1 (Le.refl _)
  simp only [kS1, bLookup, bMapSet, wantA, isCall, stepOp, evalO, evalL, evalP, evalM, putDst, flat, kA, kB, Nat.reduceLT, ↓reduceIte, kC, Nat.reduceEqDiff, aBuiltin, abinG, guardFree, abin, aInt, aUn, aNilCheck, retQ, retQ1, aresults, aresultL, aresult, mkF, undefV, reduceCtorEq, kD, kE, kF, kG, kH, kI, kJ, kK, aExtract, calleeOf, b1, lA1.1]
  refine KCall.intro (by simp only [kS1, bLookup, bMapSet, wantA, isCall, stepOp, evalO, evalL, evalP, evalM, putDst, flat, kA, kB, Nat.reduceLT, ↓reduceIte, kC, Nat.reduceEqDiff, aBuiltin, abinG, guardFree, abin, aInt, aUn, aNilCheck, retQ, retQ1, aresults, aresultL, aresult, mkF, undefV, reduceCtorEq, kD, kE, kF, kG, kH, kI, kJ, kK, aExtract, calleeOf] <;> rfl) ⟨Try.func21, rfl, by decide⟩ (Right_any W0 _ _ h1 (hg0.le le1)) ?_
  rintro x h2 wf2 ⟨⟨bb, rfl, hbb⟩, le2⟩
  have lA2 := lA h2 le2
  cases bb with
  | false =>
    simp only [kS1, bLookup, bMapSet, wantA, isCall, stepOp, evalO, evalL, evalP, evalM, putDst, flat, kA, kB, Nat.reduceLT, ↓reduceIte, kC, Nat.reduceEqDiff, aBuiltin, abinG, guardFree, abin, aInt, aUn, aNilCheck, retQ, retQ1, aresults, aresultL, aresult, mkF, undefV, reduceCtorEq, kD, kE, kF, kG, kH, kI, kJ, kK, aExtract, calleeOf]
    exact ⟨BoolIs.f (fun h => by cases hbb.2 h.1), le1.trans le2⟩
  | true =>
    simp only [kS1, bLookup, bMapSet, wantA, isCall, stepOp, evalO, evalL, evalP, evalM, putDst, flat, kA, kB, Nat.reduceLT, ↓reduceIte, kC, Nat.reduceEqDiff, aBuiltin, abinG, guardFree, abin, aInt, aUn, aNilCheck, retQ, retQ1, aresults, aresultL, aresult, mkF, undefV, reduceCtorEq, kD, kE, kF, kG, kH, kI, kJ, kK, aExtract, calleeOf, fg0, aadd, Nat.zero_add, lA2.2.1]
    exact ⟨⟨_, rfl, by simp [hbb.1 rfl]⟩, le1.trans le2⟩
theorem frags_web_nil (es : List Pr) : WebOK es [] := ⟨fun i p q hi => by simp at hi, fun p hp => by simp at hp⟩
theorem frags_web_all {es : List Pr} (ha : Asc es) : WebOK es es := ⟨fun i p q hi hq => ha i (i + 1) p q (by omega) hi hq, fun p hp => hp⟩
theorem FL.load {h : AHeap} {v : Value} {fs : List FM} (r : FL h v fs) {i : Nat} {f : FM} (hf : fs[i]? = some f) :
    ∃ a b, (∀ g, Le h g → aload Try.prog g 41 (fAddr v i) = some (.agg #[a, b])) ∧ PR h a f.edges ∧ RL isI h b f.feet := by
  obtain ⟨cs, c, hx⟩ := r
  obtain ⟨a, b, q1, q2, q3, q4⟩ := hx i f hf
  refine ⟨a, b, fun g l => ?_, q3, q4⟩
  have g1 := l.read (c.get _ _ q1)
  have g2 := l.read (c.get _ _ q2)
  obtain ⟨ad, k, rfl, hs⟩ := c.sl
  obtain ⟨ad, rfl⟩ := Option.isSome_iff_exists.1 (hs (by have := (List.getElem?_eq_some_iff.1 hf).1; omega))
  have hrd : readN g (fAddr (.slice (some ad) fs.length k) i) 2 = some [a, b] := by
    refine readN_get [a, b] _ fun j x hx => ?_
    match j with
    | 0 => simp at hx; subst hx; simpa [fAddr, elemAddr_mk, aadd] using g1
    | 1 => simp at hx; subst hx; simpa [fAddr, elemAddr_mk, aadd, Nat.add_assoc] using g2
    | j + 2 => simp at hx
  simp only [aload, Try.underlying41, ts41, hrd]
  rfl
theorem alloc41 (h : AHeap) : aAlloc Try.prog h 41 = some (.pointer (some ⟨h.next, 0, none⟩), h.alloc (.cells [.slice none 0 0, .slice none 0 0])) := rfl
theorem new41 {h : AHeap} (hw : WF h) {a b : Value} {n m : Nat} (ha : isSl a n) (hb : isSl b m) : ∃ h1 h2, aAlloc Try.prog h 41 = some (.pointer (some ⟨h.next, 0, none⟩), h1) ∧ aStore Try.prog h1 41 (.pointer (some ⟨h.next, 0, none⟩)) (.agg #[a, b]) = some h2 ∧ Le h h2 ∧ WF h2 ∧
    ∀ g, Le h2 g → aload Try.prog g 41 ⟨h.next, 0, none⟩ = some (.agg #[a, b]) ∧ aload Try.prog g 22 ⟨h.next, 0, none⟩ = some a ∧ aload Try.prog g 39 ⟨h.next, 1, none⟩ = some b := by
  obtain ⟨h1, e1, l1, w1, o1⟩ := alloc_f hw [.slice none 0 0, .slice none 0 0]
  have nw : h.own h.next = none := (Le.refl h).next hw (Nat.le_refl _)
  have st : aStore Try.prog h1 41 (.pointer (some ⟨h.next, 0, none⟩)) (.agg #[a, b]) = some (h1.put h.next (.cells [a, b])) := by
    obtain ⟨_, _, rfl, _⟩ := ha
    obtain ⟨_, _, rfl, _⟩ := hb
    simp [aStore, o1, Value.cells, ts41, putCells, Try.underlying41]
    exact ⟨rfl, rfl⟩
  have ho : (h1.put h.next (.cells [a, b])).own h.next = some (.cells [a, b]) := AHeap.own_put_eq _ _ _
  refine ⟨h1, _, by rw [alloc41, e1], st, l1.put _ nw, w1.put _ (w1.lt o1), fun g l => ⟨?_, ?_, ?_⟩⟩
  · rw [aload_own Try.underlying41 rfl ts41 (l.own _ _ ho) (by simp)]; rfl
  · rw [aload_one Try.underlying22 rfl (l.own _ _ ho)]; rfl
  · rw [aload_one Try.underlying39 rfl (l.own _ _ ho)]; rfl
def manyC (ps : List (List Int)) : Nat := (ps.filter fun c => decide (c.length > 1)).length
theorem manyC_snoc (ps : List (List Int)) (c : List Int) : manyC (ps ++ [c]) = if c.length > 1 then manyC ps + 1 else manyC ps := by
  simp only [manyC, List.filter_append, List.length_append]
  split
  · rename_i h; rw [List.filter_cons_of_pos (by simpa using h)]; simp
  · rename_i h; rw [List.filter_cons_of_neg (by simpa using h)]; simp
theorem manyC_nat (n : Nat) (es : List Pr) (k : Nat) : manyC ((partsN n es k).map nat64) = ((partsN n es k).filter fun c => decide (c.length > 1)).length := by
  rw [manyC, List.filter_map, List.length_map]
  congr 1
  refine List.filter_congr fun x _ => ?_
  simp [nat64]
theorem none_any (W0 : World) (v : Value) (G : GM) (h : AHeap) (hg : GR h v G) : AC Try.prog W0 6 [v] h fun x h' => x = .bool true ∧ Le h h' := by
  have hg0 := hg
  obtain ⟨gn, es⟩ := G
  obtain ⟨ev, rfl, hp⟩ := hg.open
  refine AC.vc (fn := Try.f6) (c := _) ⟨Try.func6, rfl, by decide⟩ Try.ntmps6 Try.results6 (by simp) fun hwf => ?_
  simp only [argFrame, argFrom, Nat.reduceAdd]
  obtain ⟨h1, b1, le1, wf1, -, lA⟩ := boxG (n := gn) hwf hp
  generalize h.next = B at *
  have lA1 := lA h1 (Le.refl _)
  simp only [kS1, bLookup, bMapSet, wantA, isCall, stepOp, evalO, evalL, evalP, evalM, putDst, flat, kA, kB, Nat.reduceLT, ↓reduceIte, kC, Nat.reduceEqDiff, aBuiltin, abinG, guardFree, abin, aInt, aUn, aNilCheck, retQ, retQ1, aresults, aresultL, aresult, mkF, undefV, reduceCtorEq, kD, kE, kF, kG, kH, kI, kJ, kK, aExtract, calleeOf, b1, lA1.1]
  refine KCall.intro (by simp only [kS1, bLookup, bMapSet, wantA, isCall, stepOp, evalO, evalL, evalP, evalM, putDst, flat, kA, kB, Nat.reduceLT, ↓reduceIte, kC, Nat.reduceEqDiff, aBuiltin, abinG, guardFree, abin, aInt, aUn, aNilCheck, retQ, retQ1, aresults, aresultL, aresult, mkF, undefV, reduceCtorEq, kD, kE, kF, kG, kH, kI, kJ, kK, aExtract, calleeOf] <;> rfl) ⟨Try.func17, rfl, by decide⟩ (right17_any W0 _ _ h1 (hg0.le le1)) ?_
  rintro x h2 wf2 ⟨⟨bb, rfl, hbb⟩, le2⟩
  cases bb with
  | false =>
    simp only [kS1, bLookup, bMapSet, wantA, isCall, stepOp, evalO, evalL, evalP, evalM, putDst, flat, kA, kB, Nat.reduceLT, ↓reduceIte, kC, Nat.reduceEqDiff, aBuiltin, abinG, guardFree, abin, aInt, aUn, aNilCheck, retQ, retQ1, aresults, aresultL, aresult, mkF, undefV, reduceCtorEq, kD, kE, kF, kG, kH, kI, kJ, kK, aExtract, calleeOf]
    refine KCall.intro (by simp only [kS1, bLookup, bMapSet, wantA, isCall, stepOp, evalO, evalL, evalP, evalM, putDst, flat, kA, kB, Nat.reduceLT, ↓reduceIte, kC, Nat.reduceEqDiff, aBuiltin, abinG, guardFree, abin, aInt, aUn, aNilCheck, retQ, retQ1, aresults, aresultL, aresult, mkF, undefV, reduceCtorEq, kD, kE, kF, kG, kH, kI, kJ, kK, aExtract, calleeOf] <;> rfl) ⟨Try.func10, rfl, by decide⟩ (awake_any W0 h2) ?_
    rintro x h3 w3 ⟨rfl, l3⟩
    simp only [kS1, bLookup, bMapSet, wantA, isCall, stepOp, evalO, evalL, evalP, evalM, putDst, flat, kA, kB, Nat.reduceLT, ↓reduceIte, kC, Nat.reduceEqDiff, aBuiltin, abinG, guardFree, abin, aInt, aUn, aNilCheck, retQ, retQ1, aresults, aresultL, aresult, mkF, undefV, reduceCtorEq, kD, kE, kF, kG, kH, kI, kJ, kK, aExtract, calleeOf]
    exact ⟨trivial, (le1.trans le2).trans l3⟩
  | true =>
  obtain ⟨hr, h30⟩ := hbb.1 rfl
  have h0 : 0 ≤ gn := hr.n0
  obtain ⟨n, rfl⟩ := Int.eq_ofNat_of_zero_le h0
  have h594 : es.length ≤ 594 := hr.len
  simp only at h30
  have hR := hr.inR
  have lA2 := lA h2 le2
  simp only [kS1, bLookup, bMapSet, wantA, isCall, stepOp, evalO, evalL, evalP, evalM, putDst, flat, kA, kB, Nat.reduceLT, ↓reduceIte, kC, Nat.reduceEqDiff, aBuiltin, abinG, guardFree, abin, aInt, aUn, aNilCheck, retQ, retQ1, aresults, aresultL, aresult, mkF, undefV, reduceCtorEq, kD, kE, kF, kG, kH, kI, kJ, kK, aExtract, calleeOf, lA2.1]
  refine KCall.intro (by simp only [kS1, bLookup, bMapSet, wantA, isCall, stepOp, evalO, evalL, evalP, evalM, putDst, flat, kA, kB, Nat.reduceLT, ↓reduceIte, kC, Nat.reduceEqDiff, aBuiltin, abinG, guardFree, abin, aInt, aUn, aNilCheck, retQ, retQ1, aresults, aresultL, aresult, mkF, undefV, reduceCtorEq, kD, kE, kF, kG, kH, kI, kJ, kK, aExtract, calleeOf] <;> rfl) ⟨Try.func12, rfl, by decide⟩ (Fragments_any W0 _ (.slice none 0 0) ⟨(n : Int), es⟩ [] h2 (hg0.le (le1.trans le2)) (PR.nil h2) (by simp)) ?_
  intro x h3 wf3 hx
  obtain ⟨le3, lv, e, rfl, hc⟩ := hx
  obtain ⟨rfl, L, hT, fl⟩ : e = 0 ∧ ∃ L, TogM n (fun u => (onM n []).getD u false) es L ∧ FL h3 lv (FragsM n es [] L) := by
    rcases hc with ⟨h, _⟩ | ⟨_, h, _⟩ | ⟨_, _, h, h'⟩
    · exact absurd hr h
    · exact absurd (frags_web_nil es) h
    · exact ⟨h, by simpa using h'⟩
  clear hc
  have lA3 := lA h3 (le2.trans le3)
  have le03 := (le1.trans le2).trans le3
  simp only [kS1, bLookup, bMapSet, wantA, isCall, stepOp, evalO, evalL, evalP, evalM, putDst, flat, kA, kB, Nat.reduceLT, ↓reduceIte, kC, Nat.reduceEqDiff, aBuiltin, abinG, guardFree, abin, aInt, aUn, aNilCheck, retQ, retQ1, aresults, aresultL, aresult, mkF, undefV, reduceCtorEq, kD, kE, kF, kG, kH, kI, kJ, kK, aExtract, calleeOf, lA3.1, lA3.2.2, fg1, aadd, Nat.zero_add]
  refine KCall.intro (by simp only [kS1, bLookup, bMapSet, wantA, isCall, stepOp, evalO, evalL, evalP, evalM, putDst, flat, kA, kB, Nat.reduceLT, ↓reduceIte, kC, Nat.reduceEqDiff, aBuiltin, abinG, guardFree, abin, aInt, aUn, aNilCheck, retQ, retQ1, aresults, aresultL, aresult, mkF, undefV, reduceCtorEq, kD, kE, kF, kG, kH, kI, kJ, kK, aExtract, calleeOf] <;> rfl) ⟨Try.func12, rfl, by decide⟩ (Fragments_any W0 _ ev ⟨(n : Int), es⟩ es h3 (hg0.le le03) (hp.le le03) (by omega)) ?_
  intro x h4 wf4 hx
  obtain ⟨le4, lv2, e, rfl, hc⟩ := hx
  obtain ⟨rfl, L2, hT2, fl2⟩ : e = 0 ∧ ∃ L, TogM n (fun u => (onM n es).getD u false) es L ∧ FL h4 lv2 (FragsM n es es L) := by
    rcases hc with ⟨h, _⟩ | ⟨_, h, _⟩ | ⟨_, _, h, h'⟩
    · exact absurd hr h
    · exact absurd (frags_web_all hr.asc) h
    · exact ⟨h, by simpa using h'⟩
  clear hc
  rw [frags_all] at fl2
  have ll2 := fun g => fl2.len g
  simp only [List.length_nil] at ll2
  have le14 := (le2.trans le3).trans le4
  have lA4 := lA h4 le14
  have aw0 : awrap .i64 (0 + 0) = 0 := by decide
  have z0 : ((0 : Nat) : Int) = 0 := rfl
  simp only [kS1, bLookup, bMapSet, wantA, isCall, stepOp, evalO, evalL, evalP, evalM, putDst, flat, kA, kB, Nat.reduceLT, ↓reduceIte, kC, Nat.reduceEqDiff, aBuiltin, abinG, guardFree, abin, aInt, aUn, aNilCheck, retQ, retQ1, aresults, aresultL, aresult, mkF, undefV, reduceCtorEq, kD, kE, kF, kG, kH, kI, kJ, kK, aExtract, calleeOf, aw0, bne, ll2, z0, lA4.1]
  refine KCall.intro (by simp only [kS1, bLookup, bMapSet, wantA, isCall, stepOp, evalO, evalL, evalP, evalM, putDst, flat, kA, kB, Nat.reduceLT, ↓reduceIte, kC, Nat.reduceEqDiff, aBuiltin, abinG, guardFree, abin, aInt, aUn, aNilCheck, retQ, retQ1, aresults, aresultL, aresult, mkF, undefV, reduceCtorEq, kD, kE, kF, kG, kH, kI, kJ, kK, aExtract, calleeOf] <;> rfl) ⟨Try.func25, rfl, by decide⟩ (Parts_any W0 _ ⟨(n : Int), es⟩ h4 (hg0.le (le1.trans le14)) hr) ?_
  rintro pv h5 wf5 ⟨gp, le5, -⟩
  have rp := gp.rl (Stays.RL Stays.isI)
  simp only [Int.toNat_natCast] at rp
  clear gp
  have hmany := manyC_nat n es n
  have hfl := frags_none_len hR hT
  rw [← hmany] at hfl
  have hpl : ((partsN n es n).map nat64).length ≤ n := by
    have := heads_length n es
    simp only [partsN, List.length_map]; omega
  generalize (partsN n es n).map nat64 = ps at rp hfl hpl
  clear hmany
  have lp := fun g => rp.len (P := Try.prog) Try.underlying52 g
  simp only [kS1, bLookup, bMapSet, wantA, isCall, stepOp, evalO, evalL, evalP, evalM, putDst, flat, kA, kB, Nat.reduceLT, ↓reduceIte, kC, Nat.reduceEqDiff, aBuiltin, abinG, guardFree, abin, aInt, aUn, aNilCheck, retQ, retQ1, aresults, aresultL, aresult, mkF, undefV, reduceCtorEq, kD, kE, kF, kG, kH, kI, kJ, kK, aExtract, calleeOf, lp]
  refine KLoop.intro (fun k fr hq => ∃ i : Nat, k = ps.length - i ∧ i ≤ ps.length ∧ fr = mkF [(3, lv), (7, .int .i64 (manyC (ps.take i) : Nat)), (38, pv), (39, .int .i64 ps.length), (40, .int .i64 i)] ∧ hq = h5)
    ps.length [(3, lv), (7, .int .i64 (manyC (ps.take 0) : Nat)), (38, pv), (39, .int .i64 ps.length), (40, .int .i64 (0 : Nat))] (by simp only [hasAll, kS1, bLookup, bMapSet, wantA, isCall, stepOp, evalO, evalL, evalP, evalM, putDst, flat, kA, kB, Nat.reduceLT, ↓reduceIte, kC, Nat.reduceEqDiff, aBuiltin, abinG, guardFree, abin, aInt, aUn, aNilCheck, retQ, retQ1, aresults, aresultL, aresult, mkF, undefV, reduceCtorEq, kD, kE, kF, kG, kH, kI, kJ, kK, aExtract, calleeOf]; simp [manyC]) ⟨0, rfl, Nat.zero_le _, rfl, rfl⟩ ?_
  rintro k fr hq hwq ⟨i, rfl, hi, rfl, rfl⟩
  simp only [kS1, bLookup, bMapSet, wantA, isCall, stepOp, evalO, evalL, evalP, evalM, putDst, flat, kA, kB, Nat.reduceLT, ↓reduceIte, kC, Nat.reduceEqDiff, aBuiltin, abinG, guardFree, abin, aInt, aUn, aNilCheck, retQ, retQ1, aresults, aresultL, aresult, mkF, undefV, reduceCtorEq, kD, kE, kF, kG, kH, kI, kJ, kK, aExtract, calleeOf]
  refine KCond.intro (fun ht => ?_) (fun hf => ?_)
  · have hlt : i < ps.length := lt_t ht
    clear ht
    have ad := rp.addr (P := Try.prog) Try.underlying52 Try.underlying39 (by kernel_rfl) (k := .i64) i hlt
    obtain ⟨uv, ldr, hrow⟩ := rp.load' (P := Try.prog) Try.underlying39 rfl i hlt
    have lr := fun g => hrow.len (P := Try.prog) Try.underlying39 g
    have hm := manyC_snoc (ps.take i) ps[i]
    rw [← List.take_succ_eq_append_getElem hlt] at hm
    have hml : manyC (ps.take i) ≤ i := by
      rw [manyC]; exact Nat.le_trans (List.length_filter_le _ _) (by simp; omega)
    have hld := ldr hq (Le.refl _)
    by_cases c : (ps[i].length : Int) > 1
    · rw [if_pos (by omega)] at hm
      simp only [kS1, bLookup, bMapSet, wantA, isCall, stepOp, evalO, evalL, evalP, evalM, putDst, flat, kA, kB, Nat.reduceLT, ↓reduceIte, kC, Nat.reduceEqDiff, aBuiltin, abinG, guardFree, abin, aInt, aUn, aNilCheck, retQ, retQ1, aresults, aresultL, aresult, mkF, undefV, reduceCtorEq, kD, kE, kF, kG, kH, kI, kJ, kK, aExtract, calleeOf, ad, hld, lr, c, awrap_succ i (by omega), awrap_succ (manyC (ps.take i)) (by omega)]
      exact loop_again (ps.length - (i + 1)) [(3, lv), (7, .int .i64 (manyC (ps.take (i + 1)) : Nat)), (38, pv), (39, .int .i64 ps.length), (40, .int .i64 (i + 1 : Nat))] (by omega) (by rw [hm]; simp only [hasAll, kS1, bLookup, bMapSet, wantA, isCall, stepOp, evalO, evalL, evalP, evalM, putDst, flat, kA, kB, Nat.reduceLT, ↓reduceIte, kC, Nat.reduceEqDiff, aBuiltin, abinG, guardFree, abin, aInt, aUn, aNilCheck, retQ, retQ1, aresults, aresultL, aresult, mkF, undefV, reduceCtorEq, kD, kE, kF, kG, kH, kI, kJ, kK, aExtract, calleeOf]; simp) ⟨i + 1, rfl, hlt, rfl, rfl⟩
    · rw [if_neg (by omega)] at hm
      simp only [kS1, bLookup, bMapSet, wantA, isCall, stepOp, evalO, evalL, evalP, evalM, putDst, flat, kA, kB, Nat.reduceLT, ↓reduceIte, kC, Nat.reduceEqDiff, aBuiltin, abinG, guardFree, abin, aInt, aUn, aNilCheck, retQ, retQ1, aresults, aresultL, aresult, mkF, undefV, reduceCtorEq, kD, kE, kF, kG, kH, kI, kJ, kK, aExtract, calleeOf, ad, hld, lr, c, awrap_succ i (by omega)]
      exact loop_again (ps.length - (i + 1)) [(3, lv), (7, .int .i64 (manyC (ps.take (i + 1)) : Nat)), (38, pv), (39, .int .i64 ps.length), (40, .int .i64 (i + 1 : Nat))] (by omega) (by rw [hm]; simp only [hasAll, kS1, bLookup, bMapSet, wantA, isCall, stepOp, evalO, evalL, evalP, evalM, putDst, flat, kA, kB, Nat.reduceLT, ↓reduceIte, kC, Nat.reduceEqDiff, aBuiltin, abinG, guardFree, abin, aInt, aUn, aNilCheck, retQ, retQ1, aresults, aresultL, aresult, mkF, undefV, reduceCtorEq, kD, kE, kF, kG, kH, kI, kJ, kK, aExtract, calleeOf]; simp) ⟨i + 1, rfl, hlt, rfl, rfl⟩
  have hge : ps.length ≤ i := lt_f hf
  rw [List.take_of_length_le hge]
  rw [← hfl]
  have hfeet := frags_none_feet n es L
  have hfr : FL hq lv (FragsM n es [] L) := fl.le (le4.trans le5)
  have hfb : (FragsM n es [] L).length ≤ 594 := by
    have := (grpsM_ok (fragM n (fun u => (onM n []).getD u false) L) es [] es.length).2.2.2.1
    rw [FragsM, List.length_map]; omega
  generalize FragsM n es [] L = fs at hfr hfeet hfb
  have lf := fun g => hfr.len g
  simp only [kS1, bLookup, bMapSet, wantA, isCall, stepOp, evalO, evalL, evalP, evalM, putDst, flat, kA, kB, Nat.reduceLT, ↓reduceIte, kC, Nat.reduceEqDiff, aBuiltin, abinG, guardFree, abin, aInt, aUn, aNilCheck, retQ, retQ1, aresults, aresultL, aresult, mkF, undefV, reduceCtorEq, kD, kE, kF, kG, kH, kI, kJ, kK, aExtract, calleeOf, lf]
  have le0q := ((le1.trans le14).trans le5)
  refine KLoop.intro (fun k fr hh => ∃ i : Nat, k = fs.length - i ∧ i ≤ fs.length ∧ fr = mkF [(3, lv), (7, .int .i64 fs.length), (50, lv), (51, .int .i64 fs.length), (52, .int .i64 i)] ∧ Le hq hh)
    fs.length [(3, lv), (7, .int .i64 fs.length), (50, lv), (51, .int .i64 fs.length), (52, .int .i64 (0 : Nat))] (by simp only [hasAll, kS1, bLookup, bMapSet, wantA, isCall, stepOp, evalO, evalL, evalP, evalM, putDst, flat, kA, kB, Nat.reduceLT, ↓reduceIte, kC, Nat.reduceEqDiff, aBuiltin, abinG, guardFree, abin, aInt, aUn, aNilCheck, retQ, retQ1, aresults, aresultL, aresult, mkF, undefV, reduceCtorEq, kD, kE, kF, kG, kH, kI, kJ, kK, aExtract, calleeOf]; simp) ⟨0, rfl, Nat.zero_le _, rfl, Le.refl _⟩ ?_
  clear hf
  rintro k fr hh hwh ⟨j, rfl, hj, rfl, leh⟩
  simp only [kS1, bLookup, bMapSet, wantA, isCall, stepOp, evalO, evalL, evalP, evalM, putDst, flat, kA, kB, Nat.reduceLT, ↓reduceIte, kC, Nat.reduceEqDiff, aBuiltin, abinG, guardFree, abin, aInt, aUn, aNilCheck, retQ, retQ1, aresults, aresultL, aresult, mkF, undefV, reduceCtorEq, kD, kE, kF, kG, kH, kI, kJ, kK, aExtract, calleeOf]
  refine KCond.intro (fun ht => ?_) (fun hf => ?_)
  · have hlt : j < fs.length := lt_t ht
    clear ht
    have hfj := getElem?_of hlt
    have hft := hfeet _ (List.mem_of_getElem? hfj)
    obtain ⟨a, b, hld, pa, pb⟩ := hfr.load hfj
    rw [hft] at pb
    have ad := hfr.addr (k := .i64) j hlt
    obtain ⟨g1, g2, a2, s2, l2, w2, lG⟩ := new41 hwh pa.sl pb.sl
    have lG2 := lG g2 (Le.refl _)
    have lb := fun g => pb.len (P := Try.prog) Try.underlying39 g
    simp only [List.length_nil] at lb
    have c0 : ¬ (((0 : Nat) : Int) > 0) := by omega
    simp only [kS1, bLookup, bMapSet, wantA, isCall, stepOp, evalO, evalL, evalP, evalM, putDst, flat, kA, kB, Nat.reduceLT, ↓reduceIte, kC, Nat.reduceEqDiff, aBuiltin, abinG, guardFree, abin, aInt, aUn, aNilCheck, retQ, retQ1, aresults, aresultL, aresult, mkF, undefV, reduceCtorEq, kD, kE, kF, kG, kH, kI, kJ, kK, aExtract, calleeOf, ad, hld hh leh, a2, s2, ff1, aadd, Nat.zero_add, lG2.2.2, lb, c0, awrap_succ j (by omega)]
    exact loop_again (fs.length - (j + 1)) [(3, lv), (7, .int .i64 fs.length), (50, lv), (51, .int .i64 fs.length), (52, .int .i64 (j + 1 : Nat))] (by omega) (by simp only [hasAll, kS1, bLookup, bMapSet, wantA, isCall, stepOp, evalO, evalL, evalP, evalM, putDst, flat, kA, kB, Nat.reduceLT, ↓reduceIte, kC, Nat.reduceEqDiff, aBuiltin, abinG, guardFree, abin, aInt, aUn, aNilCheck, retQ, retQ1, aresults, aresultL, aresult, mkF, undefV, reduceCtorEq, kD, kE, kF, kG, kH, kI, kJ, kK, aExtract, calleeOf]; simp) ⟨j + 1, rfl, hlt, rfl, leh.trans l2⟩
  · simp only [kS1, bLookup, bMapSet, wantA, isCall, stepOp, evalO, evalL, evalP, evalM, putDst, flat, kA, kB, Nat.reduceLT, ↓reduceIte, kC, Nat.reduceEqDiff, aBuiltin, abinG, guardFree, abin, aInt, aUn, aNilCheck, retQ, retQ1, aresults, aresultL, aresult, mkF, undefV, reduceCtorEq, kD, kE, kF, kG, kH, kI, kJ, kK, aExtract, calleeOf, lf, eq_self]
    refine KCall.intro (by simp only [kS1, bLookup, bMapSet, wantA, isCall, stepOp, evalO, evalL, evalP, evalM, putDst, flat, kA, kB, Nat.reduceLT, ↓reduceIte, kC, Nat.reduceEqDiff, aBuiltin, abinG, guardFree, abin, aInt, aUn, aNilCheck, retQ, retQ1, aresults, aresultL, aresult, mkF, undefV, reduceCtorEq, kD, kE, kF, kG, kH, kI, kJ, kK, aExtract, calleeOf] <;> rfl) ⟨Try.func10, rfl, by decide⟩ (awake_any W0 hh) ?_
    rintro x h9 w9 ⟨rfl, l9⟩
    simp only [kS1, bLookup, bMapSet, wantA, isCall, stepOp, evalO, evalL, evalP, evalM, putDst, flat, kA, kB, Nat.reduceLT, ↓reduceIte, kC, Nat.reduceEqDiff, aBuiltin, abinG, guardFree, abin, aInt, aUn, aNilCheck, retQ, retQ1, aresults, aresultL, aresult, mkF, undefV, reduceCtorEq, kD, kE, kF, kG, kH, kI, kJ, kK, aExtract, calleeOf]
    exact ⟨trivial, (le0q.trans leh).trans l9⟩
end Go.Fw
