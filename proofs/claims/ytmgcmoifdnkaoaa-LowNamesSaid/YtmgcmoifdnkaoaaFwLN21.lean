/- One of the texts of the layer and the walks: it proves what its theorems say of the functions of the seat, with no condition beyond theirs. -/
import Derived.Test.YtmgcmoifdnkaoaaFwLT16
import Derived.Test.YtmgcmoifdnkaoaaFwLN17
import Derived.Test.YtmgcmoifdnkaoaaFwLM10
set_option linter.unusedSimpArgs false
set_option linter.unusedVariables false
namespace Go.Fw
open Go.Proofs
attribute [local irreducible] KO4 KO3 KO2 KO1 KO KN KX KE VK KCond KDraw KCall KLoop
set_option maxHeartbeats 16000000
set_option maxRecDepth 10000
attribute [local irreducible] lowM bridgesM cutsM blocksM keyE appE permF
theorem newE {h : AHeap} (hw : WF h) : ∃ h1 h2, aAlloc Try.prog h 24 = some (.pointer (some ⟨h.next, 0, none⟩), h1) ∧ aStore Try.prog h1 24 (.pointer (some ⟨h.next, 0, none⟩)) emptyG = some h2 ∧ Le h h2 ∧ WF h2 := by
  obtain ⟨h1, e1, l1, w1, o1⟩ := alloc_f hw [.int .i64 0, .slice none 0 0]
  have nw : h.own h.next = none := (Le.refl h).next hw (Nat.le_refl _)
  have st := store24 (n := 0) (ev := .slice none 0 0) o1 rfl rfl
  exact ⟨h1, _, by rw [alloc24, e1], st, l1.put _ nw, w1.put _ (w1.lt o1)⟩
theorem names_main {n : Nat} {es : List Pr} {ps : List Int} (A : AppOK ⟨(n : Int), es⟩ ps) {al bl : List (Pr × Int)}
    (hal : ∀ p x, lookK al p = some x ↔ Met (blocksM n es) (blocksM n es).length 0 p x) (hbl : ∀ p x, lookK bl p = some x ↔ Met (blocksM n (appE ps es)) (blocksM n (appE ps es)).length 0 p x)
    {i : Nat} {b : List Pr} (hb : (blocksM n es)[i]? = some b) : (∃ p0, b[0]? = some p0) ∧ ∃ (k : Nat) (b' : List Pr), (blocksM n (appE ps es))[k]? = some b' ∧ b'.length = b.length ∧ ∀ e ∈ b, e ∈ es ∧ lookK al e = some (i : Int) ∧ lookK bl (mapE (permF ps) e) = some (k : Int) := by
  have I := A.iso
  have hR := A.1
  have hR2 := A.right
  have AS := blocks_AtS hR
  obtain ⟨ky, hky, hbe⟩ := blocks_get hb
  have hne : b ≠ [] := AS.ne b (List.mem_of_getElem? hb)
  obtain ⟨p0, r, hpr⟩ := List.exists_cons_of_ne_nil hne
  have h0 : b[0]? = some p0 := by rw [hpr]; rfl
  have hp0 := List.mem_of_getElem? h0
  obtain ⟨hp0e, hp0k⟩ := (blocks_in hb hky).1 hp0
  have hq0 := I.mem hp0e
  obtain ⟨k, b', hk, hqb, hmet⟩ := met_ex hR2 hq0
  obtain ⟨ky', hky', hbe'⟩ := blocks_get hk
  have hq0k := ((blocks_in hk hky').1 hqb).2
  refine ⟨⟨p0, h0⟩, k, b', hk, ?_, fun e he => ?_⟩
  · rw [hbe, hbe', ← hp0k, ← hq0k]; exact I.block_len hR.nodup hR2.nodup hp0e
  · obtain ⟨hee, hek⟩ := (blocks_in hb hky).1 he
    refine ⟨hee, (hal _ _).2 ⟨i, b, hb, rfl, .inl ⟨(List.getElem?_eq_some_iff.1 hb).1, he⟩⟩, (hbl _ _).2 ?_⟩
    obtain ⟨k2, b2, hk2, hqb2, hmet2⟩ := met_ex hR2 (I.mem hee)
    have := (met_key hR2 hmet hmet2).2 ((I.key hp0e hee).2 (hp0k.trans hek.symm))
    rw [this]; exact hmet2
theorem mapE_val {π : Nat → Nat} {p : Pr} {x y : Int} (h1 : (π p.1.toNat : Int) = x) (h2 : (π p.2.toNat : Int) = y) : (min x y, max x y) = mapE π p := by
  subst h1; subst h2; rfl
theorem LowNames_law (W0 : Base) (v pv : Value) (G : GM) (ps : List Int) (h : AHeap) (hg : GR h v G) (hp : RL isI h pv ps) : AC Try.prog W0 7 [v, pv] h fun x h' => x = .bool true := by
  have hg0 := hg
  obtain ⟨gn, es⟩ := G
  obtain ⟨ev, rfl, hpe⟩ := hg.open
  refine AC.vc (fn := Try.f7) (c := _) ⟨Try.func7, rfl, by decide⟩ Try.ntmps7 Try.results7 (by simp) fun hwf => ?_
  simp only [argFrame, argFrom, Nat.reduceAdd]
  obtain ⟨h1, b1, le1, wf1, -, lA⟩ := boxG (n := gn) hwf hpe
  generalize h.next = B at *
  have lA1 := lA h1 (Le.refl _)
  simp only [kS1, bLookup, bMapSet, wantA, isCall, stepOp, evalO, evalL, evalP, evalM, putDst, flat, kA, kB, Nat.reduceLT, ↓reduceIte, kC, Nat.reduceEqDiff, aBuiltin, abinG, guardFree, abin, aInt, aUn, aNilCheck, retQ, retQ1, aresults, aresultL, aresult, mkF, undefV, reduceCtorEq, kD, kE, kF, kG, kH, kI, kJ, kK, aExtract, calleeOf, b1, lA1.1]
  refine KCall.intro (by simp only [kS1, bLookup, bMapSet, wantA, isCall, stepOp, evalO, evalL, evalP, evalM, putDst, flat, kA, kB, Nat.reduceLT, ↓reduceIte, kC, Nat.reduceEqDiff, aBuiltin, abinG, guardFree, abin, aInt, aUn, aNilCheck, retQ, retQ1, aresults, aresultL, aresult, mkF, undefV, reduceCtorEq, kD, kE, kF, kG, kH, kI, kJ, kK, aExtract, calleeOf] <;> rfl) ⟨Try.func39, rfl, by decide⟩ (Apply_any W0 _ pv _ ps h1 (hg0.le le1) (hp.le Stays.isI le1)) ?_
  rintro x h2 w2 ⟨l2, ⟨hno, k, hk0, rfl⟩ | ⟨A, fv, rfl, gf, af⟩⟩
  · obtain ⟨h3', h3, e3, e3s, l3, w3⟩ := newE w2
    have d : decide (k = 0) = false := decide_eq_false hk0
    simp only [kS1, bLookup, bMapSet, wantA, isCall, stepOp, evalO, evalL, evalP, evalM, putDst, flat, kA, kB, Nat.reduceLT, ↓reduceIte, kC, Nat.reduceEqDiff, aBuiltin, abinG, guardFree, abin, aInt, aUn, aNilCheck, retQ, retQ1, aresults, aresultL, aresult, mkF, undefV, reduceCtorEq, kD, kE, kF, kG, kH, kI, kJ, kK, aExtract, calleeOf, e3, e3s, bne, d]
    refine KCall.intro (by simp only [kS1, bLookup, bMapSet, wantA, isCall, stepOp, evalO, evalL, evalP, evalM, putDst, flat, kA, kB, Nat.reduceLT, ↓reduceIte, kC, Nat.reduceEqDiff, aBuiltin, abinG, guardFree, abin, aInt, aUn, aNilCheck, retQ, retQ1, aresults, aresultL, aresult, mkF, undefV, reduceCtorEq, kD, kE, kF, kG, kH, kI, kJ, kK, aExtract, calleeOf] <;> rfl) ⟨Try.func15, rfl, by decide⟩ (awake_any W0 h3) ?_
    rintro x h4 w4 ⟨rfl, l4⟩
    simp only [kS1, bLookup, bMapSet, wantA, isCall, stepOp, evalO, evalL, evalP, evalM, putDst, flat, kA, kB, Nat.reduceLT, ↓reduceIte, kC, Nat.reduceEqDiff, aBuiltin, abinG, guardFree, abin, aInt, aUn, aNilCheck, retQ, retQ1, aresults, aresultL, aresult, mkF, undefV, reduceCtorEq, kD, kE, kF, kG, kH, kI, kJ, kK, aExtract, calleeOf]
  obtain ⟨h3', h3, e3, e3s, l3, w3, lG⟩ := newG w2 (n := gn) gf.pr
  have le3 := l2.trans l3
  have lA3 := lA h3 le3
  simp only [kS1, bLookup, bMapSet, wantA, isCall, stepOp, evalO, evalL, evalP, evalM, putDst, flat, kA, kB, Nat.reduceLT, ↓reduceIte, kC, Nat.reduceEqDiff, aBuiltin, abinG, guardFree, abin, aInt, aUn, aNilCheck, retQ, retQ1, aresults, aresultL, aresult, mkF, undefV, reduceCtorEq, kD, kE, kF, kG, kH, kI, kJ, kK, aExtract, calleeOf, e3, e3s, bne, lA3.1]
  generalize h2.next = Y at *
  refine KCall.intro (by simp only [kS1, bLookup, bMapSet, wantA, isCall, stepOp, evalO, evalL, evalP, evalM, putDst, flat, kA, kB, Nat.reduceLT, ↓reduceIte, kC, Nat.reduceEqDiff, aBuiltin, abinG, guardFree, abin, aInt, aUn, aNilCheck, retQ, retQ1, aresults, aresultL, aresult, mkF, undefV, reduceCtorEq, kD, kE, kF, kG, kH, kI, kJ, kK, aExtract, calleeOf] <;> rfl) ⟨Try.func31, rfl, by decide⟩ (right_any W0 _ _ h3 (hg0.le (le1.trans le3))) ?_
  rintro x h4 w4 ⟨⟨bb, rfl, hbb⟩, l4⟩
  cases bb with
  | false =>
    simp only [kS1, bLookup, bMapSet, wantA, isCall, stepOp, evalO, evalL, evalP, evalM, putDst, flat, kA, kB, Nat.reduceLT, ↓reduceIte, kC, Nat.reduceEqDiff, aBuiltin, abinG, guardFree, abin, aInt, aUn, aNilCheck, retQ, retQ1, aresults, aresultL, aresult, mkF, undefV, reduceCtorEq, kD, kE, kF, kG, kH, kI, kJ, kK, aExtract, calleeOf]
    refine KCall.intro (by simp only [kS1, bLookup, bMapSet, wantA, isCall, stepOp, evalO, evalL, evalP, evalM, putDst, flat, kA, kB, Nat.reduceLT, ↓reduceIte, kC, Nat.reduceEqDiff, aBuiltin, abinG, guardFree, abin, aInt, aUn, aNilCheck, retQ, retQ1, aresults, aresultL, aresult, mkF, undefV, reduceCtorEq, kD, kE, kF, kG, kH, kI, kJ, kK, aExtract, calleeOf] <;> rfl) ⟨Try.func15, rfl, by decide⟩ (awake_any W0 h4) ?_
    rintro x h5 w5 ⟨rfl, l5⟩
    simp only [kS1, bLookup, bMapSet, wantA, isCall, stepOp, evalO, evalL, evalP, evalM, putDst, flat, kA, kB, Nat.reduceLT, ↓reduceIte, kC, Nat.reduceEqDiff, aBuiltin, abinG, guardFree, abin, aInt, aUn, aNilCheck, retQ, retQ1, aresults, aresultL, aresult, mkF, undefV, reduceCtorEq, kD, kE, kF, kG, kH, kI, kJ, kK, aExtract, calleeOf]
  | true =>
  obtain ⟨hr, hn24⟩ := hbb.1 rfl
  clear hbb
  have h0 : 0 ≤ gn := hr.n0
  obtain ⟨n, rfl⟩ := Int.eq_ofNat_of_zero_le h0
  simp only at hn24 gf
  have hln : ps.length = n := by have := A.2.2; simp only at this; omega
  have hK := A.2.1
  have hR := hr.inR
  have hr2 := A.right
  have I := A.iso
  have h594 : es.length ≤ 594 := hr.len
  have hbl := (blocksM_len' n es)
  have hbl2 := (blocksM_len' n (appE ps es))
  have h594' : (appE ps es).length ≤ 594 := hr2.len
  have le4 := le3.trans l4
  have lA4 := lA h4 le4
  have gf3 := gf.le l3
  simp only [kS1, bLookup, bMapSet, wantA, isCall, stepOp, evalO, evalL, evalP, evalM, putDst, flat, kA, kB, Nat.reduceLT, ↓reduceIte, kC, Nat.reduceEqDiff, aBuiltin, abinG, guardFree, abin, aInt, aUn, aNilCheck, retQ, retQ1, aresults, aresultL, aresult, mkF, undefV, reduceCtorEq, kD, kE, kF, kG, kH, kI, kJ, kK, aExtract, calleeOf, lA4.1]
  refine KCall.intro (by simp only [kS1, bLookup, bMapSet, wantA, isCall, stepOp, evalO, evalL, evalP, evalM, putDst, flat, kA, kB, Nat.reduceLT, ↓reduceIte, kC, Nat.reduceEqDiff, aBuiltin, abinG, guardFree, abin, aInt, aUn, aNilCheck, retQ, retQ1, aresults, aresultL, aresult, mkF, undefV, reduceCtorEq, kD, kE, kF, kG, kH, kI, kJ, kK, aExtract, calleeOf] <;> rfl) ⟨Try.func25, rfl, by decide⟩ (Blocks_any W0 _ _ h4 (hg0.le (le1.trans le4))) ?_
  rintro x h5 w5 ⟨l5, ⟨hn, _⟩ | ⟨_, lv, rfl, hl⟩⟩
  · exact absurd hr hn
  simp only [Int.toNat_natCast] at hl
  have l35 := l4.trans l5
  simp only [kS1, bLookup, bMapSet, wantA, isCall, stepOp, evalO, evalL, evalP, evalM, putDst, flat, kA, kB, Nat.reduceLT, ↓reduceIte, kC, Nat.reduceEqDiff, aBuiltin, abinG, guardFree, abin, aInt, aUn, aNilCheck, retQ, retQ1, aresults, aresultL, aresult, mkF, undefV, reduceCtorEq, kD, kE, kF, kG, kH, kI, kJ, kK, aExtract, calleeOf, (lG h5 l35).1]
  refine KCall.intro (by simp only [kS1, bLookup, bMapSet, wantA, isCall, stepOp, evalO, evalL, evalP, evalM, putDst, flat, kA, kB, Nat.reduceLT, ↓reduceIte, kC, Nat.reduceEqDiff, aBuiltin, abinG, guardFree, abin, aInt, aUn, aNilCheck, retQ, retQ1, aresults, aresultL, aresult, mkF, undefV, reduceCtorEq, kD, kE, kF, kG, kH, kI, kJ, kK, aExtract, calleeOf] <;> rfl) ⟨Try.func25, rfl, by decide⟩ (Blocks_any W0 _ ⟨(n : Int), appE ps es⟩ h5 ⟨fv, rfl, (gf3.le l35).pr⟩) ?_
  rintro x h6 w6 ⟨l6, ⟨hn, _⟩ | ⟨_, mv, rfl, hm⟩⟩
  · exact absurd hr2 hn
  simp only [Int.toNat_natCast] at hm
  have l36 := l35.trans l6
  have le6 := le3.trans l36
  have hl6 := hl.le Stays.PR l6
  simp only [kS1, bLookup, bMapSet, wantA, isCall, stepOp, evalO, evalL, evalP, evalM, putDst, flat, kA, kB, Nat.reduceLT, ↓reduceIte, kC, Nat.reduceEqDiff, aBuiltin, abinG, guardFree, abin, aInt, aUn, aNilCheck, retQ, retQ1, aresults, aresultL, aresult, mkF, undefV, reduceCtorEq, kD, kE, kF, kG, kH, kI, kJ, kK, aExtract, calleeOf, (lA h6 le6).1]
  refine KCall.intro (by simp only [kS1, bLookup, bMapSet, wantA, isCall, stepOp, evalO, evalL, evalP, evalM, putDst, flat, kA, kB, Nat.reduceLT, ↓reduceIte, kC, Nat.reduceEqDiff, aBuiltin, abinG, guardFree, abin, aInt, aUn, aNilCheck, retQ, retQ1, aresults, aresultL, aresult, mkF, undefV, reduceCtorEq, kD, kE, kF, kG, kH, kI, kJ, kK, aExtract, calleeOf] <;> rfl) ⟨Try.func33, rfl, by decide⟩ (at_any W0 _ lv n es _ h6 (hg0.le (le1.trans le6)) hr hl6 (blocks_AtS hr)) ?_
  rintro x h7 w7 ⟨M1, al, rfl, oM1, hal, l7, nM1⟩
  have l37 := l36.trans l7
  have hm7 := hm.le Stays.PR l7
  simp only [kS1, bLookup, bMapSet, wantA, isCall, stepOp, evalO, evalL, evalP, evalM, putDst, flat, kA, kB, Nat.reduceLT, ↓reduceIte, kC, Nat.reduceEqDiff, aBuiltin, abinG, guardFree, abin, aInt, aUn, aNilCheck, retQ, retQ1, aresults, aresultL, aresult, mkF, undefV, reduceCtorEq, kD, kE, kF, kG, kH, kI, kJ, kK, aExtract, calleeOf, (lG h7 l37).1]
  refine KCall.intro (by simp only [kS1, bLookup, bMapSet, wantA, isCall, stepOp, evalO, evalL, evalP, evalM, putDst, flat, kA, kB, Nat.reduceLT, ↓reduceIte, kC, Nat.reduceEqDiff, aBuiltin, abinG, guardFree, abin, aInt, aUn, aNilCheck, retQ, retQ1, aresults, aresultL, aresult, mkF, undefV, reduceCtorEq, kD, kE, kF, kG, kH, kI, kJ, kK, aExtract, calleeOf] <;> rfl) ⟨Try.func33, rfl, by decide⟩ (at_any W0 _ mv n (appE ps es) _ h7 ⟨fv, rfl, (gf3.le l37).pr⟩ hr2 hm7 (blocks_AtS hr2)) ?_
  rintro x h8 w8 ⟨M2, bl, rfl, oM2, hbl', l8, nM2⟩
  have l38 := l37.trans l8
  have le8 := le3.trans l38
  have oM1' := l8.own _ _ oM1
  have hl8 := (hl6.le Stays.PR l7).le Stays.PR l8
  have hm8 := hm7.le Stays.PR l8
  have ll := fun g => hl.len (P := Try.prog) Try.underlying38 g
  have lm := fun g => hm.len (P := Try.prog) Try.underlying38 g
  rw [← I.blocks] at lm
  have main := fun {i : Nat} {b : List Pr} (hb : (blocksM n es)[i]? = some b) => names_main A hal hbl' hb
  have dL : decide (((blocksM n es).length : Int) = ((blocksM n es).length : Int)) = true := by simp
  simp only [kS1, bLookup, bMapSet, wantA, isCall, stepOp, evalO, evalL, evalP, evalM, putDst, flat, kA, kB, Nat.reduceLT, ↓reduceIte, kC, Nat.reduceEqDiff, aBuiltin, abinG, guardFree, abin, aInt, aUn, aNilCheck, retQ, retQ1, aresults, aresultL, aresult, mkF, undefV, reduceCtorEq, kD, kE, kF, kG, kH, kI, kJ, kK, aExtract, calleeOf, bne, wr0, ll, lm, dL]
  clear hal hbl'
  have hcI := I.cuts
  generalize blocksM n es = bs at *
  generalize blocksM n (appE ps es) = bt at *
  have hpA : ∀ a : Nat, a < n → aIndexAddr Try.prog 35 pv (.int .i64 (a : Int)) = some (.pointer (some (elemAddr pv a))) := fun a ha => hp.addr (P := Try.prog) Try.underlying35 Try.underlying3 (by kernel_rfl) (k := .i64) a (by omega)
  have hpL : ∀ a : Nat, a < n → ∀ g, Le h8 g → aload Try.prog g 3 (elemAddr pv a) = some (.int .i64 (permF ps a : Int)) := fun a ha g l => by
    have := (hp.le Stays.isI ((le1.trans le8).trans l)).loadI (P := Try.prog) Try.underlying3 rfl a (by omega)
    rw [this, ← (hK.get (show a < ps.length by omega)).1, getD_of (by omega)]
  have lk1 : ∀ g, Le h8 g → ∀ p x, lookK al p = some x → aLookupA Try.prog g 54 (.map (some M1)) (valP p) false = some (.int .i64 x) := fun g l p x hx => by
    rw [mapP_look (l.own _ _ oM1'), hx]; rfl
  have lk2 : ∀ g, Le h8 g → ∀ p x, lookK bl p = some x → aLookupA Try.prog g 54 (.map (some M2)) (valP p) false = some (.int .i64 x) := fun g l p x hx => by
    rw [mapP_look (l.own _ _ oM2), hx]; rfl
  -- the blocks
  refine KLoop.intro (fun k fr hq => ∃ (i : Nat), k = bs.length - i ∧ i ≤ bs.length ∧ fr = mkF [(1, pv), (2, .pointer (some ⟨B, 0, none⟩)), (5, .pointer (some ⟨Y, 0, none⟩)), (8, mv), (10, .map (some M1)), (12, .map (some M2)), (81, lv), (82, .int .i64 bs.length), (83, .int .i64 i)] ∧ Le h8 hq)
    bs.length [(1, pv), (2, .pointer (some ⟨B, 0, none⟩)), (5, .pointer (some ⟨Y, 0, none⟩)), (8, mv), (10, .map (some M1)), (12, .map (some M2)), (81, lv), (82, .int .i64 bs.length), (83, .int .i64 (0 : Nat))] (by simp only [hasAll, kS1, bLookup, bMapSet, wantA, isCall, stepOp, evalO, evalL, evalP, evalM, putDst, flat, kA, kB, Nat.reduceLT, ↓reduceIte, kC, Nat.reduceEqDiff, aBuiltin, abinG, guardFree, abin, aInt, aUn, aNilCheck, retQ, retQ1, aresults, aresultL, aresult, mkF, undefV, reduceCtorEq, kD, kE, kF, kG, kH, kI, kJ, kK, aExtract, calleeOf]; simp)
    ⟨0, rfl, Nat.zero_le _, rfl, Le.refl _⟩ ?_
  rintro k fr hq hwq ⟨i, rfl, hi, rfl, leq⟩
  simp only [kS1, bLookup, bMapSet, wantA, isCall, stepOp, evalO, evalL, evalP, evalM, putDst, flat, kA, kB, Nat.reduceLT, ↓reduceIte, kC, Nat.reduceEqDiff, aBuiltin, abinG, guardFree, abin, aInt, aUn, aNilCheck, retQ, retQ1, aresults, aresultL, aresult, mkF, undefV, reduceCtorEq, kD, kE, kF, kG, kH, kI, kJ, kK, aExtract, calleeOf]
  refine KCond.intro (fun ht => ?_) (fun hf => ?_)
  · have hlt : i < bs.length := lt_t ht
    clear ht
    have hbi := getElem?_of hlt
    have adi := hl.addr (P := Try.prog) Try.underlying38 Try.underlying22 (by kernel_rfl) (k := .i64) i hlt
    obtain ⟨u, ldi, hu⟩ := hl8.load' (P := Try.prog) Try.underlying22 rfl i hlt
    generalize bs[i] = b at hbi hu
    obtain ⟨⟨p0, hp0⟩, k, b', hk, hbl2', hall⟩ := main hbi
    have hb0 : 0 < b.length := (List.getElem?_eq_some_iff.1 hp0).1
    have hb594 : b.length ≤ 594 := Nat.le_trans (hbl.2 b (List.mem_of_getElem? hbi)) h594
    obtain ⟨hp0e, hp0a, hp0b⟩ := hall p0 (List.mem_of_getElem? hp0)
    have hp0R := hR p0 hp0e
    obtain ⟨a, ea⟩ := Int.eq_ofNat_of_zero_le hp0R.1
    obtain ⟨c, ec⟩ := Int.eq_ofNat_of_zero_le (show 0 ≤ p0.2 by omega)
    have ad0 : aIndexAddr Try.prog 22 u (.int .i64 0) = some (.pointer (some (pAddr u 0))) := by simpa using hu.addr (k := .i64) 0 hb0
    have ld0 := fun (g : AHeap) (l : Le h8 g) => (hu.le l).l0 hp0
    have ld1 := fun (g : AHeap) (l : Le h8 g) => (hu.le l).l1 hp0
    simp only [aadd, Nat.add_zero] at ld0 ld1
    rw [ea] at ld0
    rw [ec] at ld1
    have han : a < n := by omega
    have hcn : c < n := by omega
    have me := mapE_val (π := permF ps) (p := p0) (x := (permF ps a : Int)) (y := (permF ps c : Int)) (by rw [ea]; rfl) (by rw [ec]; rfl)
    simp only [kS1, bLookup, bMapSet, wantA, isCall, stepOp, evalO, evalL, evalP, evalM, putDst, flat, kA, kB, Nat.reduceLT, ↓reduceIte, kC, Nat.reduceEqDiff, aBuiltin, abinG, guardFree, abin, aInt, aUn, aNilCheck, retQ, retQ1, aresults, aresultL, aresult, mkF, undefV, reduceCtorEq, kD, kE, kF, kG, kH, kI, kJ, kK, aExtract, calleeOf, adi, ldi hq leq]
    refine KDraw.intro mixed (.fl 0 (.fl 1 (.fl 2 (.fl 3 (.fl 4 (.fl 5 (.fl 6 (.fl 7 (.fl 8 (.fl 9 (.fl 10 (.fl 11 (.fl 12 (.fl 13 (.fl 14 (.ch 15 [7, 14] (.ch 16 [0, 15] (.fl 17 (.done)) .no) .no)))))))))))))))) (by kernel_rfl) ?_
    simp only [kS1, bLookup, bMapSet, wantA, isCall, stepOp, evalO, evalL, evalP, evalM, putDst, flat, kA, kB, Nat.reduceLT, ↓reduceIte, kC, Nat.reduceEqDiff, aBuiltin, abinG, guardFree, abin, aInt, aUn, aNilCheck, retQ, retQ1, aresults, aresultL, aresult, mkF, undefV, reduceCtorEq, kD, kE, kF, kG, kH, kI, kJ, kK, aExtract, calleeOf, kD1, Nat.reduceBEq, HoldsAll, kL, kM, kN, kO, ad0, pa0, pa1, aadd, Nat.add_zero, ld0 hq leq, ld1 hq leq, hpA a han, hpA c hcn, hpL a han hq leq, hpL c hcn hq leq]
    refine KGCall.intro (by simp only [kS1, bLookup, bMapSet, wantA, isCall, stepOp, evalO, evalL, evalP, evalM, putDst, flat, kA, kB, Nat.reduceLT, ↓reduceIte, kC, Nat.reduceEqDiff, aBuiltin, abinG, guardFree, abin, aInt, aUn, aNilCheck, retQ, retQ1, aresults, aresultL, aresult, mkF, undefV, reduceCtorEq, kD, kE, kF, kG, kH, kI, kJ, kK, aExtract, calleeOf] <;> rfl) ⟨Try.func38, rfl, by decide⟩ (edge_any W0 (permF ps a : Int) (permF ps c : Int) hq) ?_
    rintro x h9 w9 ⟨rfl, l9⟩
    have le9 := leq.trans l9
    rw [me]
    have lk9 := lk2 h9 le9 _ _ hp0b
    have hkl := (List.getElem?_eq_some_iff.1 hk).1
    have hbk' := (List.getElem?_eq_some_iff.1 hk).2
    have adk := hm8.addr (P := Try.prog) Try.underlying38 Try.underlying22 (by kernel_rfl) (k := .i64) k hkl
    obtain ⟨u', ldk, hu'⟩ := hm8.load' (P := Try.prog) Try.underlying22 rfl k hkl
    rw [hbk'] at hu'
    have lu := fun g => hu.len g
    have lu' := fun g => hu'.len g
    rw [hbl2'] at lu'
    have dB : decide ((b.length : Int) = (b.length : Int)) = true := by simp
    simp only [kS1, bLookup, bMapSet, wantA, isCall, stepOp, evalO, evalL, evalP, evalM, putDst, flat, kA, kB, Nat.reduceLT, ↓reduceIte, kC, Nat.reduceEqDiff, aBuiltin, abinG, guardFree, abin, aInt, aUn, aNilCheck, retQ, retQ1, aresults, aresultL, aresult, mkF, undefV, reduceCtorEq, kD, kE, kF, kG, kH, kI, kJ, kK, aExtract, calleeOf, kD1, Nat.reduceBEq, HoldsAll, kL, kM, kN, kO, ad0, pa0, pa1, aadd, Nat.add_zero, ld0 h9 le9, ld1 h9 le9, hpA a han, hpA c hcn, hpL a han h9 le9, hpL c hcn h9 le9, lookP_none, lk9, adk, ldk h9 le9, lu, lu', bne, dB]
    refine KLoop.intro (fun k' fr hz => ∃ (j : Nat), k' = b.length - j ∧ j ≤ b.length ∧ fr = mkF [(1, pv), (2, .pointer (some ⟨B, 0, none⟩)), (5, .pointer (some ⟨Y, 0, none⟩)), (8, mv), (10, .map (some M1)), (12, .map (some M2)), (14, .int .i64 i), (16, .int .i64 k), (81, lv), (82, .int .i64 bs.length), (83, .int .i64 i), (113, u), (114, .int .i64 b.length), (115, .int .i64 j)] ∧ Le h9 hz)
      b.length [(1, pv), (2, .pointer (some ⟨B, 0, none⟩)), (5, .pointer (some ⟨Y, 0, none⟩)), (8, mv), (10, .map (some M1)), (12, .map (some M2)), (14, .int .i64 i), (16, .int .i64 k), (81, lv), (82, .int .i64 bs.length), (83, .int .i64 i), (113, u), (114, .int .i64 b.length), (115, .int .i64 (0 : Nat))] (by simp only [hasAll, kS1, bLookup, bMapSet, wantA, isCall, stepOp, evalO, evalL, evalP, evalM, putDst, flat, kA, kB, Nat.reduceLT, ↓reduceIte, kC, Nat.reduceEqDiff, aBuiltin, abinG, guardFree, abin, aInt, aUn, aNilCheck, retQ, retQ1, aresults, aresultL, aresult, mkF, undefV, reduceCtorEq, kD, kE, kF, kG, kH, kI, kJ, kK, aExtract, calleeOf]; simp)
      ⟨0, rfl, Nat.zero_le _, rfl, Le.refl _⟩ ?_
    rintro k' fr hz hwz ⟨j, rfl, hj, rfl, lez⟩
    simp only [kS1, bLookup, bMapSet, wantA, isCall, stepOp, evalO, evalL, evalP, evalM, putDst, flat, kA, kB, Nat.reduceLT, ↓reduceIte, kC, Nat.reduceEqDiff, aBuiltin, abinG, guardFree, abin, aInt, aUn, aNilCheck, retQ, retQ1, aresults, aresultL, aresult, mkF, undefV, reduceCtorEq, kD, kE, kF, kG, kH, kI, kJ, kK, aExtract, calleeOf]
    refine KCond.intro (fun ht => ?_) (fun hf => ?_)
    rotate_left
    · simp only [kS1, bLookup, bMapSet, wantA, isCall, stepOp, evalO, evalL, evalP, evalM, putDst, flat, kA, kB, Nat.reduceLT, ↓reduceIte, kC, Nat.reduceEqDiff, aBuiltin, abinG, guardFree, abin, aInt, aUn, aNilCheck, retQ, retQ1, aresults, aresultL, aresult, mkF, undefV, reduceCtorEq, kD, kE, kF, kG, kH, kI, kJ, kK, aExtract, calleeOf, awrap_succ i (by omega)]
      exact loop_again (bs.length - (i + 1)) [(1, pv), (2, .pointer (some ⟨B, 0, none⟩)), (5, .pointer (some ⟨Y, 0, none⟩)), (8, mv), (10, .map (some M1)), (12, .map (some M2)), (81, lv), (82, .int .i64 bs.length), (83, .int .i64 (i + 1 : Nat))] (by omega) (by simp only [hasAll, kS1, bLookup, bMapSet, wantA, isCall, stepOp, evalO, evalL, evalP, evalM, putDst, flat, kA, kB, Nat.reduceLT, ↓reduceIte, kC, Nat.reduceEqDiff, aBuiltin, abinG, guardFree, abin, aInt, aUn, aNilCheck, retQ, retQ1, aresults, aresultL, aresult, mkF, undefV, reduceCtorEq, kD, kE, kF, kG, kH, kI, kJ, kK, aExtract, calleeOf]; simp)
        ⟨i + 1, rfl, hlt, rfl, le9.trans lez⟩
    have hlj : j < b.length := lt_t ht
    clear ht
    have hej := getElem?_of hlj
    generalize b[j] = e at hej
    obtain ⟨hee, hea, heb⟩ := hall e (List.mem_of_getElem? hej)
    have heR := hR e hee
    obtain ⟨a2, ea2⟩ := Int.eq_ofNat_of_zero_le heR.1
    obtain ⟨c2, ec2⟩ := Int.eq_ofNat_of_zero_le (show 0 ≤ e.2 by omega)
    have ha2 : a2 < n := by omega
    have hc2 : c2 < n := by omega
    have me2 := mapE_val (π := permF ps) (p := e) (x := (permF ps a2 : Int)) (y := (permF ps c2 : Int)) (by rw [ea2]; rfl) (by rw [ec2]; rfl)
    have adj_ := hu.addr (k := .i64) j hlj
    have ldj := (hu.le (le9.trans lez)).load hej
    obtain ⟨h10', h10, e10, e10s, l10, w10, o10⟩ := new42 hwz e
    generalize hz.next = E at *
    have le10 := (le9.trans lez).trans l10
    have m0 := own0 o10
    have m1 := own1 o10
    rw [ea2] at m0
    rw [ec2] at m1
    have lp := own42 o10
    have k1 := lk1 h10 le10 _ _ hea
    have dI : decide ((i : Int) = (i : Int)) = true := by simp
    have dK : decide ((k : Int) = (k : Int)) = true := by simp
    simp only [kS1, bLookup, bMapSet, wantA, isCall, stepOp, evalO, evalL, evalP, evalM, putDst, flat, kA, kB, Nat.reduceLT, ↓reduceIte, kC, Nat.reduceEqDiff, aBuiltin, abinG, guardFree, abin, aInt, aUn, aNilCheck, retQ, retQ1, aresults, aresultL, aresult, mkF, undefV, reduceCtorEq, kD, kE, kF, kG, kH, kI, kJ, kK, aExtract, calleeOf, adj_, ldj, e10, e10s]
    refine KDraw.intro mixed (.fl 0 (.fl 1 (.fl 3 (.ch 2 [0, 1] (.fl 4 (.fl 5 (.fl 6 (.fl 7 (.fl 8 (.fl 9 (.fl 10 (.fl 11 (.fl 12 (.fl 13 (.fl 14 (.fl 15 (.fl 16 (.fl 19 (.ch 17 [5, 11, 16] (.ch 18 [5, 6, 17] (.fl 20 (.fl 21 (.done))) .no) .no))))))))))))))) .no)))) (by kernel_rfl) ?_
    simp only [kS1, bLookup, bMapSet, wantA, isCall, stepOp, evalO, evalL, evalP, evalM, putDst, flat, kA, kB, Nat.reduceLT, ↓reduceIte, kC, Nat.reduceEqDiff, aBuiltin, abinG, guardFree, abin, aInt, aUn, aNilCheck, retQ, retQ1, aresults, aresultL, aresult, mkF, undefV, reduceCtorEq, kD, kE, kF, kG, kH, kI, kJ, kK, aExtract, calleeOf, kD1, Nat.reduceBEq, HoldsAll, kL, kM, kN, kO, lp, lookP_none, k1, bne, dI, pa0, pa1, aadd, Nat.add_zero, Nat.zero_add, m0, m1, hpA a2 ha2, hpA c2 hc2, hpL a2 ha2 h10 le10, hpL c2 hc2 h10 le10]
    refine KGCall.intro (by simp only [kS1, bLookup, bMapSet, wantA, isCall, stepOp, evalO, evalL, evalP, evalM, putDst, flat, kA, kB, Nat.reduceLT, ↓reduceIte, kC, Nat.reduceEqDiff, aBuiltin, abinG, guardFree, abin, aInt, aUn, aNilCheck, retQ, retQ1, aresults, aresultL, aresult, mkF, undefV, reduceCtorEq, kD, kE, kF, kG, kH, kI, kJ, kK, aExtract, calleeOf] <;> rfl) ⟨Try.func38, rfl, by decide⟩ (edge_any W0 (permF ps a2 : Int) (permF ps c2 : Int) h10) ?_
    rintro x h11 w11 ⟨rfl, l11⟩
    have le11 := le10.trans l11
    rw [me2]
    have k2 := lk2 h11 le11 _ _ heb
    have k1' := lk1 h11 le11 _ _ hea
    have lp' := own42 (l11.own _ _ o10)
    have m0' := own0 (l11.own _ _ o10)
    have m1' := own1 (l11.own _ _ o10)
    rw [ea2] at m0'
    rw [ec2] at m1'
    simp only [kS1, bLookup, bMapSet, wantA, isCall, stepOp, evalO, evalL, evalP, evalM, putDst, flat, kA, kB, Nat.reduceLT, ↓reduceIte, kC, Nat.reduceEqDiff, aBuiltin, abinG, guardFree, abin, aInt, aUn, aNilCheck, retQ, retQ1, aresults, aresultL, aresult, mkF, undefV, reduceCtorEq, kD, kE, kF, kG, kH, kI, kJ, kK, aExtract, calleeOf, kD1, Nat.reduceBEq, HoldsAll, kL, kM, kN, kO, lp', lookP_none, k1', k2, bne, dI, dK, pa0, pa1, aadd, Nat.add_zero, Nat.zero_add, m0', m1', hpA a2 ha2, hpA c2 hc2, hpL a2 ha2 h11 le11, hpL c2 hc2 h11 le11, awrap_succ j (by omega)]
    exact loop_again (b.length - (j + 1)) [(1, pv), (2, .pointer (some ⟨B, 0, none⟩)), (5, .pointer (some ⟨Y, 0, none⟩)), (8, mv), (10, .map (some M1)), (12, .map (some M2)), (14, .int .i64 i), (16, .int .i64 k), (81, lv), (82, .int .i64 bs.length), (83, .int .i64 i), (113, u), (114, .int .i64 b.length), (115, .int .i64 (j + 1 : Nat))] (by omega) (by simp only [hasAll, kS1, bLookup, bMapSet, wantA, isCall, stepOp, evalO, evalL, evalP, evalM, putDst, flat, kA, kB, Nat.reduceLT, ↓reduceIte, kC, Nat.reduceEqDiff, aBuiltin, abinG, guardFree, abin, aInt, aUn, aNilCheck, retQ, retQ1, aresults, aresultL, aresult, mkF, undefV, reduceCtorEq, kD, kE, kF, kG, kH, kI, kJ, kK, aExtract, calleeOf]; simp)
      ⟨j + 1, rfl, hlj, rfl, (lez.trans l10).trans l11⟩
  clear hf
  have le8q := le8.trans leq
  have l3q := l38.trans leq
  simp only [kS1, bLookup, bMapSet, wantA, isCall, stepOp, evalO, evalL, evalP, evalM, putDst, flat, kA, kB, Nat.reduceLT, ↓reduceIte, kC, Nat.reduceEqDiff, aBuiltin, abinG, guardFree, abin, aInt, aUn, aNilCheck, retQ, retQ1, aresults, aresultL, aresult, mkF, undefV, reduceCtorEq, kD, kE, kF, kG, kH, kI, kJ, kK, aExtract, calleeOf, (lA hq le8q).1]
  refine KCall.intro (by simp only [kS1, bLookup, bMapSet, wantA, isCall, stepOp, evalO, evalL, evalP, evalM, putDst, flat, kA, kB, Nat.reduceLT, ↓reduceIte, kC, Nat.reduceEqDiff, aBuiltin, abinG, guardFree, abin, aInt, aUn, aNilCheck, retQ, retQ1, aresults, aresultL, aresult, mkF, undefV, reduceCtorEq, kD, kE, kF, kG, kH, kI, kJ, kK, aExtract, calleeOf] <;> rfl) ⟨Try.func23, rfl, by decide⟩ (Cuts_any W0 _ _ hq (hg0.le (le1.trans le8q))) ?_
  rintro x h9 w9 ⟨l9, ⟨hn, _⟩ | ⟨_, cv, rfl, gc, _⟩⟩
  · exact absurd hr hn
  simp only [Int.toNat_natCast] at gc
  have l39 := l3q.trans l9
  simp only [kS1, bLookup, bMapSet, wantA, isCall, stepOp, evalO, evalL, evalP, evalM, putDst, flat, kA, kB, Nat.reduceLT, ↓reduceIte, kC, Nat.reduceEqDiff, aBuiltin, abinG, guardFree, abin, aInt, aUn, aNilCheck, retQ, retQ1, aresults, aresultL, aresult, mkF, undefV, reduceCtorEq, kD, kE, kF, kG, kH, kI, kJ, kK, aExtract, calleeOf, (lG h9 l39).1]
  refine KCall.intro (by simp only [kS1, bLookup, bMapSet, wantA, isCall, stepOp, evalO, evalL, evalP, evalM, putDst, flat, kA, kB, Nat.reduceLT, ↓reduceIte, kC, Nat.reduceEqDiff, aBuiltin, abinG, guardFree, abin, aInt, aUn, aNilCheck, retQ, retQ1, aresults, aresultL, aresult, mkF, undefV, reduceCtorEq, kD, kE, kF, kG, kH, kI, kJ, kK, aExtract, calleeOf] <;> rfl) ⟨Try.func23, rfl, by decide⟩ (Cuts_any W0 _ ⟨(n : Int), appE ps es⟩ h9 ⟨fv, rfl, (gf3.le l39).pr⟩) ?_
  rintro x h10 w10 ⟨l10, ⟨hn, _⟩ | ⟨_, dv, rfl, gd, _⟩⟩
  · exact absurd hr2 hn
  simp only [Int.toNat_natCast] at gd
  have gc10 := gc.le l10
  have hcl : (cutsM n es).length ≤ n := by
    have := List.length_filter_le (isCut (lowM n es).1 (cntM (lowM n es).1 (lowM n es).2 n)) (List.range n)
    rw [cutsM]; rw [List.length_range] at this; exact this
  have hcm : ∀ c ∈ cutsM n es, c < n ∧ permF ps c ∈ cutsM n (appE ps es) := fun c hc => ⟨((cuts_mem hR c).1 hc).1, I.cuts_mem hc⟩
  have hdn := IsoG.cutsM_nd n (appE ps es)
  have lc := fun g => gc.rl.len (P := Try.prog) Try.underlying35 g
  have ld := fun g => gd.rl.len (P := Try.prog) Try.underlying35 g
  rw [nat64_length] at lc ld
  generalize cutsM n es = Cs at *
  generalize cutsM n (appE ps es) = Ds at *
  obtain ⟨h11, e11, l11, w11, o11⟩ : ∃ h11, h10.alloc (.map []) = h11 ∧ Le h10 h11 ∧ WF h11 ∧ h11.own h10.next = some (.map []) := ⟨_, rfl, (Le.refl h10).alloc w10 _, w10.alloc _, AHeap.own_alloc_eq _ _⟩
  have nM : h10.own h10.next = none := (Le.refl h10).next w10 (Nat.le_refl _)
  simp only [kS1, bLookup, bMapSet, wantA, isCall, stepOp, evalO, evalL, evalP, evalM, putDst, flat, kA, kB, Nat.reduceLT, ↓reduceIte, kC, Nat.reduceEqDiff, aBuiltin, abinG, guardFree, abin, aInt, aUn, aNilCheck, retQ, retQ1, aresults, aresultL, aresult, mkF, undefV, reduceCtorEq, kD, kE, kF, kG, kH, kI, kJ, kK, aExtract, calleeOf, e11, ld]
  generalize h10.next = M3 at *
  refine KLoop.intro (fun k fr hz => ∃ (i : Nat), k = Ds.length - i ∧ i ≤ Ds.length ∧ fr = mkF [(1, pv), (6, .int .i64 0), (9, .int .i64 0), (19, cv), (20, dv), (21, .map (some M3)), (154, dv), (155, .int .i64 Ds.length), (156, .int .i64 i)] ∧ hz.own M3 = some (.map (mapI (oneK (Ds.take i)))) ∧ Le h10 hz)
    Ds.length [(1, pv), (6, .int .i64 0), (9, .int .i64 0), (19, cv), (20, dv), (21, .map (some M3)), (154, dv), (155, .int .i64 Ds.length), (156, .int .i64 (0 : Nat))] (by simp only [hasAll, kS1, bLookup, bMapSet, wantA, isCall, stepOp, evalO, evalL, evalP, evalM, putDst, flat, kA, kB, Nat.reduceLT, ↓reduceIte, kC, Nat.reduceEqDiff, aBuiltin, abinG, guardFree, abin, aInt, aUn, aNilCheck, retQ, retQ1, aresults, aresultL, aresult, mkF, undefV, reduceCtorEq, kD, kE, kF, kG, kH, kI, kJ, kK, aExtract, calleeOf]; simp)
    ⟨0, rfl, Nat.zero_le _, rfl, by rw [o11]; rfl, l11⟩ ?_
  clear o11 e11 l11 w11
  clear h11
  rintro k fr hz hwz ⟨i2, rfl, hi2, rfl, oM3, lez⟩
  simp only [kS1, bLookup, bMapSet, wantA, isCall, stepOp, evalO, evalL, evalP, evalM, putDst, flat, kA, kB, Nat.reduceLT, ↓reduceIte, kC, Nat.reduceEqDiff, aBuiltin, abinG, guardFree, abin, aInt, aUn, aNilCheck, retQ, retQ1, aresults, aresultL, aresult, mkF, undefV, reduceCtorEq, kD, kE, kF, kG, kH, kI, kJ, kK, aExtract, calleeOf]
  refine KCond.intro (fun ht => ?_) (fun hf => ?_)
  · have hlt : i2 < Ds.length := lt_t ht
    clear ht
    have hmm : i2 < (nat64 Ds).length := by rw [nat64_length]; exact hlt
    have ad := gd.rl.addr (P := Try.prog) Try.underlying35 Try.underlying3 (by kernel_rfl) (k := .i64) i2 hmm
    have ld' := (gd.le lez).rl.loadI (P := Try.prog) Try.underlying3 rfl i2 hmm
    rw [nat64_get hlt] at ld'
    have htk : Ds.take (i2 + 1) = Ds.take i2 ++ [Ds[i2]] := List.take_succ_eq_append_getElem hlt
    have hni : Ds[i2] ∉ Ds.take i2 := fun hmem => by
      rw [List.Nodup, List.pairwise_iff_getElem] at hdn
      obtain ⟨j, hj, e⟩ := List.mem_iff_getElem.1 hmem
      rw [List.length_take] at hj
      rw [List.getElem_take] at e
      exact hdn j i2 (by omega) hlt (by omega) e
    have st := mapI_set oM3 (Ds[i2] : Int) 1
    rw [set_one hni, ← htk] at st
    have o7 := AHeap.own_put_eq hz M3 (.map (mapI (oneK (Ds.take (i2 + 1)))))
    have l7 := lez.put (.map (mapI (oneK (Ds.take (i2 + 1))))) nM
    generalize Ds[i2] = c at *
    simp only [kS1, bLookup, bMapSet, wantA, isCall, stepOp, evalO, evalL, evalP, evalM, putDst, flat, kA, kB, Nat.reduceLT, ↓reduceIte, kC, Nat.reduceEqDiff, aBuiltin, abinG, guardFree, abin, aInt, aUn, aNilCheck, retQ, retQ1, aresults, aresultL, aresult, mkF, undefV, reduceCtorEq, kD, kE, kF, kG, kH, kI, kJ, kK, aExtract, calleeOf, ad, ld', st, awrap_succ i2 (by omega)]
    exact loop_again (Ds.length - (i2 + 1)) [(1, pv), (6, .int .i64 0), (9, .int .i64 0), (19, cv), (20, dv), (21, .map (some M3)), (154, dv), (155, .int .i64 Ds.length), (156, .int .i64 (i2 + 1 : Nat))] (by omega) (by simp only [hasAll, kS1, bLookup, bMapSet, wantA, isCall, stepOp, evalO, evalL, evalP, evalM, putDst, flat, kA, kB, Nat.reduceLT, ↓reduceIte, kC, Nat.reduceEqDiff, aBuiltin, abinG, guardFree, abin, aInt, aUn, aNilCheck, retQ, retQ1, aresults, aresultL, aresult, mkF, undefV, reduceCtorEq, kD, kE, kF, kG, kH, kI, kJ, kK, aExtract, calleeOf]; simp)
      ⟨i2 + 1, rfl, hlt, rfl, o7, l7⟩
  have hge : Ds.length ≤ i2 := lt_f hf
  rw [List.take_of_length_le hge] at oM3
  clear hf hge hi2
  have l8z := (leq.trans (l9.trans l10)).trans lez
  simp only [kS1, bLookup, bMapSet, wantA, isCall, stepOp, evalO, evalL, evalP, evalM, putDst, flat, kA, kB, Nat.reduceLT, ↓reduceIte, kC, Nat.reduceEqDiff, aBuiltin, abinG, guardFree, abin, aInt, aUn, aNilCheck, retQ, retQ1, aresults, aresultL, aresult, mkF, undefV, reduceCtorEq, kD, kE, kF, kG, kH, kI, kJ, kK, aExtract, calleeOf, lc]
  refine KLoop.intro (fun k fr hy => ∃ (i : Nat), k = Cs.length - i ∧ i ≤ Cs.length ∧ fr = mkF [(1, pv), (6, .int .i64 0), (9, .int .i64 0), (19, cv), (20, dv), (21, .map (some M3)), (163, cv), (164, .int .i64 Cs.length), (165, .int .i64 i)] ∧ Le hz hy)
    Cs.length [(1, pv), (6, .int .i64 0), (9, .int .i64 0), (19, cv), (20, dv), (21, .map (some M3)), (163, cv), (164, .int .i64 Cs.length), (165, .int .i64 (0 : Nat))] (by simp only [hasAll, kS1, bLookup, bMapSet, wantA, isCall, stepOp, evalO, evalL, evalP, evalM, putDst, flat, kA, kB, Nat.reduceLT, ↓reduceIte, kC, Nat.reduceEqDiff, aBuiltin, abinG, guardFree, abin, aInt, aUn, aNilCheck, retQ, retQ1, aresults, aresultL, aresult, mkF, undefV, reduceCtorEq, kD, kE, kF, kG, kH, kI, kJ, kK, aExtract, calleeOf]; simp)
    ⟨0, rfl, Nat.zero_le _, rfl, Le.refl _⟩ ?_
  rintro k fr hy hwy ⟨j, rfl, hj, rfl, ley⟩
  simp only [kS1, bLookup, bMapSet, wantA, isCall, stepOp, evalO, evalL, evalP, evalM, putDst, flat, kA, kB, Nat.reduceLT, ↓reduceIte, kC, Nat.reduceEqDiff, aBuiltin, abinG, guardFree, abin, aInt, aUn, aNilCheck, retQ, retQ1, aresults, aresultL, aresult, mkF, undefV, reduceCtorEq, kD, kE, kF, kG, kH, kI, kJ, kK, aExtract, calleeOf]
  refine KCond.intro (fun ht => ?_) (fun hf => ?_)
  · have hlt : j < Cs.length := lt_t ht
    clear ht
    have hmm : j < (nat64 Cs).length := by rw [nat64_length]; exact hlt
    have ad := gc.rl.addr (P := Try.prog) Try.underlying35 Try.underlying3 (by kernel_rfl) (k := .i64) j hmm
    have ld' := (gc10.le (lez.trans ley)).rl.loadI (P := Try.prog) Try.underlying3 rfl j hmm
    rw [nat64_get hlt] at ld'
    obtain ⟨hcn, hcD⟩ := hcm _ (List.getElem_mem hlt)
    generalize Cs[j] = c at *
    have lk := mapI_look (ley.own _ _ oM3) (permF ps c : Int) false
    rw [look_one, if_pos hcD] at lk
    simp only [Option.getD_some, cond_false] at lk
    have d1 : decide ((1 : Int) = 0) = false := by decide
    simp only [kS1, bLookup, bMapSet, wantA, isCall, stepOp, evalO, evalL, evalP, evalM, putDst, flat, kA, kB, Nat.reduceLT, ↓reduceIte, kC, Nat.reduceEqDiff, aBuiltin, abinG, guardFree, abin, aInt, aUn, aNilCheck, retQ, retQ1, aresults, aresultL, aresult, mkF, undefV, reduceCtorEq, kD, kE, kF, kG, kH, kI, kJ, kK, aExtract, calleeOf, ad, ld', hpA c hcn, hpL c hcn hy (l8z.trans ley), lk, d1, awrap_succ j (by omega)]
    exact loop_again (Cs.length - (j + 1)) [(1, pv), (6, .int .i64 0), (9, .int .i64 0), (19, cv), (20, dv), (21, .map (some M3)), (163, cv), (164, .int .i64 Cs.length), (165, .int .i64 (j + 1 : Nat))] (by omega) (by simp only [hasAll, kS1, bLookup, bMapSet, wantA, isCall, stepOp, evalO, evalL, evalP, evalM, putDst, flat, kA, kB, Nat.reduceLT, ↓reduceIte, kC, Nat.reduceEqDiff, aBuiltin, abinG, guardFree, abin, aInt, aUn, aNilCheck, retQ, retQ1, aresults, aresultL, aresult, mkF, undefV, reduceCtorEq, kD, kE, kF, kG, kH, kI, kJ, kK, aExtract, calleeOf]; simp)
      ⟨j + 1, rfl, hlt, rfl, ley⟩
  have dE : decide ((Cs.length : Int) = (Ds.length : Int)) = true := decide_eq_true (by omega)
  have d00 : decide ((0 : Int) = 0) = true := by decide
  simp only [kS1, bLookup, bMapSet, wantA, isCall, stepOp, evalO, evalL, evalP, evalM, putDst, flat, kA, kB, Nat.reduceLT, ↓reduceIte, kC, Nat.reduceEqDiff, aBuiltin, abinG, guardFree, abin, aInt, aUn, aNilCheck, retQ, retQ1, aresults, aresultL, aresult, mkF, undefV, reduceCtorEq, kD, kE, kF, kG, kH, kI, kJ, kK, aExtract, calleeOf, wr0, d00, lc, ld, dE]
  refine KCall.intro (by simp only [kS1, bLookup, bMapSet, wantA, isCall, stepOp, evalO, evalL, evalP, evalM, putDst, flat, kA, kB, Nat.reduceLT, ↓reduceIte, kC, Nat.reduceEqDiff, aBuiltin, abinG, guardFree, abin, aInt, aUn, aNilCheck, retQ, retQ1, aresults, aresultL, aresult, mkF, undefV, reduceCtorEq, kD, kE, kF, kG, kH, kI, kJ, kK, aExtract, calleeOf] <;> rfl) ⟨Try.func15, rfl, by decide⟩ (awake_any W0 hy) ?_
  rintro x h15 w15 ⟨rfl, l15⟩
  simp only [kS1, bLookup, bMapSet, wantA, isCall, stepOp, evalO, evalL, evalP, evalM, putDst, flat, kA, kB, Nat.reduceLT, ↓reduceIte, kC, Nat.reduceEqDiff, aBuiltin, abinG, guardFree, abin, aInt, aUn, aNilCheck, retQ, retQ1, aresults, aresultL, aresult, mkF, undefV, reduceCtorEq, kD, kE, kF, kG, kH, kI, kJ, kK, aExtract, calleeOf]
end Go.Fw
