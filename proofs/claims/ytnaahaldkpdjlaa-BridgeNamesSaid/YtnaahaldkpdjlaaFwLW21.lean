/- A text of the proof. -/
import Derived.Test.YtnaahaldkpdjlaaFwLW20
set_option linter.unusedSimpArgs false
set_option linter.unusedVariables false
namespace Go.Fw
open Go.Proofs
attribute [local irreducible] KO4 KO3 KO2 KO1 KO KN KX KE VK KCond KDraw KCall KLoop
set_option maxHeartbeats 16000000
set_option maxRecDepth 10000
attribute [local irreducible] lowM bridgesM cutsM blocksM keyE appE
theorem alloc38 (h : AHeap) : aAlloc Try.prog h 38 = some (.pointer (some ⟨h.next, 0, none⟩), h.alloc (.cells [.slice none 0 0])) := rfl
theorem sort_lt {l : List Int} (nd : l.Nodup) : (sortI l).Pairwise (· < ·) := by
 have h1 := sortI_le l
 have h2 : (sortI l).Nodup := (List.mergeSort_perm _ _).nodup_iff.2 nd
 rw [List.nodup_iff_pairwise_ne] at h2
 exact (h1.and h2).imp fun h => by omega
theorem map_nodup {l : List Int} {g : Int → Int} (nd : l.Nodup) (h : ∀ x ∈ l, ∀ y ∈ l, g x = g y → x = y) : (l.map g).Nodup := by
 rw [List.nodup_iff_pairwise_ne, List.pairwise_map]
 rw [List.nodup_iff_pairwise_ne] at nd
 exact nd.imp_of_mem fun {a b} ha hb hne e => hne (h a ha b hb e)
theorem BridgeNames_law (W0 : Base) (v bv pv : Value) (G : GM) (bs : List Bool) (ps : List Int) (h : AHeap) (hg : GR h v G) (hb : RL isBo h bv bs) (hps : RL isI h pv ps) : AC Try.prog W0 4 [v, bv, pv] h fun x h' => x = .bool true ∧ True := by
 have hg0 := hg
 obtain ⟨gn, es⟩ := G
 obtain ⟨ev, rfl, hp⟩ := hg.open
 refine AC.vc (fn := Try.f4) (c := _) ⟨Try.func4, rfl, by decide⟩ Try.ntmps4 Try.results4 (by simp) fun hwf => ?_
 simp only [argFrame, argFrom, Nat.reduceAdd]
 obtain ⟨h1, b1, le1, wf1, -, lA⟩ := boxG (n := gn) hwf hp
 generalize h.next = B at *
 have lA1 := lA h1 (Le.refl _)
 simp only [kS1, bLookup, bMapSet, wantA, isCall, stepOp, evalO, evalL, evalP, evalM, putDst, flat, kA, kB, Nat.reduceLT, ↓reduceIte, kC, Nat.reduceEqDiff, aBuiltin, abinG, guardFree, abin, aInt, aUn, aNilCheck, retQ, retQ1, aresults, aresultL, aresult, mkF, undefV, reduceCtorEq, kD, kE, kF, kG, kH, kI, kJ, kK, aExtract, calleeOf, b1, lA1.1]
 refine KCall.intro (by simp only [kS1, bLookup, bMapSet, wantA, isCall, stepOp, evalO, evalL, evalP, evalM, putDst, flat, kA, kB, Nat.reduceLT, ↓reduceIte, kC, Nat.reduceEqDiff, aBuiltin, abinG, guardFree, abin, aInt, aUn, aNilCheck, retQ, retQ1, aresults, aresultL, aresult, mkF, undefV, reduceCtorEq, kD, kE, kF, kG, kH, kI, kJ, kK, aExtract, calleeOf] <;> rfl) ⟨Try.func20, rfl, by decide⟩ (Apply_any W0 _ pv _ ps h1 (hg0.le le1) (hps.le Stays.isI le1)) ?_
 rintro x h2 w2 ⟨l2, ⟨hno, k, hk0, rfl⟩ | ⟨A, fv, rfl, gf, -⟩⟩
 ·obtain ⟨h3', h3, e3, e3s, l3, w3⟩ := newE w2
  have d : decide (k = 0) = false := decide_eq_false hk0
  simp only [kS1, bLookup, bMapSet, wantA, isCall, stepOp, evalO, evalL, evalP, evalM, putDst, flat, kA, kB, Nat.reduceLT, ↓reduceIte, kC, Nat.reduceEqDiff, aBuiltin, abinG, guardFree, abin, aInt, aUn, aNilCheck, retQ, retQ1, aresults, aresultL, aresult, mkF, undefV, reduceCtorEq, kD, kE, kF, kG, kH, kI, kJ, kK, aExtract, calleeOf, e3, e3s, bne, d]
  refine KCall.intro (by simp only [kS1, bLookup, bMapSet, wantA, isCall, stepOp, evalO, evalL, evalP, evalM, putDst, flat, kA, kB, Nat.reduceLT, ↓reduceIte, kC, Nat.reduceEqDiff, aBuiltin, abinG, guardFree, abin, aInt, aUn, aNilCheck, retQ, retQ1, aresults, aresultL, aresult, mkF, undefV, reduceCtorEq, kD, kE, kF, kG, kH, kI, kJ, kK, aExtract, calleeOf] <;> rfl) ⟨Try.func15, rfl, by decide⟩ (awake8_any W0 h3) ?_
  rintro x h4 w4 ⟨rfl, l4⟩
  simp only [kS1, bLookup, bMapSet, wantA, isCall, stepOp, evalO, evalL, evalP, evalM, putDst, flat, kA, kB, Nat.reduceLT, ↓reduceIte, kC, Nat.reduceEqDiff, aBuiltin, abinG, guardFree, abin, aInt, aUn, aNilCheck, retQ, retQ1, aresults, aresultL, aresult, mkF, undefV, reduceCtorEq, kD, kE, kF, kG, kH, kI, kJ, kK, aExtract, calleeOf]
  all_goals exact ⟨trivial, trivial⟩
 obtain ⟨h3', h3, e3, e3s, l3, w3, lG⟩ := newG w2 (n := gn) gf.pr
 have le3 := l2.trans l3
 have d0 : decide ((0 : Int) = 0) = true := by decide
 simp only [kS1, bLookup, bMapSet, wantA, isCall, stepOp, evalO, evalL, evalP, evalM, putDst, flat, kA, kB, Nat.reduceLT, ↓reduceIte, kC, Nat.reduceEqDiff, aBuiltin, abinG, guardFree, abin, aInt, aUn, aNilCheck, retQ, retQ1, aresults, aresultL, aresult, mkF, undefV, reduceCtorEq, kD, kE, kF, kG, kH, kI, kJ, kK, aExtract, calleeOf, e3, e3s, bne, d0, (lA h3 le3).1]
 generalize h2.next = Y at *
 refine KCall.intro (by simp only [kS1, bLookup, bMapSet, wantA, isCall, stepOp, evalO, evalL, evalP, evalM, putDst, flat, kA, kB, Nat.reduceLT, ↓reduceIte, kC, Nat.reduceEqDiff, aBuiltin, abinG, guardFree, abin, aInt, aUn, aNilCheck, retQ, retQ1, aresults, aresultL, aresult, mkF, undefV, reduceCtorEq, kD, kE, kF, kG, kH, kI, kJ, kK, aExtract, calleeOf] <;> rfl) ⟨Try.func14, rfl, by decide⟩ (right17_any W0 _ _ h3 (hg0.le (le1.trans le3))) ?_
 rintro x h4 w4 ⟨⟨bb, rfl, hbb⟩, l4⟩
 cases bb with
 | false =>
  simp only [kS1, bLookup, bMapSet, wantA, isCall, stepOp, evalO, evalL, evalP, evalM, putDst, flat, kA, kB, Nat.reduceLT, ↓reduceIte, kC, Nat.reduceEqDiff, aBuiltin, abinG, guardFree, abin, aInt, aUn, aNilCheck, retQ, retQ1, aresults, aresultL, aresult, mkF, undefV, reduceCtorEq, kD, kE, kF, kG, kH, kI, kJ, kK, aExtract, calleeOf]
  refine KCall.intro (by simp only [kS1, bLookup, bMapSet, wantA, isCall, stepOp, evalO, evalL, evalP, evalM, putDst, flat, kA, kB, Nat.reduceLT, ↓reduceIte, kC, Nat.reduceEqDiff, aBuiltin, abinG, guardFree, abin, aInt, aUn, aNilCheck, retQ, retQ1, aresults, aresultL, aresult, mkF, undefV, reduceCtorEq, kD, kE, kF, kG, kH, kI, kJ, kK, aExtract, calleeOf] <;> rfl) ⟨Try.func15, rfl, by decide⟩ (awake8_any W0 h4) ?_
  rintro x h5 w5 ⟨rfl, l5⟩
  simp only [kS1, bLookup, bMapSet, wantA, isCall, stepOp, evalO, evalL, evalP, evalM, putDst, flat, kA, kB, Nat.reduceLT, ↓reduceIte, kC, Nat.reduceEqDiff, aBuiltin, abinG, guardFree, abin, aInt, aUn, aNilCheck, retQ, retQ1, aresults, aresultL, aresult, mkF, undefV, reduceCtorEq, kD, kE, kF, kG, kH, kI, kJ, kK, aExtract, calleeOf]
  all_goals exact ⟨trivial, trivial⟩
 | true =>
 obtain ⟨hr, h30⟩ := hbb.1 rfl
 clear hbb
 have h0 : 0 ≤ gn := hr.n0
 obtain ⟨n, rfl⟩ := Int.eq_ofNat_of_zero_le h0
 have h594 : es.length ≤ 594 := hr.len
 simp only at h30 gf
 have hln : ps.length = n := by have := A.2.2; simp only at this; omega
 have hK := A.2.1
 have hR := hr.inR
 have hA := hr.asc
 have hr2 := A.right
 have le4 := le3.trans l4
 simp only [kS1, bLookup, bMapSet, wantA, isCall, stepOp, evalO, evalL, evalP, evalM, putDst, flat, kA, kB, Nat.reduceLT, ↓reduceIte, kC, Nat.reduceEqDiff, aBuiltin, abinG, guardFree, abin, aInt, aUn, aNilCheck, retQ, retQ1, aresults, aresultL, aresult, mkF, undefV, reduceCtorEq, kD, kE, kF, kG, kH, kI, kJ, kK, aExtract, calleeOf, (lA h4 le4).1]
 refine KCall.intro (by simp only [kS1, bLookup, bMapSet, wantA, isCall, stepOp, evalO, evalL, evalP, evalM, putDst, flat, kA, kB, Nat.reduceLT, ↓reduceIte, kC, Nat.reduceEqDiff, aBuiltin, abinG, guardFree, abin, aInt, aUn, aNilCheck, retQ, retQ1, aresults, aresultL, aresult, mkF, undefV, reduceCtorEq, kD, kE, kF, kG, kH, kI, kJ, kK, aExtract, calleeOf] <;> rfl) ⟨Try.func18, rfl, by decide⟩ (Chosen_any W0 _ bv ⟨(n : Int), es⟩ bs h4 (hg0.le (le1.trans le4)) (hb.le Stays.isBo (le1.trans le4)) (by simp; omega)) ?_
 rintro wv h5 w5 ⟨gw, l5, -⟩
 simp only at gw
 have le5 := le4.trans l5
 have hweb := sel_web hA bs es.length
 have hwl := selM_length es bs es.length
 have hsub : (selM es bs es.length).Sublist es := (sel_sub es bs es.length).trans (List.take_sublist _ _)
 generalize selM es bs es.length = web at gw hweb hwl hsub
 have pw := gw.pr
 clear gw
 have Aw := app_sub A hsub
 have Iw := app_isoW A hsub
 have hweb2 := app_web A hsub
 simp only [kS1, bLookup, bMapSet, wantA, isCall, stepOp, evalO, evalL, evalP, evalM, putDst, flat, kA, kB, Nat.reduceLT, ↓reduceIte, kC, Nat.reduceEqDiff, aBuiltin, abinG, guardFree, abin, aInt, aUn, aNilCheck, retQ, retQ1, aresults, aresultL, aresult, mkF, undefV, reduceCtorEq, kD, kE, kF, kG, kH, kI, kJ, kK, aExtract, calleeOf, fg0, aadd, Nat.zero_add, (lA h5 le5).2.1, build24 pw.sl]
 refine KCall.intro (by simp only [kS1, bLookup, bMapSet, wantA, isCall, stepOp, evalO, evalL, evalP, evalM, putDst, flat, kA, kB, Nat.reduceLT, ↓reduceIte, kC, Nat.reduceEqDiff, aBuiltin, abinG, guardFree, abin, aInt, aUn, aNilCheck, retQ, retQ1, aresults, aresultL, aresult, mkF, undefV, reduceCtorEq, kD, kE, kF, kG, kH, kI, kJ, kK, aExtract, calleeOf] <;> rfl) ⟨Try.func20, rfl, by decide⟩ (Apply_any W0 (.agg #[.int .i64 (n : Int), wv]) pv ⟨(n : Int), web⟩ ps h5 ⟨wv, rfl, pw⟩ (hps.le Stays.isI (le1.trans le5))) ?_
 rintro x h6 w6 ⟨l6, ⟨hno, _⟩ | ⟨_, nv, rfl, gn', -⟩⟩
 ·exact absurd Aw hno
 simp only at gn'
 obtain ⟨h7', h7, e7, e7s, l7, w7, lN⟩ := newG w6 (n := (n : Int)) gn'.pr
 generalize h6.next = NB at *
 have le7 := (le5.trans l6).trans l7
 simp only [kS1, bLookup, bMapSet, wantA, isCall, stepOp, evalO, evalL, evalP, evalM, putDst, flat, kA, kB, Nat.reduceLT, ↓reduceIte, kC, Nat.reduceEqDiff, aBuiltin, abinG, guardFree, abin, aInt, aUn, aNilCheck, retQ, retQ1, aresults, aresultL, aresult, mkF, undefV, reduceCtorEq, kD, kE, kF, kG, kH, kI, kJ, kK, aExtract, calleeOf, e7, e7s, (lA h7 le7).1]
 have pw7 := (pw.le l6).le l7
 refine KCall.intro (by simp only [kS1, bLookup, bMapSet, wantA, isCall, stepOp, evalO, evalL, evalP, evalM, putDst, flat, kA, kB, Nat.reduceLT, ↓reduceIte, kC, Nat.reduceEqDiff, aBuiltin, abinG, guardFree, abin, aInt, aUn, aNilCheck, retQ, retQ1, aresults, aresultL, aresult, mkF, undefV, reduceCtorEq, kD, kE, kF, kG, kH, kI, kJ, kK, aExtract, calleeOf] <;> rfl) ⟨Try.func19, rfl, by decide⟩ (Fragments_any W0 _ wv ⟨(n : Int), es⟩ web h7 (hg0.le (le1.trans le7)) pw7 (by omega)) ?_
 intro x h8 w8 hx
 obtain ⟨l8, lv, e, rfl, hc⟩ := hx
 obtain ⟨rfl, L, hT, fl⟩ : e = 0 ∧ ∃ L, TogM n (onF n web) es L ∧ FL h8 lv (FragsM n es web L) := by
  rcases hc with ⟨h, _⟩ | ⟨_, h, _⟩ | ⟨_, _, h, h'⟩
  ·exact absurd hr h
  ·exact absurd hweb h
  ·exact ⟨h, by simp only [Int.toNat_natCast] at h'; exact h'⟩
 clear hc
 have l38 := ((l4.trans l5).trans (l6.trans l7)).trans l8
 simp only [kS1, bLookup, bMapSet, wantA, isCall, stepOp, evalO, evalL, evalP, evalM, putDst, flat, kA, kB, Nat.reduceLT, ↓reduceIte, kC, Nat.reduceEqDiff, aBuiltin, abinG, guardFree, abin, aInt, aUn, aNilCheck, retQ, retQ1, aresults, aresultL, aresult, mkF, undefV, reduceCtorEq, kD, kE, kF, kG, kH, kI, kJ, kK, aExtract, calleeOf, (lG h8 l38).1, fg1, aadd, Nat.zero_add, (lN h8 l8).2.2]
 have hwl2 : (appE ps web).length ≤ 594 := by
  have := Aw.right.len
  exact this
 refine KCall.intro (by simp only [kS1, bLookup, bMapSet, wantA, isCall, stepOp, evalO, evalL, evalP, evalM, putDst, flat, kA, kB, Nat.reduceLT, ↓reduceIte, kC, Nat.reduceEqDiff, aBuiltin, abinG, guardFree, abin, aInt, aUn, aNilCheck, retQ, retQ1, aresults, aresultL, aresult, mkF, undefV, reduceCtorEq, kD, kE, kF, kG, kH, kI, kJ, kK, aExtract, calleeOf] <;> rfl) ⟨Try.func19, rfl, by decide⟩ (Fragments_any W0 _ nv ⟨(n : Int), appE ps es⟩ (appE ps web) h8 ⟨fv, rfl, (gf.pr.le l3).le l38⟩ ((gn'.pr.le l7).le l8) (by omega)) ?_
 intro x h9 w9 hx
 obtain ⟨l9, mv, e, rfl, hc⟩ := hx
 obtain ⟨rfl, L', hT', fm⟩ : e = 0 ∧ ∃ L, TogM n (onF n (appE ps web)) (appE ps es) L ∧ FL h9 mv (FragsM n (appE ps es) (appE ps web) L) := by
  rcases hc with ⟨h, _⟩ | ⟨_, h, _⟩ | ⟨_, _, h, h'⟩
  ·exact absurd hr2 h
  ·exact absurd hweb2 h
  ·exact ⟨h, by simp only [Int.toNat_natCast] at h'; exact h'⟩
 clear hc
 have hlen := frag_len Iw hr hr2 hT hT'
 obtain ⟨ks, -, -, hks, -⟩ := frags_is (web := web) (L := L) hR
 obtain ⟨ks', -, -, hks', -⟩ := frags_is (web := appE ps web) (L := L') hr2.inR
 have hfb : (FragsM n es web L).length ≤ 594 := by
  have := (grpsM_ok (fragM n (fun u => (onM n web).getD u false) L) es web es.length).2.2.2.1
  rw [FragsM, List.length_map]; omega
 have hbd : ∀ y ∈ FragsM n (appE ps es) (appE ps web) L', y.edges.length ≤ 100000 ∧ y.feet.length ≤ 100000 := fun y hy => by
  obtain ⟨i, hi⟩ := List.mem_iff_getElem?.1 hy
  obtain ⟨k, _, hF⟩ := hks' i y hi
  have h1 := hF.sub.length_le
  have h2 : (appE ps es).length ≤ 594 := hr2.len
  have h3 := rfeet_length (appE ps web) y.edges n
  exact ⟨by omega, by rw [hF.feet, nat64_length]; omega⟩
 have told : ∀ (i : Nat) f, (FragsM n es web L)[i]? = some f → f.edges.length ≤ 594 ∧ f.edges.Sublist es ∧ f.feet.length ≤ n ∧ (∀ x ∈ f.feet, ∃ v : Nat, v < n ∧ x = (v : Int)) ∧
   ((FragsM n (appE ps es) (appE ps web) L').any fun y => decide (y.edges = appE ps f.edges) && decide (y.feet = sortI (f.feet.map fun x => ps.getD x.toNat 0))) = true := fun i f hf => by
  obtain ⟨k, _, hF⟩ := hks i f hf
  obtain ⟨c1, _⟩ := frag_feet hR hF
  have hft : ∀ x ∈ f.feet, ∃ v : Nat, v < n ∧ x = (v : Int) := fun x hx => by
   rw [hF.feet, mem_rfeet] at hx
   obtain ⟨v, hv, e, _⟩ := hx; exact ⟨v, hv, e⟩
  have Af := app_sub A hF.sub
  have fR : InR n f.edges := fun p hp => hR p (hF.sub.subset hp)
  refine ⟨by have := hF.sub.length_le; omega, hF.sub, by rw [hF.feet, nat64_length]; exact rfeet_length _ _ _, hft, ?_⟩
  obtain ⟨f', hf', e1, e2⟩ := frag_told Iw hr hr2 hT hT' hF (want := appE ps f.edges) (feet := sortI (f.feet.map fun x => ps.getD x.toNat 0)) (asc_pair.1 Af.right.asc) (fun q => mem_appE hK hln fR q)
   (sort_lt (map_nodup ((List.nodup_iff_pairwise_ne.2 (c1.imp fun h e => by omega))) fun x hx y hy e => by
    obtain ⟨a, ha, rfl⟩ := hft x hx
    obtain ⟨b, hb, rfl⟩ := hft y hy
    simp only [Int.toNat_natCast] at e
    rw [(hK.get (by omega)).1, (hK.get (by omega)).1] at e
    rw [A.iso.inj a b ha hb (by omega)]))
   (fun x => by
    rw [sortI_mem, List.mem_map]
    constructor
    ·rintro ⟨y, hy, rfl⟩
     obtain ⟨a, ha, rfl⟩ := hft y hy
     exact ⟨a, ha, hy, by simp only [Int.toNat_natCast]; rw [(hK.get (by omega)).1]⟩
    ·rintro ⟨a, ha, hy, rfl⟩
     exact ⟨_, hy, by simp only [Int.toNat_natCast]; rw [(hK.get (by omega)).1]⟩)
  rw [List.any_eq_true]
  exact ⟨f', hf', by simp [e1, e2]⟩
 generalize hMs : FragsM n (appE ps es) (appE ps web) L' = ms at *
 generalize FragsM n es web L = fs at fl hlen hfb told
 clear hks hks' hMs
 have lf := fun g => fl.len g
 have lm := fun g => fm.len g
 have wr00 : awrap .i64 ((0 : Int) + 0) = 0 := by decide
 have dl : decide ((fs.length : Int) = (ms.length : Int)) = true := decide_eq_true (by omega)
 simp only [kS1, bLookup, bMapSet, wantA, isCall, stepOp, evalO, evalL, evalP, evalM, putDst, flat, kA, kB, Nat.reduceLT, ↓reduceIte, kC, Nat.reduceEqDiff, aBuiltin, abinG, guardFree, abin, aInt, aUn, aNilCheck, retQ, retQ1, aresults, aresultL, aresult, mkF, undefV, reduceCtorEq, kD, kE, kF, kG, kH, kI, kJ, kK, aExtract, calleeOf, wr00, d0, bne, lf, lm, dl]
 have l08 := le1.trans (le7.trans l8)
 refine KLoop.intro (fun k fr hq => ∃ i : Nat, k = fs.length - i ∧ i ≤ fs.length ∧ fr = mkF [(2, pv), (3, .pointer (some ⟨B, 0, none⟩)), (13, mv), (74, lv), (75, .int .i64 fs.length), (76, .int .i64 i)] ∧ Le h9 hq)
  fs.length [(2, pv), (3, .pointer (some ⟨B, 0, none⟩)), (13, mv), (74, lv), (75, .int .i64 fs.length), (76, .int .i64 (0 : Nat))] (by simp only [hasAll, kS1, bLookup, bMapSet, wantA, isCall, stepOp, evalO, evalL, evalP, evalM, putDst, flat, kA, kB, Nat.reduceLT, ↓reduceIte, kC, Nat.reduceEqDiff, aBuiltin, abinG, guardFree, abin, aInt, aUn, aNilCheck, retQ, retQ1, aresults, aresultL, aresult, mkF, undefV, reduceCtorEq, kD, kE, kF, kG, kH, kI, kJ, kK, aExtract, calleeOf]; simp) ⟨0, rfl, Nat.zero_le _, rfl, Le.refl _⟩ ?_
 rintro k fr hq hwq ⟨i, rfl, hi, rfl, leq⟩
 simp only [kS1, bLookup, bMapSet, wantA, isCall, stepOp, evalO, evalL, evalP, evalM, putDst, flat, kA, kB, Nat.reduceLT, ↓reduceIte, kC, Nat.reduceEqDiff, aBuiltin, abinG, guardFree, abin, aInt, aUn, aNilCheck, retQ, retQ1, aresults, aresultL, aresult, mkF, undefV, reduceCtorEq, kD, kE, kF, kG, kH, kI, kJ, kK, aExtract, calleeOf]
 refine KCond.intro (fun ht => ?_) (fun hf => ?_)
 rotate_left
 ·simp only [kS1, bLookup, bMapSet, wantA, isCall, stepOp, evalO, evalL, evalP, evalM, putDst, flat, kA, kB, Nat.reduceLT, ↓reduceIte, kC, Nat.reduceEqDiff, aBuiltin, abinG, guardFree, abin, aInt, aUn, aNilCheck, retQ, retQ1, aresults, aresultL, aresult, mkF, undefV, reduceCtorEq, kD, kE, kF, kG, kH, kI, kJ, kK, aExtract, calleeOf]
  refine KCall.intro (by simp only [kS1, bLookup, bMapSet, wantA, isCall, stepOp, evalO, evalL, evalP, evalM, putDst, flat, kA, kB, Nat.reduceLT, ↓reduceIte, kC, Nat.reduceEqDiff, aBuiltin, abinG, guardFree, abin, aInt, aUn, aNilCheck, retQ, retQ1, aresults, aresultL, aresult, mkF, undefV, reduceCtorEq, kD, kE, kF, kG, kH, kI, kJ, kK, aExtract, calleeOf] <;> rfl) ⟨Try.func15, rfl, by decide⟩ (awake8_any W0 hq) ?_
  rintro x h13 w13 ⟨rfl, l13⟩
  simp only [kS1, bLookup, bMapSet, wantA, isCall, stepOp, evalO, evalL, evalP, evalM, putDst, flat, kA, kB, Nat.reduceLT, ↓reduceIte, kC, Nat.reduceEqDiff, aBuiltin, abinG, guardFree, abin, aInt, aUn, aNilCheck, retQ, retQ1, aresults, aresultL, aresult, mkF, undefV, reduceCtorEq, kD, kE, kF, kG, kH, kI, kJ, kK, aExtract, calleeOf]
  all_goals exact ⟨trivial, trivial⟩
 have hlt : i < fs.length := lt_t ht
 clear ht
 have hfi := getElem?_of hlt
 generalize fs[i] = f at hfi
 obtain ⟨b594, hsubf, hfl, hft, hany⟩ := told i f hfi
 have Af := app_sub A hsubf
 obtain ⟨ea, eb, hld, pa, pb⟩ := fl.load hfi
 have adf := fl.addr (k := .i64) i hlt
 obtain ⟨g1, g2, a2, s2, l10, w10, lC⟩ := new41 hwq pa.sl pb.sl
 generalize hq.next = C at *
 have lC2 := lC g2 (Le.refl _)
 have lq2 := (l9.trans leq).trans l10
 simp only [kS1, bLookup, bMapSet, wantA, isCall, stepOp, evalO, evalL, evalP, evalM, putDst, flat, kA, kB, Nat.reduceLT, ↓reduceIte, kC, Nat.reduceEqDiff, aBuiltin, abinG, guardFree, abin, aInt, aUn, aNilCheck, retQ, retQ1, aresults, aresultL, aresult, mkF, undefV, reduceCtorEq, kD, kE, kF, kG, kH, kI, kJ, kK, aExtract, calleeOf, adf, hld hq (l9.trans leq), a2, s2, ff0, fg0, aadd, Nat.zero_add, (lA g2 (((le7.trans l8)).trans lq2)).2.1, lC2.2.1, build24 pa.sl]
 refine KCall.intro (by simp only [kS1, bLookup, bMapSet, wantA, isCall, stepOp, evalO, evalL, evalP, evalM, putDst, flat, kA, kB, Nat.reduceLT, ↓reduceIte, kC, Nat.reduceEqDiff, aBuiltin, abinG, guardFree, abin, aInt, aUn, aNilCheck, retQ, retQ1, aresults, aresultL, aresult, mkF, undefV, reduceCtorEq, kD, kE, kF, kG, kH, kI, kJ, kK, aExtract, calleeOf] <;> rfl) ⟨Try.func20, rfl, by decide⟩ (Apply_any W0 (.agg #[.int .i64 (n : Int), ea]) pv ⟨(n : Int), f.edges⟩ ps g2 ⟨ea, rfl, pa.le lq2⟩ (hps.le Stays.isI (l08.trans lq2))) ?_
 rintro x h11 w11 ⟨l11, ⟨hno, _⟩ | ⟨_, zv, rfl, gz, -⟩⟩
 ·exact absurd Af hno
 simp only at gz
 obtain ⟨h12', h12, e12, e12s, l12, w12, lD⟩ := newG w11 (n := (n : Int)) gz.pr
 generalize h11.next = D at *
 obtain ⟨h13, e13, l13, w13, o13⟩ := alloc_f w12 [.slice none 0 0]
 have al := alloc38 h12
 rw [e13] at al
 have nF : h12.own h12.next = none := (Le.refl h12).next w12 (Nat.le_refl _)
 generalize h12.next = FT at *
 have lfe := fun g => pb.len (P := Try.prog) Try.underlying38 g
 have l212 := l11.trans l12
 simp only [kS1, bLookup, bMapSet, wantA, isCall, stepOp, evalO, evalL, evalP, evalM, putDst, flat, kA, kB, Nat.reduceLT, ↓reduceIte, kC, Nat.reduceEqDiff, aBuiltin, abinG, guardFree, abin, aInt, aUn, aNilCheck, retQ, retQ1, aresults, aresultL, aresult, mkF, undefV, reduceCtorEq, kD, kE, kF, kG, kH, kI, kJ, kK, aExtract, calleeOf, e12, e12s, al, ff1, aadd, Nat.zero_add, (lC h13 (l212.trans l13)).2.2, lfe]
 have lqz := lq2.trans l212
 refine KLoop.intro (fun k fr hz => ∃ (j : Nat) (xv : Value), k = f.feet.length - j ∧ j ≤ f.feet.length ∧ fr = mkF [(2, pv), (3, .pointer (some ⟨B, 0, none⟩)), (13, mv), (17, .pointer (some ⟨D, 0, none⟩)), (18, .int .i64 0), (19, .pointer (some ⟨FT, 0, none⟩)), (74, lv), (75, .int .i64 fs.length), (76, .int .i64 i), (91, eb), (92, .int .i64 f.feet.length), (93, .int .i64 j)] ∧
   hz.own FT = some (.cells [xv]) ∧ GI hz xv ((f.feet.take j).map fun x => ps.getD x.toNat 0) ∧ Le h12 hz ∧ Apart h12 xv ∧ blk xv ≠ some FT)
  f.feet.length [(2, pv), (3, .pointer (some ⟨B, 0, none⟩)), (13, mv), (17, .pointer (some ⟨D, 0, none⟩)), (18, .int .i64 0), (19, .pointer (some ⟨FT, 0, none⟩)), (74, lv), (75, .int .i64 fs.length), (76, .int .i64 i), (91, eb), (92, .int .i64 f.feet.length), (93, .int .i64 (0 : Nat))] (by simp only [hasAll, kS1, bLookup, bMapSet, wantA, isCall, stepOp, evalO, evalL, evalP, evalM, putDst, flat, kA, kB, Nat.reduceLT, ↓reduceIte, kC, Nat.reduceEqDiff, aBuiltin, abinG, guardFree, abin, aInt, aUn, aNilCheck, retQ, retQ1, aresults, aresultL, aresult, mkF, undefV, reduceCtorEq, kD, kE, kF, kG, kH, kI, kJ, kK, aExtract, calleeOf]; simp)
  ⟨0, _, rfl, Nat.zero_le _, rfl, o13, GI.nil _, l13, (fun b hb => by cases hb), by simp [blk]⟩ ?_
 rintro k fr hz hwz ⟨j, xv, rfl, hj, rfl, oF, gx, lz, ax, nx⟩
 have hpz := (hps.le Stays.isI (l08.trans (lqz.trans lz)))
 simp only [kS1, bLookup, bMapSet, wantA, isCall, stepOp, evalO, evalL, evalP, evalM, putDst, flat, kA, kB, Nat.reduceLT, ↓reduceIte, kC, Nat.reduceEqDiff, aBuiltin, abinG, guardFree, abin, aInt, aUn, aNilCheck, retQ, retQ1, aresults, aresultL, aresult, mkF, undefV, reduceCtorEq, kD, kE, kF, kG, kH, kI, kJ, kK, aExtract, calleeOf]
 refine KCond.intro (fun ht => ?_) (fun hf => ?_)
 ·have hjt : j < f.feet.length := lt_t ht
  clear ht
  have tk : f.feet.take (j + 1) = f.feet.take j ++ [f.feet[j]] := List.take_succ_eq_append_getElem hjt
  obtain ⟨u, hu, eu⟩ := hft _ (List.getElem_mem hjt)
  have PB := pb.le Stays.isI (lqz.trans lz)
  have aj := PB.addr (P := Try.prog) Try.underlying38 Try.underlying3 (by kernel_rfl) (k := .i64) j hjt
  have lj := PB.loadI (P := Try.prog) Try.underlying3 rfl j hjt
  rw [eu] at lj tk
  have au := hpz.addr (P := Try.prog) Try.underlying38 Try.underlying3 (by kernel_rfl) (k := .i64) u (by omega)
  have lu : ∀ g, Le h12 g → aload Try.prog g 3 (elemAddr pv u) = some (.int .i64 (ps.getD u 0)) := fun g lg => by
   have := (hps.le Stays.isI (l08.trans (lqz.trans lg))).loadI (P := Try.prog) Try.underlying3 rfl u (by omega)
   rwa [← getD_of (d := 0) (by omega)] at this
  have hml : ((f.feet.take j).map fun x => ps.getD x.toNat 0).length = j := by simp; omega
  obtain ⟨v', h14, h15, e14, e15, g15, w15, l14, f15, k15⟩ := gx.push hwz (ps.getD u 0) (by rw [hml]; omega)
  obtain ⟨l15, a15⟩ := f15 h12 lz ax
  obtain ⟨o15, n15⟩ := k15 FT _ oF nx
  have lF : ∀ g, g.own FT = some (.cells [xv]) → aload Try.prog g 38 ⟨FT, 0, none⟩ = some xv := fun g o => by rw [aload_one Try.underlying38 rfl o]; rfl
  have lF0 := lF hz oF
  have lF1 := lF h14 (l14.own _ _ oF)
  have st := aStore1 (P := Try.prog) (t := 38) (x := v') Try.underlying38 (by kernel_rfl) o15 (off := 0) (by simp) (by obtain ⟨a, c, e, _⟩ := (GS.cs g15).sl; rw [e]; rfl) (GS.cs g15).sl.one
  have oo := AHeap.own_put_eq h15 FT (.cells [v'])
  have lz16 : Le h12 (h15.put FT (.cells [v'])) := l15.put _ nF
  have u0 := lu hz lz
  have u1 := lu h14 (lz.trans l14)
  have u2 := lu h15 l15
  have u3 := lu _ lz16
  have hwj := awrap_succ j (by omega)
  simp only [kS1, bLookup, bMapSet, wantA, isCall, stepOp, evalO, evalL, evalP, evalM, putDst, flat, kA, kB, Nat.reduceLT, ↓reduceIte, kC, Nat.reduceEqDiff, aBuiltin, abinG, guardFree, abin, aInt, aUn, aNilCheck, retQ, retQ1, aresults, aresultL, aresult, mkF, undefV, reduceCtorEq, kD, kE, kF, kG, kH, kI, kJ, kK, aExtract, calleeOf, aj, lj]
  refine KDraw.intro mixed (.fl 0 (.fl 1 (.fl 2 (.fl 3 (.fl 4 (.ch 5 [4] (.ch 6 [0, 5] (.ch 7 [0, 1, 2, 3, 4, 5, 6] (.done) .no) .no) .no)))))) (by kernel_rfl) ?_
  simp only [kS1, bLookup, bMapSet, wantA, isCall, stepOp, evalO, evalL, evalP, evalM, putDst, flat, kA, kB, Nat.reduceLT, ↓reduceIte, kC, Nat.reduceEqDiff, aBuiltin, abinG, guardFree, abin, aInt, aUn, aNilCheck, retQ, retQ1, aresults, aresultL, aresult, mkF, undefV, reduceCtorEq, kD, kE, kF, kG, kH, kI, kJ, kK, aExtract, calleeOf, kD1, Nat.reduceBEq, HoldsAll, kL, kM, kN, kO, lF0, lF1, au, u0, u1, u2, u3, e14, e15, st, List.set_cons_zero, hwj]
  exact loop_again (f.feet.length - (j + 1)) [(2, pv), (3, .pointer (some ⟨B, 0, none⟩)), (13, mv), (17, .pointer (some ⟨D, 0, none⟩)), (18, .int .i64 0), (19, .pointer (some ⟨FT, 0, none⟩)), (74, lv), (75, .int .i64 fs.length), (76, .int .i64 i), (91, eb), (92, .int .i64 f.feet.length), (93, .int .i64 (j + 1 : Nat))] (sub_step hjt) (by simp only [hasAll, kS1, bLookup, bMapSet, wantA, isCall, stepOp, evalO, evalL, evalP, evalM, putDst, flat, kA, kB, Nat.reduceLT, ↓reduceIte, kC, Nat.reduceEqDiff, aBuiltin, abinG, guardFree, abin, aInt, aUn, aNilCheck, retQ, retQ1, aresults, aresultL, aresult, mkF, undefV, reduceCtorEq, kD, kE, kF, kG, kH, kI, kJ, kK, aExtract, calleeOf]; simp)
   ⟨j + 1, v', rfl, hjt, rfl, oo, by rw [tk, List.map_append]; exact GS.put g15 _ n15, lz16, a15, n15⟩
 have hge : f.feet.length ≤ j := lt_f hf
 rw [List.take_of_length_le hge] at gx
 have lF0 : aload Try.prog hz 38 ⟨FT, 0, none⟩ = some xv := by rw [aload_one Try.underlying38 rfl oF]; rfl
 simp only [kS1, bLookup, bMapSet, wantA, isCall, stepOp, evalO, evalL, evalP, evalM, putDst, flat, kA, kB, Nat.reduceLT, ↓reduceIte, kC, Nat.reduceEqDiff, aBuiltin, abinG, guardFree, abin, aInt, aUn, aNilCheck, retQ, retQ1, aresults, aresultL, aresult, mkF, undefV, reduceCtorEq, kD, kE, kF, kG, kH, kI, kJ, kK, aExtract, calleeOf, lF0]
 refine KCall.intro (by simp only [kS1, bLookup, bMapSet, wantA, isCall, stepOp, evalO, evalL, evalP, evalM, putDst, flat, kA, kB, Nat.reduceLT, ↓reduceIte, kC, Nat.reduceEqDiff, aBuiltin, abinG, guardFree, abin, aInt, aUn, aNilCheck, retQ, retQ1, aresults, aresultL, aresult, mkF, undefV, reduceCtorEq, kD, kE, kF, kG, kH, kI, kJ, kK, aExtract, calleeOf] <;> rfl) ⟨Try.func21, rfl, by decide⟩ (Sort_any W0 gx (by rw [List.length_map]; omega)) ?_
 rintro x h16 w16 ⟨rfl, g16, f16⟩
 have l16 := f16 h12 lz ax
 obtain ⟨o16, n16⟩ := keep_own (v' := xv) (fun f _ lf af => ⟨f16 f lf af, af⟩) hwz oF nx
 have fm16 := fm.le (leq.trans (l10.trans (l212.trans l16)))
 have hD : ∀ g, Le h16 g → aload Try.prog g 22 ⟨D, 1, none⟩ = some zv := fun g lg => (lD g (l16.trans lg)).2.2
 have hz16 : PR h16 zv (appE ps f.edges) := (gz.pr.le l12).le l16
 have hwi := awrap_succ i (by omega)
 simp only [kS1, bLookup, bMapSet, wantA, isCall, stepOp, evalO, evalL, evalP, evalM, putDst, flat, kA, kB, Nat.reduceLT, ↓reduceIte, kC, Nat.reduceEqDiff, aBuiltin, abinG, guardFree, abin, aInt, aUn, aNilCheck, retQ, retQ1, aresults, aresultL, aresult, mkF, undefV, reduceCtorEq, kD, kE, kF, kG, kH, kI, kJ, kK, aExtract, calleeOf, d0, bne]
 refine KCall.intro (by simp only [kS1, bLookup, bMapSet, wantA, isCall, stepOp, evalO, evalL, evalP, evalM, putDst, flat, kA, kB, Nat.reduceLT, ↓reduceIte, kC, Nat.reduceEqDiff, aBuiltin, abinG, guardFree, abin, aInt, aUn, aNilCheck, retQ, retQ1, aresults, aresultL, aresult, mkF, undefV, reduceCtorEq, kD, kE, kF, kG, kH, kI, kJ, kK, aExtract, calleeOf] <;> rfl) ⟨Try.func22, rfl, by decide⟩ (ContFr_any W0 mv ms (fun y => decide (y.edges = appE ps f.edges) && decide (y.feet = sortI (f.feet.map fun x => ps.getD x.toNat 0))) 23 ⟨Try.func23, rfl, by decide⟩ [.pointer (some ⟨D, 0, none⟩), .pointer (some ⟨FT, 0, none⟩)] h16 fm16 (by omega)
  fun g y a b lg hy ha hb => clos23_any W0 D FT zv xv _ _ y a b g (fun g' lg' => hD g' (lg.trans lg')) (hz16.le lg) (lg.own _ _ o16) (g16.rl.le Stays.isI lg) ha hb (hbd y hy).1 (hbd y hy).2) ?_
 rintro x h17 w17 ⟨rfl, l17⟩
 simp only [kS1, bLookup, bMapSet, wantA, isCall, stepOp, evalO, evalL, evalP, evalM, putDst, flat, kA, kB, Nat.reduceLT, ↓reduceIte, kC, Nat.reduceEqDiff, aBuiltin, abinG, guardFree, abin, aInt, aUn, aNilCheck, retQ, retQ1, aresults, aresultL, aresult, mkF, undefV, reduceCtorEq, kD, kE, kF, kG, kH, kI, kJ, kK, aExtract, calleeOf, hany, hwi]
 exact loop_again (fs.length - (i + 1)) [(2, pv), (3, .pointer (some ⟨B, 0, none⟩)), (13, mv), (74, lv), (75, .int .i64 fs.length), (76, .int .i64 (i + 1 : Nat))] (sub_step hlt) (by simp only [hasAll, kS1, bLookup, bMapSet, wantA, isCall, stepOp, evalO, evalL, evalP, evalM, putDst, flat, kA, kB, Nat.reduceLT, ↓reduceIte, kC, Nat.reduceEqDiff, aBuiltin, abinG, guardFree, abin, aInt, aUn, aNilCheck, retQ, retQ1, aresults, aresultL, aresult, mkF, undefV, reduceCtorEq, kD, kE, kF, kG, kH, kI, kJ, kK, aExtract, calleeOf]; simp) ⟨i + 1, rfl, hlt, rfl, leq.trans (l10.trans (l212.trans (l16.trans l17)))⟩
end Go.Fw
