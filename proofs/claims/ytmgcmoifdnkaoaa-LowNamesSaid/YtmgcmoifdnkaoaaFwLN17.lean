/- One of the texts of the layer and the walks: it proves what its theorems say of the functions of the seat, with no condition beyond theirs. -/
import Derived.Test.YtmgcmoifdnkaoaaFwLN15
import Derived.Test.YtmgcmoifdnkaoaaFwLM8
import Derived.Test.YtmgcmoifdnkaoaaFwLG1
set_option linter.unusedSimpArgs false
set_option linter.unusedVariables false
namespace Go.Fw
open Go.Proofs
attribute [local irreducible] KO4 KO3 KO2 KO1 KO KN KX KE VK KCond KDraw KCall KLoop
set_option maxHeartbeats 16000000
set_option maxRecDepth 10000
def delK (l : List (Int × Int)) (k : Int) : List (Int × Int) := l.eraseP fun x => decide (x.1 = k)
theorem delK_at (l : List (Int × Int)) (k : Int) : (lookK l k = none ∧ delK l k = l) ∨ ∃ (j : Nat) (b : Int), l[j]? = some (k, b) ∧ (∀ i, i < j → ∀ x, l[i]? = some x → x.1 ≠ k) ∧ delK l k = l.eraseIdx j := by
  induction l with
  | nil => exact .inl ⟨rfl, rfl⟩
  | cons x r ih =>
    obtain ⟨a, b⟩ := x
    by_cases h : a = k
    · subst h; exact .inr ⟨0, b, rfl, by omega, by simp [delK]⟩
    · have e : delK ((a, b) :: r) k = (a, b) :: delK r k := by simp [delK, h]
      rcases ih with ⟨h1, h2⟩ | ⟨j, c, h2, h3, h4⟩
      · exact .inl ⟨by simp only [lookK, if_neg h]; exact h1, by rw [e, h2]⟩
      · refine .inr ⟨j + 1, c, by simpa using h2, fun i hi x hx => ?_, by rw [e, h4]; rfl⟩
        cases i with
        | zero => simp at hx; subst hx; exact h
        | succ i => exact h3 i (by omega) x (by simpa using hx)
theorem mapI_del {h : AHeap} {M : Nat} {l : List (Int × Int)} (ho : h.own M = some (.map (mapI l))) (k : Int) : aDelete Try.prog h 49 (.map (some M)) (.int .i64 k) = some (.tuple #[], h.put M (.map (mapI (delK l k)))) := by
  simp only [aDelete, Try.underlying49, Try.underlying3, ho]
  rcases delK_at l k with ⟨h1, h4⟩ | ⟨j, b, h2, h3, h4⟩
  · rw [(mfind_mapI k l 0).1 h1, h4]
  · rw [(mfind_mapI k l 0).2 j b h2 h3, h4]; simp [mapI, map_erase]
def oneK (l : List Nat) : List (Int × Int) := l.map fun (c : Nat) => ((c : Int), (1 : Int))
theorem look_one (l : List Nat) (v : Nat) : lookK (oneK l) (v : Int) = if v ∈ l then some 1 else none := by
  induction l with
  | nil => simp [oneK, lookK]
  | cons a r ih =>
    show lookK (((a : Int), 1) :: oneK r) (v : Int) = _
    simp only [lookK, ih]
    by_cases h : a = v
    · subst h; simp
    · have : ¬ ((a : Int) = (v : Int)) := by omega
      rw [if_neg this]; simp [Ne.symm h]
theorem del_one (l : List Nat) (v : Nat) : delK (oneK l) (v : Int) = oneK (l.erase v) := by
  induction l with
  | nil => rfl
  | cons a r ih =>
    show delK (((a : Int), 1) :: oneK r) (v : Int) = _
    by_cases h : a = v
    · subst h; simp [delK]
    · have : ¬ ((a : Int) = (v : Int)) := by omega
      have e : delK (((a : Int), 1) :: oneK r) (v : Int) = ((a : Int), 1) :: delK (oneK r) (v : Int) := by simp [delK, this]
      have hb : (a == v) = false := by simpa using h
      rw [e, ih, List.erase_cons_tail (by simp [hb])]; rfl
theorem set_one {l : List Nat} {v : Nat} (h : v ∉ l) : setK (oneK l) (v : Int) 1 = oneK (l ++ [v]) := by
  rcases setK_at (oneK l) (v : Int) 1 with ⟨_, h2⟩ | ⟨j, b, h1, _⟩
  · rw [h2]; simp [oneK]
  · rw [look_one, if_neg h] at h1; cases h1
theorem from_step {l : List Nat} (nd : l.Nodup) (i : Nat) : (l.filter fun c => decide (i ≤ c)).erase i = l.filter fun c => decide (i + 1 ≤ c) := by
  rw [List.Nodup.erase_eq_filter (nd.filter _), List.filter_filter]
  refine List.filter_congr fun x _ => ?_
  rw [Bool.eq_iff_iff]; simp; omega
attribute [local irreducible] lowM bridgesM cutsM blocksM keyE
theorem inc51_any (W0 : Base) (B : Nat) (v : Int) (p : Pr) (h : AHeap) (o : h.own B = some (.cells [.int .i64 v])) : AC Try.prog W0 51 [valP p, .pointer (some ⟨B, 0, none⟩)] h fun x h' => x = .bool (incB v p) ∧ Le h h' := by
  refine AC.vc (fn := Try.f51) (c := _) ⟨Try.func51, rfl, by decide⟩ Try.ntmps51 Try.results51 (by simp) fun hwf => ?_
  simp only [argFrame, argFrom, Nat.reduceAdd]
  obtain ⟨h1, e1, l1, w1, o1⟩ := alloc_f hwf (cellsP p)
  have ob := l1.own _ _ o
  have lv : aload Try.prog h1 3 ⟨B, 0, none⟩ = some (.int .i64 v) := by rw [aload_one Try.underlying3 rfl ob]; rfl
  simp only [kS1, bLookup, bMapSet, wantA, isCall, stepOp, evalO, evalL, evalP, evalM, putDst, flat, kA, kB, Nat.reduceLT, ↓reduceIte, kC, Nat.reduceEqDiff, aBuiltin, abinG, guardFree, abin, aInt, aUn, aNilCheck, retQ, retQ1, aresults, aresultL, aresult, mkF, undefV, reduceCtorEq, kD, kE, kF, kG, kH, kI, kJ, kK, aExtract, calleeOf, box42, e1]
  generalize h.next = E at *
  by_cases c : p.1 = v
  · have d : decide (p.1 = v) = true := decide_eq_true c
    simp only [kS1, bLookup, bMapSet, wantA, isCall, stepOp, evalO, evalL, evalP, evalM, putDst, flat, kA, kB, Nat.reduceLT, ↓reduceIte, kC, Nat.reduceEqDiff, aBuiltin, abinG, guardFree, abin, aInt, aUn, aNilCheck, retQ, retQ1, aresults, aresultL, aresult, mkF, undefV, reduceCtorEq, kD, kE, kF, kG, kH, kI, kJ, kK, aExtract, calleeOf, pa0, pa1, aadd, Nat.zero_add, own0 o1, own1 o1, lv, d]
    exact ⟨by rw [incB, d]; rfl, l1⟩
  · have d : decide (p.1 = v) = false := decide_eq_false c
    simp only [kS1, bLookup, bMapSet, wantA, isCall, stepOp, evalO, evalL, evalP, evalM, putDst, flat, kA, kB, Nat.reduceLT, ↓reduceIte, kC, Nat.reduceEqDiff, aBuiltin, abinG, guardFree, abin, aInt, aUn, aNilCheck, retQ, retQ1, aresults, aresultL, aresult, mkF, undefV, reduceCtorEq, kD, kE, kF, kG, kH, kI, kJ, kK, aExtract, calleeOf, pa0, pa1, aadd, Nat.zero_add, own0 o1, own1 o1, lv, d]
    exact ⟨by rw [incB, d]; rfl, l1⟩
theorem LowCuts_law (W0 : Base) (v : Value) (G : GM) (h : AHeap) (hg : GR h v G) : AC Try.prog W0 11 [v] h fun x h' => x = .bool true := by
  have hg0 := hg
  obtain ⟨gn, es⟩ := G
  obtain ⟨ev, rfl, hp⟩ := hg.open
  refine AC.vc (fn := Try.f11) (c := _) ⟨Try.func11, rfl, by decide⟩ Try.ntmps11 Try.results11 (by simp) fun hwf => ?_
  simp only [argFrame, argFrom, Nat.reduceAdd]
  obtain ⟨h1, b1, le1, wf1, -, lA⟩ := boxG (n := gn) hwf hp
  generalize h.next = B at *
  have lA1 := lA h1 (Le.refl _)
  simp only [kS1, bLookup, bMapSet, wantA, isCall, stepOp, evalO, evalL, evalP, evalM, putDst, flat, kA, kB, Nat.reduceLT, ↓reduceIte, kC, Nat.reduceEqDiff, aBuiltin, abinG, guardFree, abin, aInt, aUn, aNilCheck, retQ, retQ1, aresults, aresultL, aresult, mkF, undefV, reduceCtorEq, kD, kE, kF, kG, kH, kI, kJ, kK, aExtract, calleeOf, b1, lA1.1]
  refine KCall.intro (by simp only [kS1, bLookup, bMapSet, wantA, isCall, stepOp, evalO, evalL, evalP, evalM, putDst, flat, kA, kB, Nat.reduceLT, ↓reduceIte, kC, Nat.reduceEqDiff, aBuiltin, abinG, guardFree, abin, aInt, aUn, aNilCheck, retQ, retQ1, aresults, aresultL, aresult, mkF, undefV, reduceCtorEq, kD, kE, kF, kG, kH, kI, kJ, kK, aExtract, calleeOf] <;> rfl) ⟨Try.func31, rfl, by decide⟩ (right_any W0 _ _ h1 (hg0.le le1)) ?_
  rintro x h2 wf2 ⟨⟨bb, rfl, hbb⟩, le2⟩
  cases bb with
  | false =>
    simp only [kS1, bLookup, bMapSet, wantA, isCall, stepOp, evalO, evalL, evalP, evalM, putDst, flat, kA, kB, Nat.reduceLT, ↓reduceIte, kC, Nat.reduceEqDiff, aBuiltin, abinG, guardFree, abin, aInt, aUn, aNilCheck, retQ, retQ1, aresults, aresultL, aresult, mkF, undefV, reduceCtorEq, kD, kE, kF, kG, kH, kI, kJ, kK, aExtract, calleeOf]
    refine KCall.intro (by simp only [kS1, bLookup, bMapSet, wantA, isCall, stepOp, evalO, evalL, evalP, evalM, putDst, flat, kA, kB, Nat.reduceLT, ↓reduceIte, kC, Nat.reduceEqDiff, aBuiltin, abinG, guardFree, abin, aInt, aUn, aNilCheck, retQ, retQ1, aresults, aresultL, aresult, mkF, undefV, reduceCtorEq, kD, kE, kF, kG, kH, kI, kJ, kK, aExtract, calleeOf] <;> rfl) ⟨Try.func15, rfl, by decide⟩ (awake_any W0 h2) ?_
    rintro x h3 w3 ⟨rfl, l3⟩
    simp only [kS1, bLookup, bMapSet, wantA, isCall, stepOp, evalO, evalL, evalP, evalM, putDst, flat, kA, kB, Nat.reduceLT, ↓reduceIte, kC, Nat.reduceEqDiff, aBuiltin, abinG, guardFree, abin, aInt, aUn, aNilCheck, retQ, retQ1, aresults, aresultL, aresult, mkF, undefV, reduceCtorEq, kD, kE, kF, kG, kH, kI, kJ, kK, aExtract, calleeOf]
  | true =>
  obtain ⟨hr, hn24⟩ := hbb.1 rfl
  clear hbb
  have h0 : 0 ≤ gn := hr.n0
  obtain ⟨n, rfl⟩ := Int.eq_ofNat_of_zero_le h0
  simp only at hn24
  have hR := hr.inR
  have h594 : es.length ≤ 594 := hr.len
  have hbl := (blocksM_len' n es)
  have lA2 := lA h2 le2
  simp only [kS1, bLookup, bMapSet, wantA, isCall, stepOp, evalO, evalL, evalP, evalM, putDst, flat, kA, kB, Nat.reduceLT, ↓reduceIte, kC, Nat.reduceEqDiff, aBuiltin, abinG, guardFree, abin, aInt, aUn, aNilCheck, retQ, retQ1, aresults, aresultL, aresult, mkF, undefV, reduceCtorEq, kD, kE, kF, kG, kH, kI, kJ, kK, aExtract, calleeOf, lA2.1]
  refine KCall.intro (by simp only [kS1, bLookup, bMapSet, wantA, isCall, stepOp, evalO, evalL, evalP, evalM, putDst, flat, kA, kB, Nat.reduceLT, ↓reduceIte, kC, Nat.reduceEqDiff, aBuiltin, abinG, guardFree, abin, aInt, aUn, aNilCheck, retQ, retQ1, aresults, aresultL, aresult, mkF, undefV, reduceCtorEq, kD, kE, kF, kG, kH, kI, kJ, kK, aExtract, calleeOf] <;> rfl) ⟨Try.func23, rfl, by decide⟩ (Cuts_any W0 _ _ h2 (hg0.le (le1.trans le2))) ?_
  rintro x h3 w3 ⟨l3, ⟨hn, _⟩ | ⟨_, cv, rfl, gc, _⟩⟩
  · exact absurd hr hn
  simp only [Int.toNat_natCast] at gc
  have le3 := le2.trans l3
  have lA3 := lA h3 le3
  simp only [kS1, bLookup, bMapSet, wantA, isCall, stepOp, evalO, evalL, evalP, evalM, putDst, flat, kA, kB, Nat.reduceLT, ↓reduceIte, kC, Nat.reduceEqDiff, aBuiltin, abinG, guardFree, abin, aInt, aUn, aNilCheck, retQ, retQ1, aresults, aresultL, aresult, mkF, undefV, reduceCtorEq, kD, kE, kF, kG, kH, kI, kJ, kK, aExtract, calleeOf, lA3.1]
  refine KCall.intro (by simp only [kS1, bLookup, bMapSet, wantA, isCall, stepOp, evalO, evalL, evalP, evalM, putDst, flat, kA, kB, Nat.reduceLT, ↓reduceIte, kC, Nat.reduceEqDiff, aBuiltin, abinG, guardFree, abin, aInt, aUn, aNilCheck, retQ, retQ1, aresults, aresultL, aresult, mkF, undefV, reduceCtorEq, kD, kE, kF, kG, kH, kI, kJ, kK, aExtract, calleeOf] <;> rfl) ⟨Try.func25, rfl, by decide⟩ (Blocks_any W0 _ _ h3 (hg0.le (le1.trans le3))) ?_
  rintro x h4 w4 ⟨l4, ⟨hn, _⟩ | ⟨_, kv, rfl, hk⟩⟩
  · exact absurd hr hn
  simp only [Int.toNat_natCast] at hk
  have le4 := le3.trans l4
  have gc4 := gc.le l4
  have hcl : (cutsM n es).length ≤ n := by
    have := List.length_filter_le (isCut (lowM n es).1 (cntM (lowM n es).1 (lowM n es).2 n)) (List.range n)
    rw [cutsM]; rw [List.length_range] at this; exact this
  have hcp : (cutsM n es).Pairwise (· < ·) := by rw [cutsM]; exact List.pairwise_lt_range.filter _
  have hcm := cuts_mem hR
  have lk := fun g => hk.len (P := Try.prog) Try.underlying38 g
  have lc := fun g => gc.rl.len (P := Try.prog) Try.underlying35 g
  rw [nat64_length] at lc
  obtain ⟨h5, e5, l5, w5, o5⟩ : ∃ h5, h4.alloc (.map []) = h5 ∧ Le h4 h5 ∧ WF h5 ∧ h5.own h4.next = some (.map []) := ⟨_, rfl, (Le.refl h4).alloc w4 _, w4.alloc _, AHeap.own_alloc_eq _ _⟩
  have nM : h4.own h4.next = none := (Le.refl h4).next w4 (Nat.le_refl _)
  simp only [kS1, bLookup, bMapSet, wantA, isCall, stepOp, evalO, evalL, evalP, evalM, putDst, flat, kA, kB, Nat.reduceLT, ↓reduceIte, kC, Nat.reduceEqDiff, aBuiltin, abinG, guardFree, abin, aInt, aUn, aNilCheck, retQ, retQ1, aresults, aresultL, aresult, mkF, undefV, reduceCtorEq, kD, kE, kF, kG, kH, kI, kJ, kK, aExtract, calleeOf, bne, wr0, e5, lc]
  have hinc : ∀ w, incN n es w = ((blocksM n es).filter (atB (w : Int))).length := fun w => by rw [incN]
  generalize blocksM n es = Ks at *
  generalize cutsM n es = Cs at *
  have hnd : Cs.Nodup := hcp.imp fun h => by omega
  generalize h4.next = M at *
  refine KLoop.intro (fun k fr hq => ∃ (i : Nat), k = Cs.length - i ∧ i ≤ Cs.length ∧ fr = mkF [(1, .pointer (some ⟨B, 0, none⟩)), (3, cv), (5, kv), (7, .map (some M)), (38, cv), (39, .int .i64 Cs.length), (40, .int .i64 i)] ∧ hq.own M = some (.map (mapI (oneK (Cs.take i)))) ∧ Le h4 hq)
    Cs.length [(1, .pointer (some ⟨B, 0, none⟩)), (3, cv), (5, kv), (7, .map (some M)), (38, cv), (39, .int .i64 Cs.length), (40, .int .i64 (0 : Nat))] (by simp only [hasAll, kS1, bLookup, bMapSet, wantA, isCall, stepOp, evalO, evalL, evalP, evalM, putDst, flat, kA, kB, Nat.reduceLT, ↓reduceIte, kC, Nat.reduceEqDiff, aBuiltin, abinG, guardFree, abin, aInt, aUn, aNilCheck, retQ, retQ1, aresults, aresultL, aresult, mkF, undefV, reduceCtorEq, kD, kE, kF, kG, kH, kI, kJ, kK, aExtract, calleeOf]; simp)
    ⟨0, rfl, Nat.zero_le _, rfl, by rw [o5]; rfl, l5⟩ ?_
  clear o5 e5 l5 w5
  clear h5
  rintro k fr hq hwq ⟨i, rfl, hi, rfl, oM, leq⟩
  simp only [kS1, bLookup, bMapSet, wantA, isCall, stepOp, evalO, evalL, evalP, evalM, putDst, flat, kA, kB, Nat.reduceLT, ↓reduceIte, kC, Nat.reduceEqDiff, aBuiltin, abinG, guardFree, abin, aInt, aUn, aNilCheck, retQ, retQ1, aresults, aresultL, aresult, mkF, undefV, reduceCtorEq, kD, kE, kF, kG, kH, kI, kJ, kK, aExtract, calleeOf]
  refine KCond.intro (fun ht => ?_) (fun hf => ?_)
  · have hlt : i < Cs.length := lt_t ht
    clear ht
    have hm : i < (nat64 Cs).length := by rw [nat64_length]; exact hlt
    have ad := gc.rl.addr (P := Try.prog) Try.underlying35 Try.underlying3 (by kernel_rfl) (k := .i64) i hm
    have ld := (gc4.le leq).rl.loadI (P := Try.prog) Try.underlying3 rfl i hm
    rw [nat64_get hlt] at ld
    have htk : Cs.take (i + 1) = Cs.take i ++ [Cs[i]] := List.take_succ_eq_append_getElem hlt
    have hni : Cs[i] ∉ Cs.take i := fun hmem => by
      rw [List.pairwise_iff_getElem] at hcp
      obtain ⟨j, hj, e⟩ := List.mem_iff_getElem.1 hmem
      rw [List.length_take] at hj
      rw [List.getElem_take] at e
      have := hcp j i (by omega) hlt (by omega)
      omega
    have st := mapI_set oM (Cs[i] : Int) 1
    rw [set_one hni, ← htk] at st
    have w7 := hwq.put (.map (mapI (oneK (Cs.take (i + 1))))) (hwq.lt oM)
    have o7 := AHeap.own_put_eq hq M (.map (mapI (oneK (Cs.take (i + 1)))))
    have l7 := leq.put (.map (mapI (oneK (Cs.take (i + 1))))) nM
    by_cases hi0 : 0 < i
    · have hi1 : i - 1 < Cs.length := by omega
      have hm1 : i - 1 < (nat64 Cs).length := by rw [nat64_length]; exact hi1
      have ad1 := gc.rl.addr (P := Try.prog) Try.underlying35 Try.underlying3 (by kernel_rfl) (k := .i64) (i - 1) hm1
      have ld1 := (gc4.le l7).rl.loadI (P := Try.prog) Try.underlying3 rfl (i - 1) hm1
      rw [nat64_get hi1] at ld1
      have hlt1 : Cs[i - 1] < Cs[i] := by
        rw [List.pairwise_iff_getElem] at hcp
        exact hcp (i - 1) i hi1 hlt (by omega)
      have hw1 : awrap .i64 ((i : Int) - 1) = ((i - 1 : Nat) : Int) := by rw [awrap_i64 _ (by omega) (by omega)]; omega
      have d0 : decide ((i : Int) > 0) = true := decide_eq_true (by omega)
      have d1 : decide ((Cs[i - 1] : Int) ≥ (Cs[i] : Int)) = false := decide_eq_false (by omega)
      generalize Cs[i] = c at *
      generalize Cs[i - 1] = c1 at *
      simp only [kS1, bLookup, bMapSet, wantA, isCall, stepOp, evalO, evalL, evalP, evalM, putDst, flat, kA, kB, Nat.reduceLT, ↓reduceIte, kC, Nat.reduceEqDiff, aBuiltin, abinG, guardFree, abin, aInt, aUn, aNilCheck, retQ, retQ1, aresults, aresultL, aresult, mkF, undefV, reduceCtorEq, kD, kE, kF, kG, kH, kI, kJ, kK, aExtract, calleeOf, ad, ld, st, d0, hw1, ad1, ld1, d1, awrap_succ i (by omega)]
      exact loop_again (Cs.length - (i + 1)) [(1, .pointer (some ⟨B, 0, none⟩)), (3, cv), (5, kv), (7, .map (some M)), (38, cv), (39, .int .i64 Cs.length), (40, .int .i64 (i + 1 : Nat))] (by omega) (by simp only [hasAll, kS1, bLookup, bMapSet, wantA, isCall, stepOp, evalO, evalL, evalP, evalM, putDst, flat, kA, kB, Nat.reduceLT, ↓reduceIte, kC, Nat.reduceEqDiff, aBuiltin, abinG, guardFree, abin, aInt, aUn, aNilCheck, retQ, retQ1, aresults, aresultL, aresult, mkF, undefV, reduceCtorEq, kD, kE, kF, kG, kH, kI, kJ, kK, aExtract, calleeOf]; simp)
        ⟨i + 1, rfl, hlt, rfl, o7, l7⟩
    · have d0 : decide ((i : Int) > 0) = false := decide_eq_false (by omega)
      generalize Cs[i] = c at *
      simp only [kS1, bLookup, bMapSet, wantA, isCall, stepOp, evalO, evalL, evalP, evalM, putDst, flat, kA, kB, Nat.reduceLT, ↓reduceIte, kC, Nat.reduceEqDiff, aBuiltin, abinG, guardFree, abin, aInt, aUn, aNilCheck, retQ, retQ1, aresults, aresultL, aresult, mkF, undefV, reduceCtorEq, kD, kE, kF, kG, kH, kI, kJ, kK, aExtract, calleeOf, ad, ld, st, d0, awrap_succ i (by omega)]
      exact loop_again (Cs.length - (i + 1)) [(1, .pointer (some ⟨B, 0, none⟩)), (3, cv), (5, kv), (7, .map (some M)), (38, cv), (39, .int .i64 Cs.length), (40, .int .i64 (i + 1 : Nat))] (by omega) (by simp only [hasAll, kS1, bLookup, bMapSet, wantA, isCall, stepOp, evalO, evalL, evalP, evalM, putDst, flat, kA, kB, Nat.reduceLT, ↓reduceIte, kC, Nat.reduceEqDiff, aBuiltin, abinG, guardFree, abin, aInt, aUn, aNilCheck, retQ, retQ1, aresults, aresultL, aresult, mkF, undefV, reduceCtorEq, kD, kE, kF, kG, kH, kI, kJ, kK, aExtract, calleeOf]; simp)
        ⟨i + 1, rfl, hlt, rfl, o7, l7⟩
  have hge : Cs.length ≤ i := lt_f hf
  rw [List.take_of_length_le hge] at oM
  have lAq := lA hq (le4.trans leq)
  simp only [kS1, bLookup, bMapSet, wantA, isCall, stepOp, evalO, evalL, evalP, evalM, putDst, flat, kA, kB, Nat.reduceLT, ↓reduceIte, kC, Nat.reduceEqDiff, aBuiltin, abinG, guardFree, abin, aInt, aUn, aNilCheck, retQ, retQ1, aresults, aresultL, aresult, mkF, undefV, reduceCtorEq, kD, kE, kF, kG, kH, kI, kJ, kK, aExtract, calleeOf, lAq.1]
  refine KCall.intro (by simp only [kS1, bLookup, bMapSet, wantA, isCall, stepOp, evalO, evalL, evalP, evalM, putDst, flat, kA, kB, Nat.reduceLT, ↓reduceIte, kC, Nat.reduceEqDiff, aBuiltin, abinG, guardFree, abin, aInt, aUn, aNilCheck, retQ, retQ1, aresults, aresultL, aresult, mkF, undefV, reduceCtorEq, kD, kE, kF, kG, kH, kI, kJ, kK, aExtract, calleeOf] <;> rfl) ⟨Try.func50, rfl, by decide⟩ (Parts_any W0 _ ⟨(n : Int), es⟩ hq (hg0.le (le1.trans (le4.trans leq))) hr) ?_
  rintro pv h6 w6 ⟨gp, l6, -⟩
  simp only [Int.toNat_natCast] at gp
  have rp := gp.rl (Stays.RL Stays.isI)
  have lp := fun g => rp.len (P := Try.prog) Try.underlying57 g
  have hpl : ((partsN n es n).map nat64).length = (heads n es).length := by simp [partsN]
  rw [hpl] at lp
  have hhl : (heads n es).length ≤ n := heads_length _ _
  have lA6 := lA h6 ((le4.trans leq).trans l6)
  have oM6 := l6.own _ _ oM
  have leq6 := leq.trans l6
  simp only [kS1, bLookup, bMapSet, wantA, isCall, stepOp, evalO, evalL, evalP, evalM, putDst, flat, kA, kB, Nat.reduceLT, ↓reduceIte, kC, Nat.reduceEqDiff, aBuiltin, abinG, guardFree, abin, aInt, aUn, aNilCheck, retQ, retQ1, aresults, aresultL, aresult, mkF, undefV, reduceCtorEq, kD, kE, kF, kG, kH, kI, kJ, kK, aExtract, calleeOf, lp, fg0, aadd, Nat.zero_add, lA6.2.1]
  have hf0 : Cs = Cs.filter fun c => decide (0 ≤ c) := by rw [List.filter_eq_self.2]; intro a _; simp
  rw [hf0] at oM6
  refine KLoop.intro (fun k fr hx => ∃ (i : Nat), k = n - i ∧ i ≤ n ∧ fr = mkF [(1, .pointer (some ⟨B, 0, none⟩)), (5, kv), (7, .map (some M)), (10, .int .i64 (heads n es).length), (63, .int .i64 n), (64, .int .i64 i)] ∧ hx.own M = some (.map (mapI (oneK (Cs.filter fun c => decide (i ≤ c))))) ∧ Le h4 hx)
    n [(1, .pointer (some ⟨B, 0, none⟩)), (5, kv), (7, .map (some M)), (10, .int .i64 (heads n es).length), (63, .int .i64 n), (64, .int .i64 (0 : Nat))] (by simp only [hasAll, kS1, bLookup, bMapSet, wantA, isCall, stepOp, evalO, evalL, evalP, evalM, putDst, flat, kA, kB, Nat.reduceLT, ↓reduceIte, kC, Nat.reduceEqDiff, aBuiltin, abinG, guardFree, abin, aInt, aUn, aNilCheck, retQ, retQ1, aresults, aresultL, aresult, mkF, undefV, reduceCtorEq, kD, kE, kF, kG, kH, kI, kJ, kK, aExtract, calleeOf]; simp)
    ⟨0, rfl, Nat.zero_le _, rfl, oM6, leq6⟩ ?_
  clear oM6 leq6 lA6 lp hpl rp gp l6 w6 lAq hf hge oM leq hwq
  clear h6 hq pv
  rintro k fr hx hwx ⟨i, rfl, hi, rfl, oM, lex⟩
  simp only [kS1, bLookup, bMapSet, wantA, isCall, stepOp, evalO, evalL, evalP, evalM, putDst, flat, kA, kB, Nat.reduceLT, ↓reduceIte, kC, Nat.reduceEqDiff, aBuiltin, abinG, guardFree, abin, aInt, aUn, aNilCheck, retQ, retQ1, aresults, aresultL, aresult, mkF, undefV, reduceCtorEq, kD, kE, kF, kG, kH, kI, kJ, kK, aExtract, calleeOf]
  refine KCond.intro (fun ht => ?_) (fun hf => ?_)
  rotate_left
  · have hge : n ≤ i := lt_f hf
    have he : (Cs.filter fun c => decide (i ≤ c)) = [] := by
      rw [List.filter_eq_nil_iff]; intro a ha; have := ((hcm a).1 ha).1; simp; omega
    rw [he] at oM
    have ln := mapI_len oM
    simp only [oneK, List.map_nil, List.length_nil] at ln
    have d0 : decide (((0 : Nat) : Int) = 0) = true := by decide
    simp only [kS1, bLookup, bMapSet, wantA, isCall, stepOp, evalO, evalL, evalP, evalM, putDst, flat, kA, kB, Nat.reduceLT, ↓reduceIte, kC, Nat.reduceEqDiff, aBuiltin, abinG, guardFree, abin, aInt, aUn, aNilCheck, retQ, retQ1, aresults, aresultL, aresult, mkF, undefV, reduceCtorEq, kD, kE, kF, kG, kH, kI, kJ, kK, aExtract, calleeOf, ln, d0]
    refine KCall.intro (by simp only [kS1, bLookup, bMapSet, wantA, isCall, stepOp, evalO, evalL, evalP, evalM, putDst, flat, kA, kB, Nat.reduceLT, ↓reduceIte, kC, Nat.reduceEqDiff, aBuiltin, abinG, guardFree, abin, aInt, aUn, aNilCheck, retQ, retQ1, aresults, aresultL, aresult, mkF, undefV, reduceCtorEq, kD, kE, kF, kG, kH, kI, kJ, kK, aExtract, calleeOf] <;> rfl) ⟨Try.func15, rfl, by decide⟩ (awake_any W0 hx) ?_
    rintro x h9 w9 ⟨rfl, l9⟩
    simp only [kS1, bLookup, bMapSet, wantA, isCall, stepOp, evalO, evalL, evalP, evalM, putDst, flat, kA, kB, Nat.reduceLT, ↓reduceIte, kC, Nat.reduceEqDiff, aBuiltin, abinG, guardFree, abin, aInt, aUn, aNilCheck, retQ, retQ1, aresults, aresultL, aresult, mkF, undefV, reduceCtorEq, kD, kE, kF, kG, kH, kI, kJ, kK, aExtract, calleeOf]
  have hlt : i < n := lt_t ht
  clear ht
  obtain ⟨h6, e6, l6, w6, o6⟩ := alloc_f hwx [.int .i64 0]
  have al3 := alloc3 hx
  rw [e6] at al3
  have st := aStore1 (P := Try.prog) (t := 3) (x := .int .i64 (i : Int)) Try.underlying3 (by kernel_rfl) o6 (off := 0) (by simp) rfl rfl
  have nV : hx.own hx.next = none := (Le.refl hx).next hwx (Nat.le_refl _)
  have oV := AHeap.own_put_eq h6 hx.next (.cells [.int .i64 (i : Int)])
  have w7 := w6.put (.cells [.int .i64 (i : Int)]) (w6.lt o6)
  have l7 := l6.put (.cells [.int .i64 (i : Int)]) nV
  simp only [List.set_cons_zero] at st
  simp only [kS1, bLookup, bMapSet, wantA, isCall, stepOp, evalO, evalL, evalP, evalM, putDst, flat, kA, kB, Nat.reduceLT, ↓reduceIte, kC, Nat.reduceEqDiff, aBuiltin, abinG, guardFree, abin, aInt, aUn, aNilCheck, retQ, retQ1, aresults, aresultL, aresult, mkF, undefV, reduceCtorEq, kD, kE, kF, kG, kH, kI, kJ, kK, aExtract, calleeOf, al3, st]
  generalize h6.put hx.next (.cells [.int .i64 (i : Int)]) = h7 at *
  have neVM : M ≠ hx.next := fun e => by rw [e, nV] at oM; cases oM
  generalize hx.next = V at *
  have lA7 := lA h7 (le4.trans (lex.trans l7))
  simp only [kS1, bLookup, bMapSet, wantA, isCall, stepOp, evalO, evalL, evalP, evalM, putDst, flat, kA, kB, Nat.reduceLT, ↓reduceIte, kC, Nat.reduceEqDiff, aBuiltin, abinG, guardFree, abin, aInt, aUn, aNilCheck, retQ, retQ1, aresults, aresultL, aresult, mkF, undefV, reduceCtorEq, kD, kE, kF, kG, kH, kI, kJ, kK, aExtract, calleeOf, lA7.1]
  refine KCall.intro (by simp only [kS1, bLookup, bMapSet, wantA, isCall, stepOp, evalO, evalL, evalP, evalM, putDst, flat, kA, kB, Nat.reduceLT, ↓reduceIte, kC, Nat.reduceEqDiff, aBuiltin, abinG, guardFree, abin, aInt, aUn, aNilCheck, retQ, retQ1, aresults, aresultL, aresult, mkF, undefV, reduceCtorEq, kD, kE, kF, kG, kH, kI, kJ, kK, aExtract, calleeOf] <;> rfl) ⟨Try.func35, rfl, by decide⟩ (without_any W0 (.agg #[.int .i64 (n : Int), ev]) ⟨(n : Int), es⟩ (incB (i : Int)) 51 ⟨Try.func51, rfl, by decide⟩ [.pointer (some ⟨V, 0, none⟩)] h7 (hg0.le (le1.trans (le4.trans (lex.trans l7)))) (by simp only; omega) (fun g p l => inc51_any W0 V (i : Int) p g (l.own _ _ oV))) ?_
  rintro x h8 w8 ⟨xv, rfl, gx, l8, ax⟩
  rw [incB_wo] at gx
  obtain ⟨h9', h9, e9, e9s, l9, w9, lG9⟩ := newG w8 (n := (n : Int)) gx.pr
  simp only [kS1, bLookup, bMapSet, wantA, isCall, stepOp, evalO, evalL, evalP, evalM, putDst, flat, kA, kB, Nat.reduceLT, ↓reduceIte, kC, Nat.reduceEqDiff, aBuiltin, abinG, guardFree, abin, aInt, aUn, aNilCheck, retQ, retQ1, aresults, aresultL, aresult, mkF, undefV, reduceCtorEq, kD, kE, kF, kG, kH, kI, kJ, kK, aExtract, calleeOf, e9, e9s, lk]
  generalize h8.next = X at *
  have l79 := l8.trans l9
  have gx9 := gx.le l9
  have oV9 := l79.own _ _ oV
  have oM9 := l79.own _ _ (l7.own _ _ oM)
  have lex9 := lex.trans (l7.trans l79)
  have hk9 := hk.le Stays.PR lex9
  have hrx : RightG ⟨(n : Int), woV es i⟩ := hr.sub List.filter_sublist
  clear al3 st e9 e9s l9 w9 l8 w8 lA7 l7 w7 oV l79 o6 e6 l6 w6 nV
  refine KLoop.intro (fun k fr hz => ∃ (j T : Nat), k = Ks.length - j ∧ j ≤ Ks.length ∧ fr = mkF [(1, .pointer (some ⟨B, 0, none⟩)), (5, kv), (7, .map (some M)), (10, .int .i64 (heads n es).length), (11, .pointer (some ⟨V, 0, none⟩)), (12, .pointer (some ⟨X, 0, none⟩)), (13, .int .i64 T), (63, .int .i64 n), (64, .int .i64 i), (70, kv), (71, .int .i64 Ks.length), (72, .int .i64 j)] ∧ ((Ks.take j).filter (atB (i : Int))).length = T ∧ Le h9 hz)
    Ks.length [(1, .pointer (some ⟨B, 0, none⟩)), (5, kv), (7, .map (some M)), (10, .int .i64 (heads n es).length), (11, .pointer (some ⟨V, 0, none⟩)), (12, .pointer (some ⟨X, 0, none⟩)), (13, .int .i64 (0 : Nat)), (63, .int .i64 n), (64, .int .i64 i), (70, kv), (71, .int .i64 Ks.length), (72, .int .i64 (0 : Nat))] (by simp only [hasAll, kS1, bLookup, bMapSet, wantA, isCall, stepOp, evalO, evalL, evalP, evalM, putDst, flat, kA, kB, Nat.reduceLT, ↓reduceIte, kC, Nat.reduceEqDiff, aBuiltin, abinG, guardFree, abin, aInt, aUn, aNilCheck, retQ, retQ1, aresults, aresultL, aresult, mkF, undefV, reduceCtorEq, kD, kE, kF, kG, kH, kI, kJ, kK, aExtract, calleeOf]; simp)
    ⟨0, 0, rfl, Nat.zero_le _, rfl, by simp, Le.refl _⟩ ?_
  rintro k fr hz hwz ⟨j, T, rfl, hj, rfl, hT, lez⟩
  simp only [kS1, bLookup, bMapSet, wantA, isCall, stepOp, evalO, evalL, evalP, evalM, putDst, flat, kA, kB, Nat.reduceLT, ↓reduceIte, kC, Nat.reduceEqDiff, aBuiltin, abinG, guardFree, abin, aInt, aUn, aNilCheck, retQ, retQ1, aresults, aresultL, aresult, mkF, undefV, reduceCtorEq, kD, kE, kF, kG, kH, kI, kJ, kK, aExtract, calleeOf]
  refine KCond.intro (fun ht => ?_) (fun hf => ?_)
  · have hlj : j < Ks.length := lt_t ht
    clear ht
    have adj_ := hk.addr (P := Try.prog) Try.underlying38 Try.underlying22 (by kernel_rfl) (k := .i64) j hlj
    obtain ⟨u, ldu, hu⟩ := (hk9.le Stays.PR lez).load (P := Try.prog) Try.underlying22 rfl j hlj
    have hbm := List.getElem_mem hlj
    have htj : (Ks.take (j + 1)).filter (atB (i : Int)) = (Ks.take j).filter (atB (i : Int)) ++ (if atB (i : Int) Ks[j] then [Ks[j]] else []) := by
      rw [List.take_succ_eq_append_getElem hlj, List.filter_append]; congr 1; simp [List.filter_cons]
    have hTj : T ≤ j := by
      have := List.length_filter_le (atB (i : Int)) (Ks.take j)
      rw [List.length_take] at this; omega
    generalize Ks[j] = b at *
    have hbl' := hbl.2 b hbm
    have lu := fun g => hu.len g
    simp only [kS1, bLookup, bMapSet, wantA, isCall, stepOp, evalO, evalL, evalP, evalM, putDst, flat, kA, kB, Nat.reduceLT, ↓reduceIte, kC, Nat.reduceEqDiff, aBuiltin, abinG, guardFree, abin, aInt, aUn, aNilCheck, retQ, retQ1, aresults, aresultL, aresult, mkF, undefV, reduceCtorEq, kD, kE, kF, kG, kH, kI, kJ, kK, aExtract, calleeOf, adj_, ldu, lu]
    have oVz := lez.own _ _ oV9
    refine KLoop.intro (fun k fr hy => ∃ (m : Nat), k = b.length - m ∧ m ≤ b.length ∧ fr = mkF [(1, .pointer (some ⟨B, 0, none⟩)), (5, kv), (7, .map (some M)), (10, .int .i64 (heads n es).length), (11, .pointer (some ⟨V, 0, none⟩)), (12, .pointer (some ⟨X, 0, none⟩)), (13, .int .i64 T), (63, .int .i64 n), (64, .int .i64 i), (70, kv), (71, .int .i64 Ks.length), (72, .int .i64 j), (76, u), (77, .int .i64 b.length), (78, .int .i64 m)] ∧ (b.take m).any (incB (i : Int)) = false ∧ Le hz hy)
      b.length [(1, .pointer (some ⟨B, 0, none⟩)), (5, kv), (7, .map (some M)), (10, .int .i64 (heads n es).length), (11, .pointer (some ⟨V, 0, none⟩)), (12, .pointer (some ⟨X, 0, none⟩)), (13, .int .i64 T), (63, .int .i64 n), (64, .int .i64 i), (70, kv), (71, .int .i64 Ks.length), (72, .int .i64 j), (76, u), (77, .int .i64 b.length), (78, .int .i64 (0 : Nat))] (by simp only [hasAll, kS1, bLookup, bMapSet, wantA, isCall, stepOp, evalO, evalL, evalP, evalM, putDst, flat, kA, kB, Nat.reduceLT, ↓reduceIte, kC, Nat.reduceEqDiff, aBuiltin, abinG, guardFree, abin, aInt, aUn, aNilCheck, retQ, retQ1, aresults, aresultL, aresult, mkF, undefV, reduceCtorEq, kD, kE, kF, kG, kH, kI, kJ, kK, aExtract, calleeOf]; simp)
      ⟨0, rfl, Nat.zero_le _, rfl, rfl, Le.refl _⟩ ?_
    rintro k fr hy hwy ⟨m, rfl, hm', rfl, hany, ley⟩
    simp only [kS1, bLookup, bMapSet, wantA, isCall, stepOp, evalO, evalL, evalP, evalM, putDst, flat, kA, kB, Nat.reduceLT, ↓reduceIte, kC, Nat.reduceEqDiff, aBuiltin, abinG, guardFree, abin, aInt, aUn, aNilCheck, retQ, retQ1, aresults, aresultL, aresult, mkF, undefV, reduceCtorEq, kD, kE, kF, kG, kH, kI, kJ, kK, aExtract, calleeOf]
    refine KCond.intro (fun ht => ?_) (fun hf => ?_)
    rotate_left
    · have hge : b.length ≤ m := lt_f hf
      rw [List.take_of_length_le hge] at hany
      have ha : atB (i : Int) b = false := hany
      rw [ha] at htj
      simp only [kS1, bLookup, bMapSet, wantA, isCall, stepOp, evalO, evalL, evalP, evalM, putDst, flat, kA, kB, Nat.reduceLT, ↓reduceIte, kC, Nat.reduceEqDiff, aBuiltin, abinG, guardFree, abin, aInt, aUn, aNilCheck, retQ, retQ1, aresults, aresultL, aresult, mkF, undefV, reduceCtorEq, kD, kE, kF, kG, kH, kI, kJ, kK, aExtract, calleeOf, awrap_succ j (by omega)]
      exact loop_again (Ks.length - (j + 1)) [(1, .pointer (some ⟨B, 0, none⟩)), (5, kv), (7, .map (some M)), (10, .int .i64 (heads n es).length), (11, .pointer (some ⟨V, 0, none⟩)), (12, .pointer (some ⟨X, 0, none⟩)), (13, .int .i64 T), (63, .int .i64 n), (64, .int .i64 i), (70, kv), (71, .int .i64 Ks.length), (72, .int .i64 (j + 1 : Nat))] (by omega) (by simp only [hasAll, kS1, bLookup, bMapSet, wantA, isCall, stepOp, evalO, evalL, evalP, evalM, putDst, flat, kA, kB, Nat.reduceLT, ↓reduceIte, kC, Nat.reduceEqDiff, aBuiltin, abinG, guardFree, abin, aInt, aUn, aNilCheck, retQ, retQ1, aresults, aresultL, aresult, mkF, undefV, reduceCtorEq, kD, kE, kF, kG, kH, kI, kJ, kK, aExtract, calleeOf]; simp)
        ⟨j + 1, T, rfl, hlj, rfl, by rw [htj]; simpa using hT, lez.trans ley⟩
    have hlm : m < b.length := lt_t ht
    clear ht
    have hpm := getElem?_of hlm
    have htk : b.take (m + 1) = b.take m ++ [b[m]] := List.take_succ_eq_append_getElem hlm
    have hbany : incB (i : Int) b[m] = true → atB (i : Int) b = true := fun e => List.any_eq_true.2 ⟨_, List.getElem_mem hlm, e⟩
    generalize b[m] = p at hpm htk hbany
    have adp := hu.addr (k := .i64) m hlm
    have ldp := (hu.le ley).load hpm
    obtain ⟨h7', h7, e7, e7s, l7, w7, o7⟩ := new42 hwy p
    generalize hy.next = E at *
    have m0 := own0 o7
    have m1 := own1 o7
    have oV7 := l7.own _ _ (ley.own _ _ oVz)
    have lv : aload Try.prog h7 3 ⟨V, 0, none⟩ = some (.int .i64 (i : Int)) := by rw [aload_one Try.underlying3 rfl oV7]; rfl
    have yes : incB (i : Int) p = true → ((Ks.take (j + 1)).filter (atB (i : Int))).length = T + 1 := fun e => by
      rw [htj, hbany e]; simp [hT]
    by_cases c1 : p.1 = (i : Int)
    · have d1 : decide (p.1 = (i : Int)) = true := decide_eq_true c1
      have y1 := yes (by simp [incB, c1])
      simp only [kS1, bLookup, bMapSet, wantA, isCall, stepOp, evalO, evalL, evalP, evalM, putDst, flat, kA, kB, Nat.reduceLT, ↓reduceIte, kC, Nat.reduceEqDiff, aBuiltin, abinG, guardFree, abin, aInt, aUn, aNilCheck, retQ, retQ1, aresults, aresultL, aresult, mkF, undefV, reduceCtorEq, kD, kE, kF, kG, kH, kI, kJ, kK, aExtract, calleeOf, adp, ldp, e7, e7s, pa0, pa1, aadd, Nat.zero_add, m0, m1, lv, d1, awrap_succ T (by omega), awrap_succ j (by omega)]
      exact loop_again (Ks.length - (j + 1)) [(1, .pointer (some ⟨B, 0, none⟩)), (5, kv), (7, .map (some M)), (10, .int .i64 (heads n es).length), (11, .pointer (some ⟨V, 0, none⟩)), (12, .pointer (some ⟨X, 0, none⟩)), (13, .int .i64 (T + 1 : Nat)), (63, .int .i64 n), (64, .int .i64 i), (70, kv), (71, .int .i64 Ks.length), (72, .int .i64 (j + 1 : Nat))] (by omega) (by simp only [hasAll, kS1, bLookup, bMapSet, wantA, isCall, stepOp, evalO, evalL, evalP, evalM, putDst, flat, kA, kB, Nat.reduceLT, ↓reduceIte, kC, Nat.reduceEqDiff, aBuiltin, abinG, guardFree, abin, aInt, aUn, aNilCheck, retQ, retQ1, aresults, aresultL, aresult, mkF, undefV, reduceCtorEq, kD, kE, kF, kG, kH, kI, kJ, kK, aExtract, calleeOf]; simp)
        ⟨j + 1, T + 1, rfl, hlj, rfl, y1, lez.trans (ley.trans l7)⟩
    have d1 : decide (p.1 = (i : Int)) = false := decide_eq_false c1
    by_cases c2 : p.2 = (i : Int)
    · have d2 : decide (p.2 = (i : Int)) = true := decide_eq_true c2
      have y1 := yes (by simp [incB, c2])
      simp only [kS1, bLookup, bMapSet, wantA, isCall, stepOp, evalO, evalL, evalP, evalM, putDst, flat, kA, kB, Nat.reduceLT, ↓reduceIte, kC, Nat.reduceEqDiff, aBuiltin, abinG, guardFree, abin, aInt, aUn, aNilCheck, retQ, retQ1, aresults, aresultL, aresult, mkF, undefV, reduceCtorEq, kD, kE, kF, kG, kH, kI, kJ, kK, aExtract, calleeOf, adp, ldp, e7, e7s, pa0, pa1, aadd, Nat.zero_add, m0, m1, lv, d1, d2, awrap_succ T (by omega), awrap_succ j (by omega)]
      exact loop_again (Ks.length - (j + 1)) [(1, .pointer (some ⟨B, 0, none⟩)), (5, kv), (7, .map (some M)), (10, .int .i64 (heads n es).length), (11, .pointer (some ⟨V, 0, none⟩)), (12, .pointer (some ⟨X, 0, none⟩)), (13, .int .i64 (T + 1 : Nat)), (63, .int .i64 n), (64, .int .i64 i), (70, kv), (71, .int .i64 Ks.length), (72, .int .i64 (j + 1 : Nat))] (by omega) (by simp only [hasAll, kS1, bLookup, bMapSet, wantA, isCall, stepOp, evalO, evalL, evalP, evalM, putDst, flat, kA, kB, Nat.reduceLT, ↓reduceIte, kC, Nat.reduceEqDiff, aBuiltin, abinG, guardFree, abin, aInt, aUn, aNilCheck, retQ, retQ1, aresults, aresultL, aresult, mkF, undefV, reduceCtorEq, kD, kE, kF, kG, kH, kI, kJ, kK, aExtract, calleeOf]; simp)
        ⟨j + 1, T + 1, rfl, hlj, rfl, y1, lez.trans (ley.trans l7)⟩
    have d2 : decide (p.2 = (i : Int)) = false := decide_eq_false c2
    simp only [kS1, bLookup, bMapSet, wantA, isCall, stepOp, evalO, evalL, evalP, evalM, putDst, flat, kA, kB, Nat.reduceLT, ↓reduceIte, kC, Nat.reduceEqDiff, aBuiltin, abinG, guardFree, abin, aInt, aUn, aNilCheck, retQ, retQ1, aresults, aresultL, aresult, mkF, undefV, reduceCtorEq, kD, kE, kF, kG, kH, kI, kJ, kK, aExtract, calleeOf, adp, ldp, e7, e7s, pa0, pa1, aadd, Nat.zero_add, m0, m1, lv, d1, d2, awrap_succ m (by omega)]
    exact loop_again (b.length - (m + 1)) [(1, .pointer (some ⟨B, 0, none⟩)), (5, kv), (7, .map (some M)), (10, .int .i64 (heads n es).length), (11, .pointer (some ⟨V, 0, none⟩)), (12, .pointer (some ⟨X, 0, none⟩)), (13, .int .i64 T), (63, .int .i64 n), (64, .int .i64 i), (70, kv), (71, .int .i64 Ks.length), (72, .int .i64 j), (76, u), (77, .int .i64 b.length), (78, .int .i64 (m + 1 : Nat))] (by omega) (by simp only [hasAll, kS1, bLookup, bMapSet, wantA, isCall, stepOp, evalO, evalL, evalP, evalM, putDst, flat, kA, kB, Nat.reduceLT, ↓reduceIte, kC, Nat.reduceEqDiff, aBuiltin, abinG, guardFree, abin, aInt, aUn, aNilCheck, retQ, retQ1, aresults, aresultL, aresult, mkF, undefV, reduceCtorEq, kD, kE, kF, kG, kH, kI, kJ, kK, aExtract, calleeOf]; simp)
      ⟨m + 1, rfl, hlm, rfl, by rw [htk, List.any_append, hany]; simp [incB, c1, c2], ley.trans l7⟩
  have hge : Ks.length ≤ j := lt_f hf
  rw [List.take_of_length_le hge, ← hinc] at hT
  have lgx := (lG9 hz lez).1
  simp only [kS1, bLookup, bMapSet, wantA, isCall, stepOp, evalO, evalL, evalP, evalM, putDst, flat, kA, kB, Nat.reduceLT, ↓reduceIte, kC, Nat.reduceEqDiff, aBuiltin, abinG, guardFree, abin, aInt, aUn, aNilCheck, retQ, retQ1, aresults, aresultL, aresult, mkF, undefV, reduceCtorEq, kD, kE, kF, kG, kH, kI, kJ, kK, aExtract, calleeOf, lgx]
  refine KCall.intro (by simp only [kS1, bLookup, bMapSet, wantA, isCall, stepOp, evalO, evalL, evalP, evalM, putDst, flat, kA, kB, Nat.reduceLT, ↓reduceIte, kC, Nat.reduceEqDiff, aBuiltin, abinG, guardFree, abin, aInt, aUn, aNilCheck, retQ, retQ1, aresults, aresultL, aresult, mkF, undefV, reduceCtorEq, kD, kE, kF, kG, kH, kI, kJ, kK, aExtract, calleeOf] <;> rfl) ⟨Try.func50, rfl, by decide⟩ (Parts_any W0 (.agg #[.int .i64 (n : Int), xv]) ⟨(n : Int), woV es i⟩ hz ⟨xv, rfl, (gx9.le lez).pr⟩ hrx) ?_
  rintro pv hy wy ⟨gp, ly, -⟩
  simp only [Int.toNat_natCast] at gp
  have rp := gp.rl (Stays.RL Stays.isI)
  have lp := fun g => rp.len (P := Try.prog) Try.underlying57 g
  have hpl : ((partsN n (woV es i) n).map nat64).length = (heads n (woV es i)).length := by simp [partsN]
  rw [hpl] at lp
  have hhl' : (heads n (woV es i)).length ≤ n := heads_length _ _
  have oMy := ly.own _ _ (lez.own _ _ oM9)
  have oVy := ly.own _ _ (lez.own _ _ oV9)
  have lv : aload Try.prog hy 3 ⟨V, 0, none⟩ = some (.int .i64 (i : Int)) := by rw [aload_one Try.underlying3 rfl oVy]; rfl
  have hmore := cut_more hR hlt
  have hincc := inc_cut hR i
  rw [hT] at hincc
  have hci := hcm i
  have lm := mapI_look oMy (i : Int) false
  rw [look_one] at lm
  simp only [List.mem_filter, Nat.le_refl, decide_true, and_true, cond_false] at lm
  have md := mapI_del oMy (i : Int)
  rw [del_one, from_step hnd] at md
  have wz := wy.put (.map (mapI (oneK (Cs.filter fun c => decide (i + 1 ≤ c))))) (wy.lt oMy)
  have oz := AHeap.own_put_eq hy M (.map (mapI (oneK (Cs.filter fun c => decide (i + 1 ≤ c)))))
  have lz := ((lex9.trans lez).trans ly).put (.map (mapI (oneK (Cs.filter fun c => decide (i + 1 ≤ c))))) nM
  have hw2 : awrap .i64 (((heads n (woV es i)).length : Int) - 1) = ((heads n (woV es i)).length : Int) - 1 := awrap_i64 _ (by omega) (by omega)
  by_cases q : i ∈ Cs
  · have hq2 := (hci.1 q).2
    have m1 := hmore.2 hq2
    have m2 := hincc.2 hq2
    rw [if_pos q] at lm
    simp only [Option.getD_some] at lm
    have d1 : decide (((heads n (woV es i)).length : Int) - 1 > ((heads n es).length : Int)) = true := decide_eq_true (by omega)
    have d2 : decide ((T : Int) > 1) = true := decide_eq_true (by omega)
    have d3 : decide ((1 : Int) = 1) = true := by decide
    simp only [kS1, bLookup, bMapSet, wantA, isCall, stepOp, evalO, evalL, evalP, evalM, putDst, flat, kA, kB, Nat.reduceLT, ↓reduceIte, kC, Nat.reduceEqDiff, aBuiltin, abinG, guardFree, abin, aInt, aUn, aNilCheck, retQ, retQ1, aresults, aresultL, aresult, mkF, undefV, reduceCtorEq, kD, kE, kF, kG, kH, kI, kJ, kK, aExtract, calleeOf, lp, hw2, d1, lv, lm, d3, d2, bne, Try.underlying4, aEq, md, awrap_succ i (by omega)]
    exact loop_again (n - (i + 1)) [(1, .pointer (some ⟨B, 0, none⟩)), (5, kv), (7, .map (some M)), (10, .int .i64 (heads n es).length), (63, .int .i64 n), (64, .int .i64 (i + 1 : Nat))] (by omega) (by simp only [hasAll, kS1, bLookup, bMapSet, wantA, isCall, stepOp, evalO, evalL, evalP, evalM, putDst, flat, kA, kB, Nat.reduceLT, ↓reduceIte, kC, Nat.reduceEqDiff, aBuiltin, abinG, guardFree, abin, aInt, aUn, aNilCheck, retQ, retQ1, aresults, aresultL, aresult, mkF, undefV, reduceCtorEq, kD, kE, kF, kG, kH, kI, kJ, kK, aExtract, calleeOf]; simp)
      ⟨i + 1, rfl, hlt, rfl, oz, lz⟩
  · have hq2 : ¬ Fo.Cut2 es i := fun e => q (hci.2 ⟨hlt, e⟩)
    have m1 : ¬ _ := fun e => hq2 (hmore.1 e)
    have m2 : ¬ _ := fun e => hq2 (hincc.1 e)
    rw [if_neg q] at lm
    simp only [Option.getD_none] at lm
    have d1 : decide (((heads n (woV es i)).length : Int) - 1 > ((heads n es).length : Int)) = false := decide_eq_false (by omega)
    have d2 : decide ((T : Int) > 1) = false := decide_eq_false (by omega)
    have d3 : decide ((0 : Int) = 1) = false := by decide
    simp only [kS1, bLookup, bMapSet, wantA, isCall, stepOp, evalO, evalL, evalP, evalM, putDst, flat, kA, kB, Nat.reduceLT, ↓reduceIte, kC, Nat.reduceEqDiff, aBuiltin, abinG, guardFree, abin, aInt, aUn, aNilCheck, retQ, retQ1, aresults, aresultL, aresult, mkF, undefV, reduceCtorEq, kD, kE, kF, kG, kH, kI, kJ, kK, aExtract, calleeOf, lp, hw2, d1, lv, lm, d3, d2, bne, Try.underlying4, aEq, md, awrap_succ i (by omega)]
    exact loop_again (n - (i + 1)) [(1, .pointer (some ⟨B, 0, none⟩)), (5, kv), (7, .map (some M)), (10, .int .i64 (heads n es).length), (63, .int .i64 n), (64, .int .i64 (i + 1 : Nat))] (by omega) (by simp only [hasAll, kS1, bLookup, bMapSet, wantA, isCall, stepOp, evalO, evalL, evalP, evalM, putDst, flat, kA, kB, Nat.reduceLT, ↓reduceIte, kC, Nat.reduceEqDiff, aBuiltin, abinG, guardFree, abin, aInt, aUn, aNilCheck, retQ, retQ1, aresults, aresultL, aresult, mkF, undefV, reduceCtorEq, kD, kE, kF, kG, kH, kI, kJ, kK, aExtract, calleeOf]; simp)
      ⟨i + 1, rfl, hlt, rfl, oz, lz⟩
end Go.Fw
