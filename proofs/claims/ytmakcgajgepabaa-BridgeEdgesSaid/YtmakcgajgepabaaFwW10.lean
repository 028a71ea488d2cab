/- One of the texts of the layer and the walks: it proves what its theorems say of the functions of the seat, with no condition beyond theirs. -/
import Derived.Test.YtmakcgajgepabaaFwW9
set_option linter.unusedSimpArgs false
set_option linter.unusedVariables false
namespace Go.Fw
open Go.Proofs
attribute [local irreducible] KO4 KO3 KO2 KO1 KO KN KX KE VK KCond KDraw KCall KLoop
set_option maxHeartbeats 8000000
set_option maxRecDepth 10000
theorem mk2I (h : AHeap) (x y : Int) : aBuildSlice Try.prog h 39 2 [(0, .int .i64 x), (1, .int .i64 y)] = some (.slice (some ⟨h.next, 0, none⟩) 2 2, h.alloc (.cells [.int .i64 x, .int .i64 y])) := rfl
theorem Path_any (W0 : World) (v : Value) (G : GM) (a b : Int) (h : AHeap) (hg : GR h v G) :
    AC Try.prog W0 20 [v, .int .i64 a, .int .i64 b] h fun x h' => Le h h' ∧ ∃ lv e, x = .tuple #[lv, .int .i64 e] ∧ lv.oneCell' = true ∧
      (RightG G → 0 ≤ a → a < G.n → 0 ≤ b → b < G.n → (e = 0 ↔ Con G.es b.toNat a.toNat)) := by
  have hg0 := hg
  obtain ⟨gn, es⟩ := G
  obtain ⟨ev, rfl, hp⟩ := hg.open
  refine AC.vc (fn := Try.f20) (c := _) ⟨Try.func20, rfl, by decide⟩ Try.ntmps20 Try.results20 (by simp) fun hwf => ?_
  simp only [argFrame, argFrom, Nat.reduceAdd]
  obtain ⟨h1, b1, le1, wf1, -, lA⟩ := boxG (n := gn) hwf hp
  generalize h.next = B at *
  have lA1 := lA h1 (Le.refl _)
  obtain ⟨h2, e2, l2, w2, o2⟩ := alloc_f wf1 [.int .i64 a, .int .i64 b]
  have rs : RL isI h2 (.slice (some ⟨h1.next, 0, none⟩) 2 2) [a, b] := RL.ofI (RS.whole o2 rfl)
  simp only [kS1, bLookup, bMapSet, wantA, isCall, stepOp, evalO, evalL, evalP, evalM, putDst, flat, kA, kB, Nat.reduceLT, ↓reduceIte, kC, Nat.reduceEqDiff, aBuiltin, abinG, guardFree, abin, aInt, aUn, aNilCheck, retQ, retQ1, aresults, aresultL, aresult, mkF, undefV, reduceCtorEq, kD, kE, kF, kG, kH, kI, kJ, kK, aExtract, calleeOf, b1, lA1.1, mk2I, e2]
  generalize Value.slice (some ⟨h1.next, 0, none⟩) 2 2 = sv at *
  refine KCall.intro (by simp only [kS1, bLookup, bMapSet, wantA, isCall, stepOp, evalO, evalL, evalP, evalM, putDst, flat, kA, kB, Nat.reduceLT, ↓reduceIte, kC, Nat.reduceEqDiff, aBuiltin, abinG, guardFree, abin, aInt, aUn, aNilCheck, retQ, retQ1, aresults, aresultL, aresult, mkF, undefV, reduceCtorEq, kD, kE, kF, kG, kH, kI, kJ, kK, aExtract, calleeOf] <;> rfl) ⟨Try.func46, rfl, by decide⟩ (start_any W0 _ sv ⟨gn, es⟩ [a, b] h2 (hg0.le (le1.trans l2)) rs (by simp)) ?_
  rintro x h3 wf3 ⟨le3, lv, e, rfl, hc⟩
  have le03 := (le1.trans l2).trans le3
  rcases hc with ⟨hnr, rfl, rfl⟩ | ⟨hr, hns, rfl, rfl⟩ | ⟨hr, hs, rfl, hrows⟩
  · simp only [kS1, bLookup, bMapSet, wantA, isCall, stepOp, evalO, evalL, evalP, evalM, putDst, flat, kA, kB, Nat.reduceLT, ↓reduceIte, kC, Nat.reduceEqDiff, aBuiltin, abinG, guardFree, abin, aInt, aUn, aNilCheck, retQ, retQ1, aresults, aresultL, aresult, mkF, undefV, reduceCtorEq, kD, kE, kF, kG, kH, kI, kJ, kK, aExtract, calleeOf, bne, d20]
    exact ⟨le03, _, _, rfl, rfl, fun hr => absurd hr hnr⟩
  · simp only [kS1, bLookup, bMapSet, wantA, isCall, stepOp, evalO, evalL, evalP, evalM, putDst, flat, kA, kB, Nat.reduceLT, ↓reduceIte, kC, Nat.reduceEqDiff, aBuiltin, abinG, guardFree, abin, aInt, aUn, aNilCheck, retQ, retQ1, aresults, aresultL, aresult, mkF, undefV, reduceCtorEq, kD, kE, kF, kG, kH, kI, kJ, kK, aExtract, calleeOf, bne, d2]
    exact ⟨le03, _, _, rfl, rfl, fun _ h1 h2 h3 h4 => by simp only [List.mem_cons, List.not_mem_nil, or_false, forall_eq_or_imp, forall_eq] at hns; exact absurd ⟨⟨h1, h2⟩, h3, h4⟩ hns⟩
  have h0 : 0 ≤ gn := hr.n0
  obtain ⟨n, rfl⟩ := Int.eq_ofNat_of_zero_le h0
  have h200 : (n : Int) ≤ 200 := hr.n1
  have h594 : es.length ≤ 594 := hr.len
  have hR := hr.inR
  have ha := hs a (by simp)
  have hb := hs b (by simp)
  simp only at ha hb
  obtain ⟨a, rfl⟩ := Int.eq_ofNat_of_zero_le ha.1
  obtain ⟨b, rfl⟩ := Int.eq_ofNat_of_zero_le hb.1
  have han : a < n := by omega
  have hbn : b < n := by omega
  clear hs ha hb
  simp only [Int.toNat_natCast] at hrows ⊢
  simp only [kS1, bLookup, bMapSet, wantA, isCall, stepOp, evalO, evalL, evalP, evalM, putDst, flat, kA, kB, Nat.reduceLT, ↓reduceIte, kC, Nat.reduceEqDiff, aBuiltin, abinG, guardFree, abin, aInt, aUn, aNilCheck, retQ, retQ1, aresults, aresultL, aresult, mkF, undefV, reduceCtorEq, kD, kE, kF, kG, kH, kI, kJ, kK, aExtract, calleeOf, bne]
  refine KCall.intro (by simp only [kS1, bLookup, bMapSet, wantA, isCall, stepOp, evalO, evalL, evalP, evalM, putDst, flat, kA, kB, Nat.reduceLT, ↓reduceIte, kC, Nat.reduceEqDiff, aBuiltin, abinG, guardFree, abin, aInt, aUn, aNilCheck, retQ, retQ1, aresults, aresultL, aresult, mkF, undefV, reduceCtorEq, kD, kE, kF, kG, kH, kI, kJ, kK, aExtract, calleeOf] <;> rfl) ⟨Try.func47, rfl, by decide⟩ (away_any W0 lv n b es h3 hrows hR (by omega) (by omega) hbn) ?_
  rintro tv h4 wf4 ⟨L, hL, hF, le4⟩
  have adT : ∀ u, u < n → aIndexAddr Try.prog 39 tv (.int .i64 u) = some (.pointer (some (elemAddr tv u))) := fun u hu => hL.addr (P := Try.prog) Try.underlying39 Try.underlying3 (by kernel_rfl) (k := .i64) u (by rw [hF.len]; exact hu)
  have ldT : ∀ g, Le h4 g → ∀ u l, u < n → L[u]? = some l → aload Try.prog g 3 (elemAddr tv u) = some (.int .i64 l) := fun g lg u l hu hl => by
    have := (hL.le Stays.isI lg).loadI (P := Try.prog) Try.underlying3 rfl u (by rw [hF.len]; exact hu)
    rw [List.getElem?_eq_getElem (by rw [hF.len]; exact hu)] at hl
    injection hl with hl
    rw [hl] at this; exact this
  have hLa := getElem?_of (show a < L.length by rw [hF.len]; exact han)
  generalize L[a]'(by rw [hF.len]; exact han) = la at hLa
  have lda := ldT h4 (Le.refl _) a la han hLa
  have hpos := hF.pos a la hLa
  by_cases c0 : la < 0
  · simp only [kS1, bLookup, bMapSet, wantA, isCall, stepOp, evalO, evalL, evalP, evalM, putDst, flat, kA, kB, Nat.reduceLT, ↓reduceIte, kC, Nat.reduceEqDiff, aBuiltin, abinG, guardFree, abin, aInt, aUn, aNilCheck, retQ, retQ1, aresults, aresultL, aresult, mkF, undefV, reduceCtorEq, kD, kE, kF, kG, kH, kI, kJ, kK, aExtract, calleeOf, adT a han, lda, c0]
    exact ⟨le03.trans le4, _, _, rfl, rfl, fun _ _ _ _ _ => ⟨(fun h => by cases h), fun h => by have := hpos.2 h; omega⟩⟩
  obtain ⟨k0, rfl⟩ := Int.eq_ofNat_of_zero_le (show 0 ≤ la by omega)
  obtain ⟨h5, e5, l5, w5, o5⟩ := alloc_f wf4 [.int .i64 (a : Int)]
  simp only [kS1, bLookup, bMapSet, wantA, isCall, stepOp, evalO, evalL, evalP, evalM, putDst, flat, kA, kB, Nat.reduceLT, ↓reduceIte, kC, Nat.reduceEqDiff, aBuiltin, abinG, guardFree, abin, aInt, aUn, aNilCheck, retQ, retQ1, aresults, aresultL, aresult, mkF, undefV, reduceCtorEq, kD, kE, kF, kG, kH, kI, kJ, kK, aExtract, calleeOf, adT a han, lda, c0, mk1, e5]
  have nW : h4.own h4.next = none := (Le.refl h4).next wf4 (Nat.le_refl _)
  have g5 : GI h5 (.slice (some ⟨h4.next, 0, none⟩) 1 1) [(a : Int)] := GS.full o5 rfl (show 1 < 1000000000000 by decide)
  have ap5 : Apart h4 (.slice (some ⟨h4.next, 0, none⟩) 1 1) := fun b hb => by simp [blk] at hb; subst hb; exact nW
  generalize Value.slice (some ⟨h4.next, 0, none⟩) 1 1 = wv0 at *
  have hk0 := (hF.bd a _ hLa).2
  refine KLoop.intro (fun k fr hq => ∃ (v : Nat) (wv : Value) (xs : List Int), fr = mkF [(2, .int .i64 b), (8, lv), (10, tv), (11, wv), (12, .int .i64 v)] ∧ v < n ∧ L[v]? = some (k : Int) ∧ GI hq wv xs ∧ xs.length + k ≤ 300 ∧ Le h4 hq ∧ Apart h4 wv)
    k0 [(2, .int .i64 b), (8, lv), (10, tv), (11, wv0), (12, .int .i64 a)] (by simp only [hasAll, kS1, bLookup, bMapSet, wantA, isCall, stepOp, evalO, evalL, evalP, evalM, putDst, flat, kA, kB, Nat.reduceLT, ↓reduceIte, kC, Nat.reduceEqDiff, aBuiltin, abinG, guardFree, abin, aInt, aUn, aNilCheck, retQ, retQ1, aresults, aresultL, aresult, mkF, undefV, reduceCtorEq, kD, kE, kF, kG, kH, kI, kJ, kK, aExtract, calleeOf]; simp) ⟨a, wv0, [(a : Int)], rfl, han, hLa, g5, by simp; omega, l5, ap5⟩ ?_
  clear ap5 g5 nW o5 w5 l5 e5
  clear h5 wv0
  rintro k fr hq hwq ⟨v, wv, xs, rfl, hv, hLv, gw, hxl, leq, apw⟩
  by_cases c1 : (v : Int) = (b : Int)
  · obtain rfl : v = b := by omega
    have cc : decide ((v : Int) = (v : Int)) = true := by simp
    simp only [kS1, bLookup, bMapSet, wantA, isCall, stepOp, evalO, evalL, evalP, evalM, putDst, flat, kA, kB, Nat.reduceLT, ↓reduceIte, kC, Nat.reduceEqDiff, aBuiltin, abinG, guardFree, abin, aInt, aUn, aNilCheck, retQ, retQ1, aresults, aresultL, aresult, mkF, undefV, reduceCtorEq, kD, kE, kF, kG, kH, kI, kJ, kK, aExtract, calleeOf, bne, cc]
    exact ⟨(le03.trans le4).trans leq, _, _, rfl, gw.rl.one, fun _ _ _ _ _ => ⟨fun _ => hpos.1 (by omega), fun _ => rfl⟩⟩
  have hk : 0 < k := by
    rcases Nat.eq_zero_or_pos k with rfl | h
    · exact absurd (by rw [hF.zero v hLv]) c1
    · exact h
  have cc : decide ((v : Int) = (b : Int)) = false := by simpa using c1
  have hul : v < (besM n es).length := by rw [besM_length]; exact hv
  have adr := hrows.addr (P := Try.prog) Try.underlying52 Try.underlying39 (by kernel_rfl) (k := .i64) v hul
  obtain ⟨uv, ldr, hrow⟩ := hrows.load' (P := Try.prog) Try.underlying39 rfl v hul
  have hrd : (besM n es).getD v [] = (besM n es)[v] := getD_of hul
  generalize (besM n es)[v] = row at hrow hrd
  have lr := fun g => hrow.len (P := Try.prog) Try.underlying39 g
  have hrl : row.length ≤ 3000 := by
    have := besM_rows n es row (by rw [← hrd, getD_of hul]; exact List.getElem_mem hul)
    omega
  simp only [kS1, bLookup, bMapSet, wantA, isCall, stepOp, evalO, evalL, evalP, evalM, putDst, flat, kA, kB, Nat.reduceLT, ↓reduceIte, kC, Nat.reduceEqDiff, aBuiltin, abinG, guardFree, abin, aInt, aUn, aNilCheck, retQ, retQ1, aresults, aresultL, aresult, mkF, undefV, reduceCtorEq, kD, kE, kF, kG, kH, kI, kJ, kK, aExtract, calleeOf, bne, cc, adr, ldr hq (le4.trans leq), lr]
  refine KLoop.intro (fun m fr hh => ∃ j : Nat, m = row.length - j ∧ j ≤ row.length ∧ fr = mkF [(2, .int .i64 b), (8, lv), (10, tv), (11, wv), (12, .int .i64 v), (43, uv), (44, .int .i64 row.length), (45, .int .i64 j)] ∧ hh = hq ∧ ∀ (i : Nat) (w : Nat), i < j → row[i]? = some (w : Int) → L[w]? ≠ some ((k : Int) - 1))
    row.length [(2, .int .i64 b), (8, lv), (10, tv), (11, wv), (12, .int .i64 v), (43, uv), (44, .int .i64 row.length), (45, .int .i64 (0 : Nat))] (by simp only [hasAll, kS1, bLookup, bMapSet, wantA, isCall, stepOp, evalO, evalL, evalP, evalM, putDst, flat, kA, kB, Nat.reduceLT, ↓reduceIte, kC, Nat.reduceEqDiff, aBuiltin, abinG, guardFree, abin, aInt, aUn, aNilCheck, retQ, retQ1, aresults, aresultL, aresult, mkF, undefV, reduceCtorEq, kD, kE, kF, kG, kH, kI, kJ, kK, aExtract, calleeOf]; simp) ⟨0, rfl, Nat.zero_le _, rfl, rfl, by omega⟩ ?_
  rintro m fr hh hwh ⟨j, rfl, hj, rfl, rfl, hno⟩
  simp only [kS1, bLookup, bMapSet, wantA, isCall, stepOp, evalO, evalL, evalP, evalM, putDst, flat, kA, kB, Nat.reduceLT, ↓reduceIte, kC, Nat.reduceEqDiff, aBuiltin, abinG, guardFree, abin, aInt, aUn, aNilCheck, retQ, retQ1, aresults, aresultL, aresult, mkF, undefV, reduceCtorEq, kD, kE, kF, kG, kH, kI, kJ, kK, aExtract, calleeOf]
  refine KCond.intro (fun ht => ?_) (fun hf => ?_)
  rotate_left
  · have hge : row.length ≤ j := lt_f hf
    exfalso
    obtain ⟨w, haw, hLw⟩ := hF.pre v k hLv (by omega)
    have hm := (besM_mem hR v w).2 haw
    rw [hrd] at hm
    obtain ⟨i, hi⟩ := List.mem_iff_getElem?.1 hm
    exact hno i w (by have := (List.getElem?_eq_some_iff.1 hi).1; omega) hi hLw
  have hlj : j < row.length := lt_t ht
  clear ht
  have hrj := getElem?_of hlj
  have adj' := hrow.addr (P := Try.prog) Try.underlying39 Try.underlying3 (by kernel_rfl) (k := .i64) j hlj
  have ldj := (hrow.le Stays.isI (le4.trans leq)).loadI (P := Try.prog) Try.underlying3 rfl j hlj
  have hxm : row[j] ∈ (besM n es).getD v [] := by rw [hrd]; exact List.getElem_mem hlj
  generalize row[j] = x at ldj hrj hxm
  obtain ⟨w, rfl, hwn⟩ := besM_nat hR hxm
  have hLw := getElem?_of (show w < L.length by rw [hF.len]; exact hwn)
  generalize L[w]'(by rw [hF.len]; exact hwn) = lw at hLw
  have ldw := ldT hh leq w lw hwn hLw
  have ldv := ldT hh leq v k hv hLv
  have awk : awrap .i64 ((k : Int) - 1) = (k : Int) - 1 := awrap_i64 _ (by omega) (by omega)
  simp only [kS1, bLookup, bMapSet, wantA, isCall, stepOp, evalO, evalL, evalP, evalM, putDst, flat, kA, kB, Nat.reduceLT, ↓reduceIte, kC, Nat.reduceEqDiff, aBuiltin, abinG, guardFree, abin, aInt, aUn, aNilCheck, retQ, retQ1, aresults, aresultL, aresult, mkF, undefV, reduceCtorEq, kD, kE, kF, kG, kH, kI, kJ, kK, aExtract, calleeOf, adj', ldj]
  refine KDraw.intro mixed (.fl 0 (.fl 1 (.fl 2 (.fl 3 (.fl 4 (.fl 5 (.fl 6 (.fl 7 (.fl 8 (.fl 9 (.done))))))))))) (by kernel_rfl) ?_
  by_cases c2 : lw = (k : Int) - 1
  · have dd : decide (lw = (k : Int) - 1) = true := by simpa using c2
    obtain ⟨wv', h6, h7, e6, e7, g7, w7, l6, hf, hk7⟩ := gw.push hwh (w : Int) (by omega)
    obtain ⟨l7, a7⟩ := hf h4 leq apw
    simp only [kS1, bLookup, bMapSet, wantA, isCall, stepOp, evalO, evalL, evalP, evalM, putDst, flat, kA, kB, Nat.reduceLT, ↓reduceIte, kC, Nat.reduceEqDiff, aBuiltin, abinG, guardFree, abin, aInt, aUn, aNilCheck, retQ, retQ1, aresults, aresultL, aresult, mkF, undefV, reduceCtorEq, kD, kE, kF, kG, kH, kI, kJ, kK, aExtract, calleeOf, kD1, Nat.reduceBEq, HoldsAll, kL, kM, kN, kO, adT w hwn, ldw, adT v hv, ldv, awk, dd]
    simp only [kS1, bLookup, bMapSet, wantA, isCall, stepOp, evalO, evalL, evalP, evalM, putDst, flat, kA, kB, Nat.reduceLT, ↓reduceIte, kC, Nat.reduceEqDiff, aBuiltin, abinG, guardFree, abin, aInt, aUn, aNilCheck, retQ, retQ1, aresults, aresultL, aresult, mkF, undefV, reduceCtorEq, kD, kE, kF, kG, kH, kI, kJ, kK, aExtract, calleeOf, e6, e7]
    exact loop_again (k - 1) [(2, .int .i64 b), (8, lv), (10, tv), (11, wv'), (12, .int .i64 w)] (by omega) (by simp only [hasAll, kS1, bLookup, bMapSet, wantA, isCall, stepOp, evalO, evalL, evalP, evalM, putDst, flat, kA, kB, Nat.reduceLT, ↓reduceIte, kC, Nat.reduceEqDiff, aBuiltin, abinG, guardFree, abin, aInt, aUn, aNilCheck, retQ, retQ1, aresults, aresultL, aresult, mkF, undefV, reduceCtorEq, kD, kE, kF, kG, kH, kI, kJ, kK, aExtract, calleeOf]; simp) ⟨w, wv', _, rfl, hwn, by rw [hLw, c2]; congr 1; omega, g7, by simp; omega, l7, a7⟩
  · have dd : decide (lw = (k : Int) - 1) = false := by simpa using c2
    simp only [kS1, bLookup, bMapSet, wantA, isCall, stepOp, evalO, evalL, evalP, evalM, putDst, flat, kA, kB, Nat.reduceLT, ↓reduceIte, kC, Nat.reduceEqDiff, aBuiltin, abinG, guardFree, abin, aInt, aUn, aNilCheck, retQ, retQ1, aresults, aresultL, aresult, mkF, undefV, reduceCtorEq, kD, kE, kF, kG, kH, kI, kJ, kK, aExtract, calleeOf, kD1, Nat.reduceBEq, HoldsAll, kL, kM, kN, kO, adT w hwn, ldw, adT v hv, ldv, awk, dd]
    simp only [kS1, bLookup, bMapSet, wantA, isCall, stepOp, evalO, evalL, evalP, evalM, putDst, flat, kA, kB, Nat.reduceLT, ↓reduceIte, kC, Nat.reduceEqDiff, aBuiltin, abinG, guardFree, abin, aInt, aUn, aNilCheck, retQ, retQ1, aresults, aresultL, aresult, mkF, undefV, reduceCtorEq, kD, kE, kF, kG, kH, kI, kJ, kK, aExtract, calleeOf, awrap_succ j (by omega)]
    refine loop_again (row.length - (j + 1)) [(2, .int .i64 b), (8, lv), (10, tv), (11, wv), (12, .int .i64 v), (43, uv), (44, .int .i64 row.length), (45, .int .i64 (j + 1 : Nat))] (by omega) (by simp only [hasAll, kS1, bLookup, bMapSet, wantA, isCall, stepOp, evalO, evalL, evalP, evalM, putDst, flat, kA, kB, Nat.reduceLT, ↓reduceIte, kC, Nat.reduceEqDiff, aBuiltin, abinG, guardFree, abin, aInt, aUn, aNilCheck, retQ, retQ1, aresults, aresultL, aresult, mkF, undefV, reduceCtorEq, kD, kE, kF, kG, kH, kI, kJ, kK, aExtract, calleeOf]; simp) ⟨j + 1, rfl, hlj, rfl, rfl, fun i y hi hy => ?_⟩
    by_cases e : i = j
    · subst e; rw [hrj] at hy; injection hy with hy
      obtain rfl : w = y := by omega
      rw [hLw]; simpa using c2
    · exact hno i y (by omega) hy
end Go.Fw
