/- A text of the proof. -/
import Derived.Test.YtnaahaldkpdjlaaFwLZ1
set_option linter.unusedSimpArgs false
set_option linter.unusedVariables false
namespace Go.Fw
open Go.Proofs
attribute [local irreducible] KO4 KO3 KO2 KO1 KO KN KX KE VK KCond KDraw KCall KLoop
set_option maxHeartbeats 8000000
set_option maxRecDepth 10000
theorem mkCap (h : AHeap) (n : Nat) (hn : n ≤ 100000) : aMakeSlice Try.prog h 38 (.int .i64 0) (.int .i64 n) = some (.slice (some ⟨h.next, 0, none⟩) 0 n, h.alloc (.cells (List.replicate n (.int .i64 0)))) := by
 have hz : azero Try.prog 3 = some (.int .i64 0) := by kernel_rfl
 have hb : Try.prog.bytesOf 3 = 8 := by kernel_rfl
 have b1 : (8 : Int) * n ≤ 140737488355328 := by omega
 have b2 : (n : Int) ≤ 140737488355328 := by omega
 simp [aMakeSlice, Try.underlying38, Try.underlying3, hz, hb, ts3, Value.cells, flat, b1, b2, aNewRow, zrow_one, Value.oneCell']
theorem GU.cap {h : AHeap} {id n : Nat} (ho : h.own id = some (.cells (List.replicate n (.int .i64 0)))) (hn : n ≤ 100000) : GU h (.slice (some ⟨id, 0, none⟩) 0 n) [] :=
 ⟨by simp [I64], .inr ⟨id, _, n, rfl, ho, by simp [I64], .inr ⟨Nat.zero_le _, by omega, by simp⟩⟩⟩
theorem amin_i (a b : Int) : aMin (.int .i64 a) [.int .i64 b] = some (.int .i64 (min a b)) := by
 have : (if b < a then b else a) = min a b := by split <;> omega
 simp only [aMin, if_true, this]
theorem bL (a b c : Int) : aBuild Try.prog 93 [(0, .int .i64 a), (1, .int .i64 b), (2, .int .i64 c)] = some (valL (a, b, c)) := by kernel_rfl
theorem edgeB_length (ls : List Lw) (e : Pr) : (edgeB ls e).length = ls.length := by simp only [edgeB]; split <;> simp
theorem edges_length : ∀ (es : List Pr) (ls : List Lw), (es.foldl edgeB ls).length = ls.length
 | [], ls => rfl
 | e :: es, ls => by rw [List.foldl_cons, edges_length es, edgeB_length]
theorem set_keep (ls : List Lw) (a : Nat) (x : Int) (v : Nat) : (getL (ls.set a ((getL ls a).1, (getL ls a).2.1, x)) v).1 = (getL ls v).1 ∧ (getL (ls.set a ((getL ls a).1, (getL ls a).2.1, x)) v).2.1 = (getL ls v).2.1 := by
 rw [getL_set]; split
 ·rename_i h; rw [h.1]; exact ⟨rfl, rfl⟩
 ·exact ⟨rfl, rfl⟩
theorem edgeB_keep (ls : List Lw) (e : Pr) (v : Nat) : (getL (edgeB ls e) v).1 = (getL ls v).1 ∧ (getL (edgeB ls e) v).2.1 = (getL ls v).2.1 := by
 simp only [edgeB]
 split
 ·exact ⟨rfl, rfl⟩
 ·obtain ⟨a1, a2⟩ := set_keep ls e.1.toNat (min (getL ls e.1.toNat).2.2 (getL ls e.2.toNat).1) v
  obtain ⟨b1, b2⟩ := set_keep (ls.set e.1.toNat ((getL ls e.1.toNat).1, (getL ls e.1.toNat).2.1, min (getL ls e.1.toNat).2.2 (getL ls e.2.toNat).1)) e.2.toNat (min (getL (ls.set e.1.toNat ((getL ls e.1.toNat).1, (getL ls e.1.toNat).2.1, min (getL ls e.1.toNat).2.2 (getL ls e.2.toNat).1)) e.2.toNat).2.2 (getL (ls.set e.1.toNat ((getL ls e.1.toNat).1, (getL ls e.1.toNat).2.1, min (getL ls e.1.toNat).2.2 (getL ls e.2.toNat).1)) e.1.toNat).1) v
  exact ⟨b1.trans a1, b2.trans a2⟩
theorem edges_keep : ∀ (es : List Pr) (ls : List Lw) (v : Nat), (getL (es.foldl edgeB ls) v).1 = (getL ls v).1 ∧ (getL (es.foldl edgeB ls) v).2.1 = (getL ls v).2.1
 | [], ls, v => ⟨rfl, rfl⟩
 | e :: es, ls, v => by
  rw [List.foldl_cons]
  obtain ⟨a1, a2⟩ := edges_keep es (edgeB ls e) v
  obtain ⟨b1, b2⟩ := edgeB_keep ls e v
  exact ⟨a1.trans b1, a2.trans b2⟩
theorem upC_keep (ls : List Lw) (x v : Nat) : (getL (upC ls x) v).1 = (getL ls v).1 ∧ (getL (upC ls x) v).2.1 = (getL ls v).2.1 := by
 simp only [upC]
 split
 ·exact set_keep _ _ _ _
 ·exact ⟨rfl, rfl⟩
theorem ups_keep : ∀ (o : List Nat) (ls : List Lw) (v : Nat), (getL (o.foldl upC ls) v).1 = (getL ls v).1 ∧ (getL (o.foldl upC ls) v).2.1 = (getL ls v).2.1
 | [], ls, v => ⟨rfl, rfl⟩
 | e :: es, ls, v => by
  rw [List.foldl_cons]
  obtain ⟨a1, a2⟩ := ups_keep es (upC ls e) v
  obtain ⟨b1, b2⟩ := upC_keep ls e v
  exact ⟨a1.trans b1, a2.trans b2⟩
theorem upC_length (ls : List Lw) (v : Nat) : (upC ls v).length = ls.length := by simp only [upC]; split <;> simp
theorem ups_length : ∀ (o : List Nat) (ls : List Lw), (o.foldl upC ls).length = ls.length
 | [], ls => rfl
 | e :: es, ls => by rw [List.foldl_cons, ups_length es, upC_length]
theorem alloc27 (h : AHeap) : aAlloc Try.prog h 89 = some (.pointer (some ⟨h.next, 0, none⟩), h.alloc (.cells [.slice none 0 0])) := rfl
structure SeI (h1 hq : AHeap) (LV L n : Nat) (ov : Value) (ls : List Lw) (o : List Nat) : Prop where
 oV : hq.own LV = some (.cells [.slice (some ⟨L, 0, none⟩) n n])
 oL : hq.own L = some (.cells (flatL ls))
 go : GU hq ov (nat64 o)
 nb : blk ov ≠ some LV ∧ blk ov ≠ some L
 le : Le h1 hq
 nn : h1.own LV = none ∧ h1.own L = none ∧ LV ≠ L
 ao : Apart h1 ov
theorem SeI.put {h1 hq : AHeap} {LV L n : Nat} {ov : Value} {ls : List Lw} {o : List Nat} (S : SeI h1 hq LV L n ov ls o) (ls' : List Lw) : SeI h1 (hq.put L (.cells (flatL ls'))) LV L n ov ls' o :=
 ⟨by rw [AHeap.own_put_ne _ _ _ _ S.nn.2.2]; exact S.oV, AHeap.own_put_eq _ _ _, GT.put S.go _ S.nb.2, S.nb, S.le.put _ S.nn.2.1, S.nn, S.ao⟩
theorem SeI.kept {h1 hq hr : AHeap} {LV L n : Nat} {ov : Value} {ls : List Lw} {o : List Nat} (S : SeI h1 hq LV L n ov ls o) (e : Le hq hr) : SeI h1 hr LV L n ov ls o :=
 ⟨e.own _ _ S.oV, e.own _ _ S.oL, S.go.le e, S.nb, S.le.trans e, S.nn, S.ao⟩
theorem putA_append (up : List Int) : ∀ (a b : List Nat) (st : List Lw × List Nat), putA up (a ++ b) st = putA up b (putA up a st)
 | [], b, st => rfl
 | x :: a, b, (ls, o) => by rw [List.cons_append, putA, putA, putA_append up a b]
theorem SeI.push {h1 hq : AHeap} {LV L n : Nat} {ov : Value} {ls : List Lw} {o : List Nat} (S : SeI h1 hq LV L n ov ls o) (hwf : WF hq) (x : Nat) (hn : o.length ≤ 1000) :
  ∃ v' h4 h5, aBuildSlice Try.prog hq 38 1 [(0, .int .i64 (x : Int))] = some (.slice (some ⟨hq.next, 0, none⟩) 1 1, h4) ∧ aAppend Try.prog h4 38 38 ov (.slice (some ⟨hq.next, 0, none⟩) 1 1) = some (v', h5) ∧ SeI h1 h5 LV L n v' ls (o ++ [x]) ∧ WF h5 ∧
   (∀ b o, hq.own b = some o → blk ov ≠ some b → h5.own b = some o ∧ blk v' ≠ some b) := by
 obtain ⟨v', h4, h5, e4, e5, g5, w5, l4, hf, hk⟩ := S.go.push hwf (x : Int) (by rw [nat64_length]; omega)
 obtain ⟨k1, k2⟩ := hk _ _ S.oV S.nb.1
 obtain ⟨k3, k4⟩ := hk _ _ S.oL S.nb.2
 obtain ⟨f1, f2⟩ := hf h1 S.le S.ao
 exact ⟨v', h4, h5, e4, e5, ⟨k1, k3, by simpa [nat64] using g5, ⟨k2, k4⟩, f1, S.nn, f2⟩, w5, hk⟩
theorem search_any (W0 : Base) (v : Value) (G : GM) (h : AHeap) (hg : GR h v G) :
  AC Try.prog W0 59 [v] h fun x h' => Le h h' ∧ ((¬ RightG G ∧ x = .tuple #[.slice none 0 0, .slice none 0 0, .int .i64 20]) ∨
   (RightG G ∧ ∃ L ov, x = .tuple #[.slice (some ⟨L, 0, none⟩) G.n.toNat G.n.toNat, ov, .int .i64 0] ∧ h'.own L = some (.cells (flatL (lowM G.n.toNat G.es).1)) ∧ h.own L = none ∧ GU h' ov (nat64 (lowM G.n.toNat G.es).2) ∧ blk ov ≠ some L ∧ Apart h ov)) := by
 have hg0 := hg
 obtain ⟨gn, es⟩ := G
 obtain ⟨ev, rfl, hp⟩ := hg.open
 refine AC.vc (fn := Try.f59) (c := _) ⟨Try.func59, rfl, by decide⟩ Try.ntmps59 Try.results59 (by simp) fun hwf => ?_
 simp only [argFrame, argFrom, Nat.reduceAdd]
 obtain ⟨h1, b1, le1, wf1, -, lA⟩ := boxG (n := gn) hwf hp
 generalize h.next = B at *
 have lA1 := lA h1 (Le.refl _)
 simp only [kS1, bLookup, bMapSet, wantA, isCall, stepOp, evalO, evalL, evalP, evalM, putDst, flat, kA, kB, Nat.reduceLT, ↓reduceIte, kC, Nat.reduceEqDiff, aBuiltin, abinG, guardFree, abin, aInt, aUn, aNilCheck, retQ, retQ1, aresults, aresultL, aresult, mkF, undefV, reduceCtorEq, kD, kE, kF, kG, kH, kI, kJ, kK, aExtract, calleeOf, b1, lA1.1]
 refine KCall.intro (by simp only [kS1, bLookup, bMapSet, wantA, isCall, stepOp, evalO, evalL, evalP, evalM, putDst, flat, kA, kB, Nat.reduceLT, ↓reduceIte, kC, Nat.reduceEqDiff, aBuiltin, abinG, guardFree, abin, aInt, aUn, aNilCheck, retQ, retQ1, aresults, aresultL, aresult, mkF, undefV, reduceCtorEq, kD, kE, kF, kG, kH, kI, kJ, kK, aExtract, calleeOf] <;> rfl) ⟨Try.func57, rfl, by decide⟩ (Right_any W0 _ _ h1 (hg0.le le1)) ?_
 rintro x h2 wf2 ⟨⟨bb, rfl, hbb⟩, le2⟩
 cases bb with
 | false =>
  simp only [kS1, bLookup, bMapSet, wantA, isCall, stepOp, evalO, evalL, evalP, evalM, putDst, flat, kA, kB, Nat.reduceLT, ↓reduceIte, kC, Nat.reduceEqDiff, aBuiltin, abinG, guardFree, abin, aInt, aUn, aNilCheck, retQ, retQ1, aresults, aresultL, aresult, mkF, undefV, reduceCtorEq, kD, kE, kF, kG, kH, kI, kJ, kK, aExtract, calleeOf]
  exact ⟨le1.trans le2, .inl ⟨(fun hr => by cases hbb.2 hr), trivial⟩⟩
 | true =>
 have hr := hbb.1 rfl
 have h0 : 0 ≤ gn := hr.n0
 obtain ⟨n, rfl⟩ := Int.eq_ofNat_of_zero_le h0
 have h200 : (n : Int) ≤ 200 := hr.n1
 have h594 : es.length ≤ 594 := hr.len
 have hR := hr.inR
 simp only [Int.toNat_natCast]
 have lA2 := lA h2 le2
 obtain ⟨h3, e3, l3, w3, o3⟩ := alloc_f wf2 (flatL (List.replicate n (0, 0, 0)))
 have mk := mkL h2 n (by omega)
 rw [e3] at mk
 have al := alloc27 h3
 obtain ⟨h4, e4, l4, w4, o4⟩ := alloc_f w3 [.slice none 0 0]
 rw [e4] at al
 have st := aStore1 (P := Try.prog) (t := 89) (x := .slice (some ⟨h2.next, 0, none⟩) n n) Try.underlying89 (by kernel_rfl) o4 (off := 0) (by simp) rfl rfl
 have nV : h3.own h3.next = none := (Le.refl h3).next w3 (Nat.le_refl _)
 have nL : h2.own h2.next = none := (Le.refl h2).next wf2 (Nat.le_refl _)
 have w5 := w4.put (.cells ([Value.slice none 0 0].set 0 (.slice (some ⟨h2.next, 0, none⟩) n n))) (w4.lt o4)
 have l5 := (l3.trans l4).put (.cells ([Value.slice none 0 0].set 0 (.slice (some ⟨h2.next, 0, none⟩) n n))) (l3.none nV)
 have oV5 := AHeap.own_put_eq h4 h3.next (.cells ([Value.slice none 0 0].set 0 (.slice (some ⟨h2.next, 0, none⟩) n n)))
 have ne : h3.next ≠ h2.next := fun e => by rw [e, o3] at nV; cases nV
 have oL5 : (h4.put h3.next (.cells ([Value.slice none 0 0].set 0 (.slice (some ⟨h2.next, 0, none⟩) n n)))).own h2.next = some (.cells (flatL (List.replicate n (0, 0, 0)))) := by
  rw [AHeap.own_put_ne _ _ _ _ (Ne.symm ne)]; exact l4.own _ _ o3
 have nV2 := l3.none nV
 simp only [kS1, bLookup, bMapSet, wantA, isCall, stepOp, evalO, evalL, evalP, evalM, putDst, flat, kA, kB, Nat.reduceLT, ↓reduceIte, kC, Nat.reduceEqDiff, aBuiltin, abinG, guardFree, abin, aInt, aUn, aNilCheck, retQ, retQ1, aresults, aresultL, aresult, mkF, undefV, reduceCtorEq, kD, kE, kF, kG, kH, kI, kJ, kK, aExtract, calleeOf, fg0, aadd, Nat.zero_add, lA2.2.1, mk, al, st]
 clear st al mk e4 o4 e3 o3
 generalize h4.put h3.next (.cells ([Value.slice none 0 0].set 0 (.slice (some ⟨h2.next, 0, none⟩) n n))) = h5 at *
 generalize h3.next = LV at *
 generalize h2.next = L at *
 clear l3 w3 nV w4 l4
 clear h3 h4
 simp only [List.set_cons_zero] at oV5
 have lA5 := lA h5 (le2.trans l5)
 obtain ⟨h6, e6, l6, w6, o6⟩ := alloc_f w5 (List.replicate n (.int .i64 0))
 have mk := mkCap h5 n (by omega)
 rw [e6] at mk
 have lA6 := lA h6 ((le2.trans l5).trans l6)
 have nO : h5.own h5.next = none := (Le.refl h5).next w5 (Nat.le_refl _)
 simp only [kS1, bLookup, bMapSet, wantA, isCall, stepOp, evalO, evalL, evalP, evalM, putDst, flat, kA, kB, Nat.reduceLT, ↓reduceIte, kC, Nat.reduceEqDiff, aBuiltin, abinG, guardFree, abin, aInt, aUn, aNilCheck, retQ, retQ1, aresults, aresultL, aresult, mkF, undefV, reduceCtorEq, kD, kE, kF, kG, kH, kI, kJ, kK, aExtract, calleeOf, fg0, aadd, Nat.zero_add, lA5.2.1, mk, lA6.2.1]
 have S6 : SeI h2 h6 LV L n (.slice (some ⟨h5.next, 0, none⟩) 0 n) (metM n es 0).1 (metM n es 0).2 :=
  ⟨l6.own _ _ oV5, l6.own _ _ oL5, GU.cap o6 (by omega), ⟨fun e => (by injection e with e; rw [e, oV5] at nO; cases nO), fun e => (by injection e with e; rw [e, oL5] at nO; cases nO)⟩, l5.trans l6, ⟨nV2, nL, ne⟩, fun b hb => by injection hb with hb; subst hb; exact l5.none nO⟩
 generalize Value.slice (some ⟨h5.next, 0, none⟩) 0 n = ov0 at *
 clear nO lA6 mk o6 l6 e6 lA5 l5 oL5 oV5 w5
 refine KLoop.intro (fun k fr hq => ∃ (i : Nat) (ov : Value), k = n - i ∧ i ≤ n ∧ fr = mkF [(1, .pointer (some ⟨B, 0, none⟩)), (5, .pointer (some ⟨LV, 0, none⟩)), (6, ov), (30, .int .i64 n), (31, .int .i64 i)] ∧ SeI h2 hq LV L n ov (metM n es i).1 (metM n es i).2)
  n [(1, .pointer (some ⟨B, 0, none⟩)), (5, .pointer (some ⟨LV, 0, none⟩)), (6, ov0), (30, .int .i64 n), (31, .int .i64 (0 : Nat))] (by simp only [hasAll, kS1, bLookup, bMapSet, wantA, isCall, stepOp, evalO, evalL, evalP, evalM, putDst, flat, kA, kB, Nat.reduceLT, ↓reduceIte, kC, Nat.reduceEqDiff, aBuiltin, abinG, guardFree, abin, aInt, aUn, aNilCheck, retQ, retQ1, aresults, aresultL, aresult, mkF, undefV, reduceCtorEq, kD, kE, kF, kG, kH, kI, kJ, kK, aExtract, calleeOf]; simp) ⟨0, ov0, rfl, Nat.zero_le _, rfl, S6⟩ ?_
 clear S6 ov0 w6
 clear h6 h5
 rintro k fr hq hwq ⟨i, ov, rfl, hi, rfl, S⟩
 obtain ⟨C, hall⟩ := metM_C hR i hi
 have ldV := fun (g : AHeap) (o : g.own LV = some (.cells [.slice (some ⟨L, 0, none⟩) n n])) => (aload_one (P := Try.prog) Try.underlying89 rfl o (off := 0) : aload Try.prog g 89 ⟨LV, 0, none⟩ = _)
 simp only [List.getElem?_cons_zero] at ldV
 simp only [kS1, bLookup, bMapSet, wantA, isCall, stepOp, evalO, evalL, evalP, evalM, putDst, flat, kA, kB, Nat.reduceLT, ↓reduceIte, kC, Nat.reduceEqDiff, aBuiltin, abinG, guardFree, abin, aInt, aUn, aNilCheck, retQ, retQ1, aresults, aresultL, aresult, mkF, undefV, reduceCtorEq, kD, kE, kF, kG, kH, kI, kJ, kK, aExtract, calleeOf]
 refine KCond.intro (fun ht => ?_) (fun hf => ?_)
 ·have hlt : i < n := lt_t ht
  clear ht
  have hn0 := lNum S.oL (getL_of (ls := (metM n es i).1) (v := i) (by rw [C.len]; exact hlt))
  simp only [kS1, bLookup, bMapSet, wantA, isCall, stepOp, evalO, evalL, evalP, evalM, putDst, flat, kA, kB, Nat.reduceLT, ↓reduceIte, kC, Nat.reduceEqDiff, aBuiltin, abinG, guardFree, abin, aInt, aUn, aNilCheck, retQ, retQ1, aresults, aresultL, aresult, mkF, undefV, reduceCtorEq, kD, kE, kF, kG, kH, kI, kJ, kK, aExtract, calleeOf, ldV hq S.oV, lAddr i hlt, fl0, aadd, Nat.add_zero, hn0, bne]
  by_cases c : (getL (metM n es i).1 i).1 = 0
  ·have lAq := lA hq (le2.trans S.le)
   simp only [kS1, bLookup, bMapSet, wantA, isCall, stepOp, evalO, evalL, evalP, evalM, putDst, flat, kA, kB, Nat.reduceLT, ↓reduceIte, kC, Nat.reduceEqDiff, aBuiltin, abinG, guardFree, abin, aInt, aUn, aNilCheck, retQ, retQ1, aresults, aresultL, aresult, mkF, undefV, reduceCtorEq, kD, kE, kF, kG, kH, kI, kJ, kK, aExtract, calleeOf, c, lAq.1]
   refine KCall.intro (by simp only [kS1, bLookup, bMapSet, wantA, isCall, stepOp, evalO, evalL, evalP, evalM, putDst, flat, kA, kB, Nat.reduceLT, ↓reduceIte, kC, Nat.reduceEqDiff, aBuiltin, abinG, guardFree, abin, aInt, aUn, aNilCheck, retQ, retQ1, aresults, aresultL, aresult, mkF, undefV, reduceCtorEq, kD, kE, kF, kG, kH, kI, kJ, kK, aExtract, calleeOf] <;> rfl) ⟨Try.func93, rfl, by decide⟩ (Walk_any W0 _ n i es hq (hg0.le ((le1.trans le2).trans S.le)) hr hlt) ?_
   rintro x h7 w7 ⟨wv, U, P, up, rfl, gw, ⟨oU, nbU, nU⟩, D, l7, aw⟩
   have S7 := S.kept l7
   obtain ⟨p1, p2⟩ := fromA_pre hR C hlt c
   have hupR := D.dfs.upR hR hlt
   have hul := D.dfs.len.2
   have hfrom : metM n es (i + 1) = putA up P (metM n es i) := by
    obtain ⟨e1, e2⟩ := D.eq hR hlt
    rw [metM, fromA, if_pos c, ← e1, ← e2]
   obtain ⟨e1, -⟩ := D.eq hR hlt
   rw [← e1] at p1 p2
   clear e1 D
   have hPl : P.length ≤ n := by
    have := p1.length_le_of_subset (l₂ := List.range n) fun x hx => List.mem_range.2 (p2 x hx).1
    simpa using this
   have neU : U ≠ L ∧ U ≠ LV := ⟨fun e => (by rw [e, S.oL] at nU; cases nU), fun e => (by rw [e, S.oV] at nU; cases nU)⟩
   have wvL : blk wv ≠ some L ∧ blk wv ≠ some LV := ⟨fun e => (by have := aw _ e; rw [S.oL] at this; cases this), fun e => (by have := aw _ e; rw [S.oV] at this; cases this)⟩
   have ovU : blk ov ≠ some U := fun e => by
    obtain ⟨c, hc⟩ := GT.blk_own S.go e
    rw [nU] at hc; cases hc
   have ovw : ∀ b, blk wv = some b → blk ov ≠ some b := fun b hb e => by
    obtain ⟨c, hc⟩ := GT.blk_own S.go e
    rw [aw b hb] at hc; cases hc
   have lo := fun g => gw.rl.len (P := Try.prog) Try.underlying38 g
   rw [nat64_length] at lo
   simp only [kS1, bLookup, bMapSet, wantA, isCall, stepOp, evalO, evalL, evalP, evalM, putDst, flat, kA, kB, Nat.reduceLT, ↓reduceIte, kC, Nat.reduceEqDiff, aBuiltin, abinG, guardFree, abin, aInt, aUn, aNilCheck, retQ, retQ1, aresults, aresultL, aresult, mkF, undefV, reduceCtorEq, kD, kE, kF, kG, kH, kI, kJ, kK, aExtract, calleeOf, bne, lo]
   refine KLoop.intro (fun k fr hh => ∃ (j : Nat) (ov' : Value), k = P.length - j ∧ j ≤ P.length ∧ fr = mkF [(1, .pointer (some ⟨B, 0, none⟩)), (5, .pointer (some ⟨LV, 0, none⟩)), (6, ov'), (9, .slice (some ⟨U, 0, none⟩) n n), (30, .int .i64 n), (31, .int .i64 i), (50, wv), (51, .int .i64 P.length), (52, .int .i64 j)] ∧
     SeI h2 hh LV L n ov' (putA up (P.take j) (metM n es i)).1 (putA up (P.take j) (metM n es i)).2 ∧ GI hh wv (nat64 P) ∧ hh.own U = some (.cells (I64 up)) ∧ blk ov' ≠ some U ∧ (∀ b, blk wv = some b → blk ov' ≠ some b))
    P.length [(1, .pointer (some ⟨B, 0, none⟩)), (5, .pointer (some ⟨LV, 0, none⟩)), (6, ov), (9, .slice (some ⟨U, 0, none⟩) n n), (30, .int .i64 n), (31, .int .i64 i), (50, wv), (51, .int .i64 P.length), (52, .int .i64 (0 : Nat))] (by simp only [hasAll, kS1, bLookup, bMapSet, wantA, isCall, stepOp, evalO, evalL, evalP, evalM, putDst, flat, kA, kB, Nat.reduceLT, ↓reduceIte, kC, Nat.reduceEqDiff, aBuiltin, abinG, guardFree, abin, aInt, aUn, aNilCheck, retQ, retQ1, aresults, aresultL, aresult, mkF, undefV, reduceCtorEq, kD, kE, kF, kG, kH, kI, kJ, kK, aExtract, calleeOf]; simp)
    ⟨0, ov, rfl, Nat.zero_le _, rfl, S7, gw, oU, ovU, ovw⟩ ?_
   clear S7 oU gw l7 w7 lo ovU ovw aw nU S lAq
   clear h7
   rintro k fr hh hwh ⟨j, ov', rfl, hj, rfl, S, gw, oU, ovU, ovw⟩
   obtain ⟨LI, -⟩ := putA_I hupR (P.take j) C.toLowI (p1.sublist (List.take_sublist _ _)) fun v hv => p2 v (List.mem_of_mem_take hv)
   have hol : (putA up (P.take j) (metM n es i)).2.length ≤ n := LI.olen
   have hll : (putA up (P.take j) (metM n es i)).1.length = n := LI.len
   simp only [kS1, bLookup, bMapSet, wantA, isCall, stepOp, evalO, evalL, evalP, evalM, putDst, flat, kA, kB, Nat.reduceLT, ↓reduceIte, kC, Nat.reduceEqDiff, aBuiltin, abinG, guardFree, abin, aInt, aUn, aNilCheck, retQ, retQ1, aresults, aresultL, aresult, mkF, undefV, reduceCtorEq, kD, kE, kF, kG, kH, kI, kJ, kK, aExtract, calleeOf]
   refine KCond.intro (fun ht => ?_) (fun hf => ?_)
   ·have hlj : j < P.length := lt_t ht
    clear ht
    have hoj := getElem?_of hlj
    have ad := gw.rl.addr (P := Try.prog) Try.underlying38 Try.underlying3 (by kernel_rfl) (k := .i64) j (by rw [nat64_length]; exact hlj)
    have ld := gw.rl.loadI (P := Try.prog) Try.underlying3 rfl j (by rw [nat64_length]; exact hlj)
    rw [nat64_get hlj] at ld
    have htk : P.take (j + 1) = P.take j ++ [P[j]] := List.take_succ_eq_append_getElem hlj
    generalize P[j] = w at hoj ld htk
    have hwn : w < n := (p2 w (List.mem_of_getElem? hoj)).1
    obtain ⟨v', h4, h5, e4, e5, S5, w5, k5⟩ := S.push hwh w (by omega)
    obtain ⟨oU5, ovU5⟩ := k5 U _ oU ovU
    have gw5 : GI h5 wv (nat64 P) := GS.kept gw fun b o hb ho => (k5 b o ho (ovw b hb)).1
    have ovw5 : ∀ b, blk wv = some b → blk v' ≠ some b := fun b hb => by
     have := GS.blk_own gw hb
     cases ho : hh.own b with
     | none => exact absurd ho this
     | some o => exact (k5 b o ho (ovw b hb)).2
    have ln5 := fun g => S5.go.rl.len (P := Try.prog) Try.underlying38 g
    simp only [nat64_length, List.length_append, List.length_singleton] at ln5
    have adU := fun k => aIdx (P := Try.prog) (a := ⟨U, 0, none⟩) (n := n) (cap := n) (k := k) Try.underlying38 Try.underlying3 (by kernel_rfl) w hwn
    have ldU : aload Try.prog h5 3 ⟨U, w, none⟩ = some (.int .i64 (up.getD w 0)) := by
     rw [aload_one Try.underlying3 rfl oU5]
     simp [I64, getElem?_of (show w < up.length by omega), getD_of (show w < up.length by omega)]
    have st := sAll S5.oL (v := w) (by rw [hll]; exact hwn) (((((putA up (P.take j) (metM n es i)).2.length + 1 : Nat) : Int), up.getD w 0, (((putA up (P.take j) (metM n es i)).2.length + 1 : Nat) : Int)))
    simp only [kS1, bLookup, bMapSet, wantA, isCall, stepOp, evalO, evalL, evalP, evalM, putDst, flat, kA, kB, Nat.reduceLT, ↓reduceIte, kC, Nat.reduceEqDiff, aBuiltin, abinG, guardFree, abin, aInt, aUn, aNilCheck, retQ, retQ1, aresults, aresultL, aresult, mkF, undefV, reduceCtorEq, kD, kE, kF, kG, kH, kI, kJ, kK, aExtract, calleeOf, ad, ld, e4, e5]
    refine KDraw.intro mixed (.fl 0 (.fl 1 (.fl 2 (.fl 3 (.fl 4 (.fl 5 (.fl 6 (.fl 7 (.fl 8 (.fl 9 (.fl 10 (.fl 11 (.ch 12 [0, 1, 2, 3, 4, 5, 6, 7, 8, 9, 10, 11] (.done) .no))))))))))))) (by kernel_rfl) ?_
    simp only [kS1, bLookup, bMapSet, wantA, isCall, stepOp, evalO, evalL, evalP, evalM, putDst, flat, kA, kB, Nat.reduceLT, ↓reduceIte, kC, Nat.reduceEqDiff, aBuiltin, abinG, guardFree, abin, aInt, aUn, aNilCheck, retQ, retQ1, aresults, aresultL, aresult, mkF, undefV, reduceCtorEq, kD, kE, kF, kG, kH, kI, kJ, kK, aExtract, calleeOf, kD1, Nat.reduceBEq, HoldsAll, kL, kM, kN, kO, ldV h5 S5.oV, ln5, adU, ldU, lAddr w hwn, aadd, Nat.zero_add, bL, st, awrap_succ j (by omega)]
    have hstep : putA up (P.take (j + 1)) (metM n es i) = ((putA up (P.take j) (metM n es i)).1.set w (((((putA up (P.take j) (metM n es i)).2.length + 1 : Nat) : Int), up.getD w 0, (((putA up (P.take j) (metM n es i)).2.length + 1 : Nat) : Int))), (putA up (P.take j) (metM n es i)).2 ++ [w]) := by
     rw [htk, putA_append]; rfl
    have S6 := S5.put ((putA up (P.take j) (metM n es i)).1.set w (((((putA up (P.take j) (metM n es i)).2.length + 1 : Nat) : Int), up.getD w 0, (((putA up (P.take j) (metM n es i)).2.length + 1 : Nat) : Int))))
    refine loop_again (P.length - (j + 1)) [(1, .pointer (some ⟨B, 0, none⟩)), (5, .pointer (some ⟨LV, 0, none⟩)), (6, v'), (9, .slice (some ⟨U, 0, none⟩) n n), (30, .int .i64 n), (31, .int .i64 i), (50, wv), (51, .int .i64 P.length), (52, .int .i64 (j + 1 : Nat))] (by omega) (by simp only [hasAll, kS1, bLookup, bMapSet, wantA, isCall, stepOp, evalO, evalL, evalP, evalM, putDst, flat, kA, kB, Nat.reduceLT, ↓reduceIte, kC, Nat.reduceEqDiff, aBuiltin, abinG, guardFree, abin, aInt, aUn, aNilCheck, retQ, retQ1, aresults, aresultL, aresult, mkF, undefV, reduceCtorEq, kD, kE, kF, kG, kH, kI, kJ, kK, aExtract, calleeOf]; simp)
     ⟨j + 1, v', rfl, hlj, rfl, by rw [hstep]; exact S6, GS.put gw5 _ wvL.1, by rw [AHeap.own_put_ne _ _ _ _ neU.1]; exact oU5, ovU5, ovw5⟩
   ·have hge : P.length ≤ j := lt_f hf
    rw [List.take_of_length_le hge, ← hfrom] at S
    simp only [kS1, bLookup, bMapSet, wantA, isCall, stepOp, evalO, evalL, evalP, evalM, putDst, flat, kA, kB, Nat.reduceLT, ↓reduceIte, kC, Nat.reduceEqDiff, aBuiltin, abinG, guardFree, abin, aInt, aUn, aNilCheck, retQ, retQ1, aresults, aresultL, aresult, mkF, undefV, reduceCtorEq, kD, kE, kF, kG, kH, kI, kJ, kK, aExtract, calleeOf, awrap_succ i (by omega)]
    exact loop_again (n - (i + 1)) [(1, .pointer (some ⟨B, 0, none⟩)), (5, .pointer (some ⟨LV, 0, none⟩)), (6, ov'), (30, .int .i64 n), (31, .int .i64 (i + 1 : Nat))] (by omega) (by simp only [hasAll, kS1, bLookup, bMapSet, wantA, isCall, stepOp, evalO, evalL, evalP, evalM, putDst, flat, kA, kB, Nat.reduceLT, ↓reduceIte, kC, Nat.reduceEqDiff, aBuiltin, abinG, guardFree, abin, aInt, aUn, aNilCheck, retQ, retQ1, aresults, aresultL, aresult, mkF, undefV, reduceCtorEq, kD, kE, kF, kG, kH, kI, kJ, kK, aExtract, calleeOf]; simp) ⟨i + 1, ov', rfl, hlt, rfl, S⟩
  ·have hfrom : metM n es (i + 1) = metM n es i := by rw [metM, fromA, if_neg c]
   simp only [kS1, bLookup, bMapSet, wantA, isCall, stepOp, evalO, evalL, evalP, evalM, putDst, flat, kA, kB, Nat.reduceLT, ↓reduceIte, kC, Nat.reduceEqDiff, aBuiltin, abinG, guardFree, abin, aInt, aUn, aNilCheck, retQ, retQ1, aresults, aresultL, aresult, mkF, undefV, reduceCtorEq, kD, kE, kF, kG, kH, kI, kJ, kK, aExtract, calleeOf, c, awrap_succ i (by omega)]
   exact loop_again (n - (i + 1)) [(1, .pointer (some ⟨B, 0, none⟩)), (5, .pointer (some ⟨LV, 0, none⟩)), (6, ov), (30, .int .i64 n), (31, .int .i64 (i + 1 : Nat))] (by omega) (by simp only [hasAll, kS1, bLookup, bMapSet, wantA, isCall, stepOp, evalO, evalL, evalP, evalM, putDst, flat, kA, kB, Nat.reduceLT, ↓reduceIte, kC, Nat.reduceEqDiff, aBuiltin, abinG, guardFree, abin, aInt, aUn, aNilCheck, retQ, retQ1, aresults, aresultL, aresult, mkF, undefV, reduceCtorEq, kD, kE, kF, kG, kH, kI, kJ, kK, aExtract, calleeOf]; simp) ⟨i + 1, ov, rfl, hlt, rfl, by rw [hfrom]; exact S⟩
 have hge : n ≤ i := lt_f hf
 obtain rfl : i = n := by omega
 clear hf hge hi hall
 have lAq := lA hq (le2.trans S.le)
 have hp2 := hp.le (le1.trans le2)
 simp only [kS1, bLookup, bMapSet, wantA, isCall, stepOp, evalO, evalL, evalP, evalM, putDst, flat, kA, kB, Nat.reduceLT, ↓reduceIte, kC, Nat.reduceEqDiff, aBuiltin, abinG, guardFree, abin, aInt, aUn, aNilCheck, retQ, retQ1, aresults, aresultL, aresult, mkF, undefV, reduceCtorEq, kD, kE, kF, kG, kH, kI, kJ, kK, aExtract, calleeOf, fg1, aadd, Nat.zero_add, lAq.2.2, hp.len]
 refine KLoop.intro (fun k fr hh => ∃ (j : Nat), k = es.length - j ∧ j ≤ es.length ∧ fr = mkF [(5, .pointer (some ⟨LV, 0, none⟩)), (6, ov), (75, ev), (76, .int .i64 es.length), (77, .int .i64 j)] ∧ SeI h2 hh LV L i ov ((es.take j).foldl edgeB (metM i es i).1) (metM i es i).2)
  es.length [(5, .pointer (some ⟨LV, 0, none⟩)), (6, ov), (75, ev), (76, .int .i64 es.length), (77, .int .i64 (0 : Nat))] (by simp only [hasAll, kS1, bLookup, bMapSet, wantA, isCall, stepOp, evalO, evalL, evalP, evalM, putDst, flat, kA, kB, Nat.reduceLT, ↓reduceIte, kC, Nat.reduceEqDiff, aBuiltin, abinG, guardFree, abin, aInt, aUn, aNilCheck, retQ, retQ1, aresults, aresultL, aresult, mkF, undefV, reduceCtorEq, kD, kE, kF, kG, kH, kI, kJ, kK, aExtract, calleeOf]; simp) ⟨0, rfl, Nat.zero_le _, rfl, S⟩ ?_
 clear lAq S hwq
 clear hq
 rintro k fr hq hwq ⟨j, rfl, hj, rfl, S⟩
 have hll : ((es.take j).foldl edgeB (metM i es i).1).length = i := by rw [edges_length]; exact C.len
 simp only [kS1, bLookup, bMapSet, wantA, isCall, stepOp, evalO, evalL, evalP, evalM, putDst, flat, kA, kB, Nat.reduceLT, ↓reduceIte, kC, Nat.reduceEqDiff, aBuiltin, abinG, guardFree, abin, aInt, aUn, aNilCheck, retQ, retQ1, aresults, aresultL, aresult, mkF, undefV, reduceCtorEq, kD, kE, kF, kG, kH, kI, kJ, kK, aExtract, calleeOf]
 refine KCond.intro (fun ht => ?_) (fun hf => ?_)
 ·have hlt : j < es.length := lt_t ht
  clear ht
  have hej := getElem?_of hlt
  have htk : es.take (j + 1) = es.take j ++ [es[j]] := List.take_succ_eq_append_getElem hlt
  have hpos := hR es[j] (List.getElem_mem hlt)
  generalize es[j] = p at hej htk hpos
  have ad := hp.addr (k := .i64) j hlt
  have ld := (hp2.le S.le).load hej
  obtain ⟨a, c⟩ := p
  simp only at hpos
  obtain ⟨a, rfl⟩ := Int.eq_ofNat_of_zero_le hpos.1
  obtain ⟨c, rfl⟩ := Int.eq_ofNat_of_zero_le (show 0 ≤ c by omega)
  obtain ⟨h4', h4, e4, e4s, le4, wf4, o4⟩ := new42 hwq ((a : Int), (c : Int))
  have S4 := S.kept le4
  have nE : hq.own hq.next = none := (Le.refl hq).next hwq (Nat.le_refl _)
  have hEL : hq.next ≠ L := fun e => by rw [e, S.oL] at nE; cases nE
  generalize hq.next = E at *
  have m4a := own0 o4
  have m4b := own1 o4
  simp only at m4a m4b
  have han : a < i := by omega
  have hcn : c < i := by omega
  generalize hls : (es.take j).foldl edgeB (metM i es i).1 = ls at *
  have ga := getL_of (ls := ls) (v := a) (by omega)
  have gc := getL_of (ls := ls) (v := c) (by omega)
  have st1 := sLow S4.oL ga (min (getL ls a).2.2 (getL ls c).1)
  have S5 := S4.put (ls.set a ((getL ls a).1, (getL ls a).2.1, min (getL ls a).2.2 (getL ls c).1))
  generalize hl1 : ls.set a ((getL ls a).1, (getL ls a).2.1, min (getL ls a).2.2 (getL ls c).1) = ls1 at *
  have hll1 : ls1.length = i := by rw [← hl1]; simpa using hll
  have ga1 := getL_of (ls := ls1) (v := a) (by omega)
  have gc1 := getL_of (ls := ls1) (v := c) (by omega)
  have st2 := sLow S5.oL gc1 (min (getL ls1 c).2.2 (getL ls1 a).1)
  have S6 := S5.put (ls1.set c ((getL ls1 c).1, (getL ls1 c).2.1, min (getL ls1 c).2.2 (getL ls1 a).1))
  have hB : edgeB ls ((a : Int), (c : Int)) = if (getL ls a).2.1 = (c : Int) ∨ (getL ls c).2.1 = (a : Int) then ls else ls1.set c ((getL ls1 c).1, (getL ls1 c).2.1, min (getL ls1 c).2.2 (getL ls1 a).1) := by
   simp only [edgeB, Int.toNat_natCast, hl1]
  have hfold : (es.take (j + 1)).foldl edgeB (metM i es i).1 = edgeB ls ((a : Int), (c : Int)) := by rw [htk, List.foldl_append, hls]; rfl
  simp only [kS1, bLookup, bMapSet, wantA, isCall, stepOp, evalO, evalL, evalP, evalM, putDst, flat, kA, kB, Nat.reduceLT, ↓reduceIte, kC, Nat.reduceEqDiff, aBuiltin, abinG, guardFree, abin, aInt, aUn, aNilCheck, retQ, retQ1, aresults, aresultL, aresult, mkF, undefV, reduceCtorEq, kD, kE, kF, kG, kH, kI, kJ, kK, aExtract, calleeOf, ad, ld, e4, e4s]
  refine KDraw.intro mixed (.fl 0 (.fl 1 (.fl 2 (.fl 3 (.fl 4 (.fl 5 (.fl 6 (.fl 7 (.fl 8 (.fl 9 (.done))))))))))) (by kernel_rfl) ?_
  simp only [kS1, bLookup, bMapSet, wantA, isCall, stepOp, evalO, evalL, evalP, evalM, putDst, flat, kA, kB, Nat.reduceLT, ↓reduceIte, kC, Nat.reduceEqDiff, aBuiltin, abinG, guardFree, abin, aInt, aUn, aNilCheck, retQ, retQ1, aresults, aresultL, aresult, mkF, undefV, reduceCtorEq, kD, kE, kF, kG, kH, kI, kJ, kK, aExtract, calleeOf, kD1, Nat.reduceBEq, HoldsAll, kL, kM, kN, kO, pa0, pa1, aadd, Nat.add_zero, Nat.zero_add, m4a, m4b, ldV h4 S4.oV, lAddr a han, lAddr c hcn]
  have u1 := lUp S4.oL ga
  have u2 := lUp S4.oL gc
  by_cases c1 : (getL ls a).2.1 = (c : Int)
  ·have d1 : decide ((getL ls a).2.1 = (c : Int)) = true := decide_eq_true c1
   refine KDraw.intro mixed (.fl 0 (.fl 1 (.fl 2 (.fl 3 (.fl 4 (.fl 5 (.fl 6 (.fl 7 (.fl 8 (.fl 9 (.fl 10 (.fl 11 (.fl 12 (.fl 13 (.fl 14 (.fl 15 (.done))))))))))))))))) (by kernel_rfl) ?_
   simp only [kS1, bLookup, bMapSet, wantA, isCall, stepOp, evalO, evalL, evalP, evalM, putDst, flat, kA, kB, Nat.reduceLT, ↓reduceIte, kC, Nat.reduceEqDiff, aBuiltin, abinG, guardFree, abin, aInt, aUn, aNilCheck, retQ, retQ1, aresults, aresultL, aresult, mkF, undefV, reduceCtorEq, kD, kE, kF, kG, kH, kI, kJ, kK, aExtract, calleeOf, kD1, Nat.reduceBEq, HoldsAll, kL, kM, kN, kO, pa0, pa1, aadd, Nat.add_zero, Nat.zero_add, m4a, m4b, fl0, fl1, fl2, u1, u2, d1, awrap_succ j (by omega)]
   refine loop_again (es.length - (j + 1)) [(5, .pointer (some ⟨LV, 0, none⟩)), (6, ov), (75, ev), (76, .int .i64 es.length), (77, .int .i64 (j + 1 : Nat))] (by omega) (by simp only [hasAll, kS1, bLookup, bMapSet, wantA, isCall, stepOp, evalO, evalL, evalP, evalM, putDst, flat, kA, kB, Nat.reduceLT, ↓reduceIte, kC, Nat.reduceEqDiff, aBuiltin, abinG, guardFree, abin, aInt, aUn, aNilCheck, retQ, retQ1, aresults, aresultL, aresult, mkF, undefV, reduceCtorEq, kD, kE, kF, kG, kH, kI, kJ, kK, aExtract, calleeOf]; simp) ⟨j + 1, rfl, hlt, rfl, ?_⟩
   rw [hfold, hB, if_pos (.inl c1)]; exact S4
  have d1 : decide ((getL ls a).2.1 = (c : Int)) = false := decide_eq_false c1
  by_cases c2 : (getL ls c).2.1 = (a : Int)
  ·have d2 : decide ((getL ls c).2.1 = (a : Int)) = true := decide_eq_true c2
   refine KDraw.intro mixed (.fl 0 (.fl 1 (.fl 2 (.fl 3 (.fl 4 (.fl 5 (.fl 6 (.fl 7 (.fl 8 (.fl 9 (.fl 10 (.fl 11 (.fl 12 (.fl 13 (.fl 14 (.fl 15 (.done))))))))))))))))) (by kernel_rfl) ?_
   simp only [kS1, bLookup, bMapSet, wantA, isCall, stepOp, evalO, evalL, evalP, evalM, putDst, flat, kA, kB, Nat.reduceLT, ↓reduceIte, kC, Nat.reduceEqDiff, aBuiltin, abinG, guardFree, abin, aInt, aUn, aNilCheck, retQ, retQ1, aresults, aresultL, aresult, mkF, undefV, reduceCtorEq, kD, kE, kF, kG, kH, kI, kJ, kK, aExtract, calleeOf, kD1, Nat.reduceBEq, HoldsAll, kL, kM, kN, kO, pa0, pa1, aadd, Nat.add_zero, Nat.zero_add, m4a, m4b, fl0, fl1, fl2, u1, u2, d1, d2, awrap_succ j (by omega)]
   refine loop_again (es.length - (j + 1)) [(5, .pointer (some ⟨LV, 0, none⟩)), (6, ov), (75, ev), (76, .int .i64 es.length), (77, .int .i64 (j + 1 : Nat))] (by omega) (by simp only [hasAll, kS1, bLookup, bMapSet, wantA, isCall, stepOp, evalO, evalL, evalP, evalM, putDst, flat, kA, kB, Nat.reduceLT, ↓reduceIte, kC, Nat.reduceEqDiff, aBuiltin, abinG, guardFree, abin, aInt, aUn, aNilCheck, retQ, retQ1, aresults, aresultL, aresult, mkF, undefV, reduceCtorEq, kD, kE, kF, kG, kH, kI, kJ, kK, aExtract, calleeOf]; simp) ⟨j + 1, rfl, hlt, rfl, ?_⟩
   rw [hfold, hB, if_pos (.inr c2)]; exact S4
  have d2 : decide ((getL ls c).2.1 = (a : Int)) = false := decide_eq_false c2
  refine KDraw.intro mixed (.fl 0 (.fl 1 (.fl 2 (.fl 3 (.fl 4 (.fl 5 (.fl 6 (.fl 7 (.fl 8 (.fl 9 (.fl 10 (.fl 11 (.fl 12 (.fl 13 (.fl 14 (.fl 15 (.done))))))))))))))))) (by kernel_rfl) ?_
  simp only [kS1, bLookup, bMapSet, wantA, isCall, stepOp, evalO, evalL, evalP, evalM, putDst, flat, kA, kB, Nat.reduceLT, ↓reduceIte, kC, Nat.reduceEqDiff, aBuiltin, abinG, guardFree, abin, aInt, aUn, aNilCheck, retQ, retQ1, aresults, aresultL, aresult, mkF, undefV, reduceCtorEq, kD, kE, kF, kG, kH, kI, kJ, kK, aExtract, calleeOf, kD1, Nat.reduceBEq, HoldsAll, kL, kM, kN, kO, pa0, pa1, aadd, Nat.add_zero, Nat.zero_add, m4a, m4b, fl0, fl1, fl2, u1, u2, d1, d2]
  refine KDraw.intro mixed (.fl 0 (.fl 1 (.fl 2 (.fl 3 (.fl 4 (.fl 5 (.fl 6 (.fl 7 (.fl 8 (.fl 9 (.fl 10 (.fl 11 (.ch 12 [0, 1, 2, 3, 4, 5, 6, 7, 8, 9, 11] (.done) .no))))))))))))) (by kernel_rfl) ?_
  simp only [kS1, bLookup, bMapSet, wantA, isCall, stepOp, evalO, evalL, evalP, evalM, putDst, flat, kA, kB, Nat.reduceLT, ↓reduceIte, kC, Nat.reduceEqDiff, aBuiltin, abinG, guardFree, abin, aInt, aUn, aNilCheck, retQ, retQ1, aresults, aresultL, aresult, mkF, undefV, reduceCtorEq, kD, kE, kF, kG, kH, kI, kJ, kK, aExtract, calleeOf, kD1, Nat.reduceBEq, HoldsAll, kL, kM, kN, kO, aadd, Nat.add_zero, Nat.zero_add, fl0, fl1, fl2, lLow S4.oL ga, lNum S4.oL gc, amin_i, st1]
  refine KDraw.intro mixed (.fl 0 (.fl 1 (.fl 2 (.fl 3 (.fl 4 (.fl 5 (.fl 6 (.fl 7 (.fl 8 (.fl 9 (.fl 10 (.fl 11 (.ch 12 [0, 1, 2, 3, 4, 5, 6, 7, 8, 9, 11] (.done) .no))))))))))))) (by kernel_rfl) ?_
  simp only [kS1, bLookup, bMapSet, wantA, isCall, stepOp, evalO, evalL, evalP, evalM, putDst, flat, kA, kB, Nat.reduceLT, ↓reduceIte, kC, Nat.reduceEqDiff, aBuiltin, abinG, guardFree, abin, aInt, aUn, aNilCheck, retQ, retQ1, aresults, aresultL, aresult, mkF, undefV, reduceCtorEq, kD, kE, kF, kG, kH, kI, kJ, kK, aExtract, calleeOf, kD1, Nat.reduceBEq, HoldsAll, kL, kM, kN, kO, aadd, Nat.add_zero, Nat.zero_add, fl0, fl1, fl2, lLow S5.oL gc1, lNum S5.oL ga1, amin_i, st2, awrap_succ j (by omega)]
  refine loop_again (es.length - (j + 1)) [(5, .pointer (some ⟨LV, 0, none⟩)), (6, ov), (75, ev), (76, .int .i64 es.length), (77, .int .i64 (j + 1 : Nat))] (by omega) (by simp only [hasAll, kS1, bLookup, bMapSet, wantA, isCall, stepOp, evalO, evalL, evalP, evalM, putDst, flat, kA, kB, Nat.reduceLT, ↓reduceIte, kC, Nat.reduceEqDiff, aBuiltin, abinG, guardFree, abin, aInt, aUn, aNilCheck, retQ, retQ1, aresults, aresultL, aresult, mkF, undefV, reduceCtorEq, kD, kE, kF, kG, kH, kI, kJ, kK, aExtract, calleeOf]; simp) ⟨j + 1, rfl, hlt, rfl, ?_⟩
  rw [hfold, hB, if_neg (fun q => q.elim c1 c2)]; exact S6
 have hge : es.length ≤ j := lt_f hf
 rw [List.take_of_length_le hge] at S hll
 clear hge hf hj
 simp only [kS1, bLookup, bMapSet, wantA, isCall, stepOp, evalO, evalL, evalP, evalM, putDst, flat, kA, kB, Nat.reduceLT, ↓reduceIte, kC, Nat.reduceEqDiff, aBuiltin, abinG, guardFree, abin, aInt, aUn, aNilCheck, retQ, retQ1, aresults, aresultL, aresult, mkF, undefV, reduceCtorEq, kD, kE, kF, kG, kH, kI, kJ, kK, aExtract, calleeOf]
 refine KCall.intro (by simp only [kS1, bLookup, bMapSet, wantA, isCall, stepOp, evalO, evalL, evalP, evalM, putDst, flat, kA, kB, Nat.reduceLT, ↓reduceIte, kC, Nat.reduceEqDiff, aBuiltin, abinG, guardFree, abin, aInt, aUn, aNilCheck, retQ, retQ1, aresults, aresultL, aresult, mkF, undefV, reduceCtorEq, kD, kE, kF, kG, kH, kI, kJ, kK, aExtract, calleeOf] <;> rfl) ⟨Try.func94, rfl, by decide⟩ (Back_any W0 ov (nat64 (metM i es i).2) hq S.go.rl) ?_
 rintro x h7 w7 ⟨B2, rfl, hB2, oB2, l7⟩
 have S7 := S.kept l7
 have hBL : B2 ≠ L := fun e => by have := hwq.lt S.oL; omega
 have hol : (metM i es i).2.length ≤ i := C.toLowI.olen
 have hlo : (nat64 (metM i es i).2).length = (metM i es i).2.length := nat64_length _
 have hnum : ∀ v ∈ (metM i es i).2, v < i := C.lt
 generalize hO : (metM i es i).2 = O at *
 have hlow : lowM i es = (O.reverse.foldl upC (es.foldl edgeB (metM i es i).1), O) := by rw [lowM, hO]
 have hupr : ∀ v, v < i → (getL (es.foldl edgeB (metM i es i).1) v).2.1 < (i : Int) := fun v hv => by rw [(edges_keep es _ v).2]; exact C.up v hv
 generalize es.foldl edgeB (metM i es i).1 = LS at *
 simp only [kS1, bLookup, bMapSet, wantA, isCall, stepOp, evalO, evalL, evalP, evalM, putDst, flat, kA, kB, Nat.reduceLT, ↓reduceIte, kC, Nat.reduceEqDiff, aBuiltin, abinG, guardFree, abin, aInt, aUn, aNilCheck, retQ, retQ1, aresults, aresultL, aresult, mkF, undefV, reduceCtorEq, kD, kE, kF, kG, kH, kI, kJ, kK, aExtract, calleeOf]
 refine VK.rangeFunc (gf := 117) (first := #[]) (cap := #[.pointer (some ⟨B2, 0, none⟩)]) (by simp only [kS1, bLookup, bMapSet, wantA, isCall, stepOp, evalO, evalL, evalP, evalM, putDst, flat, kA, kB, Nat.reduceLT, ↓reduceIte, kC, Nat.reduceEqDiff, aBuiltin, abinG, guardFree, abin, aInt, aUn, aNilCheck, retQ, retQ1, aresults, aresultL, aresult, mkF, undefV, reduceCtorEq, kD, kE, kF, kG, kH, kI, kJ, kK, aExtract, calleeOf]) ⟨Try.func117, rfl, by decide⟩ (by decide) fun W1 lp hy => ?_
 refine (Back1_any W1 lp B2 ov (nat64 O) (fun k g => SeI h2 g LV L i ov (((O.drop k).reverse).foldl upC LS) O ∧ g.own B2 = some (.cells [ov])) h7 (by omega) (fun k g hi => ⟨hi.2, hi.1.go.rl⟩) ⟨by rw [hlo, List.drop_length]; exact S7, oB2⟩ ?_).mono fun _ h8 hh8 hw8 => ?_
 ·intro k g hk wg hle hSg
  obtain ⟨S, oB⟩ := hSg
  refine hy _ _ _ rfl hle ?_
  rw [hlo] at hk
  have hgk := nat64_get hk
  have hok := getElem?_of hk
  have hdk : O.drop k = O[k] :: O.drop (k + 1) := List.drop_eq_getElem_cons hk
  generalize O[k] = v at hgk hok hdk
  have hvi := hnum v (List.mem_of_getElem? hok)
  have hstep : (O.drop k).reverse.foldl upC LS = upC ((O.drop (k + 1)).reverse.foldl upC LS) v := by
   rw [hdk, List.reverse_cons, List.foldl_append]; rfl
  have hl1 : ((O.drop (k + 1)).reverse.foldl upC LS).length = i := by rw [ups_length]; exact hll
  have hu1 := (ups_keep (O.drop (k + 1)).reverse LS v).2
  have hu2 := hupr v hvi
  rw [← hu1] at hu2
  clear hu1
  generalize (O.drop (k + 1)).reverse.foldl upC LS = ls at *
  have gv := getL_of (ls := ls) (v := v) (by omega)
  simp only [kS1, bLookup, bMapSet, wantA, isCall, stepOp, evalO, evalL, evalP, evalM, putDst, flat, kA, kB, Nat.reduceLT, ↓reduceIte, kC, Nat.reduceEqDiff, aBuiltin, abinG, guardFree, abin, aInt, aUn, aNilCheck, retQ, retQ1, aresults, aresultL, aresult, mkF, undefV, reduceCtorEq, kD, kE, kF, kG, kH, kI, kJ, kK, aExtract, calleeOf, List.toList_toArray, putPs, hgk, ldV g S.oV, lAddr v hvi, fl1, aadd, lUp S.oL gv]
  by_cases c : (getL ls v).2.1 ≥ 0
  ·obtain ⟨u, hu⟩ := Int.eq_ofNat_of_zero_le c
   have hui : u < i := by omega
   have gu := getL_of (ls := ls) (v := u) (by omega)
   have st := sLow S.oL gu (min (getL ls u).2.2 (getL ls v).2.2)
   have hst : upC ls v = ls.set u ((getL ls u).1, (getL ls u).2.1, min (getL ls u).2.2 (getL ls v).2.2) := by
    simp only [upC]; rw [if_pos c, hu, Int.toNat_natCast]
   have d : decide ((u : Int) ≥ 0) = true := decide_eq_true (by omega)
   simp only [hu, d, kS1, bLookup, bMapSet, wantA, isCall, stepOp, evalO, evalL, evalP, evalM, putDst, flat, kA, kB, Nat.reduceLT, ↓reduceIte, kC, Nat.reduceEqDiff, aBuiltin, abinG, guardFree, abin, aInt, aUn, aNilCheck, retQ, retQ1, aresults, aresultL, aresult, mkF, undefV, reduceCtorEq, kD, kE, kF, kG, kH, kI, kJ, kK, aExtract, calleeOf]
   refine KDraw.intro mixed (.fl 0 (.fl 1 (.fl 2 (.fl 3 (.fl 4 (.fl 5 (.fl 6 (.fl 7 (.fl 8 (.fl 9 (.fl 10 (.fl 11 (.fl 12 (.fl 13 (.fl 14 (.ch 15 [0, 1, 2, 3, 4, 5, 6, 7, 8, 9, 10, 11, 12, 14] (.done) .no)))))))))))))))) (by kernel_rfl) ?_
   simp only [kS1, bLookup, bMapSet, wantA, isCall, stepOp, evalO, evalL, evalP, evalM, putDst, flat, kA, kB, Nat.reduceLT, ↓reduceIte, kC, Nat.reduceEqDiff, aBuiltin, abinG, guardFree, abin, aInt, aUn, aNilCheck, retQ, retQ1, aresults, aresultL, aresult, mkF, undefV, reduceCtorEq, kD, kE, kF, kG, kH, kI, kJ, kK, aExtract, calleeOf, kD1, Nat.reduceBEq, HoldsAll, kL, kM, kN, kO, ldV g S.oV, lAddr v hvi, lAddr u hui, fl2, aadd, lLow S.oL gu, lLow S.oL gv, amin_i, st, rndQ_normal]
   refine ⟨hle, ?_, ?_⟩
   ·rw [hstep, hst]; exact S.put _
   ·rw [AHeap.own_put_ne _ _ _ _ hBL]; exact oB
  ·have d : decide ((getL ls v).2.1 ≥ 0) = false := decide_eq_false c
   simp only [d, kS1, bLookup, bMapSet, wantA, isCall, stepOp, evalO, evalL, evalP, evalM, putDst, flat, kA, kB, Nat.reduceLT, ↓reduceIte, kC, Nat.reduceEqDiff, aBuiltin, abinG, guardFree, abin, aInt, aUn, aNilCheck, retQ, retQ1, aresults, aresultL, aresult, mkF, undefV, reduceCtorEq, kD, kE, kF, kG, kH, kI, kJ, kK, aExtract, calleeOf, rndQ_normal]
   refine ⟨trivial, hle, ?_, oB⟩
   rw [hstep, upC, if_neg c]; exact S
 ·obtain ⟨S8, -⟩ := hh8
  rw [List.drop_zero] at S8
  simp only [kS1, bLookup, bMapSet, wantA, isCall, stepOp, evalO, evalL, evalP, evalM, putDst, flat, kA, kB, Nat.reduceLT, ↓reduceIte, kC, Nat.reduceEqDiff, aBuiltin, abinG, guardFree, abin, aInt, aUn, aNilCheck, retQ, retQ1, aresults, aresultL, aresult, mkF, undefV, reduceCtorEq, kD, kE, kF, kG, kH, kI, kJ, kK, aExtract, calleeOf, ldV h8 S8.oV]
  have lb : Le h h2 := le1.trans le2
  refine ⟨lb.trans S8.le, .inr ⟨hr, L, ov, rfl, by rw [hlow]; exact S8.oL, lb.none nL, by rw [hlow]; exact S8.go, S8.nb.2, fun b hb => lb.none (S8.ao b hb)⟩⟩
end Go.Fw
