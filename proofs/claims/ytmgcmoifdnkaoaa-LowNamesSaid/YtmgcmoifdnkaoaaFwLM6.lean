/- One of the texts of the layer and the walks: it proves what its theorems say of the functions of the seat, with no condition beyond theirs. -/
import Derived.Test.YtmgcmoifdnkaoaaFwLM3
import Derived.Test.YtmgcmoifdnkaoaaFwLT6
set_option linter.unusedSimpArgs false
set_option linter.unusedVariables false
namespace Go.Fw
open Go.Proofs
attribute [local irreducible] KO4 KO3 KO2 KO1 KO KN KX KE VK KCond KDraw KCall KLoop
set_option maxHeartbeats 16000000
set_option maxRecDepth 10000
theorem alloc45' (h : AHeap) : aAlloc Try.prog h 45 = some (.pointer (some ⟨h.next, 0, none⟩), h.alloc (.cells [.int .i64 0, .int .i64 0])) := rfl
theorem edge_any (W0 : Base) (a b : Int) (h : AHeap) : AC Try.prog W0 38 [.int .i64 a, .int .i64 b] h fun x h' => x = valP (min a b, max a b) ∧ Le h h' := by
  refine AC.vc (fn := Try.f38) (c := _) ⟨Try.func38, rfl, by decide⟩ Try.ntmps38 Try.results38 (by simp) fun hwf => ?_
  simp only [argFrame, argFrom, Nat.reduceAdd]
  obtain ⟨h1, e1, l1, w1, o1⟩ := alloc_f hwf [.int .i64 0, .int .i64 0]
  have nw : h.own h.next = none := (Le.refl h).next hwf (Nat.le_refl _)
  have st := store42 (p := (min a b, max a b)) o1
  have oo := AHeap.own_put_eq h1 h.next (.cells (cellsP (min a b, max a b)))
  have ld := own42 oo
  simp only [kS1, bLookup, bMapSet, wantA, isCall, stepOp, evalO, evalL, evalP, evalM, putDst, flat, kA, kB, Nat.reduceLT, ↓reduceIte, kC, Nat.reduceEqDiff, aBuiltin, abinG, guardFree, abin, aInt, aUn, aNilCheck, retQ, retQ1, aresults, aresultL, aresult, mkF, undefV, reduceCtorEq, kD, kE, kF, kG, kH, kI, kJ, kK, aExtract, calleeOf, alloc45', e1, amin_i, amax_i, bP2, st, ld]
  exact ⟨trivial, l1.put _ nw⟩
theorem without_any (W0 : Base) (v : Value) (G : GM) (P : Pr → Bool) (F : FuncId) {fn : Func} {c : Code} (hgood : Good Try.prog F fn c) (cap : List Value) (h : AHeap) (hg : GR h v G) (hn : G.es.length ≤ 1000)
    (hf : ∀ g p, Le h g → AC Try.prog W0 F (valP p :: cap) g fun x g' => x = .bool (P p) ∧ Le g g') :
    AC Try.prog W0 35 [v, .func (.func F) #[] cap.toArray] h fun x h' => ∃ ev, x = .agg #[.int .i64 G.n, ev] ∧ GP h' ev (G.es.filter fun p => !P p) ∧ Le h h' ∧ Apart h ev := by
  have hg0 := hg
  obtain ⟨gn, es⟩ := G
  obtain ⟨ev, rfl, hp⟩ := hg.open
  simp only at hn
  refine AC.vc (fn := Try.f35) (c := _) ⟨Try.func35, rfl, by decide⟩ Try.ntmps35 Try.results35 (by simp) fun hwf => ?_
  simp only [argFrame, argFrom, Nat.reduceAdd]
  obtain ⟨h1, b1, le1, wf1, -, lA⟩ := boxG (n := gn) hwf hp
  generalize h.next = B at *
  obtain ⟨h2, e2, l2, w2, o2⟩ := alloc_f wf1 [.int .i64 0, .slice none 0 0]
  have lA2 := lA h2 l2
  have nR : h1.own h1.next = none := (Le.refl h1).next wf1 (Nat.le_refl _)
  obtain ⟨h3, h4, e3, e4, l4, w4, nX, gx4⟩ := GX.new w2 gn
  have lA4 := lA h4 (l2.trans l4)
  have neXR : h2.next ≠ h1.next := fun e => by rw [e, o2] at nX; cases nX
  have oR4 := l4.own _ _ o2
  have hlen := fun g => hp.len g
  have al := alloc24 h1
  rw [e2] at al
  simp only [kS1, bLookup, bMapSet, wantA, isCall, stepOp, evalO, evalL, evalP, evalM, putDst, flat, kA, kB, Nat.reduceLT, ↓reduceIte, kC, Nat.reduceEqDiff, aBuiltin, abinG, guardFree, abin, aInt, aUn, aNilCheck, retQ, retQ1, aresults, aresultL, aresult, mkF, undefV, reduceCtorEq, kD, kE, kF, kG, kH, kI, kJ, kK, aExtract, calleeOf, b1, al, fg0, fg1, aadd, Nat.zero_add, lA2.2.1, build24e, e3, e4, lA4.2.2, hlen]
  have nX1 := l2.none nX
  generalize h2.next = X at *
  generalize h1.next = R at *
  have aX : Apart h1 (.slice none 0 0) := fun b hb => by cases hb
  refine KLoop.intro (fun k fr hq => ∃ (i : Nat) (xv : Value), k = es.length - i ∧ i ≤ es.length ∧ fr = mkF [(1, .func (.func F) #[] cap.toArray), (4, .pointer (some ⟨R, 0, none⟩)), (5, .pointer (some ⟨X, 0, none⟩)), (12, ev), (13, .int .i64 es.length), (14, .int .i64 i)] ∧
      GX hq X gn xv ((es.take i).filter fun p => !P p) ∧ Le h1 hq ∧ Apart h1 xv ∧ hq.own R = some (.cells [.int .i64 0, .slice none 0 0]) ∧ blk xv ≠ some R)
    es.length [(1, .func (.func F) #[] cap.toArray), (4, .pointer (some ⟨R, 0, none⟩)), (5, .pointer (some ⟨X, 0, none⟩)), (12, ev), (13, .int .i64 es.length), (14, .int .i64 (0 : Nat))] (by simp only [hasAll, kS1, bLookup, bMapSet, wantA, isCall, stepOp, evalO, evalL, evalP, evalM, putDst, flat, kA, kB, Nat.reduceLT, ↓reduceIte, kC, Nat.reduceEqDiff, aBuiltin, abinG, guardFree, abin, aInt, aUn, aNilCheck, retQ, retQ1, aresults, aresultL, aresult, mkF, undefV, reduceCtorEq, kD, kE, kF, kG, kH, kI, kJ, kK, aExtract, calleeOf]; simp)
    ⟨0, _, rfl, Nat.zero_le _, rfl, gx4, l2.trans l4, aX, oR4, by simp [blk]⟩ ?_
  clear gx4 aX oR4 lA4 w4 l4 e4 e3 o2 e2 lA2
  clear h3 h4
  rintro k fr hq hwq ⟨i, xv, rfl, hi, rfl, gx, leq, ax, oR, nxR⟩
  simp only [kS1, bLookup, bMapSet, wantA, isCall, stepOp, evalO, evalL, evalP, evalM, putDst, flat, kA, kB, Nat.reduceLT, ↓reduceIte, kC, Nat.reduceEqDiff, aBuiltin, abinG, guardFree, abin, aInt, aUn, aNilCheck, retQ, retQ1, aresults, aresultL, aresult, mkF, undefV, reduceCtorEq, kD, kE, kF, kG, kH, kI, kJ, kK, aExtract, calleeOf]
  refine KCond.intro (fun ht => ?_) (fun hf => ?_)
  · have hlt : i < es.length := lt_t ht
    clear ht
    have hpi := getElem?_of hlt
    have htk : es.take (i + 1) = es.take i ++ [es[i]] := List.take_succ_eq_append_getElem hlt
    generalize es[i] = p at hpi htk
    have ad := hp.addr (k := .i64) i hlt
    have ld := (hp.le (le1.trans leq)).load hpi
    obtain ⟨h7', h7, e7, e7s, l7, w7, o7⟩ := new42 hwq p
    have nE : hq.own hq.next = none := (Le.refl hq).next hwq (Nat.le_refl _)
    have neEX : hq.next ≠ X := fun e => by rw [e, gx.ox] at nE; cases nE
    have nEx : blk xv ≠ some hq.next := fun e => GS.blk_own gx.gp e nE
    generalize hq.next = E at *
    have lp7 := own42 o7
    simp only [kS1, bLookup, bMapSet, wantA, isCall, stepOp, evalO, evalL, evalP, evalM, putDst, flat, kA, kB, Nat.reduceLT, ↓reduceIte, kC, Nat.reduceEqDiff, aBuiltin, abinG, guardFree, abin, aInt, aUn, aNilCheck, retQ, retQ1, aresults, aresultL, aresult, mkF, undefV, reduceCtorEq, kD, kE, kF, kG, kH, kI, kJ, kK, aExtract, calleeOf, ad, ld, e7, e7s, lp7]
    refine KCall.intro (g := F) (args := valP p :: cap) (by simp only [kS1, bLookup, bMapSet, wantA, isCall, stepOp, evalO, evalL, evalP, evalM, putDst, flat, kA, kB, Nat.reduceLT, ↓reduceIte, kC, Nat.reduceEqDiff, aBuiltin, abinG, guardFree, abin, aInt, aUn, aNilCheck, retQ, retQ1, aresults, aresultL, aresult, mkF, undefV, reduceCtorEq, kD, kE, kF, kG, kH, kI, kJ, kK, aExtract, calleeOf, List.toList_toArray, List.append_nil]) hgood (hf h7 p ((le1.trans leq).trans l7)) ?_
    rintro x h8 w8 ⟨rfl, l8⟩
    have gx8 := (gx.le l7).le l8
    have o8 := l8.own _ _ o7
    have lp8 := own42 o8
    have leq8 := (leq.trans l7).trans l8
    have oR8 := l8.own _ _ (l7.own _ _ oR)
    cases hb : P p with
    | true =>
      have hfl : (es.take (i + 1)).filter (fun p => !P p) = (es.take i).filter (fun p => !P p) := by rw [htk, List.filter_append]; simp [hb]
      simp only [kS1, bLookup, bMapSet, wantA, isCall, stepOp, evalO, evalL, evalP, evalM, putDst, flat, kA, kB, Nat.reduceLT, ↓reduceIte, kC, Nat.reduceEqDiff, aBuiltin, abinG, guardFree, abin, aInt, aUn, aNilCheck, retQ, retQ1, aresults, aresultL, aresult, mkF, undefV, reduceCtorEq, kD, kE, kF, kG, kH, kI, kJ, kK, aExtract, calleeOf, awrap_succ i (by omega)]
      exact loop_again (es.length - (i + 1)) [(1, .func (.func F) #[] cap.toArray), (4, .pointer (some ⟨R, 0, none⟩)), (5, .pointer (some ⟨X, 0, none⟩)), (12, ev), (13, .int .i64 es.length), (14, .int .i64 (i + 1 : Nat))] (by omega) (by simp only [hasAll, kS1, bLookup, bMapSet, wantA, isCall, stepOp, evalO, evalL, evalP, evalM, putDst, flat, kA, kB, Nat.reduceLT, ↓reduceIte, kC, Nat.reduceEqDiff, aBuiltin, abinG, guardFree, abin, aInt, aUn, aNilCheck, retQ, retQ1, aresults, aresultL, aresult, mkF, undefV, reduceCtorEq, kD, kE, kF, kG, kH, kI, kJ, kK, aExtract, calleeOf]; simp)
        ⟨i + 1, xv, rfl, hlt, rfl, by rw [hfl]; exact gx8, leq8, ax, oR8, nxR⟩
    | false =>
      have hfl : (es.take (i + 1)).filter (fun p => !P p) = (es.take i).filter (fun p => !P p) ++ [p] := by rw [htk, List.filter_append]; simp [hb]
      have hbl : ((es.take i).filter fun p => !P p).length ≤ i := by have := List.length_filter_le (fun p => !P p) (es.take i); simp at this; omega
      obtain ⟨v', g4, g5, g6, q4, q5, q6, gx9, w9, lq4, f9, k9⟩ := gx8.push' w8 p (by omega)
      obtain ⟨l9, a9⟩ := f9 h1 leq8 nX1 ax
      obtain ⟨oR9, nR9⟩ := k9 R _ oR8 (Ne.symm neXR) nxR
      have gl := gx8.ld
      simp only [kS1, bLookup, bMapSet, wantA, isCall, stepOp, evalO, evalL, evalP, evalM, putDst, flat, kA, kB, Nat.reduceLT, ↓reduceIte, kC, Nat.reduceEqDiff, aBuiltin, abinG, guardFree, abin, aInt, aUn, aNilCheck, retQ, retQ1, aresults, aresultL, aresult, mkF, undefV, reduceCtorEq, kD, kE, kF, kG, kH, kI, kJ, kK, aExtract, calleeOf, fg1, aadd, Nat.zero_add, gl.2.2, lp8, q4, q5, q6, awrap_succ i (by omega)]
      exact loop_again (es.length - (i + 1)) [(1, .func (.func F) #[] cap.toArray), (4, .pointer (some ⟨R, 0, none⟩)), (5, .pointer (some ⟨X, 0, none⟩)), (12, ev), (13, .int .i64 es.length), (14, .int .i64 (i + 1 : Nat))] (by omega) (by simp only [hasAll, kS1, bLookup, bMapSet, wantA, isCall, stepOp, evalO, evalL, evalP, evalM, putDst, flat, kA, kB, Nat.reduceLT, ↓reduceIte, kC, Nat.reduceEqDiff, aBuiltin, abinG, guardFree, abin, aInt, aUn, aNilCheck, retQ, retQ1, aresults, aresultL, aresult, mkF, undefV, reduceCtorEq, kD, kE, kF, kG, kH, kI, kJ, kK, aExtract, calleeOf]; simp)
        ⟨i + 1, v', rfl, hlt, rfl, by rw [hfl]; exact gx9, l9, a9, oR9, nR9⟩
  · have hge : es.length ≤ i := lt_f hf
    rw [List.take_of_length_le hge] at gx
    have gl := gx.ld
    have ts24 : tsize Try.prog 24 = 2 := by kernel_rfl
    have one := gx.gp.pr.sl.one
    have st : aStore Try.prog hq 24 (.pointer (some ⟨R, 0, none⟩)) (.agg #[.int .i64 gn, xv]) = some (hq.put R (.cells [.int .i64 gn, xv])) := by
      have hc : (Value.agg #[.int .i64 gn, xv]).cells = #[.int .i64 gn, xv] := rfl
      have h0 : (Value.int IntKind.i64 gn).oneCell' = true := rfl
      simp [aStore, oR, hc, ts24, putCells, Try.underlying24, one, h0]
    have oo := AHeap.own_put_eq hq R (.cells [.int .i64 gn, xv])
    have ldR : aload Try.prog (hq.put R (.cells [.int .i64 gn, xv])) 24 ⟨R, 0, none⟩ = some (.agg #[.int .i64 gn, xv]) := by
      rw [aload_own Try.underlying24 rfl ts24 oo (by simp)]; rfl
    simp only [kS1, bLookup, bMapSet, wantA, isCall, stepOp, evalO, evalL, evalP, evalM, putDst, flat, kA, kB, Nat.reduceLT, ↓reduceIte, kC, Nat.reduceEqDiff, aBuiltin, abinG, guardFree, abin, aInt, aUn, aNilCheck, retQ, retQ1, aresults, aresultL, aresult, mkF, undefV, reduceCtorEq, kD, kE, kF, kG, kH, kI, kJ, kK, aExtract, calleeOf, gl.1, st, ldR]
    exact ⟨xv, rfl, GS.put gx.gp _ nxR, (le1.trans leq).put _ (le1.none nR), fun b hb => le1.none (ax b hb)⟩
end Go.Fw
namespace Go.Fw
open Go.Proofs
attribute [local irreducible] KO4 KO3 KO2 KO1 KO KN KX KE VK KCond KDraw KCall KLoop
set_option maxHeartbeats 16000000
set_option maxRecDepth 10000
structure AtS (n : Int) (es : List Pr) (bs : List (List Pr)) : Prop where
  ne : ∀ b ∈ bs, b ≠ []
  right : ∀ b ∈ bs, RightG ⟨n, b⟩
  asc : ∀ (i : Nat) b b' p q, bs[i]? = some b → bs[i + 1]? = some b' → b[0]? = some p → b'[0]? = some q → p.1 < q.1 ∨ p.1 = q.1 ∧ p.2 < q.2
  mem : ∀ b ∈ bs, ∀ p ∈ b, p ∈ es
  dis : ∀ (i j : Nat) b b' p, bs[i]? = some b → bs[j]? = some b' → p ∈ b → p ∈ b' → i = j
  all : ∀ p ∈ es, ∃ b ∈ bs, p ∈ b
  len : bs.length ≤ 1000
def Met (bs : List (List Pr)) (i j : Nat) (p : Pr) (x : Int) : Prop := ∃ (k : Nat) (b : List Pr), bs[k]? = some b ∧ x = (k : Int) ∧ (k < i ∧ p ∈ b ∨ k = i ∧ p ∈ b.take j)
theorem RightG.nodup {n : Int} {es : List Pr} (h : RightG ⟨n, es⟩) : es.Nodup := by
  have hA := h.asc
  rw [List.Nodup, List.pairwise_iff_getElem]
  intro i j hi hj hij e
  have := hA.lt hij (List.getElem?_eq_getElem hi) (List.getElem?_eq_getElem hj)
  rw [e] at this; omega
theorem InR.min {n : Nat} {es : List Pr} (hr : InR n es) {p : Pr} (hp : p ∈ es) : (Min.min p.1 p.2, Max.max p.1 p.2) = p := by
  have := hr p hp
  exact Prod.ext (by show Min.min p.1 p.2 = p.1; omega) (by show Max.max p.1 p.2 = p.2; omega)
theorem at_any (W0 : Base) (v lv : Value) (n : Nat) (es : List Pr) (bs : List (List Pr)) (h : AHeap) (hg : GR h v ⟨(n : Int), es⟩) (hr : RightG ⟨(n : Int), es⟩) (hl : RL PR h lv bs) (A : AtS n es bs) :
    AC Try.prog W0 33 [v, lv] h fun x h' => ∃ M al, x = .tuple #[.map (some M), .bool true] ∧ h'.own M = some (.map (mapP al)) ∧ (∀ p x, lookK al p = some x ↔ Met bs bs.length 0 p x) ∧ Le h h' ∧ h.own M = none := by
  have hg0 := hg
  have hR := hr.inR
  have h594 : es.length ≤ 594 := hr.len
  obtain ⟨ev, rfl, hp⟩ := hg.open
  refine AC.vc (fn := Try.f33) (c := _) ⟨Try.func33, rfl, by decide⟩ Try.ntmps33 Try.results33 (by simp) fun hwf => ?_
  simp only [argFrame, argFrom, Nat.reduceAdd]
  obtain ⟨h1, b1, le1, wf1, -, lA⟩ := boxG (n := (n : Int)) hwf hp
  generalize h.next = B at *
  obtain ⟨h2, e2, l2, w2, o2⟩ : ∃ h2, h1.alloc (.map []) = h2 ∧ Le h1 h2 ∧ WF h2 ∧ h2.own h1.next = some (.map []) := ⟨_, rfl, (Le.refl h1).alloc wf1 _, wf1.alloc _, AHeap.own_alloc_eq _ _⟩
  have nM : h1.own h1.next = none := (Le.refl h1).next wf1 (Nat.le_refl _)
  have lvl := fun g => hl.len (P := Try.prog) Try.underlying38 g
  simp only [kS1, bLookup, bMapSet, wantA, isCall, stepOp, evalO, evalL, evalP, evalM, putDst, flat, kA, kB, Nat.reduceLT, ↓reduceIte, kC, Nat.reduceEqDiff, aBuiltin, abinG, guardFree, abin, aInt, aUn, aNilCheck, retQ, retQ1, aresults, aresultL, aresult, mkF, undefV, reduceCtorEq, kD, kE, kF, kG, kH, kI, kJ, kK, aExtract, calleeOf, b1, e2, lvl]
  generalize h1.next = M at *
  have hbl := A.len
  refine KLoop.intro (fun k fr hq => ∃ (i : Nat) (al : List (Pr × Int)), k = bs.length - i ∧ i ≤ bs.length ∧ fr = mkF [(1, lv), (2, .pointer (some ⟨B, 0, none⟩)), (6, .map (some M)), (15, lv), (16, .int .i64 bs.length), (17, .int .i64 i)] ∧
      hq.own M = some (.map (mapP al)) ∧ (al.map (·.1)).Nodup ∧ (∀ p x, lookK al p = some x ↔ Met bs i 0 p x) ∧ Le h1 hq)
    bs.length [(1, lv), (2, .pointer (some ⟨B, 0, none⟩)), (6, .map (some M)), (15, lv), (16, .int .i64 bs.length), (17, .int .i64 (0 : Nat))] (by simp only [hasAll, kS1, bLookup, bMapSet, wantA, isCall, stepOp, evalO, evalL, evalP, evalM, putDst, flat, kA, kB, Nat.reduceLT, ↓reduceIte, kC, Nat.reduceEqDiff, aBuiltin, abinG, guardFree, abin, aInt, aUn, aNilCheck, retQ, retQ1, aresults, aresultL, aresult, mkF, undefV, reduceCtorEq, kD, kE, kF, kG, kH, kI, kJ, kK, aExtract, calleeOf]; simp)
    ⟨0, [], rfl, Nat.zero_le _, rfl, o2, by simp, fun p x => by
      constructor
      · intro h; cases h
      · rintro ⟨k, b, _, _, ⟨h, _⟩ | ⟨_, h⟩⟩
        · omega
        · simp at h, l2⟩ ?_
  clear o2 w2 l2 e2
  clear h2
  rintro k fr hq hwq ⟨i, al, rfl, hi, rfl, oM, hnd, hal, leq⟩
  simp only [kS1, bLookup, bMapSet, wantA, isCall, stepOp, evalO, evalL, evalP, evalM, putDst, flat, kA, kB, Nat.reduceLT, ↓reduceIte, kC, Nat.reduceEqDiff, aBuiltin, abinG, guardFree, abin, aInt, aUn, aNilCheck, retQ, retQ1, aresults, aresultL, aresult, mkF, undefV, reduceCtorEq, kD, kE, kF, kG, kH, kI, kJ, kK, aExtract, calleeOf]
  refine KCond.intro (fun ht => ?_) (fun hf => ?_)
  rotate_left
  · have hge : bs.length ≤ i := lt_f hf
    obtain rfl : i = bs.length := by omega
    have lA1 := lA hq leq
    have hll : al.length = es.length := by
      have h1 : al.map (·.1) ⊆ es := fun p hp => by
        have : lookK al p ≠ none := lookK_mem.2 hp
        obtain ⟨x, hx⟩ := Option.ne_none_iff_exists'.1 this
        obtain ⟨k, b, hb, _, ⟨_, h⟩ | ⟨_, h⟩⟩ := (hal p x).1 hx
        · exact A.mem b (List.mem_of_getElem? hb) p h
        · simp at h
      have h2 : es ⊆ al.map (·.1) := fun p hp => by
        obtain ⟨b, hb, hpb⟩ := A.all p hp
        obtain ⟨k, hk⟩ := List.mem_iff_getElem?.1 hb
        refine lookK_mem.1 ?_
        rw [(hal p (k : Int)).2 ⟨k, b, hk, rfl, .inl ⟨(List.getElem?_eq_some_iff.1 hk).1, hpb⟩⟩]; simp
      have h3 := hnd.length_le_of_subset h1
      have h4 := hr.nodup.length_le_of_subset h2
      simp at h3 h4; omega
    have lm := mapP_len oM
    rw [hll] at lm
    have le := hp.len (h := h) hq
    simp only [kS1, bLookup, bMapSet, wantA, isCall, stepOp, evalO, evalL, evalP, evalM, putDst, flat, kA, kB, Nat.reduceLT, ↓reduceIte, kC, Nat.reduceEqDiff, aBuiltin, abinG, guardFree, abin, aInt, aUn, aNilCheck, retQ, retQ1, aresults, aresultL, aresult, mkF, undefV, reduceCtorEq, kD, kE, kF, kG, kH, kI, kJ, kK, aExtract, calleeOf]
    refine KDraw.intro mixed (.fl 0 (.fl 1 (.fl 2 (.fl 3 (.fl 4 (.fl 5 (.fl 6 (.fl 7 (.fl 8 (.done)))))))))) (by kernel_rfl) ?_
    simp only [kS1, bLookup, bMapSet, wantA, isCall, stepOp, evalO, evalL, evalP, evalM, putDst, flat, kA, kB, Nat.reduceLT, ↓reduceIte, kC, Nat.reduceEqDiff, aBuiltin, abinG, guardFree, abin, aInt, aUn, aNilCheck, retQ, retQ1, aresults, aresultL, aresult, mkF, undefV, reduceCtorEq, kD, kE, kF, kG, kH, kI, kJ, kK, aExtract, calleeOf, kD1, Nat.reduceBEq, HoldsAll, kL, kM, kN, kO, lm, fg1, aadd, Nat.zero_add, lA1.2.2, hp.len]
    exact ⟨M, al, rfl, oM, hal, le1.trans leq, le1.none nM⟩
  have hlt : i < bs.length := lt_t ht
  clear ht
  have hbi := getElem?_of hlt
  have adi := hl.addr (P := Try.prog) Try.underlying38 Try.underlying22 (by kernel_rfl) (k := .i64) i hlt
  obtain ⟨u, ldi, hu⟩ := hl.load' (P := Try.prog) Try.underlying22 rfl i hlt
  generalize bs[i] = b at hbi hu
  have hbm := List.mem_of_getElem? hbi
  have lA1 := lA hq leq
  have hbR := A.right b hbm
  have hbl2 : b.length ≤ 594 := hbR.len
  obtain ⟨q0, hq0⟩ : ∃ q0, b[0]? = some q0 := by
    cases b with
    | nil => exact absurd rfl (A.ne _ hbm)
    | cons x r => exact ⟨x, rfl⟩
  have hb0 : 0 < b.length := (List.getElem?_eq_some_iff.1 hq0).1
  obtain ⟨h4', h4, e4, e4s, l4, w4, lG4⟩ := newG hwq (n := (n : Int)) (hu.le (le1.trans leq))
  have bld := build24 (n := (n : Int)) hu.sl
  have lu := fun g => hu.len g
  have d0 : decide (((b.length : Nat) : Int) = 0) = false := decide_eq_false (by omega)
  simp only [kS1, bLookup, bMapSet, wantA, isCall, stepOp, evalO, evalL, evalP, evalM, putDst, flat, kA, kB, Nat.reduceLT, ↓reduceIte, kC, Nat.reduceEqDiff, aBuiltin, abinG, guardFree, abin, aInt, aUn, aNilCheck, retQ, retQ1, aresults, aresultL, aresult, mkF, undefV, reduceCtorEq, kD, kE, kF, kG, kH, kI, kJ, kK, aExtract, calleeOf, adi, ldi hq (le1.trans leq), fg0, aadd, Nat.zero_add, lA1.2.1, bld, e4, e4s]
  generalize hq.next = X at *
  have leq4 := leq.trans l4
  have ad0 : aIndexAddr Try.prog 22 u (.int .i64 0) = some (.pointer (some (pAddr u 0))) := by simpa using hu.addr (k := .i64) 0 hb0
  have hu4 := hu.le (le1.trans leq4)
  have right4 := Right_any W0 (.agg #[.int .i64 (n : Int), u]) ⟨(n : Int), b⟩ h4 ⟨u, rfl, hu4⟩
  have lgx := (lG4 h4 (Le.refl _)).1
  rcases Nat.eq_zero_or_pos i with hi0 | hi0
  focus
    have d1 : decide ((i : Int) > 0) = false := decide_eq_false (by omega)
    refine KDraw.intro mixed (.fl 0 (.fl 1 (.fl 2 (.fl 3 (.fl 4 (.ch 5 [3, 4] (.fl 6 (.fl 7 (.fl 8 (.fl 9 (.fl 10 (.fl 11 (.fl 12 (.fl 13 (.fl 14 (.fl 15 (.fl 16 (.fl 17 (.fl 18 (.fl 19 (.fl 20 (.fl 21 (.fl 22 (.fl 23 (.fl 24 (.fl 25 (.fl 26 (.fl 27 (.fl 28 (.fl 29 (.fl 30 (.fl 31 (.fl 32 (.fl 33 (.fl 34 (.fl 35 (.fl 36 (.fl 37 (.fl 38 (.fl 39 (.fl 40 (.fl 41 (.fl 42 (.fl 43 (.fl 44 (.fl 45 (.fl 46 (.fl 47 (.fl 48 (.fl 49 (.fl 50 (.fl 51 (.fl 52 (.fl 53 (.fl 54 (.fl 55 (.fl 56 (.done)))))))))))))))))))))))))))))))))))))))))))))))))))) .no)))))) (by kernel_rfl) ?_
    simp only [kS1, bLookup, bMapSet, wantA, isCall, stepOp, evalO, evalL, evalP, evalM, putDst, flat, kA, kB, Nat.reduceLT, ↓reduceIte, kC, Nat.reduceEqDiff, aBuiltin, abinG, guardFree, abin, aInt, aUn, aNilCheck, retQ, retQ1, aresults, aresultL, aresult, mkF, undefV, reduceCtorEq, kD, kE, kF, kG, kH, kI, kJ, kK, aExtract, calleeOf, kD1, Nat.reduceBEq, HoldsAll, kL, kM, kN, kO, lu, d0, d1, lgx]
    refine KGCall.intro (by simp only [kS1, bLookup, bMapSet, wantA, isCall, stepOp, evalO, evalL, evalP, evalM, putDst, flat, kA, kB, Nat.reduceLT, ↓reduceIte, kC, Nat.reduceEqDiff, aBuiltin, abinG, guardFree, abin, aInt, aUn, aNilCheck, retQ, retQ1, aresults, aresultL, aresult, mkF, undefV, reduceCtorEq, kD, kE, kF, kG, kH, kI, kJ, kK, aExtract, calleeOf] <;> rfl) ⟨Try.func48, rfl, by decide⟩ right4 ?_
    rintro x h5 w5 ⟨⟨bb, rfl, hbb⟩, l5⟩
    obtain rfl : bb = true := hbb.2 hbR
    have lgx5 := (lG4 h5 l5).1
    simp only [kS1, bLookup, bMapSet, wantA, isCall, stepOp, evalO, evalL, evalP, evalM, putDst, flat, kA, kB, Nat.reduceLT, ↓reduceIte, kC, Nat.reduceEqDiff, aBuiltin, abinG, guardFree, abin, aInt, aUn, aNilCheck, retQ, retQ1, aresults, aresultL, aresult, mkF, undefV, reduceCtorEq, kD, kE, kF, kG, kH, kI, kJ, kK, aExtract, calleeOf, kD1, Nat.reduceBEq, HoldsAll, kL, kM, kN, kO, lu, d0, d1, lgx, lgx5]
  rotate_left
  focus
    obtain ⟨k, hk⟩ : ∃ k, i = k + 1 := ⟨i - 1, by omega⟩
    have hkl : k < bs.length := by omega
    have hbk := getElem?_of hkl
    have adk := hl.addr (P := Try.prog) Try.underlying38 Try.underlying22 (by kernel_rfl) (k := .i64) k hkl
    obtain ⟨u', ldk, hu'⟩ := hl.load' (P := Try.prog) Try.underlying22 rfl k hkl
    generalize bs[k] = b' at hbk hu'
    obtain ⟨p0, hp0⟩ : ∃ p0, b'[0]? = some p0 := by
      cases b' with
      | nil => exact absurd rfl (A.ne _ (List.mem_of_getElem? hbk))
      | cons x r => exact ⟨x, rfl⟩
    have hb0' : 0 < b'.length := (List.getElem?_eq_some_iff.1 hp0).1
    have ad0' : aIndexAddr Try.prog 22 u' (.int .i64 0) = some (.pointer (some (pAddr u' 0))) := by simpa using hu'.addr (k := .i64) 0 hb0'
    have hasc := A.asc k b' b p0 q0 hbk (by rw [← hk]; exact hbi) hp0 hq0
    have d1 : decide ((i : Int) > 0) = true := decide_eq_true (by omega)
    have d2 : decide (p0.1 > q0.1) = false := decide_eq_false (by omega)
    have wk : awrap .i64 ((i : Int) - 1) = (k : Int) := by rw [awrap_i64 _ (by omega) (by omega)]; omega
    have ldk4 := ldk h4 (le1.trans leq4)
    have hu'4 := hu'.le (le1.trans leq4)
    have hd34 : (decide (p0.1 = q0.1) = false) ∨ (decide (p0.1 = q0.1) = true ∧ decide (p0.2 ≥ q0.2) = false) := by
      rcases hasc with h | ⟨h, h'⟩
      · exact .inl (decide_eq_false (by omega))
      · exact .inr ⟨decide_eq_true h, decide_eq_false (by omega)⟩
    refine KDraw.intro mixed (.fl 0 (.fl 1 (.fl 2 (.fl 3 (.fl 4 (.ch 5 [3, 4] (.fl 6 (.fl 7 (.fl 8 (.fl 9 (.fl 10 (.fl 11 (.fl 12 (.fl 13 (.fl 14 (.fl 15 (.fl 16 (.fl 17 (.fl 18 (.fl 19 (.fl 20 (.fl 21 (.fl 22 (.fl 23 (.fl 24 (.fl 25 (.fl 26 (.fl 27 (.fl 28 (.fl 29 (.fl 30 (.fl 31 (.fl 32 (.fl 33 (.fl 34 (.fl 35 (.fl 36 (.fl 37 (.fl 38 (.fl 39 (.fl 40 (.fl 41 (.fl 42 (.fl 43 (.fl 44 (.fl 45 (.fl 46 (.fl 47 (.fl 48 (.fl 49 (.fl 50 (.fl 51 (.fl 52 (.fl 53 (.fl 54 (.fl 55 (.fl 56 (.done)))))))))))))))))))))))))))))))))))))))))))))))))))) .no)))))) (by kernel_rfl) ?_
    simp only [kS1, bLookup, bMapSet, wantA, isCall, stepOp, evalO, evalL, evalP, evalM, putDst, flat, kA, kB, Nat.reduceLT, ↓reduceIte, kC, Nat.reduceEqDiff, aBuiltin, abinG, guardFree, abin, aInt, aUn, aNilCheck, retQ, retQ1, aresults, aresultL, aresult, mkF, undefV, reduceCtorEq, kD, kE, kF, kG, kH, kI, kJ, kK, aExtract, calleeOf, kD1, Nat.reduceBEq, HoldsAll, kL, kM, kN, kO, lu, d0, d1, lgx]
    refine KGCall.intro (by simp only [kS1, bLookup, bMapSet, wantA, isCall, stepOp, evalO, evalL, evalP, evalM, putDst, flat, kA, kB, Nat.reduceLT, ↓reduceIte, kC, Nat.reduceEqDiff, aBuiltin, abinG, guardFree, abin, aInt, aUn, aNilCheck, retQ, retQ1, aresults, aresultL, aresult, mkF, undefV, reduceCtorEq, kD, kE, kF, kG, kH, kI, kJ, kK, aExtract, calleeOf] <;> rfl) ⟨Try.func48, rfl, by decide⟩ right4 ?_
    rintro x h5 w5 ⟨⟨bb, rfl, hbb⟩, l5⟩
    obtain rfl : bb = true := hbb.2 hbR
    have lgx5 := (lG4 h5 l5).1
    have ldk5 := ldk h5 (le1.trans (leq4.trans l5))
    have hu'5 := hu'4.le l5
    have hu5 := hu4.le l5
    rcases hd34 with d3 | ⟨d3, d4⟩
    focus
      simp only [kS1, bLookup, bMapSet, wantA, isCall, stepOp, evalO, evalL, evalP, evalM, putDst, flat, kA, kB, Nat.reduceLT, ↓reduceIte, kC, Nat.reduceEqDiff, aBuiltin, abinG, guardFree, abin, aInt, aUn, aNilCheck, retQ, retQ1, aresults, aresultL, aresult, mkF, undefV, reduceCtorEq, kD, kE, kF, kG, kH, kI, kJ, kK, aExtract, calleeOf, kD1, Nat.reduceBEq, HoldsAll, kL, kM, kN, kO, lu, d0, d1, lgx, lgx5, wk, adk, ldk4, ldk5, ad0, ad0', pa0, pa1, hu'4.l0 hp0, hu4.l0 hq0, hu'5.l0 hp0, hu5.l0 hq0, d2, d3]
    rotate_left
    focus
      simp only [kS1, bLookup, bMapSet, wantA, isCall, stepOp, evalO, evalL, evalP, evalM, putDst, flat, kA, kB, Nat.reduceLT, ↓reduceIte, kC, Nat.reduceEqDiff, aBuiltin, abinG, guardFree, abin, aInt, aUn, aNilCheck, retQ, retQ1, aresults, aresultL, aresult, mkF, undefV, reduceCtorEq, kD, kE, kF, kG, kH, kI, kJ, kK, aExtract, calleeOf, kD1, Nat.reduceBEq, HoldsAll, kL, kM, kN, kO, lu, d0, d1, lgx, lgx5, wk, adk, ldk4, ldk5, ad0, ad0', pa0, pa1, hu'4.l0 hp0, hu4.l0 hq0, hu'5.l0 hp0, hu5.l0 hq0, hu'4.l1 hp0, hu4.l1 hq0, hu'5.l1 hp0, hu5.l1 hq0, d2, d3, d4]
    rotate_left
  all_goals
    have leq5 := leq4.trans l5
    have oM5 := l5.own _ _ (l4.own _ _ oM)
    refine KLoop.intro (fun k fr hh => ∃ (j : Nat) (al : List (Pr × Int)), k = b.length - j ∧ j ≤ b.length ∧ fr = mkF [(1, lv), (2, .pointer (some ⟨B, 0, none⟩)), (6, .map (some M)), (7, .int .i64 i), (15, lv), (16, .int .i64 bs.length), (17, .int .i64 i), (83, u), (84, .int .i64 b.length), (85, .int .i64 j)] ∧
        hh.own M = some (.map (mapP al)) ∧ (al.map (·.1)).Nodup ∧ (∀ p x, lookK al p = some x ↔ Met bs i j p x) ∧ Le h1 hh)
      b.length [(1, lv), (2, .pointer (some ⟨B, 0, none⟩)), (6, .map (some M)), (7, .int .i64 i), (15, lv), (16, .int .i64 bs.length), (17, .int .i64 i), (83, u), (84, .int .i64 b.length), (85, .int .i64 (0 : Nat))] (by simp only [hasAll, kS1, bLookup, bMapSet, wantA, isCall, stepOp, evalO, evalL, evalP, evalM, putDst, flat, kA, kB, Nat.reduceLT, ↓reduceIte, kC, Nat.reduceEqDiff, aBuiltin, abinG, guardFree, abin, aInt, aUn, aNilCheck, retQ, retQ1, aresults, aresultL, aresult, mkF, undefV, reduceCtorEq, kD, kE, kF, kG, kH, kI, kJ, kK, aExtract, calleeOf]; simp)
      ⟨0, al, rfl, Nat.zero_le _, rfl, oM5, hnd, hal, leq5⟩ ?_
    clear hal hnd oM5 oM
    clear al
    rintro k' fr hz hwz ⟨j, al, rfl, hj, rfl, oMz, hnd, hal, lez⟩
    simp only [kS1, bLookup, bMapSet, wantA, isCall, stepOp, evalO, evalL, evalP, evalM, putDst, flat, kA, kB, Nat.reduceLT, ↓reduceIte, kC, Nat.reduceEqDiff, aBuiltin, abinG, guardFree, abin, aInt, aUn, aNilCheck, retQ, retQ1, aresults, aresultL, aresult, mkF, undefV, reduceCtorEq, kD, kE, kF, kG, kH, kI, kJ, kK, aExtract, calleeOf]
    refine KCond.intro (fun ht => ?_) (fun hf => ?_)
    rotate_left
    · have hge : b.length ≤ j := lt_f hf
      simp only [kS1, bLookup, bMapSet, wantA, isCall, stepOp, evalO, evalL, evalP, evalM, putDst, flat, kA, kB, Nat.reduceLT, ↓reduceIte, kC, Nat.reduceEqDiff, aBuiltin, abinG, guardFree, abin, aInt, aUn, aNilCheck, retQ, retQ1, aresults, aresultL, aresult, mkF, undefV, reduceCtorEq, kD, kE, kF, kG, kH, kI, kJ, kK, aExtract, calleeOf, awrap_succ i (by omega)]
      refine loop_again (bs.length - (i + 1)) [(1, lv), (2, .pointer (some ⟨B, 0, none⟩)), (6, .map (some M)), (15, lv), (16, .int .i64 bs.length), (17, .int .i64 (i + 1 : Nat))] (by omega) (by simp only [hasAll, kS1, bLookup, bMapSet, wantA, isCall, stepOp, evalO, evalL, evalP, evalM, putDst, flat, kA, kB, Nat.reduceLT, ↓reduceIte, kC, Nat.reduceEqDiff, aBuiltin, abinG, guardFree, abin, aInt, aUn, aNilCheck, retQ, retQ1, aresults, aresultL, aresult, mkF, undefV, reduceCtorEq, kD, kE, kF, kG, kH, kI, kJ, kK, aExtract, calleeOf]; simp)
        ⟨i + 1, al, rfl, hlt, rfl, oMz, hnd, fun p x => ?_, lez⟩
      rw [hal]
      constructor
      · rintro ⟨k, b', hb', rfl, ⟨h1, h2⟩ | ⟨rfl, h2⟩⟩
        · exact ⟨k, b', hb', rfl, .inl ⟨by omega, h2⟩⟩
        · exact ⟨k, b', hb', rfl, .inl ⟨by omega, List.mem_of_mem_take h2⟩⟩
      · rintro ⟨k, b', hb', rfl, ⟨h1, h2⟩ | ⟨_, h2⟩⟩
        · by_cases e : k = i
          · subst e
            rw [hbi] at hb'; injection hb' with hb'; subst hb'
            exact ⟨k, b, hbi, rfl, .inr ⟨rfl, by rw [List.take_of_length_le hge]; exact h2⟩⟩
          · exact ⟨k, b', hb', rfl, .inl ⟨by omega, h2⟩⟩
        · simp at h2
    have hlj : j < b.length := lt_t ht
    clear ht
    have hpj := getElem?_of hlj
    have htk : b.take (j + 1) = b.take j ++ [b[j]] := List.take_succ_eq_append_getElem hlj
    have hnt : b[j] ∉ b.take j := fun hm => by
      obtain ⟨x, hx⟩ := List.mem_iff_getElem?.1 hm
      rw [List.getElem?_take] at hx
      split at hx
      · have := (List.getElem?_inj (List.getElem?_eq_some_iff.1 hx).1 hbR.nodup).1 (hx.trans hpj.symm)
        omega
      · cases hx
    generalize b[j] = p at hpj htk hnt
    have hpb := List.mem_of_getElem? hpj
    have hpe := A.mem b hbm p hpb
    have huz := hu.le (le1.trans lez)
    have ad := hu.addr (k := .i64) j hlj
    have ld := huz.load hpj
    obtain ⟨h6', h6, e6, e6s, l6, w6, o6⟩ := new42 hwz p
    have nE : hz.own hz.next = none := (Le.refl hz).next hwz (Nat.le_refl _)
    have neE : hz.next ≠ M := fun e => by rw [e, oMz] at nE; cases nE
    generalize hz.next = E at *
    have oM6 := l6.own _ _ oMz
    have lez6 := lez.trans l6
    have hnone : lookK al p = none := by
      cases hk : lookK al p with
      | none => rfl
      | some x =>
        obtain ⟨k, b', hb', rfl, ⟨h1, h2⟩ | ⟨rfl, h2⟩⟩ := (hal p x).1 hk
        · have := A.dis k i b' b p hb' hbi h2 hpb; omega
        · rw [hbi] at hb'; injection hb' with hb'; subst hb'; exact absurd h2 hnt
    have lk := mapP_look oM6 p true
    rw [hnone] at lk
    simp only [cond_true, Option.isSome_none] at lk
    have lp6 := own42 o6
    have m6a := own0 o6
    have m6b := own1 o6
    have lA6 := lA h6 lez6
    simp only [kS1, bLookup, bMapSet, wantA, isCall, stepOp, evalO, evalL, evalP, evalM, putDst, flat, kA, kB, Nat.reduceLT, ↓reduceIte, kC, Nat.reduceEqDiff, aBuiltin, abinG, guardFree, abin, aInt, aUn, aNilCheck, retQ, retQ1, aresults, aresultL, aresult, mkF, undefV, reduceCtorEq, kD, kE, kF, kG, kH, kI, kJ, kK, aExtract, calleeOf, ad, ld, e6, e6s, lp6, lookP_none, lk, pa0, pa1, aadd, Nat.zero_add, m6a, m6b, lA6.1]
    refine KCall.intro (by simp only [kS1, bLookup, bMapSet, wantA, isCall, stepOp, evalO, evalL, evalP, evalM, putDst, flat, kA, kB, Nat.reduceLT, ↓reduceIte, kC, Nat.reduceEqDiff, aBuiltin, abinG, guardFree, abin, aInt, aUn, aNilCheck, retQ, retQ1, aresults, aresultL, aresult, mkF, undefV, reduceCtorEq, kD, kE, kF, kG, kH, kI, kJ, kK, aExtract, calleeOf] <;> rfl) ⟨Try.func32, rfl, by decide⟩ (Has_any W0 _ ⟨(n : Int), es⟩ p.1 p.2 h6 (hg0.le (le1.trans lez6))) ?_
    rintro x h8 w8 ⟨⟨bh, rfl, hbh⟩, l8⟩
    obtain rfl : bh = true := hbh.2 ⟨hr, by rw [hR.min hpe]; exact hpe⟩
    have o8 := l8.own _ _ o6
    have oM8 := l8.own _ _ oM6
    have lp8 := own42 o8
    have st := mapP_set oM8 p (i : Int)
    simp only [kS1, bLookup, bMapSet, wantA, isCall, stepOp, evalO, evalL, evalP, evalM, putDst, flat, kA, kB, Nat.reduceLT, ↓reduceIte, kC, Nat.reduceEqDiff, aBuiltin, abinG, guardFree, abin, aInt, aUn, aNilCheck, retQ, retQ1, aresults, aresultL, aresult, mkF, undefV, reduceCtorEq, kD, kE, kF, kG, kH, kI, kJ, kK, aExtract, calleeOf, lp8, setP_none, st, awrap_succ j (by omega)]
    refine loop_again (b.length - (j + 1)) [(1, lv), (2, .pointer (some ⟨B, 0, none⟩)), (6, .map (some M)), (7, .int .i64 i), (15, lv), (16, .int .i64 bs.length), (17, .int .i64 i), (83, u), (84, .int .i64 b.length), (85, .int .i64 (j + 1 : Nat))] (by omega) (by simp only [hasAll, kS1, bLookup, bMapSet, wantA, isCall, stepOp, evalO, evalL, evalP, evalM, putDst, flat, kA, kB, Nat.reduceLT, ↓reduceIte, kC, Nat.reduceEqDiff, aBuiltin, abinG, guardFree, abin, aInt, aUn, aNilCheck, retQ, retQ1, aresults, aresultL, aresult, mkF, undefV, reduceCtorEq, kD, kE, kF, kG, kH, kI, kJ, kK, aExtract, calleeOf]; simp)
      ⟨j + 1, _, rfl, hlj, rfl, AHeap.own_put_eq _ _ _, setK_nodup hnd _ _, fun q x => ?_, (lez6.trans l8).put _ nM⟩
    rw [lookK_set]
    by_cases e : p = q
    · subst e
      rw [if_pos rfl]
      constructor
      · intro h; injection h with h; subst h; exact ⟨i, b, hbi, rfl, .inr ⟨rfl, by rw [htk]; simp⟩⟩
      · rintro ⟨k, b', hb', rfl, ⟨h1, h2⟩ | ⟨rfl, h2⟩⟩
        · have := A.dis k i b' b p hb' hbi h2 hpb; omega
        · rfl
    · rw [if_neg e, hal]
      constructor
      · rintro ⟨k, b', hb', rfl, ⟨h1, h2⟩ | ⟨rfl, h2⟩⟩
        · exact ⟨k, b', hb', rfl, .inl ⟨h1, h2⟩⟩
        · rw [hbi] at hb'; injection hb' with hb'; subst hb'
          exact ⟨k, b, hbi, rfl, .inr ⟨rfl, by rw [htk]; simp [h2]⟩⟩
      · rintro ⟨k, b', hb', rfl, ⟨h1, h2⟩ | ⟨rfl, h2⟩⟩
        · exact ⟨k, b', hb', rfl, .inl ⟨h1, h2⟩⟩
        · rw [hbi] at hb'; injection hb' with hb'; subst hb'
          rw [htk, List.mem_append, List.mem_singleton] at h2
          rcases h2 with h2 | h2
          · exact ⟨k, b, hbi, rfl, .inr ⟨rfl, h2⟩⟩
          · exact absurd h2.symm e
end Go.Fw
namespace Go.Fw
set_option maxRecDepth 10000
theorem asc_pair {es : List Pr} : Asc es ↔ es.Pairwise fun x y => x.1 < y.1 ∨ x.1 = y.1 ∧ x.2 < y.2 := by
  rw [List.pairwise_iff_getElem]
  constructor
  · intro ha i j hi hj hij; exact ha.lt hij (List.getElem?_eq_getElem hi) (List.getElem?_eq_getElem hj)
  · intro h i j p q hij hi hj
    obtain ⟨a1, a2⟩ := List.getElem?_eq_some_iff.1 hi
    obtain ⟨b1, b2⟩ := List.getElem?_eq_some_iff.1 hj
    rw [cmpP_lt, ← a2, ← b2]; exact h i j a1 b1 hij
theorem RightG.of {n : Nat} {es : List Pr} (h200 : n ≤ 200) (hl : es.length ≤ 594) (hr : InR n es) (ha : Asc es) : RightG ⟨(n : Int), es⟩ :=
  ⟨by simp, by show (n : Int) ≤ 200; omega, hl, fun i hi p hp => ⟨hr p (List.mem_of_getElem? hp), fun q h0 hq => ha (i - 1) i q p (by omega) hq hp⟩⟩
theorem RightG.sub {n : Nat} {es fs : List Pr} (h : RightG ⟨(n : Int), es⟩) (hs : fs.Sublist es) : RightG ⟨(n : Int), fs⟩ :=
  RightG.of (by have : (n : Int) ≤ 200 := h.n1; omega) (Nat.le_trans hs.length_le h.len) (fun p hp => h.inR p (hs.subset hp)) (asc_pair.2 ((asc_pair.1 h.asc).sublist hs))
theorem blocks_get {n : Nat} {es : List Pr} {i : Nat} {b : List Pr} (h : (blocksM n es)[i]? = some b) : ∃ k, (fkM (keyE n es) es)[i]? = some k ∧ b = es.filter fun p => decide (keyE n es p = k) := by
  rw [blocksM_eq, List.getElem?_map] at h
  cases hk : (fkM (keyE n es) es)[i]? with
  | none => rw [hk] at h; cases h
  | some k => rw [hk] at h; simp at h; exact ⟨k, rfl, h.symm⟩
theorem blocks_in {n : Nat} {es : List Pr} {i : Nat} {b : List Pr} (h : (blocksM n es)[i]? = some b) {k : Int} (hk : (fkM (keyE n es) es)[i]? = some k) {p : Pr} : p ∈ b ↔ p ∈ es ∧ keyE n es p = k := by
  obtain ⟨k', h1, rfl⟩ := blocks_get h
  rw [hk] at h1; injection h1 with h1; subst h1
  rw [List.mem_filter, decide_eq_true_eq]
theorem blocks_AtS {n : Nat} {es : List Pr} (hr : RightG ⟨(n : Int), es⟩) : AtS (n : Int) es (blocksM n es) := by
  obtain ⟨nd, hmem⟩ := fk_ok (keyE n es) _ es rfl
  have hne : ∀ b ∈ blocksM n es, b ≠ [] := fun b hb => by
    obtain ⟨i, hi⟩ := List.mem_iff_getElem?.1 hb
    obtain ⟨k, hk, rfl⟩ := blocks_get hi
    obtain ⟨p, hp, e⟩ := (hmem k).1 (List.mem_of_getElem? hk)
    intro h
    have : p ∈ es.filter fun p => decide (keyE n es p = k) := List.mem_filter.2 ⟨hp, by simpa using e⟩
    rw [h] at this; cases this
  refine ⟨hne, fun b hb => ?_, fun i b b' p q hb hb' hp hq => ?_, fun b hb p hp => ?_, fun i j b b' p hb hb' hp hp' => ?_, fun p hp => ?_, ?_⟩
  · obtain ⟨i, hi⟩ := List.mem_iff_getElem?.1 hb
    obtain ⟨k, hk, rfl⟩ := blocks_get hi
    exact hr.sub List.filter_sublist
  · obtain ⟨k, hk, e⟩ := blocks_get hb
    obtain ⟨k', hk', e'⟩ := blocks_get hb'
    obtain ⟨x, r, h1, h2, h3⟩ := fk_first (keyE n es) _ es rfl i (i + 1) k k' (by omega) hk hk'
    have hq1 := (blocks_in hb' hk').1 (List.mem_of_getElem? hq)
    obtain ⟨y, hy⟩ := List.mem_iff_getElem?.1 hq1.1
    have hxy := h3 y q hy hq1.2
    have hrq := hr.asc.lt hxy h1 hy
    -- the first one of b is r or lies ahead of it
    have hrb : r ∈ b := (blocks_in hb hk).2 ⟨List.mem_of_getElem? h1, h2⟩
    have hbA : b.Pairwise fun x y => x.1 < y.1 ∨ x.1 = y.1 ∧ x.2 < y.2 := by rw [e]; exact (asc_pair.1 hr.asc).filter _
    cases b with
    | nil => cases hrb
    | cons z t =>
      simp at hp; subst hp
      rw [List.pairwise_cons] at hbA
      rw [List.mem_cons] at hrb
      rcases hrb with rfl | hrb
      · exact hrq
      · have := hbA.1 r hrb; omega
  · obtain ⟨i, hi⟩ := List.mem_iff_getElem?.1 hb
    obtain ⟨k, hk, rfl⟩ := blocks_get hi
    exact (List.mem_filter.1 hp).1
  · obtain ⟨k, hk, _⟩ := blocks_get hb
    obtain ⟨k', hk', _⟩ := blocks_get hb'
    have h1 := ((blocks_in hb hk).1 hp).2
    have h2 := ((blocks_in hb' hk').1 hp').2
    rw [h1] at h2; subst h2
    exact (List.getElem?_inj (List.getElem?_eq_some_iff.1 hk).1 nd).1 (hk.trans hk'.symm)
  · obtain ⟨i, hi⟩ := List.mem_iff_getElem?.1 ((hmem _).2 ⟨p, hp, rfl⟩)
    have hbi : (blocksM n es)[i]? = some (es.filter fun q => decide (keyE n es q = keyE n es p)) := by
      rw [blocksM_eq, List.getElem?_map, hi]; rfl
    exact ⟨_, List.mem_of_getElem? hbi, List.mem_filter.2 ⟨hp, by simp⟩⟩
  · rw [blocksM_eq, List.length_map]
    have h1 : (fkM (keyE n es) es).length ≤ (es.map (keyE n es)).length := nd.length_le_of_subset fun x hx => by
      obtain ⟨p, hp, e⟩ := (hmem x).1 hx; exact List.mem_map.2 ⟨p, hp, e⟩
    have h2 : es.length ≤ 594 := hr.len
    simp at h1; omega
theorem met_ex {n : Nat} {es : List Pr} (hr : RightG ⟨(n : Int), es⟩) {p : Pr} (hp : p ∈ es) : ∃ (k : Nat) (b : List Pr), (blocksM n es)[k]? = some b ∧ p ∈ b ∧ Met (blocksM n es) (blocksM n es).length 0 p (k : Int) := by
  obtain ⟨b, hb, hpb⟩ := (blocks_AtS hr).all p hp
  obtain ⟨k, hk⟩ := List.mem_iff_getElem?.1 hb
  exact ⟨k, b, hk, hpb, k, b, hk, rfl, .inl ⟨(List.getElem?_eq_some_iff.1 hk).1, hpb⟩⟩
theorem met_key {n : Nat} {es : List Pr} (hr : RightG ⟨(n : Int), es⟩) {p q : Pr} {x y : Int} (h1 : Met (blocksM n es) (blocksM n es).length 0 p x) (h2 : Met (blocksM n es) (blocksM n es).length 0 q y) : x = y ↔ keyE n es p = keyE n es q := by
  obtain ⟨nd, hmem⟩ := fk_ok (keyE n es) _ es rfl
  obtain ⟨i, b, hb, rfl, ⟨_, hp⟩ | ⟨_, h⟩⟩ := h1
  · obtain ⟨j, b', hb', rfl, ⟨_, hq⟩ | ⟨_, h⟩⟩ := h2
    · obtain ⟨k, hk, _⟩ := blocks_get hb
      obtain ⟨k', hk', _⟩ := blocks_get hb'
      have e1 := ((blocks_in hb hk).1 hp).2
      have e2 := ((blocks_in hb' hk').1 hq).2
      rw [e1, e2]
      constructor
      · intro e
        have : i = j := by omega
        subst this; rw [hk] at hk'; injection hk'
      · intro e; subst e
        have := (List.getElem?_inj (List.getElem?_eq_some_iff.1 hk).1 nd).1 (hk.trans hk'.symm)
        rw [this]
    · simp at h
  · simp at h
def incB (v : Int) (p : Pr) : Bool := decide (p.1 = v) || decide (p.2 = v)
def woV (es : List Pr) (v : Nat) : List Pr := es.filter fun p => !incB (v : Int) p
theorem woV_adj {es : List Pr} {v x y : Nat} : adj (woV es v) x y ↔ adj es x y ∧ x ≠ v ∧ y ≠ v := by
  simp only [adj, woV, incB, List.mem_filter, Bool.not_eq_true', Bool.or_eq_false_iff, decide_eq_false_iff_not]
  constructor
  · rintro (⟨h, k1, k2⟩ | ⟨h, k1, k2⟩)
    · exact ⟨.inl h, fun e => k1 (by rw [e]), fun e => k2 (by rw [e])⟩
    · exact ⟨.inr h, fun e => k2 (by rw [e]), fun e => k1 (by rw [e])⟩
  · rintro ⟨h | h, k1, k2⟩
    · exact .inl ⟨h, by omega, by omega⟩
    · exact .inr ⟨h, by omega, by omega⟩
theorem woV_con {es : List Pr} {v a b : Nat} (ha : a ≠ v) : Con (woV es v) a b ↔ Cn (wo v) es a b := by
  constructor
  · intro h
    induction h with
    | refl _ => exact .refl (wo_ne ha)
    | step _ a _ ih => exact ih.step (woV_adj.1 a).1 (wo_ne (woV_adj.1 a).2.2)
  · intro h
    induction h with
    | refl _ => exact Con.refl _ _
    | step c a o ih => exact .step ih (woV_adj.2 ⟨a, by simpa [wo] using c.off2, by simpa [wo] using o⟩) rfl
end Go.Fw
