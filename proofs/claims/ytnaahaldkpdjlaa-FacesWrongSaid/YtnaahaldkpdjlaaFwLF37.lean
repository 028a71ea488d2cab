/- A text of the proof. -/
import Derived.Test.YtnaahaldkpdjlaaFwLF36
import Derived.Test.YtnaahaldkpdjlaaFwLF13
set_option linter.unusedSimpArgs false
set_option linter.unusedVariables false
namespace Go.Fw
open Go.Proofs
attribute [local irreducible] KO4 KO3 KO2 KO1 KO KN KX KE VK KCond KDraw KCall KLoop
set_option maxHeartbeats 16000000
set_option maxRecDepth 10000
attribute [local instance] Classical.propDecidable
attribute [local irreducible] facesM PlaneM besM
theorem CopyP.base {h0 h0' h : AHeap} {x : Value} {us : List Value} {rs : List (List Int)} (C : CopyP h0 h x us rs) (l : Le h0' h0) : CopyP h0' h x us rs :=
 ⟨C.sl, C.one, C.len, C.gs, C.nx, C.dis, fun b hb => l.none (C.ax b hb), fun i u hu b hb => l.none (C.au i u hu b hb), l.trans C.le⟩
theorem mkS4 {h : AHeap} {a b c d : Value} {na nb nc nd : Nat} (ha : isSl a na) (hb : isSl b nb) (hc : isSl c nc) (hd : isSl d nd) : aBuildSlice Try.prog h 64 4 [(0, a), (1, b), (2, c), (3, d)] = some (.slice (some ⟨h.next, 0, none⟩) 4 4, h.alloc (.cells [a, b, c, d])) := by
 obtain ⟨_, _, rfl, _⟩ := ha
 obtain ⟨_, _, rfl, _⟩ := hb
 obtain ⟨_, _, rfl, _⟩ := hc
 obtain ⟨_, _, rfl, _⟩ := hd
 kernel_rfl
theorem mkS3 {h : AHeap} {a b c : Value} {na nb nc : Nat} (ha : isSl a na) (hb : isSl b nb) (hc : isSl c nc) : aBuildSlice Try.prog h 64 3 [(0, a), (1, b), (2, c)] = some (.slice (some ⟨h.next, 0, none⟩) 3 3, h.alloc (.cells [a, b, c])) := by
 obtain ⟨_, _, rfl, _⟩ := ha
 obtain ⟨_, _, rfl, _⟩ := hb
 obtain ⟨_, _, rfl, _⟩ := hc
 kernel_rfl
theorem rl4 {α : Type} {R : AHeap → Value → α → Prop} {h : AHeap} {id c : Nat} {a b d e : Value} {x y z w : α} (o : h.own id = some (.cells [a, b, d, e])) (h1 : R h a x) (h2 : R h b y) (h3 : R h d z) (h4 : R h e w) : RL R h (.slice (some ⟨id, 0, none⟩) 4 c) [x, y, z, w] :=
 ⟨[a, b, d, e], RS.whole o rfl, rfl, fun i q u hq hu => by
  match i with
  | 0 => simp at hq hu; subst hq hu; exact h1
  | 1 => simp at hq hu; subst hq hu; exact h2
  | 2 => simp at hq hu; subst hq hu; exact h3
  | 3 => simp at hq hu; subst hq hu; exact h4
  | i + 4 => simp at hq⟩
theorem rl3 {α : Type} {R : AHeap → Value → α → Prop} {h : AHeap} {id c : Nat} {a b d : Value} {x y z : α} (o : h.own id = some (.cells [a, b, d])) (h1 : R h a x) (h2 : R h b y) (h3 : R h d z) : RL R h (.slice (some ⟨id, 0, none⟩) 3 c) [x, y, z] :=
 ⟨[a, b, d], RS.whole o rfl, rfl, fun i q u hq hu => by
  match i with
  | 0 => simp at hq hu; subst hq hu; exact h1
  | 1 => simp at hq hu; subst hq hu; exact h2
  | 2 => simp at hq hu; subst hq hu; exact h3
  | i + 3 => simp at hq⟩
theorem rot_tail {h : AHeap} {L n : Nat} {rs : List (List Int)} (r : RL (RL isI) h (.slice (some ⟨L, 0, none⟩) n n) rs) (hn : rs.length = n) (h2 : 2 ≤ n) (h3 : n ≤ 1000) : ∃ v', aSlice Try.prog 52 (.slice (some ⟨L, 0, none⟩) n n) (some (.int .i64 1)) none none = some v' ∧ RL (RL isI) h v' (rs.drop 1) := by
 obtain ⟨vs, q, hl, hr⟩ := r
 have hno : ¬ UNK ≤ n := Nat.not_le.2 (Nat.lt_of_le_of_lt h3 (by decide))
 have ts : tsize Try.prog 38 = 1 := by kernel_rfl
 have n1 : (1 : Int) ≤ n := by omega
 have nz : ¬ n = 1 := by omega
 have p := q.part (cap' := n - 1) (lo := 1) (hi := n) (by omega) (Nat.le_refl _) (by omega)
 have e : (vs.drop 1).take (n - 1) = vs.drop 1 := List.take_of_length_le (by rw [List.length_drop]; omega)
 rw [e] at p
 refine ⟨.slice (some (aadd ⟨L, 0, none⟩ 1)) (n - 1) (n - 1), ?_, vs.drop 1, p, by rw [List.length_drop, List.length_drop, hl], fun i x u hx hu => ?_⟩
 ·simp [aSlice, Try.underlying52, Try.underlying38, ts, aBounds, aBound, n1, hno, nz]
 ·rw [List.getElem?_drop] at hx hu
  exact hr _ _ _ hx hu
theorem pidx {p : Pr} {k : Nat} (hk : k < 2) {h : AHeap} {E : Nat} (o : h.own E = some (.cells (cellsP p))) : aIndexAddr Try.prog 61 (.pointer (some ⟨E, 0, none⟩)) (.int .i64 (k : Int)) = some (.pointer (some ⟨E, k, none⟩)) ∧ aload Try.prog h 3 ⟨E, k, none⟩ = some (.int .i64 (if k = 0 then p.1 else p.2)) := by
 match k, hk with
 | 0, _ => exact ⟨by kernel_rfl, own0 o⟩
 | 1, _ => exact ⟨by kernel_rfl, own1 o⟩
theorem Wrong_law (W0 : Base) (v ov : Value) (G : GM) (os : List Int) (at_ to : Int) (h : AHeap) (hg : GR h v G) (ho : RL isH h ov os) :
  AC Try.prog W0 7 [v, ov, .int .i64 at_, .int .i64 to] h fun x h' => x = .bool true ∧ True := by
 have hg0 := hg
 obtain ⟨gn, es⟩ := G
 obtain ⟨ev, rfl, hp⟩ := hg.open
 refine AC.vc (fn := Try.f7) (c := _) ⟨Try.func7, rfl, by decide⟩ Try.ntmps7 Try.results7 (by simp) fun hwf => ?_
 simp only [argFrame, argFrom, Nat.reduceAdd]
 obtain ⟨h1, b1, le1, wf1, -, lA⟩ := boxG (n := gn) hwf hp
 generalize h.next = B at *
 have lA1 := lA h1 (Le.refl _)
 have hlen := fun g => hp.len g
 simp only [kS1, bLookup, bMapSet, wantA, isCall, stepOp, evalO, evalL, evalP, evalM, putDst, flat, kA, kB, Nat.reduceLT, ↓reduceIte, kC, Nat.reduceEqDiff, aBuiltin, abinG, guardFree, abin, aInt, aUn, aNilCheck, retQ, retQ1, aresults, aresultL, aresult, mkF, undefV, reduceCtorEq, kD, kE, kF, kG, kH, kI, kJ, kK, aExtract, calleeOf, b1, lA1.1]
 refine KCall.intro (by simp only [kS1, bLookup, bMapSet, wantA, isCall, stepOp, evalO, evalL, evalP, evalM, putDst, flat, kA, kB, Nat.reduceLT, ↓reduceIte, kC, Nat.reduceEqDiff, aBuiltin, abinG, guardFree, abin, aInt, aUn, aNilCheck, retQ, retQ1, aresults, aresultL, aresult, mkF, undefV, reduceCtorEq, kD, kE, kF, kG, kH, kI, kJ, kK, aExtract, calleeOf] <;> rfl) ⟨Try.func26, rfl, by decide⟩ (right7_any W0 _ _ h1 (hg0.le le1)) ?_
 rintro x h2 w2 ⟨⟨b, rfl, hbb⟩, l2⟩
 have lA2 := lA h2 l2
 cases b with
 | false =>
  simp only [kS1, bLookup, bMapSet, wantA, isCall, stepOp, evalO, evalL, evalP, evalM, putDst, flat, kA, kB, Nat.reduceLT, ↓reduceIte, kC, Nat.reduceEqDiff, aBuiltin, abinG, guardFree, abin, aInt, aUn, aNilCheck, retQ, retQ1, aresults, aresultL, aresult, mkF, undefV, reduceCtorEq, kD, kE, kF, kG, kH, kI, kJ, kK, aExtract, calleeOf]
  refine KCall.intro (by simp only [kS1, bLookup, bMapSet, wantA, isCall, stepOp, evalO, evalL, evalP, evalM, putDst, flat, kA, kB, Nat.reduceLT, ↓reduceIte, kC, Nat.reduceEqDiff, aBuiltin, abinG, guardFree, abin, aInt, aUn, aNilCheck, retQ, retQ1, aresults, aresultL, aresult, mkF, undefV, reduceCtorEq, kD, kE, kF, kG, kH, kI, kJ, kK, aExtract, calleeOf] <;> rfl) ⟨Try.func27, rfl, by decide⟩ (awake7_any W0 h2) ?_
  rintro x h3 w3 ⟨rfl, l3⟩
  simp only [kS1, bLookup, bMapSet, wantA, isCall, stepOp, evalO, evalL, evalP, evalM, putDst, flat, kA, kB, Nat.reduceLT, ↓reduceIte, kC, Nat.reduceEqDiff, aBuiltin, abinG, guardFree, abin, aInt, aUn, aNilCheck, retQ, retQ1, aresults, aresultL, aresult, mkF, undefV, reduceCtorEq, kD, kE, kF, kG, kH, kI, kJ, kK, aExtract, calleeOf]
  all_goals exact ⟨trivial, trivial⟩
 | true =>
 obtain ⟨hr, h30⟩ := hbb.1 rfl
 clear hbb
 have h0 : 0 ≤ gn := hr.n0
 obtain ⟨n, rfl⟩ := Int.eq_ofNat_of_zero_le h0
 have hR := hr.inR
 have hA := hr.asc
 have h594 : es.length ≤ 594 := hr.len
 by_cases c0 : es.length = 0
 ·have d0 : decide (((es.length : Nat) : Int) = 0) = true := decide_eq_true (by omega)
  simp only [kS1, bLookup, bMapSet, wantA, isCall, stepOp, evalO, evalL, evalP, evalM, putDst, flat, kA, kB, Nat.reduceLT, ↓reduceIte, kC, Nat.reduceEqDiff, aBuiltin, abinG, guardFree, abin, aInt, aUn, aNilCheck, retQ, retQ1, aresults, aresultL, aresult, mkF, undefV, reduceCtorEq, kD, kE, kF, kG, kH, kI, kJ, kK, aExtract, calleeOf, fg1, aadd, Nat.zero_add, lA2.2.2, hlen, d0]
  refine KCall.intro (by simp only [kS1, bLookup, bMapSet, wantA, isCall, stepOp, evalO, evalL, evalP, evalM, putDst, flat, kA, kB, Nat.reduceLT, ↓reduceIte, kC, Nat.reduceEqDiff, aBuiltin, abinG, guardFree, abin, aInt, aUn, aNilCheck, retQ, retQ1, aresults, aresultL, aresult, mkF, undefV, reduceCtorEq, kD, kE, kF, kG, kH, kI, kJ, kK, aExtract, calleeOf] <;> rfl) ⟨Try.func27, rfl, by decide⟩ (awake7_any W0 h2) ?_
  rintro x h3 w3 ⟨rfl, l3⟩
  simp only [kS1, bLookup, bMapSet, wantA, isCall, stepOp, evalO, evalL, evalP, evalM, putDst, flat, kA, kB, Nat.reduceLT, ↓reduceIte, kC, Nat.reduceEqDiff, aBuiltin, abinG, guardFree, abin, aInt, aUn, aNilCheck, retQ, retQ1, aresults, aresultL, aresult, mkF, undefV, reduceCtorEq, kD, kE, kF, kG, kH, kI, kJ, kK, aExtract, calleeOf]
  all_goals exact ⟨trivial, trivial⟩
 have d0 : decide (((es.length : Nat) : Int) = 0) = false := decide_eq_false (by omega)
 simp only [kS1, bLookup, bMapSet, wantA, isCall, stepOp, evalO, evalL, evalP, evalM, putDst, flat, kA, kB, Nat.reduceLT, ↓reduceIte, kC, Nat.reduceEqDiff, aBuiltin, abinG, guardFree, abin, aInt, aUn, aNilCheck, retQ, retQ1, aresults, aresultL, aresult, mkF, undefV, reduceCtorEq, kD, kE, kF, kG, kH, kI, kJ, kK, aExtract, calleeOf, fg1, aadd, Nat.zero_add, lA2.2.2, hlen, d0, lA2.1]
 refine KCall.intro (by simp only [kS1, bLookup, bMapSet, wantA, isCall, stepOp, evalO, evalL, evalP, evalM, putDst, flat, kA, kB, Nat.reduceLT, ↓reduceIte, kC, Nat.reduceEqDiff, aBuiltin, abinG, guardFree, abin, aInt, aUn, aNilCheck, retQ, retQ1, aresults, aresultL, aresult, mkF, undefV, reduceCtorEq, kD, kE, kF, kG, kH, kI, kJ, kK, aExtract, calleeOf] <;> rfl) ⟨Try.func28, rfl, by decide⟩ (AroundV_any W0 _ ov n es os h2 (hg0.le (le1.trans l2)) (ho.le Stays.isH (le1.trans l2)) hr) ?_
 rintro rv h3 w3 ⟨rs, L, G, rg, l3, rfl⟩
 have rr := rlG_rl rg
 have l13 := l2.trans l3
 have L3 := le1.trans l13
 have hn30 : rs.length ≤ 30 := by rw [G.len]; simp only at h30; omega
 have lA3 := lA h3 l13
 have hp3 := hp.le L3
 simp only [kS1, bLookup, bMapSet, wantA, isCall, stepOp, evalO, evalL, evalP, evalM, putDst, flat, kA, kB, Nat.reduceLT, ↓reduceIte, kC, Nat.reduceEqDiff, aBuiltin, abinG, guardFree, abin, aInt, aUn, aNilCheck, retQ, retQ1, aresults, aresultL, aresult, mkF, undefV, reduceCtorEq, kD, kE, kF, kG, kH, kI, kJ, kK, aExtract, calleeOf]
 apply byOne2 (F := fun (fr : AFrame) (h5 : AHeap) => ∃ (E : Nat) (p : Pr), hasAll fr [(2, .int .i64 at_), (3, .int .i64 to), (4, .pointer (some ⟨B, 0, none⟩)), (9, .slice (some ⟨L, 0, none⟩) n n), (10, .pointer (some ⟨E, 0, none⟩))] ∧ Le h3 h5 ∧ WF h5 ∧ p ∈ es ∧ h5.own E = some (.cells (cellsP p)))
 ·intro cont
  refine KDraw.intro mixed (.fl 0 (.fl 1 (.fl 2 (.fl 3 (.fl 4 (.fl 5 (.ch 6 [2, 5] (.fl 7 (.fl 8 (.ch 9 [] (.ch 10 [0, 1, 2, 3, 4, 5, 6, 7, 8, 9] (.done) .no) .no))) (.ch 9 [] (.ch 6 [2, 5] (.fl 7 (.fl 8 (.ch 10 [0, 1, 2, 3, 4, 5, 6, 7, 8, 9] (.done) .no))) .no) .no)))))))) (by kernel_rfl) ?_
  obtain ⟨q1, y1, m1, v1, u1⟩ : ∃ g, h3.alloc (.cells [.int .i64 0, .int .i64 0]) = g ∧ Le h3 g ∧ WF g ∧ g.own h3.next = some (.cells [.int .i64 0, .int .i64 0]) := alloc_f w3 _
  have al1 : aAlloc Try.prog h3 61 = some (.pointer (some ⟨h3.next, 0, none⟩), q1) := by rw [← y1]; rfl
  have Q1 := lA q1 (l13.trans m1)
  simp only [kJ1, bLookup, bMapSet, wantA, isCall, stepOp, evalO, evalL, evalP, evalM, putDst, flat, kA, kB, Nat.reduceLT, ↓reduceIte, kC, Nat.reduceEqDiff, aBuiltin, abinG, guardFree, abin, aInt, aUn, aNilCheck, retQ, retQ1, aresults, aresultL, aresult, mkF, undefV, reduceCtorEq, kD, kE, kF, kG, kH, kI, kJ, kK, aExtract, calleeOf, kD1, Nat.reduceBEq, HoldsAll, kL, kM, kN, kO, fg0, fg1, aadd, Nat.zero_add, lA3.2.1, lA3.2.2, al1, Q1.2.1, Q1.2.2, hlen]
  refine ⟨?_, ?_⟩
  ·refine KGCall.intro (by simp only [kS1, bLookup, bMapSet, wantA, isCall, stepOp, evalO, evalL, evalP, evalM, putDst, flat, kA, kB, Nat.reduceLT, ↓reduceIte, kC, Nat.reduceEqDiff, aBuiltin, abinG, guardFree, abin, aInt, aUn, aNilCheck, retQ, retQ1, aresults, aresultL, aresult, mkF, undefV, reduceCtorEq, kD, kE, kF, kG, kH, kI, kJ, kK, aExtract, calleeOf] <;> rfl) ⟨Try.func34, rfl, by decide⟩ (Pick_any W0 at_ es.length (by omega) (by omega) h3) ?_
   rintro x h4 w4 ⟨⟨k, hk, rfl⟩, rfl⟩
   have hpi := getElem?_of hk
   have ad := hp.addr (k := .i64) k hk
   have ld := hp3.load hpi
   have hmem := List.getElem_mem hk
   generalize es[k] = p at *
   obtain ⟨h5', h5, e5, s5, l5, w5, o5⟩ := new42 w4 p
   have l5' : Le h4 h5' := by
    have : aAlloc Try.prog h4 61 = some (.pointer (some ⟨h4.next, 0, none⟩), h4.alloc (.cells [.int .i64 0, .int .i64 0])) := rfl
    rw [e5] at this; injection this with this; injection this with _ this; rw [this]; exact (Le.refl h4).alloc w4 _
   have A5' := lA h5' (l13.trans l5')
   have A5 := lA h5 (l13.trans l5)
   have ld5' := (hp3.le l5').load hpi
   have ld5 := (hp3.le l5).load hpi
   simp only [kJ1, bLookup, bMapSet, wantA, isCall, stepOp, evalO, evalL, evalP, evalM, putDst, flat, kA, kB, Nat.reduceLT, ↓reduceIte, kC, Nat.reduceEqDiff, aBuiltin, abinG, guardFree, abin, aInt, aUn, aNilCheck, retQ, retQ1, aresults, aresultL, aresult, mkF, undefV, reduceCtorEq, kD, kE, kF, kG, kH, kI, kJ, kK, aExtract, calleeOf, kD1, Nat.reduceBEq, HoldsAll, kL, kM, kN, kO, fg0, fg1, aadd, Nat.zero_add, lA3.2.1, lA3.2.2, hlen, ad, ld, e5, s5, A5'.2.2, A5.2.2, ld5', ld5]
   refine KN.gen2 fun fr' h' x y => cont fr' h' ?_
   subst x y
   exact ⟨_, p, (by simp only [hasAll, kS1, bLookup, bMapSet, wantA, isCall, stepOp, evalO, evalL, evalP, evalM, putDst, flat, kA, kB, Nat.reduceLT, ↓reduceIte, kC, Nat.reduceEqDiff, aBuiltin, abinG, guardFree, abin, aInt, aUn, aNilCheck, retQ, retQ1, aresults, aresultL, aresult, mkF, undefV, reduceCtorEq, kD, kE, kF, kG, kH, kI, kJ, kK, aExtract, calleeOf]; simp), l5, w5, hmem, o5⟩
  ·refine KGCall.intro (by simp only [kS1, bLookup, bMapSet, wantA, isCall, stepOp, evalO, evalL, evalP, evalM, putDst, flat, kA, kB, Nat.reduceLT, ↓reduceIte, kC, Nat.reduceEqDiff, aBuiltin, abinG, guardFree, abin, aInt, aUn, aNilCheck, retQ, retQ1, aresults, aresultL, aresult, mkF, undefV, reduceCtorEq, kD, kE, kF, kG, kH, kI, kJ, kK, aExtract, calleeOf] <;> rfl) ⟨Try.func34, rfl, by decide⟩ (Pick_any W0 at_ es.length (by omega) (by omega) q1) ?_
   rintro x h4 w4 ⟨⟨k, hk, rfl⟩, rfl⟩
   have hpi := getElem?_of hk
   have ad := hp.addr (k := .i64) k hk
   have ld := (hp3.le m1).load hpi
   have hmem := List.getElem_mem hk
   generalize es[k] = p at *
   have st := store42 (p := p) u1
   have n1 : h3.own h3.next = none := (Le.refl h3).next w3 (Nat.le_refl _)
   have l5 : Le h3 (h4.put h3.next (.cells (cellsP p))) := m1.put _ n1
   have A5 := lA _ (l13.trans l5)
   have ld5 := (hp3.le l5).load hpi
   simp only [kJ1, bLookup, bMapSet, wantA, isCall, stepOp, evalO, evalL, evalP, evalM, putDst, flat, kA, kB, Nat.reduceLT, ↓reduceIte, kC, Nat.reduceEqDiff, aBuiltin, abinG, guardFree, abin, aInt, aUn, aNilCheck, retQ, retQ1, aresults, aresultL, aresult, mkF, undefV, reduceCtorEq, kD, kE, kF, kG, kH, kI, kJ, kK, aExtract, calleeOf, kD1, Nat.reduceBEq, HoldsAll, kL, kM, kN, kO, fg0, fg1, aadd, Nat.zero_add, Q1.2.1, Q1.2.2, hlen, ad, ld, st, A5.2.2, ld5]
   refine KN.gen2 fun fr' h' x y => cont fr' h' ?_
   subst x y
   exact ⟨_, p, (by simp only [hasAll, kS1, bLookup, bMapSet, wantA, isCall, stepOp, evalO, evalL, evalP, evalM, putDst, flat, kA, kB, Nat.reduceLT, ↓reduceIte, kC, Nat.reduceEqDiff, aBuiltin, abinG, guardFree, abin, aInt, aUn, aNilCheck, retQ, retQ1, aresults, aresultL, aresult, mkF, undefV, reduceCtorEq, kD, kE, kF, kG, kH, kI, kJ, kK, aExtract, calleeOf]; simp), l5, w4.put _ (w4.lt u1), hmem, AHeap.own_put_eq _ _ _⟩
 rintro fr h5 ⟨E, p, hfr, l5, w5, hpm, oE⟩
 simp only [hasAll] at hfr
 obtain ⟨f2, f3, f4, f9, f10, -⟩ := hfr
 simp only [kS1, bLookup, bMapSet, wantA, isCall, stepOp, evalO, evalL, evalP, evalM, putDst, flat, kA, kB, Nat.reduceLT, ↓reduceIte, kC, Nat.reduceEqDiff, aBuiltin, abinG, guardFree, abin, aInt, aUn, aNilCheck, retQ, retQ1, aresults, aresultL, aresult, mkF, undefV, reduceCtorEq, kD, kE, kF, kG, kH, kI, kJ, kK, aExtract, calleeOf, f3, f10]
 refine KCall.intro (by simp only [kS1, bLookup, bMapSet, wantA, isCall, stepOp, evalO, evalL, evalP, evalM, putDst, flat, kA, kB, Nat.reduceLT, ↓reduceIte, kC, Nat.reduceEqDiff, aBuiltin, abinG, guardFree, abin, aInt, aUn, aNilCheck, retQ, retQ1, aresults, aresultL, aresult, mkF, undefV, reduceCtorEq, kD, kE, kF, kG, kH, kI, kJ, kK, aExtract, calleeOf] <;> rfl) ⟨Try.func34, rfl, by decide⟩ (Pick_any W0 to 2 (by omega) (by omega) h5) ?_
 rintro x h5' w5' ⟨⟨k2, hk2, rfl⟩, rfl⟩
 obtain ⟨ap, lp⟩ := pidx hk2 oE
 -- the vertex
 have hv : ∃ v : Nat, (if k2 = 0 then p.1 else p.2) = (v : Int) ∧ v < n ∧ ∃ w, adj es v w := by
  have h1 := hR p hpm
  have ep : p = (((p.1.toNat : Nat) : Int), ((p.2.toNat : Nat) : Int)) := by rw [Int.toNat_of_nonneg (by omega), Int.toNat_of_nonneg (by omega)]
  by_cases c : k2 = 0
  ·rw [if_pos c]
   exact ⟨p.1.toNat, by omega, by omega, p.2.toNat, .inl (by rw [← ep]; exact hpm)⟩
  ·rw [if_neg c]
   exact ⟨p.2.toNat, by omega, by omega, p.1.toNat, .inr (by rw [← ep]; exact hpm)⟩
 obtain ⟨v, hve, hvn, w, hvw⟩ := hv
 rw [hve] at lp
 have hvl : v < rs.length := by rw [G.len]; exact hvn
 have hgd : rs.getD v [] = rs[v] := getD_of hvl
 have h200 : (n : Int) ≤ 200 := hr.n1
 have h2n : 2 ≤ n := by have := hR p hpm; omega
 have hrl : ∀ l ∈ rs, l.length ≤ 100000 := fun l hl => by
  obtain ⟨v, hv, rfl⟩ := List.mem_iff_getElem.1 hl
  have := row_small hR hA G (v := v) (by rw [← G.len]; exact hv)
  rw [getD_of hv] at this
  omega
 have hne : 0 < rs[v].length := by
  have := ((G.bad hr hvn).2.2 w).2 hvw
  rw [hgd] at this
  exact List.length_pos_of_mem this
 have rr5 := rr.le (Stays.RL Stays.isI) l5
 have arr := rr5.addr (P := Try.prog) Try.underlying52 Try.underlying38 (by kernel_rfl) (k := .i64) v hvl
 obtain ⟨ru, lru, hru⟩ := rr5.load (P := Try.prog) Try.underlying38 rfl v hvl
 have lrw := fun g => hru.len (P := Try.prog) Try.underlying38 g
 simp only [kS1, bLookup, bMapSet, wantA, isCall, stepOp, evalO, evalL, evalP, evalM, putDst, flat, kA, kB, Nat.reduceLT, ↓reduceIte, kC, Nat.reduceEqDiff, aBuiltin, abinG, guardFree, abin, aInt, aUn, aNilCheck, retQ, retQ1, aresults, aresultL, aresult, mkF, undefV, reduceCtorEq, kD, kE, kF, kG, kH, kI, kJ, kK, aExtract, calleeOf, f2, f9, f10, ap, lp, arr, lru, lrw]
 refine KCall.intro (by simp only [kS1, bLookup, bMapSet, wantA, isCall, stepOp, evalO, evalL, evalP, evalM, putDst, flat, kA, kB, Nat.reduceLT, ↓reduceIte, kC, Nat.reduceEqDiff, aBuiltin, abinG, guardFree, abin, aInt, aUn, aNilCheck, retQ, retQ1, aresults, aresultL, aresult, mkF, undefV, reduceCtorEq, kD, kE, kF, kG, kH, kI, kJ, kK, aExtract, calleeOf] <;> rfl) ⟨Try.func34, rfl, by decide⟩ (Pick_any W0 at_ rs[v].length hne (hrl _ (List.getElem_mem hvl)) h5') ?_
 rintro x h6 w6 ⟨⟨i, hi, rfl⟩, rfl⟩
 simp only [kS1, bLookup, bMapSet, wantA, isCall, stepOp, evalO, evalL, evalP, evalM, putDst, flat, kA, kB, Nat.reduceLT, ↓reduceIte, kC, Nat.reduceEqDiff, aBuiltin, abinG, guardFree, abin, aInt, aUn, aNilCheck, retQ, retQ1, aresults, aresultL, aresult, mkF, undefV, reduceCtorEq, kD, kE, kF, kG, kH, kI, kJ, kK, aExtract, calleeOf, f9]
 refine KCall.intro (by simp only [kS1, bLookup, bMapSet, wantA, isCall, stepOp, evalO, evalL, evalP, evalM, putDst, flat, kA, kB, Nat.reduceLT, ↓reduceIte, kC, Nat.reduceEqDiff, aBuiltin, abinG, guardFree, abin, aInt, aUn, aNilCheck, retQ, retQ1, aresults, aresultL, aresult, mkF, undefV, reduceCtorEq, kD, kE, kF, kG, kH, kI, kJ, kK, aExtract, calleeOf] <;> rfl) ⟨Try.func35, rfl, by decide⟩ (CopyV_any W0 _ rs h6 rr5 (by omega) hrl) ?_
 rintro lv h7 w7 ⟨ls, CL⟩
 simp only [kS1, bLookup, bMapSet, wantA, isCall, stepOp, evalO, evalL, evalP, evalM, putDst, flat, kA, kB, Nat.reduceLT, ↓reduceIte, kC, Nat.reduceEqDiff, aBuiltin, abinG, guardFree, abin, aInt, aUn, aNilCheck, retQ, retQ1, aresults, aresultL, aresult, mkF, undefV, reduceCtorEq, kD, kE, kF, kG, kH, kI, kJ, kK, aExtract, calleeOf, f9]
 refine KCall.intro (by simp only [kS1, bLookup, bMapSet, wantA, isCall, stepOp, evalO, evalL, evalP, evalM, putDst, flat, kA, kB, Nat.reduceLT, ↓reduceIte, kC, Nat.reduceEqDiff, aBuiltin, abinG, guardFree, abin, aInt, aUn, aNilCheck, retQ, retQ1, aresults, aresultL, aresult, mkF, undefV, reduceCtorEq, kD, kE, kF, kG, kH, kI, kJ, kK, aExtract, calleeOf] <;> rfl) ⟨Try.func35, rfl, by decide⟩ (CopyV_any W0 _ rs h7 (rr5.le (Stays.RL Stays.isI) CL.le) (by omega) hrl) ?_
 rintro tv h8 w8 ⟨ts, CT⟩
 simp only [kS1, bLookup, bMapSet, wantA, isCall, stepOp, evalO, evalL, evalP, evalM, putDst, flat, kA, kB, Nat.reduceLT, ↓reduceIte, kC, Nat.reduceEqDiff, aBuiltin, abinG, guardFree, abin, aInt, aUn, aNilCheck, retQ, retQ1, aresults, aresultL, aresult, mkF, undefV, reduceCtorEq, kD, kE, kF, kG, kH, kI, kJ, kK, aExtract, calleeOf, f9]
 refine KCall.intro (by simp only [kS1, bLookup, bMapSet, wantA, isCall, stepOp, evalO, evalL, evalP, evalM, putDst, flat, kA, kB, Nat.reduceLT, ↓reduceIte, kC, Nat.reduceEqDiff, aBuiltin, abinG, guardFree, abin, aInt, aUn, aNilCheck, retQ, retQ1, aresults, aresultL, aresult, mkF, undefV, reduceCtorEq, kD, kE, kF, kG, kH, kI, kJ, kK, aExtract, calleeOf] <;> rfl) ⟨Try.func35, rfl, by decide⟩ (CopyV_any W0 _ rs h8 (rr5.le (Stays.RL Stays.isI) (CL.le.trans CT.le)) (by omega) hrl) ?_
 rintro ov2 h9 w9 ⟨us, CO⟩
 have CL9 := CL.mono (CT.le.trans CO.le)
 have CT9 := CT.mono CO.le
 -- those apart
 have dLT : ∀ b, InC lv ls b → ¬ InC tv ts b := fun b h1 h2 => CL.own h1 (CT.apart h2)
 have dLO : ∀ b, InC lv ls b → ¬ InC ov2 us b := fun b h1 h2 => (CL.mono CT.le).own h1 (CO.apart h2)
 have dTO : ∀ b, InC tv ts b → ¬ InC ov2 us b := fun b h1 h2 => CT.own h1 (CO.apart h2)
 have hrv := getElem?_of hvl
 generalize hrow : rs[v] = r at *
 have hr100 : r.length ≤ 100000 := by rw [← hrow]; exact hrl _ (List.getElem_mem hvl)
 -- without one
 have lu : v < ls.length := by rw [CL9.len]; exact hvl
 have hlu := getElem?_of lu
 generalize ls[v] = u1 at hlu
 have gu1 := CL9.gs v u1 r hlu hrv
 have ar1 := CL9.rl.addr (P := Try.prog) Try.underlying52 Try.underlying38 (by kernel_rfl) (k := .i64) v hvl
 have ld1 : aload Try.prog h9 38 (elemAddr lv v) = some u1 := by rw [aload_flat Try.underlying38 rfl]; exact (GS.cs CL9.sl).rs.get v u1 hlu
 obtain ⟨s1, es1, gs1, bs1⟩ := gu1.lo3 hi hr100
 obtain ⟨s2, es2, rs2⟩ := GI.up gu1 (i := i + 1) (by omega)
 obtain ⟨cv, hA1, eA1, gA1, wA1, fA1, kA1⟩ := GI.join gs1 w9 rs2 (by rw [List.length_take, List.length_drop]; omega)
 have ldA1 : aload Try.prog hA1 38 (elemAddr lv v) = some u1 := by
  rw [aload_flat Try.underlying38 rfl]
  have : GS 1 hA1 lv ls.length ls := GS.kept CL9.sl fun b o hb ho => (kA1 b o ho fun e => CL9.nx v u1 b hlu (bs1 b e) hb).1
  exact (GS.cs this).rs.get v u1 hlu
 obtain ⟨hB1, st1, C1, wB1, kB1⟩ := CL9.setRow hlu gA1 wA1 (fun f lf af => fA1 f lf fun b hb => af b (bs1 b hb)) (fun b o ho hb => kA1 b o ho fun e => hb (bs1 b e))
 have hwi := awrap_succ i (by omega)
 simp only [kS1, bLookup, bMapSet, wantA, isCall, stepOp, evalO, evalL, evalP, evalM, putDst, flat, kA, kB, Nat.reduceLT, ↓reduceIte, kC, Nat.reduceEqDiff, aBuiltin, abinG, guardFree, abin, aInt, aUn, aNilCheck, retQ, retQ1, aresults, aresultL, aresult, mkF, undefV, reduceCtorEq, kD, kE, kF, kG, kH, kI, kJ, kK, aExtract, calleeOf]
 refine KDraw.intro mixed (.fl 0 (.fl 1 (.fl 2 (.fl 3 (.fl 4 (.fl 5 (.fl 6 (.fl 7 (.fl 8 (.fl 9 (.fl 10 (.fl 11 (.fl 12 (.fl 13 (.fl 14 (.fl 15 (.ch 16 [8, 15] (.fl 17 (.ch 18 [0, 1, 2, 3, 4, 5, 6, 7, 8, 9, 10, 11, 12, 13, 14, 15, 16, 17] (.done) .no)) .no))))))))))))))))) (by kernel_rfl) ?_
 simp only [kS1, bLookup, bMapSet, wantA, isCall, stepOp, evalO, evalL, evalP, evalM, putDst, flat, kA, kB, Nat.reduceLT, ↓reduceIte, kC, Nat.reduceEqDiff, aBuiltin, abinG, guardFree, abin, aInt, aUn, aNilCheck, retQ, retQ1, aresults, aresultL, aresult, mkF, undefV, reduceCtorEq, kD, kE, kF, kG, kH, kI, kJ, kK, aExtract, calleeOf, kD1, Nat.reduceBEq, HoldsAll, kL, kM, kN, kO, ar1, ld1, ldA1, es1, hwi, es2, eA1, st1]
 -- one twice
 have CT10 := (CT9.base CL.le).kept (fun b o hb ho => (kB1 b o (fun h => dLT b h hb) ho).1) C1.le
 have CO10 := (CO.base (CL.le.trans CT.le)).kept (fun b o hb ho => (kB1 b o (fun h => dLO b h hb) ho).1) C1.le
 have dT1 : ∀ b, InC tv ts b → ¬ InC lv (ls.set v cv) b := fun b hb => by
  obtain ⟨o, ho⟩ := Option.ne_none_iff_exists'.1 (CT9.own hb)
  exact (kB1 b o (fun h => dLT b h hb) ho).2
 have dO1 : ∀ b, InC ov2 us b → ¬ InC lv (ls.set v cv) b := fun b hb => by
  obtain ⟨o, ho⟩ := Option.ne_none_iff_exists'.1 (CO.own hb)
  exact (kB1 b o (fun h => dLO b h hb) ho).2
 have tu : v < ts.length := by rw [CT10.len]; exact hvl
 have htu := getElem?_of tu
 generalize ts[v] = u2 at htu
 have gu2 := CT10.gs v u2 r htu hrv
 have ar2 := CT10.rl.addr (P := Try.prog) Try.underlying52 Try.underlying38 (by kernel_rfl) (k := .i64) v hvl
 have ld2 : aload Try.prog hB1 38 (elemAddr tv v) = some u2 := by rw [aload_flat Try.underlying38 rfl]; exact (GS.cs CT10.sl).rs.get v u2 htu
 have adi := gu2.rl.addr (P := Try.prog) Try.underlying38 Try.underlying3 (by kernel_rfl) (k := .i64) i hi
 have ldi := gu2.rl.loadI (P := Try.prog) Try.underlying3 rfl i hi
 obtain ⟨cv2, hC0, hC1, eC0, eC1, gC1, wC1, lC0, fC1, kC1⟩ := gu2.push wB1 r[i] hr100
 have ldC0 : aload Try.prog hC0 38 (elemAddr tv v) = some u2 := by rw [aload_flat Try.underlying38 rfl]; exact lC0.read ((GS.cs CT10.sl).rs.get v u2 htu)
 have ldiC0 := (gu2.rl.le Stays.isI lC0).loadI (P := Try.prog) Try.underlying3 rfl i hi
 have ldC1 : aload Try.prog hC1 38 (elemAddr tv v) = some u2 := by
  rw [aload_flat Try.underlying38 rfl]
  have : GS 1 hC1 tv ts.length ts := GS.kept CT10.sl fun b o hb ho => (kC1 b o ho fun e => CT10.nx v u2 b htu e hb).1
  exact (GS.cs this).rs.get v u2 htu
 obtain ⟨hD1, st2, C2, wD1, keD⟩ := CT10.setRow htu gC1 wC1 fC1 kC1
 refine KDraw.intro mixed (.fl 0 (.fl 1 (.fl 2 (.fl 3 (.fl 4 (.fl 5 (.fl 6 (.fl 7 (.fl 8 (.fl 9 (.fl 10 (.fl 11 (.fl 12 (.ch 13 [12] (.ch 14 [5, 13] (.fl 15 (.ch 16 [0, 1, 2, 3, 4, 5, 6, 7, 8, 9, 10, 11, 12, 13, 14, 15] (.done) .no)) .no) .no)))))))))))))) (by kernel_rfl) ?_
 simp only [kS1, bLookup, bMapSet, wantA, isCall, stepOp, evalO, evalL, evalP, evalM, putDst, flat, kA, kB, Nat.reduceLT, ↓reduceIte, kC, Nat.reduceEqDiff, aBuiltin, abinG, guardFree, abin, aInt, aUn, aNilCheck, retQ, retQ1, aresults, aresultL, aresult, mkF, undefV, reduceCtorEq, kD, kE, kF, kG, kH, kI, kJ, kK, aExtract, calleeOf, kD1, Nat.reduceBEq, HoldsAll, kL, kM, kN, kO, ar2, ld2, adi, ldi, eC0, ldC0, ldiC0, eC1, ldC1, st2]
 -- one that is not beside it
 have C1' := C1.kept (fun b o hb ho => (keD b o (fun h => dT1 b h hb) ho).1) C2.le
 have CO11 := CO10.kept (fun b o hb ho => (keD b o (fun h => dTO b h hb) ho).1) C2.le
 have dO2 : ∀ b, InC ov2 us b → ¬ InC tv (ts.set v cv2) b := fun b hb => by
  obtain ⟨o, ho⟩ := Option.ne_none_iff_exists'.1 (CO10.own hb)
  exact (keD b o (fun h => dTO b h hb) ho).2
 have ou : v < us.length := by rw [CO11.len]; exact hvl
 have hou := getElem?_of ou
 generalize us[v] = u3 at hou
 have gu3 := CO11.gs v u3 r hou hrv
 have ar3 := CO11.rl.addr (P := Try.prog) Try.underlying52 Try.underlying38 (by kernel_rfl) (k := .i64) v hvl
 have ld3 : aload Try.prog hD1 38 (elemAddr ov2 v) = some u3 := by rw [aload_flat Try.underlying38 rfl]; exact (GS.cs CO11.sl).rs.get v u3 hou
 have adi3 := gu3.rl.addr (P := Try.prog) Try.underlying38 Try.underlying3 (by kernel_rfl) (k := .i64) i hi
 obtain ⟨hE1, st3, gE1, wE1, fE1, kE1⟩ := GI.store gu3 wD1 hi (v : Int)
 obtain ⟨C3, kE2⟩ := CO11.putRow hou gE1 fE1 kE1
 have C1'' := C1'.kept (fun b o hb ho => kE2 b o (fun h => dO1 b h hb) ho) C3.le
 have C2' := C2.kept (fun b o hb ho => kE2 b o (fun h => dO2 b h hb) ho) C3.le
 obtain ⟨zv, esz, rz⟩ := rot_tail rr5 (by exact G.len) h2n (by omega)
 have rz' := rz.le (Stays.RL Stays.isI) C3.le
 have hD1l : Le h6 hD1 := C2.le
 obtain ⟨hF, eF, lF, wF, oF⟩ := alloc_f wE1 [lv, tv, ov2, zv]
 have mk4 := mkS4 (h := hE1) C1''.rl.sl C2'.rl.sl C3.rl.sl rz'.sl
 rw [eF] at mk4
 have r4 : RL (RL (RL isI)) hF (.slice (some ⟨hE1.next, 0, none⟩) 4 4) [rs.set v (r.take i ++ r.drop (i + 1)), rs.set v (r ++ [r[i]]), rs.set v (r.set i (v : Int)), rs.drop 1] :=
  rl4 oF (C1''.rl.le (Stays.RL Stays.isI) lF) (C2'.rl.le (Stays.RL Stays.isI) lF) (C3.rl.le (Stays.RL Stays.isI) lF) (rz'.le (Stays.RL Stays.isI) lF)
 generalize Value.slice (some ⟨hE1.next, 0, none⟩) 4 4 = sv at *
 have hbad4 : ∀ l ∈ [rs.set v (r.take i ++ r.drop (i + 1)), rs.set v (r ++ [r[i]]), rs.set v (r.set i (v : Int)), rs.drop 1], ¬ RotG n es l := fun l hl => by
  simp only [List.mem_cons, List.not_mem_nil, or_false] at hl
  rcases hl with rfl | rfl | rfl | rfl
  ·exact bad_less hr G hvn hgd hi hr
  ·exact bad_twice hvl hi hr hvn
  ·exact bad_other hvl hi hr hvn
  ·exact fun q => by have := q.len; rw [List.length_drop, G.len] at this; omega
 have hl4 : [rs.set v (r.take i ++ r.drop (i + 1)), rs.set v (r ++ [r[i]]), rs.set v (r.set i (v : Int)), rs.drop 1].length = 4 := rfl
 have lF1 : Le h1 hF := (l13.trans l5).trans (C3.le.trans lF)
 have len4 := fun g => r4.len (P := Try.prog) Try.underlying64 g
 generalize [rs.set v (r.take i ++ r.drop (i + 1)), rs.set v (r ++ [r[i]]), rs.set v (r.set i (v : Int)), rs.drop 1] = Ls at r4 hbad4 hl4 len4
 simp only [kS1, bLookup, bMapSet, wantA, isCall, stepOp, evalO, evalL, evalP, evalM, putDst, flat, kA, kB, Nat.reduceLT, ↓reduceIte, kC, Nat.reduceEqDiff, aBuiltin, abinG, guardFree, abin, aInt, aUn, aNilCheck, retQ, retQ1, aresults, aresultL, aresult, mkF, undefV, reduceCtorEq, kD, kE, kF, kG, kH, kI, kJ, kK, aExtract, calleeOf, f9, ar3, ld3, adi3, st3, esz, mk4, len4]
 refine KLoop.intro (fun k fr hq => ∃ (j : Nat), k = Ls.length - j ∧ j ≤ Ls.length ∧ fr = mkF [(4, .pointer (some ⟨B, 0, none⟩)), (13, lv), (14, tv), (15, ov2), (107, sv), (108, .int .i64 Ls.length), (109, .int .i64 j)] ∧ Le hF hq)
  Ls.length [(4, .pointer (some ⟨B, 0, none⟩)), (13, lv), (14, tv), (15, ov2), (107, sv), (108, .int .i64 Ls.length), (109, .int .i64 (0 : Nat))] (by simp only [hasAll, kS1, bLookup, bMapSet, wantA, isCall, stepOp, evalO, evalL, evalP, evalM, putDst, flat, kA, kB, Nat.reduceLT, ↓reduceIte, kC, Nat.reduceEqDiff, aBuiltin, abinG, guardFree, abin, aInt, aUn, aNilCheck, retQ, retQ1, aresults, aresultL, aresult, mkF, undefV, reduceCtorEq, kD, kE, kF, kG, kH, kI, kJ, kK, aExtract, calleeOf, f4]; simp) ⟨0, rfl, Nat.zero_le _, rfl, Le.refl _⟩ ?_
 rintro k fr hq hwq ⟨j, rfl, hj, rfl, lq⟩
 simp only [kS1, bLookup, bMapSet, wantA, isCall, stepOp, evalO, evalL, evalP, evalM, putDst, flat, kA, kB, Nat.reduceLT, ↓reduceIte, kC, Nat.reduceEqDiff, aBuiltin, abinG, guardFree, abin, aInt, aUn, aNilCheck, retQ, retQ1, aresults, aresultL, aresult, mkF, undefV, reduceCtorEq, kD, kE, kF, kG, kH, kI, kJ, kK, aExtract, calleeOf]
 refine KCond.intro (fun ht => ?_) (fun hf => ?_)
 ·have hjt : j < Ls.length := lt_t ht
  clear ht
  have adj := r4.addr (P := Try.prog) Try.underlying64 Try.underlying52 (by kernel_rfl) (k := .i64) j hjt
  obtain ⟨z, lz', hz⟩ := r4.load' (P := Try.prog) Try.underlying52 rfl j hjt
  have lz := lz' hq lq
  have hnot := hbad4 _ (List.getElem_mem hjt)
  generalize Ls[j] = l at *
  have Aq := lA hq (lF1.trans lq)
  simp only [kS1, bLookup, bMapSet, wantA, isCall, stepOp, evalO, evalL, evalP, evalM, putDst, flat, kA, kB, Nat.reduceLT, ↓reduceIte, kC, Nat.reduceEqDiff, aBuiltin, abinG, guardFree, abin, aInt, aUn, aNilCheck, retQ, retQ1, aresults, aresultL, aresult, mkF, undefV, reduceCtorEq, kD, kE, kF, kG, kH, kI, kJ, kK, aExtract, calleeOf, adj, lz, Aq.1]
  refine KCall.intro (by simp only [kS1, bLookup, bMapSet, wantA, isCall, stepOp, evalO, evalL, evalP, evalM, putDst, flat, kA, kB, Nat.reduceLT, ↓reduceIte, kC, Nat.reduceEqDiff, aBuiltin, abinG, guardFree, abin, aInt, aUn, aNilCheck, retQ, retQ1, aresults, aresultL, aresult, mkF, undefV, reduceCtorEq, kD, kE, kF, kG, kH, kI, kJ, kK, aExtract, calleeOf] <;> rfl) ⟨Try.func31, rfl, by decide⟩ (FRight_any W0 _ z ⟨(n : Int), es⟩ l hq (hg0.le (le1.trans (lF1.trans lq))) (hz.le (Stays.RL Stays.isI) lq)) ?_
  rintro x g1 w1 ⟨⟨b, rfl, hb⟩, m1⟩
  simp only [Int.toNat_natCast] at hb
  obtain rfl : b = false := by cases b with | false => rfl | true => exact absurd (hb.1 rfl).2 hnot
  have A1 := lA g1 ((lF1.trans lq).trans m1)
  simp only [kS1, bLookup, bMapSet, wantA, isCall, stepOp, evalO, evalL, evalP, evalM, putDst, flat, kA, kB, Nat.reduceLT, ↓reduceIte, kC, Nat.reduceEqDiff, aBuiltin, abinG, guardFree, abin, aInt, aUn, aNilCheck, retQ, retQ1, aresults, aresultL, aresult, mkF, undefV, reduceCtorEq, kD, kE, kF, kG, kH, kI, kJ, kK, aExtract, calleeOf, A1.1]
  refine KCall.intro (by simp only [kS1, bLookup, bMapSet, wantA, isCall, stepOp, evalO, evalL, evalP, evalM, putDst, flat, kA, kB, Nat.reduceLT, ↓reduceIte, kC, Nat.reduceEqDiff, aBuiltin, abinG, guardFree, abin, aInt, aUn, aNilCheck, retQ, retQ1, aresults, aresultL, aresult, mkF, undefV, reduceCtorEq, kD, kE, kF, kG, kH, kI, kJ, kK, aExtract, calleeOf] <;> rfl) ⟨Try.func33, rfl, by decide⟩ (Plane_any W0 _ z ⟨(n : Int), es⟩ l g1 (hg0.le (le1.trans ((lF1.trans lq).trans m1))) (hz.le (Stays.RL Stays.isI) (lq.trans m1))) ?_
  rintro x g2 w2 ⟨⟨b, rfl, hb2⟩, m2⟩
  simp only [Int.toNat_natCast] at hb2
  obtain rfl : b = false := by cases b with | false => rfl | true => exact absurd (hb2.1 rfl).2.1 hnot
  have hwj := awrap_succ j (by omega)
  simp only [kS1, bLookup, bMapSet, wantA, isCall, stepOp, evalO, evalL, evalP, evalM, putDst, flat, kA, kB, Nat.reduceLT, ↓reduceIte, kC, Nat.reduceEqDiff, aBuiltin, abinG, guardFree, abin, aInt, aUn, aNilCheck, retQ, retQ1, aresults, aresultL, aresult, mkF, undefV, reduceCtorEq, kD, kE, kF, kG, kH, kI, kJ, kK, aExtract, calleeOf, hwj]
  exact loop_again (Ls.length - (j + 1)) [(4, .pointer (some ⟨B, 0, none⟩)), (13, lv), (14, tv), (15, ov2), (107, sv), (108, .int .i64 Ls.length), (109, .int .i64 (j + 1 : Nat))] (stp hjt) (by simp only [hasAll, kS1, bLookup, bMapSet, wantA, isCall, stepOp, evalO, evalL, evalP, evalM, putDst, flat, kA, kB, Nat.reduceLT, ↓reduceIte, kC, Nat.reduceEqDiff, aBuiltin, abinG, guardFree, abin, aInt, aUn, aNilCheck, retQ, retQ1, aresults, aresultL, aresult, mkF, undefV, reduceCtorEq, kD, kE, kF, kG, kH, kI, kJ, kK, aExtract, calleeOf]; simp) ⟨j + 1, rfl, hjt, rfl, (lq.trans m1).trans m2⟩
 have lFq := lF.trans lq
 obtain ⟨hG, eG, lG, wG, oG⟩ := alloc_f hwq [lv, tv, ov2]
 have mk3 := mkS3 (h := hq) C1''.rl.sl C2'.rl.sl C3.rl.sl
 rw [eG] at mk3
 have lEG := lFq.trans lG
 have r3 : RL (RL (RL isI)) hG (.slice (some ⟨hq.next, 0, none⟩) 3 3) [rs.set v (r.take i ++ r.drop (i + 1)), rs.set v (r ++ [r[i]]), rs.set v (r.set i (v : Int))] :=
  rl3 oG (C1''.rl.le (Stays.RL Stays.isI) lEG) (C2'.rl.le (Stays.RL Stays.isI) lEG) (C3.rl.le (Stays.RL Stays.isI) lEG)
 generalize Value.slice (some ⟨hq.next, 0, none⟩) 3 3 = sv3 at *
 have hbad3 : ∀ l ∈ [rs.set v (r.take i ++ r.drop (i + 1)), rs.set v (r ++ [r[i]]), rs.set v (r.set i (v : Int))], l.length = n ∧ ∀ es', RightG ⟨(n : Int), es'⟩ → ¬ RotG n es' l := fun l hl => by
  simp only [List.mem_cons, List.not_mem_nil, or_false] at hl
  rcases hl with rfl | rfl | rfl
  ·exact ⟨by rw [List.length_set, G.len], fun es' hr' => bad_less hr G hvn hgd hi hr'⟩
  ·exact ⟨by rw [List.length_set, G.len], fun es' hr' => bad_twice hvl hi hr' hvn⟩
  ·exact ⟨by rw [List.length_set, G.len], fun es' hr' => bad_other hvl hi hr' hvn⟩
 have hl3 : [rs.set v (r.take i ++ r.drop (i + 1)), rs.set v (r ++ [r[i]]), rs.set v (r.set i (v : Int))].length = 3 := rfl
 have len3 := fun g => r3.len (P := Try.prog) Try.underlying64 g
 generalize [rs.set v (r.take i ++ r.drop (i + 1)), rs.set v (r ++ [r[i]]), rs.set v (r.set i (v : Int))] = Ks at r3 hbad3 hl3 len3
 simp only [kS1, bLookup, bMapSet, wantA, isCall, stepOp, evalO, evalL, evalP, evalM, putDst, flat, kA, kB, Nat.reduceLT, ↓reduceIte, kC, Nat.reduceEqDiff, aBuiltin, abinG, guardFree, abin, aInt, aUn, aNilCheck, retQ, retQ1, aresults, aresultL, aresult, mkF, undefV, reduceCtorEq, kD, kE, kF, kG, kH, kI, kJ, kK, aExtract, calleeOf, mk3, len3]
 refine KLoop.intro (fun k fr hz => ∃ (j : Nat), k = Ks.length - j ∧ j ≤ Ks.length ∧ fr = mkF [(125, sv3), (126, .int .i64 Ks.length), (127, .int .i64 j)] ∧ Le hG hz)
  Ks.length [(125, sv3), (126, .int .i64 Ks.length), (127, .int .i64 (0 : Nat))] (by simp only [hasAll, kS1, bLookup, bMapSet, wantA, isCall, stepOp, evalO, evalL, evalP, evalM, putDst, flat, kA, kB, Nat.reduceLT, ↓reduceIte, kC, Nat.reduceEqDiff, aBuiltin, abinG, guardFree, abin, aInt, aUn, aNilCheck, retQ, retQ1, aresults, aresultL, aresult, mkF, undefV, reduceCtorEq, kD, kE, kF, kG, kH, kI, kJ, kK, aExtract, calleeOf]; simp) ⟨0, rfl, Nat.zero_le _, rfl, Le.refl _⟩ ?_
 clear j hj hf
 rintro k fr hz hwz ⟨j, rfl, hj, rfl, lz⟩
 simp only [kS1, bLookup, bMapSet, wantA, isCall, stepOp, evalO, evalL, evalP, evalM, putDst, flat, kA, kB, Nat.reduceLT, ↓reduceIte, kC, Nat.reduceEqDiff, aBuiltin, abinG, guardFree, abin, aInt, aUn, aNilCheck, retQ, retQ1, aresults, aresultL, aresult, mkF, undefV, reduceCtorEq, kD, kE, kF, kG, kH, kI, kJ, kK, aExtract, calleeOf]
 refine KCond.intro (fun ht => ?_) (fun hf => ?_)
 ·have hjt : j < Ks.length := lt_t ht
  clear ht
  have adj := r3.addr (P := Try.prog) Try.underlying64 Try.underlying52 (by kernel_rfl) (k := .i64) j hjt
  obtain ⟨z, lz', hz3⟩ := r3.load' (P := Try.prog) Try.underlying52 rfl j hjt
  have ldz := lz' hz lz
  obtain ⟨hln, hnot⟩ := hbad3 _ (List.getElem_mem hjt)
  generalize Ks[j] = l at *
  simp only [kS1, bLookup, bMapSet, wantA, isCall, stepOp, evalO, evalL, evalP, evalM, putDst, flat, kA, kB, Nat.reduceLT, ↓reduceIte, kC, Nat.reduceEqDiff, aBuiltin, abinG, guardFree, abin, aInt, aUn, aNilCheck, retQ, retQ1, aresults, aresultL, aresult, mkF, undefV, reduceCtorEq, kD, kE, kF, kG, kH, kI, kJ, kK, aExtract, calleeOf, adj, ldz]
  refine KCall.intro (by simp only [kS1, bLookup, bMapSet, wantA, isCall, stepOp, evalO, evalL, evalP, evalM, putDst, flat, kA, kB, Nat.reduceLT, ↓reduceIte, kC, Nat.reduceEqDiff, aBuiltin, abinG, guardFree, abin, aInt, aUn, aNilCheck, retQ, retQ1, aresults, aresultL, aresult, mkF, undefV, reduceCtorEq, kD, kE, kF, kG, kH, kI, kJ, kK, aExtract, calleeOf] <;> rfl) ⟨Try.func30, rfl, by decide⟩ (Faces_any W0 z l hz (hz3.le (Stays.RL Stays.isI) lz)) ?_
  rintro x g1 w1 ⟨m1, ⟨rfl, -⟩ | ⟨es', fv, hr', G', -⟩⟩
  rotate_left
  ·rw [hln] at hr' G'
   exact absurd G' (hnot es' hr')
  have d70 : decide ((70 : Int) = 70) = true := by decide
  have hwj := awrap_succ j (by omega)
  simp only [kS1, bLookup, bMapSet, wantA, isCall, stepOp, evalO, evalL, evalP, evalM, putDst, flat, kA, kB, Nat.reduceLT, ↓reduceIte, kC, Nat.reduceEqDiff, aBuiltin, abinG, guardFree, abin, aInt, aUn, aNilCheck, retQ, retQ1, aresults, aresultL, aresult, mkF, undefV, reduceCtorEq, kD, kE, kF, kG, kH, kI, kJ, kK, aExtract, calleeOf, bne, d70, hwj]
  exact loop_again (Ks.length - (j + 1)) [(125, sv3), (126, .int .i64 Ks.length), (127, .int .i64 (j + 1 : Nat))] (stp hjt) (by simp only [hasAll, kS1, bLookup, bMapSet, wantA, isCall, stepOp, evalO, evalL, evalP, evalM, putDst, flat, kA, kB, Nat.reduceLT, ↓reduceIte, kC, Nat.reduceEqDiff, aBuiltin, abinG, guardFree, abin, aInt, aUn, aNilCheck, retQ, retQ1, aresults, aresultL, aresult, mkF, undefV, reduceCtorEq, kD, kE, kF, kG, kH, kI, kJ, kK, aExtract, calleeOf]; simp) ⟨j + 1, rfl, hjt, rfl, lz.trans m1⟩
 simp only [kS1, bLookup, bMapSet, wantA, isCall, stepOp, evalO, evalL, evalP, evalM, putDst, flat, kA, kB, Nat.reduceLT, ↓reduceIte, kC, Nat.reduceEqDiff, aBuiltin, abinG, guardFree, abin, aInt, aUn, aNilCheck, retQ, retQ1, aresults, aresultL, aresult, mkF, undefV, reduceCtorEq, kD, kE, kF, kG, kH, kI, kJ, kK, aExtract, calleeOf]
 refine KCall.intro (by simp only [kS1, bLookup, bMapSet, wantA, isCall, stepOp, evalO, evalL, evalP, evalM, putDst, flat, kA, kB, Nat.reduceLT, ↓reduceIte, kC, Nat.reduceEqDiff, aBuiltin, abinG, guardFree, abin, aInt, aUn, aNilCheck, retQ, retQ1, aresults, aresultL, aresult, mkF, undefV, reduceCtorEq, kD, kE, kF, kG, kH, kI, kJ, kK, aExtract, calleeOf] <;> rfl) ⟨Try.func27, rfl, by decide⟩ (awake7_any W0 hz) ?_
 rintro x g1 w1 ⟨rfl, m1⟩
 simp only [kS1, bLookup, bMapSet, wantA, isCall, stepOp, evalO, evalL, evalP, evalM, putDst, flat, kA, kB, Nat.reduceLT, ↓reduceIte, kC, Nat.reduceEqDiff, aBuiltin, abinG, guardFree, abin, aInt, aUn, aNilCheck, retQ, retQ1, aresults, aresultL, aresult, mkF, undefV, reduceCtorEq, kD, kE, kF, kG, kH, kI, kJ, kK, aExtract, calleeOf]
 all_goals exact ⟨trivial, trivial⟩
end Go.Fw
