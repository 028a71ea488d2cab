/- A text of the proof. -/
import Derived.Test.YtmgcmoifdnkaoaaFwLC16
set_option linter.unusedSimpArgs false
set_option linter.unusedVariables false
namespace Go.Fw
open Go.Proofs
attribute [local irreducible] KO4 KO3 KO2 KO1 KO KN KX KE VK KCond KDraw KCall KLoop
set_option maxHeartbeats 16000000
set_option maxRecDepth 10000
attribute [local irreducible] lowM bridgesM cutsM blocksM keyE treeM
theorem blocksM_lens (n : Nat) (es : List Pr) : ∀ p ∈ blocksM n es, p.length ≤ es.length := by
 obtain ⟨_, _, h3, _⟩ := grpsM_ok (fun p _ => keyE n es p) es [] es.length
 intro p hp
 rw [blocksM, List.mem_map] at hp
 obtain ⟨g, hg, rfl⟩ := hp
 exact h3 g hg
theorem treeM_def (n : Nat) (es : List Pr) : treeM n es = ⟨blocksM n es, nat64 (cutsM n es), linksU (blocksM n es) (cutsM n es) (blocksM n es).length⟩ := by unfold treeM; rfl
open Classical in
theorem pickT {G : GM} (he : G.es.length ≤ 100000) : ∃ (E : Int) (U : TM), (U.bs.length ≤ 100000 ∧ (∀ p ∈ U.bs, p.length ≤ 8796093022208) ∧ U.cs.length ≤ 100000 ∧ U.ls.length ≤ 100000) ∧ ∀ (h' : AHeap) (x : Value),
  ((¬ RightG G ∧ x = .tuple #[emptyT, .int .i64 20]) ∨ (RightG G ∧ ¬ JoinG G.n.toNat G.es ∧ x = .tuple #[emptyT, .int .i64 60]) ∨ (RightG G ∧ JoinG G.n.toNat G.es ∧ ∃ tv, x = .tuple #[tv, .int .i64 0] ∧ TR h' tv (treeM G.n.toNat G.es))) →
  ∃ tv, x = .tuple #[tv, .int .i64 E] ∧ TR h' tv U := by
 by_cases r : RightG G
 ·by_cases j : JoinG G.n.toNat G.es
  ·refine ⟨0, treeM G.n.toNat G.es, ?_, fun h' x c => ?_⟩
   ·have h0 : 0 ≤ G.n := r.n0
    have h200 := r.n1
    obtain ⟨gn, es⟩ := G
    obtain ⟨n, rfl⟩ := Int.eq_ofNat_of_zero_le h0
    have hR := r.inR
    simp only [Int.toNat_natCast] at *
    rw [treeM_def]
    have k1 := blocks_le_n hR
    have k2 := cuts_le_n n es
    have k3 := tree_links_le hR (by omega) _ (Nat.le_refl _)
    refine ⟨by show (blocksM n es).length ≤ _; omega, fun p hp => ?_, by show (nat64 _).length ≤ _; rw [nat64_length]; omega, by show (linksU _ _ _).length ≤ _; omega⟩
    have := blocksM_lens n es p hp
    omega
   ·rcases c with ⟨k, _⟩ | ⟨_, k, _⟩ | ⟨_, _, q⟩
    ·exact absurd r k
    ·exact absurd j k
    ·exact q
  ·refine ⟨60, ⟨[], [], []⟩, by simp, fun h' x c => ?_⟩
   rcases c with ⟨k, _⟩ | ⟨_, _, q⟩ | ⟨_, k, _⟩
   ·exact absurd r k
   ·exact ⟨_, q, TR.empty _⟩
   ·exact absurd k j
 ·refine ⟨20, ⟨[], [], []⟩, by simp, fun h' x c => ?_⟩
  rcases c with ⟨_, q⟩ | ⟨k, _⟩ | ⟨k, _⟩
  ·exact ⟨_, q, TR.empty _⟩
  ·exact absurd k r
  ·exact absurd k r
open Classical in
theorem pickC (b n : Nat) (ls : List Pr) : ∃ (bo : Bool) (k : Int), (∀ x : Value, ((¬ Lk b n ls ∧ x = .tuple #[.bool false, .int .i64 (-1)]) ∨ (Lk b n ls ∧ x = centV b (cenM b n ls))) → x = .tuple #[.bool bo, .int .i64 k]) ∧
  ∀ x : Value, ((¬ GoodT b n ls ∧ x = .tuple #[.bool false, .int .i64 (-1)]) ∨ (GoodT b n ls ∧ x = centV b (minK (depK b n ls n) n))) → x = .tuple #[.bool bo, .int .i64 k] := by
 by_cases r : Lk b n ls
 ·have q : ∃ (bo : Bool) (k : Int), centV b (cenM b n ls) = .tuple #[.bool bo, .int .i64 k] := by
   unfold centV; split
   ·exact ⟨_, _, rfl⟩
   ·exact ⟨_, _, rfl⟩
  obtain ⟨bo, k, e⟩ := q
  refine ⟨bo, k, fun x c => ?_, fun x c => ?_⟩
  ·rcases c with ⟨c, _⟩ | ⟨_, q⟩
   ·exact absurd r c
   ·rw [q, e]
  ·rcases c with ⟨c, _⟩ | ⟨_, q⟩
   ·exact absurd (good_lk.2 r) c
   ·rw [q, ← e]; rfl
 ·refine ⟨false, -1, fun x c => ?_, fun x c => ?_⟩
  ·rcases c with ⟨_, q⟩ | ⟨c, _⟩
   ·exact q
   ·exact absurd c r
  ·rcases c with ⟨_, q⟩ | ⟨c, _⟩
   ·exact q
   ·exact absurd (good_lk.1 c) r
theorem apne {h : AHeap} {v : Value} {T : Nat} {o : AObj} (a : Apart h v) (ho : h.own T = some o) : blk v ≠ some T := fun e => by have := a T e; rw [ho] at this; cases this
theorem BlocksTells_law (W0 : Base) (v tv : Value) (G : GM) (T : TM) (h : AHeap) (hg : GR h v G) (ht : TR h tv T ∧ TB T) : AC Try.prog W0 8 [v, tv] h fun x h' => x = .bool true ∧ True := by
 have hg0 := hg
 obtain ⟨gn, es⟩ := G
 obtain ⟨ev, rfl, hp⟩ := hg.open
 obtain ⟨ht, tb⟩ := ht
 have ht0 := ht
 obtain ⟨bs, cs, ls⟩ := T
 obtain ⟨bv, cw, lw, rfl, hb, hc, hl⟩ := ht
 have tb1 : bs.length ≤ 100000000000000 := tb.bs
 have tb2 : ∀ p ∈ bs, p.length ≤ 8796093022208 := tb.b
 have tb3 : cs.length ≤ 100000000000000 := tb.cs
 have tb4 : ls.length ≤ 8796093022208 := tb.ls
 clear tb
 simp only at hb hc hl
 refine AC.vc (fn := Try.f8) (c := _) ⟨Try.func8, rfl, by decide⟩ Try.ntmps8 Try.results8 (by simp) fun hwf => ?_
 simp only [argFrame, argFrom, Nat.reduceAdd]
 obtain ⟨g0, b0, le0, wf0, -, lA⟩ := boxG (n := gn) hwf hp
 generalize h.next = B at *
 obtain ⟨g1, b1, l1, w1, lC⟩ := boxT (T := ⟨bs, cs, ls⟩) wf0 (hb.le Stays.PR le0) (hc.le Stays.isI le0) (hl.le le0)
 generalize g0.next = C at *
 have le0g := le0.trans l1
 have lA0 := lA g1 l1
 have lC0 := lC g1 (Le.refl _)
 have ll := fun g => hp.len g
 by_cases c1 : gn > 14
 ·have d1 : decide (gn > 14) = true := decide_eq_true c1
  simp only [kS1, bLookup, bMapSet, wantA, isCall, stepOp, evalO, evalL, evalP, evalM, putDst, flat, kA, kB, Nat.reduceLT, ↓reduceIte, kC, Nat.reduceEqDiff, aBuiltin, abinG, guardFree, abin, aInt, aUn, aNilCheck, retQ, retQ1, aresults, aresultL, aresult, mkF, undefV, reduceCtorEq, kD, kE, kF, kG, kH, kI, kJ, kK, aExtract, calleeOf, b0, b1, fg0, fg1, aadd, Nat.zero_add, lA0.2.1, d1]
  refine KCall.intro (by simp only [kS1, bLookup, bMapSet, wantA, isCall, stepOp, evalO, evalL, evalP, evalM, putDst, flat, kA, kB, Nat.reduceLT, ↓reduceIte, kC, Nat.reduceEqDiff, aBuiltin, abinG, guardFree, abin, aInt, aUn, aNilCheck, retQ, retQ1, aresults, aresultL, aresult, mkF, undefV, reduceCtorEq, kD, kE, kF, kG, kH, kI, kJ, kK, aExtract, calleeOf] <;> rfl) ⟨Try.func41, rfl, by decide⟩ (awake6_any W0 g1) ?_
  rintro x h2 w2 ⟨rfl, l2⟩
  simp only [kS1, bLookup, bMapSet, wantA, isCall, stepOp, evalO, evalL, evalP, evalM, putDst, flat, kA, kB, Nat.reduceLT, ↓reduceIte, kC, Nat.reduceEqDiff, aBuiltin, abinG, guardFree, abin, aInt, aUn, aNilCheck, retQ, retQ1, aresults, aresultL, aresult, mkF, undefV, reduceCtorEq, kD, kE, kF, kG, kH, kI, kJ, kK, aExtract, calleeOf]
  exact ⟨trivial, trivial⟩
 have d1 : decide (gn > 14) = false := decide_eq_false c1
 by_cases c2 : (es.length : Int) > 50
 ·have d2 : decide ((es.length : Int) > 50) = true := decide_eq_true c2
  simp only [kS1, bLookup, bMapSet, wantA, isCall, stepOp, evalO, evalL, evalP, evalM, putDst, flat, kA, kB, Nat.reduceLT, ↓reduceIte, kC, Nat.reduceEqDiff, aBuiltin, abinG, guardFree, abin, aInt, aUn, aNilCheck, retQ, retQ1, aresults, aresultL, aresult, mkF, undefV, reduceCtorEq, kD, kE, kF, kG, kH, kI, kJ, kK, aExtract, calleeOf, b0, b1, fg0, fg1, aadd, Nat.zero_add, lA0.2.1, lA0.2.2, ll, d1, d2]
  refine KCall.intro (by simp only [kS1, bLookup, bMapSet, wantA, isCall, stepOp, evalO, evalL, evalP, evalM, putDst, flat, kA, kB, Nat.reduceLT, ↓reduceIte, kC, Nat.reduceEqDiff, aBuiltin, abinG, guardFree, abin, aInt, aUn, aNilCheck, retQ, retQ1, aresults, aresultL, aresult, mkF, undefV, reduceCtorEq, kD, kE, kF, kG, kH, kI, kJ, kK, aExtract, calleeOf] <;> rfl) ⟨Try.func41, rfl, by decide⟩ (awake6_any W0 g1) ?_
  rintro x h2 w2 ⟨rfl, l2⟩
  simp only [kS1, bLookup, bMapSet, wantA, isCall, stepOp, evalO, evalL, evalP, evalM, putDst, flat, kA, kB, Nat.reduceLT, ↓reduceIte, kC, Nat.reduceEqDiff, aBuiltin, abinG, guardFree, abin, aInt, aUn, aNilCheck, retQ, retQ1, aresults, aresultL, aresult, mkF, undefV, reduceCtorEq, kD, kE, kF, kG, kH, kI, kJ, kK, aExtract, calleeOf]
  exact ⟨trivial, trivial⟩
 have d2 : decide ((es.length : Int) > 50) = false := decide_eq_false c2
 have hes : es.length ≤ 50 := by omega
 simp only [kS1, bLookup, bMapSet, wantA, isCall, stepOp, evalO, evalL, evalP, evalM, putDst, flat, kA, kB, Nat.reduceLT, ↓reduceIte, kC, Nat.reduceEqDiff, aBuiltin, abinG, guardFree, abin, aInt, aUn, aNilCheck, retQ, retQ1, aresults, aresultL, aresult, mkF, undefV, reduceCtorEq, kD, kE, kF, kG, kH, kI, kJ, kK, aExtract, calleeOf, b0, b1, fg0, fg1, aadd, Nat.zero_add, lA0.2.1, lA0.2.2, ll, d1, d2, lC0.1]
 refine KCall.intro (by simp only [kS1, bLookup, bMapSet, wantA, isCall, stepOp, evalO, evalL, evalP, evalM, putDst, flat, kA, kB, Nat.reduceLT, ↓reduceIte, kC, Nat.reduceEqDiff, aBuiltin, abinG, guardFree, abin, aInt, aUn, aNilCheck, retQ, retQ1, aresults, aresultL, aresult, mkF, undefV, reduceCtorEq, kD, kE, kF, kG, kH, kI, kJ, kK, aExtract, calleeOf] <;> rfl) ⟨Try.func40, rfl, by decide⟩ (greatB W0 _ _ g1 (ht0.le le0g) tb1 tb3) ?_
 rintro x h1 wf1 ⟨⟨bb, rfl, hbb⟩, l1'⟩
 cases bb with
 | true =>
  simp only [kS1, bLookup, bMapSet, wantA, isCall, stepOp, evalO, evalL, evalP, evalM, putDst, flat, kA, kB, Nat.reduceLT, ↓reduceIte, kC, Nat.reduceEqDiff, aBuiltin, abinG, guardFree, abin, aInt, aUn, aNilCheck, retQ, retQ1, aresults, aresultL, aresult, mkF, undefV, reduceCtorEq, kD, kE, kF, kG, kH, kI, kJ, kK, aExtract, calleeOf]
  refine KCall.intro (by simp only [kS1, bLookup, bMapSet, wantA, isCall, stepOp, evalO, evalL, evalP, evalM, putDst, flat, kA, kB, Nat.reduceLT, ↓reduceIte, kC, Nat.reduceEqDiff, aBuiltin, abinG, guardFree, abin, aInt, aUn, aNilCheck, retQ, retQ1, aresults, aresultL, aresult, mkF, undefV, reduceCtorEq, kD, kE, kF, kG, kH, kI, kJ, kK, aExtract, calleeOf] <;> rfl) ⟨Try.func41, rfl, by decide⟩ (awake6_any W0 h1) ?_
  rintro x h2 w2 ⟨rfl, l2⟩
  simp only [kS1, bLookup, bMapSet, wantA, isCall, stepOp, evalO, evalL, evalP, evalM, putDst, flat, kA, kB, Nat.reduceLT, ↓reduceIte, kC, Nat.reduceEqDiff, aBuiltin, abinG, guardFree, abin, aInt, aUn, aNilCheck, retQ, retQ1, aresults, aresultL, aresult, mkF, undefV, reduceCtorEq, kD, kE, kF, kG, kH, kI, kJ, kK, aExtract, calleeOf]
  exact ⟨trivial, trivial⟩
 | false =>
 have hbb : ¬ (40 < bs.length + cs.length ∨ 100 < ls.length) := fun k => Bool.noConfusion (hbb.2 k)
 have k1 : bs.length ≤ 40 := by omega
 have k2 : cs.length ≤ 40 := by omega
 have k3 : ls.length ≤ 100 := by omega
 have k4 : bs.length + cs.length ≤ 1000 := by omega
 have lA := fun g (l : Le h1 g) => lA g (l1.trans (l1'.trans l))
 have lC := fun g (l : Le h1 g) => lC g (l1'.trans l)
 have le1 := le0g.trans l1'
 have hp1 := hp.le le1
 clear hbb lA0 lC0 w1 wf0 b0 b1 le0g le0 l1 l1' c1 c2 d1 d2
 have lA1 := lA h1 (Le.refl _)
 simp only [kS1, bLookup, bMapSet, wantA, isCall, stepOp, evalO, evalL, evalP, evalM, putDst, flat, kA, kB, Nat.reduceLT, ↓reduceIte, kC, Nat.reduceEqDiff, aBuiltin, abinG, guardFree, abin, aInt, aUn, aNilCheck, retQ, retQ1, aresults, aresultL, aresult, mkF, undefV, reduceCtorEq, kD, kE, kF, kG, kH, kI, kJ, kK, aExtract, calleeOf]
 apply byOne2 (F := fun (fr : AFrame) (h5 : AHeap) => ∃ (X : Nat) (cv : Value), hasAll fr [(2, .pointer (some ⟨B, 0, none⟩)), (3, .pointer (some ⟨C, 0, none⟩)), (5, .pointer (some ⟨X, 0, none⟩))] ∧ Le h1 h5 ∧ WF h5 ∧ PR h5 cv es ∧ ∀ g, Le h5 g → aload Try.prog g 24 ⟨X, 0, none⟩ = some (.agg #[.int .i64 gn, cv]))
 ·intro cont
  refine KDraw.intro mixed (.fl 0 (.fl 1 (.fl 2 (.fl 3 (.ch 4 [3] (.fl 5 (.ch 6 [] (.ch 7 [0, 1, 2, 3, 4, 5, 6] (.done) .no) .no)) (.ch 6 [] (.ch 4 [3] (.fl 5 (.ch 7 [0, 1, 2, 3, 4, 5, 6] (.done) .no)) .no) .no)))))) (by kernel_rfl) ?_
  have alX : ∃ g, h1.alloc (.cells [.int .i64 0, .slice none 0 0]) = g ∧ Le h1 g ∧ WF g ∧ g.own h1.next = some (.cells [.int .i64 0, .slice none 0 0]) := alloc_f wf1 _
  obtain ⟨q1, y1, m1, v1, u1⟩ := alX
  have al1 : aAlloc Try.prog h1 24 = some (.pointer (some ⟨h1.next, 0, none⟩), q1) := by rw [alloc24, y1]
  have Q1 := lA q1 m1
  simp only [kJ1, bLookup, bMapSet, wantA, isCall, stepOp, evalO, evalL, evalP, evalM, putDst, flat, kA, kB, Nat.reduceLT, ↓reduceIte, kC, Nat.reduceEqDiff, aBuiltin, abinG, guardFree, abin, aInt, aUn, aNilCheck, retQ, retQ1, aresults, aresultL, aresult, mkF, undefV, reduceCtorEq, kD, kE, kF, kG, kH, kI, kJ, kK, aExtract, calleeOf, kD1, Nat.reduceBEq, HoldsAll, kL, kM, kN, kO, fg0, fg1, aadd, Nat.zero_add, lA1.2.1, lA1.2.2, al1, Q1.2.1, Q1.2.2]
  refine ⟨?_, ?_⟩
  ·refine KGCall.intro (by simp only [kS1, bLookup, bMapSet, wantA, isCall, stepOp, evalO, evalL, evalP, evalM, putDst, flat, kA, kB, Nat.reduceLT, ↓reduceIte, kC, Nat.reduceEqDiff, aBuiltin, abinG, guardFree, abin, aInt, aUn, aNilCheck, retQ, retQ1, aresults, aresultL, aresult, mkF, undefV, reduceCtorEq, kD, kE, kF, kG, kH, kI, kJ, kK, aExtract, calleeOf] <;> rfl) ⟨Try.func16, rfl, by decide⟩ (CopyPairs_any W0 ev es h1 hp1 (by omega)) ?_
   rintro cv h2 w2 ⟨gc, l2, -⟩
   have A2 := lA h2 l2
   have bld := build24 (n := gn) gc.pr.sl
   obtain ⟨h3, h4, a3, s3, l4, w4, lG⟩ := newG (n := gn) w2 gc.pr
   have A4 := lA h4 (l2.trans l4)
   have A3 : Le h2 h3 := by
    have := alloc24 h2; rw [a3] at this; injection this with this; injection this with _ this; rw [this]; exact (Le.refl h2).alloc w2 _
   have A3 := lA h3 (l2.trans A3)
   simp only [kJ1, bLookup, bMapSet, wantA, isCall, stepOp, evalO, evalL, evalP, evalM, putDst, flat, kA, kB, Nat.reduceLT, ↓reduceIte, kC, Nat.reduceEqDiff, aBuiltin, abinG, guardFree, abin, aInt, aUn, aNilCheck, retQ, retQ1, aresults, aresultL, aresult, mkF, undefV, reduceCtorEq, kD, kE, kF, kG, kH, kI, kJ, kK, aExtract, calleeOf, kD1, Nat.reduceBEq, HoldsAll, kL, kM, kN, kO, fg0, fg1, aadd, Nat.zero_add, A2.2.1, A2.2.2, bld, a3, s3, A3.2.1, A3.2.2, A4.2.1, A4.2.2]
   refine KN.gen2 fun fr' h' x y => cont fr' h' ?_
   subst x y
   exact ⟨_, cv, (by simp only [hasAll, kS1, bLookup, bMapSet, wantA, isCall, stepOp, evalO, evalL, evalP, evalM, putDst, flat, kA, kB, Nat.reduceLT, ↓reduceIte, kC, Nat.reduceEqDiff, aBuiltin, abinG, guardFree, abin, aInt, aUn, aNilCheck, retQ, retQ1, aresults, aresultL, aresult, mkF, undefV, reduceCtorEq, kD, kE, kF, kG, kH, kI, kJ, kK, aExtract, calleeOf]; simp), l2.trans l4, w4, gc.pr.le l4, fun g l => (lG g l).1⟩
  ·refine KGCall.intro (by simp only [kS1, bLookup, bMapSet, wantA, isCall, stepOp, evalO, evalL, evalP, evalM, putDst, flat, kA, kB, Nat.reduceLT, ↓reduceIte, kC, Nat.reduceEqDiff, aBuiltin, abinG, guardFree, abin, aInt, aUn, aNilCheck, retQ, retQ1, aresults, aresultL, aresult, mkF, undefV, reduceCtorEq, kD, kE, kF, kG, kH, kI, kJ, kK, aExtract, calleeOf] <;> rfl) ⟨Try.func16, rfl, by decide⟩ (CopyPairs_any W0 ev es q1 (hp1.le m1) (by omega)) ?_
   rintro cv h2 w2 ⟨gc, l2, ac⟩
   have A2 := lA h2 (m1.trans l2)
   have bld := build24 (n := gn) gc.pr.sl
   have nX : blk cv ≠ some h1.next := fun e => by have := ac _ e; rw [u1] at this; cases this
   have oX := l2.own _ _ u1
   have n1 : h1.own h1.next = none := (Le.refl h1).next wf1 (Nat.le_refl _)
   have one := gc.pr.sl.one
   have ts24 : tsize Try.prog 24 = 2 := by kernel_rfl
   have hc : (Value.agg #[.int .i64 gn, cv]).cells = #[.int .i64 gn, cv] := rfl
   have hz0 : (Value.int IntKind.i64 gn).oneCell' = true := rfl
   have st : aStore Try.prog h2 24 (.pointer (some ⟨h1.next, 0, none⟩)) (.agg #[.int .i64 gn, cv]) = some (h2.put h1.next (.cells [.int .i64 gn, cv])) := by
    simp [aStore, oX, hc, ts24, putCells, Try.underlying24, one, hz0]
   have ho : (h2.put h1.next (.cells [.int .i64 gn, cv])).own h1.next = some (.cells [.int .i64 gn, cv]) := AHeap.own_put_eq _ _ _
   have l4 : Le h1 (h2.put h1.next (.cells [.int .i64 gn, cv])) := (m1.trans l2).put _ n1
   have A4 := lA _ l4
   simp only [kJ1, bLookup, bMapSet, wantA, isCall, stepOp, evalO, evalL, evalP, evalM, putDst, flat, kA, kB, Nat.reduceLT, ↓reduceIte, kC, Nat.reduceEqDiff, aBuiltin, abinG, guardFree, abin, aInt, aUn, aNilCheck, retQ, retQ1, aresults, aresultL, aresult, mkF, undefV, reduceCtorEq, kD, kE, kF, kG, kH, kI, kJ, kK, aExtract, calleeOf, kD1, Nat.reduceBEq, HoldsAll, kL, kM, kN, kO, fg0, fg1, aadd, Nat.zero_add, A2.2.1, A2.2.2, bld, st, A4.2.1, A4.2.2]
   refine KN.gen2 fun fr' h' x y => cont fr' h' ?_
   subst x y
   exact ⟨h1.next, cv, (by simp only [hasAll, kS1, bLookup, bMapSet, wantA, isCall, stepOp, evalO, evalL, evalP, evalM, putDst, flat, kA, kB, Nat.reduceLT, ↓reduceIte, kC, Nat.reduceEqDiff, aBuiltin, abinG, guardFree, abin, aInt, aUn, aNilCheck, retQ, retQ1, aresults, aresultL, aresult, mkF, undefV, reduceCtorEq, kD, kE, kF, kG, kH, kI, kJ, kK, aExtract, calleeOf]; simp), l4, w2.put _ (w2.lt oX), GP.pr (GS.put gc _ nX), fun g l => by rw [aload_own Try.underlying24 rfl ts24 (l.own _ _ ho) (by simp)]; rfl⟩
 rintro fr h5 ⟨X, xv, hfr, le5, wf5, pc, lX⟩
 simp only [hasAll] at hfr
 obtain ⟨f2, f3, f5, -⟩ := hfr
 have hb5 := hb.le Stays.PR (le1.trans le5)
 have hc5 := hc.le Stays.isI (le1.trans le5)
 have hl5 := hl.le (le1.trans le5)
 have lC5 := fun g l => lC g (le5.trans l)
 have C5 := lC5 h5 (Le.refl _)
 simp only [kS1, bLookup, bMapSet, wantA, isCall, stepOp, evalO, evalL, evalP, evalM, putDst, flat, kA, kB, Nat.reduceLT, ↓reduceIte, kC, Nat.reduceEqDiff, aBuiltin, abinG, guardFree, abin, aInt, aUn, aNilCheck, retQ, retQ1, aresults, aresultL, aresult, mkF, undefV, reduceCtorEq, kD, kE, kF, kG, kH, kI, kJ, kK, aExtract, calleeOf]
 apply byOne2 (F := fun (fr : AFrame) (h6 : AHeap) => ∃ (Y : Nat) (cv lv : Value) (g : AHeap), hasAll fr [(2, .pointer (some ⟨B, 0, none⟩)), (3, .pointer (some ⟨C, 0, none⟩)), (5, .pointer (some ⟨X, 0, none⟩)), (6, .pointer (some ⟨Y, 0, none⟩))] ∧ WF h6 ∧ OnT h5 h6 Y cv lv (.slice none 0 0) cs ls [] g)
 ·intro cont
  refine KDraw.intro mixed (.fl 0 (.fl 1 (.fl 3 (.fl 4 (.ch 2 [1] (.ch 5 [2, 4] (.fl 6 (.ch 7 [] (.ch 8 [0, 1, 2, 3, 4, 5, 6, 7] (.done) .no) .no)) (.ch 7 [] (.ch 5 [2, 4] (.fl 6 (.ch 8 [0, 1, 2, 3, 4, 5, 6, 7] (.done) .no)) .no) .no)) (.ch 7 [] (.ch 2 [1] (.ch 5 [2, 4] (.fl 6 (.ch 8 [0, 1, 2, 3, 4, 5, 6, 7] (.done) .no)) .no) .no) .no)))))) (by kernel_rfl) ?_
  have n5 : h5.own h5.next = none := (Le.refl h5).next wf5 (Nat.le_refl _)
  have alX : ∃ g, h5.alloc (.cells [.slice none 0 0, .slice none 0 0, .slice none 0 0]) = g ∧ Le h5 g ∧ WF g ∧ g.own h5.next = some (.cells [.slice none 0 0, .slice none 0 0, .slice none 0 0]) := alloc_f wf5 _
  obtain ⟨q1, y1, m1, v1, u1⟩ := alX
  have al1 : aAlloc Try.prog h5 66 = some (.pointer (some ⟨h5.next, 0, none⟩), q1) := by rw [alloc66, y1]
  have Q1 := lC5 q1 m1
  simp only [kJ1, bLookup, bMapSet, wantA, isCall, stepOp, evalO, evalL, evalP, evalM, putDst, flat, kA, kB, Nat.reduceLT, ↓reduceIte, kC, Nat.reduceEqDiff, aBuiltin, abinG, guardFree, abin, aInt, aUn, aNilCheck, retQ, retQ1, aresults, aresultL, aresult, mkF, undefV, reduceCtorEq, kD, kE, kF, kG, kH, kI, kJ, kK, aExtract, calleeOf, kD1, Nat.reduceBEq, HoldsAll, kL, kM, kN, kO, f3, tf1, tf2, aadd, Nat.zero_add, C5.2.2.1, C5.2.2.2, al1, Q1.2.2.1, Q1.2.2.2]
  refine ⟨?_, ?_⟩
  ·refine KGCall.intro (by simp only [kS1, bLookup, bMapSet, wantA, isCall, stepOp, evalO, evalL, evalP, evalM, putDst, flat, kA, kB, Nat.reduceLT, ↓reduceIte, kC, Nat.reduceEqDiff, aBuiltin, abinG, guardFree, abin, aInt, aUn, aNilCheck, retQ, retQ1, aresults, aresultL, aresult, mkF, undefV, reduceCtorEq, kD, kE, kF, kG, kH, kI, kJ, kK, aExtract, calleeOf] <;> rfl) ⟨Try.func42, rfl, by decide⟩ (CopyInts_any W0 cw cs h5 hc5 (by omega)) ?_
   rintro cv h6 w6 ⟨gc, l6, -⟩
   have n6 : h6.own h6.next = none := (Le.refl h6).next w6 (Nat.le_refl _)
   have alX : ∃ g, h6.alloc (.cells [.slice none 0 0, .slice none 0 0, .slice none 0 0]) = g ∧ Le h6 g ∧ WF g ∧ g.own h6.next = some (.cells [.slice none 0 0, .slice none 0 0, .slice none 0 0]) := alloc_f w6 _
   obtain ⟨q2, y2, m2, v2, u2⟩ := alX
   have al2 : aAlloc Try.prog h6 66 = some (.pointer (some ⟨h6.next, 0, none⟩), q2) := by rw [alloc66, y2]
   have D6 := lC5 h6 l6
   have D2 := lC5 q2 (l6.trans m2)
   simp only [kJ1, bLookup, bMapSet, wantA, isCall, stepOp, evalO, evalL, evalP, evalM, putDst, flat, kA, kB, Nat.reduceLT, ↓reduceIte, kC, Nat.reduceEqDiff, aBuiltin, abinG, guardFree, abin, aInt, aUn, aNilCheck, retQ, retQ1, aresults, aresultL, aresult, mkF, undefV, reduceCtorEq, kD, kE, kF, kG, kH, kI, kJ, kK, aExtract, calleeOf, kD1, Nat.reduceBEq, HoldsAll, kL, kM, kN, kO, f3, tf1, tf2, aadd, Nat.zero_add, D6.2.2.1, D6.2.2.2, al2, D2.2.2.1, D2.2.2.2]
   refine ⟨?_, ?_⟩
   ·refine KGCall.intro (by simp only [kS1, bLookup, bMapSet, wantA, isCall, stepOp, evalO, evalL, evalP, evalM, putDst, flat, kA, kB, Nat.reduceLT, ↓reduceIte, kC, Nat.reduceEqDiff, aBuiltin, abinG, guardFree, abin, aInt, aUn, aNilCheck, retQ, retQ1, aresults, aresultL, aresult, mkF, undefV, reduceCtorEq, kD, kE, kF, kG, kH, kI, kJ, kK, aExtract, calleeOf] <;> rfl) ⟨Try.func16, rfl, by decide⟩ (CopyPairs_any W0 lw ls h6 (hl5.le l6) (by omega)) ?_
    rintro lv h7 w7 ⟨gl, l7, -⟩
    have n7 : h7.own h7.next = none := (Le.refl h7).next w7 (Nat.le_refl _)
    have alX : ∃ g, h7.alloc (.cells [.slice none 0 0, .slice none 0 0, .slice none 0 0]) = g ∧ Le h7 g ∧ WF g ∧ g.own h7.next = some (.cells [.slice none 0 0, .slice none 0 0, .slice none 0 0]) := alloc_f w7 _
    obtain ⟨q3, y3, m3, v3, u3⟩ := alX
    have al3 : aAlloc Try.prog h7 66 = some (.pointer (some ⟨h7.next, 0, none⟩), q3) := by rw [alloc66, y3]
    obtain ⟨bld, st, wz, O⟩ := OnT.start v3 u3 ((l6.trans l7).next w7 (Nat.le_refl _)) ((l6.trans l7).trans m3) (gc.le (l7.trans m3)) (GS.old (GI.le gc l7) n7) (gl.le m3) (GS.old gl n7)
    have D7 := lC5 h7 (l6.trans l7)
    have D3 := lC5 q3 ((l6.trans l7).trans m3)
    simp only [kJ1, bLookup, bMapSet, wantA, isCall, stepOp, evalO, evalL, evalP, evalM, putDst, flat, kA, kB, Nat.reduceLT, ↓reduceIte, kC, Nat.reduceEqDiff, aBuiltin, abinG, guardFree, abin, aInt, aUn, aNilCheck, retQ, retQ1, aresults, aresultL, aresult, mkF, undefV, reduceCtorEq, kD, kE, kF, kG, kH, kI, kJ, kK, aExtract, calleeOf, kD1, Nat.reduceBEq, HoldsAll, kL, kM, kN, kO, f3, tf1, tf2, aadd, Nat.zero_add, D7.2.2.1, D7.2.2.2, D3.2.2.1, D3.2.2.2, bld, al3, st]
    refine KN.gen2 fun fr' h' x y => cont fr' h' ?_
    subst x y
    exact ⟨_, cv, lv, _, (by simp only [hasAll, kS1, bLookup, bMapSet, wantA, isCall, stepOp, evalO, evalL, evalP, evalM, putDst, flat, kA, kB, Nat.reduceLT, ↓reduceIte, kC, Nat.reduceEqDiff, aBuiltin, abinG, guardFree, abin, aInt, aUn, aNilCheck, retQ, retQ1, aresults, aresultL, aresult, mkF, undefV, reduceCtorEq, kD, kE, kF, kG, kH, kI, kJ, kK, aExtract, calleeOf, f2, f3, f5]; simp [f2, f3, f5]), wz, O⟩
   ·refine KGCall.intro (by simp only [kS1, bLookup, bMapSet, wantA, isCall, stepOp, evalO, evalL, evalP, evalM, putDst, flat, kA, kB, Nat.reduceLT, ↓reduceIte, kC, Nat.reduceEqDiff, aBuiltin, abinG, guardFree, abin, aInt, aUn, aNilCheck, retQ, retQ1, aresults, aresultL, aresult, mkF, undefV, reduceCtorEq, kD, kE, kF, kG, kH, kI, kJ, kK, aExtract, calleeOf] <;> rfl) ⟨Try.func16, rfl, by decide⟩ (CopyPairs_any W0 lw ls q2 (hl5.le (l6.trans m2)) (by omega)) ?_
    rintro lv h7 w7 ⟨gl, l7, ap⟩
    obtain ⟨bld, st, wz, O⟩ := OnT.start w7 (l7.own _ _ u2) (l6.next w6 (Nat.le_refl _)) ((l6.trans m2).trans l7) (gc.le (m2.trans l7)) (GS.old gc n6) gl (apne ap u2)
    have D7 := lC5 h7 ((l6.trans m2).trans l7)
    simp only [kJ1, bLookup, bMapSet, wantA, isCall, stepOp, evalO, evalL, evalP, evalM, putDst, flat, kA, kB, Nat.reduceLT, ↓reduceIte, kC, Nat.reduceEqDiff, aBuiltin, abinG, guardFree, abin, aInt, aUn, aNilCheck, retQ, retQ1, aresults, aresultL, aresult, mkF, undefV, reduceCtorEq, kD, kE, kF, kG, kH, kI, kJ, kK, aExtract, calleeOf, kD1, Nat.reduceBEq, HoldsAll, kL, kM, kN, kO, f3, tf1, tf2, aadd, Nat.zero_add, D7.2.2.1, D7.2.2.2, bld, st]
    refine KN.gen2 fun fr' h' x y => cont fr' h' ?_
    subst x y
    exact ⟨_, cv, lv, _, (by simp only [hasAll, kS1, bLookup, bMapSet, wantA, isCall, stepOp, evalO, evalL, evalP, evalM, putDst, flat, kA, kB, Nat.reduceLT, ↓reduceIte, kC, Nat.reduceEqDiff, aBuiltin, abinG, guardFree, abin, aInt, aUn, aNilCheck, retQ, retQ1, aresults, aresultL, aresult, mkF, undefV, reduceCtorEq, kD, kE, kF, kG, kH, kI, kJ, kK, aExtract, calleeOf, f2, f3, f5]; simp [f2, f3, f5]), wz, O⟩
  ·refine KGCall.intro (by simp only [kS1, bLookup, bMapSet, wantA, isCall, stepOp, evalO, evalL, evalP, evalM, putDst, flat, kA, kB, Nat.reduceLT, ↓reduceIte, kC, Nat.reduceEqDiff, aBuiltin, abinG, guardFree, abin, aInt, aUn, aNilCheck, retQ, retQ1, aresults, aresultL, aresult, mkF, undefV, reduceCtorEq, kD, kE, kF, kG, kH, kI, kJ, kK, aExtract, calleeOf] <;> rfl) ⟨Try.func42, rfl, by decide⟩ (CopyInts_any W0 cw cs q1 (hc5.le Stays.isI m1) (by omega)) ?_
   rintro cv h6 w6 ⟨gc, l6, ac⟩
   have D6 := lC5 h6 (m1.trans l6)
   simp only [kJ1, bLookup, bMapSet, wantA, isCall, stepOp, evalO, evalL, evalP, evalM, putDst, flat, kA, kB, Nat.reduceLT, ↓reduceIte, kC, Nat.reduceEqDiff, aBuiltin, abinG, guardFree, abin, aInt, aUn, aNilCheck, retQ, retQ1, aresults, aresultL, aresult, mkF, undefV, reduceCtorEq, kD, kE, kF, kG, kH, kI, kJ, kK, aExtract, calleeOf, kD1, Nat.reduceBEq, HoldsAll, kL, kM, kN, kO, f3, tf1, tf2, aadd, Nat.zero_add, D6.2.2.1, D6.2.2.2]
   refine KGCall.intro (by simp only [kS1, bLookup, bMapSet, wantA, isCall, stepOp, evalO, evalL, evalP, evalM, putDst, flat, kA, kB, Nat.reduceLT, ↓reduceIte, kC, Nat.reduceEqDiff, aBuiltin, abinG, guardFree, abin, aInt, aUn, aNilCheck, retQ, retQ1, aresults, aresultL, aresult, mkF, undefV, reduceCtorEq, kD, kE, kF, kG, kH, kI, kJ, kK, aExtract, calleeOf] <;> rfl) ⟨Try.func16, rfl, by decide⟩ (CopyPairs_any W0 lw ls h6 (hl5.le (m1.trans l6)) (by omega)) ?_
   rintro lv h7 w7 ⟨gl, l7, ap⟩
   obtain ⟨bld, st, wz, O⟩ := OnT.start w7 (l7.own _ _ (l6.own _ _ u1)) n5 ((m1.trans l6).trans l7) (gc.le l7) (apne ac u1) gl (apne ap (l6.own _ _ u1))
   have D7 := lC5 h7 ((m1.trans l6).trans l7)
   simp only [kJ1, bLookup, bMapSet, wantA, isCall, stepOp, evalO, evalL, evalP, evalM, putDst, flat, kA, kB, Nat.reduceLT, ↓reduceIte, kC, Nat.reduceEqDiff, aBuiltin, abinG, guardFree, abin, aInt, aUn, aNilCheck, retQ, retQ1, aresults, aresultL, aresult, mkF, undefV, reduceCtorEq, kD, kE, kF, kG, kH, kI, kJ, kK, aExtract, calleeOf, kD1, Nat.reduceBEq, HoldsAll, kL, kM, kN, kO, f3, tf1, tf2, aadd, Nat.zero_add, D7.2.2.1, D7.2.2.2, bld, st]
   refine KN.gen2 fun fr' h' x y => cont fr' h' ?_
   subst x y
   exact ⟨_, cv, lv, _, (by simp only [hasAll, kS1, bLookup, bMapSet, wantA, isCall, stepOp, evalO, evalL, evalP, evalM, putDst, flat, kA, kB, Nat.reduceLT, ↓reduceIte, kC, Nat.reduceEqDiff, aBuiltin, abinG, guardFree, abin, aInt, aUn, aNilCheck, retQ, retQ1, aresults, aresultL, aresult, mkF, undefV, reduceCtorEq, kD, kE, kF, kG, kH, kI, kJ, kK, aExtract, calleeOf, f2, f3, f5]; simp [f2, f3, f5]), wz, O⟩
 rintro fr h6 ⟨Y, cv, lv, g6, hfr, wf6, O6⟩
 simp only [hasAll] at hfr
 obtain ⟨f2, f3, f5, f6, -⟩ := hfr
 have lb := fun g => hb.len (P := Try.prog) Try.underlying38 g
 have C6 := lC5 h6 (O6.bg.trans O6.gh)
 simp only [kS1, bLookup, bMapSet, wantA, isCall, stepOp, evalO, evalL, evalP, evalM, putDst, flat, kA, kB, Nat.reduceLT, ↓reduceIte, kC, Nat.reduceEqDiff, aBuiltin, abinG, guardFree, abin, aInt, aUn, aNilCheck, retQ, retQ1, aresults, aresultL, aresult, mkF, undefV, reduceCtorEq, kD, kE, kF, kG, kH, kI, kJ, kK, aExtract, calleeOf, f3, tf0, aadd, Nat.zero_add, C6.2.1, lb]
 refine KLoop.intro (fun k fr hq => ∃ (i : Nat) (ov : Value) (g : AHeap), k = bs.length - i ∧ i ≤ bs.length ∧ fr = mkF [(2, .pointer (some ⟨B, 0, none⟩)), (3, .pointer (some ⟨C, 0, none⟩)), (5, .pointer (some ⟨X, 0, none⟩)), (6, .pointer (some ⟨Y, 0, none⟩)), (45, bv), (46, .int .i64 bs.length), (47, .int .i64 i)] ∧ OnT h5 hq Y cv lv ov cs ls (bs.take i) g)
  bs.length [(2, .pointer (some ⟨B, 0, none⟩)), (3, .pointer (some ⟨C, 0, none⟩)), (5, .pointer (some ⟨X, 0, none⟩)), (6, .pointer (some ⟨Y, 0, none⟩)), (45, bv), (46, .int .i64 bs.length), (47, .int .i64 (0 : Nat))] (by simp only [hasAll, kS1, bLookup, bMapSet, wantA, isCall, stepOp, evalO, evalL, evalP, evalM, putDst, flat, kA, kB, Nat.reduceLT, ↓reduceIte, kC, Nat.reduceEqDiff, aBuiltin, abinG, guardFree, abin, aInt, aUn, aNilCheck, retQ, retQ1, aresults, aresultL, aresult, mkF, undefV, reduceCtorEq, kD, kE, kF, kG, kH, kI, kJ, kK, aExtract, calleeOf, f2, f3, f5, f6]; simp [f2, f3, f5, f6]) ⟨0, _, g6, rfl, Nat.zero_le _, rfl, O6⟩ ?_
 clear O6 C6 wf6
 clear h6
 rintro k fr hq hwq ⟨i, ov, g, rfl, hi, rfl, O⟩
 have lq := O.bg.trans O.gh
 simp only [kS1, bLookup, bMapSet, wantA, isCall, stepOp, evalO, evalL, evalP, evalM, putDst, flat, kA, kB, Nat.reduceLT, ↓reduceIte, kC, Nat.reduceEqDiff, aBuiltin, abinG, guardFree, abin, aInt, aUn, aNilCheck, retQ, retQ1, aresults, aresultL, aresult, mkF, undefV, reduceCtorEq, kD, kE, kF, kG, kH, kI, kJ, kK, aExtract, calleeOf]
 refine KCond.intro (fun ht => ?_) (fun hf => ?_)
 ·have hlt : i < bs.length := lt_t ht
  clear ht
  have hpi := getElem?_of hlt
  have t1 : bs.take (i + 1) = bs.take i ++ [bs[i]] := List.take_succ_eq_append_getElem hlt
  have ad := hb.addr (P := Try.prog) Try.underlying38 Try.underlying22 (by kernel_rfl) (k := .i64) i hlt
  obtain ⟨u, ld, hu⟩ := (hb5.le Stays.PR lq).load (P := Try.prog) Try.underlying22 rfl i hlt
  have hpl := tb2 _ (List.mem_of_getElem? hpi)
  generalize bs[i] = p at hpi t1 hu hpl
  have lO := (O.ld hq (Le.refl _)).2
  simp only [kS1, bLookup, bMapSet, wantA, isCall, stepOp, evalO, evalL, evalP, evalM, putDst, flat, kA, kB, Nat.reduceLT, ↓reduceIte, kC, Nat.reduceEqDiff, aBuiltin, abinG, guardFree, abin, aInt, aUn, aNilCheck, retQ, retQ1, aresults, aresultL, aresult, mkF, undefV, reduceCtorEq, kD, kE, kF, kG, kH, kI, kJ, kK, aExtract, calleeOf, ad, ld]
  refine KDraw.intro mixed (.fl 0 (.fl 1 (.fl 2 (.ch 3 [2] (.ch 4 [3] (.ch 5 [1, 3, 4] (.fl 6 (.ch 7 [0, 1, 2, 3, 4, 5, 6] (.done) .no)) .no) .no) .no)))) (by kernel_rfl) ?_
  simp only [kS1, bLookup, bMapSet, wantA, isCall, stepOp, evalO, evalL, evalP, evalM, putDst, flat, kA, kB, Nat.reduceLT, ↓reduceIte, kC, Nat.reduceEqDiff, aBuiltin, abinG, guardFree, abin, aInt, aUn, aNilCheck, retQ, retQ1, aresults, aresultL, aresult, mkF, undefV, reduceCtorEq, kD, kE, kF, kG, kH, kI, kJ, kK, aExtract, calleeOf, kD1, Nat.reduceBEq, HoldsAll, kL, kM, kN, kO, tf0, aadd, Nat.zero_add, lO]
  refine KGCall.intro (by simp only [kS1, bLookup, bMapSet, wantA, isCall, stepOp, evalO, evalL, evalP, evalM, putDst, flat, kA, kB, Nat.reduceLT, ↓reduceIte, kC, Nat.reduceEqDiff, aBuiltin, abinG, guardFree, abin, aInt, aUn, aNilCheck, retQ, retQ1, aresults, aresultL, aresult, mkF, undefV, reduceCtorEq, kD, kE, kF, kG, kH, kI, kJ, kK, aExtract, calleeOf] <;> rfl) ⟨Try.func16, rfl, by decide⟩ (CopyPairsB W0 u p hq hu hpl) ?_
  rintro x h7 w7 ⟨gx, l7, ax⟩
  have lO7 := (O.ld h7 l7).2
  obtain ⟨h8, v', h9, g', e8, l8, e9, st, w10, O'⟩ := O.push l7 w7 gx ax (by rw [List.length_take]; omega)
  have lO8 := (O.ld h8 (l7.trans l8)).2
  simp only [kS1, bLookup, bMapSet, wantA, isCall, stepOp, evalO, evalL, evalP, evalM, putDst, flat, kA, kB, Nat.reduceLT, ↓reduceIte, kC, Nat.reduceEqDiff, aBuiltin, abinG, guardFree, abin, aInt, aUn, aNilCheck, retQ, retQ1, aresults, aresultL, aresult, mkF, undefV, reduceCtorEq, kD, kE, kF, kG, kH, kI, kJ, kK, aExtract, calleeOf, kD1, Nat.reduceBEq, HoldsAll, kL, kM, kN, kO, e8, e9, tf0, aadd, Nat.zero_add, lO7, lO8, st, awrap_succ i (by omega)]
  rw [← t1] at O'
  exact loop_again (bs.length - (i + 1)) [(2, .pointer (some ⟨B, 0, none⟩)), (3, .pointer (some ⟨C, 0, none⟩)), (5, .pointer (some ⟨X, 0, none⟩)), (6, .pointer (some ⟨Y, 0, none⟩)), (45, bv), (46, .int .i64 bs.length), (47, .int .i64 (i + 1 : Nat))] (by omega) (by simp only [hasAll, kS1, bLookup, bMapSet, wantA, isCall, stepOp, evalO, evalL, evalP, evalM, putDst, flat, kA, kB, Nat.reduceLT, ↓reduceIte, kC, Nat.reduceEqDiff, aBuiltin, abinG, guardFree, abin, aInt, aUn, aNilCheck, retQ, retQ1, aresults, aresultL, aresult, mkF, undefV, reduceCtorEq, kD, kE, kF, kG, kH, kI, kJ, kK, aExtract, calleeOf]; simp) ⟨i + 1, v', g', rfl, hlt, rfl, O'⟩
 have hge : bs.length ≤ i := lt_f hf
 rw [List.take_of_length_le hge] at O
 clear hf hge hi
 have lX := fun g l => lX g (lq.trans l)
 have lA := fun g l => lA g (le5.trans (lq.trans l))
 have lC := fun g l => lC5 g (lq.trans l)
 have lO := fun g l => (O.ld g l).1
 have gX : ∀ g, Le hq g → GR g (.agg #[.int .i64 gn, xv]) ⟨gn, es⟩ := fun g l => ⟨xv, rfl, pc.le (lq.trans l)⟩
 have gA : ∀ g, Le hq g → GR g (.agg #[.int .i64 gn, ev]) ⟨gn, es⟩ := fun g l => hg0.le (le1.trans (le5.trans (lq.trans l)))
 have tO : ∀ g, Le hq g → TR g (.agg #[ov, cv, lv]) ⟨bs, cs, ls⟩ := fun g l => O.tr.le l
 have tA : ∀ g, Le hq g → TR g (.agg #[bv, cw, lw]) ⟨bs, cs, ls⟩ := fun g l => ht0.le (le1.trans (le5.trans (lq.trans l)))
 clear O
 obtain ⟨E, U, hU, pT⟩ := pickT (G := ⟨gn, es⟩) (by simp only; omega)
 obtain ⟨bo, kk, pC, pD⟩ := pickC bs.length (bs.length + cs.length) ls
 have dee : decide (E = E) = true := by simp
 have dkk : decide (kk = kk) = true := by simp
 have X0 := lX hq (Le.refl _)
 simp only [kS1, bLookup, bMapSet, wantA, isCall, stepOp, evalO, evalL, evalP, evalM, putDst, flat, kA, kB, Nat.reduceLT, ↓reduceIte, kC, Nat.reduceEqDiff, aBuiltin, abinG, guardFree, abin, aInt, aUn, aNilCheck, retQ, retQ1, aresults, aresultL, aresult, mkF, undefV, reduceCtorEq, kD, kE, kF, kG, kH, kI, kJ, kK, aExtract, calleeOf, X0]
 refine KCall.intro (by simp only [kS1, bLookup, bMapSet, wantA, isCall, stepOp, evalO, evalL, evalP, evalM, putDst, flat, kA, kB, Nat.reduceLT, ↓reduceIte, kC, Nat.reduceEqDiff, aBuiltin, abinG, guardFree, abin, aInt, aUn, aNilCheck, retQ, retQ1, aresults, aresultL, aresult, mkF, undefV, reduceCtorEq, kD, kE, kF, kG, kH, kI, kJ, kK, aExtract, calleeOf] <;> rfl) ⟨Try.func43, rfl, by decide⟩ (Tree_any W0 _ ⟨gn, es⟩ hq (gX hq (Le.refl _))) ?_
 rintro x h6 w6 ⟨l6, hcs⟩
 obtain ⟨s1, rfl, q1⟩ := pT h6 x hcs
 clear hcs
 have q10 := q1
 obtain ⟨x1, x2, x3, rfl, r1, r2, r3⟩ := q1
 obtain ⟨h7', h7, a7, s7, l7, w7, L7⟩ := newT w6 r1 r2 r3
 have A7 := lA h7 (l6.trans l7)
 simp only [kS1, bLookup, bMapSet, wantA, isCall, stepOp, evalO, evalL, evalP, evalM, putDst, flat, kA, kB, Nat.reduceLT, ↓reduceIte, kC, Nat.reduceEqDiff, aBuiltin, abinG, guardFree, abin, aInt, aUn, aNilCheck, retQ, retQ1, aresults, aresultL, aresult, mkF, undefV, reduceCtorEq, kD, kE, kF, kG, kH, kI, kJ, kK, aExtract, calleeOf, a7, s7, A7.1]
 generalize h6.next = P1 at *
 refine KCall.intro (by simp only [kS1, bLookup, bMapSet, wantA, isCall, stepOp, evalO, evalL, evalP, evalM, putDst, flat, kA, kB, Nat.reduceLT, ↓reduceIte, kC, Nat.reduceEqDiff, aBuiltin, abinG, guardFree, abin, aInt, aUn, aNilCheck, retQ, retQ1, aresults, aresultL, aresult, mkF, undefV, reduceCtorEq, kD, kE, kF, kG, kH, kI, kJ, kK, aExtract, calleeOf] <;> rfl) ⟨Try.func44, rfl, by decide⟩ (RTree_any W0 _ ⟨gn, es⟩ h7 (gA h7 (l6.trans l7))) ?_
 rintro x h8 w8 ⟨l8, hcs⟩
 obtain ⟨s2, rfl, q2⟩ := pT h8 x hcs
 clear hcs
 have q20 := q2
 obtain ⟨z1, z2, z3, rfl, t1, t2, t3⟩ := q2
 obtain ⟨h9', h9, a9, s9, l9, w9, L9⟩ := newT w8 t1 t2 t3
 have le9 := (l6.trans l7).trans (l8.trans l9)
 have O9 := lO h9 le9
 simp only [kS1, bLookup, bMapSet, wantA, isCall, stepOp, evalO, evalL, evalP, evalM, putDst, flat, kA, kB, Nat.reduceLT, ↓reduceIte, kC, Nat.reduceEqDiff, aBuiltin, abinG, guardFree, abin, aInt, aUn, aNilCheck, retQ, retQ1, aresults, aresultL, aresult, mkF, undefV, reduceCtorEq, kD, kE, kF, kG, kH, kI, kJ, kK, aExtract, calleeOf, a9, s9, O9]
 generalize h8.next = P2 at *
 refine KCall.intro (by simp only [kS1, bLookup, bMapSet, wantA, isCall, stepOp, evalO, evalL, evalP, evalM, putDst, flat, kA, kB, Nat.reduceLT, ↓reduceIte, kC, Nat.reduceEqDiff, aBuiltin, abinG, guardFree, abin, aInt, aUn, aNilCheck, retQ, retQ1, aresults, aresultL, aresult, mkF, undefV, reduceCtorEq, kD, kE, kF, kG, kH, kI, kJ, kK, aExtract, calleeOf] <;> rfl) ⟨Try.func45, rfl, by decide⟩ (Centre_any W0 _ _ h9 (tO h9 le9) _ rfl k4 (by simp only; omega)) ?_
 rintro x h10 w10 ⟨l10, hcs⟩
 obtain rfl := pC x hcs
 clear hcs
 have le10 := le9.trans l10
 have C10 := lC h10 le10
 simp only [kS1, bLookup, bMapSet, wantA, isCall, stepOp, evalO, evalL, evalP, evalM, putDst, flat, kA, kB, Nat.reduceLT, ↓reduceIte, kC, Nat.reduceEqDiff, aBuiltin, abinG, guardFree, abin, aInt, aUn, aNilCheck, retQ, retQ1, aresults, aresultL, aresult, mkF, undefV, reduceCtorEq, kD, kE, kF, kG, kH, kI, kJ, kK, aExtract, calleeOf, C10.1]
 refine KCall.intro (by simp only [kS1, bLookup, bMapSet, wantA, isCall, stepOp, evalO, evalL, evalP, evalM, putDst, flat, kA, kB, Nat.reduceLT, ↓reduceIte, kC, Nat.reduceEqDiff, aBuiltin, abinG, guardFree, abin, aInt, aUn, aNilCheck, retQ, retQ1, aresults, aresultL, aresult, mkF, undefV, reduceCtorEq, kD, kE, kF, kG, kH, kI, kJ, kK, aExtract, calleeOf] <;> rfl) ⟨Try.func46, rfl, by decide⟩ (RCentre_any W0 _ _ h10 (tA h10 le10) _ rfl k4 (by simp only; omega)) ?_
 rintro x h11 w11 ⟨l11, hcs⟩
 obtain rfl := pD x hcs
 clear hcs
 have l911 := l10.trans l11
 have F1 := L7 h11 ((l8.trans l9).trans l911)
 have F2 := L9 h11 l911
 simp only [kS1, bLookup, bMapSet, wantA, isCall, stepOp, evalO, evalL, evalP, evalM, putDst, flat, kA, kB, Nat.reduceLT, ↓reduceIte, kC, Nat.reduceEqDiff, aBuiltin, abinG, guardFree, abin, aInt, aUn, aNilCheck, retQ, retQ1, aresults, aresultL, aresult, mkF, undefV, reduceCtorEq, kD, kE, kF, kG, kH, kI, kJ, kK, aExtract, calleeOf, dee, F1.1, F2.1]
 refine KCall.intro (by simp only [kS1, bLookup, bMapSet, wantA, isCall, stepOp, evalO, evalL, evalP, evalM, putDst, flat, kA, kB, Nat.reduceLT, ↓reduceIte, kC, Nat.reduceEqDiff, aBuiltin, abinG, guardFree, abin, aInt, aUn, aNilCheck, retQ, retQ1, aresults, aresultL, aresult, mkF, undefV, reduceCtorEq, kD, kE, kF, kG, kH, kI, kJ, kK, aExtract, calleeOf] <;> rfl) ⟨Try.func47, rfl, by decide⟩ (SameTreeB W0 _ _ U U h11 (q10.le (l7.trans ((l8.trans l9).trans l911))) (q20.le (l9.trans l911)) hU.1 hU.2.1 hU.2.2.1 hU.2.2.2) ?_
 rintro x h12 w12 ⟨hx, l12⟩
 obtain rfl : x = .bool true := by rw [hx]; simp
 have le12 := le9.trans (l911.trans l12)
 have X12 := lX h12 le12
 have A12 := lA h12 le12
 have dbo : aEq Try.prog 4 (.bool bo) (.bool bo) = some true := by cases bo <;> kernel_rfl
 simp only [kS1, bLookup, bMapSet, wantA, isCall, stepOp, evalO, evalL, evalP, evalM, putDst, flat, kA, kB, Nat.reduceLT, ↓reduceIte, kC, Nat.reduceEqDiff, aBuiltin, abinG, guardFree, abin, aInt, aUn, aNilCheck, retQ, retQ1, aresults, aresultL, aresult, mkF, undefV, reduceCtorEq, kD, kE, kF, kG, kH, kI, kJ, kK, aExtract, calleeOf, dkk, dbo, X12, A12.1]
 refine KCall.intro (by simp only [kS1, bLookup, bMapSet, wantA, isCall, stepOp, evalO, evalL, evalP, evalM, putDst, flat, kA, kB, Nat.reduceLT, ↓reduceIte, kC, Nat.reduceEqDiff, aBuiltin, abinG, guardFree, abin, aInt, aUn, aNilCheck, retQ, retQ1, aresults, aresultL, aresult, mkF, undefV, reduceCtorEq, kD, kE, kF, kG, kH, kI, kJ, kK, aExtract, calleeOf] <;> rfl) ⟨Try.func29, rfl, by decide⟩ (SameGraph_any W0 _ _ ⟨gn, es⟩ ⟨gn, es⟩ h12 (gX h12 le12) (gA h12 le12) (by simp only; omega)) ?_
 rintro x h13 w13 ⟨hx, l13⟩
 obtain rfl : x = .bool true := by rw [hx]; simp
 have le13 := le12.trans l13
 have O13 := lO h13 le13
 have C13 := lC h13 le13
 simp only [kS1, bLookup, bMapSet, wantA, isCall, stepOp, evalO, evalL, evalP, evalM, putDst, flat, kA, kB, Nat.reduceLT, ↓reduceIte, kC, Nat.reduceEqDiff, aBuiltin, abinG, guardFree, abin, aInt, aUn, aNilCheck, retQ, retQ1, aresults, aresultL, aresult, mkF, undefV, reduceCtorEq, kD, kE, kF, kG, kH, kI, kJ, kK, aExtract, calleeOf, O13, C13.1]
 refine KCall.intro (by simp only [kS1, bLookup, bMapSet, wantA, isCall, stepOp, evalO, evalL, evalP, evalM, putDst, flat, kA, kB, Nat.reduceLT, ↓reduceIte, kC, Nat.reduceEqDiff, aBuiltin, abinG, guardFree, abin, aInt, aUn, aNilCheck, retQ, retQ1, aresults, aresultL, aresult, mkF, undefV, reduceCtorEq, kD, kE, kF, kG, kH, kI, kJ, kK, aExtract, calleeOf] <;> rfl) ⟨Try.func47, rfl, by decide⟩ (SameTreeB W0 _ _ ⟨bs, cs, ls⟩ ⟨bs, cs, ls⟩ h13 (tO h13 le13) (tA h13 le13) (by simp only; omega) tb2 (by simp only; omega) (by simp only; omega)) ?_
 rintro x h14 w14 ⟨hx, l14⟩
 obtain rfl : x = .bool true := by rw [hx]; simp
 simp only [kS1, bLookup, bMapSet, wantA, isCall, stepOp, evalO, evalL, evalP, evalM, putDst, flat, kA, kB, Nat.reduceLT, ↓reduceIte, kC, Nat.reduceEqDiff, aBuiltin, abinG, guardFree, abin, aInt, aUn, aNilCheck, retQ, retQ1, aresults, aresultL, aresult, mkF, undefV, reduceCtorEq, kD, kE, kF, kG, kH, kI, kJ, kK, aExtract, calleeOf]
 refine KCall.intro (by simp only [kS1, bLookup, bMapSet, wantA, isCall, stepOp, evalO, evalL, evalP, evalM, putDst, flat, kA, kB, Nat.reduceLT, ↓reduceIte, kC, Nat.reduceEqDiff, aBuiltin, abinG, guardFree, abin, aInt, aUn, aNilCheck, retQ, retQ1, aresults, aresultL, aresult, mkF, undefV, reduceCtorEq, kD, kE, kF, kG, kH, kI, kJ, kK, aExtract, calleeOf] <;> rfl) ⟨Try.func41, rfl, by decide⟩ (awake6_any W0 h14) ?_
 rintro x h15 w15 ⟨rfl, l15⟩
 simp only [kS1, bLookup, bMapSet, wantA, isCall, stepOp, evalO, evalL, evalP, evalM, putDst, flat, kA, kB, Nat.reduceLT, ↓reduceIte, kC, Nat.reduceEqDiff, aBuiltin, abinG, guardFree, abin, aInt, aUn, aNilCheck, retQ, retQ1, aresults, aresultL, aresult, mkF, undefV, reduceCtorEq, kD, kE, kF, kG, kH, kI, kJ, kK, aExtract, calleeOf]
end Go.Fw
