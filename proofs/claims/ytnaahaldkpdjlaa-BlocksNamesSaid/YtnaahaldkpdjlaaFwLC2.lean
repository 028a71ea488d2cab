/- A text of the proof. -/
import Derived.Test.YtnaahaldkpdjlaaFwLT16
import Derived.Test.YtnaahaldkpdjlaaFwLT13
import Derived.Test.YtnaahaldkpdjlaaFwRow
set_option linter.unusedSimpArgs false
set_option linter.unusedVariables false
namespace Go.Fw
open Go.Proofs
attribute [local irreducible] KO4 KO3 KO2 KO1 KO KN KX KE VK KCond KDraw KCall KLoop
set_option maxHeartbeats 16000000
set_option maxRecDepth 10000
attribute [local irreducible] lowM bridgesM cutsM blocksM keyE
def lkU (i : Nat) (b : List Pr) (cs : List Nat) (k : Nat) : List Pr := ((List.range k).filter fun j => atB ((cs.getD j 0 : Nat) : Int) b).map fun (j : Nat) => ((i : Int), (j : Int))
def linksU (bs : List (List Pr)) (cs : List Nat) (i : Nat) : List Pr := (List.range i).flatMap fun k => lkU k (bs.getD k []) cs cs.length
theorem lkU_succ (i : Nat) (b : List Pr) (cs : List Nat) (k : Nat) : lkU i b cs (k + 1) = lkU i b cs k ++ if atB ((cs.getD k 0 : Nat) : Int) b then [((i : Int), (k : Int))] else [] := by
 rw [lkU, List.range_succ, List.filter_append, List.map_append]
 congr 1
 by_cases h : atB ((cs.getD k 0 : Nat) : Int) b = true
 ·rw [if_pos h, List.filter_cons_of_pos (by exact h)]; rfl
 ·rw [if_neg h, List.filter_cons_of_neg (by exact h)]; rfl
theorem linksU_succ (bs : List (List Pr)) (cs : List Nat) (i : Nat) : linksU bs cs (i + 1) = linksU bs cs i ++ lkU i (bs.getD i []) cs cs.length := by
 rw [linksU, List.range_succ, List.flatMap_append]; simp [linksU]
theorem lkU_len (i : Nat) (b : List Pr) (cs : List Nat) (k : Nat) : (lkU i b cs k).length ≤ k := by
 rw [lkU, List.length_map]
 have := List.length_filter_le (fun j => atB ((cs.getD j 0 : Nat) : Int) b) (List.range k)
 rwa [List.length_range] at this
theorem linksU_len (bs : List (List Pr)) (cs : List Nat) : ∀ i, (linksU bs cs i).length ≤ i * cs.length
 | 0 => by simp [linksU]
 | i + 1 => by
  rw [linksU_succ, List.length_append, Nat.add_mul, Nat.one_mul]
  have := linksU_len bs cs i
  have := lkU_len i (bs.getD i []) cs cs.length
  omega
def treeM (n : Nat) (es : List Pr) : TM := ⟨blocksM n es, nat64 (cutsM n es), linksU (blocksM n es) (cutsM n es) (blocksM n es).length⟩
def JoinG (n : Nat) (es : List Pr) : Prop := es ≠ [] ∧ (heads n es).length = 1
theorem blocks_le_n {n : Nat} {es : List Pr} (hr : InR n es) : (blocksM n es).length ≤ n := by
 obtain ⟨num, up, S⟩ := lowM_S hr
 rw [blocks_count S, Fo.beg]
 have := List.length_filter_le (fun c => decide (up c ≠ none ∧ hdN n es c = c)) (List.range n)
 rwa [List.length_range] at this
theorem cuts_le_n (n : Nat) (es : List Pr) : (cutsM n es).length ≤ n := by
 have := List.length_filter_le (isCut (lowM n es).1 (cntM (lowM n es).1 (lowM n es).2 n)) (List.range n)
 rw [cutsM]; rw [List.length_range] at this; exact this
theorem tree_links_le {n : Nat} {es : List Pr} (hr : InR n es) (hn : n ≤ 200) : ∀ i, i ≤ (blocksM n es).length → (linksU (blocksM n es) (cutsM n es) i).length ≤ 40000 := fun i hi => by
 have h1 := linksU_len (blocksM n es) (cutsM n es) i
 have h2 : i * (cutsM n es).length ≤ 200 * 200 := Nat.mul_le_mul (by have := blocks_le_n hr; omega) (by have := cuts_le_n n es; omega)
 omega
theorem mkP0' (h : AHeap) : aBuildSlice Try.prog h 22 0 [] = some (.slice (some ⟨h.next, 0, none⟩) 0 0, h.alloc (.cells [])) := rfl
theorem build66 {b c l : Value} (hb : ∃ a m k, b = .slice a m k) (hc : ∃ a m k, c = .slice a m k) (hl : ∃ a m k, l = .slice a m k) : aBuild Try.prog 76 [(0, b), (1, c), (2, l)] = some (.agg #[b, c, l]) := by
 obtain ⟨a1, b1, c1, rfl⟩ := hb
 obtain ⟨a2, b2, c2, rfl⟩ := hc
 obtain ⟨a3, b3, c3, rfl⟩ := hl
 kernel_rfl
theorem Tree_any (W0 : Base) (v : Value) (G : GM) (h : AHeap) (hg : GR h v G) :
  AC Try.prog W0 50 [v] h fun x h' => Le h h' ∧ ((¬ RightG G ∧ x = .tuple #[emptyT, .int .i64 20]) ∨ (RightG G ∧ ¬ JoinG G.n.toNat G.es ∧ x = .tuple #[emptyT, .int .i64 60]) ∨
   (RightG G ∧ JoinG G.n.toNat G.es ∧ ∃ tv, x = .tuple #[tv, .int .i64 0] ∧ TR h' tv (treeM G.n.toNat G.es))) := by
 have hg0 := hg
 obtain ⟨gn, es⟩ := G
 obtain ⟨ev, rfl, hp⟩ := hg.open
 refine AC.vc (fn := Try.f50) (c := _) ⟨Try.func50, rfl, by decide⟩ Try.ntmps50 Try.results50 (by simp) fun hwf => ?_
 simp only [argFrame, argFrom, Nat.reduceAdd]
 obtain ⟨h1, b1, le1, wf1, -, lA⟩ := boxG (n := gn) hwf hp
 generalize h.next = B at *
 obtain ⟨h2, e2, l2, w2, o2⟩ := alloc_f wf1 [.slice none 0 0, .slice none 0 0, .slice none 0 0]
 have al := alloc66 h1
 rw [e2] at al
 have nR : h.own h1.next = none := le1.next wf1 (Nat.le_refl _)
 generalize h1.next = R at *
 have le2 := le1.trans l2
 have sN : ∃ a m k, Value.slice none 0 0 = .slice a m k ∧ (Value.slice none 0 0).oneCell' = true := ⟨_, _, _, rfl, rfl⟩
 have sN' : ∃ a m k, Value.slice none 0 0 = .slice a m k := ⟨_, _, _, rfl⟩
 have stE : ∀ g : AHeap, g.own R = some (.cells [.slice none 0 0, .slice none 0 0, .slice none 0 0]) → aStore Try.prog g 76 (.pointer (some ⟨R, 0, none⟩)) emptyT = some (g.put R (.cells [.slice none 0 0, .slice none 0 0, .slice none 0 0])) := fun g o => store66 o sN sN sN
 have ldE : ∀ g : AHeap, aload Try.prog (g.put R (.cells [.slice none 0 0, .slice none 0 0, .slice none 0 0])) 76 ⟨R, 0, none⟩ = some emptyT := fun g => (load66 (AHeap.own_put_eq _ _ _) sN' sN' sN').1
 have lA2 := lA h2 l2
 simp only [kS1, bLookup, bMapSet, wantA, isCall, stepOp, evalO, evalL, evalP, evalM, putDst, flat, kA, kB, Nat.reduceLT, ↓reduceIte, kC, Nat.reduceEqDiff, aBuiltin, abinG, guardFree, abin, aInt, aUn, aNilCheck, retQ, retQ1, aresults, aresultL, aresult, mkF, undefV, reduceCtorEq, kD, kE, kF, kG, kH, kI, kJ, kK, aExtract, calleeOf, b1, al, lA2.1]
 refine KCall.intro (by simp only [kS1, bLookup, bMapSet, wantA, isCall, stepOp, evalO, evalL, evalP, evalM, putDst, flat, kA, kB, Nat.reduceLT, ↓reduceIte, kC, Nat.reduceEqDiff, aBuiltin, abinG, guardFree, abin, aInt, aUn, aNilCheck, retQ, retQ1, aresults, aresultL, aresult, mkF, undefV, reduceCtorEq, kD, kE, kF, kG, kH, kI, kJ, kK, aExtract, calleeOf] <;> rfl) ⟨Try.func57, rfl, by decide⟩ (Right_any W0 _ _ h2 (hg0.le le2)) ?_
 rintro x h3 w3 ⟨⟨bb, rfl, hbb⟩, l3⟩
 have le3 := le2.trans l3
 have o3 := l3.own _ _ o2
 have lA3 := lA h3 (l2.trans l3)
 cases bb with
 | false =>
  simp only [kS1, bLookup, bMapSet, wantA, isCall, stepOp, evalO, evalL, evalP, evalM, putDst, flat, kA, kB, Nat.reduceLT, ↓reduceIte, kC, Nat.reduceEqDiff, aBuiltin, abinG, guardFree, abin, aInt, aUn, aNilCheck, retQ, retQ1, aresults, aresultL, aresult, mkF, undefV, reduceCtorEq, kD, kE, kF, kG, kH, kI, kJ, kK, aExtract, calleeOf, build66e, stE h3 o3, ldE h3]
  exact ⟨le3.put _ nR, .inl ⟨fun A => Bool.noConfusion (hbb.2 A), trivial⟩⟩
 | true =>
 have hr := hbb.1 rfl
 clear hbb
 have h0 : 0 ≤ gn := hr.n0
 obtain ⟨n, rfl⟩ := Int.eq_ofNat_of_zero_le h0
 have hR := hr.inR
 have h200 : (n : Int) ≤ 200 := hr.n1
 have h594 : es.length ≤ 594 := hr.len
 have hlen := fun g => hp.len g
 simp only [Int.toNat_natCast]
 by_cases c0 : (es.length : Int) = 0
 ·have d0 : decide ((es.length : Int) = 0) = true := decide_eq_true c0
  simp only [kS1, bLookup, bMapSet, wantA, isCall, stepOp, evalO, evalL, evalP, evalM, putDst, flat, kA, kB, Nat.reduceLT, ↓reduceIte, kC, Nat.reduceEqDiff, aBuiltin, abinG, guardFree, abin, aInt, aUn, aNilCheck, retQ, retQ1, aresults, aresultL, aresult, mkF, undefV, reduceCtorEq, kD, kE, kF, kG, kH, kI, kJ, kK, aExtract, calleeOf, fg1, aadd, Nat.zero_add, lA3.2.2, hlen, d0, build66e, stE h3 o3, ldE h3]
  exact ⟨le3.put _ nR, .inr (.inl ⟨hr, fun J => J.1 (List.length_eq_zero_iff.1 (by omega)), trivial⟩)⟩
 have d0 : decide ((es.length : Int) = 0) = false := decide_eq_false c0
 have hes : es ≠ [] := fun e => c0 (by rw [e]; rfl)
 simp only [kS1, bLookup, bMapSet, wantA, isCall, stepOp, evalO, evalL, evalP, evalM, putDst, flat, kA, kB, Nat.reduceLT, ↓reduceIte, kC, Nat.reduceEqDiff, aBuiltin, abinG, guardFree, abin, aInt, aUn, aNilCheck, retQ, retQ1, aresults, aresultL, aresult, mkF, undefV, reduceCtorEq, kD, kE, kF, kG, kH, kI, kJ, kK, aExtract, calleeOf, fg1, aadd, Nat.zero_add, lA3.2.2, hlen, d0, lA3.1]
 refine KCall.intro (by simp only [kS1, bLookup, bMapSet, wantA, isCall, stepOp, evalO, evalL, evalP, evalM, putDst, flat, kA, kB, Nat.reduceLT, ↓reduceIte, kC, Nat.reduceEqDiff, aBuiltin, abinG, guardFree, abin, aInt, aUn, aNilCheck, retQ, retQ1, aresults, aresultL, aresult, mkF, undefV, reduceCtorEq, kD, kE, kF, kG, kH, kI, kJ, kK, aExtract, calleeOf] <;> rfl) ⟨Try.func17, rfl, by decide⟩ (Parts_any W0 _ ⟨(n : Int), es⟩ h3 (hg0.le le3) hr) ?_
 rintro pv h4 w4 ⟨gp, l4, -⟩
 simp only [Int.toNat_natCast] at gp
 have rp := gp.rl (Stays.RL Stays.isI)
 have lp := fun g => rp.len (P := Try.prog) Try.underlying32 g
 have hpl : ((partsN n es n).map nat64).length = (heads n es).length := by simp [partsN]
 rw [hpl] at lp
 have le4 := le3.trans l4
 have o4 := l4.own _ _ o3
 have l24 := (l2.trans l3).trans l4
 have lA4 := lA h4 l24
 by_cases c1 : ((heads n es).length : Int) = 1
 rotate_left
 ·have d1 : decide (((heads n es).length : Int) = 1) = false := decide_eq_false c1
  simp only [kS1, bLookup, bMapSet, wantA, isCall, stepOp, evalO, evalL, evalP, evalM, putDst, flat, kA, kB, Nat.reduceLT, ↓reduceIte, kC, Nat.reduceEqDiff, aBuiltin, abinG, guardFree, abin, aInt, aUn, aNilCheck, retQ, retQ1, aresults, aresultL, aresult, mkF, undefV, reduceCtorEq, kD, kE, kF, kG, kH, kI, kJ, kK, aExtract, calleeOf, lp, bne, d1, build66e, stE h4 o4, ldE h4]
  exact ⟨le4.put _ nR, .inr (.inl ⟨hr, fun J => c1 (by have := J.2; omega), trivial⟩)⟩
 have d1 : decide (((heads n es).length : Int) = 1) = true := decide_eq_true c1
 have hJ : JoinG n es := ⟨hes, by omega⟩
 simp only [kS1, bLookup, bMapSet, wantA, isCall, stepOp, evalO, evalL, evalP, evalM, putDst, flat, kA, kB, Nat.reduceLT, ↓reduceIte, kC, Nat.reduceEqDiff, aBuiltin, abinG, guardFree, abin, aInt, aUn, aNilCheck, retQ, retQ1, aresults, aresultL, aresult, mkF, undefV, reduceCtorEq, kD, kE, kF, kG, kH, kI, kJ, kK, aExtract, calleeOf, lp, bne, d1, lA4.1]
 refine KCall.intro (by simp only [kS1, bLookup, bMapSet, wantA, isCall, stepOp, evalO, evalL, evalP, evalM, putDst, flat, kA, kB, Nat.reduceLT, ↓reduceIte, kC, Nat.reduceEqDiff, aBuiltin, abinG, guardFree, abin, aInt, aUn, aNilCheck, retQ, retQ1, aresults, aresultL, aresult, mkF, undefV, reduceCtorEq, kD, kE, kF, kG, kH, kI, kJ, kK, aExtract, calleeOf] <;> rfl) ⟨Try.func16, rfl, by decide⟩ (AC.frame o4 (Blocks_any W0 _ _ (h4.kill R) (hg0.le (le4.to_kill nR)))) ?_
 rintro x h5 w5 ⟨g5, ⟨l5', ⟨hn, _⟩ | ⟨_, kv, rfl, hk'⟩⟩, gn5, rfl⟩
 ·exact absurd hr hn
 simp only [Int.toNat_natCast] at hk'
 have l5 := l5'.framed o4
 have hk := hk'.le Stays.PR (Le.put_none gn5 (.cells [.slice none 0 0, .slice none 0 0, .slice none 0 0]))
 generalize hG5 : g5.put R (.cells [.slice none 0 0, .slice none 0 0, .slice none 0 0]) = h5 at *
 have l25 := l24.trans l5
 simp only [kS1, bLookup, bMapSet, wantA, isCall, stepOp, evalO, evalL, evalP, evalM, putDst, flat, kA, kB, Nat.reduceLT, ↓reduceIte, kC, Nat.reduceEqDiff, aBuiltin, abinG, guardFree, abin, aInt, aUn, aNilCheck, retQ, retQ1, aresults, aresultL, aresult, mkF, undefV, reduceCtorEq, kD, kE, kF, kG, kH, kI, kJ, kK, aExtract, calleeOf, bne, (lA h5 l25).1]
 refine KCall.intro (by simp only [kS1, bLookup, bMapSet, wantA, isCall, stepOp, evalO, evalL, evalP, evalM, putDst, flat, kA, kB, Nat.reduceLT, ↓reduceIte, kC, Nat.reduceEqDiff, aBuiltin, abinG, guardFree, abin, aInt, aUn, aNilCheck, retQ, retQ1, aresults, aresultL, aresult, mkF, undefV, reduceCtorEq, kD, kE, kF, kG, kH, kI, kJ, kK, aExtract, calleeOf] <;> rfl) ⟨Try.func86, rfl, by decide⟩ (Cuts_any W0 _ _ h5 (hg0.le (le4.trans l5))) ?_
 rintro x h6 w6 ⟨l6, ⟨hn, _⟩ | ⟨_, cv, rfl, gc, ac⟩⟩
 ·exact absurd hr hn
 simp only [Int.toNat_natCast] at gc
 have l26 := l25.trans l6
 have le6 := le1.trans l26
 have hk6 := hk.le Stays.PR l6
 have hbn := blocks_le_n hR
 have hcn := cuts_le_n n es
 have hlk := tree_links_le hR (by omega : n ≤ 200)
 have hbl := blocksM_len' n es
 have hsub : ∀ b ∈ blocksM n es, ∀ p ∈ b, p ∈ es := fun b hb p hp => (blocks_AtS hr).mem b hb p hp
 have hcl : ∀ c ∈ cutsM n es, c < n := fun c hc => ((cuts_mem hR c).1 hc).1
 have o6 := l6.own _ _ (l5.own _ _ o4)
 have lk := fun g => hk.len (P := Try.prog) Try.underlying28 g
 have lc := fun g => gc.rl.len (P := Try.prog) Try.underlying38 g
 rw [nat64_length] at lc
 have hTM : treeM n es = ⟨blocksM n es, nat64 (cutsM n es), linksU (blocksM n es) (cutsM n es) (blocksM n es).length⟩ := rfl
 rw [hTM]
 obtain ⟨h7, e7, l7, w7, o7⟩ := alloc_f w6 []
 have nL : h6.own h6.next = none := (Le.refl h6).next w6 (Nat.le_refl _)
 simp only [kS1, bLookup, bMapSet, wantA, isCall, stepOp, evalO, evalL, evalP, evalM, putDst, flat, kA, kB, Nat.reduceLT, ↓reduceIte, kC, Nat.reduceEqDiff, aBuiltin, abinG, guardFree, abin, aInt, aUn, aNilCheck, retQ, retQ1, aresults, aresultL, aresult, mkF, undefV, reduceCtorEq, kD, kE, kF, kG, kH, kI, kJ, kK, aExtract, calleeOf, bne, mkP0', e7, lk]
 have g7 : GP h7 (.slice (some ⟨h6.next, 0, none⟩) 0 0) [] := GS.full o7 rfl (by decide)
 have a7 : Apart h6 (.slice (some ⟨h6.next, 0, none⟩) 0 0) := fun b hb => by injection hb with hb; subst hb; exact nL
 generalize Value.slice (some ⟨h6.next, 0, none⟩) 0 0 = lv0 at *
 generalize blocksM n es = bs at *
 generalize cutsM n es = cs at *
 refine KLoop.intro (fun k fr hq => ∃ (i : Nat) (lv : Value), k = bs.length - i ∧ i ≤ bs.length ∧ fr = mkF [(1, .pointer (some ⟨B, 0, none⟩)), (2, .pointer (some ⟨R, 0, none⟩)), (4, kv), (6, cv), (7, lv), (49, kv), (50, .int .i64 bs.length), (51, .int .i64 i)] ∧ GP hq lv (linksU bs cs i) ∧ Le h6 hq ∧ Apart h6 lv)
  bs.length [(1, .pointer (some ⟨B, 0, none⟩)), (2, .pointer (some ⟨R, 0, none⟩)), (4, kv), (6, cv), (7, lv0), (49, kv), (50, .int .i64 bs.length), (51, .int .i64 (0 : Nat))] (by simp only [hasAll, kS1, bLookup, bMapSet, wantA, isCall, stepOp, evalO, evalL, evalP, evalM, putDst, flat, kA, kB, Nat.reduceLT, ↓reduceIte, kC, Nat.reduceEqDiff, aBuiltin, abinG, guardFree, abin, aInt, aUn, aNilCheck, retQ, retQ1, aresults, aresultL, aresult, mkF, undefV, reduceCtorEq, kD, kE, kF, kG, kH, kI, kJ, kK, aExtract, calleeOf]; simp)
  ⟨0, lv0, rfl, Nat.zero_le _, rfl, g7, l7, a7⟩ ?_
 clear g7 a7 lv0 nL o7 w7 l7 e7
 clear h7
 rintro k fr hq hwq ⟨i, lv, rfl, hi, rfl, gl, leq, al6⟩
 simp only [kS1, bLookup, bMapSet, wantA, isCall, stepOp, evalO, evalL, evalP, evalM, putDst, flat, kA, kB, Nat.reduceLT, ↓reduceIte, kC, Nat.reduceEqDiff, aBuiltin, abinG, guardFree, abin, aInt, aUn, aNilCheck, retQ, retQ1, aresults, aresultL, aresult, mkF, undefV, reduceCtorEq, kD, kE, kF, kG, kH, kI, kJ, kK, aExtract, calleeOf]
 refine KCond.intro (fun ht => ?_) (fun hf => ?_)
 rotate_left
 ·have hge : bs.length ≤ i := lt_f hf
  obtain rfl : i = bs.length := by omega
  have oRq := leq.own _ _ o6
  have sK := hk.isS
  have sC := gc.rl.isS
  have sL := gl.pr.isS
  have st := store66 (R := R) oRq (b := kv) (c := cv) (l := lv) (by obtain ⟨a, m, k, e⟩ := sK; exact ⟨a, m, k, e, hk.one⟩) (by obtain ⟨a, m, k, e⟩ := sC; exact ⟨a, m, k, e, gc.rl.one⟩) (by obtain ⟨a, m, k, e⟩ := sL; exact ⟨a, m, k, e, gl.pr.sl.one⟩)
  have ld := (load66 (AHeap.own_put_eq hq R (.cells [kv, cv, lv])) sK sC sL).1
  simp only [kS1, bLookup, bMapSet, wantA, isCall, stepOp, evalO, evalL, evalP, evalM, putDst, flat, kA, kB, Nat.reduceLT, ↓reduceIte, kC, Nat.reduceEqDiff, aBuiltin, abinG, guardFree, abin, aInt, aUn, aNilCheck, retQ, retQ1, aresults, aresultL, aresult, mkF, undefV, reduceCtorEq, kD, kE, kF, kG, kH, kI, kJ, kK, aExtract, calleeOf, build66 sK sC sL, st, ld]
  have l5q := (l6.trans leq)
  rw [← hG5] at l5q
  have lg := Le.unframed gn5 l5q (.cells [kv, cv, lv])
  have nRc : blk lv ≠ some R := fun e => by have := al6 R e; rw [o6] at this; cases this
  have gcR : GI (hq.put R (.cells [kv, cv, lv])) cv (nat64 cs) := GS.put (gc.le leq) _ (fun e => by have := ac R e; rw [l5.own _ _ o4] at this; cases this)
  have glR : GP (hq.put R (.cells [kv, cv, lv])) lv (linksU bs cs bs.length) := GS.put gl _ nRc
  exact ⟨(le6.trans leq).put _ nR, .inr (.inr ⟨hr, hJ, _, rfl, kv, cv, lv, rfl, hk'.le Stays.PR lg, gcR.rl, glR.pr⟩)⟩
 have hlt : i < bs.length := lt_t ht
 clear ht
 have hbi := List.getElem_mem hlt
 have hgd : bs.getD i [] = bs[i] := getD_of hlt
 have hlki := hlk (i + 1) hlt
 rw [linksU_succ, hgd] at hlki
 have adi := hk.addr (P := Try.prog) Try.underlying28 Try.underlying22 (by kernel_rfl) (k := .i64) i hlt
 obtain ⟨u, ldi, hu⟩ := hk6.load' (P := Try.prog) Try.underlying22 rfl i hlt
 generalize bs[i] = b at *
 have hbe := hsub b hbi
 have hb594 : b.length ≤ 594 := Nat.le_trans (hbl.2 b hbi) h594
 have lAq := lA hq (l26.trans leq)
 have mk := aMakeSlice1 (P := Try.prog) (t := 25) (z := .bool false) hq Try.underlying25 rfl rfl rfl rfl (by kernel_rfl) Try.underlying4 (by kernel_rfl) n (by omega)
 obtain ⟨h8, e8, l8, w8, o8⟩ := alloc_f hwq (List.replicate n (.bool false))
 rw [e8] at mk
 have nM : hq.own hq.next = none := (Le.refl hq).next hwq (Nat.le_refl _)
 have lu := fun g => hu.len g
 simp only [kS1, bLookup, bMapSet, wantA, isCall, stepOp, evalO, evalL, evalP, evalM, putDst, flat, kA, kB, Nat.reduceLT, ↓reduceIte, kC, Nat.reduceEqDiff, aBuiltin, abinG, guardFree, abin, aInt, aUn, aNilCheck, retQ, retQ1, aresults, aresultL, aresult, mkF, undefV, reduceCtorEq, kD, kE, kF, kG, kH, kI, kJ, kK, aExtract, calleeOf, adi, ldi hq leq, fg0, aadd, Nat.zero_add, lAq.2.1, mk, lu]
 have oM : h8.own hq.next = some (.cells (Bo (List.replicate n false))) := by rw [o8]; simp [Bo]
 generalize hq.next = M at *
 have ixM : ∀ (k : IntKind) (j : Nat), j < n → aIndexAddr Try.prog 25 (.slice (some ⟨M, 0, none⟩) n n) (.int k j) = some (.pointer (some ⟨M, j, none⟩)) := fun k j hj => by rw [aIdx Try.underlying25 Try.underlying4 (by kernel_rfl) j hj]; simp [aadd]
 have nlM : blk lv ≠ some M := fun e => GS.blk_own gl e nM
 refine KLoop.intro (fun k fr hz => ∃ (m : Nat) (met : List Bool), k = b.length - m ∧ m ≤ b.length ∧ fr = mkF [(1, .pointer (some ⟨B, 0, none⟩)), (2, .pointer (some ⟨R, 0, none⟩)), (4, kv), (6, cv), (7, lv), (8, .int .i64 i), (10, .slice (some ⟨M, 0, none⟩) n n), (49, kv), (50, .int .i64 bs.length), (51, .int .i64 i), (59, u), (60, .int .i64 b.length), (61, .int .i64 m)] ∧
   hz.own M = some (.cells (Bo met)) ∧ met.length = n ∧ (∀ v : Nat, v < n → met.getD v false = (b.take m).any (incB (v : Int))) ∧ Le hq hz)
  b.length [(1, .pointer (some ⟨B, 0, none⟩)), (2, .pointer (some ⟨R, 0, none⟩)), (4, kv), (6, cv), (7, lv), (8, .int .i64 i), (10, .slice (some ⟨M, 0, none⟩) n n), (49, kv), (50, .int .i64 bs.length), (51, .int .i64 i), (59, u), (60, .int .i64 b.length), (61, .int .i64 (0 : Nat))] (by simp only [hasAll, kS1, bLookup, bMapSet, wantA, isCall, stepOp, evalO, evalL, evalP, evalM, putDst, flat, kA, kB, Nat.reduceLT, ↓reduceIte, kC, Nat.reduceEqDiff, aBuiltin, abinG, guardFree, abin, aInt, aUn, aNilCheck, retQ, retQ1, aresults, aresultL, aresult, mkF, undefV, reduceCtorEq, kD, kE, kF, kG, kH, kI, kJ, kK, aExtract, calleeOf]; simp)
  ⟨0, _, rfl, Nat.zero_le _, rfl, oM, by simp, fun v hv => by simp [hv], l8⟩ ?_
 clear mk o8 w8 l8 e8 oM lAq
 clear h8
 rintro k fr hz hwz ⟨m, met, rfl, hm, rfl, oM, hml, hmt, lez⟩
 simp only [kS1, bLookup, bMapSet, wantA, isCall, stepOp, evalO, evalL, evalP, evalM, putDst, flat, kA, kB, Nat.reduceLT, ↓reduceIte, kC, Nat.reduceEqDiff, aBuiltin, abinG, guardFree, abin, aInt, aUn, aNilCheck, retQ, retQ1, aresults, aresultL, aresult, mkF, undefV, reduceCtorEq, kD, kE, kF, kG, kH, kI, kJ, kK, aExtract, calleeOf]
 refine KCond.intro (fun ht => ?_) (fun hf => ?_)
 ·have hlm : m < b.length := lt_t ht
  clear ht
  have hpm := getElem?_of hlm
  have htk : b.take (m + 1) = b.take m ++ [b[m]] := List.take_succ_eq_append_getElem hlm
  have hpe := hR _ (hbe _ (List.getElem_mem hlm))
  generalize b[m] = p at *
  obtain ⟨a, ea⟩ := Int.eq_ofNat_of_zero_le hpe.1
  obtain ⟨c, ec⟩ := Int.eq_ofNat_of_zero_le (show 0 ≤ p.2 by omega)
  have han : a < n := by omega
  have hcn' : c < n := by omega
  have adp := hu.addr (k := .i64) m hlm
  have ldp := (hu.le (leq.trans lez)).load hpm
  obtain ⟨h9', h9, e9, e9s, l9, w9, o9⟩ := new42 hwz p
  have nE : hz.own hz.next = none := (Le.refl hz).next hwz (Nat.le_refl _)
  have neEM : hz.next ≠ M := fun e => by rw [e, oM] at nE; cases nE
  generalize hz.next = E at *
  have oM9 := l9.own _ _ oM
  have m0 := own0 o9
  have m1 := own1 o9
  rw [ea] at m0
  rw [ec] at m1
  have st1 := aStore1 (P := Try.prog) (t := 4) (x := .bool true) Try.underlying4 (by kernel_rfl) oM9 (off := a) (by simp [Bo]; omega) rfl rfl
  rw [Bo_set] at st1
  have oM10 := AHeap.own_put_eq h9 M (.cells (Bo (met.set a true)))
  have st2 := aStore1 (P := Try.prog) (t := 4) (x := .bool true) Try.underlying4 (by kernel_rfl) oM10 (off := c) (by simp [Bo]; omega) rfl rfl
  rw [Bo_set] at st2
  have w10 := w9.put (.cells (Bo (met.set a true))) (w9.lt oM9)
  have o10 : (h9.put M (.cells (Bo (met.set a true)))).own E = some (.cells (cellsP p)) := by rw [AHeap.own_put_ne _ _ _ _ neEM]; exact o9
  have m0' := own0 o10
  have m1' := own1 o10
  rw [ea] at m0'
  rw [ec] at m1'
  have l11 := ((lez.trans l9).put (.cells (Bo (met.set a true))) nM).put (.cells (Bo ((met.set a true).set c true))) nM
  simp only [kS1, bLookup, bMapSet, wantA, isCall, stepOp, evalO, evalL, evalP, evalM, putDst, flat, kA, kB, Nat.reduceLT, ↓reduceIte, kC, Nat.reduceEqDiff, aBuiltin, abinG, guardFree, abin, aInt, aUn, aNilCheck, retQ, retQ1, aresults, aresultL, aresult, mkF, undefV, reduceCtorEq, kD, kE, kF, kG, kH, kI, kJ, kK, aExtract, calleeOf, adp, ldp, e9, e9s]
  refine KDraw.intro mixed (.fl 0 (.fl 1 (.fl 2 (.fl 3 (.fl 4 (.fl 5 (.fl 6 (.ch 7 [0, 1, 2, 6] (.fl 8 (.ch 9 [0, 1, 2, 3, 4, 5, 6, 7, 8] (.done) .no)) .no)))))))) (by kernel_rfl) ?_
  simp only [kS1, bLookup, bMapSet, wantA, isCall, stepOp, evalO, evalL, evalP, evalM, putDst, flat, kA, kB, Nat.reduceLT, ↓reduceIte, kC, Nat.reduceEqDiff, aBuiltin, abinG, guardFree, abin, aInt, aUn, aNilCheck, retQ, retQ1, aresults, aresultL, aresult, mkF, undefV, reduceCtorEq, kD, kE, kF, kG, kH, kI, kJ, kK, aExtract, calleeOf, kD1, Nat.reduceBEq, HoldsAll, kL, kM, kN, kO, pa0, pa1, aadd, Nat.zero_add, m0, m1, m0', m1', ixM _ a han, ixM _ c hcn', st1, st2, awrap_succ m (by omega)]
  refine loop_again (b.length - (m + 1)) [(1, .pointer (some ⟨B, 0, none⟩)), (2, .pointer (some ⟨R, 0, none⟩)), (4, kv), (6, cv), (7, lv), (8, .int .i64 i), (10, .slice (some ⟨M, 0, none⟩) n n), (49, kv), (50, .int .i64 bs.length), (51, .int .i64 i), (59, u), (60, .int .i64 b.length), (61, .int .i64 (m + 1 : Nat))] (by omega) (by simp only [hasAll, kS1, bLookup, bMapSet, wantA, isCall, stepOp, evalO, evalL, evalP, evalM, putDst, flat, kA, kB, Nat.reduceLT, ↓reduceIte, kC, Nat.reduceEqDiff, aBuiltin, abinG, guardFree, abin, aInt, aUn, aNilCheck, retQ, retQ1, aresults, aresultL, aresult, mkF, undefV, reduceCtorEq, kD, kE, kF, kG, kH, kI, kJ, kK, aExtract, calleeOf]; simp)
   ⟨m + 1, _, rfl, hlm, rfl, AHeap.own_put_eq _ _ _, by simp [hml], fun v hv => ?_, l11⟩
  rw [htk, List.any_append, ← hmt v hv, getD_set, getD_set, List.length_set, hml]
  simp only [List.any_cons, List.any_nil, Bool.or_false, incB, ea, ec]
  by_cases q1 : c = v
  ·rw [if_pos ⟨q1, by omega⟩]; subst q1; simp
  ·rw [if_neg (fun h => q1 h.1)]
   by_cases q2 : a = v
   ·rw [if_pos ⟨q2, by omega⟩]; subst q2; simp
   ·rw [if_neg (fun h => q2 h.1)]
    have n1 : ¬ ((a : Int) = (v : Int)) := by omega
    have n2 : ¬ ((c : Int) = (v : Int)) := by omega
    simp [n1, n2]
 have hge : b.length ≤ m := lt_f hf
 rw [List.take_of_length_le hge] at hmt
 clear hge hf
 have leqz := leq.trans lez
 have gcz := gc.le leqz
 simp only [kS1, bLookup, bMapSet, wantA, isCall, stepOp, evalO, evalL, evalP, evalM, putDst, flat, kA, kB, Nat.reduceLT, ↓reduceIte, kC, Nat.reduceEqDiff, aBuiltin, abinG, guardFree, abin, aInt, aUn, aNilCheck, retQ, retQ1, aresults, aresultL, aresult, mkF, undefV, reduceCtorEq, kD, kE, kF, kG, kH, kI, kJ, kK, aExtract, calleeOf, lc]
 refine KLoop.intro (fun k fr hy => ∃ (j : Nat) (lw : Value), k = cs.length - j ∧ j ≤ cs.length ∧ fr = mkF [(1, .pointer (some ⟨B, 0, none⟩)), (2, .pointer (some ⟨R, 0, none⟩)), (4, kv), (6, cv), (7, lw), (8, .int .i64 i), (10, .slice (some ⟨M, 0, none⟩) n n), (49, kv), (50, .int .i64 bs.length), (51, .int .i64 i), (74, cv), (75, .int .i64 cs.length), (76, .int .i64 j)] ∧
   hy.own M = some (.cells (Bo met)) ∧ GP hy lw (linksU bs cs i ++ lkU i b cs j) ∧ blk lw ≠ some M ∧ Le h6 hy ∧ Apart h6 lw)
  cs.length [(1, .pointer (some ⟨B, 0, none⟩)), (2, .pointer (some ⟨R, 0, none⟩)), (4, kv), (6, cv), (7, lv), (8, .int .i64 i), (10, .slice (some ⟨M, 0, none⟩) n n), (49, kv), (50, .int .i64 bs.length), (51, .int .i64 i), (74, cv), (75, .int .i64 cs.length), (76, .int .i64 (0 : Nat))] (by simp only [hasAll, kS1, bLookup, bMapSet, wantA, isCall, stepOp, evalO, evalL, evalP, evalM, putDst, flat, kA, kB, Nat.reduceLT, ↓reduceIte, kC, Nat.reduceEqDiff, aBuiltin, abinG, guardFree, abin, aInt, aUn, aNilCheck, retQ, retQ1, aresults, aresultL, aresult, mkF, undefV, reduceCtorEq, kD, kE, kF, kG, kH, kI, kJ, kK, aExtract, calleeOf]; simp)
  ⟨0, lv, rfl, Nat.zero_le _, rfl, oM, by simpa [lkU] using gl.le lez, nlM, leqz, al6⟩ ?_
 rintro k fr hy hwy ⟨j, lw, rfl, hj, rfl, oMy, gw, nw, ley, aw⟩
 simp only [kS1, bLookup, bMapSet, wantA, isCall, stepOp, evalO, evalL, evalP, evalM, putDst, flat, kA, kB, Nat.reduceLT, ↓reduceIte, kC, Nat.reduceEqDiff, aBuiltin, abinG, guardFree, abin, aInt, aUn, aNilCheck, retQ, retQ1, aresults, aresultL, aresult, mkF, undefV, reduceCtorEq, kD, kE, kF, kG, kH, kI, kJ, kK, aExtract, calleeOf]
 refine KCond.intro (fun ht => ?_) (fun hf => ?_)
 rotate_left
 ·have hge : cs.length ≤ j := lt_f hf
  obtain rfl : j = cs.length := by omega
  simp only [kS1, bLookup, bMapSet, wantA, isCall, stepOp, evalO, evalL, evalP, evalM, putDst, flat, kA, kB, Nat.reduceLT, ↓reduceIte, kC, Nat.reduceEqDiff, aBuiltin, abinG, guardFree, abin, aInt, aUn, aNilCheck, retQ, retQ1, aresults, aresultL, aresult, mkF, undefV, reduceCtorEq, kD, kE, kF, kG, kH, kI, kJ, kK, aExtract, calleeOf, awrap_succ i (by omega)]
  exact loop_again (bs.length - (i + 1)) [(1, .pointer (some ⟨B, 0, none⟩)), (2, .pointer (some ⟨R, 0, none⟩)), (4, kv), (6, cv), (7, lw), (49, kv), (50, .int .i64 bs.length), (51, .int .i64 (i + 1 : Nat))] (by omega) (by simp only [hasAll, kS1, bLookup, bMapSet, wantA, isCall, stepOp, evalO, evalL, evalP, evalM, putDst, flat, kA, kB, Nat.reduceLT, ↓reduceIte, kC, Nat.reduceEqDiff, aBuiltin, abinG, guardFree, abin, aInt, aUn, aNilCheck, retQ, retQ1, aresults, aresultL, aresult, mkF, undefV, reduceCtorEq, kD, kE, kF, kG, kH, kI, kJ, kK, aExtract, calleeOf]; simp)
   ⟨i + 1, lw, rfl, hlt, rfl, by rw [linksU_succ, hgd]; exact gw, ley, aw⟩
 have hlj : j < cs.length := lt_t ht
 clear ht
 have hmm : j < (nat64 cs).length := by rw [nat64_length]; exact hlj
 have ad := gc.rl.addr (P := Try.prog) Try.underlying38 Try.underlying3 (by kernel_rfl) (k := .i64) j hmm
 have ld := (gc.le ley).rl.loadI (P := Try.prog) Try.underlying3 rfl j hmm
 rw [nat64_get hlj] at ld
 have hgj : cs.getD j 0 = cs[j] := getD_of hlj
 have hjn := hcl _ (List.getElem_mem hlj)
 have hsucc := lkU_succ i b cs j
 rw [hgj] at hsucc
 have hle : (linksU bs cs i ++ lkU i b cs j).length ≤ 50000 := by
  have h1 := linksU_len bs cs i
  have h2 : i * cs.length ≤ 200 * 200 := Nat.mul_le_mul (by omega) (by omega)
  have h3 := lkU_len i b cs j
  rw [List.length_append]; omega
 generalize cs[j] = c at *
 have ldM : aload Try.prog hy 4 ⟨M, c, none⟩ = some (.bool (atB (c : Int) b)) := by
  rw [aload_one Try.underlying4 rfl oMy, atB, ← hmt c hjn, getD_of (by omega)]; simp [Bo, hml, hjn]
 cases hat : atB (c : Int) b with
 | false =>
  rw [hat] at ldM hsucc
  simp only [kS1, bLookup, bMapSet, wantA, isCall, stepOp, evalO, evalL, evalP, evalM, putDst, flat, kA, kB, Nat.reduceLT, ↓reduceIte, kC, Nat.reduceEqDiff, aBuiltin, abinG, guardFree, abin, aInt, aUn, aNilCheck, retQ, retQ1, aresults, aresultL, aresult, mkF, undefV, reduceCtorEq, kD, kE, kF, kG, kH, kI, kJ, kK, aExtract, calleeOf, ad, ld, ixM _ c hjn, ldM, awrap_succ j (by omega)]
  exact loop_again (cs.length - (j + 1)) [(1, .pointer (some ⟨B, 0, none⟩)), (2, .pointer (some ⟨R, 0, none⟩)), (4, kv), (6, cv), (7, lw), (8, .int .i64 i), (10, .slice (some ⟨M, 0, none⟩) n n), (49, kv), (50, .int .i64 bs.length), (51, .int .i64 i), (74, cv), (75, .int .i64 cs.length), (76, .int .i64 (j + 1 : Nat))] (by omega) (by simp only [hasAll, kS1, bLookup, bMapSet, wantA, isCall, stepOp, evalO, evalL, evalP, evalM, putDst, flat, kA, kB, Nat.reduceLT, ↓reduceIte, kC, Nat.reduceEqDiff, aBuiltin, abinG, guardFree, abin, aInt, aUn, aNilCheck, retQ, retQ1, aresults, aresultL, aresult, mkF, undefV, reduceCtorEq, kD, kE, kF, kG, kH, kI, kJ, kK, aExtract, calleeOf]; simp)
   ⟨j + 1, lw, rfl, hlj, rfl, oMy, by rw [hsucc]; simpa using gw, nw, ley, aw⟩
 | true =>
  rw [hat] at ldM hsucc
  obtain ⟨v', g4, g7, q4, q7, gp7, w7', lq4, f7, k7⟩ := gw.push hwy ((i : Int), (j : Int)) (by omega)
  obtain ⟨l7', a7'⟩ := f7 h6 ley aw
  obtain ⟨oM7, nM7⟩ := k7 M _ oMy nw
  have bE' : aBuild Try.prog 61 [(0, .int .i64 (i : Int)), (1, .int .i64 (j : Int))] = some (valP ((i : Int), (j : Int))) := bP2 _ _
  simp only [kS1, bLookup, bMapSet, wantA, isCall, stepOp, evalO, evalL, evalP, evalM, putDst, flat, kA, kB, Nat.reduceLT, ↓reduceIte, kC, Nat.reduceEqDiff, aBuiltin, abinG, guardFree, abin, aInt, aUn, aNilCheck, retQ, retQ1, aresults, aresultL, aresult, mkF, undefV, reduceCtorEq, kD, kE, kF, kG, kH, kI, kJ, kK, aExtract, calleeOf, ad, ld, ixM _ c hjn, ldM, bE', q4, q7, awrap_succ j (by omega)]
  exact loop_again (cs.length - (j + 1)) [(1, .pointer (some ⟨B, 0, none⟩)), (2, .pointer (some ⟨R, 0, none⟩)), (4, kv), (6, cv), (7, v'), (8, .int .i64 i), (10, .slice (some ⟨M, 0, none⟩) n n), (49, kv), (50, .int .i64 bs.length), (51, .int .i64 i), (74, cv), (75, .int .i64 cs.length), (76, .int .i64 (j + 1 : Nat))] (by omega) (by simp only [hasAll, kS1, bLookup, bMapSet, wantA, isCall, stepOp, evalO, evalL, evalP, evalM, putDst, flat, kA, kB, Nat.reduceLT, ↓reduceIte, kC, Nat.reduceEqDiff, aBuiltin, abinG, guardFree, abin, aInt, aUn, aNilCheck, retQ, retQ1, aresults, aresultL, aresult, mkF, undefV, reduceCtorEq, kD, kE, kF, kG, kH, kI, kJ, kK, aExtract, calleeOf]; simp)
   ⟨j + 1, v', rfl, hlj, rfl, oM7, by rw [hsucc, ← List.append_assoc]; exact gp7, nM7, l7', a7'⟩
end Go.Fw
