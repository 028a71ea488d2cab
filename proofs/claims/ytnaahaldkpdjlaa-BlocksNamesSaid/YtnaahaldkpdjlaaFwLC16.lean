/- A text of the proof. -/
import Derived.Test.YtnaahaldkpdjlaaFwLC14
import Derived.Test.YtnaahaldkpdjlaaFwLB8
import Derived.Test.YtnaahaldkpdjlaaFwLC13
import Derived.Test.YtnaahaldkpdjlaaFwLC4
set_option linter.unusedSimpArgs false
set_option linter.unusedVariables false
namespace Go.Fw
open Go.Proofs Go.ChangeShapes Go.WideShapes Go.RowKit Go.ChangeAt
open Go.Proofs.Ytnaahaldkpdjlaa
set_option maxRecDepth 100000
section
variable {H : Type} {enc : TypeId × Value → H} {W : World}
def Wt (P : Program) (t : TypeId) (d : DataW H) : Prop := (DataW.weights P t d).all (· ≤ reachBytes) = true
theorem weightsAll_mem {P : Program} {e : TypeId} : ∀ {l : List (DataW H)} {d : DataW H}, d ∈ l → ∀ {p : Nat → Bool}, (DataW.weightsAll P e l).all p = true → (DataW.weights P e d).all p = true
 | [], _, h, _, _ => by cases h
 | x :: r, d, h, p, ha => by
  rw [DataW.weightsAll, List.all_append, Bool.and_eq_true] at ha
  rcases List.mem_cons.1 h with rfl | h
  ·exact ha.1
  ·exact weightsAll_mem h ha.2
theorem Wt.slice {P : Program} {t e : TypeId} (ht : P.underlying t = some (.slice e)) {l sp : List (DataW H)} (h : Wt P t (.slice l sp)) : l.length * P.bytesOf e ≤ reachBytes ∧ ∀ d ∈ l, Wt P e d := by
 unfold Wt at h
 rw [DataW.weights, ht] at h
 simp only [List.all_cons, List.all_append, Bool.and_eq_true, decide_eq_true_eq] at h
 obtain ⟨h1, h2, -⟩ := h
 exact ⟨Nat.le_trans (Nat.mul_le_mul_right _ (Nat.le_add_right _ _)) h1, fun d hd => weightsAll_mem hd h2⟩
structure TB (T : TM) : Prop where
 bs : T.bs.length ≤ 100000000000000
 b : ∀ p ∈ T.bs, p.length ≤ 8796093022208
 cs : T.cs.length ≤ 100000000000000
 ls : T.ls.length ≤ 8796093022208
end
end Go.Fw
namespace Go.Fw
open Go.Proofs
set_option maxHeartbeats 8000000
set_option maxRecDepth 10000
theorem GS.old {k n T : Nat} {h : AHeap} {v : Value} {cs : List Value} (g : GS k h v n cs) (hT : h.own T = none) : blk v ≠ some T := by
 obtain ⟨_, ⟨rfl, _⟩ | ⟨id, c, cap, rfl, ho, _⟩⟩ := g
 ·intro e; cases e
 ·intro e; injection e with e; subst e; rw [hT] at ho; cases ho
structure OnT (b h : AHeap) (T : Nat) (cv lv v : Value) (cs : List Int) (ls : List Pr) (rows : List (List Pr)) (g : AHeap) : Prop where
 oT : h.own T = some (.cells [v, cv, lv])
 bg : Le b g
 gh : Le g h
 gT : g.own T = none
 ga : Apart g v
 vT : blk v ≠ some T
 rc : RL isI g cv cs
 rl : PR g lv ls
 us : ∃ us, GS 1 h v rows.length us ∧ ∀ (i : Nat) u r, us[i]? = some u → rows[i]? = some r → PR g u r
end Go.Fw
namespace Go.Fw
open Go.Proofs
set_option maxHeartbeats 16000000
set_option maxRecDepth 10000
attribute [local irreducible] lowM bridgesM cutsM blocksM keyE treeM
theorem treeM_def (n : Nat) (es : List Pr) : treeM n es = ⟨blocksM n es, nat64 (cutsM n es), linksU (blocksM n es) (cutsM n es) (blocksM n es).length⟩ := by unfold treeM; rfl
end Go.Fw
namespace Go.Fw
open Go.Proofs
attribute [local irreducible] KO4 KO3 KO2 KO1 KO KN KX KE VK KCond KDraw KCall KLoop
set_option maxHeartbeats 16000000
set_option maxRecDepth 10000
attribute [local irreducible] lowM bridgesM cutsM blocksM keyE treeM
theorem joined_any (W0 : Base) (v : Value) (G : GM) (h : AHeap) (hg : GR h v G) : AC Try.prog W0 48 [v] h fun x h' => BoolIs (RightG G ∧ G.n ≤ 40 ∧ JoinG G.n.toNat G.es) x ∧ Le h h' := by
 have hg0 := hg
 obtain ⟨gn, es⟩ := G
 obtain ⟨ev, rfl, hp⟩ := hg.open
 refine AC.vc (fn := Try.f48) (c := _) ⟨Try.func48, rfl, by decide⟩ Try.ntmps48 Try.results48 (by simp) fun hwf => ?_
 simp only [argFrame, argFrom, Nat.reduceAdd]
 obtain ⟨h1, b1, le1, wf1, -, lA⟩ := boxG (n := gn) hwf hp
 generalize h.next = B at *
 have lA1 := lA h1 (Le.refl _)
 have ll := fun g => hp.len g
 simp only [kS1, bLookup, bMapSet, wantA, isCall, stepOp, evalO, evalL, evalP, evalM, putDst, flat, kA, kB, Nat.reduceLT, ↓reduceIte, kC, Nat.reduceEqDiff, aBuiltin, abinG, guardFree, abin, aInt, aUn, aNilCheck, retQ, retQ1, aresults, aresultL, aresult, mkF, undefV, reduceCtorEq, kD, kE, kF, kG, kH, kI, kJ, kK, aExtract, calleeOf, b1, lA1.1]
 refine KCall.intro (by simp only [kS1, bLookup, bMapSet, wantA, isCall, stepOp, evalO, evalL, evalP, evalM, putDst, flat, kA, kB, Nat.reduceLT, ↓reduceIte, kC, Nat.reduceEqDiff, aBuiltin, abinG, guardFree, abin, aInt, aUn, aNilCheck, retQ, retQ1, aresults, aresultL, aresult, mkF, undefV, reduceCtorEq, kD, kE, kF, kG, kH, kI, kJ, kK, aExtract, calleeOf] <;> rfl) ⟨Try.func57, rfl, by decide⟩ (Right_any W0 _ _ h1 (hg0.le le1)) ?_
 rintro x h2 wf2 ⟨⟨bb, rfl, hbb⟩, le2⟩
 have lA2 := lA h2 le2
 cases bb with
 | false =>
  simp only [kS1, bLookup, bMapSet, wantA, isCall, stepOp, evalO, evalL, evalP, evalM, putDst, flat, kA, kB, Nat.reduceLT, ↓reduceIte, kC, Nat.reduceEqDiff, aBuiltin, abinG, guardFree, abin, aInt, aUn, aNilCheck, retQ, retQ1, aresults, aresultL, aresult, mkF, undefV, reduceCtorEq, kD, kE, kF, kG, kH, kI, kJ, kK, aExtract, calleeOf]
  exact ⟨.f fun A => Bool.noConfusion (hbb.2 A.1), le1.trans le2⟩
 | true =>
 have hr := hbb.1 rfl
 clear hbb
 by_cases c1 : gn ≤ 40
 rotate_left
 ·have d1 : decide (gn ≤ 40) = false := decide_eq_false c1
  simp only [kS1, bLookup, bMapSet, wantA, isCall, stepOp, evalO, evalL, evalP, evalM, putDst, flat, kA, kB, Nat.reduceLT, ↓reduceIte, kC, Nat.reduceEqDiff, aBuiltin, abinG, guardFree, abin, aInt, aUn, aNilCheck, retQ, retQ1, aresults, aresultL, aresult, mkF, undefV, reduceCtorEq, kD, kE, kF, kG, kH, kI, kJ, kK, aExtract, calleeOf, fg0, fg1, aadd, Nat.zero_add, lA2.2.1, d1]
  exact ⟨.f fun A => c1 A.2.1, le1.trans le2⟩
 have d1 : decide (gn ≤ 40) = true := decide_eq_true c1
 by_cases c2 : (es.length : Int) > 0
 rotate_left
 ·have d2 : decide ((es.length : Int) > 0) = false := decide_eq_false c2
  simp only [kS1, bLookup, bMapSet, wantA, isCall, stepOp, evalO, evalL, evalP, evalM, putDst, flat, kA, kB, Nat.reduceLT, ↓reduceIte, kC, Nat.reduceEqDiff, aBuiltin, abinG, guardFree, abin, aInt, aUn, aNilCheck, retQ, retQ1, aresults, aresultL, aresult, mkF, undefV, reduceCtorEq, kD, kE, kF, kG, kH, kI, kJ, kK, aExtract, calleeOf, fg0, fg1, aadd, Nat.zero_add, lA2.2.1, lA2.2.2, ll, d1, d2]
  exact ⟨.f fun A => A.2.2.1 (List.length_eq_zero_iff.1 (by omega)), le1.trans le2⟩
 have d2 : decide ((es.length : Int) > 0) = true := decide_eq_true c2
 simp only [kS1, bLookup, bMapSet, wantA, isCall, stepOp, evalO, evalL, evalP, evalM, putDst, flat, kA, kB, Nat.reduceLT, ↓reduceIte, kC, Nat.reduceEqDiff, aBuiltin, abinG, guardFree, abin, aInt, aUn, aNilCheck, retQ, retQ1, aresults, aresultL, aresult, mkF, undefV, reduceCtorEq, kD, kE, kF, kG, kH, kI, kJ, kK, aExtract, calleeOf, fg0, fg1, aadd, Nat.zero_add, lA2.2.1, lA2.2.2, ll, d1, d2, lA2.1]
 refine KCall.intro (by simp only [kS1, bLookup, bMapSet, wantA, isCall, stepOp, evalO, evalL, evalP, evalM, putDst, flat, kA, kB, Nat.reduceLT, ↓reduceIte, kC, Nat.reduceEqDiff, aBuiltin, abinG, guardFree, abin, aInt, aUn, aNilCheck, retQ, retQ1, aresults, aresultL, aresult, mkF, undefV, reduceCtorEq, kD, kE, kF, kG, kH, kI, kJ, kK, aExtract, calleeOf] <;> rfl) ⟨Try.func17, rfl, by decide⟩ (Parts_any W0 _ ⟨gn, es⟩ h2 (hg0.le (le1.trans le2)) hr) ?_
 rintro pv h4 w4 ⟨gp, l4, -⟩
 have rp := gp.rl (Stays.RL Stays.isI)
 have lp := fun g => rp.len (P := Try.prog) Try.underlying32 g
 have hpl : ((partsN gn.toNat es gn.toNat).map nat64).length = (heads gn.toNat es).length := by simp [partsN]
 rw [hpl] at lp
 simp only [kS1, bLookup, bMapSet, wantA, isCall, stepOp, evalO, evalL, evalP, evalM, putDst, flat, kA, kB, Nat.reduceLT, ↓reduceIte, kC, Nat.reduceEqDiff, aBuiltin, abinG, guardFree, abin, aInt, aUn, aNilCheck, retQ, retQ1, aresults, aresultL, aresult, mkF, undefV, reduceCtorEq, kD, kE, kF, kG, kH, kI, kJ, kK, aExtract, calleeOf, lp]
 refine ⟨⟨_, rfl, ?_⟩, (le1.trans le2).trans l4⟩
 rw [decide_eq_true_eq]
 refine ⟨fun e => ⟨hr, c1, fun e => by rw [e] at c2; simp at c2, by omega⟩, fun A => by have := A.2.2.2; omega⟩
end Go.Fw
namespace Go.Fw
open Go.Proofs
set_option maxHeartbeats 16000000
set_option maxRecDepth 10000
attribute [local irreducible] lowM bridgesM cutsM blocksM keyE treeM
theorem blocks_pos {n : Nat} {es : List Pr} (hr : RightG ⟨(n : Int), es⟩) (he : es ≠ []) : 0 < (blocksM n es).length := by
 obtain ⟨p, l, rfl⟩ := List.exists_cons_of_ne_nil he
 obtain ⟨k, b, hk, _⟩ := met_ex hr (List.mem_cons_self (a := p) (l := l))
 have := (List.getElem?_eq_some_iff.1 hk).1
 omega
end Go.Fw
namespace Go.Fw
open Go.Proofs
set_option maxHeartbeats 4000000
set_option maxRecDepth 10000
attribute [local irreducible] lowM bridgesM cutsM blocksM keyE
attribute [local instance] Classical.propDecidable
theorem linksU_mem {bs : List (List Pr)} {cs : List Nat} {p : Pr} : ∀ k, p ∈ linksU bs cs k ↔ ∃ i j : Nat, i < k ∧ j < cs.length ∧ atB ((cs.getD j 0 : Nat) : Int) (bs.getD i []) = true ∧ p = ((i : Int), (j : Int)) := by
 intro k
 unfold linksU lkU
 rw [List.mem_flatMap]
 constructor
 ·rintro ⟨i, hi, hp⟩
  obtain ⟨j, hj, rfl⟩ := List.mem_map.1 hp
  rw [List.mem_filter, List.mem_range] at hj
  exact ⟨i, j, List.mem_range.1 hi, hj.1, hj.2, rfl⟩
 ·rintro ⟨i, j, hi, hj, ha, rfl⟩
  exact ⟨i, List.mem_range.2 hi, List.mem_map.2 ⟨j, List.mem_filter.2 ⟨List.mem_range.2 hj, ha⟩, rfl⟩⟩
theorem lkU_count (i : Nat) (b : List Pr) (cs : List Nat) : ∀ k, k ≤ cs.length → (lkU i b cs k).length = ((cs.take k).filter fun c => atB ((c : Nat) : Int) b).length
 | 0, _ => by simp [lkU]
 | k + 1, h => by
  rw [lkU_succ, List.length_append, lkU_count i b cs k (by omega), List.take_add_one, List.filter_append, List.length_append]
  have hc : cs[k]? = some cs[k] := List.getElem?_eq_getElem h
  rw [hc, Option.toList_some, getD_of h]
  by_cases q : atB ((cs[k] : Nat) : Int) b = true
  ·rw [if_pos q, List.filter_cons, if_pos q]; rfl
  ·rw [if_neg q, List.filter_cons, if_neg q]; rfl
theorem linksU_count (bs : List (List Pr)) (cs : List Nat) : ∀ k, k ≤ bs.length → (linksU bs cs k).length = (cs.map fun c => ((bs.take k).filter (atB ((c : Nat) : Int))).length).sum
 | 0, _ => by
  rw [linksU]
  simp only [List.range_zero, List.flatMap_nil, List.length_nil, List.take_zero, List.filter_nil]
  induction cs with
  | nil => rfl
  | cons c cs ih => rw [List.map_cons, List.sum_cons, ← ih]
 | k + 1, h => by
  rw [linksU_succ, List.length_append, linksU_count bs cs k (by omega), lkU_count k _ cs cs.length (Nat.le_refl _), List.take_length]
  have hb : bs[k]? = some bs[k] := List.getElem?_eq_getElem h
  rw [List.take_add_one, hb, Option.toList_some, getD_of h]
  clear hb
  generalize bs[k] = b
  generalize bs.take k = l
  induction cs with
  | nil => rfl
  | cons c cs ih =>
   rw [List.map_cons, List.map_cons, List.sum_cons, List.sum_cons, ← ih, List.filter_append, List.length_append, List.filter_cons (x := c)]
   by_cases q : atB ((c : Nat) : Int) b = true
   ·rw [if_pos q, List.filter_cons, if_pos q]; simp only [List.length_cons, List.filter_nil, List.length_nil]; omega
   ·rw [if_neg q, List.filter_cons, if_neg q]; simp only [List.filter_nil, List.length_nil]; omega
theorem heads_one {n : Nat} {es : List Pr} (h : (heads n es).length = 1) {u v : Nat} (hu : u < n) (hv : v < n) : Con es u v := by
 have h0 : 0 < n := by omega
 have m0 : 0 ∈ heads n es := mem_heads.2 ⟨h0, fun u hu => by omega⟩
 obtain ⟨x, hx⟩ := List.length_eq_one_iff.1 h
 rw [hx, List.mem_singleton] at m0
 subst m0
 have key : ∀ k v, v ≤ k → v < n → Con es 0 v := by
  intro k
  induction k with
  | zero => intro v h1 _; obtain rfl : v = 0 := (by omega); exact Con.refl _ _
  | succ k ih =>
   intro v h1 hv
   by_cases e : v = 0
   ·subst e; exact Con.refl _ _
   have hn : v ∉ heads n es := by rw [hx, List.mem_singleton]; exact e
   rw [mem_heads] at hn
   have : ∃ u, u < v ∧ Con es u v := Classical.byContradiction fun hc => hn ⟨hv, fun u hu hcon => hc ⟨u, hu, hcon⟩⟩
   obtain ⟨u, hu, hc⟩ := this
   exact (ih u (by omega) (by omega)).trans hc
 exact (key _ u (Nat.le_refl _) hu).symm.trans (key _ v (Nat.le_refl _) hv)
theorem one_heads {n : Nat} {es : List Pr} (h0 : 0 < n) (h : ∀ v, v < n → Con es 0 v) : (heads n es).length = 1 := by
 refine one_len (List.nodup_range.sublist List.filter_sublist) (mem_heads.2 ⟨h0, fun u hu => by omega⟩) fun y hy => ?_
 rw [mem_heads] at hy
 by_cases e : y = 0
 ·exact e
 ·exact absurd (h y hy.1) (hy.2 0 (by omega))
theorem nodup_idx {α : Type} {l : List α} (nd : l.Nodup) {i j : Nat} {x : α} (h : l[i]? = some x) (g : l[j]? = some x) : i = j := by
 obtain ⟨h1, e1⟩ := List.getElem?_eq_some_iff.1 h
 obtain ⟨h2, e2⟩ := List.getElem?_eq_some_iff.1 g
 rw [List.nodup_iff_pairwise_ne, List.pairwise_iff_getElem] at nd
 rcases Nat.lt_trichotomy i j with q | q | q
 ·exact absurd (e1.trans e2.symm) (nd i j h1 h2 q)
 ·exact q
 ·exact absurd (e2.trans e1.symm) (nd j i h2 h1 q)
theorem block_key {n : Nat} {es : List Pr} {k : Nat} {b : List Pr} (h : (blocksM n es)[k]? = some b) : ∃ x, (fkM (keyE n es) es)[k]? = some x ∧ b = es.filter fun p => decide (keyE n es p = x) := by
 rw [blocksM_eq, List.getElem?_map, Option.map_eq_some_iff] at h
 obtain ⟨x, h1, h2⟩ := h
 exact ⟨x, h1, h2.symm⟩
theorem block_same {n : Nat} {es : List Pr} {j k : Nat} {b c : List Pr} (h : (blocksM n es)[j]? = some b) (g : (blocksM n es)[k]? = some c) {p q : Pr} (hp : p ∈ b) (hq : q ∈ c) (e : keyE n es p = keyE n es q) : j = k := by
 obtain ⟨x, h1, rfl⟩ := block_key h
 obtain ⟨y, h2, rfl⟩ := block_key g
 have e1 := (List.mem_filter.1 hp).2
 have e2 := (List.mem_filter.1 hq).2
 rw [decide_eq_true_eq] at e1 e2
 have nd := (fk_ok (keyE n es) _ es rfl).1
 rw [← e1] at h1
 rw [← e2, ← e] at h2
 exact nodup_idx nd h1 h2
theorem block_at {n : Nat} {es : List Pr} {k : Nat} {b : List Pr} (h : (blocksM n es)[k]? = some b) {p : Pr} (hp : p ∈ b) : p ∈ es := by
 obtain ⟨x, _, rfl⟩ := block_key h
 exact (List.mem_filter.1 hp).1
theorem at_mem {v : Int} {b : List Pr} {p : Pr} (hp : p ∈ b) (h : incB v p = true) : atB v b = true := by
 unfold atB; rw [List.any_eq_true]; exact ⟨p, hp, h⟩
theorem tree_two {n : Nat} {es : List Pr} (hR : RightG ⟨(n : Int), es⟩) {v j k : Nat} (hv : v < n) {b c : List Pr} (h : (blocksM n es)[j]? = some b) (g : (blocksM n es)[k]? = some c) (hb : atB (v : Int) b = true) (hc : atB (v : Int) c = true) (ne : j ≠ k) :
  ∃ m : Nat, (cutsM n es)[m]? = some v := by
 have hr := hR.inR
 have h2 : 1 < incN n es v := by
  rw [incN_keys, two_len (keysAt_nd n es v)]
  obtain ⟨x, h1, rfl⟩ := block_key h
  obtain ⟨y, g1, rfl⟩ := block_key g
  rw [at_iff hr] at hb hc
  refine ⟨x, y, (keysAt_mem hr).2 hb, (keysAt_mem hr).2 hc, fun e => ne ?_⟩
  subst e
  have nd := (fk_ok (keyE n es) _ es rfl).1
  exact nodup_idx nd h1 g1
 rw [inc_cut hr] at h2
 exact List.mem_iff_getElem?.1 ((cuts_mem hr v).2 ⟨hv, h2⟩)
theorem link_in {n : Nat} {es : List Pr} {i j : Nat} {b : List Pr} {c : Nat} (h : (blocksM n es)[i]? = some b) (g : (cutsM n es)[j]? = some c) : ((i : Int), (j : Int)) ∈ (treeM n es).ls ↔ atB (c : Int) b = true := by
 have h1 := (List.getElem?_eq_some_iff.1 h).1
 have g1 := (List.getElem?_eq_some_iff.1 g).1
 have eb : (blocksM n es).getD i [] = b := by rw [List.getD, h]; rfl
 have ec : (cutsM n es).getD j 0 = c := by rw [List.getD, g]; rfl
 show _ ∈ linksU _ _ _ ↔ _
 rw [linksU_mem]
 constructor
 ·rintro ⟨i', j', _, _, ha, e⟩
  rw [Prod.mk.injEq] at e
  obtain rfl : i = i' := by omega
  obtain rfl : j = j' := by omega
  rw [eb, ec] at ha; exact ha
 ·intro ha
  exact ⟨i, j, h1, g1, by rw [eb, ec]; exact ha, rfl⟩
theorem link_con {n : Nat} {es : List Pr} {i j : Nat} {b : List Pr} {c : Nat} (h : (blocksM n es)[i]? = some b) (g : (cutsM n es)[j]? = some c) (ha : atB (c : Int) b = true) : adj (edgesU (blocksM n es).length (treeM n es).ls) i ((blocksM n es).length + j) := by
 left
 refine List.mem_map.2 ⟨_, (link_in h g).2 ha, ?_⟩
 rw [Prod.mk.injEq]; exact ⟨rfl, by simp⟩
theorem tree_at {n : Nat} {es : List Pr} (hR : RightG ⟨(n : Int), es⟩) {v j k : Nat} (hv : v < n) {b c : List Pr} (h : (blocksM n es)[j]? = some b) (g : (blocksM n es)[k]? = some c) (hb : atB (v : Int) b = true) (hc : atB (v : Int) c = true) : Con (edgesU (blocksM n es).length (treeM n es).ls) j k := by
 by_cases ne : j = k
 ·subst ne; exact Con.refl _ _
 obtain ⟨m, hm⟩ := tree_two hR hv h g hb hc ne
 exact (con_adj (link_con h hm hb)).trans (con_adj (link_con g hm hc)).symm
theorem tree_con {n : Nat} {es : List Pr} (hR : RightG ⟨(n : Int), es⟩) {u v : Nat} (hu : u < n) (hc : Con es u v) : ∀ {j k : Nat} {b c : List Pr}, (blocksM n es)[j]? = some b → (blocksM n es)[k]? = some c → atB (u : Int) b = true → atB (v : Int) c = true → Con (edgesU (blocksM n es).length (treeM n es).ls) j k := by
 have hr := hR.inR
 induction hc with
 | refl _ => intro j k b c h g hb hc'; exact tree_at hR hu h g hb hc'
 | @step w x _ a _ ih =>
  intro j k b c h g hb hc'
  obtain ⟨m, d, hm, hd, _⟩ := met_ex hR (adj_mem' hr a)
  have h1 : atB (w : Int) d = true := at_mem hd pair_inc
  have h2 : atB (x : Int) d = true := at_mem hd (by rw [pairOf_comm]; exact pair_inc)
  exact (ih h hm hb h1).trans (tree_at hR (a.lt hr).2 hm g h2 hc')
theorem treeM_lk {n : Nat} {es : List Pr} (hR : RightG ⟨(n : Int), es⟩) (hj : JoinG n es) : Lk (blocksM n es).length ((blocksM n es).length + (cutsM n es).length) (treeM n es).ls := by
 have hr := hR.inR
 have hpos := blocks_pos hR hj.1
 have AS := blocks_AtS hR
 have some_at : ∀ i b, (blocksM n es)[i]? = some b → ∃ a c : Nat, ((a : Int), (c : Int)) ∈ b ∧ a < n ∧ atB (a : Int) b = true := fun i b hb => by
  obtain ⟨p, l, rfl⟩ := List.exists_cons_of_ne_nil (AS.ne b (List.mem_of_getElem? hb))
  obtain ⟨a, c, rfl, hac, hcn, _⟩ := ends hr (block_at hb List.mem_cons_self)
  exact ⟨a, c, List.mem_cons_self, by omega, at_mem List.mem_cons_self (by simp [incB])⟩
 have blk : ∀ i, i < (blocksM n es).length → Con (edgesU (blocksM n es).length (treeM n es).ls) 0 i := fun i hi => by
  have h1 : (blocksM n es)[i]? = some (blocksM n es)[i] := List.getElem?_eq_getElem hi
  have h0 : (blocksM n es)[0]? = some (blocksM n es)[0] := List.getElem?_eq_getElem hpos
  obtain ⟨a, _, _, ha, ea⟩ := some_at _ _ h0
  obtain ⟨c, _, _, hc, ec⟩ := some_at _ _ h1
  exact tree_con hR ha (heads_one hj.2 ha hc) h0 h1 ea ec
 refine ⟨by omega, ?_, fun p hp => ?_, fun v hv => ?_⟩
 ·have hz := forest_zero hr
  have hl : (treeM n es).ls.length = ((cutsM n es).map (incN n es)).sum := by
   show (linksU _ _ _).length = _
   rw [linksU_count _ _ _ (Nat.le_refl _), List.take_length]
   rfl
  have h1 : ((heads n es).filter fun h => decide (0 < incN n es h)).length = 1 := by
   obtain ⟨x, hx⟩ := List.length_eq_one_iff.1 hj.2
   have hxm : x ∈ heads n es := by rw [hx]; simp
   have hxn := (mem_heads.1 hxm).1
   obtain ⟨p, l, rfl⟩ := List.exists_cons_of_ne_nil hj.1
   obtain ⟨a, c, rfl, hac, hcn, had⟩ := ends hr (List.mem_cons_self)
   have hi : 0 < incN n (((a : Int), (c : Int)) :: l) x := by
    rw [inc_pos hr]
    by_cases e : x = a
    ·subst e; exact ⟨c, had⟩
    ·exact (con_first (heads_one hj.2 hxn (show a < n by omega)) e).1
   rw [hx, List.filter_cons, if_pos (by simpa using hi)]; rfl
  omega
 ·obtain ⟨i, j, hi, hj', _, rfl⟩ := (linksU_mem _).1 hp
  exact ⟨by simp, by simp only; omega, by simp, by simp only; omega⟩
 ·by_cases hb : v < (blocksM n es).length
  ·exact blk v hb
  obtain ⟨j, rfl⟩ : ∃ j, v = (blocksM n es).length + j := ⟨v - (blocksM n es).length, by omega⟩
  have hj1 : j < (cutsM n es).length := by omega
  have hc : (cutsM n es)[j]? = some (cutsM n es)[j] := List.getElem?_eq_getElem hj1
  obtain ⟨hcn, hcut⟩ := (cuts_mem hr _).1 (List.mem_of_getElem? hc)
  obtain ⟨a, _, ha, _⟩ := hcut
  obtain ⟨m, d, hm, hd, _⟩ := met_ex hR (adj_mem' hr ha)
  have h1 : atB (((cutsM n es)[j] : Nat) : Int) d = true := at_mem hd pair_inc
  exact (blk m (List.getElem?_eq_some_iff.1 hm).1).trans (con_adj (link_con hm hc h1))
end Go.Fw
