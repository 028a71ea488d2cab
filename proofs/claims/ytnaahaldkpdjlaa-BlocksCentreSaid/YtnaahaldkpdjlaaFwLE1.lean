/- A text of the proof. -/
import Derived.Test.YtnaahaldkpdjlaaFwLC14
set_option linter.unusedSimpArgs false
set_option linter.unusedVariables false
namespace Go.Fw
open Go.Proofs
set_option maxHeartbeats 4000000
set_option maxRecDepth 10000
attribute [local irreducible] lowM bridgesM cutsM blocksM keyE
attribute [local instance] Classical.propDecidable
theorem linksU_mem {bs : List (List Pr)} {cs : List Nat} {p : Pr} : ∀ k, p ∈ linksU bs cs k ↔ ∃ i j : Nat, i < k ∧ j < cs.length ∧ atB ((cs.getD j 0 : Nat) : Int) (bs.getD i []) = true ∧ p = ((i : Int), (j : Int)) := by
 intro k
 unfold linksU lkU
 rw [List.mem_flatMap]
 constructor
 ·rintro ⟨i, hi, hp⟩
  obtain ⟨j, hj, rfl⟩ := List.mem_map.1 hp
  rw [List.mem_filter, List.mem_range] at hj
  exact ⟨i, j, List.mem_range.1 hi, hj.1, hj.2, rfl⟩
 ·rintro ⟨i, j, hi, hj, ha, rfl⟩
  exact ⟨i, List.mem_range.2 hi, List.mem_map.2 ⟨j, List.mem_filter.2 ⟨List.mem_range.2 hj, ha⟩, rfl⟩⟩
theorem lkU_count (i : Nat) (b : List Pr) (cs : List Nat) : ∀ k, k ≤ cs.length → (lkU i b cs k).length = ((cs.take k).filter fun c => atB ((c : Nat) : Int) b).length
 | 0, _ => by simp [lkU]
 | k + 1, h => by
  rw [lkU_succ, List.length_append, lkU_count i b cs k (by omega), List.take_add_one, List.filter_append, List.length_append]
  have hc : cs[k]? = some cs[k] := List.getElem?_eq_getElem h
  rw [hc, Option.toList_some, getD_of h]
  by_cases q : atB ((cs[k] : Nat) : Int) b = true
  ·rw [if_pos q, List.filter_cons, if_pos q]; rfl
  ·rw [if_neg q, List.filter_cons, if_neg q]; rfl
theorem linksU_count (bs : List (List Pr)) (cs : List Nat) : ∀ k, k ≤ bs.length → (linksU bs cs k).length = (cs.map fun c => ((bs.take k).filter (atB ((c : Nat) : Int))).length).sum
 | 0, _ => by
  rw [linksU]
  simp only [List.range_zero, List.flatMap_nil, List.length_nil, List.take_zero, List.filter_nil]
  induction cs with
  | nil => rfl
  | cons c cs ih => rw [List.map_cons, List.sum_cons, ← ih]
 | k + 1, h => by
  rw [linksU_succ, List.length_append, linksU_count bs cs k (by omega), lkU_count k _ cs cs.length (Nat.le_refl _), List.take_length]
  have hb : bs[k]? = some bs[k] := List.getElem?_eq_getElem h
  rw [List.take_add_one, hb, Option.toList_some, getD_of h]
  clear hb
  generalize bs[k] = b
  generalize bs.take k = l
  induction cs with
  | nil => rfl
  | cons c cs ih =>
   rw [List.map_cons, List.map_cons, List.sum_cons, List.sum_cons, ← ih, List.filter_append, List.length_append, List.filter_cons (x := c)]
   by_cases q : atB ((c : Nat) : Int) b = true
   ·rw [if_pos q, List.filter_cons, if_pos q]; simp only [List.length_cons, List.filter_nil, List.length_nil]; omega
   ·rw [if_neg q, List.filter_cons, if_neg q]; simp only [List.filter_nil, List.length_nil]; omega
theorem heads_one {n : Nat} {es : List Pr} (h : (heads n es).length = 1) {u v : Nat} (hu : u < n) (hv : v < n) : Con es u v := by
 have h0 : 0 < n := by omega
 have m0 : 0 ∈ heads n es := mem_heads.2 ⟨h0, fun u hu => by omega⟩
 obtain ⟨x, hx⟩ := List.length_eq_one_iff.1 h
 rw [hx, List.mem_singleton] at m0
 subst m0
 have key : ∀ k v, v ≤ k → v < n → Con es 0 v := by
  intro k
  induction k with
  | zero => intro v h1 _; obtain rfl : v = 0 := (by omega); exact Con.refl _ _
  | succ k ih =>
   intro v h1 hv
   by_cases e : v = 0
   ·subst e; exact Con.refl _ _
   have hn : v ∉ heads n es := by rw [hx, List.mem_singleton]; exact e
   rw [mem_heads] at hn
   have : ∃ u, u < v ∧ Con es u v := Classical.byContradiction fun hc => hn ⟨hv, fun u hu hcon => hc ⟨u, hu, hcon⟩⟩
   obtain ⟨u, hu, hc⟩ := this
   exact (ih u (by omega) (by omega)).trans hc
 exact (key _ u (Nat.le_refl _) hu).symm.trans (key _ v (Nat.le_refl _) hv)
theorem nodup_idx {α : Type} {l : List α} (nd : l.Nodup) {i j : Nat} {x : α} (h : l[i]? = some x) (g : l[j]? = some x) : i = j := by
 obtain ⟨h1, e1⟩ := List.getElem?_eq_some_iff.1 h
 obtain ⟨h2, e2⟩ := List.getElem?_eq_some_iff.1 g
 rw [List.nodup_iff_pairwise_ne, List.pairwise_iff_getElem] at nd
 rcases Nat.lt_trichotomy i j with q | q | q
 ·exact absurd (e1.trans e2.symm) (nd i j h1 h2 q)
 ·exact q
 ·exact absurd (e2.trans e1.symm) (nd j i h2 h1 q)
theorem block_key {n : Nat} {es : List Pr} {k : Nat} {b : List Pr} (h : (blocksM n es)[k]? = some b) : ∃ x, (fkM (keyE n es) es)[k]? = some x ∧ b = es.filter fun p => decide (keyE n es p = x) := by
 rw [blocksM_eq, List.getElem?_map, Option.map_eq_some_iff] at h
 obtain ⟨x, h1, h2⟩ := h
 exact ⟨x, h1, h2.symm⟩
theorem block_at {n : Nat} {es : List Pr} {k : Nat} {b : List Pr} (h : (blocksM n es)[k]? = some b) {p : Pr} (hp : p ∈ b) : p ∈ es := by
 obtain ⟨x, _, rfl⟩ := block_key h
 exact (List.mem_filter.1 hp).1
theorem at_mem {v : Int} {b : List Pr} {p : Pr} (hp : p ∈ b) (h : incB v p = true) : atB v b = true := by
 unfold atB; rw [List.any_eq_true]; exact ⟨p, hp, h⟩
theorem tree_two {n : Nat} {es : List Pr} (hR : RightG ⟨(n : Int), es⟩) {v j k : Nat} (hv : v < n) {b c : List Pr} (h : (blocksM n es)[j]? = some b) (g : (blocksM n es)[k]? = some c) (hb : atB (v : Int) b = true) (hc : atB (v : Int) c = true) (ne : j ≠ k) :
  ∃ m : Nat, (cutsM n es)[m]? = some v := by
 have hr := hR.inR
 have h2 : 1 < incN n es v := by
  rw [incN_keys, two_len (keysAt_nd n es v)]
  obtain ⟨x, h1, rfl⟩ := block_key h
  obtain ⟨y, g1, rfl⟩ := block_key g
  rw [at_iff hr] at hb hc
  refine ⟨x, y, (keysAt_mem hr).2 hb, (keysAt_mem hr).2 hc, fun e => ne ?_⟩
  subst e
  have nd := (fk_ok (keyE n es) _ es rfl).1
  exact nodup_idx nd h1 g1
 rw [inc_cut hr] at h2
 exact List.mem_iff_getElem?.1 ((cuts_mem hr v).2 ⟨hv, h2⟩)
theorem link_in {n : Nat} {es : List Pr} {i j : Nat} {b : List Pr} {c : Nat} (h : (blocksM n es)[i]? = some b) (g : (cutsM n es)[j]? = some c) : ((i : Int), (j : Int)) ∈ (treeM n es).ls ↔ atB (c : Int) b = true := by
 have h1 := (List.getElem?_eq_some_iff.1 h).1
 have g1 := (List.getElem?_eq_some_iff.1 g).1
 have eb : (blocksM n es).getD i [] = b := by rw [List.getD, h]; rfl
 have ec : (cutsM n es).getD j 0 = c := by rw [List.getD, g]; rfl
 show _ ∈ linksU _ _ _ ↔ _
 rw [linksU_mem]
 constructor
 ·rintro ⟨i', j', _, _, ha, e⟩
  rw [Prod.mk.injEq] at e
  obtain rfl : i = i' := by omega
  obtain rfl : j = j' := by omega
  rw [eb, ec] at ha; exact ha
 ·intro ha
  exact ⟨i, j, h1, g1, by rw [eb, ec]; exact ha, rfl⟩
theorem link_con {n : Nat} {es : List Pr} {i j : Nat} {b : List Pr} {c : Nat} (h : (blocksM n es)[i]? = some b) (g : (cutsM n es)[j]? = some c) (ha : atB (c : Int) b = true) : adj (edgesU (blocksM n es).length (treeM n es).ls) i ((blocksM n es).length + j) := by
 left
 refine List.mem_map.2 ⟨_, (link_in h g).2 ha, ?_⟩
 rw [Prod.mk.injEq]; exact ⟨rfl, by simp⟩
theorem tree_at {n : Nat} {es : List Pr} (hR : RightG ⟨(n : Int), es⟩) {v j k : Nat} (hv : v < n) {b c : List Pr} (h : (blocksM n es)[j]? = some b) (g : (blocksM n es)[k]? = some c) (hb : atB (v : Int) b = true) (hc : atB (v : Int) c = true) : Con (edgesU (blocksM n es).length (treeM n es).ls) j k := by
 by_cases ne : j = k
 ·subst ne; exact Con.refl _ _
 obtain ⟨m, hm⟩ := tree_two hR hv h g hb hc ne
 exact (con_adj (link_con h hm hb)).trans (con_adj (link_con g hm hc)).symm
theorem tree_con {n : Nat} {es : List Pr} (hR : RightG ⟨(n : Int), es⟩) {u v : Nat} (hu : u < n) (hc : Con es u v) : ∀ {j k : Nat} {b c : List Pr}, (blocksM n es)[j]? = some b → (blocksM n es)[k]? = some c → atB (u : Int) b = true → atB (v : Int) c = true → Con (edgesU (blocksM n es).length (treeM n es).ls) j k := by
 have hr := hR.inR
 induction hc with
 | refl _ => intro j k b c h g hb hc'; exact tree_at hR hu h g hb hc'
 | @step w x _ a _ ih =>
  intro j k b c h g hb hc'
  obtain ⟨m, d, hm, hd, _⟩ := met_ex hR (adj_mem' hr a)
  have h1 : atB (w : Int) d = true := at_mem hd pair_inc
  have h2 : atB (x : Int) d = true := at_mem hd (by rw [pairOf_comm]; exact pair_inc)
  exact (ih h hm hb h1).trans (tree_at hR (a.lt hr).2 hm g h2 hc')
theorem treeM_lk {n : Nat} {es : List Pr} (hR : RightG ⟨(n : Int), es⟩) (hj : JoinG n es) : Lk (blocksM n es).length ((blocksM n es).length + (cutsM n es).length) (treeM n es).ls := by
 have hr := hR.inR
 have hpos := blocks_pos hR hj.1
 have AS := blocks_AtS hR
 have some_at : ∀ i b, (blocksM n es)[i]? = some b → ∃ a c : Nat, ((a : Int), (c : Int)) ∈ b ∧ a < n ∧ atB (a : Int) b = true := fun i b hb => by
  obtain ⟨p, l, rfl⟩ := List.exists_cons_of_ne_nil (AS.ne b (List.mem_of_getElem? hb))
  obtain ⟨a, c, rfl, hac, hcn, _⟩ := ends hr (block_at hb List.mem_cons_self)
  exact ⟨a, c, List.mem_cons_self, by omega, at_mem List.mem_cons_self (by simp [incB])⟩
 have blk : ∀ i, i < (blocksM n es).length → Con (edgesU (blocksM n es).length (treeM n es).ls) 0 i := fun i hi => by
  have h1 : (blocksM n es)[i]? = some (blocksM n es)[i] := List.getElem?_eq_getElem hi
  have h0 : (blocksM n es)[0]? = some (blocksM n es)[0] := List.getElem?_eq_getElem hpos
  obtain ⟨a, _, _, ha, ea⟩ := some_at _ _ h0
  obtain ⟨c, _, _, hc, ec⟩ := some_at _ _ h1
  exact tree_con hR ha (heads_one hj.2 ha hc) h0 h1 ea ec
 refine ⟨by omega, ?_, fun p hp => ?_, fun v hv => ?_⟩
 ·have hz := forest_zero hr
  have hl : (treeM n es).ls.length = ((cutsM n es).map (incN n es)).sum := by
   show (linksU _ _ _).length = _
   rw [linksU_count _ _ _ (Nat.le_refl _), List.take_length]
   rfl
  have h1 : ((heads n es).filter fun h => decide (0 < incN n es h)).length = 1 := by
   obtain ⟨x, hx⟩ := List.length_eq_one_iff.1 hj.2
   have hxm : x ∈ heads n es := by rw [hx]; simp
   have hxn := (mem_heads.1 hxm).1
   obtain ⟨p, l, rfl⟩ := List.exists_cons_of_ne_nil hj.1
   obtain ⟨a, c, rfl, hac, hcn, had⟩ := ends hr (List.mem_cons_self)
   have hi : 0 < incN n (((a : Int), (c : Int)) :: l) x := by
    rw [inc_pos hr]
    by_cases e : x = a
    ·subst e; exact ⟨c, had⟩
    ·exact (con_first (heads_one hj.2 hxn (show a < n by omega)) e).1
   rw [hx, List.filter_cons, if_pos (by simpa using hi)]; rfl
  omega
 ·obtain ⟨i, j, hi, hj', _, rfl⟩ := (linksU_mem _).1 hp
  exact ⟨by simp, by simp only; omega, by simp, by simp only; omega⟩
 ·by_cases hb : v < (blocksM n es).length
  ·exact blk v hb
  obtain ⟨j, rfl⟩ : ∃ j, v = (blocksM n es).length + j := ⟨v - (blocksM n es).length, by omega⟩
  have hj1 : j < (cutsM n es).length := by omega
  have hc : (cutsM n es)[j]? = some (cutsM n es)[j] := List.getElem?_eq_getElem hj1
  obtain ⟨hcn, hcut⟩ := (cuts_mem hr _).1 (List.mem_of_getElem? hc)
  obtain ⟨a, _, ha, _⟩ := hcut
  obtain ⟨m, d, hm, hd, _⟩ := met_ex hR (adj_mem' hr ha)
  have h1 : atB (((cutsM n es)[j] : Nat) : Int) d = true := at_mem hd pair_inc
  exact (blk m (List.getElem?_eq_some_iff.1 hm).1).trans (con_adj (link_con hm hc h1))
end Go.Fw
namespace Go.Fw
open Go.Proofs
attribute [local irreducible] KO4 KO3 KO2 KO1 KO KN KX KE VK KCond KDraw KCall KLoop
set_option maxHeartbeats 16000000
set_option maxRecDepth 10000
attribute [local irreducible] lowM bridgesM cutsM blocksM keyE treeM
theorem edges_new {b N : Nat} {ls : List Pr} (K : Lk b N ls) (h200 : N ≤ 200) : NewOK (N : Int) (edgesU b ls) ∧ (edgesU b ls).map normP = edgesU b ls := by
 have hn : ∀ p ∈ edgesU b ls, normP p = p ∧ 0 ≤ p.1 ∧ p.1 < p.2 ∧ p.2 < (N : Int) := fun p hp => by
  obtain ⟨q, hq, rfl⟩ := List.mem_map.1 hp
  have L := K.ok q hq
  have := L.x0; have := L.x1; have := L.y0; have := L.y1
  refine ⟨Prod.ext ?_ ?_, ?_, ?_, ?_⟩ <;> simp only [normP] <;> omega
 have e : (edgesU b ls).map normP = edgesU b ls := by
  conv => rhs; rw [← List.map_id (edgesU b ls)]
  exact List.map_congr_left fun p hp => (hn p hp).1
 have hlen : (edgesU b ls).length = ls.length := by simp [edgesU]
 have := K.len
 refine ⟨⟨by omega, by omega, by omega, fun p hp => ?_, by rw [e]; exact K.tree.nodup⟩, e⟩
 obtain ⟨e1, e2, e3, e4⟩ := hn p hp
 rw [e1]; exact ⟨e2, by omega, e4⟩
theorem drawn_any (W0 : Base) (v : Value) (T : TM) (N : Nat) (h : AHeap) (hv : TR h v T) (K : Lk T.bs.length N T.ls) (hN : N = T.bs.length + T.cs.length) (h200 : N ≤ 200) :
  AC Try.prog W0 51 [v] h fun x h' => Le h h' ∧ ∃ ev, x = .tuple #[.agg #[.int .i64 N, ev], .bool true] ∧ GP h' ev (sortP (edgesU T.bs.length T.ls)) ∧ Apart h ev := by
 obtain ⟨bs, cs, ls⟩ := T
 obtain ⟨bv, cv, lv, rfl, hb, hc, hl⟩ := hv
 simp only at hN K hb hc hl ⊢
 obtain ⟨hOK, hnorm⟩ := edges_new K h200
 have hll := K.len
 refine AC.vc (fn := Try.f51) (c := _) ⟨Try.func51, rfl, by decide⟩ Try.ntmps51 Try.results51 (by simp) fun hwf => ?_
 simp only [argFrame, argFrom, Nat.reduceAdd]
 obtain ⟨h1, b1, le1, wf1, lA⟩ := boxT (T := ⟨bs, cs, ls⟩) hwf hb hc hl
 generalize h.next = B at *
 obtain ⟨h2, e2, l2, w2, o2⟩ := alloc_f wf1 [.int .i64 0, .slice none 0 0]
 have al := alloc24 h1
 rw [e2] at al
 have nR : h.own h1.next = none := le1.next wf1 (Nat.le_refl _)
 generalize h1.next = R at *
 have lA2 := lA h2 l2
 have ll := fun g => hl.len g
 have lb := fun g => hb.len (P := Try.prog) Try.underlying28 g
 have lc := fun g => hc.len (P := Try.prog) Try.underlying38 g
 simp only [kS1, bLookup, bMapSet, wantA, isCall, stepOp, evalO, evalL, evalP, evalM, putDst, flat, kA, kB, Nat.reduceLT, ↓reduceIte, kC, Nat.reduceEqDiff, aBuiltin, abinG, guardFree, abin, aInt, aUn, aNilCheck, retQ, retQ1, aresults, aresultL, aresult, mkF, undefV, reduceCtorEq, kD, kE, kF, kG, kH, kI, kJ, kK, aExtract, calleeOf, b1, al, tf2, aadd, Nat.zero_add, lA2.2.2.2, ll]
 refine KLoop.intro (fun k fr hq => ∃ (i : Nat) (xv : Value), k = ls.length - i ∧ i ≤ ls.length ∧ fr = mkF [(1, .pointer (some ⟨B, 0, none⟩)), (2, .pointer (some ⟨R, 0, none⟩)), (4, xv), (10, lv), (11, .int .i64 ls.length), (12, .int .i64 i)] ∧
   GP hq xv (edgesU bs.length (ls.take i)) ∧ Le h2 hq ∧ Apart h2 xv)
  ls.length [(1, .pointer (some ⟨B, 0, none⟩)), (2, .pointer (some ⟨R, 0, none⟩)), (4, .slice none 0 0), (10, lv), (11, .int .i64 ls.length), (12, .int .i64 (0 : Nat))] (by simp only [hasAll, kS1, bLookup, bMapSet, wantA, isCall, stepOp, evalO, evalL, evalP, evalM, putDst, flat, kA, kB, Nat.reduceLT, ↓reduceIte, kC, Nat.reduceEqDiff, aBuiltin, abinG, guardFree, abin, aInt, aUn, aNilCheck, retQ, retQ1, aresults, aresultL, aresult, mkF, undefV, reduceCtorEq, kD, kE, kF, kG, kH, kI, kJ, kK, aExtract, calleeOf]; simp)
  ⟨0, _, rfl, Nat.zero_le _, rfl, GP.nil _, Le.refl _, fun b hb => by cases hb⟩ ?_
 rintro k fr hq hwq ⟨i, xv, rfl, hi, rfl, gx, leq, ax⟩
 have Aq := lA hq (l2.trans leq)
 simp only [kS1, bLookup, bMapSet, wantA, isCall, stepOp, evalO, evalL, evalP, evalM, putDst, flat, kA, kB, Nat.reduceLT, ↓reduceIte, kC, Nat.reduceEqDiff, aBuiltin, abinG, guardFree, abin, aInt, aUn, aNilCheck, retQ, retQ1, aresults, aresultL, aresult, mkF, undefV, reduceCtorEq, kD, kE, kF, kG, kH, kI, kJ, kK, aExtract, calleeOf]
 refine KCond.intro (fun ht => ?_) (fun hf => ?_)
 ·have hlt : i < ls.length := lt_t ht
  clear ht
  have hpi := getElem?_of hlt
  have htk : ls.take (i + 1) = ls.take i ++ [ls[i]] := List.take_succ_eq_append_getElem hlt
  generalize ls[i] = p at hpi htk
  have L := K.ok p (List.mem_of_getElem? hpi)
  have hwr : awrap .i64 ((bs.length : Int) + p.2) = (bs.length : Int) + p.2 := by
   have := L.y0; have := L.y1; exact awrap_in _ (by omega) (by omega)
  have ad := hl.addr (k := .i64) i hlt
  have ld := (hl.le ((le1.trans l2).trans leq)).load hpi
  obtain ⟨h7', h7, e7, e7s, l7, w7, o7⟩ := new42 hwq p
  generalize hq.next = E at *
  have m0 := own0 o7
  have m1 := own1 o7
  have A7 := lA h7 ((l2.trans leq).trans l7)
  have htp : edgesU bs.length (ls.take (i + 1)) = edgesU bs.length (ls.take i) ++ [(p.1, (bs.length : Int) + p.2)] := by rw [htk]; simp [edgesU]
  have hel : (edgesU bs.length (ls.take i)).length = i := by simp [edgesU]; omega
  obtain ⟨v', h8, h9, e8, e9, g9, w9, l8, f9, k9⟩ := (gx.le l7).push w7 (p.1, (bs.length : Int) + p.2) (by rw [hel]; omega)
  obtain ⟨l9, a9⟩ := f9 h2 (leq.trans l7) ax
  simp only [kS1, bLookup, bMapSet, wantA, isCall, stepOp, evalO, evalL, evalP, evalM, putDst, flat, kA, kB, Nat.reduceLT, ↓reduceIte, kC, Nat.reduceEqDiff, aBuiltin, abinG, guardFree, abin, aInt, aUn, aNilCheck, retQ, retQ1, aresults, aresultL, aresult, mkF, undefV, reduceCtorEq, kD, kE, kF, kG, kH, kI, kJ, kK, aExtract, calleeOf, ad, ld, e7, e7s, pa0, pa1, tf0, aadd, Nat.zero_add, m0, m1, A7.2.1, lb, hwr, build42, e8, e9, awrap_succ i (by omega)]
  exact loop_again (ls.length - (i + 1)) [(1, .pointer (some ⟨B, 0, none⟩)), (2, .pointer (some ⟨R, 0, none⟩)), (4, v'), (10, lv), (11, .int .i64 ls.length), (12, .int .i64 (i + 1 : Nat))] (by omega) (by simp only [hasAll, kS1, bLookup, bMapSet, wantA, isCall, stepOp, evalO, evalL, evalP, evalM, putDst, flat, kA, kB, Nat.reduceLT, ↓reduceIte, kC, Nat.reduceEqDiff, aBuiltin, abinG, guardFree, abin, aInt, aUn, aNilCheck, retQ, retQ1, aresults, aresultL, aresult, mkF, undefV, reduceCtorEq, kD, kE, kF, kG, kH, kI, kJ, kK, aExtract, calleeOf]; simp)
   ⟨i + 1, v', rfl, hlt, rfl, by rw [htp]; exact g9, l9, a9⟩
 ·have hge : ls.length ≤ i := lt_f hf
  rw [List.take_of_length_le hge] at gx
  have hwr : awrap .i64 ((bs.length : Int) + (cs.length : Int)) = (N : Int) := by
   rw [awrap_in _ (by omega) (by omega)]; omega
  simp only [kS1, bLookup, bMapSet, wantA, isCall, stepOp, evalO, evalL, evalP, evalM, putDst, flat, kA, kB, Nat.reduceLT, ↓reduceIte, kC, Nat.reduceEqDiff, aBuiltin, abinG, guardFree, abin, aInt, aUn, aNilCheck, retQ, retQ1, aresults, aresultL, aresult, mkF, undefV, reduceCtorEq, kD, kE, kF, kG, kH, kI, kJ, kK, aExtract, calleeOf, tf0, tf1, aadd, Nat.zero_add, Aq.2.1, Aq.2.2.1, lb, lc, hwr]
  refine KCall.intro (by simp only [kS1, bLookup, bMapSet, wantA, isCall, stepOp, evalO, evalL, evalP, evalM, putDst, flat, kA, kB, Nat.reduceLT, ↓reduceIte, kC, Nat.reduceEqDiff, aBuiltin, abinG, guardFree, abin, aInt, aUn, aNilCheck, retQ, retQ1, aresults, aresultL, aresult, mkF, undefV, reduceCtorEq, kD, kE, kF, kG, kH, kI, kJ, kK, aExtract, calleeOf] <;> rfl) ⟨Try.func68, rfl, by decide⟩ (New_any W0 (N : Int) xv _ hq gx.pr (by simp [edgesU]; omega)) ?_
  rintro x h3 w3 ⟨l3, ⟨hn, _⟩ | ⟨_, ev, rfl, g3, a3⟩⟩
  ·exact absurd hOK hn
  rw [hnorm] at g3
  obtain ⟨h4', h4, e4, s4, l4, w4, L4⟩ := newG (n := (N : Int)) w3 g3.pr
  have oR : h4.own R = some (.cells [.int .i64 0, .slice none 0 0]) := l4.own _ _ (l3.own _ _ (leq.own _ _ o2))
  have F4 := L4 h4 (Le.refl _)
  have nev : blk ev ≠ some R := fun e => by have := a3 R e; rw [leq.own _ _ o2] at this; cases this
  have one := g3.pr.sl.one
  obtain ⟨ea, ec, hev, _⟩ := g3.pr.sl
  have hce : ev.cells = #[ev] := by rw [hev]; rfl
  have st := store24 (n := (N : Int)) (ev := ev) oR one hce
  have oo := AHeap.own_put_eq h4 R (.cells [.int .i64 (N : Int), ev])
  have ldR := load24 (n := (N : Int)) (ev := ev) oo ⟨ea, _, ec, hev⟩
  have dd : decide ((0 : Int) = 0) = true := by decide
  have lfin : Le h h4 := (((le1.trans l2).trans leq).trans l3).trans l4
  simp only [kS1, bLookup, bMapSet, wantA, isCall, stepOp, evalO, evalL, evalP, evalM, putDst, flat, kA, kB, Nat.reduceLT, ↓reduceIte, kC, Nat.reduceEqDiff, aBuiltin, abinG, guardFree, abin, aInt, aUn, aNilCheck, retQ, retQ1, aresults, aresultL, aresult, mkF, undefV, reduceCtorEq, kD, kE, kF, kG, kH, kI, kJ, kK, aExtract, calleeOf, e4, s4, F4.1, dd, st, ldR]
  exact ⟨lfin.put _ nR, ev, rfl, (GS.le g3 l4).put _ nev, fun b hb => (((le1.trans l2).trans leq)).none (a3 b hb)⟩
end Go.Fw
namespace Go.Fw
open Go.Proofs
set_option maxHeartbeats 16000000
set_option maxRecDepth 10000
theorem con_perm {es fs : List Pr} (h : ∀ p, p ∈ es → p ∈ fs) {u v : Nat} (c : Con es u v) : Con fs u v := by
 induction c with
 | refl _ => exact Con.refl _ _
 | step _ a _ ih => exact ih.trans (con_adj (a.imp (h _) (h _)))
end Go.Fw
