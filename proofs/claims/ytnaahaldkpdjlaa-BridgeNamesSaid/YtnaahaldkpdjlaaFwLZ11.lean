/- A text of the proof. -/
import Derived.Test.YtnaahaldkpdjlaaFwLZ10
import Derived.Test.YtnaahaldkpdjlaaFwLW1
set_option linter.unusedSimpArgs false
set_option linter.unusedVariables false
namespace Go.Fw
open Go.Proofs
attribute [local irreducible] KO4 KO3 KO2 KO1 KO KN KX KE VK KCond KDraw KCall KLoop
set_option maxHeartbeats 16000000
set_option maxRecDepth 10000
structure PermOK (ps : List Int) : Prop where
 len : ps.length ≤ 200
 rng : ∀ x ∈ ps, 0 ≤ x ∧ x < (ps.length : Int)
 nd : ps.Nodup
theorem PRight_any (W0 : Base) (pv : Value) (ps : List Int) (h : AHeap) (hp : RL isI h pv ps) : AC Try.prog W0 67 [pv] h fun x h' => BoolIs (PermOK ps) x ∧ Le h h' := by
 refine AC.vc (fn := Try.f67) (c := _) ⟨Try.func67, rfl, by decide⟩ Try.ntmps67 Try.results67 (by simp) fun hwf => ?_
 simp only [argFrame, argFrom, Nat.reduceAdd]
 have hl := fun g => hp.len (P := Try.prog) Try.underlying38 g
 by_cases c1 : (ps.length : Int) > 200
 ·have d1 : decide ((ps.length : Int) > 200) = true := decide_eq_true c1
  simp only [kS1, bLookup, bMapSet, wantA, isCall, stepOp, evalO, evalL, evalP, evalM, putDst, flat, kA, kB, Nat.reduceLT, ↓reduceIte, kC, Nat.reduceEqDiff, aBuiltin, abinG, guardFree, abin, aInt, aUn, aNilCheck, retQ, retQ1, aresults, aresultL, aresult, mkF, undefV, reduceCtorEq, kD, kE, kF, kG, kH, kI, kJ, kK, aExtract, calleeOf, hl, d1]
  exact ⟨.f fun k => by have := k.len; omega, Le.refl _⟩
 have d1 : decide ((ps.length : Int) > 200) = false := decide_eq_false c1
 generalize hm : ps.length = m at *
 have mk := aMakeSlice1 (P := Try.prog) (t := 25) (z := .bool false) h Try.underlying25 rfl rfl rfl rfl (by kernel_rfl) Try.underlying4 (by kernel_rfl) m (by omega)
 obtain ⟨h1, e1, l1, w1, o1⟩ := alloc_f hwf (List.replicate m (.bool false))
 rw [e1] at mk
 have nM : h.own h.next = none := (Le.refl h).next hwf (Nat.le_refl _)
 generalize h.next = M at *
 have oM : h1.own M = some (.cells (Bo (List.replicate m false))) := by rw [o1]; simp [Bo]
 have ixM : ∀ (k : IntKind) (j : Nat), j < m → aIndexAddr Try.prog 25 (.slice (some ⟨M, 0, none⟩) m m) (.int k j) = some (.pointer (some ⟨M, j, none⟩)) := fun k j hj => by rw [aIdx Try.underlying25 Try.underlying4 (by kernel_rfl) j hj]; simp [aadd]
 simp only [kS1, bLookup, bMapSet, wantA, isCall, stepOp, evalO, evalL, evalP, evalM, putDst, flat, kA, kB, Nat.reduceLT, ↓reduceIte, kC, Nat.reduceEqDiff, aBuiltin, abinG, guardFree, abin, aInt, aUn, aNilCheck, retQ, retQ1, aresults, aresultL, aresult, mkF, undefV, reduceCtorEq, kD, kE, kF, kG, kH, kI, kJ, kK, aExtract, calleeOf, hl, d1, mk]
 refine KLoop.intro (fun k fr hq => ∃ (i : Nat) (met : List Bool), k = m - i ∧ i ≤ m ∧ fr = mkF [(0, pv), (3, .slice (some ⟨M, 0, none⟩) m m), (12, pv), (13, .int .i64 m), (14, .int .i64 i)] ∧ hq.own M = some (.cells (Bo met)) ∧ met.length = m ∧
   (∀ x ∈ ps.take i, 0 ≤ x ∧ x < (m : Int)) ∧ (ps.take i).Nodup ∧ (∀ j : Nat, j < m → (met[j]? = some true ↔ (j : Int) ∈ ps.take i)) ∧ Le h hq)
  m [(0, pv), (3, .slice (some ⟨M, 0, none⟩) m m), (12, pv), (13, .int .i64 m), (14, .int .i64 (0 : Nat))] (by simp only [hasAll, kS1, bLookup, bMapSet, wantA, isCall, stepOp, evalO, evalL, evalP, evalM, putDst, flat, kA, kB, Nat.reduceLT, ↓reduceIte, kC, Nat.reduceEqDiff, aBuiltin, abinG, guardFree, abin, aInt, aUn, aNilCheck, retQ, retQ1, aresults, aresultL, aresult, mkF, undefV, reduceCtorEq, kD, kE, kF, kG, kH, kI, kJ, kK, aExtract, calleeOf]; simp)
  ⟨0, _, rfl, Nat.zero_le _, rfl, oM, by simp, by simp, by simp, by intro j hj; simp [hj], l1⟩ ?_
 clear mk oM o1 w1 l1 e1
 clear h1
 rintro k fr hq hwq ⟨i, met, rfl, hi, rfl, oM, hml, hrg, hnd, hmt, leq⟩
 simp only [kS1, bLookup, bMapSet, wantA, isCall, stepOp, evalO, evalL, evalP, evalM, putDst, flat, kA, kB, Nat.reduceLT, ↓reduceIte, kC, Nat.reduceEqDiff, aBuiltin, abinG, guardFree, abin, aInt, aUn, aNilCheck, retQ, retQ1, aresults, aresultL, aresult, mkF, undefV, reduceCtorEq, kD, kE, kF, kG, kH, kI, kJ, kK, aExtract, calleeOf]
 refine KCond.intro (fun ht => ?_) (fun hf => ?_)
 rotate_left
 ·have hge : m ≤ i := lt_f hf
  rw [List.take_of_length_le (by omega)] at hrg hnd
  simp only [kS1, bLookup, bMapSet, wantA, isCall, stepOp, evalO, evalL, evalP, evalM, putDst, flat, kA, kB, Nat.reduceLT, ↓reduceIte, kC, Nat.reduceEqDiff, aBuiltin, abinG, guardFree, abin, aInt, aUn, aNilCheck, retQ, retQ1, aresults, aresultL, aresult, mkF, undefV, reduceCtorEq, kD, kE, kF, kG, kH, kI, kJ, kK, aExtract, calleeOf]
  exact ⟨.t ⟨by omega, by rw [hm]; exact hrg, hnd⟩, leq⟩
 have hlt : i < m := lt_t ht
 clear ht
 have hil : i < ps.length := by omega
 have ad := hp.addr (P := Try.prog) Try.underlying38 Try.underlying3 (by kernel_rfl) (k := .i64) i hil
 have ld := (hp.le Stays.isI leq).loadI (P := Try.prog) Try.underlying3 rfl i hil
 have htk : ps.take (i + 1) = ps.take i ++ [ps[i]] := List.take_succ_eq_append_getElem hil
 have hpm := List.getElem_mem hil
 generalize ps[i] = x at *
 by_cases q1 : x < 0
 ·have d : decide (x < 0) = true := decide_eq_true q1
  simp only [kS1, bLookup, bMapSet, wantA, isCall, stepOp, evalO, evalL, evalP, evalM, putDst, flat, kA, kB, Nat.reduceLT, ↓reduceIte, kC, Nat.reduceEqDiff, aBuiltin, abinG, guardFree, abin, aInt, aUn, aNilCheck, retQ, retQ1, aresults, aresultL, aresult, mkF, undefV, reduceCtorEq, kD, kE, kF, kG, kH, kI, kJ, kK, aExtract, calleeOf, ad, ld, d]
  exact ⟨.f fun k => by have := (k.rng x hpm).1; omega, leq⟩
 have dq1 : decide (x < 0) = false := decide_eq_false q1
 by_cases q2 : x ≥ (m : Int)
 ·have d : decide (x ≥ (m : Int)) = true := decide_eq_true q2
  simp only [kS1, bLookup, bMapSet, wantA, isCall, stepOp, evalO, evalL, evalP, evalM, putDst, flat, kA, kB, Nat.reduceLT, ↓reduceIte, kC, Nat.reduceEqDiff, aBuiltin, abinG, guardFree, abin, aInt, aUn, aNilCheck, retQ, retQ1, aresults, aresultL, aresult, mkF, undefV, reduceCtorEq, kD, kE, kF, kG, kH, kI, kJ, kK, aExtract, calleeOf, ad, ld, dq1, hl, d]
  exact ⟨.f fun k => by have := (k.rng x hpm).2; omega, leq⟩
 have dq2 : decide (x ≥ (m : Int)) = false := decide_eq_false q2
 obtain ⟨z, rfl⟩ := Int.eq_ofNat_of_zero_le (show 0 ≤ x by omega)
 have hz : z < m := by omega
 have ldM : aload Try.prog hq 4 ⟨M, z, none⟩ = some (.bool (met[z]'(by omega))) := by
  rw [aload_one Try.underlying4 rfl oM]; simp [Bo, hml, hz]
 by_cases q3 : (z : Int) ∈ ps.take i
 ·have hb : met[z]'(by omega) = true := by
   have := (hmt z hz).2 q3
   rw [List.getElem?_eq_getElem (by omega)] at this; injection this
  rw [hb] at ldM
  simp only [kS1, bLookup, bMapSet, wantA, isCall, stepOp, evalO, evalL, evalP, evalM, putDst, flat, kA, kB, Nat.reduceLT, ↓reduceIte, kC, Nat.reduceEqDiff, aBuiltin, abinG, guardFree, abin, aInt, aUn, aNilCheck, retQ, retQ1, aresults, aresultL, aresult, mkF, undefV, reduceCtorEq, kD, kE, kF, kG, kH, kI, kJ, kK, aExtract, calleeOf, ad, ld, dq1, hl, dq2, ixM _ z hz, ldM]
  refine ⟨.f fun k => ?_, leq⟩
  have nd := k.nd
  rw [← List.take_append_drop (i + 1) ps, htk] at nd
  have := (List.nodup_append.1 nd).1
  rw [List.nodup_append] at this
  exact this.2.2 _ q3 _ (by simp) rfl
 have hb : met[z]'(by omega) = false := by
  cases hh : met[z]'(by omega) with
  | false => rfl
  | true => exact absurd ((hmt z hz).1 (by rw [List.getElem?_eq_getElem (by omega), hh])) q3
 rw [hb] at ldM
 have st := aStore1 (P := Try.prog) (t := 4) (x := .bool true) Try.underlying4 (by kernel_rfl) oM (off := z) (by simp [Bo]; omega) rfl rfl
 rw [Bo_set] at st
 simp only [kS1, bLookup, bMapSet, wantA, isCall, stepOp, evalO, evalL, evalP, evalM, putDst, flat, kA, kB, Nat.reduceLT, ↓reduceIte, kC, Nat.reduceEqDiff, aBuiltin, abinG, guardFree, abin, aInt, aUn, aNilCheck, retQ, retQ1, aresults, aresultL, aresult, mkF, undefV, reduceCtorEq, kD, kE, kF, kG, kH, kI, kJ, kK, aExtract, calleeOf, ad, ld, dq1, hl, dq2, ixM _ z hz, ldM, st, awrap_succ i (by omega)]
 refine loop_again (m - (i + 1)) [(0, pv), (3, .slice (some ⟨M, 0, none⟩) m m), (12, pv), (13, .int .i64 m), (14, .int .i64 (i + 1 : Nat))] (by omega) (by simp only [hasAll, kS1, bLookup, bMapSet, wantA, isCall, stepOp, evalO, evalL, evalP, evalM, putDst, flat, kA, kB, Nat.reduceLT, ↓reduceIte, kC, Nat.reduceEqDiff, aBuiltin, abinG, guardFree, abin, aInt, aUn, aNilCheck, retQ, retQ1, aresults, aresultL, aresult, mkF, undefV, reduceCtorEq, kD, kE, kF, kG, kH, kI, kJ, kK, aExtract, calleeOf]; simp)
  ⟨i + 1, met.set z true, rfl, hlt, rfl, AHeap.own_put_eq _ _ _, by simp [hml], fun y hy => ?_, ?_, fun j hj => ?_, leq.put _ nM⟩
 ·rw [htk, List.mem_append] at hy
  rcases hy with hy | hy
  ·exact hrg y hy
  ·simp at hy; subst hy; omega
 ·rw [htk, List.nodup_append]
  refine ⟨hnd, by simp, fun a ha b hb e => ?_⟩
  simp at hb; subst hb; subst e; exact q3 ha
 ·rw [htk, List.mem_append, List.getElem?_set]
  by_cases e : z = j
  ·subst e; simp; omega
  ·rw [if_neg e, hmt j hj]; simp; omega
def permF (ps : List Int) (a : Nat) : Nat := (ps.getD a 0).toNat
theorem PermOK.get {ps : List Int} (k : PermOK ps) {a : Nat} (ha : a < ps.length) : ps.getD a 0 = (permF ps a : Int) ∧ permF ps a < ps.length := by
 have hg : ps.getD a 0 = ps[a] := getD_of ha
 obtain ⟨h1, h2⟩ := k.rng _ (List.getElem_mem ha)
 rw [permF, hg]; omega
theorem PermOK.inj {ps : List Int} (k : PermOK ps) {a b : Nat} (ha : a < ps.length) (hb : b < ps.length) (e : permF ps a = permF ps b) : a = b := by
 have h1 := (k.get ha).1
 have h2 := (k.get hb).1
 rw [getD_of ha] at h1
 rw [getD_of hb] at h2
 have nd := k.nd
 rw [List.Nodup, List.pairwise_iff_getElem] at nd
 rcases Nat.lt_trichotomy a b with h | h | h
 ·exact absurd (by rw [h1, h2, e]) (nd a b ha hb h)
 ·exact h
 ·exact absurd (by rw [h1, h2, e]) (nd b a hb ha h)
theorem PermOK.surj {ps : List Int} (k : PermOK ps) {x : Nat} (hx : x < ps.length) : ∃ a, a < ps.length ∧ permF ps a = x := by
 have hm : (x : Int) ∈ ps := Classical.byContradiction fun hn => by
  have nd : ((x : Int) :: ps).Nodup := List.nodup_cons.2 ⟨hn, k.nd⟩
  have hs : ((x : Int) :: ps) ⊆ (List.range ps.length).map fun (i : Nat) => (i : Int) := fun y hy => by
   rw [List.mem_map]
   rcases List.mem_cons.1 hy with rfl | hy
   ·exact ⟨x, List.mem_range.2 hx, rfl⟩
   ·have := k.rng y hy; exact ⟨y.toNat, List.mem_range.2 (by omega), by omega⟩
  have := nd.length_le_of_subset hs
  simp at this
  omega
 obtain ⟨a, ha, e⟩ := List.mem_iff_getElem.1 hm
 have := (k.get ha).1
 rw [getD_of ha, e] at this
 exact ⟨a, ha, by omega⟩
def appP (ps : List Int) (p : Pr) : Pr := (ps.getD p.1.toNat 0, ps.getD p.2.toNat 0)
def appE (ps : List Int) (es : List Pr) : List Pr := sortP ((es.map (appP ps)).map normP)
def AppOK (G : GM) (ps : List Int) : Prop := RightG G ∧ PermOK ps ∧ (ps.length : Int) = G.n
theorem appP_nat {ps : List Int} (k : PermOK ps) {a b : Nat} (ha : a < ps.length) (hb : b < ps.length) : appP ps ((a : Int), (b : Int)) = ((permF ps a : Int), (permF ps b : Int)) := by
 simp only [appP, Int.toNat_natCast]; rw [(k.get ha).1, (k.get hb).1]
theorem AppOK.new {n : Nat} {es : List Pr} {ps : List Int} (A : AppOK ⟨(n : Int), es⟩ ps) : NewOK (n : Int) (es.map (appP ps)) := by
 obtain ⟨hr, k, hl⟩ := A
 have hln : ps.length = n := by simp only at hl; omega
 have nat : ∀ p ∈ es, ∃ a b : Nat, p = ((a : Int), (b : Int)) ∧ a < b ∧ b < n := fun p hp => by
  have := hr.inR p hp
  exact ⟨p.1.toNat, p.2.toNat, Prod.ext (by simp only; omega) (by simp only; omega), by omega, by omega⟩
 refine ⟨by omega, hr.n1, by rw [List.length_map]; exact hr.len, fun q hq => ?_, ?_⟩
 ·obtain ⟨p, hp, rfl⟩ := List.mem_map.1 hq
  obtain ⟨a, b, rfl, hab, hb⟩ := nat p hp
  have ha1 := (k.get (show a < ps.length by omega)).2
  have hb1 := (k.get (show b < ps.length by omega)).2
  have ne : permF ps a ≠ permF ps b := fun e => by have := k.inj (by omega) (by omega) e; omega
  rw [appP_nat k (by omega) (by omega)]
  simp only [normP]; omega
 ·rw [List.map_map, List.nodup_iff_pairwise_ne, List.pairwise_map]
  have nd := hr.nodup
  rw [List.nodup_iff_pairwise_ne] at nd
  refine nd.imp_of_mem fun {p q} hp hq hne e => hne ?_
  obtain ⟨a, b, rfl, hab, hb⟩ := nat p hp
  obtain ⟨c, d, rfl, hcd, hd⟩ := nat q hq
  simp only [Function.comp] at e
  rw [appP_nat k (by omega) (by omega), appP_nat k (by omega) (by omega)] at e
  simp only [normP, Prod.mk.injEq] at e
  have inj := fun {x y : Nat} (hx : x < n) (hy : y < n) => k.inj (show x < ps.length by omega) (show y < ps.length by omega)
  have i1 := fun h => inj (x := a) (y := c) (by omega) (by omega) h
  have i2 := fun h => inj (x := b) (y := d) (by omega) (by omega) h
  have i3 := fun h => inj (x := a) (y := d) (by omega) (by omega) h
  have i4 := fun h => inj (x := b) (y := c) (by omega) (by omega) h
  rcases (show (permF ps a = permF ps c ∧ permF ps b = permF ps d) ∨ (permF ps a = permF ps d ∧ permF ps b = permF ps c) by omega) with ⟨h1, h2⟩ | ⟨h1, h2⟩
  ·rw [i1 h1, i2 h2]
  ·have := i3 h1; have := i4 h2; omega
theorem flatP_set : ∀ (qs : List Pr) (i : Nat) (q : Pr), ((flatP qs).set (i * 2) (.int .i64 q.1)).set (i * 2 + 1) (.int .i64 q.2) = flatP (qs.set i q)
 | [], i, q => by simp [flatP]
 | p :: r, 0, q => rfl
 | p :: r, i + 1, q => by
  have ih := flatP_set r i q
  have e : ∀ x : Pr, ∀ l, flatP (x :: l) = .int .i64 x.1 :: .int .i64 x.2 :: flatP l := fun x l => rfl
  rw [List.set_cons_succ, e p r, e p, ← ih, show (i + 1) * 2 = i * 2 + 1 + 1 by omega]; rfl
theorem stP {h : AHeap} {E i : Nat} {qs : List Pr} (ho : h.own E = some (.cells (flatP qs))) (hi : i < qs.length) (q : Pr) :
  aStore Try.prog h 61 (.pointer (some ⟨E, i * 2, none⟩)) (valP q) = some (h.put E (.cells (flatP (qs.set i q)))) := by
 have hc : (valP q).cells = #[.int .i64 q.1, .int .i64 q.2] := rfl
 have h1 : (Value.int IntKind.i64 q.1).oneCell' = true := rfl
 have h2 : (Value.int IntKind.i64 q.2).oneCell' = true := rfl
 have hl : i * 2 + 2 ≤ (flatP qs).length := by rw [flatP_length]; omega
 rw [← flatP_set]
 simp [aStore, ho, hc, ts42, putCells, Try.underlying61, h1, h2, hl]
theorem mkFullP (h : AHeap) (n : Nat) (hn : n ≤ 100000) : aMakeSlice Try.prog h 22 (.int .i64 (n : Int)) (.int .i64 (n : Int)) = some (.slice (some ⟨h.next, 0, none⟩) n n, h.alloc (.cells (flatP (List.replicate n (0, 0))))) := by
 have hz : azero Try.prog 61 = some (.agg #[.int .i64 0, .int .i64 0]) := by kernel_rfl
 have hcs : (Value.agg #[.int .i64 0, .int .i64 0]).cells = #[.int .i64 0, .int .i64 0] := rfl
 have hb : Try.prog.bytesOf 61 = 16 := by kernel_rfl
 have b1 : (16 : Int) * n ≤ 140737488355328 := by omega
 have b2 : (n : Int) ≤ 140737488355328 := by omega
 have hrow : ∀ n : Nat, zrow [Value.int .i64 0, .int .i64 0] n = flatP (List.replicate n (0, 0)) := fun n => by
  induction n with
  | zero => rfl
  | succ n ih => rw [List.replicate_succ]; simp only [zrow, ih]; rfl
 have hone := flatP_one (List.replicate n ((0 : Int), (0 : Int)))
 simp [aMakeSlice, Try.underlying22, Try.underlying61, hz, hcs, hb, ts42, flat, b1, b2, aNewRow, hrow, hone]
theorem idxP (E m i : Nat) (hi : i < m) : aIndexAddr Try.prog 22 (.slice (some ⟨E, 0, none⟩) m m) (.int .i64 (i : Int)) = some (.pointer (some ⟨E, i * 2, none⟩)) := by
 have h1 : (i : Int) < (m : Int) := by omega
 simp [aIndexAddr, Try.underlying22, Try.underlying61, h1, ts42, aadd]
theorem Apply_any (W0 : Base) (v pv : Value) (G : GM) (ps : List Int) (h : AHeap) (hg : GR h v G) (hp : RL isI h pv ps) :
  AC Try.prog W0 20 [v, pv] h fun x h' => Le h h' ∧ ((¬ AppOK G ps ∧ ∃ k : Int, k ≠ 0 ∧ x = .tuple #[emptyG, .int .i64 k]) ∨ (AppOK G ps ∧ ∃ ev, x = .tuple #[.agg #[.int .i64 G.n, ev], .int .i64 0] ∧ GP h' ev (appE ps G.es) ∧ Apart h ev)) := by
 have hg0 := hg
 obtain ⟨gn, es⟩ := G
 obtain ⟨ev, rfl, hpe⟩ := hg.open
 refine AC.vc (fn := Try.f20) (c := _) ⟨Try.func20, rfl, by decide⟩ Try.ntmps20 Try.results20 (by simp) fun hwf => ?_
 simp only [argFrame, argFrom, Nat.reduceAdd]
 obtain ⟨h1, b1, le1, wf1, -, lA⟩ := boxG (n := gn) hwf hpe
 generalize h.next = B at *
 obtain ⟨h2, e2, l2, w2, o2⟩ := alloc_f wf1 [.int .i64 0, .slice none 0 0]
 have al := alloc24 h1
 rw [e2] at al
 have nR : h.own h1.next = none := le1.next wf1 (Nat.le_refl _)
 generalize h1.next = R at *
 have hl := fun g => hp.len (P := Try.prog) Try.underlying38 g
 have le2 := le1.trans l2
 have stE : ∀ g : AHeap, g.own R = some (.cells [.int .i64 0, .slice none 0 0]) → aStore Try.prog g 24 (.pointer (some ⟨R, 0, none⟩)) emptyG = some (g.put R (.cells [.int .i64 0, .slice none 0 0])) := fun g o => store24 o rfl rfl
 have ldE : ∀ g : AHeap, aload Try.prog (g.put R (.cells [.int .i64 0, .slice none 0 0])) 24 ⟨R, 0, none⟩ = some emptyG := fun g => load24 (AHeap.own_put_eq _ _ _) ⟨_, _, _, rfl⟩
 have lA2 := lA h2 l2
 simp only [kS1, bLookup, bMapSet, wantA, isCall, stepOp, evalO, evalL, evalP, evalM, putDst, flat, kA, kB, Nat.reduceLT, ↓reduceIte, kC, Nat.reduceEqDiff, aBuiltin, abinG, guardFree, abin, aInt, aUn, aNilCheck, retQ, retQ1, aresults, aresultL, aresult, mkF, undefV, reduceCtorEq, kD, kE, kF, kG, kH, kI, kJ, kK, aExtract, calleeOf, b1, al, lA2.1]
 refine KCall.intro (by simp only [kS1, bLookup, bMapSet, wantA, isCall, stepOp, evalO, evalL, evalP, evalM, putDst, flat, kA, kB, Nat.reduceLT, ↓reduceIte, kC, Nat.reduceEqDiff, aBuiltin, abinG, guardFree, abin, aInt, aUn, aNilCheck, retQ, retQ1, aresults, aresultL, aresult, mkF, undefV, reduceCtorEq, kD, kE, kF, kG, kH, kI, kJ, kK, aExtract, calleeOf] <;> rfl) ⟨Try.func57, rfl, by decide⟩ (Right_any W0 _ _ h2 (hg0.le le2)) ?_
 rintro x h3 w3 ⟨⟨bb, rfl, hbb⟩, l3⟩
 have le3 := le2.trans l3
 have o3 := l3.own _ _ o2
 have lA3 := lA h3 (l2.trans l3)
 cases bb with
 | false =>
  simp only [kS1, bLookup, bMapSet, wantA, isCall, stepOp, evalO, evalL, evalP, evalM, putDst, flat, kA, kB, Nat.reduceLT, ↓reduceIte, kC, Nat.reduceEqDiff, aBuiltin, abinG, guardFree, abin, aInt, aUn, aNilCheck, retQ, retQ1, aresults, aresultL, aresult, mkF, undefV, reduceCtorEq, kD, kE, kF, kG, kH, kI, kJ, kK, aExtract, calleeOf, build24z, stE h3 o3, ldE h3]
  exact ⟨le3.put _ nR, .inl ⟨fun A => Bool.noConfusion (hbb.2 A.1), 20, by decide, rfl⟩⟩
 | true =>
 have hr := hbb.1 rfl
 clear hbb
 have h0 : 0 ≤ gn := hr.n0
 obtain ⟨n, rfl⟩ := Int.eq_ofNat_of_zero_le h0
 have h594 : es.length ≤ 594 := hr.len
 simp only [kS1, bLookup, bMapSet, wantA, isCall, stepOp, evalO, evalL, evalP, evalM, putDst, flat, kA, kB, Nat.reduceLT, ↓reduceIte, kC, Nat.reduceEqDiff, aBuiltin, abinG, guardFree, abin, aInt, aUn, aNilCheck, retQ, retQ1, aresults, aresultL, aresult, mkF, undefV, reduceCtorEq, kD, kE, kF, kG, kH, kI, kJ, kK, aExtract, calleeOf]
 refine KCall.intro (by simp only [kS1, bLookup, bMapSet, wantA, isCall, stepOp, evalO, evalL, evalP, evalM, putDst, flat, kA, kB, Nat.reduceLT, ↓reduceIte, kC, Nat.reduceEqDiff, aBuiltin, abinG, guardFree, abin, aInt, aUn, aNilCheck, retQ, retQ1, aresults, aresultL, aresult, mkF, undefV, reduceCtorEq, kD, kE, kF, kG, kH, kI, kJ, kK, aExtract, calleeOf] <;> rfl) ⟨Try.func67, rfl, by decide⟩ (PRight_any W0 pv ps h3 (hp.le Stays.isI le3)) ?_
 rintro x h4 w4 ⟨⟨bb, rfl, hbb⟩, l4⟩
 have le4 := le3.trans l4
 have o4 := l4.own _ _ o3
 have lA4 := lA h4 ((l2.trans l3).trans l4)
 cases bb with
 | false =>
  simp only [kS1, bLookup, bMapSet, wantA, isCall, stepOp, evalO, evalL, evalP, evalM, putDst, flat, kA, kB, Nat.reduceLT, ↓reduceIte, kC, Nat.reduceEqDiff, aBuiltin, abinG, guardFree, abin, aInt, aUn, aNilCheck, retQ, retQ1, aresults, aresultL, aresult, mkF, undefV, reduceCtorEq, kD, kE, kF, kG, kH, kI, kJ, kK, aExtract, calleeOf, build24z, stE h4 o4, ldE h4]
  exact ⟨le4.put _ nR, .inl ⟨fun A => Bool.noConfusion (hbb.2 A.2.1), 30, by decide, rfl⟩⟩
 | true =>
 have hk := hbb.1 rfl
 clear hbb
 by_cases hln : (ps.length : Int) = (n : Int)
 rotate_left
 ·have d : decide ((ps.length : Int) = (n : Int)) = false := decide_eq_false hln
  simp only [kS1, bLookup, bMapSet, wantA, isCall, stepOp, evalO, evalL, evalP, evalM, putDst, flat, kA, kB, Nat.reduceLT, ↓reduceIte, kC, Nat.reduceEqDiff, aBuiltin, abinG, guardFree, abin, aInt, aUn, aNilCheck, retQ, retQ1, aresults, aresultL, aresult, mkF, undefV, reduceCtorEq, kD, kE, kF, kG, kH, kI, kJ, kK, aExtract, calleeOf, hl, fg0, aadd, Nat.zero_add, lA4.2.1, bne, d, build24z, stE h4 o4, ldE h4]
  exact ⟨le4.put _ nR, .inl ⟨fun A => hln A.2.2, 30, by decide, rfl⟩⟩
 have d : decide ((ps.length : Int) = (n : Int)) = true := decide_eq_true hln
 have A : AppOK ⟨(n : Int), es⟩ ps := ⟨hr, hk, hln⟩
 have hN := A.new
 have hlen := fun g => hpe.len g
 obtain ⟨h5, e5, l5, w5, o5⟩ := alloc_f w4 (flatP (List.replicate es.length (0, 0)))
 have mk := mkFullP h4 es.length (by omega)
 rw [e5] at mk
 have nE : h4.own h4.next = none := (Le.refl h4).next w4 (Nat.le_refl _)
 simp only [kS1, bLookup, bMapSet, wantA, isCall, stepOp, evalO, evalL, evalP, evalM, putDst, flat, kA, kB, Nat.reduceLT, ↓reduceIte, kC, Nat.reduceEqDiff, aBuiltin, abinG, guardFree, abin, aInt, aUn, aNilCheck, retQ, retQ1, aresults, aresultL, aresult, mkF, undefV, reduceCtorEq, kD, kE, kF, kG, kH, kI, kJ, kK, aExtract, calleeOf, hl, fg0, fg1, aadd, Nat.zero_add, lA4.2.1, lA4.2.2, bne, d, hlen, mk, (lA h5 (((l2.trans l3).trans l4).trans l5)).2.2]
 have neER : R ≠ h4.next := fun e => by rw [e, nE] at o4; cases o4
 generalize h4.next = E at *
 have nE0 : h.own E = none := le4.none nE
 have l14 := (l2.trans l3).trans l4
 refine KLoop.intro (fun k fr hq => ∃ (i : Nat) (qs : List Pr), k = es.length - i ∧ i ≤ es.length ∧ fr = mkF [(1, pv), (2, .pointer (some ⟨B, 0, none⟩)), (4, .pointer (some ⟨R, 0, none⟩)), (6, .slice (some ⟨E, 0, none⟩) es.length es.length), (29, ev), (30, .int .i64 es.length), (31, .int .i64 i)] ∧
   hq.own E = some (.cells (flatP qs)) ∧ qs.length = es.length ∧ qs.take i = (es.take i).map (appP ps) ∧ Le h4 hq)
  es.length [(1, pv), (2, .pointer (some ⟨B, 0, none⟩)), (4, .pointer (some ⟨R, 0, none⟩)), (6, .slice (some ⟨E, 0, none⟩) es.length es.length), (29, ev), (30, .int .i64 es.length), (31, .int .i64 (0 : Nat))] (by simp only [hasAll, kS1, bLookup, bMapSet, wantA, isCall, stepOp, evalO, evalL, evalP, evalM, putDst, flat, kA, kB, Nat.reduceLT, ↓reduceIte, kC, Nat.reduceEqDiff, aBuiltin, abinG, guardFree, abin, aInt, aUn, aNilCheck, retQ, retQ1, aresults, aresultL, aresult, mkF, undefV, reduceCtorEq, kD, kE, kF, kG, kH, kI, kJ, kK, aExtract, calleeOf]; simp)
  ⟨0, _, rfl, Nat.zero_le _, rfl, o5, by simp, by simp, l5⟩ ?_
 clear mk o5 w5 l5 e5
 clear h5
 rintro k fr hq hwq ⟨i, qs, rfl, hi, rfl, oE, hql, hqt, leq⟩
 have le5 := le4.trans leq
 simp only [kS1, bLookup, bMapSet, wantA, isCall, stepOp, evalO, evalL, evalP, evalM, putDst, flat, kA, kB, Nat.reduceLT, ↓reduceIte, kC, Nat.reduceEqDiff, aBuiltin, abinG, guardFree, abin, aInt, aUn, aNilCheck, retQ, retQ1, aresults, aresultL, aresult, mkF, undefV, reduceCtorEq, kD, kE, kF, kG, kH, kI, kJ, kK, aExtract, calleeOf]
 refine KCond.intro (fun ht => ?_) (fun hf => ?_)
 ·have hlt : i < es.length := lt_t ht
  clear ht
  have hpi := getElem?_of hlt
  have htk : es.take (i + 1) = es.take i ++ [es[i]] := List.take_succ_eq_append_getElem hlt
  have hpm := List.getElem_mem hlt
  generalize es[i] = p at hpi htk hpm
  have hpR := hr.inR p hpm
  obtain ⟨a, ea⟩ := Int.eq_ofNat_of_zero_le hpR.1
  obtain ⟨b, eb⟩ := Int.eq_ofNat_of_zero_le (show 0 ≤ p.2 by omega)
  have haL : a < ps.length := by omega
  have hbL : b < ps.length := by omega
  have ad := hpe.addr (k := .i64) i hlt
  have ld := (hpe.le le5).load hpi
  obtain ⟨h7', h7, e7, e7s, l7, w7, o7⟩ := new42 hwq p
  have m0 := own0 o7
  have m1 := own1 o7
  rw [ea] at m0
  rw [eb] at m1
  have adA := hp.addr (P := Try.prog) Try.underlying38 Try.underlying3 (by kernel_rfl) (k := .i64) a haL
  have adB := hp.addr (P := Try.prog) Try.underlying38 Try.underlying3 (by kernel_rfl) (k := .i64) b hbL
  have ldA := (hp.le Stays.isI (le5.trans l7)).loadI (P := Try.prog) Try.underlying3 rfl a haL
  have ldB := (hp.le Stays.isI (le5.trans l7)).loadI (P := Try.prog) Try.underlying3 rfl b hbL
  have happ : appP ps p = (ps[a], ps[b]) := by
   rw [appP, ea, eb]; simp only [Int.toNat_natCast]; rw [getD_of haL, getD_of hbL]
  have bn : aBuild Try.prog 61 [(0, .int .i64 ps[a]), (1, .int .i64 ps[b])] = some (valP (appP ps p)) := by rw [happ]; exact bP2 _ _
  have oE7 := l7.own _ _ oE
  have st := stP oE7 (i := i) (by omega) (appP ps p)
  have ix := idxP E es.length i hlt
  generalize hq.next = Ev at *
  generalize ps[a] = pa at *
  generalize ps[b] = pb at *
  simp only [kS1, bLookup, bMapSet, wantA, isCall, stepOp, evalO, evalL, evalP, evalM, putDst, flat, kA, kB, Nat.reduceLT, ↓reduceIte, kC, Nat.reduceEqDiff, aBuiltin, abinG, guardFree, abin, aInt, aUn, aNilCheck, retQ, retQ1, aresults, aresultL, aresult, mkF, undefV, reduceCtorEq, kD, kE, kF, kG, kH, kI, kJ, kK, aExtract, calleeOf, ad, ld, e7, e7s]
  refine KDraw.intro mixed (.fl 0 (.fl 1 (.fl 2 (.fl 3 (.fl 4 (.fl 5 (.fl 6 (.fl 7 (.fl 8 (.fl 9 (.fl 10 (.fl 11 (.fl 12 (.fl 13 (.ch 14 [0, 1, 2, 3, 4, 5, 6, 7, 8, 9, 10, 11, 12, 13] (.done) .no))))))))))))))) (by kernel_rfl) ?_
  simp only [kS1, bLookup, bMapSet, wantA, isCall, stepOp, evalO, evalL, evalP, evalM, putDst, flat, kA, kB, Nat.reduceLT, ↓reduceIte, kC, Nat.reduceEqDiff, aBuiltin, abinG, guardFree, abin, aInt, aUn, aNilCheck, retQ, retQ1, aresults, aresultL, aresult, mkF, undefV, reduceCtorEq, kD, kE, kF, kG, kH, kI, kJ, kK, aExtract, calleeOf, kD1, Nat.reduceBEq, HoldsAll, kL, kM, kN, kO, pa0, pa1, aadd, Nat.zero_add, m0, m1, adA, adB, ldA, ldB, bn, ix, st, awrap_succ i (by omega)]
  refine loop_again (es.length - (i + 1)) [(1, pv), (2, .pointer (some ⟨B, 0, none⟩)), (4, .pointer (some ⟨R, 0, none⟩)), (6, .slice (some ⟨E, 0, none⟩) es.length es.length), (29, ev), (30, .int .i64 es.length), (31, .int .i64 (i + 1 : Nat))] (by omega) (by simp only [hasAll, kS1, bLookup, bMapSet, wantA, isCall, stepOp, evalO, evalL, evalP, evalM, putDst, flat, kA, kB, Nat.reduceLT, ↓reduceIte, kC, Nat.reduceEqDiff, aBuiltin, abinG, guardFree, abin, aInt, aUn, aNilCheck, retQ, retQ1, aresults, aresultL, aresult, mkF, undefV, reduceCtorEq, kD, kE, kF, kG, kH, kI, kJ, kK, aExtract, calleeOf]; simp)
   ⟨i + 1, _, rfl, hlt, rfl, AHeap.own_put_eq _ _ _, by simp [hql], ?_, (leq.trans l7).put _ nE⟩
  rw [htk, List.map_append, ← hqt, List.take_set, List.take_succ_eq_append_getElem (by omega), List.set_append_right _ _ (by rw [List.length_take]; omega)]
  congr 1
  have : i - (qs.take i).length = 0 := by rw [List.length_take]; omega
  rw [this]; rfl
 have hge : es.length ≤ i := lt_f hf
 rw [List.take_of_length_le (by omega), List.take_of_length_le (by omega)] at hqt
 subst hqt
 have hpr : PR hq (.slice (some ⟨E, 0, none⟩) es.length es.length) (es.map (appP ps)) := by
  have := CS.own (k := 2) (off := 0) (n := es.length) (cap := es.length) oE (by rw [flatP_length, hql]; omega)
  rw [List.drop_zero, List.take_of_length_le (by rw [flatP_length, hql]; omega)] at this
  rw [PR, hql]; exact this
 have lAq := lA hq (l14.trans leq)
 simp only [kS1, bLookup, bMapSet, wantA, isCall, stepOp, evalO, evalL, evalP, evalM, putDst, flat, kA, kB, Nat.reduceLT, ↓reduceIte, kC, Nat.reduceEqDiff, aBuiltin, abinG, guardFree, abin, aInt, aUn, aNilCheck, retQ, retQ1, aresults, aresultL, aresult, mkF, undefV, reduceCtorEq, kD, kE, kF, kG, kH, kI, kJ, kK, aExtract, calleeOf, fg0, aadd, Nat.zero_add, lAq.2.1]
 refine KCall.intro (by simp only [kS1, bLookup, bMapSet, wantA, isCall, stepOp, evalO, evalL, evalP, evalM, putDst, flat, kA, kB, Nat.reduceLT, ↓reduceIte, kC, Nat.reduceEqDiff, aBuiltin, abinG, guardFree, abin, aInt, aUn, aNilCheck, retQ, retQ1, aresults, aresultL, aresult, mkF, undefV, reduceCtorEq, kD, kE, kF, kG, kH, kI, kJ, kK, aExtract, calleeOf] <;> rfl) ⟨Try.func68, rfl, by decide⟩ (New_any W0 (n : Int) _ (es.map (appP ps)) hq hpr (by rw [hql]; omega)) ?_
 rintro x h9 w9 ⟨l9, ⟨hno, _⟩ | ⟨_, rv, rfl, gr, ar⟩⟩
 ·exact absurd hN hno
 have oR9 := l9.own _ _ (leq.own _ _ o4)
 have one := gr.pr.sl.one
 have hsl : ∃ a l c, rv = .slice a l c := by obtain ⟨a, c, rfl, _⟩ := gr.pr.sl; exact ⟨_, _, _, rfl⟩
 have hce : rv.cells = #[rv] := by obtain ⟨a, l, c, rfl⟩ := hsl; rfl
 have st := store24 (n := (n : Int)) (ev := rv) oR9 one hce
 have ld := load24 (n := (n : Int)) (ev := rv) (AHeap.own_put_eq h9 R _) hsl
 simp only [kS1, bLookup, bMapSet, wantA, isCall, stepOp, evalO, evalL, evalP, evalM, putDst, flat, kA, kB, Nat.reduceLT, ↓reduceIte, kC, Nat.reduceEqDiff, aBuiltin, abinG, guardFree, abin, aInt, aUn, aNilCheck, retQ, retQ1, aresults, aresultL, aresult, mkF, undefV, reduceCtorEq, kD, kE, kF, kG, kH, kI, kJ, kK, aExtract, calleeOf, st, ld]
 refine ⟨(le5.trans l9).put _ nR, .inr ⟨A, rv, rfl, GS.put gr _ ?_, fun b hb => le5.none (ar b hb)⟩⟩
 intro e
 have := ar R e
 rw [leq.own _ _ o4] at this; cases this
end Go.Fw
