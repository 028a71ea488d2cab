/- A text of the proof. -/
import Derived.Test.YtnaahaldkpdjlaaFwLB3
set_option linter.unusedSimpArgs false
set_option linter.unusedVariables false
namespace Go.Fw
open Go.Proofs
attribute [local irreducible] KO4 KO3 KO2 KO1 KO KN KX KE VK KCond KDraw KCall KLoop
set_option maxHeartbeats 4000000
set_option maxRecDepth 10000
def isBo (_ : AHeap) (v : Value) (b : Bool) : Prop := v = .bool b
theorem Stays.isBo : Stays isBo := fun _ _ _ _ h _ => h
theorem RL.ofBo {h : AHeap} {v : Value} {xs : List Bool} (r : RS h v (xs.map Value.bool)) : RL isBo h v xs :=
 ⟨_, r, by simp, fun i x u hx hu => by simp [hx] at hu; exact hu.symm⟩
theorem RL.loadBo {h : AHeap} {v : Value} {xs : List Bool} (r : RL isBo h v xs) (i : Nat) (hi : i < xs.length) : aload Try.prog h 4 (elemAddr v i) = some (.bool xs[i]) := by
 obtain ⟨u, h1, h2⟩ := r.load (P := Try.prog) Try.underlying4 rfl i hi
 rw [h1]; exact congrArg some h2
theorem RL.addrBo {h : AHeap} {v : Value} {xs : List Bool} (r : RL isBo h v xs) {k : IntKind} (i : Nat) (hi : i < xs.length) : aIndexAddr Try.prog 25 v (.int k i) = some (.pointer (some (elemAddr v i))) :=
 r.addr (P := Try.prog) Try.underlying25 Try.underlying4 (by kernel_rfl) i hi
def ofM (es web : List Pr) : List Bool := es.map fun e => decide (e ∈ web)
def onW (web : List Pr) (v : Nat) : Prop := ∃ e ∈ web, e.1 = (v : Int) ∨ e.2 = (v : Int)
instance (web : List Pr) (v : Nat) : Decidable (onW web v) := inferInstanceAs (Decidable (∃ e ∈ web, e.1 = (v : Int) ∨ e.2 = (v : Int)))
def onM (n : Nat) (web : List Pr) : List Bool := (List.range n).map fun v => decide (onW web v)
theorem ofM_push {es : List Pr} (a : Asc es) {web : List Pr} {p : Pr} {i : Nat} (hi : es[i]? = some p) : ofM es (web ++ [p]) = (ofM es web).set i true := by
 apply List.ext_getElem?
 intro j
 rw [List.getElem?_set]
 simp only [ofM, List.getElem?_map, List.length_map]
 by_cases e : i = j
 ·subst e
  obtain ⟨hl, hp⟩ := List.getElem?_eq_some_iff.1 hi
  rw [if_pos rfl, if_pos hl, getElem?_of hl, Option.map_some, hp]
  simp
 ·rw [if_neg e]
  cases hj : es[j]? with
  | none => rfl
  | some q =>
   have hne : q ≠ p := fun h => e (a.uniq hi (by rw [hj, h]))
   simp [hne]
theorem onW_snoc (web : List Pr) (p : Pr) (v : Nat) : onW (web ++ [p]) v ↔ onW web v ∨ (p.1 = (v : Int) ∨ p.2 = (v : Int)) := by
 simp only [onW, List.mem_append, List.mem_singleton]
 constructor
 ·rintro ⟨e, he | rfl, h⟩
  ·exact .inl ⟨e, he, h⟩
  ·exact .inr h
 ·rintro (⟨e, he, h⟩ | h)
  ·exact ⟨e, .inl he, h⟩
  ·exact ⟨p, .inr rfl, h⟩
theorem onM_push {n : Nat} {web : List Pr} {a b : Nat} : onM n (web ++ [((a : Int), (b : Int))]) = ((onM n web).set a true).set b true := by
 apply List.ext_getElem?
 intro j
 rw [List.getElem?_set, List.getElem?_set]
 simp only [onM, List.getElem?_map, List.length_set, List.length_map, List.length_range]
 by_cases hj : j < n
 ·rw [List.getElem?_range hj]
  have := onW_snoc web ((a : Int), (b : Int)) j
  by_cases e : b = j
  ·subst e; simp [hj, this]
  ·by_cases e2 : a = j
   ·subst e2; simp [hj, e, this]
   ·have h1 : ¬ ((a : Int) = (j : Int)) := by omega
    have h2 : ¬ ((b : Int) = (j : Int)) := by omega
    simp [e, e2, this, h1, h2]
 ·rw [List.getElem?_eq_none (by simp; omega)]
  split
  ·rw [if_neg (by omega)]; rfl
  ·split
   ·rw [if_neg (by omega)]; rfl
   ·rfl
theorem ofM_length (es web : List Pr) : (ofM es web).length = es.length := by simp [ofM]
theorem onM_length (n : Nat) (web : List Pr) : (onM n web).length = n := by simp [onM]
theorem ofM_nil (es : List Pr) : ofM es [] = List.replicate es.length false := by
 apply List.ext_getElem
 ·simp [ofM]
 ·intro i h1 h2; simp [ofM]
theorem onM_nil (n : Nat) : onM n [] = List.replicate n false := by
 apply List.ext_getElem
 ·simp [onM]
 ·intro i h1 h2; simp [onM, onW]
structure WebOK (es web : List Pr) : Prop where
 asc : ∀ (i : Nat) p q, web[i]? = some p → web[i + 1]? = some q → cmpP p q < 0
 mem : ∀ p ∈ web, p ∈ es
structure New2 (h h' : AHeap) (A B : Nat) (x y : List Value) : Prop where
 le : Le h h'
 wf : WF h'
 oA : h'.own A = some (.cells x)
 oB : h'.own B = some (.cells y)
 nA : h.own A = none
 nB : h.own B = none
 ne : A ≠ B
theorem new2_a {h : AHeap} (hw : WF h) (x y : List Value) : New2 h ((h.alloc (.cells x)).alloc (.cells y)) h.next (h.next + 1) x y := by
 have hn : ∀ x, h.next ≤ x → h.own x = none := fun x hx => (Le.refl h).next hw hx
 exact ⟨((Le.refl h).alloc hw _).alloc (hw.alloc _) _, (hw.alloc _).alloc _, by simp [own_alloc, next_alloc], by simp [own_alloc, next_alloc], hn _ (Nat.le_refl _), hn _ (by omega), by omega⟩
theorem new2_b {h : AHeap} (hw : WF h) (x y : List Value) : New2 h ((h.alloc (.cells y)).alloc (.cells x)) (h.next + 1) h.next x y := by
 have hn : ∀ x, h.next ≤ x → h.own x = none := fun x hx => (Le.refl h).next hw hx
 exact ⟨((Le.refl h).alloc hw _).alloc (hw.alloc _) _, (hw.alloc _).alloc _, by simp [own_alloc, next_alloc], by simp [own_alloc, next_alloc], hn _ (by omega), hn _ (Nat.le_refl _), by omega⟩
theorem GR.open {h : AHeap} {v : Value} {n : Int} {es : List Pr} (r : GR h v ⟨n, es⟩) : ∃ ev, v = .agg #[.int .i64 n, ev] ∧ PR h ev es := r.ex
theorem split_any (W0 : Base) (v wv : Value) (G : GM) (web : List Pr) (h : AHeap) (hg : GR h v G) (hw : PR h wv web) (hr : RightG G) (hn : web.length ≤ 1000) :
  AC Try.prog W0 63 [v, wv] h fun x h' => (∃ ov nv b, x = .tuple #[ov, nv, .bool b] ∧ (nv.cells = #[nv] ∧ nv.oneCell' = true) ∧ (b = true ↔ WebOK G.es web) ∧ (b = true → RL isBo h' ov (ofM G.es web) ∧ RL isBo h' nv (onM G.n.toNat web))) ∧ Le h h' := by
 obtain ⟨gn, es⟩ := G
 have h0 : 0 ≤ gn := hr.n0
 obtain ⟨n, rfl⟩ := Int.eq_ofNat_of_zero_le h0
 obtain ⟨ev, rfl, hp⟩ := hg.open
 have h200 : (n : Int) ≤ 200 := hr.n1
 have h594 : es.length ≤ 594 := hr.len
 have hasc : Asc es := hr.asc
 have hrng : ∀ p ∈ es, 0 ≤ p.1 ∧ p.1 < p.2 ∧ p.2 < (n : Int) := fun p hpm => by
  obtain ⟨i, hi⟩ := List.mem_iff_getElem?.1 hpm
  exact (hr.ok i (List.getElem?_eq_some_iff.1 hi).1 p hi).1
 show AC Try.prog W0 63 [.agg #[.int .i64 (n : Int), ev], wv] h fun x h' => (∃ ov nv b, x = .tuple #[ov, nv, .bool b] ∧ (nv.cells = #[nv] ∧ nv.oneCell' = true) ∧ (b = true ↔ WebOK es web) ∧ (b = true → RL isBo h' ov (ofM es web) ∧ RL isBo h' nv (onM n web))) ∧ Le h h'
 refine AC.vc (fn := Try.f63) (c := _) ⟨Try.func63, rfl, by decide⟩ Try.ntmps63 Try.results63 (by simp) fun hwf => ?_
 simp only [argFrame, argFrom, Nat.reduceAdd]
 obtain ⟨h1, b1, le1, wf1, -, lA⟩ := boxG (n := (n : Int)) hwf hp
 generalize h.next = B at *
 have ll := fun g => hp.len g
 have lA1 := lA h1 (Le.refl _)
 have mkE := fun g : AHeap => aMakeSlice1 (P := Try.prog) (t := 25) (z := .bool false) g Try.underlying25 rfl rfl rfl rfl (by kernel_rfl) Try.underlying4 (by kernel_rfl) es.length (by omega)
 have mkN := fun g : AHeap => aMakeSlice1 (P := Try.prog) (t := 25) (z := .bool false) g Try.underlying25 rfl rfl rfl rfl (by kernel_rfl) Try.underlying4 (by kernel_rfl) n (by omega)
 simp only [kS1, bLookup, bMapSet, wantA, isCall, stepOp, evalO, evalL, evalP, evalM, putDst, flat, kA, kB, Nat.reduceLT, ↓reduceIte, kC, Nat.reduceEqDiff, aBuiltin, abinG, guardFree, abin, aInt, aUn, aNilCheck, retQ, retQ1, aresults, aresultL, aresult, mkF, undefV, reduceCtorEq, kD, kE, kF, kG, kH, kI, kJ, kK, aExtract, calleeOf, b1]
 have hrepE : List.replicate es.length (Value.bool false) = (ofM es []).map Value.bool := by rw [ofM_nil]; simp
 have hrepN : List.replicate n (Value.bool false) = (onM n []).map Value.bool := by rw [onM_nil]; simp
 apply byOne2 (F := fun (fr : AFrame) (h' : AHeap) => ∃ A C, hasAll fr [(1, wv), (2, .pointer (some ⟨B, 0, none⟩)), (7, .slice (some ⟨A, 0, none⟩) es.length es.length), (8, .slice (some ⟨C, 0, none⟩) n n)] ∧ New2 h1 h' A C (List.replicate es.length (Value.bool false)) (List.replicate n (Value.bool false)))
 ·intro cont
  have X1 := lA ((h1.alloc (.cells (List.replicate es.length (.bool false))))) ((Le.refl h1).alloc wf1 _)
  have X2 := lA ((h1.alloc (.cells (List.replicate n (.bool false))))) ((Le.refl h1).alloc wf1 _)
  have X3 := lA _ (new2_a wf1 (List.replicate es.length (.bool false)) (List.replicate n (.bool false))).le
  have X4 := lA _ (new2_b wf1 (List.replicate es.length (.bool false)) (List.replicate n (.bool false))).le
  refine KDraw.intro mixed (.fl 0 (.fl 1 (.fl 2 (.fl 4 (.fl 5 (.ch 3 [2] (.fl 7 (.ch 6 [5] (.fl 8 (.done)) .no)) (.ch 6 [5] (.ch 3 [2] (.fl 7 (.fl 8 (.done))) .no) .no))))))) (by kernel_rfl) ?_
  simp only [kJ1, bLookup, bMapSet, wantA, isCall, stepOp, evalO, evalL, evalP, evalM, putDst, flat, kA, kB, Nat.reduceLT, ↓reduceIte, kC, Nat.reduceEqDiff, aBuiltin, abinG, guardFree, abin, aInt, aUn, aNilCheck, retQ, retQ1, aresults, aresultL, aresult, mkF, undefV, reduceCtorEq, kD, kE, kF, kG, kH, kI, kJ, kK, aExtract, calleeOf, kD1, Nat.reduceBEq, HoldsAll, kL, kM, kN, kO, fg0, fg1, aadd, Nat.zero_add, lA1.2.1, lA1.2.2, ll, mkE, mkN, next_alloc, X1.2.1, X1.2.2, X2.2.1, X2.2.2, X3.2.1, X3.2.2, X4.2.1, X4.2.2]
  refine ⟨?_, ?_⟩
  ·refine KN.gen2 fun fr' h' e1 e2 => cont fr' h' ?_
   subst e1 e2
   exact ⟨_, _, (by simp only [hasAll, kS1, bLookup, bMapSet, wantA, isCall, stepOp, evalO, evalL, evalP, evalM, putDst, flat, kA, kB, Nat.reduceLT, ↓reduceIte, kC, Nat.reduceEqDiff, aBuiltin, abinG, guardFree, abin, aInt, aUn, aNilCheck, retQ, retQ1, aresults, aresultL, aresult, mkF, undefV, reduceCtorEq, kD, kE, kF, kG, kH, kI, kJ, kK, aExtract, calleeOf]; simp), new2_a wf1 _ _⟩
  ·refine KN.gen2 fun fr' h' e1 e2 => cont fr' h' ?_
   subst e1 e2
   exact ⟨_, _, (by simp only [hasAll, kS1, bLookup, bMapSet, wantA, isCall, stepOp, evalO, evalL, evalP, evalM, putDst, flat, kA, kB, Nat.reduceLT, ↓reduceIte, kC, Nat.reduceEqDiff, aBuiltin, abinG, guardFree, abin, aInt, aUn, aNilCheck, retQ, retQ1, aresults, aresultL, aresult, mkF, undefV, reduceCtorEq, kD, kE, kF, kG, kH, kI, kJ, kK, aExtract, calleeOf]; simp), new2_b wf1 _ _⟩
 rintro fr h2 ⟨A, C, hfr, N⟩
 simp only [hasAll] at hfr
 obtain ⟨f1, f2, f7, f8, -⟩ := hfr
 have lw := fun g => hw.len g
 simp only [kS1, bLookup, bMapSet, wantA, isCall, stepOp, evalO, evalL, evalP, evalM, putDst, flat, kA, kB, Nat.reduceLT, ↓reduceIte, kC, Nat.reduceEqDiff, aBuiltin, abinG, guardFree, abin, aInt, aUn, aNilCheck, retQ, retQ1, aresults, aresultL, aresult, mkF, undefV, reduceCtorEq, kD, kE, kF, kG, kH, kI, kJ, kK, aExtract, calleeOf, f1, lw]
 have oA0 := N.oA
 have oC0 := N.oB
 rw [hrepE] at oA0
 rw [hrepN] at oC0
 have nA := N.nA
 have nC := N.nB
 have neAC := N.ne
 refine KLoop.intro (fun k fr hh => ∃ i : Nat, k = web.length - i ∧ i ≤ web.length ∧ fr = mkF [(1, wv), (2, .pointer (some ⟨B, 0, none⟩)), (7, .slice (some ⟨A, 0, none⟩) es.length es.length), (8, .slice (some ⟨C, 0, none⟩) n n), (20, wv), (21, .int .i64 web.length), (22, .int .i64 i)] ∧
   hh.own A = some (.cells ((ofM es (web.take i)).map Value.bool)) ∧ hh.own C = some (.cells ((onM n (web.take i)).map Value.bool)) ∧ Le h1 hh ∧ (∀ (j : Nat) p, j < i → web[j]? = some p → p ∈ es) ∧ ∀ (j : Nat) p q, j + 1 < i → web[j]? = some p → web[j + 1]? = some q → cmpP p q < 0)
  web.length [(1, wv), (2, .pointer (some ⟨B, 0, none⟩)), (7, .slice (some ⟨A, 0, none⟩) es.length es.length), (8, .slice (some ⟨C, 0, none⟩) n n), (20, wv), (21, .int .i64 web.length), (22, .int .i64 (0 : Nat))] (by simp only [hasAll, kS1, bLookup, bMapSet, wantA, isCall, stepOp, evalO, evalL, evalP, evalM, putDst, flat, kA, kB, Nat.reduceLT, ↓reduceIte, kC, Nat.reduceEqDiff, aBuiltin, abinG, guardFree, abin, aInt, aUn, aNilCheck, retQ, retQ1, aresults, aresultL, aresult, mkF, undefV, reduceCtorEq, kD, kE, kF, kG, kH, kI, kJ, kK, aExtract, calleeOf, f1, f2, f7, f8]; simp)
  ⟨0, rfl, Nat.zero_le _, rfl, oA0, oC0, N.le, by omega, by omega⟩ ?_
 rintro k fr hh hwh ⟨i, rfl, hi, rfl, oA, oC, leh, hmem, hasc2⟩
 simp only [kS1, bLookup, bMapSet, wantA, isCall, stepOp, evalO, evalL, evalP, evalM, putDst, flat, kA, kB, Nat.reduceLT, ↓reduceIte, kC, Nat.reduceEqDiff, aBuiltin, abinG, guardFree, abin, aInt, aUn, aNilCheck, retQ, retQ1, aresults, aresultL, aresult, mkF, undefV, reduceCtorEq, kD, kE, kF, kG, kH, kI, kJ, kK, aExtract, calleeOf]
 refine KCond.intro (fun ht => ?_) (fun hf => ?_)
 rotate_left
 ·have hge : web.length ≤ i := lt_f hf
  rw [List.take_of_length_le hge] at oA oC
  simp only [kS1, bLookup, bMapSet, wantA, isCall, stepOp, evalO, evalL, evalP, evalM, putDst, flat, kA, kB, Nat.reduceLT, ↓reduceIte, kC, Nat.reduceEqDiff, aBuiltin, abinG, guardFree, abin, aInt, aUn, aNilCheck, retQ, retQ1, aresults, aresultL, aresult, mkF, undefV, reduceCtorEq, kD, kE, kF, kG, kH, kI, kJ, kK, aExtract, calleeOf]
  refine ⟨⟨_, _, true, rfl, ⟨rfl, rfl⟩, ⟨fun _ => ⟨fun j p q hp' hq' => ?_, fun p hpm => ?_⟩, fun _ => rfl⟩, fun _ => ⟨RL.ofBo (RS.whole oA (by simp [ofM_length])), RL.ofBo (RS.whole oC (by simp [onM_length]))⟩⟩, le1.trans leh⟩
  ·have := (List.getElem?_eq_some_iff.1 hq').1
   exact hasc2 j p q (by omega) hp' hq'
  ·obtain ⟨j, hj⟩ := List.mem_iff_getElem?.1 hpm
   have := (List.getElem?_eq_some_iff.1 hj).1
   exact hmem j p (by omega) hj
 have hlt : i < web.length := lt_t ht
 clear ht
 have hpi := getElem?_of hlt
 have htk : web.take (i + 1) = web.take i ++ [web[i]] := List.take_succ_eq_append_getElem hlt
 generalize web[i] = p at hpi htk
 have hwh' := hw.le (le1.trans leh)
 have ad := hw.addr (k := .i64) i hlt
 have ld := hwh'.load hpi
 obtain ⟨h3', h3, e2, e3, le3, wf3, o3⟩ := new42 hwh p
 have oA3 := le3.own _ _ oA
 have oC3 := le3.own _ _ oC
 have leh3 := leh.trans le3
 have nE : h1.own hh.next = none := leh.none ((Le.refl hh).next hwh (Nat.le_refl _))
 generalize hh.next = E at *
 simp only [kS1, bLookup, bMapSet, wantA, isCall, stepOp, evalO, evalL, evalP, evalM, putDst, flat, kA, kB, Nat.reduceLT, ↓reduceIte, kC, Nat.reduceEqDiff, aBuiltin, abinG, guardFree, abin, aInt, aUn, aNilCheck, retQ, retQ1, aresults, aresultL, aresult, mkF, undefV, reduceCtorEq, kD, kE, kF, kG, kH, kI, kJ, kK, aExtract, calleeOf, ad, ld, e2, e3]
 have bad1 : (∃ (j : Nat) (a b : Pr), web[j]? = some a ∧ web[j + 1]? = some b ∧ ¬ cmpP a b < 0) → ¬ WebOK es web := fun ⟨j, a, b, x, y, z⟩ q => z (q.asc j a b x y)
 -- what follows when the order is right
 apply byOne2 (F := fun (fr : AFrame) (h4 : AHeap) => hasAll fr [(1, wv), (2, .pointer (some ⟨B, 0, none⟩)), (7, .slice (some ⟨A, 0, none⟩) es.length es.length), (8, .slice (some ⟨C, 0, none⟩) n n), (10, .pointer (some ⟨E, 0, none⟩)), (20, wv), (21, .int .i64 web.length), (22, .int .i64 i), (38, .bool false)] ∧ Le h3 h4 ∧ WF h4 ∧ ∀ q, 0 < i → web[i - 1]? = some q → cmpP q p < 0)
 ·intro cont
  by_cases i0 : i = 0
  ·have z : ((0 : Int) < (i : Int)) = False := eq_false (by omega)
   refine KDraw.intro mixed (.fl 0 (.fl 1 (.fl 2 (.fl 3 (.fl 4 (.fl 5 (.fl 6 (.fl 7 (.fl 8 (.ch 9 [2, 7, 8] (.fl 10 (.fl 11 (.done))) .no)))))))))) (by kernel_rfl) ?_
   simp only [kJ1, bLookup, bMapSet, wantA, isCall, stepOp, evalO, evalL, evalP, evalM, putDst, flat, kA, kB, Nat.reduceLT, ↓reduceIte, kC, Nat.reduceEqDiff, aBuiltin, abinG, guardFree, abin, aInt, aUn, aNilCheck, retQ, retQ1, aresults, aresultL, aresult, mkF, undefV, reduceCtorEq, kD, kE, kF, kG, kH, kI, kJ, kK, aExtract, calleeOf, kD1, Nat.reduceBEq, HoldsAll, kL, kM, kN, kO, gt_iff_lt, z]
   exact KN.gen2 fun fr' h' x y => cont fr' h' (by subst x y; exact ⟨(by simp only [hasAll, kS1, bLookup, bMapSet, wantA, isCall, stepOp, evalO, evalL, evalP, evalM, putDst, flat, kA, kB, Nat.reduceLT, ↓reduceIte, kC, Nat.reduceEqDiff, aBuiltin, abinG, guardFree, abin, aInt, aUn, aNilCheck, retQ, retQ1, aresults, aresultL, aresult, mkF, undefV, reduceCtorEq, kD, kE, kF, kG, kH, kI, kJ, kK, aExtract, calleeOf]; simp), Le.refl _, wf3, fun q h => by omega⟩)
  ·have z : ((0 : Int) < (i : Int)) = True := eq_true (by omega)
   have hqi := getElem?_of (show i - 1 < web.length by omega)
   generalize web[i - 1]'(by omega) = q at hqi
   have wsub : awrap .i64 ((i : Int) - 1) = ((i - 1 : Nat) : Int) := by rw [awrap_in _ (by omega) (by omega)]; omega
   have adq := hw.addr (k := .i64) (i - 1) (by omega)
   have ldq := (hwh'.le le3).load hqi
   have LP := own42 o3
   refine KDraw.intro mixed (.fl 0 (.fl 1 (.fl 2 (.fl 3 (.fl 4 (.fl 5 (.fl 6 (.fl 7 (.fl 8 (.ch 9 [2, 7, 8] (.fl 10 (.fl 11 (.done))) .no)))))))))) (by kernel_rfl) ?_
   simp only [kS1, bLookup, bMapSet, wantA, isCall, stepOp, evalO, evalL, evalP, evalM, putDst, flat, kA, kB, Nat.reduceLT, ↓reduceIte, kC, Nat.reduceEqDiff, aBuiltin, abinG, guardFree, abin, aInt, aUn, aNilCheck, retQ, retQ1, aresults, aresultL, aresult, mkF, undefV, reduceCtorEq, kD, kE, kF, kG, kH, kI, kJ, kK, aExtract, calleeOf, kD1, Nat.reduceBEq, HoldsAll, kL, kM, kN, kO, gt_iff_lt, z, wsub, adq, ldq, LP]
   refine KGCall.intro (by simp only [kS1, bLookup, bMapSet, wantA, isCall, stepOp, evalO, evalL, evalP, evalM, putDst, flat, kA, kB, Nat.reduceLT, ↓reduceIte, kC, Nat.reduceEqDiff, aBuiltin, abinG, guardFree, abin, aInt, aUn, aNilCheck, retQ, retQ1, aresults, aresultL, aresult, mkF, undefV, reduceCtorEq, kD, kE, kF, kG, kH, kI, kJ, kK, aExtract, calleeOf] <;> rfl) ⟨Try.func96, rfl, by decide⟩ (bcompare_any W0 q p h3) ?_
   rintro x h4 wf4 ⟨rfl, le4⟩
   have LP4 := own42 (le4.own _ _ o3)
   have ldq4 := ((hwh'.le le3).le le4).load hqi
   by_cases d3 : cmpP q p ≥ 0
   ·simp only [kS1, bLookup, bMapSet, wantA, isCall, stepOp, evalO, evalL, evalP, evalM, putDst, flat, kA, kB, Nat.reduceLT, ↓reduceIte, kC, Nat.reduceEqDiff, aBuiltin, abinG, guardFree, abin, aInt, aUn, aNilCheck, retQ, retQ1, aresults, aresultL, aresult, mkF, undefV, reduceCtorEq, kD, kE, kF, kG, kH, kI, kJ, kK, aExtract, calleeOf, kD1, Nat.reduceBEq, HoldsAll, kL, kM, kN, kO, z, wsub, adq, ldq4, LP4, d3]
    refine ⟨⟨_, _, false, rfl, ⟨rfl, rfl⟩, ⟨fun e => (by cases e), fun e => absurd e (bad1 ⟨i - 1, q, p, hqi, by rw [show i - 1 + 1 = i by omega]; exact hpi, by omega⟩)⟩, fun e => by cases e⟩, ((le1.trans leh3).trans le4)⟩
   ·simp only [kJ1, bLookup, bMapSet, wantA, isCall, stepOp, evalO, evalL, evalP, evalM, putDst, flat, kA, kB, Nat.reduceLT, ↓reduceIte, kC, Nat.reduceEqDiff, aBuiltin, abinG, guardFree, abin, aInt, aUn, aNilCheck, retQ, retQ1, aresults, aresultL, aresult, mkF, undefV, reduceCtorEq, kD, kE, kF, kG, kH, kI, kJ, kK, aExtract, calleeOf, kD1, Nat.reduceBEq, HoldsAll, kL, kM, kN, kO, z, wsub, adq, ldq4, LP4, d3]
    exact KN.gen2 fun fr' h' x y => cont fr' h' (by subst x y; exact ⟨(by simp only [hasAll, kS1, bLookup, bMapSet, wantA, isCall, stepOp, evalO, evalL, evalP, evalM, putDst, flat, kA, kB, Nat.reduceLT, ↓reduceIte, kC, Nat.reduceEqDiff, aBuiltin, abinG, guardFree, abin, aInt, aUn, aNilCheck, retQ, retQ1, aresults, aresultL, aresult, mkF, undefV, reduceCtorEq, kD, kE, kF, kG, kH, kI, kJ, kK, aExtract, calleeOf]; simp), le4, wf4, fun q' _ hq' => by rw [hqi] at hq'; injection hq' with hq'; subst hq'; omega⟩)
 rintro fr h4 ⟨hfr, le4, wf4, hprev⟩
 simp only [hasAll] at hfr
 obtain ⟨g1, g2, g7, g8, g10, g20, g21, g22, g38, -⟩ := hfr
 have leh4 := leh3.trans le4
 have lA4 := lA h4 leh4
 have LP4 := own42 (le4.own _ _ o3)
 simp only [kS1, bLookup, bMapSet, wantA, isCall, stepOp, evalO, evalL, evalP, evalM, putDst, flat, kA, kB, Nat.reduceLT, ↓reduceIte, kC, Nat.reduceEqDiff, aBuiltin, abinG, guardFree, abin, aInt, aUn, aNilCheck, retQ, retQ1, aresults, aresultL, aresult, mkF, undefV, reduceCtorEq, kD, kE, kF, kG, kH, kI, kJ, kK, aExtract, calleeOf, g38, g2, g10, fg1, aadd, Nat.zero_add, lA4.2.2, LP4]
 refine KCall.intro (by simp only [kS1, bLookup, bMapSet, wantA, isCall, stepOp, evalO, evalL, evalP, evalM, putDst, flat, kA, kB, Nat.reduceLT, ↓reduceIte, kC, Nat.reduceEqDiff, aBuiltin, abinG, guardFree, abin, aInt, aUn, aNilCheck, retQ, retQ1, aresults, aresultL, aresult, mkF, undefV, reduceCtorEq, kD, kE, kF, kG, kH, kI, kJ, kK, aExtract, calleeOf] <;> rfl) ⟨Try.func84, rfl, by decide⟩ (Search_any W0 96 Try.f96 _ ⟨Try.func96, rfl, by decide⟩ (fun p q h => bcompare_any W0 p q h) ev es p h4 (hp.le (le1.trans leh4)) (by omega) hasc) ?_
 rintro x h5 wf5 ⟨⟨at', b, rfl, hbt, hbf⟩, le5⟩
 have leh5 := leh4.trans le5
 cases b with
 | false =>
  simp only [kS1, bLookup, bMapSet, wantA, isCall, stepOp, evalO, evalL, evalP, evalM, putDst, flat, kA, kB, Nat.reduceLT, ↓reduceIte, kC, Nat.reduceEqDiff, aBuiltin, abinG, guardFree, abin, aInt, aUn, aNilCheck, retQ, retQ1, aresults, aresultL, aresult, mkF, undefV, reduceCtorEq, kD, kE, kF, kG, kH, kI, kJ, kK, aExtract, calleeOf]
  exact ⟨⟨_, _, false, rfl, ⟨rfl, rfl⟩, ⟨fun e => (by cases e), fun q => absurd (q.mem p (List.mem_of_getElem? hpi)) (hbf rfl)⟩, fun e => by cases e⟩, le1.trans leh5⟩
 | true =>
 have hat := hbt rfl
 have hpm := List.mem_of_getElem? hat
 obtain ⟨p1, p2, p3⟩ := hrng p hpm
 obtain ⟨a, c⟩ := p
 simp only at p1 p2 p3
 obtain ⟨a, rfl⟩ := Int.eq_ofNat_of_zero_le p1
 obtain ⟨c, rfl⟩ := Int.eq_ofNat_of_zero_le (show 0 ≤ c by omega)
 have hatl := (List.getElem?_eq_some_iff.1 hat).1
 have oA5 := le5.own _ _ (le4.own _ _ oA3)
 have oC5 := le5.own _ _ (le4.own _ _ oC3)
 have oE5 := le5.own _ _ (le4.own _ _ o3)
 have hEA : A ≠ E := fun e => by subst e; rw [oA3] at o3; injection o3 with o3; injection o3 with o3; cases hx : (ofM es (web.take i)) with | nil => rw [hx] at o3; cases o3 | cons y ys => rw [hx] at o3; injection o3 with o3 _; cases o3
 have hEC : C ≠ E := fun e => by subst e; rw [oC3] at o3; injection o3 with o3; injection o3 with o3; cases hx : (onM n (web.take i)) with | nil => rw [hx] at o3; cases o3 | cons y ys => rw [hx] at o3; injection o3 with o3 _; cases o3
 have ixA : ∀ k : IntKind, aIndexAddr Try.prog 25 (.slice (some ⟨A, 0, none⟩) es.length es.length) (.int k at') = some (.pointer (some ⟨A, at', none⟩)) := fun k => by rw [aIdx Try.underlying25 Try.underlying4 (by kernel_rfl) at' hatl]; simp [aadd]
 have ixC : ∀ (k : IntKind) (j : Nat), j < n → aIndexAddr Try.prog 25 (.slice (some ⟨C, 0, none⟩) n n) (.int k j) = some (.pointer (some ⟨C, j, none⟩)) := fun k j hj => by rw [aIdx Try.underlying25 Try.underlying4 (by kernel_rfl) j hj]; simp [aadd]
 have st1 := aStore1 (P := Try.prog) (t := 4) (x := .bool true) Try.underlying4 (by kernel_rfl) oA5 (off := at') (by simp [ofM_length, hatl]) rfl rfl
 have oC6 : (h5.put A (.cells (((ofM es (web.take i)).map Value.bool).set at' (.bool true)))).own C = some (.cells ((onM n (web.take i)).map Value.bool)) := by rw [AHeap.own_put_ne _ _ _ _ (Ne.symm neAC)]; exact oC5
 have oE6 : (h5.put A (.cells (((ofM es (web.take i)).map Value.bool).set at' (.bool true)))).own E = some (.cells (cellsP ((a : Int), (c : Int)))) := by rw [AHeap.own_put_ne _ _ _ _ (Ne.symm hEA)]; exact oE5
 have oA6 : (h5.put A (.cells (((ofM es (web.take i)).map Value.bool).set at' (.bool true)))).own A = some (.cells ((ofM es (web.take (i + 1))).map Value.bool)) := by rw [AHeap.own_put_eq, htk, ofM_push hasc hat, List.map_set]
 have le6 := leh5.put (.cells (((ofM es (web.take i)).map Value.bool).set at' (.bool true))) nA
 generalize h5.put A (.cells (((ofM es (web.take i)).map Value.bool).set at' (.bool true))) = h6 at *
 have st2 := aStore1 (P := Try.prog) (t := 4) (x := .bool true) Try.underlying4 (by kernel_rfl) oC6 (off := a) (by simp [onM_length]; omega) rfl rfl
 have oC7 : (h6.put C (.cells (((onM n (web.take i)).map Value.bool).set a (.bool true)))).own C = some (.cells (((onM n (web.take i)).map Value.bool).set a (.bool true))) := AHeap.own_put_eq _ _ _
 have oE7 : (h6.put C (.cells (((onM n (web.take i)).map Value.bool).set a (.bool true)))).own E = some (.cells (cellsP ((a : Int), (c : Int)))) := by rw [AHeap.own_put_ne _ _ _ _ (Ne.symm hEC)]; exact oE6
 have oA7 : (h6.put C (.cells (((onM n (web.take i)).map Value.bool).set a (.bool true)))).own A = some (.cells ((ofM es (web.take (i + 1))).map Value.bool)) := by rw [AHeap.own_put_ne _ _ _ _ neAC]; exact oA6
 have le7 := le6.put (.cells (((onM n (web.take i)).map Value.bool).set a (.bool true))) nC
 generalize h6.put C (.cells (((onM n (web.take i)).map Value.bool).set a (.bool true))) = h7 at *
 have st3 := aStore1 (P := Try.prog) (t := 4) (x := .bool true) Try.underlying4 (by kernel_rfl) oC7 (off := c) (by simp [onM_length]; omega) rfl rfl
 have M5a := own0 oE5
 have M5b := own1 oE5
 have M6a := own0 oE6
 have M6b := own1 oE6
 have M7a := own0 oE7
 have M7b := own1 oE7
 simp only at M5a M5b M6a M6b M7a M7b
 simp only [kS1, bLookup, bMapSet, wantA, isCall, stepOp, evalO, evalL, evalP, evalM, putDst, flat, kA, kB, Nat.reduceLT, ↓reduceIte, kC, Nat.reduceEqDiff, aBuiltin, abinG, guardFree, abin, aInt, aUn, aNilCheck, retQ, retQ1, aresults, aresultL, aresult, mkF, undefV, reduceCtorEq, kD, kE, kF, kG, kH, kI, kJ, kK, aExtract, calleeOf]
 refine KDraw.intro mixed (.fl 0 (.fl 1 (.fl 2 (.fl 3 (.fl 4 (.fl 5 (.fl 6 (.fl 7 (.fl 8 (.ch 9 [0, 1, 8] (.fl 10 (.ch 11 [0, 1, 2, 3, 4, 8, 9, 10] (.fl 12 (.ch 13 [0, 1, 2, 3, 4, 5, 6, 7, 8, 9, 10, 11, 12] (.done) .no)) .no)) .no)))))))))) (by kernel_rfl) ?_
 simp only [kS1, bLookup, bMapSet, wantA, isCall, stepOp, evalO, evalL, evalP, evalM, putDst, flat, kA, kB, Nat.reduceLT, ↓reduceIte, kC, Nat.reduceEqDiff, aBuiltin, abinG, guardFree, abin, aInt, aUn, aNilCheck, retQ, retQ1, aresults, aresultL, aresult, mkF, undefV, reduceCtorEq, kD, kE, kF, kG, kH, kI, kJ, kK, aExtract, calleeOf, kD1, Nat.reduceBEq, HoldsAll, kL, kM, kN, kO, g1, g2, g7, g8, g10, g20, g21, g22, pa0, pa1, aadd, Nat.zero_add, M5a, M5b, M6a, M6b, M7a, M7b, ixA, ixC _ a (by omega), ixC _ c (by omega), st1, st2, st3, awrap_succ i (by omega)]
 refine loop_again (web.length - (i + 1)) [(1, wv), (2, .pointer (some ⟨B, 0, none⟩)), (7, .slice (some ⟨A, 0, none⟩) es.length es.length), (8, .slice (some ⟨C, 0, none⟩) n n), (20, wv), (21, .int .i64 web.length), (22, .int .i64 (i + 1 : Nat))] (by omega) (by simp only [hasAll, kS1, bLookup, bMapSet, wantA, isCall, stepOp, evalO, evalL, evalP, evalM, putDst, flat, kA, kB, Nat.reduceLT, ↓reduceIte, kC, Nat.reduceEqDiff, aBuiltin, abinG, guardFree, abin, aInt, aUn, aNilCheck, retQ, retQ1, aresults, aresultL, aresult, mkF, undefV, reduceCtorEq, kD, kE, kF, kG, kH, kI, kJ, kK, aExtract, calleeOf, g1, g2, g7, g8, g20, g21]; simp)
  ⟨i + 1, rfl, hlt, rfl, by rw [AHeap.own_put_ne _ _ _ _ neAC]; exact oA7, by rw [AHeap.own_put_eq, htk, onM_push]; simp [List.map_set], le7.put _ nC, fun j q hj hq => ?_, fun j q q' hj hq hq' => ?_⟩
 ·by_cases e : j = i
  ·subst e; rw [hpi] at hq; injection hq with hq; subst hq; exact hpm
  ·exact hmem j q (by omega) hq
 ·by_cases e : j + 1 = i
  ·have : web[i - 1]? = some q := by rw [← e]; simpa using hq
   rw [e, hpi] at hq'; injection hq' with hq'; subst hq'
   exact hprev q (by omega) this
  ·exact hasc2 j q q' (by omega) hq hq'
end Go.Fw
