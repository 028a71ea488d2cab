/- A text of the proof. -/
import Derived.Test.YtnaahaldkpdjlaaFwLW6
import Derived.Test.YtnaahaldkpdjlaaFwLW1
import Derived.Test.YtnaahaldkpdjlaaFwLC12
import Derived.Test.YtnaahaldkpdjlaaFwLT16
set_option linter.unusedSimpArgs false
set_option linter.unusedVariables false
namespace Go.Fw
open Go.Proofs
attribute [local irreducible] KO4 KO3 KO2 KO1 KO KN KX KE VK KCond KDraw KCall KLoop
set_option maxHeartbeats 8000000
set_option maxRecDepth 10000
theorem Chosen_any (W0 : Base) (v bv : Value) (G : GM) (bs : List Bool) (h : AHeap) (hg : GR h v G) (hb : RL isBo h bv bs) (hn : G.es.length ≤ 1000) :
  AC Try.prog W0 18 [v, bv] h fun x h' => GP h' x (selM G.es bs G.es.length) ∧ Le h h' ∧ Apart h x := by
 have hg0 := hg
 obtain ⟨gn, es⟩ := G
 obtain ⟨ev, rfl, hp⟩ := hg.open
 simp only at hn ⊢
 refine AC.vc (fn := Try.f18) (c := _) ⟨Try.func18, rfl, by decide⟩ Try.ntmps18 Try.results18 (by simp) fun hwf => ?_
 simp only [argFrame, argFrom, Nat.reduceAdd]
 obtain ⟨h1, b1, le1, wf1, -, lA⟩ := boxG (n := gn) hwf hp
 generalize h.next = B at *
 have lA1 := lA h1 (Le.refl _)
 have ll := fun g => hp.len g
 have lb := fun g => hb.len (P := Try.prog) Try.underlying25 g
 simp only [kS1, bLookup, bMapSet, wantA, isCall, stepOp, evalO, evalL, evalP, evalM, putDst, flat, kA, kB, Nat.reduceLT, ↓reduceIte, kC, Nat.reduceEqDiff, aBuiltin, abinG, guardFree, abin, aInt, aUn, aNilCheck, retQ, retQ1, aresults, aresultL, aresult, mkF, undefV, reduceCtorEq, kD, kE, kF, kG, kH, kI, kJ, kK, aExtract, calleeOf, b1, fg1, aadd, Nat.zero_add, lA1.2.2, ll]
 refine KLoop.intro (fun k fr hq => ∃ (i : Nat) (ov : Value), k = es.length - i ∧ i ≤ es.length ∧ fr = mkF [(1, bv), (5, ov), (9, ev), (10, .int .i64 es.length), (11, .int .i64 i)] ∧ GP hq ov (selM es bs i) ∧ Le h1 hq ∧ Apart h1 ov)
  es.length [(1, bv), (5, .slice none 0 0), (9, ev), (10, .int .i64 es.length), (11, .int .i64 (0 : Nat))] (by simp only [hasAll, kS1, bLookup, bMapSet, wantA, isCall, stepOp, evalO, evalL, evalP, evalM, putDst, flat, kA, kB, Nat.reduceLT, ↓reduceIte, kC, Nat.reduceEqDiff, aBuiltin, abinG, guardFree, abin, aInt, aUn, aNilCheck, retQ, retQ1, aresults, aresultL, aresult, mkF, undefV, reduceCtorEq, kD, kE, kF, kG, kH, kI, kJ, kK, aExtract, calleeOf]; simp) ⟨0, _, rfl, Nat.zero_le _, rfl, GP.nil h1, Le.refl _, fun b hb => by simp [blk] at hb⟩ ?_
 rintro k fr hq hwq ⟨i, ov, rfl, hi, rfl, gp, leq, ap⟩
 simp only [kS1, bLookup, bMapSet, wantA, isCall, stepOp, evalO, evalL, evalP, evalM, putDst, flat, kA, kB, Nat.reduceLT, ↓reduceIte, kC, Nat.reduceEqDiff, aBuiltin, abinG, guardFree, abin, aInt, aUn, aNilCheck, retQ, retQ1, aresults, aresultL, aresult, mkF, undefV, reduceCtorEq, kD, kE, kF, kG, kH, kI, kJ, kK, aExtract, calleeOf]
 refine KCond.intro (fun ht => ?_) (fun hf => ?_)
 rotate_left
 ·have hge : es.length ≤ i := lt_f hf
  obtain rfl : i = es.length := by omega
  simp only [kS1, bLookup, bMapSet, wantA, isCall, stepOp, evalO, evalL, evalP, evalM, putDst, flat, kA, kB, Nat.reduceLT, ↓reduceIte, kC, Nat.reduceEqDiff, aBuiltin, abinG, guardFree, abin, aInt, aUn, aNilCheck, retQ, retQ1, aresults, aresultL, aresult, mkF, undefV, reduceCtorEq, kD, kE, kF, kG, kH, kI, kJ, kK, aExtract, calleeOf]
  exact ⟨gp, le1.trans leq, fun b hb => le1.none (ap b hb)⟩
 have hlt : i < es.length := lt_t ht
 clear ht
 have hpi := getElem?_of hlt
 generalize es[i] = p at hpi
 have ad := hp.addr (k := .i64) i hlt
 have ld := (hp.le (le1.trans leq)).load hpi
 obtain ⟨h2, h3, a2, s2, l3, w3, o3⟩ := new42 hwq p
 have gp3 := gp.le l3
 have l13 := leq.trans l3
 have ld3 := own42 o3
 have hsl := selM_length es bs i
 by_cases c1 : (i : Int) < bs.length
 ·have hib : i < bs.length := by omega
  have adb := hb.addrBo (k := .i64) i hib
  have ldb := (hb.le Stays.isBo (le1.trans l13)).loadBo i hib
  have hbi : bs.getD i false = bs[i] := getD_of hib
  generalize bs[i] = bb at ldb hbi
  cases bb with
  | true =>
   obtain ⟨ov', h4, h5, e4, e5, g5, w5, l4, hf5, hk5⟩ := gp3.push w3 p (by omega)
   obtain ⟨l5, a5⟩ := hf5 h1 l13 ap
   simp only [kS1, bLookup, bMapSet, wantA, isCall, stepOp, evalO, evalL, evalP, evalM, putDst, flat, kA, kB, Nat.reduceLT, ↓reduceIte, kC, Nat.reduceEqDiff, aBuiltin, abinG, guardFree, abin, aInt, aUn, aNilCheck, retQ, retQ1, aresults, aresultL, aresult, mkF, undefV, reduceCtorEq, kD, kE, kF, kG, kH, kI, kJ, kK, aExtract, calleeOf, ad, ld, a2, s2, lb, c1, adb, ldb, ld3, e4, e5, awrap_succ i (by omega)]
   refine loop_again (es.length - (i + 1)) [(1, bv), (5, ov'), (9, ev), (10, .int .i64 es.length), (11, .int .i64 (i + 1 : Nat))] (by omega) (by simp only [hasAll, kS1, bLookup, bMapSet, wantA, isCall, stepOp, evalO, evalL, evalP, evalM, putDst, flat, kA, kB, Nat.reduceLT, ↓reduceIte, kC, Nat.reduceEqDiff, aBuiltin, abinG, guardFree, abin, aInt, aUn, aNilCheck, retQ, retQ1, aresults, aresultL, aresult, mkF, undefV, reduceCtorEq, kD, kE, kF, kG, kH, kI, kJ, kK, aExtract, calleeOf]; simp) ⟨i + 1, ov', rfl, hlt, rfl, ?_, l5, a5⟩
   simp only [selM, hpi, hbi, if_true]; exact g5
  | false =>
   simp only [kS1, bLookup, bMapSet, wantA, isCall, stepOp, evalO, evalL, evalP, evalM, putDst, flat, kA, kB, Nat.reduceLT, ↓reduceIte, kC, Nat.reduceEqDiff, aBuiltin, abinG, guardFree, abin, aInt, aUn, aNilCheck, retQ, retQ1, aresults, aresultL, aresult, mkF, undefV, reduceCtorEq, kD, kE, kF, kG, kH, kI, kJ, kK, aExtract, calleeOf, ad, ld, a2, s2, lb, c1, adb, ldb, awrap_succ i (by omega)]
   refine loop_again (es.length - (i + 1)) [(1, bv), (5, ov), (9, ev), (10, .int .i64 es.length), (11, .int .i64 (i + 1 : Nat))] (by omega) (by simp only [hasAll, kS1, bLookup, bMapSet, wantA, isCall, stepOp, evalO, evalL, evalP, evalM, putDst, flat, kA, kB, Nat.reduceLT, ↓reduceIte, kC, Nat.reduceEqDiff, aBuiltin, abinG, guardFree, abin, aInt, aUn, aNilCheck, retQ, retQ1, aresults, aresultL, aresult, mkF, undefV, reduceCtorEq, kD, kE, kF, kG, kH, kI, kJ, kK, aExtract, calleeOf]; simp) ⟨i + 1, ov, rfl, hlt, rfl, ?_, l13, ap⟩
   simp only [selM, hpi, hbi]; exact gp3
 ·have hbi : bs.getD i false = false := by rw [List.getD_eq_getElem?_getD, List.getElem?_eq_none (by omega)]; rfl
  simp only [kS1, bLookup, bMapSet, wantA, isCall, stepOp, evalO, evalL, evalP, evalM, putDst, flat, kA, kB, Nat.reduceLT, ↓reduceIte, kC, Nat.reduceEqDiff, aBuiltin, abinG, guardFree, abin, aInt, aUn, aNilCheck, retQ, retQ1, aresults, aresultL, aresult, mkF, undefV, reduceCtorEq, kD, kE, kF, kG, kH, kI, kJ, kK, aExtract, calleeOf, ad, ld, a2, s2, lb, c1, awrap_succ i (by omega)]
  refine loop_again (es.length - (i + 1)) [(1, bv), (5, ov), (9, ev), (10, .int .i64 es.length), (11, .int .i64 (i + 1 : Nat))] (by omega) (by simp only [hasAll, kS1, bLookup, bMapSet, wantA, isCall, stepOp, evalO, evalL, evalP, evalM, putDst, flat, kA, kB, Nat.reduceLT, ↓reduceIte, kC, Nat.reduceEqDiff, aBuiltin, abinG, guardFree, abin, aInt, aUn, aNilCheck, retQ, retQ1, aresults, aresultL, aresult, mkF, undefV, reduceCtorEq, kD, kE, kF, kG, kH, kI, kJ, kK, aExtract, calleeOf]; simp) ⟨i + 1, ov, rfl, hlt, rfl, ?_, l13, ap⟩
  simp only [selM, hpi, hbi]; exact gp3
end Go.Fw
namespace Go.Fw
set_option maxRecDepth 10000
theorem mem_ftL {on : Nat → Bool} {l : List Pr} {x : Int} : x ∈ ftL on l ↔ ∃ p ∈ l, (x = p.1 ∨ x = p.2) ∧ on x.toNat = true := by
 simp only [ftL, List.mem_flatMap, ftP, List.mem_filter, List.mem_cons, List.not_mem_nil, or_false]
theorem frag_feet {n : Nat} {es web : List Pr} {L : List Int} (hR : InR n es) {k : Int} {f : FM} (hf : FragIs n es web L k f) : f.feet.Pairwise (· < ·) ∧ ∀ x, x ∈ f.feet ↔ x ∈ ftL (onF n web) f.edges := by
 constructor
 ·rw [hf.feet, nat64, List.pairwise_map, rfeet]
  exact ((range_asc n).filter _).imp fun h => by omega
 ·intro x
  rw [hf.feet, mem_rfeet, mem_ftL]
  constructor
  ·rintro ⟨v, hv, rfl, h1, h2⟩
   obtain ⟨p, hp, hpv⟩ := onE_ex.1 h2
   rw [endB_iff] at hpv
   refine ⟨p, hp, by omega, ?_⟩
   rw [Int.toNat_natCast, onF, onM_getD hv]; exact h1
  ·rintro ⟨p, hp, hx, ho⟩
   have hr := hR p (hf.sub.subset hp)
   have hx0 : ((x.toNat : Nat) : Int) = x := by omega
   have hxn : x.toNat < n := by omega
   rw [onF, onM_getD hxn, hx0] at ho
   refine ⟨x.toNat, hxn, hx0.symm, by rw [hx0]; exact ho, onE_ex.2 ⟨p, hp, by rw [endB_iff]; omega⟩⟩
end Go.Fw
namespace Go.Fw
open Go.Proofs
set_option maxHeartbeats 4000000
set_option maxRecDepth 10000
attribute [local irreducible] lowM bridgesM cutsM blocksM keyE
def SameK (n : Nat) (es web : List Pr) (p q : Pr) : Prop := p = q ∨ ∃ u w : Nat, u < n ∧ w < n ∧ endB p u = true ∧ endB q w = true ∧ Cn (onF n web) es u w
theorem sameK_iff {n : Nat} {es web : List Pr} {L : List Int} (hR : InR n es) (ha : Asc es) (hT : TogM n (onF n web) es L) {i j : Nat} {p q : Pr} (hi : es[i]? = some p) (hj : es[j]? = some q) :
  fragM n (onF n web) L p i = fragM n (onF n web) L q j ↔ SameK n es web p q := by
 have hp := List.mem_of_getElem? hi
 have hq := List.mem_of_getElem? hj
 constructor
 ·intro e
  rcases key_cases (web := web) (L := L) hR hp i with ⟨u, hu, eu, ou⟩ | e1 <;> rcases key_cases (web := web) (L := L) hR hq j with ⟨w, hw, ew, ow⟩ | e2
  ·rw [key_off hR hT hp i hu eu ou, key_off hR hT hq j hw ew ow] at e
   exact .inr ⟨u, w, hu, hw, eu, ew, (lab_iff hT hu hw ou ow).1 e⟩
  ·obtain ⟨k, hk, ek, _⟩ := label_rng hT hu ou
   rw [key_off hR hT hp i hu eu ou, e2, ek] at e; omega
  ·obtain ⟨k, hk, ek, _⟩ := label_rng hT hw ow
   rw [key_off hR hT hq j hw ew ow, e1, ek] at e; omega
  ·rw [e1, e2] at e
   obtain rfl : i = j := by omega
   rw [hi] at hj; injection hj with hj; exact .inl hj
 ·rintro (rfl | ⟨u, w, hu, hw, eu, ew, c⟩)
  ·rw [ha.uniq hi hj]
  ·rw [key_off hR hT hp i hu eu c.off1, key_off hR hT hq j hw ew c.off2]
   exact (lab_iff hT hu hw c.off1 c.off2).2 c
theorem endB_map {π : Nat → Nat} {a b u : Nat} (h : endB (pairOf a b) u = true) : endB (pairOf (π a) (π b)) (π u : Nat) = true := by
 rw [endB_iff, pairOf_of] at h ⊢
 simp only at h ⊢
 have : u = a ∨ u = b := by omega
 rcases this with rfl | rfl <;> omega
structure IsoW (n : Nat) (es fs web web' : List Pr) (π : Nat → Nat) : Prop extends IsoG n es fs π where
 s1 : ∀ p ∈ web, p ∈ es
 s2 : ∀ p ∈ web', p ∈ fs
 wb : ∀ p ∈ es, mapE π p ∈ web' ↔ p ∈ web
namespace IsoW
variable {n : Nat} {es fs web web' : List Pr} {π : Nat → Nat}
theorem inv (I : IsoW n es fs web web' π) : ∃ σ, IsoW n fs es web' web σ ∧ (∀ a, a < n → σ (π a) = a) ∧ ∀ x, x < n → π (σ x) = x := by
 obtain ⟨σ, J, h1, h2⟩ := I.toIsoG.inv
 refine ⟨σ, ⟨J, I.s2, I.s1, fun q hq => ?_⟩, h1, h2⟩
 obtain ⟨p, hp, rfl⟩ := I.toIsoG.sur_E hq
 rw [I.toIsoG.back h1 hp, I.wb p hp]
theorem on1 (I : IsoW n es fs web web' π) {u : Nat} (hu : u < n) (h : onF n web u = true) : onF n web' (π u) = true := by
 rw [onF, onM_getD hu, onE_ex] at h
 rw [onF, onM_getD (I.lt u hu), onE_ex]
 obtain ⟨p, hp, he⟩ := h
 have hpe := I.s1 p hp
 refine ⟨mapE π p, (I.wb p hpe).2 hp, ?_⟩
 obtain ⟨a, b, ha, hb, _, rfl⟩ := pair_ex I.r1 hpe
 rw [mapE_pair]; exact endB_map he
theorem on (I : IsoW n es fs web web' π) {u : Nat} (hu : u < n) : onF n web' (π u) = onF n web u := by
 obtain ⟨σ, J, h1, _⟩ := I.inv
 rw [Bool.eq_iff_iff]
 refine ⟨fun h => ?_, I.on1 hu⟩
 have := J.on1 (I.lt u hu) h
 rwa [h1 u hu] at this
theorem same1 (I : IsoW n es fs web web' π) {p q : Pr} (hp : p ∈ es) (hq : q ∈ es) (h : SameK n es web p q) : SameK n fs web' (mapE π p) (mapE π q) := by
 rcases h with rfl | ⟨u, w, hu, hw, eu, ew, c⟩
 ·exact .inl rfl
 ·obtain ⟨a, b, _, _, _, rfl⟩ := pair_ex I.r1 hp
  obtain ⟨a', b', _, _, _, rfl⟩ := pair_ex I.r1 hq
  rw [mapE_pair, mapE_pair]
  exact .inr ⟨π u, π w, I.lt u hu, I.lt w hw, endB_map eu, endB_map ew, I.toIsoG.cn (fun x hx => I.on hx) hu c⟩
theorem same (I : IsoW n es fs web web' π) {p q : Pr} (hp : p ∈ es) (hq : q ∈ es) : SameK n fs web' (mapE π p) (mapE π q) ↔ SameK n es web p q := by
 refine ⟨fun h => ?_, I.same1 hp hq⟩
 obtain ⟨σ, J, h1, _⟩ := I.inv
 have := J.same1 (I.toIsoG.mem hp) (I.toIsoG.mem hq) h
 rwa [I.toIsoG.back h1 hp, I.toIsoG.back h1 hq] at this
end IsoW
section
variable {n : Nat} {es fs web web' : List Pr} {π : Nat → Nat} {L L' : List Int}
theorem frag_img (I : IsoW n es fs web web' π) (hr : RightG ⟨(n : Int), es⟩) (hr' : RightG ⟨(n : Int), fs⟩) (hT : TogM n (onF n web) es L) (hT' : TogM n (onF n web') fs L') {k k' : Int} {f f' : FM} (hF : FragIs n es web L k f) (hF' : FragIs n fs web' L' k' f')
  {p : Pr} (hp : p ∈ f.edges) (hp' : mapE π p ∈ f'.edges) {q : Pr} (hq : q ∈ es) : mapE π q ∈ f'.edges ↔ q ∈ f.edges := by
 obtain ⟨i, hi, hw, hk⟩ := (hF.mem p).1 hp
 obtain ⟨i', hi', hw', hk'⟩ := (hF'.mem _).1 hp'
 have hpe := List.mem_of_getElem? hi
 obtain ⟨j, hj⟩ := List.mem_iff_getElem?.1 hq
 obtain ⟨j', hj'⟩ := List.mem_iff_getElem?.1 (I.toIsoG.mem hq)
 have e1 := sameK_iff hr.inR hr.asc hT hj hi
 have e2 := sameK_iff hr'.inR hr'.asc hT' hj' hi'
 rw [hk] at e1
 rw [hk'] at e2
 rw [hF.mem, hF'.mem]
 constructor
 ·rintro ⟨m, hm, h1, h2⟩
  rw [hr'.asc.uniq hm hj'] at h2
  exact ⟨j, hj, fun h => h1 ((I.wb q hq).2 h), e1.2 ((I.same hq hpe).1 (e2.1 h2))⟩
 ·rintro ⟨m, hm, h1, h2⟩
  rw [hr.asc.uniq hm hj] at h2
  exact ⟨j', hj', fun h => h1 ((I.wb q hq).1 h), e2.2 ((I.same hq hpe).2 (e1.1 h2))⟩
theorem frag_feet_img (I : IsoW n es fs web web' π) {k k' : Int} {f f' : FM} (hF : FragIs n es web L k f) (hF' : FragIs n fs web' L' k' f') (hs : ∀ q ∈ es, mapE π q ∈ f'.edges ↔ q ∈ f.edges) {v : Nat} (hv : v < n) : ((π v : Nat) : Int) ∈ f'.feet ↔ (v : Int) ∈ f.feet := by
 obtain ⟨σ, J, h1, h2⟩ := I.inv
 have on1 : ∀ u, u < n → (onE web' ((π u : Nat) : Int) = true ↔ onE web (u : Int) = true) := fun u hu => by
  have := I.on hu
  rw [onF, onF, onM_getD hu, onM_getD (I.lt u hu)] at this
  rw [this]
 have ed : onE f'.edges ((π v : Nat) : Int) = true ↔ onE f.edges (v : Int) = true := by
  rw [onE_ex, onE_ex]
  constructor
  ·rintro ⟨q, hq, he⟩
   obtain ⟨p, hp, rfl⟩ := I.toIsoG.sur_E (hF'.sub.subset hq)
   refine ⟨p, (hs p hp).1 hq, ?_⟩
   obtain ⟨a, b, ha, hb, _, rfl⟩ := pair_ex I.r1 hp
   rw [mapE_pair] at he
   have := endB_map (π := σ) he
   rwa [h1 a ha, h1 b hb, h1 v hv] at this
  ·rintro ⟨p, hp, he⟩
   have hpe := hF.sub.subset hp
   refine ⟨mapE π p, (hs p hpe).2 hp, ?_⟩
   obtain ⟨a, b, _, _, _, rfl⟩ := pair_ex I.r1 hpe
   rw [mapE_pair]; exact endB_map he
 rw [hF.feet, hF'.feet, mem_rfeet, mem_rfeet]
 constructor
 ·rintro ⟨w, hw, e, h3, h4⟩
  rw [← e] at h3 h4
  exact ⟨v, hv, rfl, (on1 v hv).1 h3, ed.1 h4⟩
 ·rintro ⟨w, hw, e, h3, h4⟩
  rw [← e] at h3 h4
  exact ⟨π v, I.lt v hv, rfl, (on1 v hv).2 h3, ed.2 h4⟩
theorem frag_ex (I : IsoW n es fs web web' π) {f : FM} {k : Int} (hF : FragIs n es web L k f) : ∃ (i' : Nat) (f' : FM) (k' : Int) (p : Pr), (FragsM n fs web' L')[i']? = some f' ∧ FragIs n fs web' L' k' f' ∧ p ∈ f.edges ∧ mapE π p ∈ f'.edges := by
 obtain ⟨ks, nd, hl, hks, hall⟩ := frags_is (web := web') (L := L') I.r2
 obtain ⟨p, l, e⟩ := List.exists_cons_of_ne_nil hF.ne
 have hp : p ∈ f.edges := by rw [e]; exact List.mem_cons_self
 obtain ⟨i, hi, hw, _⟩ := (hF.mem p).1 hp
 have hpe := List.mem_of_getElem? hi
 obtain ⟨j, hj⟩ := List.mem_iff_getElem?.1 (I.toIsoG.mem hpe)
 have hw' : mapE π p ∉ web' := fun h => hw ((I.wb p hpe).1 h)
 obtain ⟨i', hi'⟩ := List.mem_iff_getElem?.1 (hall j _ hj hw')
 have hlt : i' < (FragsM n fs web' L').length := by rw [← hl]; exact (List.getElem?_eq_some_iff.1 hi').1
 have hf' : (FragsM n fs web' L')[i']? = some (FragsM n fs web' L')[i'] := List.getElem?_eq_getElem hlt
 obtain ⟨k', hk', hF'⟩ := hks i' _ hf'
 refine ⟨i', _, k', p, hf', hF', hp, (hF'.mem _).2 ⟨j, hj, hw', ?_⟩⟩
 rw [hk'] at hi'; injection hi' with hi'; exact hi'.symm
theorem frag_le (I : IsoW n es fs web web' π) (hr : RightG ⟨(n : Int), es⟩) (hr' : RightG ⟨(n : Int), fs⟩) (hT : TogM n (onF n web) es L) (hT' : TogM n (onF n web') fs L') : (FragsM n es web L).length ≤ (FragsM n fs web' L').length := by
 obtain ⟨ks, nd, hl, hks, _⟩ := frags_is (web := web) (L := L) I.r1
 have := choice_le' (A := List.range (FragsM n es web L).length) (B := List.range (FragsM n fs web' L').length) (R := fun i i' => ∃ f f' k k' p, (FragsM n es web L)[i]? = some f ∧ (FragsM n fs web' L')[i']? = some f' ∧ ks[i]? = some k ∧ FragIs n es web L k f ∧ FragIs n fs web' L' k' f' ∧ p ∈ f.edges ∧ mapE π p ∈ f'.edges)
  List.nodup_range (fun i hi => ?_) (fun i hi j hj b h1 h2 => ?_)
 ·simpa using this
 ·rw [List.mem_range] at hi
  have hf : (FragsM n es web L)[i]? = some (FragsM n es web L)[i] := List.getElem?_eq_getElem hi
  obtain ⟨k, hk, hF⟩ := hks i _ hf
  obtain ⟨i', f', k', p, hf', hF', h1, h2⟩ := frag_ex (L' := L') I hF
  exact ⟨i', List.mem_range.2 (List.getElem?_eq_some_iff.1 hf').1, _, f', k, k', p, hf, hf', hk, hF, hF', h1, h2⟩
 ·obtain ⟨f, f', k, k', p, hf, hf', hk, hF, hF', a1, a2⟩ := h1
  obtain ⟨g, g', m, m', q, hg, hg', hm, hG, hG', b1, b2⟩ := h2
  rw [hf'] at hg'; injection hg' with hg'; subst hg'
  have hqe := hG.sub.subset b1
  have hqf := (frag_img I hr hr' hT hT' hF hF' a1 a2 hqe).1 b2
  have : k = m := by
   obtain ⟨x, hx, _, e1⟩ := (hF.mem q).1 hqf
   obtain ⟨y, hy, _, e2⟩ := (hG.mem q).1 b1
   rw [← e1, ← e2, hr.asc.uniq hx hy]
  subst this
  exact nodup_idx nd hk hm
theorem frag_len (I : IsoW n es fs web web' π) (hr : RightG ⟨(n : Int), es⟩) (hr' : RightG ⟨(n : Int), fs⟩) (hT : TogM n (onF n web) es L) (hT' : TogM n (onF n web') fs L') : (FragsM n es web L).length = (FragsM n fs web' L').length := by
 obtain ⟨σ, J, _⟩ := I.inv
 have := frag_le I hr hr' hT hT'
 have := frag_le J hr' hr hT' hT
 omega
theorem frag_told (I : IsoW n es fs web web' π) (hr : RightG ⟨(n : Int), es⟩) (hr' : RightG ⟨(n : Int), fs⟩) (hT : TogM n (onF n web) es L) (hT' : TogM n (onF n web') fs L') {k : Int} {f : FM} (hF : FragIs n es web L k f) {want : List Pr} {feet : List Int}
  (h1 : want.Pairwise fun x y => x.1 < y.1 ∨ x.1 = y.1 ∧ x.2 < y.2) (h2 : ∀ q, q ∈ want ↔ ∃ p ∈ f.edges, mapE π p = q) (h3 : feet.Pairwise (· < ·)) (h4 : ∀ x, x ∈ feet ↔ ∃ v : Nat, v < n ∧ (v : Int) ∈ f.feet ∧ x = ((π v : Nat) : Int)) :
  ∃ f' ∈ FragsM n fs web' L', f'.edges = want ∧ f'.feet = feet := by
 obtain ⟨i', f', k', p, hf', hF', a1, a2⟩ := frag_ex (L' := L') I hF
 have hs := fun q (hq : q ∈ es) => frag_img I hr hr' hT hT' hF hF' a1 a2 hq
 refine ⟨f', List.mem_of_getElem? hf', ?_, ?_⟩
 ·refine sortedP_eq _ _ (asc_pair.1 (hr'.asc.sub hF'.sub)) h1 fun q => ?_
  rw [h2]
  constructor
  ·intro hq
   obtain ⟨p, hp, rfl⟩ := I.toIsoG.sur_E (hF'.sub.subset hq)
   exact ⟨p, (hs p hp).1 hq, rfl⟩
  ·rintro ⟨p, hp, rfl⟩
   exact (hs p (hF.sub.subset hp)).2 hp
 ·obtain ⟨c1, _⟩ := frag_feet I.r2 hF'
  refine sorted_eq _ _ c1 h3 fun x => ?_
  rw [h4]
  constructor
  ·intro hx
   have hx' := hx
   rw [hF'.feet, mem_rfeet] at hx'
   obtain ⟨w, hw, rfl, _⟩ := hx'
   obtain ⟨v, hv, rfl⟩ := I.surj w hw
   exact ⟨v, hv, (frag_feet_img I hF hF' hs hv).1 hx, rfl⟩
  ·rintro ⟨v, hv, hx, rfl⟩
   exact (frag_feet_img I hF hF' hs hv).2 hx
end
end Go.Fw
