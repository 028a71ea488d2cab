/- A text of the proof. -/
import Derived.Test.YtnaahaldkpdjlaaFwLF4
import Derived.Test.YtnaahaldkpdjlaaFwLW4
import Derived.Test.YtnaahaldkpdjlaaFwLZ4
import Derived.Test.YtnaahaldkpdjlaaFwFrame
set_option linter.unusedSimpArgs false
set_option linter.unusedVariables false
namespace Go.Fw
open Go.Proofs
attribute [local irreducible] KO4 KO3 KO2 KO1 KO KN KX KE VK KCond KDraw KCall KLoop
set_option maxHeartbeats 16000000
set_option maxRecDepth 10000
attribute [local irreducible] toldE toldR facesM facesP rowsD rowD
theorem tm_nat (a b : Nat) : ((a : Int)).tmod (b : Int) = ((a % b : Nat) : Int) := rfl
theorem RotG.row {n : Nat} {es : List Pr} {rs : List (List Int)} (hr : InR n es) (G : RotG n es rs) (v : Nat) {j : Nat} (hj : j < (rs.getD v []).length) : ∃ h : j < (rotN rs v).length, (rs.getD v [])[j] = (((rotN rs v)[j] : Nat) : Int) := by
 have hb := G.back hr v
 have hl : (rotN rs v).length = (rs.getD v []).length := by rw [rotN, List.length_map]
 refine ⟨by omega, ?_⟩
 have : ((rotN rs v).map fun (x : Nat) => (x : Int))[j]? = (rs.getD v [])[j]? := by rw [hb]
 rw [List.getElem?_map, List.getElem?_eq_getElem (by omega), List.getElem?_eq_getElem hj] at this
 injection this with this; exact this.symm
theorem rowD_len {n : Nat} {es : List Pr} {rs : List (List Int)} (hr : InR n es) (ha : Asc es) (G : RotG n es rs) (v : Nat) : (rowD n (rotN rs) v).length = ((besM n es).getD v []).length := by
 rw [bes_row hr ha G, List.length_map]; unfold rowD; rw [List.length_map]
theorem rowD_get {n : Nat} {es : List Pr} {rs : List (List Int)} (hr : InR n es) (ha : Asc es) (G : RotG n es rs) (v : Nat) {j : Nat} (hj : j < ((besM n es).getD v []).length) (hj' : j < (rowD n (rotN rs) v).length) :
  ∃ w : Nat, ((besM n es).getD v [])[j] = (w : Int) ∧ (rowD n (rotN rs) v)[j] = (v, w) ∧ w ∈ rotN rs v := by
 have e := bes_row hr ha G v
 have hl : j < ((List.range n).filter fun w => decide (w ∈ rotN rs v)).length := by rw [e, List.length_map] at hj; exact hj
 refine ⟨((List.range n).filter fun w => decide (w ∈ rotN rs v))[j], ?_, ?_, ?_⟩
 ·have : ((besM n es).getD v [])[j]? = some ((((List.range n).filter fun w => decide (w ∈ rotN rs v))[j] : Nat) : Int) := by rw [e, List.getElem?_map, List.getElem?_eq_getElem hl]; rfl
  rw [List.getElem?_eq_getElem hj] at this; injection this
 ·have : (rowD n (rotN rs) v)[j]? = some (v, ((List.range n).filter fun w => decide (w ∈ rotN rs v))[j]) := by unfold rowD; rw [List.getElem?_map, List.getElem?_eq_getElem hl]; rfl
  rw [List.getElem?_eq_getElem hj'] at this; injection this
 ·have := List.getElem_mem hl
  rw [List.mem_filter, decide_eq_true_eq] at this; exact this.2
theorem mapP_look0 {h : AHeap} {M : Nat} {l : List (Pr × Int)} (ho : h.own M = some (.map (mapP l))) (k : Pr) : aLookupA Try.prog h 70 (.map (some M)) (valP k) false = some (.int .i64 ((lookK l k).getD 0)) := mapP_look ho k false
theorem apart_new {h : AHeap} {id n c : Nat} (hn : h.own id = none) : Apart h (.slice (some ⟨id, 0, none⟩) n c) := fun b hb => by injection hb with hb; subst hb; exact hn
theorem rowsD_len (n : Nat) (r : Nat → List Nat) : ∀ k, (rowsD n r k).length ≤ k * n
 | 0 => by unfold rowsD; simp
 | k + 1 => by
  have h1 := rowsD_len n r k
  have h2 : (rowD n r k).length ≤ n := by
   unfold rowD; rw [List.length_map]
   have := List.length_filter_le (fun w => decide (w ∈ r k)) (List.range n)
   rwa [List.length_range] at this
  rw [rowsD_succ, List.length_append, Nat.add_mul]; omega
theorem fac_len {n : Nat} {r : Nat → List Nat} (hn : n ≤ 200) {P Q : List Dart} (h : ddl n r = P ++ Q) : (facesP r P).length + 1 ≤ 40001 := by
 have h1 := rowsD_len n r n
 rw [rowsD_all, h, List.length_append] at h1
 have h2 : n * n ≤ 200 * 200 := Nat.mul_le_mul hn hn
 have h3 : (facesP r P).length ≤ P.length := by unfold facesP; rw [List.length_map]; exact List.length_filter_le _ _
 omega
theorem met_snoc {r : Nat → List Nat} {P : List Dart} {d e : Dart} : MetP r (P ++ [d]) e ↔ MetP r P e ∨ Orb (fph r) d e := by
 simp only [MetP, List.mem_append, List.mem_singleton]
 constructor
 ·rintro ⟨x, h | rfl, o⟩
  ·exact .inl ⟨x, h, o⟩
  ·exact .inr o
 ·rintro (⟨x, h, o⟩ | o)
  ·exact ⟨x, .inl h, o⟩
  ·exact ⟨d, .inr rfl, o⟩
theorem range_it (f : Dart → Dart) (d : Dart) (k : Nat) : ((List.range (k + 1)).map fun i => (((it f i d).1 : Nat) : Int)) = ((List.range k).map fun i => (((it f i d).1 : Nat) : Int)) ++ [(((it f k d).1 : Nat) : Int)] := by
 rw [List.range_succ, List.map_append]; rfl
theorem face_list (r : Nat → List Nat) (d : Dart) : ((List.range (ordr (fph r) d)).map fun i => (((it (fph r) i d).1 : Nat) : Int)) = nat64 (faceF r d) := by
 rw [nat64, faceF, orbL, List.map_map, List.map_map]; rfl
theorem lt_next {k o : Nat} (h : k ≤ o) (hne : k ≠ o) : k < o := by omega
theorem aw_len {a : Nat} (h : a + 1 ≤ 40001) : awrap .i64 ((a : Int) + 1) = ((a + 1 : Nat) : Int) := awrap_succ a (by omega)
theorem dec_succ (a : Nat) : (((a + 1 : Nat) : Int)) ≠ 0 := by omega
theorem le_big {a : Nat} (h : a + 1 ≤ 40001) : a ≤ 100000000 := by omega
theorem len_ok5 {k o N : Nat} (h : k < o) (h2 : o ≤ N) (h3 : N ≤ 40000) : k ≤ 100000 := by omega
open Classical in
theorem Faces_any (W0 : Base) (rv : Value) (rs : List (List Int)) (h : AHeap) (hv : RL (RL isI) h rv rs) :
  AC Try.prog W0 30 [rv] h fun x h' => Le h h' ∧ ((x = .tuple #[.slice none 0 0, .int .i64 70] ∧ ¬ ∃ es, RightG ⟨(rs.length : Int), es⟩ ∧ RotG rs.length es rs) ∨
   ∃ es fv, RightG ⟨(rs.length : Int), es⟩ ∧ RotG rs.length es rs ∧ x = .tuple #[fv, .int .i64 0] ∧ RL (RL isI) h' fv (facesM rs.length rs)) := by
 refine AC.vc (fn := Try.f30) (c := _) ⟨Try.func30, rfl, by decide⟩ Try.ntmps30 Try.results30 (by simp) fun hwf => ?_
 simp only [argFrame, argFrom, Nat.reduceAdd]
 simp only [kS1, bLookup, bMapSet, wantA, isCall, stepOp, evalO, evalL, evalP, evalM, putDst, flat, kA, kB, Nat.reduceLT, ↓reduceIte, kC, Nat.reduceEqDiff, aBuiltin, abinG, guardFree, abin, aInt, aUn, aNilCheck, retQ, retQ1, aresults, aresultL, aresult, mkF, undefV, reduceCtorEq, kD, kE, kF, kG, kH, kI, kJ, kK, aExtract, calleeOf]
 refine KCall.intro (by simp only [kS1, bLookup, bMapSet, wantA, isCall, stepOp, evalO, evalL, evalP, evalM, putDst, flat, kA, kB, Nat.reduceLT, ↓reduceIte, kC, Nat.reduceEqDiff, aBuiltin, abinG, guardFree, abin, aInt, aUn, aNilCheck, retQ, retQ1, aresults, aresultL, aresult, mkF, undefV, reduceCtorEq, kD, kE, kF, kG, kH, kI, kJ, kK, aExtract, calleeOf] <;> rfl) ⟨Try.func72, rfl, by decide⟩ (told_any W0 rv rs h hv) ?_
 rintro x h1 w1 ⟨l1, ⟨rfl, hno⟩ | ⟨es, ev, hr, G, rfl, gev, -⟩⟩
 ·obtain ⟨h2', h2, e2, e2s, l2, w2⟩ := newE4 w1
  simp only [kS1, bLookup, bMapSet, wantA, isCall, stepOp, evalO, evalL, evalP, evalM, putDst, flat, kA, kB, Nat.reduceLT, ↓reduceIte, kC, Nat.reduceEqDiff, aBuiltin, abinG, guardFree, abin, aInt, aUn, aNilCheck, retQ, retQ1, aresults, aresultL, aresult, mkF, undefV, reduceCtorEq, kD, kE, kF, kG, kH, kI, kJ, kK, aExtract, calleeOf, e2, e2s]
  exact ⟨l1.trans l2, .inl ⟨trivial, hno⟩⟩
 obtain ⟨h2', h2, e2, e2s, l2, w2, L2⟩ := newG w1 (n := (rs.length : Int)) gev.pr
 generalize h1.next = P4 at *
 have hR := hr.inR
 have hA := hr.asc
 have IR := G.isRot hR hA
 have p := phi_pm IR
 have h200 : (rs.length : Int) ≤ 200 := hr.n1
 have h594 : es.length ≤ 594 := hr.len
 have l02 := l1.trans l2
 obtain ⟨h3, e3, l3, w3, o3⟩ : ∃ h3, h2.alloc (.map []) = h3 ∧ Le h2 h3 ∧ WF h3 ∧ h3.own h2.next = some (.map []) := ⟨_, rfl, (Le.refl h2).alloc w2 _, w2.alloc _, AHeap.own_alloc_eq _ _⟩
 have nMB : h2.own h2.next = none := (Le.refl h2).next w2 (Nat.le_refl _)
 have lr := fun g => hv.len (P := Try.prog) Try.underlying52 g
 have row_small' : ∀ v, v < rs.length → (rs.getD v []).length < rs.length := fun v hv => row_small hR hA G hv
 simp only [kS1, bLookup, bMapSet, wantA, isCall, stepOp, evalO, evalL, evalP, evalM, putDst, flat, kA, kB, Nat.reduceLT, ↓reduceIte, kC, Nat.reduceEqDiff, aBuiltin, abinG, guardFree, abin, aInt, aUn, aNilCheck, retQ, retQ1, aresults, aresultL, aresult, mkF, undefV, reduceCtorEq, kD, kE, kF, kG, kH, kI, kJ, kK, aExtract, calleeOf, e2, e2s, e3, lr]
 generalize h2.next = MB at *
 refine KLoop.intro (fun k fr hq => ∃ (i : Nat) (l : List (Pr × Pr)), k = rs.length - i ∧ i ≤ rs.length ∧ fr = mkF [(4, .pointer (some ⟨P4, 0, none⟩)), (6, .map (some MB)), (28, rv), (29, .int .i64 rs.length), (30, .int .i64 i)] ∧
   hq.own MB = some (.map (mapPP l)) ∧ Le h2 hq ∧ ∀ d : Dart, d.1 ∈ rotN rs d.2 → d.2 < i → lookV l (castD d) = some (castD (fph (rotN rs) d)))
  rs.length [(4, .pointer (some ⟨P4, 0, none⟩)), (6, .map (some MB)), (28, rv), (29, .int .i64 rs.length), (30, .int .i64 (0 : Nat))] (by simp only [hasAll, kS1, bLookup, bMapSet, wantA, isCall, stepOp, evalO, evalL, evalP, evalM, putDst, flat, kA, kB, Nat.reduceLT, ↓reduceIte, kC, Nat.reduceEqDiff, aBuiltin, abinG, guardFree, abin, aInt, aUn, aNilCheck, retQ, retQ1, aresults, aresultL, aresult, mkF, undefV, reduceCtorEq, kD, kE, kF, kG, kH, kI, kJ, kK, aExtract, calleeOf]; simp) ⟨0, [], rfl, Nat.zero_le _, rfl, o3, l3, fun d _ h => by omega⟩ ?_
 clear o3 w3 l3 e3
 clear h3
 rintro k fr hq hwq ⟨i, l, rfl, hi, rfl, oB, lq, hl⟩
 simp only [kS1, bLookup, bMapSet, wantA, isCall, stepOp, evalO, evalL, evalP, evalM, putDst, flat, kA, kB, Nat.reduceLT, ↓reduceIte, kC, Nat.reduceEqDiff, aBuiltin, abinG, guardFree, abin, aInt, aUn, aNilCheck, retQ, retQ1, aresults, aresultL, aresult, mkF, undefV, reduceCtorEq, kD, kE, kF, kG, kH, kI, kJ, kK, aExtract, calleeOf]
 refine KCond.intro (fun ht => ?_) (fun hf => ?_)
 ·have hlt : i < rs.length := lt_t ht
  clear ht
  have ar := hv.addr (P := Try.prog) Try.underlying52 Try.underlying38 (by kernel_rfl) (k := .i64) i hlt
  obtain ⟨ru, lru', hru⟩ := hv.load' (P := Try.prog) Try.underlying38 rfl i hlt
  have lru := lru' hq (l02.trans lq)
  rw [← getD_of (d := []) hlt] at hru
  have hsm := row_small' i hlt
  have hrow := fun j (hj : j < (rs.getD i []).length) => G.row hR i hj
  have hlen : (rotN rs i).length = (rs.getD i []).length := by rw [rotN, List.length_map]
  generalize rs.getD i [] = row at *
  have lrow := fun g => hru.len (P := Try.prog) Try.underlying38 g
  simp only [kS1, bLookup, bMapSet, wantA, isCall, stepOp, evalO, evalL, evalP, evalM, putDst, flat, kA, kB, Nat.reduceLT, ↓reduceIte, kC, Nat.reduceEqDiff, aBuiltin, abinG, guardFree, abin, aInt, aUn, aNilCheck, retQ, retQ1, aresults, aresultL, aresult, mkF, undefV, reduceCtorEq, kD, kE, kF, kG, kH, kI, kJ, kK, aExtract, calleeOf, ar, lru, lrow]
  refine KLoop.intro (fun k fr hz => ∃ (j : Nat) (l : List (Pr × Pr)), k = row.length - j ∧ j ≤ row.length ∧ fr = mkF [(4, .pointer (some ⟨P4, 0, none⟩)), (6, .map (some MB)), (7, .int .i64 i), (8, ru), (28, rv), (29, .int .i64 rs.length), (30, .int .i64 i), (35, ru), (36, .int .i64 row.length), (37, .int .i64 j)] ∧
    hz.own MB = some (.map (mapPP l)) ∧ Le h2 hz ∧ (∀ d : Dart, d.1 ∈ rotN rs d.2 → d.2 < i → lookV l (castD d) = some (castD (fph (rotN rs) d))) ∧ ∀ (m : Nat) (hm : m < (rotN rs i).length), m < j → lookV l (castD ((rotN rs i)[m], i)) = some (castD (fph (rotN rs) ((rotN rs i)[m], i))))
   row.length [(4, .pointer (some ⟨P4, 0, none⟩)), (6, .map (some MB)), (7, .int .i64 i), (8, ru), (28, rv), (29, .int .i64 rs.length), (30, .int .i64 i), (35, ru), (36, .int .i64 row.length), (37, .int .i64 (0 : Nat))] (by simp only [hasAll, kS1, bLookup, bMapSet, wantA, isCall, stepOp, evalO, evalL, evalP, evalM, putDst, flat, kA, kB, Nat.reduceLT, ↓reduceIte, kC, Nat.reduceEqDiff, aBuiltin, abinG, guardFree, abin, aInt, aUn, aNilCheck, retQ, retQ1, aresults, aresultL, aresult, mkF, undefV, reduceCtorEq, kD, kE, kF, kG, kH, kI, kJ, kK, aExtract, calleeOf]; simp) ⟨0, l, rfl, Nat.zero_le _, rfl, oB, lq, hl, fun m _ h => by omega⟩ ?_
  clear oB hl lru
  rintro k fr hz hwz ⟨j, l, rfl, hj, rfl, oB, lz, hl, hl2⟩
  simp only [kS1, bLookup, bMapSet, wantA, isCall, stepOp, evalO, evalL, evalP, evalM, putDst, flat, kA, kB, Nat.reduceLT, ↓reduceIte, kC, Nat.reduceEqDiff, aBuiltin, abinG, guardFree, abin, aInt, aUn, aNilCheck, retQ, retQ1, aresults, aresultL, aresult, mkF, undefV, reduceCtorEq, kD, kE, kF, kG, kH, kI, kJ, kK, aExtract, calleeOf]
  refine KCond.intro (fun ht => ?_) (fun hf => ?_)
  ·have hjt : j < row.length := lt_t ht
   clear ht
   have HZ := hru.le Stays.isI (l02.trans lz)
   have ad := HZ.addr (P := Try.prog) Try.underlying38 Try.underlying3 (by kernel_rfl) (k := .i64) j hjt
   have ld := HZ.loadI (P := Try.prog) Try.underlying3 rfl j hjt
   have hmod : (j + 1) % row.length < row.length := Nat.mod_lt _ (by omega)
   have ad2 := HZ.addr (P := Try.prog) Try.underlying38 Try.underlying3 (by kernel_rfl) (k := .i64) ((j + 1) % row.length) hmod
   have ld2 := HZ.loadI (P := Try.prog) Try.underlying3 rfl ((j + 1) % row.length) hmod
   obtain ⟨hj2, ej⟩ := hrow j hjt
   obtain ⟨hm2, em⟩ := hrow _ hmod
   rw [ej] at ld
   rw [em] at ld2
   have hnx := nx_idx (IR.nd i) hj2
   simp only [hlen] at hnx
   have hwj := awrap_succ j (by omega)
   have tm := tm_nat (j + 1) row.length
   have dz : ((row.length : Int) = 0) = False := eq_false (by omega)
   have hphi : fph (rotN rs) ((rotN rs i)[j], i) = (i, (rotN rs i)[(j + 1) % row.length]) := by rw [fph]; simp only [hnx]
   have st := mapPP_set oB (castD ((rotN rs i)[j], i)) (castD (fph (rotN rs) ((rotN rs i)[j], i)))
   simp only [hphi, castD] at st
   simp only [kS1, bLookup, bMapSet, wantA, isCall, stepOp, evalO, evalL, evalP, evalM, putDst, flat, kA, kB, Nat.reduceLT, ↓reduceIte, kC, Nat.reduceEqDiff, aBuiltin, abinG, guardFree, abin, aInt, aUn, aNilCheck, retQ, retQ1, aresults, aresultL, aresult, mkF, undefV, reduceCtorEq, kD, kE, kF, kG, kH, kI, kJ, kK, aExtract, calleeOf, ad, ld, build42, hwj, lrow, tm, dz, ad2, ld2, setPP_none, st]
   refine loop_again (row.length - (j + 1)) [(4, .pointer (some ⟨P4, 0, none⟩)), (6, .map (some MB)), (7, .int .i64 i), (8, ru), (28, rv), (29, .int .i64 rs.length), (30, .int .i64 i), (35, ru), (36, .int .i64 row.length), (37, .int .i64 (j + 1 : Nat))] (stp hjt) (by simp only [hasAll, kS1, bLookup, bMapSet, wantA, isCall, stepOp, evalO, evalL, evalP, evalM, putDst, flat, kA, kB, Nat.reduceLT, ↓reduceIte, kC, Nat.reduceEqDiff, aBuiltin, abinG, guardFree, abin, aInt, aUn, aNilCheck, retQ, retQ1, aresults, aresultL, aresult, mkF, undefV, reduceCtorEq, kD, kE, kF, kG, kH, kI, kJ, kK, aExtract, calleeOf]; simp)
    ⟨j + 1, _, rfl, hjt, rfl, AHeap.own_put_eq _ _ _, lz.put _ nMB, fun d hd hdi => ?_, fun m hm hmj => ?_⟩
   ·rw [lookV_set, if_neg]
    ·exact hl d hd hdi
    ·intro e
     have := castD_inj (a := ((rotN rs i)[j], i)) (b := d) e
     rw [← this] at hdi; simp only at hdi; omega
   ·rw [lookV_set]
    by_cases e : m = j
    ·subst e
     exact (if_pos rfl).trans (by rw [hphi]; rfl)
    ·rw [if_neg]
     ·exact hl2 m hm (Nat.lt_of_le_of_ne (Nat.le_of_lt_succ hmj) e)
     ·intro e2
      have := castD_inj (a := ((rotN rs i)[j], i)) (b := ((rotN rs i)[m], i)) e2
      simp only [Prod.mk.injEq, and_true] at this
      have nd := IR.nd i
      rw [List.nodup_iff_pairwise_ne, List.pairwise_iff_getElem] at nd
      rcases Nat.lt_trichotomy j m with q | q | q
      ·exact nd j m hj2 hm q this
      ·exact e q.symm
      ·exact nd m j hm hj2 q this.symm
  ·have hge : row.length ≤ j := lt_f hf
   have hwi := awrap_succ i (by omega)
   simp only [kS1, bLookup, bMapSet, wantA, isCall, stepOp, evalO, evalL, evalP, evalM, putDst, flat, kA, kB, Nat.reduceLT, ↓reduceIte, kC, Nat.reduceEqDiff, aBuiltin, abinG, guardFree, abin, aInt, aUn, aNilCheck, retQ, retQ1, aresults, aresultL, aresult, mkF, undefV, reduceCtorEq, kD, kE, kF, kG, kH, kI, kJ, kK, aExtract, calleeOf, hwi]
   refine loop_again (rs.length - (i + 1)) [(4, .pointer (some ⟨P4, 0, none⟩)), (6, .map (some MB)), (28, rv), (29, .int .i64 rs.length), (30, .int .i64 (i + 1 : Nat))] (stp hlt) (by simp only [hasAll, kS1, bLookup, bMapSet, wantA, isCall, stepOp, evalO, evalL, evalP, evalM, putDst, flat, kA, kB, Nat.reduceLT, ↓reduceIte, kC, Nat.reduceEqDiff, aBuiltin, abinG, guardFree, abin, aInt, aUn, aNilCheck, retQ, retQ1, aresults, aresultL, aresult, mkF, undefV, reduceCtorEq, kD, kE, kF, kG, kH, kI, kJ, kK, aExtract, calleeOf]; simp)
    ⟨i + 1, l, rfl, hlt, rfl, oB, lz, fun d hd hdi => ?_⟩
   by_cases e : d.2 = i
   ·obtain ⟨a, b⟩ := d
    simp only at e hd
    subst e
    obtain ⟨m, hm, em⟩ := List.mem_iff_getElem.1 hd
    rw [← em]
    exact hl2 m hm (by omega)
   ·exact hl d hd (by omega)
 have hge : rs.length ≤ i := lt_f hf
 have hall : ∀ d : Dart, d ∈ dl rs.length (rotN rs) → lookV l (castD d) = some (castD (fph (rotN rs) d)) := fun d hd => by
  have h1 := (mem_dl IR).1 hd
  exact hl d (IR.sy _ _ h1) (Nat.lt_of_lt_of_le (IR.lt _ _ (IR.sy _ _ h1)) hge)
 clear hl hf hge hi
 obtain ⟨hb, eb, lb, wb, ob⟩ := alloc_f hwq []
 obtain ⟨hc, ec, lc, wc, oc⟩ : ∃ hc, hb.alloc (.map []) = hc ∧ Le hb hc ∧ WF hc ∧ hc.own hb.next = some (.map []) := ⟨_, rfl, (Le.refl hb).alloc wb _, wb.alloc _, AHeap.own_alloc_eq _ _⟩
 have nF0 : hq.own hq.next = none := (Le.refl hq).next hwq (Nat.le_refl _)
 have nMM : hb.own hb.next = none := (Le.refl hb).next wb (Nat.le_refl _)
 have neF : hq.next ≠ hb.next := fun e => by rw [← e, ob] at nMM; cases nMM
 have mk0 : aBuildSlice Try.prog hq 32 0 [] = some (.slice (some ⟨hq.next, 0, none⟩) 0 0, hb) := by rw [← eb]; exact mkL52e hq
 have hG4 := (L2 hc ((lq.trans lb).trans lc)).1
 simp only [kS1, bLookup, bMapSet, wantA, isCall, stepOp, evalO, evalL, evalP, evalM, putDst, flat, kA, kB, Nat.reduceLT, ↓reduceIte, kC, Nat.reduceEqDiff, aBuiltin, abinG, guardFree, abin, aInt, aUn, aNilCheck, retQ, retQ1, aresults, aresultL, aresult, mkF, undefV, reduceCtorEq, kD, kE, kF, kG, kH, kI, kJ, kK, aExtract, calleeOf, mk0, ec, hG4]
 generalize hq.next = F0 at *
 generalize hb.next = MM at *
 have oF0' : (hc.kill MM).own F0 = some (.cells []) := by rw [AHeap.own_kill_ne _ _ _ neF]; exact lc.own _ _ ob
 have lkk : Le hq ((hc.kill MM).kill F0) := ((lb.trans lc).to_kill (lb.none nMM)).to_kill nF0
 refine KCall.intro (by simp only [kS1, bLookup, bMapSet, wantA, isCall, stepOp, evalO, evalL, evalP, evalM, putDst, flat, kA, kB, Nat.reduceLT, ↓reduceIte, kC, Nat.reduceEqDiff, aBuiltin, abinG, guardFree, abin, aInt, aUn, aNilCheck, retQ, retQ1, aresults, aresultL, aresult, mkF, undefV, reduceCtorEq, kD, kE, kF, kG, kH, kI, kJ, kK, aExtract, calleeOf] <;> rfl) ⟨Try.func55, rfl, by decide⟩ (AC.frame oc (AC.frame oF0' (Beside_any W0 _ rs.length es ((hc.kill MM).kill F0) ⟨ev, rfl, (gev.pr.le l2).le (lq.trans lkk)⟩ hr))) ?_
 rintro bv h5 w5 ⟨g1, ⟨g, ⟨hbs, lg⟩, nF, rfl⟩, nM1, rfl⟩
 have nM : g.own MM = none := by rw [AHeap.own_put_ne _ _ _ _ (Ne.symm neF)] at nM1; exact nM1
 have lqg := lkk.trans lg
 have oBg : g.own MB = some (.map (mapPP l)) := lqg.own _ _ oB
 have neB : MB ≠ MM := fun e => by rw [e, nM] at oBg; cases oBg
 have hbl := besM_length rs.length es
 have lbs := fun g => hbs.len (P := Try.prog) Try.underlying32 g
 rw [hbl] at lbs
 have lg5 : Le g ((g.put F0 (.cells [])).put MM (.map [])) := ((Le.refl g).put _ nF).put _ nM
 have g0 : GRL (RL isI) (rem [MM] ((g.put F0 (.cells [])).put MM (.map []))) (.slice (some ⟨F0, 0, none⟩) 0 0) (facesP (rotN rs) (rowsD rs.length (rotN rs) 0)) := by
  have : facesP (rotN rs) (rowsD rs.length (rotN rs) 0) = [] := by unfold facesP rowsD; rfl
  rw [this]
  exact GRL.empty _ (rem_some.2 ⟨by rw [AHeap.own_put_ne _ _ _ _ neF, AHeap.own_put_eq], by simpa using neF⟩)
 have ap0 : Apart g (.slice (some ⟨F0, 0, none⟩) 0 0) := fun b hb => by injection hb with hb; subst hb; exact nF
 have bp0 : blk (.slice (some ⟨F0, 0, none⟩) 0 0) ≠ some MM := fun e => by injection e with e; exact neF e
 generalize Value.slice (some ⟨F0, 0, none⟩) 0 0 = fv0 at *
 have hn200 : rs.length ≤ 200 := by omega
 simp only [kS1, bLookup, bMapSet, wantA, isCall, stepOp, evalO, evalL, evalP, evalM, putDst, flat, kA, kB, Nat.reduceLT, ↓reduceIte, kC, Nat.reduceEqDiff, aBuiltin, abinG, guardFree, abin, aInt, aUn, aNilCheck, retQ, retQ1, aresults, aresultL, aresult, mkF, undefV, reduceCtorEq, kD, kE, kF, kG, kH, kI, kJ, kK, aExtract, calleeOf, lbs]
 refine KLoop.intro (fun k fr hq' => ∃ (i : Nat) (fv : Value) (m : List (Pr × Int)), k = rs.length - i ∧ i ≤ rs.length ∧ fr = mkF [(6, .map (some MB)), (11, fv), (12, .map (some MM)), (61, bv), (62, .int .i64 rs.length), (63, .int .i64 i)] ∧
   hq'.own MM = some (.map (mapP m)) ∧ GRL (RL isI) (rem [MM] hq') fv (facesP (rotN rs) (rowsD rs.length (rotN rs) i)) ∧ blk fv ≠ some MM ∧ Le g hq' ∧ Apart g fv ∧ ∀ d ∈ dl rs.length (rotN rs), ((lookK m (castD d)).getD 0 ≠ 0 ↔ MetP (rotN rs) (rowsD rs.length (rotN rs) i) d))
  rs.length [(6, .map (some MB)), (11, fv0), (12, .map (some MM)), (61, bv), (62, .int .i64 rs.length), (63, .int .i64 (0 : Nat))] (by simp only [hasAll, kS1, bLookup, bMapSet, wantA, isCall, stepOp, evalO, evalL, evalP, evalM, putDst, flat, kA, kB, Nat.reduceLT, ↓reduceIte, kC, Nat.reduceEqDiff, aBuiltin, abinG, guardFree, abin, aInt, aUn, aNilCheck, retQ, retQ1, aresults, aresultL, aresult, mkF, undefV, reduceCtorEq, kD, kE, kF, kG, kH, kI, kJ, kK, aExtract, calleeOf]; simp)
  ⟨0, fv0, [], rfl, Nat.zero_le _, rfl, AHeap.own_put_eq _ _ _, g0, bp0, lg5, ap0, fun d _ => by simp [lookK, MetP, rowsD]⟩ ?_
 clear g0 bp0 ap0 lg5 w5 mk0
 rintro k fr hq' hwq' ⟨i, fv, m, rfl, hi, rfl, oM, gf, bf, lgq, af, hm⟩
 simp only [kS1, bLookup, bMapSet, wantA, isCall, stepOp, evalO, evalL, evalP, evalM, putDst, flat, kA, kB, Nat.reduceLT, ↓reduceIte, kC, Nat.reduceEqDiff, aBuiltin, abinG, guardFree, abin, aInt, aUn, aNilCheck, retQ, retQ1, aresults, aresultL, aresult, mkF, undefV, reduceCtorEq, kD, kE, kF, kG, kH, kI, kJ, kK, aExtract, calleeOf]
 refine KCond.intro (fun ht => ?_) (fun hf => ?_)
 rotate_left
 ·have hge : rs.length ≤ i := lt_f hf
  obtain rfl : i = rs.length := by omega
  rw [rowsD_all, facesP_all] at gf
  simp only [kS1, bLookup, bMapSet, wantA, isCall, stepOp, evalO, evalL, evalP, evalM, putDst, flat, kA, kB, Nat.reduceLT, ↓reduceIte, kC, Nat.reduceEqDiff, aBuiltin, abinG, guardFree, abin, aInt, aUn, aNilCheck, retQ, retQ1, aresults, aresultL, aresult, mkF, undefV, reduceCtorEq, kD, kE, kF, kG, kH, kI, kJ, kK, aExtract, calleeOf]
  exact ⟨l02.trans (lq.trans (lqg.trans lgq)), .inr ⟨es, fv, hr, G, rfl, (gf.rl (Stays.RL Stays.isI)).le (Stays.RL Stays.isI) (rem_le _ _)⟩⟩
 have hlt : i < rs.length := lt_t ht
 clear ht
 have ab := hbs.addr (P := Try.prog) Try.underlying32 Try.underlying38 (by kernel_rfl) (k := .i64) i (by omega)
 obtain ⟨bu, lbu', hbu⟩ := hbs.load' (P := Try.prog) Try.underlying38 rfl i (by omega)
 have lbu := lbu' hq' lgq
 rw [← getD_of (d := []) (by omega)] at hbu
 have hrl := rowD_len hR hA G i
 have hrg := fun j hj hj' => rowD_get hR hA G i (j := j) hj hj'
 have hdd := fun j hj => ddl_at (n := rs.length) (rotN rs) (v := i) (j := j) hlt hj
 have hsucc := rowsD_succ rs.length (rotN rs) i
 have hRb := besM_rows rs.length es _ (List.getElem_mem (show i < (besM rs.length es).length by omega))
 rw [← getD_of (d := []) (by omega)] at hRb
 generalize (besM rs.length es).getD i [] = Rw at *
 generalize rowD rs.length (rotN rs) i = D at *
 have lR := fun g => hbu.len (P := Try.prog) Try.underlying38 g
 simp only [kS1, bLookup, bMapSet, wantA, isCall, stepOp, evalO, evalL, evalP, evalM, putDst, flat, kA, kB, Nat.reduceLT, ↓reduceIte, kC, Nat.reduceEqDiff, aBuiltin, abinG, guardFree, abin, aInt, aUn, aNilCheck, retQ, retQ1, aresults, aresultL, aresult, mkF, undefV, reduceCtorEq, kD, kE, kF, kG, kH, kI, kJ, kK, aExtract, calleeOf, ab, lbu, lR]
 refine KLoop.intro (fun k fr hz => ∃ (j : Nat) (fv : Value) (m : List (Pr × Int)), k = Rw.length - j ∧ j ≤ Rw.length ∧ fr = mkF [(6, .map (some MB)), (11, fv), (12, .map (some MM)), (13, .int .i64 i), (61, bv), (62, .int .i64 rs.length), (63, .int .i64 i), (68, bu), (69, .int .i64 Rw.length), (70, .int .i64 j)] ∧
   hz.own MM = some (.map (mapP m)) ∧ GRL (RL isI) (rem [MM] hz) fv (facesP (rotN rs) (rowsD rs.length (rotN rs) i ++ D.take j)) ∧ blk fv ≠ some MM ∧ Le g hz ∧ Apart g fv ∧ ∀ d ∈ dl rs.length (rotN rs), ((lookK m (castD d)).getD 0 ≠ 0 ↔ MetP (rotN rs) (rowsD rs.length (rotN rs) i ++ D.take j) d))
  Rw.length [(6, .map (some MB)), (11, fv), (12, .map (some MM)), (13, .int .i64 i), (61, bv), (62, .int .i64 rs.length), (63, .int .i64 i), (68, bu), (69, .int .i64 Rw.length), (70, .int .i64 (0 : Nat))] (by simp only [hasAll, kS1, bLookup, bMapSet, wantA, isCall, stepOp, evalO, evalL, evalP, evalM, putDst, flat, kA, kB, Nat.reduceLT, ↓reduceIte, kC, Nat.reduceEqDiff, aBuiltin, abinG, guardFree, abin, aInt, aUn, aNilCheck, retQ, retQ1, aresults, aresultL, aresult, mkF, undefV, reduceCtorEq, kD, kE, kF, kG, kH, kI, kJ, kK, aExtract, calleeOf]; simp)
  ⟨0, fv, m, rfl, Nat.zero_le _, rfl, oM, by rw [List.take_zero, List.append_nil]; exact gf, bf, lgq, af, by rw [List.take_zero, List.append_nil]; exact hm⟩ ?_
 clear oM gf bf lgq af hm lbu hwq'
 clear hq' fv m
 rintro k fr hq' hwq' ⟨j, fv, m, rfl, hj, rfl, oM, gf, bf, lgq, af, hm⟩
 simp only [kS1, bLookup, bMapSet, wantA, isCall, stepOp, evalO, evalL, evalP, evalM, putDst, flat, kA, kB, Nat.reduceLT, ↓reduceIte, kC, Nat.reduceEqDiff, aBuiltin, abinG, guardFree, abin, aInt, aUn, aNilCheck, retQ, retQ1, aresults, aresultL, aresult, mkF, undefV, reduceCtorEq, kD, kE, kF, kG, kH, kI, kJ, kK, aExtract, calleeOf]
 refine KCond.intro (fun ht => ?_) (fun hf => ?_)
 rotate_left
 ·have hge : Rw.length ≤ j := lt_f hf
  rw [List.take_of_length_le (by omega), ← hsucc] at gf hm
  have hwi := awrap_succ i (by omega)
  simp only [kS1, bLookup, bMapSet, wantA, isCall, stepOp, evalO, evalL, evalP, evalM, putDst, flat, kA, kB, Nat.reduceLT, ↓reduceIte, kC, Nat.reduceEqDiff, aBuiltin, abinG, guardFree, abin, aInt, aUn, aNilCheck, retQ, retQ1, aresults, aresultL, aresult, mkF, undefV, reduceCtorEq, kD, kE, kF, kG, kH, kI, kJ, kK, aExtract, calleeOf, hwi]
  exact loop_again (rs.length - (i + 1)) [(6, .map (some MB)), (11, fv), (12, .map (some MM)), (61, bv), (62, .int .i64 rs.length), (63, .int .i64 (i + 1 : Nat))] (stp hlt) (by simp only [hasAll, kS1, bLookup, bMapSet, wantA, isCall, stepOp, evalO, evalL, evalP, evalM, putDst, flat, kA, kB, Nat.reduceLT, ↓reduceIte, kC, Nat.reduceEqDiff, aBuiltin, abinG, guardFree, abin, aInt, aUn, aNilCheck, retQ, retQ1, aresults, aresultL, aresult, mkF, undefV, reduceCtorEq, kD, kE, kF, kG, kH, kI, kJ, kK, aExtract, calleeOf]; simp)
   ⟨i + 1, fv, m, rfl, hlt, rfl, oM, gf, bf, lgq, af, hm⟩
 have hjt : j < Rw.length := lt_t ht
 clear ht
 have hjD : j < D.length := by omega
 obtain ⟨w, ew, ed, hwr⟩ := hrg j hjt hjD
 obtain ⟨Q, hQ⟩ := hdd j hjD
 have tk : D.take (j + 1) = D.take j ++ [D[j]] := List.take_succ_eq_append_getElem hjD
 rw [ed] at hQ tk
 have hPs : rowsD rs.length (rotN rs) i ++ D.take (j + 1) = (rowsD rs.length (rotN rs) i ++ D.take j) ++ [(i, w)] := by rw [tk, List.append_assoc]
 generalize rowsD rs.length (rotN rs) i ++ D.take j = P at *
 have hdm : ((i, w) : Dart) ∈ dl rs.length (rotN rs) := (mem_dl IR).2 hwr
 have hHd := hd_met IR hQ
 have hFl := fac_len hn200 hQ
 have hfs := facesP_snoc (rotN rs) P (i, w)
 have HB := hbu.le Stays.isI lgq
 have aj := HB.addr (P := Try.prog) Try.underlying38 Try.underlying3 (by kernel_rfl) (k := .i64) j hjt
 have lj := HB.loadI (P := Try.prog) Try.underlying3 rfl j hjt
 rw [ew] at lj
 have hwj := awrap_succ j (by omega)
 obtain ⟨hE', hE, eE, sE, lE, wE, oE⟩ := new42 hwq' ((i : Int), (w : Int))
 have nE : hq'.own hq'.next = none := (Le.refl hq').next hwq' (Nat.le_refl _)
 generalize hq'.next = E0 at *
 have oME := lE.own _ _ oM
 have lk := mapP_look0 oME ((i : Int), (w : Int))
 have hmd := hm _ hdm
 have ld0 := own42 oE
 have lgE := lgq.trans lE
 have gfE := gf.le (Stays.RL Stays.isI) (lE.mono_rem (l := [MM]))
 by_cases cm : (lookK m ((i : Int), (w : Int))).getD 0 = 0
 rotate_left
 ·have dm : decide ((lookK m ((i : Int), (w : Int))).getD 0 = 0) = false := decide_eq_false cm
  simp only [kS1, bLookup, bMapSet, wantA, isCall, stepOp, evalO, evalL, evalP, evalM, putDst, flat, kA, kB, Nat.reduceLT, ↓reduceIte, kC, Nat.reduceEqDiff, aBuiltin, abinG, guardFree, abin, aInt, aUn, aNilCheck, retQ, retQ1, aresults, aresultL, aresult, mkF, undefV, reduceCtorEq, kD, kE, kF, kG, kH, kI, kJ, kK, aExtract, calleeOf, aj, lj, build42, eE, sE, ld0, lookP_none, lk, bne, dm, hwj]
  have hmet := hmd.1 cm
  exact loop_again (Rw.length - (j + 1)) [(6, .map (some MB)), (11, fv), (12, .map (some MM)), (13, .int .i64 i), (61, bv), (62, .int .i64 rs.length), (63, .int .i64 i), (68, bu), (69, .int .i64 Rw.length), (70, .int .i64 (j + 1 : Nat))] (stp hjt) (by simp only [hasAll, kS1, bLookup, bMapSet, wantA, isCall, stepOp, evalO, evalL, evalP, evalM, putDst, flat, kA, kB, Nat.reduceLT, ↓reduceIte, kC, Nat.reduceEqDiff, aBuiltin, abinG, guardFree, abin, aInt, aUn, aNilCheck, retQ, retQ1, aresults, aresultL, aresult, mkF, undefV, reduceCtorEq, kD, kE, kF, kG, kH, kI, kJ, kK, aExtract, calleeOf]; simp)
   ⟨j + 1, fv, m, rfl, hjt, rfl, oME, by rw [hPs, hfs, if_neg (fun h => hHd.1 h hmet), List.append_nil]; exact gfE, bf, lgE, af, fun e he => by
    rw [hPs, met_snoc, hm e he]
    exact ⟨.inl, fun x => x.elim id fun o => by obtain ⟨y, hy, o'⟩ := hmet; exact ⟨y, hy, o'.trans o⟩⟩⟩
 have dm : decide ((lookK m ((i : Int), (w : Int))).getD 0 = 0) = true := decide_eq_true cm
 have hnm : ¬ MetP (rotN rs) P (i, w) := fun h => hmd.2 h cm
 obtain ⟨o0, o1, o2⟩ := ordr_spec p hdm
 have hord : ordr (fph (rotN rs)) (i, w) ≤ 40000 := by
  have h1 := sub_len (orbL_nodup p hdm) (B := ddl rs.length (rotN rs)) fun y hy => (mem_ddl IR).2 ((mem_dl IR).1 (p.orb_mem hdm ((mem_orbL p hdm).1 hy)))
  rw [orbL_len] at h1
  have h2 := rowsD_len rs.length (rotN rs) rs.length
  rw [rowsD_all] at h2
  have h3 : rs.length * rs.length ≤ 200 * 200 := Nat.mul_le_mul hn200 hn200
  omega
 obtain ⟨hF, eF, lF, wF, oF⟩ := alloc_f wE []
 have nC : hE.own hE.next = none := (Le.refl hE).next wE (Nat.le_refl _)
 have mkC : aBuildSlice Try.prog hE 38 0 [] = some (.slice (some ⟨hE.next, 0, none⟩) 0 0, hF) := by rw [← eF]; exact mkI0 hE
 generalize hE.next = C0 at *
 have gc0 : GI hF (.slice (some ⟨C0, 0, none⟩) 0 0) [] := GS.full (k := 1) (n := 0) oF rfl (by decide)
 have ac0 : Apart hE (.slice (some ⟨C0, 0, none⟩) 0 0) := apart_new nC
 generalize Value.slice (some ⟨C0, 0, none⟩) 0 0 = cv0 at *
 have ldF := own42 (lF.own _ _ oE)
 obtain ⟨hG', hG, eG, sG, lG, wG, oG⟩ := new42 wF ((i : Int), (w : Int))
 have nG : hF.own hF.next = none := (Le.refl hF).next wF (Nat.le_refl _)
 generalize hF.next = E1 at *
 -- what stays as it is in the walk around the face
 have K0 : Le (rem [MM] hE) hG := (rem_le _ _).trans (lF.trans lG)
 have kM : (rem [MM] hE).own MM = none := by rw [rem_own, if_pos (by simp)]
 have kB : (rem [MM] hE).own MB = some (.map (mapPP l)) := rem_some.2 ⟨lgE.own _ _ oBg, by simpa using neB⟩
 have acK : Apart (rem [MM] hE) cv0 := fun b hb => (rem_le [MM] hE).none (ac0 b hb)
 have oMG := lG.own _ _ (lF.own _ _ oME)
 have cM : blk cv0 ≠ some MM := fun e => by have := ac0 _ e; rw [oME] at this; cases this
 have cE : blk cv0 ≠ some E1 := fun e => GS.blk_own gc0 e nG
 have eM : E1 ≠ MM := fun e => by rw [e, lF.own _ _ oME] at nG; cases nG
 have kE : (rem [MM] hE).own E1 = none := (rem_le [MM] hE).none (lF.none nG)
 have lgK : Le g (rem [MM] hE) := lgE.of_none (l := [MM]) fun b hb => by rw [List.mem_singleton] at hb; subst hb; exact nM
 have lfl := fun g => (gfE.rl (Stays.RL Stays.isI)).len (P := Try.prog) Try.underlying32 g
 have hawF := aw_len hFl
 simp only [kS1, bLookup, bMapSet, wantA, isCall, stepOp, evalO, evalL, evalP, evalM, putDst, flat, kA, kB, Nat.reduceLT, ↓reduceIte, kC, Nat.reduceEqDiff, aBuiltin, abinG, guardFree, abin, aInt, aUn, aNilCheck, retQ, retQ1, aresults, aresultL, aresult, mkF, undefV, reduceCtorEq, kD, kE, kF, kG, kH, kI, kJ, kK, aExtract, calleeOf, aj, lj, build42, eE, sE, ld0, lookP_none, lk, bne, dm, mkC, ldF, eG, sG]
 refine KLoop.intro (fun kk fr hz => ∃ (k : Nat) (cv : Value) (E : Nat) (m' : List (Pr × Int)), kk = ordr (fph (rotN rs)) (i, w) - k ∧ k ≤ ordr (fph (rotN rs)) (i, w) ∧ fr = mkF [(6, .map (some MB)), (11, fv), (12, .map (some MM)), (13, .int .i64 i), (18, cv), (19, .pointer (some ⟨E, 0, none⟩)), (61, bv), (62, .int .i64 rs.length), (63, .int .i64 i), (68, bu), (69, .int .i64 Rw.length), (70, .int .i64 j)] ∧
   hz.own E = some (.cells (cellsP (castD (it (fph (rotN rs)) k (i, w))))) ∧ hz.own MM = some (.map (mapP m')) ∧ GI hz cv ((List.range k).map fun x => (((it (fph (rotN rs)) x (i, w)).1 : Nat) : Int)) ∧ Le (rem [MM] hE) hz ∧ Apart (rem [MM] hE) cv ∧ blk cv ≠ some MM ∧ blk cv ≠ some E ∧ E ≠ MM ∧
   ∀ e ∈ dl rs.length (rotN rs), ((lookK m' (castD e)).getD 0 ≠ 0 ↔ MetP (rotN rs) P e ∨ ∃ x, x < k ∧ it (fph (rotN rs)) x (i, w) = e))
  (ordr (fph (rotN rs)) (i, w)) [(6, .map (some MB)), (11, fv), (12, .map (some MM)), (13, .int .i64 i), (18, cv0), (19, .pointer (some ⟨E1, 0, none⟩)), (61, bv), (62, .int .i64 rs.length), (63, .int .i64 i), (68, bu), (69, .int .i64 Rw.length), (70, .int .i64 j)] (by simp only [hasAll, kS1, bLookup, bMapSet, wantA, isCall, stepOp, evalO, evalL, evalP, evalM, putDst, flat, kA, kB, Nat.reduceLT, ↓reduceIte, kC, Nat.reduceEqDiff, aBuiltin, abinG, guardFree, abin, aInt, aUn, aNilCheck, retQ, retQ1, aresults, aresultL, aresult, mkF, undefV, reduceCtorEq, kD, kE, kF, kG, kH, kI, kJ, kK, aExtract, calleeOf]; simp)
  ⟨0, cv0, E1, m, rfl, Nat.zero_le _, rfl, oG, oMG, GI.le gc0 lG, K0, acK, cM, cE, eM, fun e he => by rw [hm e he]; exact ⟨.inl, fun x => x.elim id fun ⟨y, hy, _⟩ => by omega⟩⟩ ?_
 clear K0 acK oMG cM cE eM kE gc0 ac0 oG nG wG lG sG eG ldF mkC nC oF wF lF eF
 clear hG hG' hF
 rintro kk fr hz hwz ⟨k, cv, E, m', rfl, hk, rfl, oE', oM', gc, lz, ac, cM, cE, eM, hm'⟩
 have hkm := p.it_mem hdm k
 have hmk := hm' _ hkm
 have lkz := mapP_look0 oM' (castD (it (fph (rotN rs)) k (i, w)))
 have ldz := own42 oE'
 by_cases ck : k = ordr (fph (rotN rs)) (i, w)
 ·have hmet : (lookK m' (castD (it (fph (rotN rs)) k (i, w)))).getD 0 ≠ 0 := hmk.2 (.inr ⟨0, by omega, by rw [ck, o1]; rfl⟩)
  have dk : decide ((lookK m' (castD (it (fph (rotN rs)) k (i, w)))).getD 0 = 0) = false := decide_eq_false hmet
  simp only [kS1, bLookup, bMapSet, wantA, isCall, stepOp, evalO, evalL, evalP, evalM, putDst, flat, kA, kB, Nat.reduceLT, ↓reduceIte, kC, Nat.reduceEqDiff, aBuiltin, abinG, guardFree, abin, aInt, aUn, aNilCheck, retQ, retQ1, aresults, aresultL, aresult, mkF, undefV, reduceCtorEq, kD, kE, kF, kG, kH, kI, kJ, kK, aExtract, calleeOf, ldz, lookP_none, lkz, dk]
  rw [ck, face_list] at gc
  have K6r : Le (rem [MM] hE) (rem [MM] hz) := lz.of_none fun b hb => by rw [List.mem_singleton] at hb; subst hb; exact kM
  have gf6 := gfE.le (Stays.RL Stays.isI) K6r
  have hb : ∀ b, blk fv = some b → b ∉ [MM] := fun b hb hm => by rw [List.mem_singleton] at hm; subst hm; exact bf hb
  have apv : ∀ b, blk fv = some b → blk cv ≠ some b := fun b hb hc => by
   obtain ⟨us, g1, _⟩ := gfE
   exact GS.blk_own g1 hb (ac b hc)
  have gu : RL isI (rem [MM] (rem (bl fv) hz)) cv (nat64 (faceF (rotN rs) (i, w))) := by
   have q : GI (rem [MM] (rem (bl fv) hz)) cv (nat64 (faceF (rotN rs) (i, w))) := GS.to_rem (GS.to_rem gc (l := bl fv) fun b hb hc => apv b (mem_bl.1 hc) hb) (l := [MM]) fun b hb' hc => by
    rw [List.mem_singleton] at hc; exact cM (hc ▸ hb')
   exact q.rl
  obtain ⟨h7, fv', h8, e7, e8, gf8, l7, w7, f8, k8⟩ := GRL.push_rem (P := Try.prog) (t := 32) (Stays.RL Stays.isI) (by kernel_rfl) gf6 hwz gu gu.sl.one (le_big hFl) hb (fun b hb => by rw [List.mem_singleton] at hb; subst hb; rw [oM']; simp)
  obtain ⟨oM8, nf8⟩ := k8 MM _ oM' bf
  obtain ⟨l8, a8⟩ := f8 g (lgK.trans lz) af
  simp only [kS1, bLookup, bMapSet, wantA, isCall, stepOp, evalO, evalL, evalP, evalM, putDst, flat, kA, kB, Nat.reduceLT, ↓reduceIte, kC, Nat.reduceEqDiff, aBuiltin, abinG, guardFree, abin, aInt, aUn, aNilCheck, retQ, retQ1, aresults, aresultL, aresult, mkF, undefV, reduceCtorEq, kD, kE, kF, kG, kH, kI, kJ, kK, aExtract, calleeOf, mkL52 hz gu.sl, e7, e8, hwj]
  refine loop_again (Rw.length - (j + 1)) [(6, .map (some MB)), (11, fv'), (12, .map (some MM)), (13, .int .i64 i), (61, bv), (62, .int .i64 rs.length), (63, .int .i64 i), (68, bu), (69, .int .i64 Rw.length), (70, .int .i64 (j + 1 : Nat))] (stp hjt) (by simp only [hasAll, kS1, bLookup, bMapSet, wantA, isCall, stepOp, evalO, evalL, evalP, evalM, putDst, flat, kA, kB, Nat.reduceLT, ↓reduceIte, kC, Nat.reduceEqDiff, aBuiltin, abinG, guardFree, abin, aInt, aUn, aNilCheck, retQ, retQ1, aresults, aresultL, aresult, mkF, undefV, reduceCtorEq, kD, kE, kF, kG, kH, kI, kJ, kK, aExtract, calleeOf]; simp)
   ⟨j + 1, fv', m', rfl, hjt, rfl, oM8, by rw [hPs, hfs, if_pos (hHd.2 hnm)]; exact gf8, nf8, l8, a8, fun e he => ?_⟩
  rw [hPs, met_snoc, hm' e he]
  constructor
  ·rintro (h | ⟨x, _, h⟩)
   ·exact .inl h
   ·exact .inr ⟨x, h⟩
  ·rintro (h | ⟨x, h⟩)
   ·exact .inl h
   ·refine .inr ⟨x % ordr (fph (rotN rs)) (i, w), by rw [ck]; exact Nat.mod_lt _ o0, ?_⟩
    rw [← it_mod p hdm]; exact h
 ·have hkl := lt_next hk ck
  have hnmk : ¬ ((lookK m' (castD (it (fph (rotN rs)) k (i, w)))).getD 0 ≠ 0) := fun h => by
   rcases hmk.1 h with ⟨y, hy, o⟩ | ⟨x, hx, e⟩
   ·have hyd : y ∈ dl rs.length (rotN rs) := (mem_dl IR).2 ((mem_ddl IR).1 (by rw [hQ]; simp [hy]))
    exact hnm ⟨y, hy, o.trans (p.orb_symm hdm ⟨k, rfl⟩)⟩
   ·exact it_first p hdm hkl hx e
  have dk : decide ((lookK m' (castD (it (fph (rotN rs)) k (i, w)))).getD 0 = 0) = true := decide_eq_true (Classical.byContradiction hnmk)
  have hbeh := hall _ hkm
  have hnext : fph (rotN rs) (it (fph (rotN rs)) k (i, w)) = it (fph (rotN rs)) (k + 1) (i, w) := rfl
  rw [hnext] at hbeh
  have hrange := range_it (fph (rotN rs)) (i, w) k
  have st1 := mapP_set oM' (castD (it (fph (rotN rs)) k (i, w))) ((facesP (rotN rs) P).length + 1 : Nat)
  generalize hD : it (fph (rotN rs)) k (i, w) = dk0 at *
  have oM1 := AHeap.own_put_eq hz MM (.map (mapP (setK m' (castD dk0) ((facesP (rotN rs) P).length + 1 : Nat))))
  have lz1 : Le (rem [MM] hE) (hz.put MM (.map (mapP (setK m' (castD dk0) ((facesP (rotN rs) P).length + 1 : Nat))))) := lz.put _ kM
  have wz1 : WF (hz.put MM (.map (mapP (setK m' (castD dk0) ((facesP (rotN rs) P).length + 1 : Nat))))) := hwz.put _ (hwz.lt oM')
  have oE1 : (hz.put MM (.map (mapP (setK m' (castD dk0) ((facesP (rotN rs) P).length + 1 : Nat))))).own E = some (.cells (cellsP (castD dk0))) := by rw [AHeap.own_put_ne _ _ _ _ eM]; exact oE'
  have gc1 : GI (hz.put MM (.map (mapP (setK m' (castD dk0) ((facesP (rotN rs) P).length + 1 : Nat))))) cv ((List.range k).map fun x => (((it (fph (rotN rs)) x (i, w)).1 : Nat) : Int)) := GS.put gc _ cM
  generalize hz.put MM (.map (mapP (setK m' (castD dk0) ((facesP (rotN rs) P).length + 1 : Nat)))) = hz1 at *
  have m0 : aload Try.prog hz1 3 ⟨E, 0, none⟩ = some (.int .i64 (dk0.1 : Int)) := own0 oE1
  obtain ⟨cv', h4, h5, e4, e5, g5, w5, l4, f5, k5⟩ := gc1.push wz1 ((dk0.1 : Nat) : Int) (by rw [List.length_map, List.length_range]; exact len_ok5 hkl hord (Nat.le_refl _))
  obtain ⟨l5, a5⟩ := f5 _ lz1 ac
  obtain ⟨oM5, cM5⟩ := k5 MM _ oM1 cM
  obtain ⟨oE5, cE5⟩ := k5 E _ oE1 cE
  have ld5 := own42 oE5
  obtain ⟨h6', h6, e6, s6, l6, w6, o6⟩ := new42 w5 (castD dk0)
  have nE5 : h5.own h5.next = none := (Le.refl h5).next w5 (Nat.le_refl _)
  generalize h5.next = E' at *
  have ld6 := own42 o6
  have lz6 := l5.trans l6
  have lkb := mapPP_look (lz6.own _ _ kB) hbeh
  have st2 := store42 (p := castD (it (fph (rotN rs)) (k + 1) (i, w))) o6
  have eM' : E' ≠ MM := fun e => by rw [e, oM5] at nE5; cases nE5
  have cE' : blk cv' ≠ some E' := fun e => GS.blk_own g5 e nE5
  have oEf := AHeap.own_put_eq h6 E' (.cells (cellsP (castD (it (fph (rotN rs)) (k + 1) (i, w)))))
  have oMf : (h6.put E' (.cells (cellsP (castD (it (fph (rotN rs)) (k + 1) (i, w)))))).own MM = some (.map (mapP (setK m' (castD dk0) ((facesP (rotN rs) P).length + 1 : Nat)))) := by rw [AHeap.own_put_ne _ _ _ _ (Ne.symm eM')]; exact l6.own _ _ oM5
  simp only [kS1, bLookup, bMapSet, wantA, isCall, stepOp, evalO, evalL, evalP, evalM, putDst, flat, kA, kB, Nat.reduceLT, ↓reduceIte, kC, Nat.reduceEqDiff, aBuiltin, abinG, guardFree, abin, aInt, aUn, aNilCheck, retQ, retQ1, aresults, aresultL, aresult, mkF, undefV, reduceCtorEq, kD, kE, kF, kG, kH, kI, kJ, kK, aExtract, calleeOf, ldz, lookP_none, lkz, dk, lfl, hawF, setP_none, st1, pa0, aadd, Nat.zero_add, m0, e4, e5, ld5, e6, s6, lookPP_none, ld6, lkb, st2]
  refine loop_again (ordr (fph (rotN rs)) (i, w) - (k + 1)) [(6, .map (some MB)), (11, fv), (12, .map (some MM)), (13, .int .i64 i), (18, cv'), (19, .pointer (some ⟨E', 0, none⟩)), (61, bv), (62, .int .i64 rs.length), (63, .int .i64 i), (68, bu), (69, .int .i64 Rw.length), (70, .int .i64 j)] (stp hkl) (by simp only [hasAll, kS1, bLookup, bMapSet, wantA, isCall, stepOp, evalO, evalL, evalP, evalM, putDst, flat, kA, kB, Nat.reduceLT, ↓reduceIte, kC, Nat.reduceEqDiff, aBuiltin, abinG, guardFree, abin, aInt, aUn, aNilCheck, retQ, retQ1, aresults, aresultL, aresult, mkF, undefV, reduceCtorEq, kD, kE, kF, kG, kH, kI, kJ, kK, aExtract, calleeOf]; simp)
   ⟨k + 1, cv', E', _, rfl, hkl, rfl, oEf, oMf, by rw [hrange]; exact GS.put (GI.le g5 l6) _ cE', lz6.put _ (l5.none nE5), a5, cM5, cE', eM', fun e he => ?_⟩
  rw [lookK_set]
  by_cases ee : castD dk0 = castD e
  ·have := castD_inj ee
   subst this
   rw [if_pos rfl, Option.getD_some]
   exact ⟨fun _ => .inr ⟨k, Nat.lt_succ_self k, hD⟩, fun _ => dec_succ _⟩
  ·rw [if_neg ee, hm' e he]
   constructor
   ·rintro (h | ⟨x, hx, h⟩)
    ·exact .inl h
    ·exact .inr ⟨x, Nat.lt_succ_of_lt hx, h⟩
   ·rintro (h | ⟨x, hx, h⟩)
    ·exact .inl h
    ·refine .inr ⟨x, Nat.lt_of_le_of_ne (Nat.le_of_lt_succ hx) fun e2 => ee ?_, h⟩
     subst e2; rw [← hD, h]
end Go.Fw
