/- A text of the proof. -/
import Derived.Test.YtnaahaldkpdjlaaFwLH3
import Derived.Test.YtnaahaldkpdjlaaFwLN5
import Derived.Test.YtnaahaldkpdjlaaFwLF4
import Derived.Test.YtnaahaldkpdjlaaFwLF6
set_option linter.unusedSimpArgs false
set_option linter.unusedVariables false
namespace Go.Fw
open Go.Proofs
attribute [local irreducible] KO4 KO3 KO2 KO1 KO KN KX KE VK KCond KDraw KCall KLoop
set_option maxHeartbeats 16000000
set_option maxRecDepth 10000
attribute [local instance] Classical.propDecidable
noncomputable def ofP (rs : List (List Int)) (v j : Nat) : List Pr := ((List.range j).filter fun w => decide (v < w ∧ ∃ i, Once (rs.getD v []) (w : Int) i)).map fun (w : Nat) => ((v : Int), (w : Int))
noncomputable def ofE (rs : List (List Int)) (k : Nat) : List Pr := (List.range k).flatMap fun v => ofP rs v rs.length
theorem ofP_zero (rs : List (List Int)) (v : Nat) : ofP rs v (v + 1) = [] := by
 unfold ofP
 rw [List.map_eq_nil_iff, List.filter_eq_nil_iff]
 intro w hw
 rw [List.mem_range] at hw
 simp only [decide_eq_true_eq]
 rintro ⟨h, _⟩
 omega
theorem ofP_succ (rs : List (List Int)) (v j : Nat) : ofP rs v (j + 1) = ofP rs v j ++ if v < j ∧ ∃ i, Once (rs.getD v []) (j : Int) i then [((v : Int), (j : Int))] else [] := by
 unfold ofP
 rw [List.range_succ, List.filter_append, List.map_append]
 congr 1
 by_cases c : v < j ∧ ∃ i, Once (rs.getD v []) (j : Int) i
 ·rw [if_pos c, List.filter_cons, if_pos (by simpa using c)]; rfl
 ·rw [if_neg c, List.filter_cons, if_neg (by simpa using c)]; rfl
theorem ofE_succ (rs : List (List Int)) (k : Nat) : ofE rs (k + 1) = ofE rs k ++ ofP rs k rs.length := by
 unfold ofE; rw [List.range_succ, List.flatMap_append]; simp
theorem ofP_len (rs : List (List Int)) (v j : Nat) : (ofP rs v j).length ≤ j := by
 unfold ofP
 rw [List.length_map]
 have := List.length_filter_le (fun w => decide (v < w ∧ ∃ i, Once (rs.getD v []) (w : Int) i)) (List.range j)
 rwa [List.length_range] at this
theorem ofE_len (rs : List (List Int)) : ∀ k, (ofE rs k).length ≤ k * rs.length
 | 0 => by simp [ofE]
 | k + 1 => by
  rw [ofE_succ, List.length_append, Nat.add_mul]
  have := ofE_len rs k
  have := ofP_len rs k rs.length
  omega
theorem ofE_small {rs : List (List Int)} (h : rs.length ≤ 200) {k j : Nat} (hk : k < rs.length) (hj : j ≤ rs.length) : (ofE rs k ++ ofP rs k j).length + 1 ≤ 100000 := by
 have h1 := ofE_len rs k
 have h2 := ofP_len rs k j
 have h3 : k * rs.length ≤ 200 * 200 := Nat.mul_le_mul (by omega) h
 rw [List.length_append]; omega
theorem mem_ofE {rs : List (List Int)} {k : Nat} {p : Pr} : p ∈ ofE rs k ↔ ∃ v w : Nat, v < k ∧ w < rs.length ∧ v < w ∧ (∃ i, Once (rs.getD v []) (w : Int) i) ∧ p = ((v : Int), (w : Int)) := by
 unfold ofE ofP
 simp only [List.mem_flatMap, List.mem_range, List.mem_map, List.mem_filter, decide_eq_true_eq]
 constructor
 ·rintro ⟨v, hv, w, ⟨hw, h1, h2⟩, rfl⟩; exact ⟨v, w, hv, hw, h1, h2, rfl⟩
 ·rintro ⟨v, w, hv, hw, h1, h2, rfl⟩; exact ⟨v, hv, w, ⟨hw, h1, h2⟩, rfl⟩
theorem ofE_asc (rs : List (List Int)) : ∀ k, (ofE rs k).Pairwise fun a b => a.1 < b.1 ∨ a.1 = b.1 ∧ a.2 < b.2
 | 0 => by simp [ofE]
 | k + 1 => by
  rw [ofE_succ, List.pairwise_append]
  refine ⟨ofE_asc rs k, ?_, fun a ha b hb => ?_⟩
  ·unfold ofP
   rw [List.pairwise_map]
   exact ((List.pairwise_lt_range (n := rs.length)).filter _).imp fun h => .inr ⟨rfl, by simp only; omega⟩
  ·obtain ⟨v, w, hv, _, _, _, rfl⟩ := mem_ofE.1 ha
   unfold ofP at hb
   obtain ⟨x, _, rfl⟩ := List.mem_map.1 hb
   exact .inl (by simp only; omega)
theorem ROf_any (W0 : Base) (v : Value) (rs : List (List Int)) (h : AHeap) (hv : RL (RL isI) h v rs) (hn : rs.length ≤ 200) (hl : ∀ l ∈ rs, l.length ≤ 100000) :
  AC Try.prog W0 76 [v] h fun x h' => GR h' x ⟨(rs.length : Int), ofE rs rs.length⟩ ∧ Le h h' := by
 refine AC.vc (fn := Try.f76) (c := _) ⟨Try.func76, rfl, by decide⟩ Try.ntmps76 Try.results76 (by simp) fun hwf => ?_
 simp only [argFrame, argFrom, Nat.reduceAdd]
 have lr := fun g => hv.len (P := Try.prog) Try.underlying52 g
 obtain ⟨h2, e2, l2, w2, o2⟩ := alloc_f hwf [.int .i64 0, .slice none 0 0]
 have nR : h.own h.next = none := (Le.refl h).next hwf (Nat.le_refl _)
 obtain ⟨h3, h4, e3, e4, l4, w4, nX, gx4⟩ := GX.new w2 (rs.length : Int)
 have neXR : h2.next ≠ h.next := fun e => by rw [e, o2] at nX; cases nX
 have oR4 := l4.own _ _ o2
 have al := alloc24 h
 rw [e2] at al
 simp only [kS1, bLookup, bMapSet, wantA, isCall, stepOp, evalO, evalL, evalP, evalM, putDst, flat, kA, kB, Nat.reduceLT, ↓reduceIte, kC, Nat.reduceEqDiff, aBuiltin, abinG, guardFree, abin, aInt, aUn, aNilCheck, retQ, retQ1, aresults, aresultL, aresult, mkF, undefV, reduceCtorEq, kD, kE, kF, kG, kH, kI, kJ, kK, aExtract, calleeOf, al, lr, build24e, e3, e4]
 have nX1 := l2.none nX
 generalize h2.next = X at *
 generalize h.next = R at *
 have aX : Apart h (.slice none 0 0) := fun b hb => by cases hb
 refine KLoop.intro (fun k fr hq => ∃ (i : Nat) (xv : Value), k = rs.length - i ∧ i ≤ rs.length ∧ fr = mkF [(0, v), (2, .pointer (some ⟨R, 0, none⟩)), (3, .pointer (some ⟨X, 0, none⟩)), (4, .int .i64 i)] ∧
   GX hq X (rs.length : Int) xv (ofE rs i) ∧ Le h hq ∧ Apart h xv ∧ hq.own R = some (.cells [.int .i64 0, .slice none 0 0]) ∧ blk xv ≠ some R)
  rs.length [(0, v), (2, .pointer (some ⟨R, 0, none⟩)), (3, .pointer (some ⟨X, 0, none⟩)), (4, .int .i64 (0 : Nat))] (by simp only [hasAll, kS1, bLookup, bMapSet, wantA, isCall, stepOp, evalO, evalL, evalP, evalM, putDst, flat, kA, kB, Nat.reduceLT, ↓reduceIte, kC, Nat.reduceEqDiff, aBuiltin, abinG, guardFree, abin, aInt, aUn, aNilCheck, retQ, retQ1, aresults, aresultL, aresult, mkF, undefV, reduceCtorEq, kD, kE, kF, kG, kH, kI, kJ, kK, aExtract, calleeOf]; simp)
  ⟨0, _, rfl, Nat.zero_le _, rfl, gx4, l2.trans l4, aX, oR4, by simp [blk]⟩ ?_
 clear gx4 aX oR4 w4 l4 e4 e3 o2 e2
 clear h3 h4
 rintro k fr hq hwq ⟨i, xv, rfl, hi, rfl, gx, leq, ax, oR, nxR⟩
 simp only [kS1, bLookup, bMapSet, wantA, isCall, stepOp, evalO, evalL, evalP, evalM, putDst, flat, kA, kB, Nat.reduceLT, ↓reduceIte, kC, Nat.reduceEqDiff, aBuiltin, abinG, guardFree, abin, aInt, aUn, aNilCheck, retQ, retQ1, aresults, aresultL, aresult, mkF, undefV, reduceCtorEq, kD, kE, kF, kG, kH, kI, kJ, kK, aExtract, calleeOf, lr]
 refine KCond.intro (fun ht => ?_) (fun hf => ?_)
 ·have hlt : i < rs.length := lt_t ht
  clear ht
  have ar := hv.addr (P := Try.prog) Try.underlying52 Try.underlying38 (by kernel_rfl) (k := .i64) i hlt
  obtain ⟨u, lu', hu⟩ := hv.load' (P := Try.prog) Try.underlying38 rfl i hlt
  have hll := hl _ (List.getElem_mem hlt)
  have hgd : rs.getD i [] = rs[i] := getD_of hlt
  have hP0 := ofP_zero rs i
  have hPs := fun j => ofP_succ rs i j
  have hEs := ofE_succ rs i
  have hsm := fun j (hj : j ≤ rs.length) => ofE_small hn hlt hj
  simp only [hgd] at hPs
  generalize rs[i] = r at *
  have hwi := awrap_succ i (by omega)
  simp only [kS1, bLookup, bMapSet, wantA, isCall, stepOp, evalO, evalL, evalP, evalM, putDst, flat, kA, kB, Nat.reduceLT, ↓reduceIte, kC, Nat.reduceEqDiff, aBuiltin, abinG, guardFree, abin, aInt, aUn, aNilCheck, retQ, retQ1, aresults, aresultL, aresult, mkF, undefV, reduceCtorEq, kD, kE, kF, kG, kH, kI, kJ, kK, aExtract, calleeOf, hwi]
  refine KLoop.intro (fun k fr hz => ∃ (j : Nat) (xv : Value), k = rs.length - j ∧ i < j ∧ j ≤ rs.length ∧ fr = mkF [(0, v), (2, .pointer (some ⟨R, 0, none⟩)), (3, .pointer (some ⟨X, 0, none⟩)), (4, .int .i64 i), (5, .int .i64 j)] ∧
    GX hz X (rs.length : Int) xv (ofE rs i ++ ofP rs i j) ∧ Le h hz ∧ Apart h xv ∧ hz.own R = some (.cells [.int .i64 0, .slice none 0 0]) ∧ blk xv ≠ some R)
   (rs.length - (i + 1)) [(0, v), (2, .pointer (some ⟨R, 0, none⟩)), (3, .pointer (some ⟨X, 0, none⟩)), (4, .int .i64 i), (5, .int .i64 (i + 1 : Nat))] (by simp only [hasAll, kS1, bLookup, bMapSet, wantA, isCall, stepOp, evalO, evalL, evalP, evalM, putDst, flat, kA, kB, Nat.reduceLT, ↓reduceIte, kC, Nat.reduceEqDiff, aBuiltin, abinG, guardFree, abin, aInt, aUn, aNilCheck, retQ, retQ1, aresults, aresultL, aresult, mkF, undefV, reduceCtorEq, kD, kE, kF, kG, kH, kI, kJ, kK, aExtract, calleeOf]; simp)
   ⟨i + 1, xv, rfl, Nat.lt_succ_self i, hlt, rfl, by rw [hP0, List.append_nil]; exact gx, leq, ax, oR, nxR⟩ ?_
  clear gx leq ax oR nxR
  clear xv
  rintro k fr hz hwz ⟨j, xv, rfl, hij, hj, rfl, gx, leq, ax, oR, nxR⟩
  simp only [kS1, bLookup, bMapSet, wantA, isCall, stepOp, evalO, evalL, evalP, evalM, putDst, flat, kA, kB, Nat.reduceLT, ↓reduceIte, kC, Nat.reduceEqDiff, aBuiltin, abinG, guardFree, abin, aInt, aUn, aNilCheck, retQ, retQ1, aresults, aresultL, aresult, mkF, undefV, reduceCtorEq, kD, kE, kF, kG, kH, kI, kJ, kK, aExtract, calleeOf, lr]
  refine KCond.intro (fun ht => ?_) (fun hf => ?_)
  ·have hjt : j < rs.length := lt_t ht
   clear ht
   have luz := lu' hz leq
   have hwj := awrap_succ j (by omega)
   have hPj := hPs j
   simp only [kS1, bLookup, bMapSet, wantA, isCall, stepOp, evalO, evalL, evalP, evalM, putDst, flat, kA, kB, Nat.reduceLT, ↓reduceIte, kC, Nat.reduceEqDiff, aBuiltin, abinG, guardFree, abin, aInt, aUn, aNilCheck, retQ, retQ1, aresults, aresultL, aresult, mkF, undefV, reduceCtorEq, kD, kE, kF, kG, kH, kI, kJ, kK, aExtract, calleeOf, ar, luz]
   refine KCall.intro (by simp only [kS1, bLookup, bMapSet, wantA, isCall, stepOp, evalO, evalL, evalP, evalM, putDst, flat, kA, kB, Nat.reduceLT, ↓reduceIte, kC, Nat.reduceEqDiff, aBuiltin, abinG, guardFree, abin, aInt, aUn, aNilCheck, retQ, retQ1, aresults, aresultL, aresult, mkF, undefV, reduceCtorEq, kD, kE, kF, kG, kH, kI, kJ, kK, aExtract, calleeOf] <;> rfl) ⟨Try.func77, rfl, by decide⟩ (place_any W0 u r (j : Int) hz (hu.le Stays.isI leq) hll) ?_
   rintro x h5 w5 ⟨⟨k, hk, hko, rfl⟩ | ⟨rfl, hno⟩, rfl⟩
   ·have d : decide ((k : Int) ≥ 0) = true := decide_eq_true (by omega)
    rw [if_pos ⟨hij, k, hko⟩] at hPj
    have hbl := hsm j hj
    obtain ⟨v', g4, g5, g6, q4, q5, q6, gx9, w9, lq4, f9, k9, f5, oX5⟩ := gx.push2 hwz ((i : Int), (j : Int)) (by omega)
    have glg5 : aload Try.prog g5 22 ⟨X, 1, none⟩ = some xv := aload_one Try.underlying22 rfl oX5
    obtain ⟨l9, a9⟩ := f9 h leq nX1 ax
    obtain ⟨oR9, nR9⟩ := k9 R _ oR (Ne.symm neXR) nxR
    have gl := gx.ld
    have glg4 := (gx.le lq4).ld
    simp only [kS1, bLookup, bMapSet, wantA, isCall, stepOp, evalO, evalL, evalP, evalM, putDst, flat, kA, kB, Nat.reduceLT, ↓reduceIte, kC, Nat.reduceEqDiff, aBuiltin, abinG, guardFree, abin, aInt, aUn, aNilCheck, retQ, retQ1, aresults, aresultL, aresult, mkF, undefV, reduceCtorEq, kD, kE, kF, kG, kH, kI, kJ, kK, aExtract, calleeOf, d, build42, fg1, aadd, Nat.zero_add, gl.2.2, glg4.2.2, glg5, q4, q5, q6, hwj]
    exact loop_again (rs.length - (j + 1)) [(0, v), (2, .pointer (some ⟨R, 0, none⟩)), (3, .pointer (some ⟨X, 0, none⟩)), (4, .int .i64 i), (5, .int .i64 (j + 1 : Nat))] (stq hjt) (by simp only [hasAll, kS1, bLookup, bMapSet, wantA, isCall, stepOp, evalO, evalL, evalP, evalM, putDst, flat, kA, kB, Nat.reduceLT, ↓reduceIte, kC, Nat.reduceEqDiff, aBuiltin, abinG, guardFree, abin, aInt, aUn, aNilCheck, retQ, retQ1, aresults, aresultL, aresult, mkF, undefV, reduceCtorEq, kD, kE, kF, kG, kH, kI, kJ, kK, aExtract, calleeOf]; simp)
     ⟨j + 1, v', rfl, by omega, hjt, rfl, by rw [hPj, ← List.append_assoc]; exact gx9, l9, a9, oR9, nR9⟩
   ·have d : decide ((-1 : Int) ≥ 0) = false := by decide
    rw [if_neg (fun q => by obtain ⟨k, hk⟩ := q.2; exact hno k hk), List.append_nil] at hPj
    simp only [kS1, bLookup, bMapSet, wantA, isCall, stepOp, evalO, evalL, evalP, evalM, putDst, flat, kA, kB, Nat.reduceLT, ↓reduceIte, kC, Nat.reduceEqDiff, aBuiltin, abinG, guardFree, abin, aInt, aUn, aNilCheck, retQ, retQ1, aresults, aresultL, aresult, mkF, undefV, reduceCtorEq, kD, kE, kF, kG, kH, kI, kJ, kK, aExtract, calleeOf, d, hwj]
    exact loop_again (rs.length - (j + 1)) [(0, v), (2, .pointer (some ⟨R, 0, none⟩)), (3, .pointer (some ⟨X, 0, none⟩)), (4, .int .i64 i), (5, .int .i64 (j + 1 : Nat))] (stq hjt) (by simp only [hasAll, kS1, bLookup, bMapSet, wantA, isCall, stepOp, evalO, evalL, evalP, evalM, putDst, flat, kA, kB, Nat.reduceLT, ↓reduceIte, kC, Nat.reduceEqDiff, aBuiltin, abinG, guardFree, abin, aInt, aUn, aNilCheck, retQ, retQ1, aresults, aresultL, aresult, mkF, undefV, reduceCtorEq, kD, kE, kF, kG, kH, kI, kJ, kK, aExtract, calleeOf]; simp)
     ⟨j + 1, xv, rfl, by omega, hjt, rfl, by rw [hPj]; exact gx, leq, ax, oR, nxR⟩
  ·have hge : rs.length ≤ j := lt_f hf
   obtain rfl : j = rs.length := by omega
   rw [← hEs] at gx
   simp only [kS1, bLookup, bMapSet, wantA, isCall, stepOp, evalO, evalL, evalP, evalM, putDst, flat, kA, kB, Nat.reduceLT, ↓reduceIte, kC, Nat.reduceEqDiff, aBuiltin, abinG, guardFree, abin, aInt, aUn, aNilCheck, retQ, retQ1, aresults, aresultL, aresult, mkF, undefV, reduceCtorEq, kD, kE, kF, kG, kH, kI, kJ, kK, aExtract, calleeOf, hwi]
   exact loop_again (rs.length - (i + 1)) [(0, v), (2, .pointer (some ⟨R, 0, none⟩)), (3, .pointer (some ⟨X, 0, none⟩)), (4, .int .i64 (i + 1 : Nat))] (stq hlt) (by simp only [hasAll, kS1, bLookup, bMapSet, wantA, isCall, stepOp, evalO, evalL, evalP, evalM, putDst, flat, kA, kB, Nat.reduceLT, ↓reduceIte, kC, Nat.reduceEqDiff, aBuiltin, abinG, guardFree, abin, aInt, aUn, aNilCheck, retQ, retQ1, aresults, aresultL, aresult, mkF, undefV, reduceCtorEq, kD, kE, kF, kG, kH, kI, kJ, kK, aExtract, calleeOf]; simp)
    ⟨i + 1, xv, rfl, hlt, rfl, gx, leq, ax, oR, nxR⟩
 ·have hge : rs.length ≤ i := lt_f hf
  obtain rfl : i = rs.length := by omega
  have gl := gx.ld
  have ts24 : tsize Try.prog 24 = 2 := by kernel_rfl
  have one := gx.gp.pr.sl.one
  have st : aStore Try.prog hq 24 (.pointer (some ⟨R, 0, none⟩)) (.agg #[.int .i64 (rs.length : Int), xv]) = some (hq.put R (.cells [.int .i64 (rs.length : Int), xv])) := by
   have hc : (Value.agg #[.int .i64 (rs.length : Int), xv]).cells = #[.int .i64 (rs.length : Int), xv] := rfl
   have h0 : (Value.int IntKind.i64 (rs.length : Int)).oneCell' = true := rfl
   simp [aStore, oR, hc, ts24, putCells, Try.underlying24, one, h0]
  have oo := AHeap.own_put_eq hq R (.cells [.int .i64 (rs.length : Int), xv])
  have ldR : aload Try.prog (hq.put R (.cells [.int .i64 (rs.length : Int), xv])) 24 ⟨R, 0, none⟩ = some (.agg #[.int .i64 (rs.length : Int), xv]) := by
   rw [aload_own Try.underlying24 rfl ts24 oo (by simp)]; rfl
  simp only [kS1, bLookup, bMapSet, wantA, isCall, stepOp, evalO, evalL, evalP, evalM, putDst, flat, kA, kB, Nat.reduceLT, ↓reduceIte, kC, Nat.reduceEqDiff, aBuiltin, abinG, guardFree, abin, aInt, aUn, aNilCheck, retQ, retQ1, aresults, aresultL, aresult, mkF, undefV, reduceCtorEq, kD, kE, kF, kG, kH, kI, kJ, kK, aExtract, calleeOf, gl.1, st, ldR]
  exact ⟨⟨xv, rfl, (show GP _ xv _ from GS.put gx.gp _ nxR).pr⟩, leq.put _ nR⟩
end Go.Fw
namespace Go.Fw
open Go.Proofs
attribute [local irreducible] KO4 KO3 KO2 KO1 KO KN KX KE VK KCond KDraw KCall KLoop
set_option maxHeartbeats 16000000
set_option maxRecDepth 10000
attribute [local instance] Classical.propDecidable
theorem RotG.nodup {n : Nat} {es : List Pr} {rs : List (List Int)} (hr : InR n es) (ha : Asc es) (G : RotG n es rs) {v : Nat} (hv : v < n) : (rs.getD v []).Nodup :=
 (G.perm v hv).nodup_iff.2 (List.nodup_iff_pairwise_ne.2 ((besM_asc es hr ha v).imp fun h => by omega))
theorem beh_eq {n : Nat} {es : List Pr} {rs : List (List Int)} (hr : InR n es) (ha : Asc es) (G : RotG n es rs) {a b : Nat} (hd : b ∈ rotN rs a) :
  b < n ∧ ∃ i, Once (rs.getD b []) (a : Int) i ∧ ∀ hm : (i + 1) % (rs.getD b []).length < (rs.getD b []).length, (rs.getD b [])[(i + 1) % (rs.getD b []).length] = (((fph (rotN rs) (a, b)).2 : Nat) : Int) := by
 have R := G.isRot hr ha
 have hb := R.sy _ _ hd
 have hbn := R.lt _ _ hb
 refine ⟨hbn, ?_⟩
 obtain ⟨i, hi⟩ := List.mem_iff_getElem?.1 hb
 obtain ⟨hil, hie⟩ := List.getElem?_eq_some_iff.1 hi
 have hl : (rotN rs b).length = (rs.getD b []).length := by rw [rotN, List.length_map]
 obtain ⟨hj, ej⟩ := G.row hr b (j := i) (by omega)
 have hx : (rs.getD b [])[i]? = some (a : Int) := by rw [List.getElem?_eq_getElem (by omega), ej, hie]
 obtain ⟨q, hq⟩ := once_of_nodup (G.nodup hr ha hbn) (List.mem_of_getElem? hx)
 obtain rfl := hq.2 i hx
 refine ⟨i, hq, fun hm => ?_⟩
 obtain ⟨hj2, ej2⟩ := G.row hr b hm
 rw [ej2]
 congr 1
 have := nx_idx (R.nd b) hil
 rw [hie] at this
 rw [fph]
 simp only [this, hl]
theorem mkI1 {h : AHeap} (hw : WF h) (x : Int) : ∃ h', aBuildSlice Try.prog h 38 1 [(0, .int .i64 x)] = some (.slice (some ⟨h.next, 0, none⟩) 1 1, h') ∧ Le h h' ∧ WF h' ∧ GI h' (.slice (some ⟨h.next, 0, none⟩) 1 1) [x] ∧ Apart h (.slice (some ⟨h.next, 0, none⟩) 1 1) := by
 obtain ⟨h', e, l, w, o⟩ := alloc_f hw [.int .i64 x]
 refine ⟨h', by rw [mk1, e], l, w, GS.full (k := 1) (n := 1) o rfl (by decide), fun b hb => ?_⟩
 injection hb with hb; subst hb
 exact (Le.refl h).next hw (Nat.le_refl _)
theorem row_len {n : Nat} {es : List Pr} {rs : List (List Int)} (hr : RightG ⟨(n : Int), es⟩) (G : RotG n es rs) {v : Nat} (hv : v < n) : (rs.getD v []).length ≤ 100000 := by
 have h1 := row_small hr.inR hr.asc G hv
 have h2 : (n : Int) ≤ 200 := hr.n1
 omega
theorem ord_le {n : Nat} {es : List Pr} {rs : List (List Int)} (hr : RightG ⟨(n : Int), es⟩) (G : RotG n es rs) {d : Dart} (hd : d ∈ dl n (rotN rs)) : ordr (fph (rotN rs)) d ≤ 40000 := by
 have R := G.isRot hr.inR hr.asc
 have h200 : (n : Int) ≤ 200 := hr.n1
 have h1 := sub_len (orbL_nodup (phi_pm R) hd) (B := ddl n (rotN rs)) fun z hz => (mem_ddl R).2 ((mem_dl R).1 ((phi_pm R).orb_mem hd ((mem_orbL (phi_pm R) hd).1 hz)))
 have h2 := rowsD_len n (rotN rs) n
 rw [rowsD_all] at h2
 have h3 : n * n ≤ 200 * 200 := Nat.mul_le_mul (by omega) (by omega)
 rw [orbL_len] at h1
 omega
theorem RAround_any (W0 : Base) (rv : Value) (n : Nat) (es : List Pr) (rs : List (List Int)) (h : AHeap) (hv : RL (RL isI) h rv rs) (hr : RightG ⟨(n : Int), es⟩) (G : RotG n es rs) (v w : Nat) (hd : ((v, w) : Dart) ∈ dl n (rotN rs)) :
  AC Try.prog W0 78 [rv, .int .i64 (v : Int), .int .i64 (w : Int)] h fun x h' => Le h h' ∧ ((Hd (rotN rs) (v, w) ∧ ∃ fv, x = .tuple #[fv, .bool true] ∧ GI h' fv (nat64 (faceF (rotN rs) (v, w))) ∧ Apart h fv) ∨ (¬ Hd (rotN rs) (v, w) ∧ x = .tuple #[.slice none 0 0, .bool false])) := by
 have hR := hr.inR
 have hA := hr.asc
 have R := G.isRot hR hA
 have p := phi_pm R
 obtain ⟨o0, o1, o2⟩ := ordr_spec p hd
 have hord := ord_le hr G hd
 have hrl := fun v (hv : v < n) => row_len hr G (v := v) hv
 have hbe := fun a b hd => beh_eq hR hA G (a := a) (b := b) hd
 have hfl := face_list (rotN rs) (v, w)
 have hri := range_it (fph (rotN rs)) (v, w)
 have hm := fun e => mem_orbL p hd (y := e)
 have hmd := fun e => mem_dl R (d := e)
 have hlen := G.len
 refine AC.vc (fn := Try.f78) (c := _) ⟨Try.func78, rfl, by decide⟩ Try.ntmps78 Try.results78 (by simp) fun hwf => ?_
 simp only [argFrame, argFrom, Nat.reduceAdd]
 obtain ⟨h1, e1, l1, w1, g1, a1⟩ := mkI1 hwf (v : Int)
 generalize Value.slice (some ⟨h.next, 0, none⟩) 1 1 = cv0 at *
 simp only [kS1, bLookup, bMapSet, wantA, isCall, stepOp, evalO, evalL, evalP, evalM, putDst, flat, kA, kB, Nat.reduceLT, ↓reduceIte, kC, Nat.reduceEqDiff, aBuiltin, abinG, guardFree, abin, aInt, aUn, aNilCheck, retQ, retQ1, aresults, aresultL, aresult, mkF, undefV, reduceCtorEq, kD, kE, kF, kG, kH, kI, kJ, kK, aExtract, calleeOf, e1]
 refine KLoop.intro (fun kk fr hz => ∃ (k : Nat) (cv : Value), kk = ordr (fph (rotN rs)) (v, w) - k ∧ k < ordr (fph (rotN rs)) (v, w) ∧ fr = mkF [(0, rv), (1, .int .i64 (v : Int)), (2, .int .i64 (w : Int)), (8, cv), (9, .int .i64 ((it (fph (rotN rs)) k (v, w)).1 : Nat)), (10, .int .i64 ((it (fph (rotN rs)) k (v, w)).2 : Nat))] ∧
   GI hz cv ((List.range (k + 1)).map fun i => (((it (fph (rotN rs)) i (v, w)).1 : Nat) : Int)) ∧ Le h hz ∧ Apart h cv ∧ ∀ i, i ≤ k → ¬ ltD (it (fph (rotN rs)) i (v, w)) (v, w))
  (ordr (fph (rotN rs)) (v, w)) [(0, rv), (1, .int .i64 (v : Int)), (2, .int .i64 (w : Int)), (8, cv0), (9, .int .i64 (v : Int)), (10, .int .i64 (w : Int))] (by simp only [hasAll, kS1, bLookup, bMapSet, wantA, isCall, stepOp, evalO, evalL, evalP, evalM, putDst, flat, kA, kB, Nat.reduceLT, ↓reduceIte, kC, Nat.reduceEqDiff, aBuiltin, abinG, guardFree, abin, aInt, aUn, aNilCheck, retQ, retQ1, aresults, aresultL, aresult, mkF, undefV, reduceCtorEq, kD, kE, kF, kG, kH, kI, kJ, kK, aExtract, calleeOf]; simp)
  ⟨0, cv0, rfl, o0, rfl, g1, l1, a1, fun i hi => by obtain rfl : i = 0 := (by omega); exact ltD_irr _⟩ ?_
 clear g1 l1 a1 w1 e1
 clear h1
 rintro kk fr hz hwz ⟨k, cv, rfl, hk, rfl, gc, lz, ac, hno⟩
 have hit : ∀ k, it (fph (rotN rs)) (k + 1) (v, w) = fph (rotN rs) (it (fph (rotN rs)) k (v, w)) := fun k => rfl
 have hkm := p.it_mem hd k
 have hnx := hit k
 have hr1 := hri (k + 1)
 generalize hdk : it (fph (rotN rs)) k (v, w) = dk at *
 obtain ⟨a, b⟩ := dk
 obtain ⟨hbn, i, hon, hat⟩ := hbe a b ((hmd _).1 hkm)
 have hb1 : b < rs.length := by omega
 have hgd : rs.getD b [] = rs[b] := getD_of hb1
 have hbl := hrl b hbn
 simp only [hgd] at hon hat hbl
 simp only [kS1, bLookup, bMapSet, wantA, isCall, stepOp, evalO, evalL, evalP, evalM, putDst, flat, kA, kB, Nat.reduceLT, ↓reduceIte, kC, Nat.reduceEqDiff, aBuiltin, abinG, guardFree, abin, aInt, aUn, aNilCheck, retQ, retQ1, aresults, aresultL, aresult, mkF, undefV, reduceCtorEq, kD, kE, kF, kG, kH, kI, kJ, kK, aExtract, calleeOf]
 refine KCall.intro (by simp only [kS1, bLookup, bMapSet, wantA, isCall, stepOp, evalO, evalL, evalP, evalM, putDst, flat, kA, kB, Nat.reduceLT, ↓reduceIte, kC, Nat.reduceEqDiff, aBuiltin, abinG, guardFree, abin, aInt, aUn, aNilCheck, retQ, retQ1, aresults, aresultL, aresult, mkF, undefV, reduceCtorEq, kD, kE, kF, kG, kH, kI, kJ, kK, aExtract, calleeOf] <;> rfl) ⟨Try.func112, rfl, by decide⟩ (RBehind_any W0 rv rs (a : Int) b i hz (hv.le (Stays.RL Stays.isI) lz) hb1 hbl hon) ?_
 rintro x h2 w2 ⟨⟨hm2, rfl⟩, rfl⟩
 rw [hat hm2]
 have he1 : (it (fph (rotN rs)) (k + 1) (v, w)).1 = b := by rw [hnx]; rfl
 have he2 : (it (fph (rotN rs)) (k + 1) (v, w)).2 = (fph (rotN rs) (a, b)).2 := by rw [hnx]
 rw [← he2]
 have hfst : (b : Int) = (((it (fph (rotN rs)) (k + 1) (v, w)).1 : Nat) : Int) := by rw [he1]
 rw [hfst]
 by_cases ck : k + 1 = ordr (fph (rotN rs)) (v, w)
 ·have hz1 : it (fph (rotN rs)) (k + 1) (v, w) = (v, w) := by rw [ck]; exact o1
  have d1 : decide ((v : Int) = (v : Int)) = true := decide_eq_true rfl
  have d2 : decide ((w : Int) = (w : Int)) = true := decide_eq_true rfl
  rw [ck, hfl] at gc
  simp only [hz1]
  simp only [kS1, bLookup, bMapSet, wantA, isCall, stepOp, evalO, evalL, evalP, evalM, putDst, flat, kA, kB, Nat.reduceLT, ↓reduceIte, kC, Nat.reduceEqDiff, aBuiltin, abinG, guardFree, abin, aInt, aUn, aNilCheck, retQ, retQ1, aresults, aresultL, aresult, mkF, undefV, reduceCtorEq, kD, kE, kF, kG, kH, kI, kJ, kK, aExtract, calleeOf, d1, d2]
  refine ⟨lz, .inl ⟨fun e he hlt => ?_, cv, rfl, gc, ac⟩⟩
  obtain ⟨q, hq⟩ := he
  rw [it_mod p hd] at hq
  have := Nat.mod_lt q o0
  exact hno (q % ordr (fph (rotN rs)) (v, w)) (by omega) (by rw [hq]; exact hlt)
 ·have hk1 : k + 1 < ordr (fph (rotN rs)) (v, w) := by omega
  have hne := o2 (k + 1) (by omega) hk1
  have horb : Orb (fph (rotN rs)) (v, w) (it (fph (rotN rs)) (k + 1) (v, w)) := ⟨k + 1, rfl⟩
  have hnext : ∀ e, e = it (fph (rotN rs)) (k + 1) (v, w) → ¬ ltD e (v, w) → ∀ i, i ≤ k + 1 → ¬ ltD (it (fph (rotN rs)) i (v, w)) (v, w) := fun e he hn i hi => by
   by_cases c : i = k + 1
   ·subst c; rw [← he]; exact hn
   ·exact hno i (by omega)
  obtain ⟨cv', h4, h5, e4, e5, g5, w5, l4, f5, k5⟩ := gc.push hwz (((it (fph (rotN rs)) (k + 1) (v, w)).1 : Nat) : Int) (by rw [List.length_map, List.length_range]; omega)
  obtain ⟨l5, a5⟩ := f5 _ lz ac
  rw [← hr1] at g5
  clear hit hnx hr1 he1 he2 hfst hri hfl hdk
  generalize hee : it (fph (rotN rs)) (k + 1) (v, w) = e at *
  by_cases c1 : e.1 = v
  ·have d1 : decide ((e.1 : Int) = (v : Int)) = true := decide_eq_true (by omega)
   have d2 : decide ((e.2 : Int) = (w : Int)) = false := decide_eq_false fun q => hne (Prod.ext c1 (by omega))
   have d3 : decide ((e.1 : Int) < (v : Int)) = false := decide_eq_false (by omega)
   by_cases c3 : e.2 < w
   ·have d4 : decide ((e.2 : Int) < (w : Int)) = true := decide_eq_true (by omega)
    simp only [kS1, bLookup, bMapSet, wantA, isCall, stepOp, evalO, evalL, evalP, evalM, putDst, flat, kA, kB, Nat.reduceLT, ↓reduceIte, kC, Nat.reduceEqDiff, aBuiltin, abinG, guardFree, abin, aInt, aUn, aNilCheck, retQ, retQ1, aresults, aresultL, aresult, mkF, undefV, reduceCtorEq, kD, kE, kF, kG, kH, kI, kJ, kK, aExtract, calleeOf, d1, d2, d3, d4]
    exact ⟨lz, .inr ⟨fun H => H e horb (.inr ⟨c1, c3⟩), trivial⟩⟩
   ·have d4 : decide ((e.2 : Int) < (w : Int)) = false := decide_eq_false (by omega)
    simp only [kS1, bLookup, bMapSet, wantA, isCall, stepOp, evalO, evalL, evalP, evalM, putDst, flat, kA, kB, Nat.reduceLT, ↓reduceIte, kC, Nat.reduceEqDiff, aBuiltin, abinG, guardFree, abin, aInt, aUn, aNilCheck, retQ, retQ1, aresults, aresultL, aresult, mkF, undefV, reduceCtorEq, kD, kE, kF, kG, kH, kI, kJ, kK, aExtract, calleeOf, d1, d2, d3, d4, e4, e5]
    exact loop_again (ordr (fph (rotN rs)) (v, w) - (k + 1)) [(0, rv), (1, .int .i64 (v : Int)), (2, .int .i64 (w : Int)), (8, cv'), (9, .int .i64 (e.1 : Nat)), (10, .int .i64 (e.2 : Nat))] (stq hk) (by simp only [hasAll, kS1, bLookup, bMapSet, wantA, isCall, stepOp, evalO, evalL, evalP, evalM, putDst, flat, kA, kB, Nat.reduceLT, ↓reduceIte, kC, Nat.reduceEqDiff, aBuiltin, abinG, guardFree, abin, aInt, aUn, aNilCheck, retQ, retQ1, aresults, aresultL, aresult, mkF, undefV, reduceCtorEq, kD, kE, kF, kG, kH, kI, kJ, kK, aExtract, calleeOf]; simp) ⟨k + 1, cv', rfl, hk1, by rw [hee] <;> rfl, g5, l5, a5, hnext e rfl fun h => h.elim (fun h => by omega) fun h => c3 h.2⟩
  ·have d1 : decide ((e.1 : Int) = (v : Int)) = false := decide_eq_false (by omega)
   by_cases c3 : e.1 < v
   ·have d3 : decide ((e.1 : Int) < (v : Int)) = true := decide_eq_true (by omega)
    simp only [kS1, bLookup, bMapSet, wantA, isCall, stepOp, evalO, evalL, evalP, evalM, putDst, flat, kA, kB, Nat.reduceLT, ↓reduceIte, kC, Nat.reduceEqDiff, aBuiltin, abinG, guardFree, abin, aInt, aUn, aNilCheck, retQ, retQ1, aresults, aresultL, aresult, mkF, undefV, reduceCtorEq, kD, kE, kF, kG, kH, kI, kJ, kK, aExtract, calleeOf, d1, d3]
    exact ⟨lz, .inr ⟨fun H => H e horb (.inl c3), trivial⟩⟩
   ·have d3 : decide ((e.1 : Int) < (v : Int)) = false := decide_eq_false (by omega)
    simp only [kS1, bLookup, bMapSet, wantA, isCall, stepOp, evalO, evalL, evalP, evalM, putDst, flat, kA, kB, Nat.reduceLT, ↓reduceIte, kC, Nat.reduceEqDiff, aBuiltin, abinG, guardFree, abin, aInt, aUn, aNilCheck, retQ, retQ1, aresults, aresultL, aresult, mkF, undefV, reduceCtorEq, kD, kE, kF, kG, kH, kI, kJ, kK, aExtract, calleeOf, d1, d3, e4, e5]
    exact loop_again (ordr (fph (rotN rs)) (v, w) - (k + 1)) [(0, rv), (1, .int .i64 (v : Int)), (2, .int .i64 (w : Int)), (8, cv'), (9, .int .i64 (e.1 : Nat)), (10, .int .i64 (e.2 : Nat))] (stq hk) (by simp only [hasAll, kS1, bLookup, bMapSet, wantA, isCall, stepOp, evalO, evalL, evalP, evalM, putDst, flat, kA, kB, Nat.reduceLT, ↓reduceIte, kC, Nat.reduceEqDiff, aBuiltin, abinG, guardFree, abin, aInt, aUn, aNilCheck, retQ, retQ1, aresults, aresultL, aresult, mkF, undefV, reduceCtorEq, kD, kE, kF, kG, kH, kI, kJ, kK, aExtract, calleeOf]; simp) ⟨k + 1, cv', rfl, hk1, by rw [hee] <;> rfl, g5, l5, a5, hnext e rfl fun h => h.elim c3 fun h => c1 h.1⟩
end Go.Fw
