/- A text of the proof. -/
import Derived.Test.YtnaahaldkpdjlaaFwLH4
import Derived.Test.YtnaahaldkpdjlaaFwPla
import Derived.Test.YtnaahaldkpdjlaaFwLN5
import Derived.Test.YtnaahaldkpdjlaaFwLF7
set_option linter.unusedSimpArgs false
set_option linter.unusedVariables false
namespace Go.Fw
open Go.Proofs
attribute [local irreducible] KO4 KO3 KO2 KO1 KO KN KX KE VK KCond KDraw KCall KLoop
set_option maxHeartbeats 16000000
set_option maxRecDepth 10000
attribute [local instance] Classical.propDecidable
attribute [local irreducible] facesM facesP rowsD rowD ofE
theorem once_iff {n : Nat} {es : List Pr} {rs : List (List Int)} (hr : InR n es) (ha : Asc es) (G : RotG n es rs) {v : Nat} (hv : v < n) (w : Nat) : (∃ i, Once (rs.getD v []) (w : Int) i) ↔ w ∈ rotN rs v := by
 have hb := G.back hr v
 constructor
 ·rintro ⟨i, hi⟩
  have := List.mem_of_getElem? hi.1
  rw [← hb, List.mem_map] at this
  obtain ⟨x, hx, e⟩ := this
  have : x = w := by omega
  rw [← this]; exact hx
 ·intro h
  refine once_of_nodup (G.nodup hr ha hv) ?_
  rw [← hb]; exact List.mem_map.2 ⟨w, h, rfl⟩
theorem lex_of_asc {es : List Pr} (ha : Asc es) : es.Pairwise fun a b => a.1 < b.1 ∨ a.1 = b.1 ∧ a.2 < b.2 := by
 rw [List.pairwise_iff_getElem]
 intro i j hi hj hij
 have := ha i j _ _ hij (List.getElem?_eq_getElem hi) (List.getElem?_eq_getElem hj)
 exact (cmpP_lt _ _).1 this
theorem of_eq {n : Nat} {es : List Pr} {rs : List (List Int)} (hr : InR n es) (ha : Asc es) (G : RotG n es rs) : ofE rs rs.length = es := by
 have hl := G.len
 refine asc_eq (lt := fun a b : Pr => a.1 < b.1 ∨ a.1 = b.1 ∧ a.2 < b.2) (fun a h => by omega) (fun a b c h g => by omega) _ _ (ofE_asc rs _) (lex_of_asc ha) fun p => ?_
 rw [mem_ofE]
 constructor
 ·rintro ⟨v, w, hv, hw, hvw, ho, rfl⟩
  have := (G.mem hr).1 ((once_iff hr ha G (by omega) w).1 ho)
  rcases this with h | h
  ·exact h
  ·have := hr _ h; simp only at this; omega
 ·intro hp
  have h1 := hr p hp
  refine ⟨p.1.toNat, p.2.toNat, by omega, by omega, by omega, (once_iff hr ha G (by omega) _).2 ((G.mem hr).2 (.inl ?_)), ?_⟩
  ·rw [Int.toNat_of_nonneg (by omega), Int.toNat_of_nonneg (by omega)]; exact hp
  ·rw [Int.toNat_of_nonneg (by omega), Int.toNat_of_nonneg (by omega)]
noncomputable def rowJ (r : Nat → List Nat) (v j : Nat) : List Dart := ((List.range j).filter fun w => decide (w ∈ r v)).map fun w => (v, w)
theorem rowJ_all (n : Nat) (r : Nat → List Nat) (v : Nat) : rowJ r v n = rowD n r v := by unfold rowD; rfl
theorem rowJ_succ (r : Nat → List Nat) (v j : Nat) : rowJ r v (j + 1) = rowJ r v j ++ if j ∈ r v then [(v, j)] else [] := by
 unfold rowJ
 rw [List.range_succ, List.filter_append, List.map_append]
 congr 1
 by_cases c : j ∈ r v
 ·rw [if_pos c, List.filter_cons, if_pos (by simpa using c)]; rfl
 ·rw [if_neg c, List.filter_cons, if_neg (by simpa using c)]; rfl
theorem rowJ_len (r : Nat → List Nat) (v j : Nat) : (rowJ r v j).length ≤ j := by
 unfold rowJ
 rw [List.length_map]
 have := List.length_filter_le (fun w => decide (w ∈ r v)) (List.range j)
 rwa [List.length_range] at this
theorem facP_small {n : Nat} {r : Nat → List Nat} (h : n ≤ 200) {k j : Nat} (hk : k < n) (hj : j ≤ n) : (facesP r (rowsD n r k ++ rowJ r k j)).length ≤ 100000 := by
 have h1 := rowsD_len n r k
 have h2 := rowJ_len r k j
 have h3 : k * n ≤ 200 * 200 := Nat.mul_le_mul (by omega) h
 have h4 : (facesP r (rowsD n r k ++ rowJ r k j)).length ≤ (rowsD n r k ++ rowJ r k j).length := by unfold facesP; rw [List.length_map]; exact List.length_filter_le _ _
 rw [List.length_append] at h4; omega
theorem mkL32 {h : AHeap} {u : Value} {n : Nat} (hs : isSl u n) : aBuildSlice Try.prog h 32 1 [(0, u)] = some (.slice (some ⟨h.next, 0, none⟩) 1 1, h.alloc (.cells [u])) := by
 obtain ⟨a, c, rfl, _⟩ := hs; kernel_rfl
theorem RFaces_any (W0 : Base) (rv : Value) (rs : List (List Int)) (h : AHeap) (hv : RL (RL isI) h rv rs) (hl : ∀ l ∈ rs, l.length ≤ 100000) :
  AC Try.prog W0 39 [rv] h fun x h' => Le h h' ∧ ((x = .tuple #[.slice none 0 0, .int .i64 70] ∧ ¬ ∃ es, RightG ⟨(rs.length : Int), es⟩ ∧ RotG rs.length es rs) ∨
   ∃ es fv, RightG ⟨(rs.length : Int), es⟩ ∧ RotG rs.length es rs ∧ x = .tuple #[fv, .int .i64 0] ∧ RL (RL isI) h' fv (facesM rs.length rs)) := by
 refine AC.vc (fn := Try.f39) (c := _) ⟨Try.func39, rfl, by decide⟩ Try.ntmps39 Try.results39 (by simp) fun hwf => ?_
 simp only [argFrame, argFrom, Nat.reduceAdd]
 have lr := fun g => hv.len (P := Try.prog) Try.underlying52 g
 by_cases c : 200 < rs.length
 ·have d : decide (((rs.length : Nat) : Int) > 200) = true := decide_eq_true (by omega)
  simp only [kS1, bLookup, bMapSet, wantA, isCall, stepOp, evalO, evalL, evalP, evalM, putDst, flat, kA, kB, Nat.reduceLT, ↓reduceIte, kC, Nat.reduceEqDiff, aBuiltin, abinG, guardFree, abin, aInt, aUn, aNilCheck, retQ, retQ1, aresults, aresultL, aresult, mkF, undefV, reduceCtorEq, kD, kE, kF, kG, kH, kI, kJ, kK, aExtract, calleeOf, lr, d]
  exact ⟨Le.refl _, .inl ⟨trivial, fun ⟨es, hr, _⟩ => by have := hr.n1; simp only at this; omega⟩⟩
 have d : decide (((rs.length : Nat) : Int) > 200) = false := decide_eq_false (by omega)
 have h200 : rs.length ≤ 200 := by omega
 simp only [kS1, bLookup, bMapSet, wantA, isCall, stepOp, evalO, evalL, evalP, evalM, putDst, flat, kA, kB, Nat.reduceLT, ↓reduceIte, kC, Nat.reduceEqDiff, aBuiltin, abinG, guardFree, abin, aInt, aUn, aNilCheck, retQ, retQ1, aresults, aresultL, aresult, mkF, undefV, reduceCtorEq, kD, kE, kF, kG, kH, kI, kJ, kK, aExtract, calleeOf, lr, d]
 refine KCall.intro (by simp only [kS1, bLookup, bMapSet, wantA, isCall, stepOp, evalO, evalL, evalP, evalM, putDst, flat, kA, kB, Nat.reduceLT, ↓reduceIte, kC, Nat.reduceEqDiff, aBuiltin, abinG, guardFree, abin, aInt, aUn, aNilCheck, retQ, retQ1, aresults, aresultL, aresult, mkF, undefV, reduceCtorEq, kD, kE, kF, kG, kH, kI, kJ, kK, aExtract, calleeOf] <;> rfl) ⟨Try.func76, rfl, by decide⟩ (ROf_any W0 rv rs h hv h200 hl) ?_
 rintro g h1 w1 ⟨hg, l1⟩
 simp only [kS1, bLookup, bMapSet, wantA, isCall, stepOp, evalO, evalL, evalP, evalM, putDst, flat, kA, kB, Nat.reduceLT, ↓reduceIte, kC, Nat.reduceEqDiff, aBuiltin, abinG, guardFree, abin, aInt, aUn, aNilCheck, retQ, retQ1, aresults, aresultL, aresult, mkF, undefV, reduceCtorEq, kD, kE, kF, kG, kH, kI, kJ, kK, aExtract, calleeOf]
 refine KCall.intro (by simp only [kS1, bLookup, bMapSet, wantA, isCall, stepOp, evalO, evalL, evalP, evalM, putDst, flat, kA, kB, Nat.reduceLT, ↓reduceIte, kC, Nat.reduceEqDiff, aBuiltin, abinG, guardFree, abin, aInt, aUn, aNilCheck, retQ, retQ1, aresults, aresultL, aresult, mkF, undefV, reduceCtorEq, kD, kE, kF, kG, kH, kI, kJ, kK, aExtract, calleeOf] <;> rfl) ⟨Try.func40, rfl, by decide⟩ (RRight_any W0 g rv _ rs h1 hg (hv.le (Stays.RL Stays.isI) l1) hl) ?_
 rintro x h2 w2 ⟨⟨b, rfl, hb⟩, l2⟩
 simp only [Int.toNat_natCast] at hb
 cases b with
 | false =>
  simp only [kS1, bLookup, bMapSet, wantA, isCall, stepOp, evalO, evalL, evalP, evalM, putDst, flat, kA, kB, Nat.reduceLT, ↓reduceIte, kC, Nat.reduceEqDiff, aBuiltin, abinG, guardFree, abin, aInt, aUn, aNilCheck, retQ, retQ1, aresults, aresultL, aresult, mkF, undefV, reduceCtorEq, kD, kE, kF, kG, kH, kI, kJ, kK, aExtract, calleeOf]
  refine ⟨l1.trans l2, .inl ⟨trivial, fun ⟨es, hr, G⟩ => ?_⟩⟩
  have e := of_eq hr.inR hr.asc G
  rw [e] at hb
  cases hb.2 ⟨hr, G⟩
 | true =>
 obtain ⟨hr, G⟩ := hb.1 rfl
 clear hb hg
 clear c d
 generalize ofE rs rs.length = es at hr G
 have hR := hr.inR
 have hA := hr.asc
 have R := G.isRot hR hA
 have lh := l1.trans l2
 have hall := facesP_all rs.length rs
 have hon := fun v (hv : v < rs.length) w => once_iff hR hA G hv w
 have hsn := facesP_snoc (rotN rs)
 have hrs := rowsD_succ rs.length (rotN rs)
 have hJs := rowJ_succ (rotN rs)
 have hJa := rowJ_all rs.length (rotN rs)
 have hsm := fun k j (hk : k < rs.length) hj => facP_small (r := rotN rs) h200 hk (j := j) hj
 simp only [kS1, bLookup, bMapSet, wantA, isCall, stepOp, evalO, evalL, evalP, evalM, putDst, flat, kA, kB, Nat.reduceLT, ↓reduceIte, kC, Nat.reduceEqDiff, aBuiltin, abinG, guardFree, abin, aInt, aUn, aNilCheck, retQ, retQ1, aresults, aresultL, aresult, mkF, undefV, reduceCtorEq, kD, kE, kF, kG, kH, kI, kJ, kK, aExtract, calleeOf]
 refine KLoop.intro (fun k fr hq => ∃ (i : Nat) (fv : Value), k = rs.length - i ∧ i ≤ rs.length ∧ fr = mkF [(0, rv), (4, fv), (5, .int .i64 i)] ∧ GRL (RL isI) hq fv (facesP (rotN rs) (rowsD rs.length (rotN rs) i)) ∧ Le h2 hq ∧ Apart h2 fv)
  rs.length [(0, rv), (4, .slice none 0 0), (5, .int .i64 (0 : Nat))] (by simp only [hasAll, kS1, bLookup, bMapSet, wantA, isCall, stepOp, evalO, evalL, evalP, evalM, putDst, flat, kA, kB, Nat.reduceLT, ↓reduceIte, kC, Nat.reduceEqDiff, aBuiltin, abinG, guardFree, abin, aInt, aUn, aNilCheck, retQ, retQ1, aresults, aresultL, aresult, mkF, undefV, reduceCtorEq, kD, kE, kF, kG, kH, kI, kJ, kK, aExtract, calleeOf]; simp)
  ⟨0, _, rfl, Nat.zero_le _, rfl, by have : facesP (rotN rs) (rowsD rs.length (rotN rs) 0) = [] := (by unfold rowsD facesP; rfl); rw [this]; exact GRL.nil _ _, Le.refl _, fun b hb => by simp [blk] at hb⟩ ?_
 rintro k fr hq hwq ⟨i, fv, rfl, hi, rfl, gf, lq, af⟩
 simp only [kS1, bLookup, bMapSet, wantA, isCall, stepOp, evalO, evalL, evalP, evalM, putDst, flat, kA, kB, Nat.reduceLT, ↓reduceIte, kC, Nat.reduceEqDiff, aBuiltin, abinG, guardFree, abin, aInt, aUn, aNilCheck, retQ, retQ1, aresults, aresultL, aresult, mkF, undefV, reduceCtorEq, kD, kE, kF, kG, kH, kI, kJ, kK, aExtract, calleeOf, lr]
 refine KCond.intro (fun ht => ?_) (fun hf => ?_)
 rotate_left
 ·have hge : rs.length ≤ i := lt_f hf
  obtain rfl : i = rs.length := by omega
  rw [rowsD_all, hall] at gf
  simp only [kS1, bLookup, bMapSet, wantA, isCall, stepOp, evalO, evalL, evalP, evalM, putDst, flat, kA, kB, Nat.reduceLT, ↓reduceIte, kC, Nat.reduceEqDiff, aBuiltin, abinG, guardFree, abin, aInt, aUn, aNilCheck, retQ, retQ1, aresults, aresultL, aresult, mkF, undefV, reduceCtorEq, kD, kE, kF, kG, kH, kI, kJ, kK, aExtract, calleeOf]
  exact ⟨lh.trans lq, .inr ⟨es, fv, hr, G, rfl, gf.rl (Stays.RL Stays.isI)⟩⟩
 have hlt : i < rs.length := lt_t ht
 clear ht
 have ar := hv.addr (P := Try.prog) Try.underlying52 Try.underlying38 (by kernel_rfl) (k := .i64) i hlt
 obtain ⟨u, lu', hu⟩ := hv.load' (P := Try.prog) Try.underlying38 rfl i hlt
 have hll := hl _ (List.getElem_mem hlt)
 have hgd : rs.getD i [] = rs[i] := getD_of hlt
 have honi := hon i hlt
 simp only [hgd] at honi
 generalize rs[i] = r at *
 have hwi := awrap_succ i (by omega)
 simp only [kS1, bLookup, bMapSet, wantA, isCall, stepOp, evalO, evalL, evalP, evalM, putDst, flat, kA, kB, Nat.reduceLT, ↓reduceIte, kC, Nat.reduceEqDiff, aBuiltin, abinG, guardFree, abin, aInt, aUn, aNilCheck, retQ, retQ1, aresults, aresultL, aresult, mkF, undefV, reduceCtorEq, kD, kE, kF, kG, kH, kI, kJ, kK, aExtract, calleeOf]
 refine KLoop.intro (fun k fr hz => ∃ (j : Nat) (fv : Value), k = rs.length - j ∧ j ≤ rs.length ∧ fr = mkF [(0, rv), (4, fv), (5, .int .i64 i), (6, .int .i64 j)] ∧ GRL (RL isI) hz fv (facesP (rotN rs) (rowsD rs.length (rotN rs) i ++ rowJ (rotN rs) i j)) ∧ Le h2 hz ∧ Apart h2 fv)
  rs.length [(0, rv), (4, fv), (5, .int .i64 i), (6, .int .i64 (0 : Nat))] (by simp only [hasAll, kS1, bLookup, bMapSet, wantA, isCall, stepOp, evalO, evalL, evalP, evalM, putDst, flat, kA, kB, Nat.reduceLT, ↓reduceIte, kC, Nat.reduceEqDiff, aBuiltin, abinG, guardFree, abin, aInt, aUn, aNilCheck, retQ, retQ1, aresults, aresultL, aresult, mkF, undefV, reduceCtorEq, kD, kE, kF, kG, kH, kI, kJ, kK, aExtract, calleeOf]; simp)
  ⟨0, fv, rfl, Nat.zero_le _, rfl, by have : rowJ (rotN rs) i 0 = [] := rfl; rw [this, List.append_nil]; exact gf, lq, af⟩ ?_
 clear gf lq af
 clear fv
 rintro k fr hz hwz ⟨j, fv, rfl, hj, rfl, gf, lz, af⟩
 simp only [kS1, bLookup, bMapSet, wantA, isCall, stepOp, evalO, evalL, evalP, evalM, putDst, flat, kA, kB, Nat.reduceLT, ↓reduceIte, kC, Nat.reduceEqDiff, aBuiltin, abinG, guardFree, abin, aInt, aUn, aNilCheck, retQ, retQ1, aresults, aresultL, aresult, mkF, undefV, reduceCtorEq, kD, kE, kF, kG, kH, kI, kJ, kK, aExtract, calleeOf, lr]
 refine KCond.intro (fun ht => ?_) (fun hf => ?_)
 ·have hjt : j < rs.length := lt_t ht
  clear ht
  have luz := lu' hz (lh.trans lz)
  have hwj := awrap_succ j (by omega)
  have hJ := hJs i j
  have hs := hsm i j hlt (by omega)
  simp only [kS1, bLookup, bMapSet, wantA, isCall, stepOp, evalO, evalL, evalP, evalM, putDst, flat, kA, kB, Nat.reduceLT, ↓reduceIte, kC, Nat.reduceEqDiff, aBuiltin, abinG, guardFree, abin, aInt, aUn, aNilCheck, retQ, retQ1, aresults, aresultL, aresult, mkF, undefV, reduceCtorEq, kD, kE, kF, kG, kH, kI, kJ, kK, aExtract, calleeOf, ar, luz]
  refine KCall.intro (by simp only [kS1, bLookup, bMapSet, wantA, isCall, stepOp, evalO, evalL, evalP, evalM, putDst, flat, kA, kB, Nat.reduceLT, ↓reduceIte, kC, Nat.reduceEqDiff, aBuiltin, abinG, guardFree, abin, aInt, aUn, aNilCheck, retQ, retQ1, aresults, aresultL, aresult, mkF, undefV, reduceCtorEq, kD, kE, kF, kG, kH, kI, kJ, kK, aExtract, calleeOf] <;> rfl) ⟨Try.func77, rfl, by decide⟩ (place_any W0 u r (j : Int) hz (hu.le Stays.isI (lh.trans lz)) hll) ?_
  rintro x h5 w5 ⟨⟨k, hk, hko, rfl⟩ | ⟨rfl, hno⟩, rfl⟩
  ·have d : decide ((k : Int) < 0) = false := decide_eq_false (by omega)
   have hmem : j ∈ rotN rs i := (honi j).1 ⟨k, hko⟩
   rw [if_pos hmem] at hJ
   simp only [kS1, bLookup, bMapSet, wantA, isCall, stepOp, evalO, evalL, evalP, evalM, putDst, flat, kA, kB, Nat.reduceLT, ↓reduceIte, kC, Nat.reduceEqDiff, aBuiltin, abinG, guardFree, abin, aInt, aUn, aNilCheck, retQ, retQ1, aresults, aresultL, aresult, mkF, undefV, reduceCtorEq, kD, kE, kF, kG, kH, kI, kJ, kK, aExtract, calleeOf, d]
   refine KCall.intro (by simp only [kS1, bLookup, bMapSet, wantA, isCall, stepOp, evalO, evalL, evalP, evalM, putDst, flat, kA, kB, Nat.reduceLT, ↓reduceIte, kC, Nat.reduceEqDiff, aBuiltin, abinG, guardFree, abin, aInt, aUn, aNilCheck, retQ, retQ1, aresults, aresultL, aresult, mkF, undefV, reduceCtorEq, kD, kE, kF, kG, kH, kI, kJ, kK, aExtract, calleeOf] <;> rfl) ⟨Try.func78, rfl, by decide⟩ (RAround_any W0 rv rs.length es rs h5 (hv.le (Stays.RL Stays.isI) (lh.trans lz)) hr G i j ((mem_dl R).2 hmem)) ?_
   rintro x h6 w6 ⟨l6, ⟨hH, cv, rfl, gc, ac⟩ | ⟨hH, rfl⟩⟩
   ·have go2 := gf.le (Stays.RL Stays.isI) l6
    have hcb : ∀ b, blk cv = some b → b ∉ bl fv := fun b hb hm => by
     obtain ⟨us, g1, _⟩ := gf
     exact GS.blk_own g1 (mem_bl.1 hm) (ac b hb)
    have gu : RL isI (rem (bl fv) h6) cv (nat64 (faceF (rotN rs) (i, j))) := GI.rl (GS.to_rem gc hcb)
    obtain ⟨h7, pv', h8, e7, e8, gp, l8, w8, f8, k8⟩ := GRL.push (P := Try.prog) (t := 32) (Stays.RL Stays.isI) (by kernel_rfl) go2 w6 gu gu.sl.one (by omega)
    obtain ⟨l9, a9⟩ := f8 h2 (lz.trans l6) af
    have bs : aBuildSlice Try.prog h6 32 1 [(0, cv)] = some (.slice (some ⟨h6.next, 0, none⟩) 1 1, h7) := by rw [mkL32 gu.sl, e7]
    simp only [kS1, bLookup, bMapSet, wantA, isCall, stepOp, evalO, evalL, evalP, evalM, putDst, flat, kA, kB, Nat.reduceLT, ↓reduceIte, kC, Nat.reduceEqDiff, aBuiltin, abinG, guardFree, abin, aInt, aUn, aNilCheck, retQ, retQ1, aresults, aresultL, aresult, mkF, undefV, reduceCtorEq, kD, kE, kF, kG, kH, kI, kJ, kK, aExtract, calleeOf, bs, e8, hwj]
    exact loop_again (rs.length - (j + 1)) [(0, rv), (4, pv'), (5, .int .i64 i), (6, .int .i64 (j + 1 : Nat))] (stq hjt) (by simp only [hasAll, kS1, bLookup, bMapSet, wantA, isCall, stepOp, evalO, evalL, evalP, evalM, putDst, flat, kA, kB, Nat.reduceLT, ↓reduceIte, kC, Nat.reduceEqDiff, aBuiltin, abinG, guardFree, abin, aInt, aUn, aNilCheck, retQ, retQ1, aresults, aresultL, aresult, mkF, undefV, reduceCtorEq, kD, kE, kF, kG, kH, kI, kJ, kK, aExtract, calleeOf]; simp)
     ⟨j + 1, pv', rfl, hjt, rfl, by rw [hJ, ← List.append_assoc, hsn, if_pos hH]; exact gp, l9, a9⟩
   ·simp only [kS1, bLookup, bMapSet, wantA, isCall, stepOp, evalO, evalL, evalP, evalM, putDst, flat, kA, kB, Nat.reduceLT, ↓reduceIte, kC, Nat.reduceEqDiff, aBuiltin, abinG, guardFree, abin, aInt, aUn, aNilCheck, retQ, retQ1, aresults, aresultL, aresult, mkF, undefV, reduceCtorEq, kD, kE, kF, kG, kH, kI, kJ, kK, aExtract, calleeOf, hwj]
    exact loop_again (rs.length - (j + 1)) [(0, rv), (4, fv), (5, .int .i64 i), (6, .int .i64 (j + 1 : Nat))] (stq hjt) (by simp only [hasAll, kS1, bLookup, bMapSet, wantA, isCall, stepOp, evalO, evalL, evalP, evalM, putDst, flat, kA, kB, Nat.reduceLT, ↓reduceIte, kC, Nat.reduceEqDiff, aBuiltin, abinG, guardFree, abin, aInt, aUn, aNilCheck, retQ, retQ1, aresults, aresultL, aresult, mkF, undefV, reduceCtorEq, kD, kE, kF, kG, kH, kI, kJ, kK, aExtract, calleeOf]; simp)
     ⟨j + 1, fv, rfl, hjt, rfl, by rw [hJ, ← List.append_assoc, hsn, if_neg hH, List.append_nil]; exact gf.le (Stays.RL Stays.isI) l6, lz.trans l6, af⟩
  ·have d : decide ((-1 : Int) < 0) = true := by decide
   have hmem : j ∉ rotN rs i := fun q => by obtain ⟨k, hk⟩ := (honi j).2 q; exact hno k hk
   rw [if_neg hmem, List.append_nil] at hJ
   simp only [kS1, bLookup, bMapSet, wantA, isCall, stepOp, evalO, evalL, evalP, evalM, putDst, flat, kA, kB, Nat.reduceLT, ↓reduceIte, kC, Nat.reduceEqDiff, aBuiltin, abinG, guardFree, abin, aInt, aUn, aNilCheck, retQ, retQ1, aresults, aresultL, aresult, mkF, undefV, reduceCtorEq, kD, kE, kF, kG, kH, kI, kJ, kK, aExtract, calleeOf, d, hwj]
   exact loop_again (rs.length - (j + 1)) [(0, rv), (4, fv), (5, .int .i64 i), (6, .int .i64 (j + 1 : Nat))] (stq hjt) (by simp only [hasAll, kS1, bLookup, bMapSet, wantA, isCall, stepOp, evalO, evalL, evalP, evalM, putDst, flat, kA, kB, Nat.reduceLT, ↓reduceIte, kC, Nat.reduceEqDiff, aBuiltin, abinG, guardFree, abin, aInt, aUn, aNilCheck, retQ, retQ1, aresults, aresultL, aresult, mkF, undefV, reduceCtorEq, kD, kE, kF, kG, kH, kI, kJ, kK, aExtract, calleeOf]; simp)
    ⟨j + 1, fv, rfl, hjt, rfl, by rw [hJ]; exact gf, lz, af⟩
 ·have hge : rs.length ≤ j := lt_f hf
  obtain rfl : j = rs.length := by omega
  rw [hJa, ← hrs] at gf
  simp only [kS1, bLookup, bMapSet, wantA, isCall, stepOp, evalO, evalL, evalP, evalM, putDst, flat, kA, kB, Nat.reduceLT, ↓reduceIte, kC, Nat.reduceEqDiff, aBuiltin, abinG, guardFree, abin, aInt, aUn, aNilCheck, retQ, retQ1, aresults, aresultL, aresult, mkF, undefV, reduceCtorEq, kD, kE, kF, kG, kH, kI, kJ, kK, aExtract, calleeOf, hwi]
  exact loop_again (rs.length - (i + 1)) [(0, rv), (4, fv), (5, .int .i64 (i + 1 : Nat))] (stq hlt) (by simp only [hasAll, kS1, bLookup, bMapSet, wantA, isCall, stepOp, evalO, evalL, evalP, evalM, putDst, flat, kA, kB, Nat.reduceLT, ↓reduceIte, kC, Nat.reduceEqDiff, aBuiltin, abinG, guardFree, abin, aInt, aUn, aNilCheck, retQ, retQ1, aresults, aresultL, aresult, mkF, undefV, reduceCtorEq, kD, kE, kF, kG, kH, kI, kJ, kK, aExtract, calleeOf]; simp) ⟨i + 1, fv, rfl, hlt, rfl, gf, lz, af⟩
end Go.Fw
namespace Go.Fw
open Go.Proofs
attribute [local irreducible] KO4 KO3 KO2 KO1 KO KN KX KE VK KCond KDraw KCall KLoop
set_option maxHeartbeats 16000000
set_option maxRecDepth 10000
attribute [local instance] Classical.propDecidable
noncomputable def conJ (es : List Pr) (i j : Nat) : List Nat := (List.range j).filter fun w => decide (Con es i w)
theorem conJ_succ (es : List Pr) (i j : Nat) : conJ es i (j + 1) = conJ es i j ++ if Con es i j then [j] else [] := by
 unfold conJ
 rw [List.range_succ, List.filter_append]
 congr 1
 by_cases c : Con es i j
 ·rw [if_pos c, List.filter_cons, if_pos (by simpa using c)]; rfl
 ·rw [if_neg c, List.filter_cons, if_neg (by simpa using c)]; rfl
theorem conJ_len (es : List Pr) (i j : Nat) : (conJ es i j).length ≤ j := by
 unfold conJ
 have := List.length_filter_le (fun w => decide (Con es i w)) (List.range j)
 rwa [List.length_range] at this
theorem mem_nat64 {l : List Nat} {x : Nat} : (x : Int) ∈ nat64 l ↔ x ∈ l := by
 unfold nat64
 rw [List.mem_map]
 constructor
 ·rintro ⟨y, hy, e⟩; have : y = x := by omega
  rw [← this]; exact hy
 ·intro h; exact ⟨x, h, rfl⟩
theorem RPartsC_any (W0 : Base) (v : Value) (n : Nat) (es : List Pr) (h : AHeap) (hg : GR h v ⟨(n : Int), es⟩) (hr : RightG ⟨(n : Int), es⟩) :
  AC Try.prog W0 81 [v] h fun x h' => RL (RL isI) h' x ((partsN n es n).map nat64) ∧ Le h h' := by
 have hg0 := hg
 obtain ⟨ev, rfl, hp⟩ := hg.open
 have h200 : (n : Int) ≤ 200 := hr.n1
 have hR := hr.inR
 refine AC.vc (fn := Try.f81) (c := _) ⟨Try.func81, rfl, by decide⟩ Try.ntmps81 Try.results81 (by simp) fun hwf => ?_
 simp only [argFrame, argFrom, Nat.reduceAdd]
 obtain ⟨h1, b1, le1, wf1, -, lA⟩ := boxG (n := (n : Int)) hwf hp
 generalize h.next = B at *
 have lA1 := lA h1 (Le.refl _)
 simp only [kS1, bLookup, bMapSet, wantA, isCall, stepOp, evalO, evalL, evalP, evalM, putDst, flat, kA, kB, Nat.reduceLT, ↓reduceIte, kC, Nat.reduceEqDiff, aBuiltin, abinG, guardFree, abin, aInt, aUn, aNilCheck, retQ, retQ1, aresults, aresultL, aresult, mkF, undefV, reduceCtorEq, kD, kE, kF, kG, kH, kI, kJ, kK, aExtract, calleeOf, b1, lA1.1]
 refine KCall.intro (by simp only [kS1, bLookup, bMapSet, wantA, isCall, stepOp, evalO, evalL, evalP, evalM, putDst, flat, kA, kB, Nat.reduceLT, ↓reduceIte, kC, Nat.reduceEqDiff, aBuiltin, abinG, guardFree, abin, aInt, aUn, aNilCheck, retQ, retQ1, aresults, aresultL, aresult, mkF, undefV, reduceCtorEq, kD, kE, kF, kG, kH, kI, kJ, kK, aExtract, calleeOf] <;> rfl) ⟨Try.func79, rfl, by decide⟩ (RefRight_any W0 _ _ h1 (hg0.le le1)) ?_
 rintro x h2 w2 ⟨⟨bb, rfl, hbb⟩, l2⟩
 obtain rfl : bb = true := hbb.2 hr
 have ap0 : Apart h1 (.slice none 0 0) := fun b hb => by cases hb
 simp only [kS1, bLookup, bMapSet, wantA, isCall, stepOp, evalO, evalL, evalP, evalM, putDst, flat, kA, kB, Nat.reduceLT, ↓reduceIte, kC, Nat.reduceEqDiff, aBuiltin, abinG, guardFree, abin, aInt, aUn, aNilCheck, retQ, retQ1, aresults, aresultL, aresult, mkF, undefV, reduceCtorEq, kD, kE, kF, kG, kH, kI, kJ, kK, aExtract, calleeOf]
 refine KLoop.intro (fun k fr hq => ∃ (i : Nat) (ov sv : Value) (seen : List Int), k = n - i ∧ i ≤ n ∧ fr = mkF [(1, .pointer (some ⟨B, 0, none⟩)), (3, ov), (4, sv), (5, .int .i64 i)] ∧ GRL (RL isI) (rem (bl sv) hq) ov ((partsN n es i).map nat64) ∧ GI hq sv seen ∧ seen.length ≤ i * n ∧ (∀ b, blk ov = some b → blk sv ≠ some b) ∧
   (∀ x : Nat, x < n → ((x : Int) ∈ seen ↔ ∃ u, u < i ∧ Con es u x)) ∧ Le h1 hq ∧ Apart h1 ov ∧ Apart h1 sv)
  n [(1, .pointer (some ⟨B, 0, none⟩)), (3, .slice none 0 0), (4, .slice none 0 0), (5, .int .i64 (0 : Nat))] (by simp only [hasAll, kS1, bLookup, bMapSet, wantA, isCall, stepOp, evalO, evalL, evalP, evalM, putDst, flat, kA, kB, Nat.reduceLT, ↓reduceIte, kC, Nat.reduceEqDiff, aBuiltin, abinG, guardFree, abin, aInt, aUn, aNilCheck, retQ, retQ1, aresults, aresultL, aresult, mkF, undefV, reduceCtorEq, kD, kE, kF, kG, kH, kI, kJ, kK, aExtract, calleeOf]; simp)
  ⟨0, _, _, [], rfl, Nat.zero_le _, rfl, by have : (partsN n es 0).map nat64 = [] := (by simp [partsN, heads]); rw [this]; exact GRL.nil _ _, GI.nil _, by simp, fun b hb => (by cases hb), fun x hx => (by simp), l2, ap0, ap0⟩ ?_
 rintro k fr hq hwq ⟨i, ov, sv, seen, rfl, hi, rfl, go, gs, hsl, dj, hseen, leq, ao, as_⟩
 have hhl := heads_length i es
 have hsn : i * n ≤ 40000 := Nat.le_trans (Nat.mul_le_mul (show i ≤ 200 by omega) (show n ≤ 200 by omega)) (by decide)
 have lAq := lA hq leq
 simp only [kS1, bLookup, bMapSet, wantA, isCall, stepOp, evalO, evalL, evalP, evalM, putDst, flat, kA, kB, Nat.reduceLT, ↓reduceIte, kC, Nat.reduceEqDiff, aBuiltin, abinG, guardFree, abin, aInt, aUn, aNilCheck, retQ, retQ1, aresults, aresultL, aresult, mkF, undefV, reduceCtorEq, kD, kE, kF, kG, kH, kI, kJ, kK, aExtract, calleeOf, fg0, aadd, Nat.zero_add, lAq.2.1]
 refine KCond.intro (fun ht => ?_) (fun hf => ?_)
 rotate_left
 ·have hge : n ≤ i := lt_f hf
  obtain rfl : i = n := by omega
  simp only [kS1, bLookup, bMapSet, wantA, isCall, stepOp, evalO, evalL, evalP, evalM, putDst, flat, kA, kB, Nat.reduceLT, ↓reduceIte, kC, Nat.reduceEqDiff, aBuiltin, abinG, guardFree, abin, aInt, aUn, aNilCheck, retQ, retQ1, aresults, aresultL, aresult, mkF, undefV, reduceCtorEq, kD, kE, kF, kG, kH, kI, kJ, kK, aExtract, calleeOf]
  exact ⟨(go.rl (Stays.RL Stays.isI)).le (Stays.RL Stays.isI) (rem_le _ _), le1.trans leq⟩
 have hlt : i < n := lt_t ht
 clear ht
 simp only [kS1, bLookup, bMapSet, wantA, isCall, stepOp, evalO, evalL, evalP, evalM, putDst, flat, kA, kB, Nat.reduceLT, ↓reduceIte, kC, Nat.reduceEqDiff, aBuiltin, abinG, guardFree, abin, aInt, aUn, aNilCheck, retQ, retQ1, aresults, aresultL, aresult, mkF, undefV, reduceCtorEq, kD, kE, kF, kG, kH, kI, kJ, kK, aExtract, calleeOf]
 refine KCall.intro (by simp only [kS1, bLookup, bMapSet, wantA, isCall, stepOp, evalO, evalL, evalP, evalM, putDst, flat, kA, kB, Nat.reduceLT, ↓reduceIte, kC, Nat.reduceEqDiff, aBuiltin, abinG, guardFree, abin, aInt, aUn, aNilCheck, retQ, retQ1, aresults, aresultL, aresult, mkF, undefV, reduceCtorEq, kD, kE, kF, kG, kH, kI, kJ, kK, aExtract, calleeOf] <;> rfl) ⟨Try.func113, rfl, by decide⟩ (Rhas_any W0 sv seen (i : Int) hq gs.rl (by omega)) ?_
 rintro x h3 w3 ⟨rfl, rfl⟩
 by_cases c : (i : Int) ∈ seen
 ·have d : decide ((i : Int) ∈ seen) = true := decide_eq_true c
  simp only [kS1, bLookup, bMapSet, wantA, isCall, stepOp, evalO, evalL, evalP, evalM, putDst, flat, kA, kB, Nat.reduceLT, ↓reduceIte, kC, Nat.reduceEqDiff, aBuiltin, abinG, guardFree, abin, aInt, aUn, aNilCheck, retQ, retQ1, aresults, aresultL, aresult, mkF, undefV, reduceCtorEq, kD, kE, kF, kG, kH, kI, kJ, kK, aExtract, calleeOf, d, awrap_succ i (by omega)]
  have hx := (hseen i hlt).1 c
  have hh : heads (i + 1) es = heads i es := by
   rcases heads_succ i es with ⟨_, h⟩ | ⟨h, _⟩
   ·obtain ⟨u, hu, hc⟩ := hx; exact absurd hc (h u hu)
   ·exact h
  exact loop_again (n - (i + 1)) [(1, .pointer (some ⟨B, 0, none⟩)), (3, ov), (4, sv), (5, .int .i64 (i + 1 : Nat))] (by omega) (by simp only [hasAll, kS1, bLookup, bMapSet, wantA, isCall, stepOp, evalO, evalL, evalP, evalM, putDst, flat, kA, kB, Nat.reduceLT, ↓reduceIte, kC, Nat.reduceEqDiff, aBuiltin, abinG, guardFree, abin, aInt, aUn, aNilCheck, retQ, retQ1, aresults, aresultL, aresult, mkF, undefV, reduceCtorEq, kD, kE, kF, kG, kH, kI, kJ, kK, aExtract, calleeOf]; simp)
   ⟨i + 1, ov, sv, seen, rfl, hlt, rfl, by unfold partsN; rw [hh]; exact go, gs, by rw [Nat.add_mul]; omega, dj, fun x hx' => by
    rw [hseen x hx']
    constructor
    ·rintro ⟨u, hu, hc⟩; exact ⟨u, by omega, hc⟩
    ·rintro ⟨u, hu, hc⟩
     by_cases e : u = i
     ·subst e; obtain ⟨u', hu', hc'⟩ := hx; exact ⟨u', hu', hc'.trans hc⟩
     ·exact ⟨u, by omega, hc⟩, leq, ao, as_⟩
 have d : decide ((i : Int) ∈ seen) = false := decide_eq_false c
 have hx : ∀ u, u < i → ¬ Con es u i := fun u hu hc => c ((hseen i hlt).2 ⟨u, hu, hc⟩)
 simp only [kS1, bLookup, bMapSet, wantA, isCall, stepOp, evalO, evalL, evalP, evalM, putDst, flat, kA, kB, Nat.reduceLT, ↓reduceIte, kC, Nat.reduceEqDiff, aBuiltin, abinG, guardFree, abin, aInt, aUn, aNilCheck, retQ, retQ1, aresults, aresultL, aresult, mkF, undefV, reduceCtorEq, kD, kE, kF, kG, kH, kI, kJ, kK, aExtract, calleeOf, d, lAq.1]
 refine KCall.intro (by simp only [kS1, bLookup, bMapSet, wantA, isCall, stepOp, evalO, evalL, evalP, evalM, putDst, flat, kA, kB, Nat.reduceLT, ↓reduceIte, kC, Nat.reduceEqDiff, aBuiltin, abinG, guardFree, abin, aInt, aUn, aNilCheck, retQ, retQ1, aresults, aresultL, aresult, mkF, undefV, reduceCtorEq, kD, kE, kF, kG, kH, kI, kJ, kK, aExtract, calleeOf] <;> rfl) ⟨Try.func114, rfl, by decide⟩ (RAway_any W0 (.agg #[.int .i64 (n : Int), ev]) n i es h3 (hg0.le (le1.trans leq)) hr hlt) ?_
 rintro x h4 w4 ⟨dv, L, rfl, gl, hLl, hL, l4, ad⟩
 have leq4 := leq.trans l4
 simp only [kS1, bLookup, bMapSet, wantA, isCall, stepOp, evalO, evalL, evalP, evalM, putDst, flat, kA, kB, Nat.reduceLT, ↓reduceIte, kC, Nat.reduceEqDiff, aBuiltin, abinG, guardFree, abin, aInt, aUn, aNilCheck, retQ, retQ1, aresults, aresultL, aresult, mkF, undefV, reduceCtorEq, kD, kE, kF, kG, kH, kI, kJ, kK, aExtract, calleeOf]
 -- the part
 refine KLoop.intro (fun k fr hz => ∃ (j : Nat) (pv : Value), k = n - j ∧ j ≤ n ∧ fr = mkF [(1, .pointer (some ⟨B, 0, none⟩)), (3, ov), (4, sv), (5, .int .i64 i), (6, dv), (8, pv), (9, .int .i64 j)] ∧ GI hz pv (nat64 (conJ es i j)) ∧ Le h4 hz ∧ Apart h4 pv)
  n [(1, .pointer (some ⟨B, 0, none⟩)), (3, ov), (4, sv), (5, .int .i64 i), (6, dv), (8, .slice none 0 0), (9, .int .i64 (0 : Nat))] (by simp only [hasAll, kS1, bLookup, bMapSet, wantA, isCall, stepOp, evalO, evalL, evalP, evalM, putDst, flat, kA, kB, Nat.reduceLT, ↓reduceIte, kC, Nat.reduceEqDiff, aBuiltin, abinG, guardFree, abin, aInt, aUn, aNilCheck, retQ, retQ1, aresults, aresultL, aresult, mkF, undefV, reduceCtorEq, kD, kE, kF, kG, kH, kI, kJ, kK, aExtract, calleeOf]; simp)
  ⟨0, _, rfl, Nat.zero_le _, rfl, GI.nil _, Le.refl _, fun b hb => (by cases hb)⟩ ?_
 rintro k fr hz hwz ⟨j, pv, rfl, hj, rfl, gp, lez, ap⟩
 have lAz := lA hz (leq4.trans lez)
 simp only [kS1, bLookup, bMapSet, wantA, isCall, stepOp, evalO, evalL, evalP, evalM, putDst, flat, kA, kB, Nat.reduceLT, ↓reduceIte, kC, Nat.reduceEqDiff, aBuiltin, abinG, guardFree, abin, aInt, aUn, aNilCheck, retQ, retQ1, aresults, aresultL, aresult, mkF, undefV, reduceCtorEq, kD, kE, kF, kG, kH, kI, kJ, kK, aExtract, calleeOf, fg0, aadd, Nat.zero_add, lAz.2.1]
 refine KCond.intro (fun ht => ?_) (fun hf => ?_)
 ·have hlj : j < n := lt_t ht
  clear ht
  have hjl : j < L.length := by omega
  have hgj := getElem?_of hjl
  have adj_ := gl.rl.addr (P := Try.prog) Try.underlying38 Try.underlying3 (by kernel_rfl) (k := .i64) j hjl
  have ldj := (gl.le lez).rl.loadI (P := Try.prog) Try.underlying3 rfl j hjl
  have hiff := hL j _ hgj
  generalize L[j] = y at *
  by_cases c2 : y ≥ 0
  ·have d2 : decide (y ≥ 0) = true := decide_eq_true c2
   have hcj := conJ_succ es i j
   have hcl := conJ_len es i j
   rw [if_pos (hiff.1 c2)] at hcj
   obtain ⟨v', h5, h6, e5, e6, g6, w6, l5, f6, k6⟩ := gp.push hwz (j : Int) (by rw [nat64_length]; omega)
   obtain ⟨l6, a6⟩ := f6 h4 lez ap
   simp only [kS1, bLookup, bMapSet, wantA, isCall, stepOp, evalO, evalL, evalP, evalM, putDst, flat, kA, kB, Nat.reduceLT, ↓reduceIte, kC, Nat.reduceEqDiff, aBuiltin, abinG, guardFree, abin, aInt, aUn, aNilCheck, retQ, retQ1, aresults, aresultL, aresult, mkF, undefV, reduceCtorEq, kD, kE, kF, kG, kH, kI, kJ, kK, aExtract, calleeOf, adj_, ldj, d2, e5, e6, awrap_succ j (by omega)]
   exact loop_again (n - (j + 1)) [(1, .pointer (some ⟨B, 0, none⟩)), (3, ov), (4, sv), (5, .int .i64 i), (6, dv), (8, v'), (9, .int .i64 (j + 1 : Nat))] (by omega) (by simp only [hasAll, kS1, bLookup, bMapSet, wantA, isCall, stepOp, evalO, evalL, evalP, evalM, putDst, flat, kA, kB, Nat.reduceLT, ↓reduceIte, kC, Nat.reduceEqDiff, aBuiltin, abinG, guardFree, abin, aInt, aUn, aNilCheck, retQ, retQ1, aresults, aresultL, aresult, mkF, undefV, reduceCtorEq, kD, kE, kF, kG, kH, kI, kJ, kK, aExtract, calleeOf]; simp)
    ⟨j + 1, v', rfl, hlj, rfl, by rw [hcj, nat64, List.map_append]; exact g6, l6, a6⟩
  ·have d2 : decide (y ≥ 0) = false := decide_eq_false c2
   have hcj := conJ_succ es i j
   rw [if_neg (fun q => c2 (hiff.2 q)), List.append_nil] at hcj
   simp only [kS1, bLookup, bMapSet, wantA, isCall, stepOp, evalO, evalL, evalP, evalM, putDst, flat, kA, kB, Nat.reduceLT, ↓reduceIte, kC, Nat.reduceEqDiff, aBuiltin, abinG, guardFree, abin, aInt, aUn, aNilCheck, retQ, retQ1, aresults, aresultL, aresult, mkF, undefV, reduceCtorEq, kD, kE, kF, kG, kH, kI, kJ, kK, aExtract, calleeOf, adj_, ldj, d2, awrap_succ j (by omega)]
   exact loop_again (n - (j + 1)) [(1, .pointer (some ⟨B, 0, none⟩)), (3, ov), (4, sv), (5, .int .i64 i), (6, dv), (8, pv), (9, .int .i64 (j + 1 : Nat))] (by omega) (by simp only [hasAll, kS1, bLookup, bMapSet, wantA, isCall, stepOp, evalO, evalL, evalP, evalM, putDst, flat, kA, kB, Nat.reduceLT, ↓reduceIte, kC, Nat.reduceEqDiff, aBuiltin, abinG, guardFree, abin, aInt, aUn, aNilCheck, retQ, retQ1, aresults, aresultL, aresult, mkF, undefV, reduceCtorEq, kD, kE, kF, kG, kH, kI, kJ, kK, aExtract, calleeOf]; simp)
    ⟨j + 1, pv, rfl, hlj, rfl, by rw [hcj]; exact gp, lez, ap⟩
 have hge : n ≤ j := lt_f hf
 obtain rfl : j = n := by omega
 have le4z := l4.trans lez
 have hcl := conJ_len es i j
 have hca : conJ es i j = compL j es i := rfl
 have hpb : ∀ b, blk pv = some b → h3.own b = none := fun b hb => l4.none (ap b hb)
 obtain ⟨sv', h5, e5, gs5, w5, f5, k5⟩ := (gs.le le4z).join hwz gp.rl (by rw [nat64_length]; omega)
 obtain ⟨l5, a5⟩ := f5 h1 (leq4.trans lez) as_
 have asv : Apart (rem (bl sv) hz) sv := fun b hb => by rw [rem_own, if_pos (mem_bl.2 hb)]
 obtain ⟨l5r, a5r⟩ := f5 (rem (bl sv) hz) (rem_le _ _) asv
 have l5s : Le (rem (bl sv) hz) (rem (bl sv') h5) := l5r.of_none fun b hb => a5r b (mem_bl.1 hb)
 have l5q : Le (rem (bl sv) h3) (rem (bl sv') h5) := (Le.mono_rem le4z).trans l5s
 have go5 := go.le (Stays.RL Stays.isI) l5q
 have hob : ∀ b, blk ov = some b → (rem (bl sv) h3).own b ≠ none := fun b hb => by
  obtain ⟨us, g1, _⟩ := go
  exact GS.blk_own g1 hb
 have hovs : ∀ b, blk ov = some b → b ∉ bl sv' := fun b hb hm => by
  cases ho : (rem (bl sv) h3).own b with
  | none => exact hob b hb ho
  | some o =>
   have := l5q.own _ _ ho
   rw [rem_own, if_pos hm] at this; cases this
 have gpr : RL isI (rem (bl sv') (rem (bl ov) h5)) pv (nat64 (compL j es i)) := by
  have q1 : GI (rem (bl ov) (rem (bl sv) hz)) pv (nat64 (compL j es i)) := by
   rw [← hca]
   refine GS.to_rem (GS.to_rem gp fun b hb hm => ?_) fun b hb hm => ?_
   ·exact GS.blk_own gs (mem_bl.1 hm) (hpb b hb)
   ·exact hob b (mem_bl.1 hm) ((rem_le _ _).none (hpb b hb))
  exact (q1.rl.le Stays.isI l5s.mono_rem).le Stays.isI (rem_comm _ _ _)
 have gsb : ∀ b ∈ bl sv', h5.own b ≠ none := fun b hb => GS.blk_own gs5 (mem_bl.1 hb)
 have hpn := heads_length i es
 obtain ⟨h6, ov', h7, e6, e7, go7, l6, w6, f7, k7⟩ := GRL.push_rem (P := Try.prog) (t := 32) (Stays.RL Stays.isI) (by kernel_rfl) go5 w5 gpr gp.rl.sl.one (by unfold partsN; rw [List.length_map, List.length_map]; omega) hovs gsb
 have mk6 := mkL52 h5 gp.rl.sl
 rw [e6] at mk6
 obtain ⟨l7, a7⟩ := f7 h1 l5 ao
 have gs7 : GI h7 sv' (seen ++ nat64 (compL j es i)) := GS.kept gs5 fun b o hb h => (k7 b o h (fun e => hovs b e (mem_bl.2 hb))).1
 have w7 : WF h7 := aAppend_wf w6 e7
 have dj7 : ∀ b, blk ov' = some b → blk sv' ≠ some b := fun b hb e => by
  cases ho : h5.own b with
  | none => exact gsb b (mem_bl.2 e) ho
  | some o => exact (k7 b o ho (fun e' => hovs b e' (mem_bl.2 e))).2 hb
 have hh : heads (i + 1) es = heads i es ++ [i] := by
  rcases heads_succ i es with ⟨h, _⟩ | ⟨_, u, hu, hc⟩
  ·exact h
  ·exact absurd hc (hx u hu)
 simp only [kS1, bLookup, bMapSet, wantA, isCall, stepOp, evalO, evalL, evalP, evalM, putDst, flat, kA, kB, Nat.reduceLT, ↓reduceIte, kC, Nat.reduceEqDiff, aBuiltin, abinG, guardFree, abin, aInt, aUn, aNilCheck, retQ, retQ1, aresults, aresultL, aresult, mkF, undefV, reduceCtorEq, kD, kE, kF, kG, kH, kI, kJ, kK, aExtract, calleeOf, e5, mk6, e7, awrap_succ i (by omega)]
 exact loop_again (j - (i + 1)) [(1, .pointer (some ⟨B, 0, none⟩)), (3, ov'), (4, sv'), (5, .int .i64 (i + 1 : Nat))] (by omega) (by simp only [hasAll, kS1, bLookup, bMapSet, wantA, isCall, stepOp, evalO, evalL, evalP, evalM, putDst, flat, kA, kB, Nat.reduceLT, ↓reduceIte, kC, Nat.reduceEqDiff, aBuiltin, abinG, guardFree, abin, aInt, aUn, aNilCheck, retQ, retQ1, aresults, aresultL, aresult, mkF, undefV, reduceCtorEq, kD, kE, kF, kG, kH, kI, kJ, kK, aExtract, calleeOf]; simp)
  ⟨i + 1, ov', sv', seen ++ nat64 (compL j es i), rfl, hlt, rfl, by unfold partsN at go7 ⊢; rw [hh, List.map_append, List.map_append]; exact go7, gs7, by rw [List.length_append, nat64_length, ← hca, Nat.add_mul]; omega, dj7, fun x hx' => by
   rw [List.mem_append, hseen x hx', mem_nat64, mem_compL]
   constructor
   ·rintro (⟨u, hu, hc⟩ | ⟨_, hc⟩)
    ·exact ⟨u, by omega, hc⟩
    ·exact ⟨i, by omega, hc⟩
   ·rintro ⟨u, hu, hc⟩
    by_cases e : u = i
    ·subst e; exact .inr ⟨hx', hc⟩
    ·exact .inl ⟨u, by omega, hc⟩, l7, a7, a5⟩
end Go.Fw
