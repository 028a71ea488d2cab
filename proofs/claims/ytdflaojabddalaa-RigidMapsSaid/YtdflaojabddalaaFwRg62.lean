/- One of the texts of the layer and the walks: it proves what its theorems say of the functions of the seat, with no condition beyond theirs. -/
import Derived.Test.YtdflaojabddalaaFwRg61
set_option linter.unusedSimpArgs false
set_option linter.unusedVariables false
namespace Go.Fw
open Go.Proofs
set_option maxHeartbeats 2000000
set_option maxRecDepth 10000

/- the map that takes one order to the other one -/
def mapE (x y : List Nat) : List (Value × Value) := (x.zip y).map fun p => (.int .i64 (p.1 : Int), .int .i64 (p.2 : Int))
theorem mfind_mapE (z : Nat) : ∀ (x y : List Nat) (i : Nat), x.length = y.length → mfind .i64 (z : Int) (mapE x y) i = if z ∈ x then some (some (i + x.idxOf z, .int .i64 ((y.getD (x.idxOf z) 0 : Nat) : Int))) else some none
  | [], y, i, h => by simp [mapE, mfind]
  | a :: x, [], i, h => by simp at h
  | a :: x, b :: y, i, h => by
    have ih := mfind_mapE z x y (i + 1) (by simpa using h)
    have e : mapE (a :: x) (b :: y) = (.int .i64 (a : Int), .int .i64 (b : Int)) :: mapE x y := rfl
    rw [e, mfind, if_pos rfl]
    by_cases hz : z = a
    · subst hz; simp
    · have h1 : ¬ (z : Int) = (a : Int) := by omega
      have h2 : (a == z) = false := by simpa using fun e => hz e.symm
      rw [if_neg h1, ih]
      simp only [List.mem_cons, hz, false_or, List.idxOf_cons, h2, cond_false]
      split
      · simp; omega
      · rfl
theorem azero3 : azero Try.prog 3 = some (.int .i64 0) := by kernel_rfl
theorem look_map {g : AHeap} {M : Nat} {x y : List Nat} (ho : g.own M = some (.map (mapE x y))) (hl : x.length = y.length) {z : Nat} (hz : z ∈ x) : aLookup Try.prog g 40 (.map (some M)) (.int .i64 (z : Int)) false = some (.int .i64 ((toM x y z : Nat) : Int)) := by
  have := mfind_mapE z x y 0 hl
  rw [if_pos hz] at this
  simp [aLookup, Try.underlying40, Try.underlying3, ho, azero3, this, toM, Fw.flat]
theorem look_none {g : AHeap} {M : Nat} {x y : List Nat} (ho : g.own M = some (.map (mapE x y))) (hl : x.length = y.length) {z : Nat} (hz : z ∉ x) : aLookup Try.prog g 40 (.map (some M)) (.int .i64 (z : Int)) false = some (.int .i64 0) := by
  have := mfind_mapE z x y 0 hl
  rw [if_neg hz] at this
  simp [aLookup, Try.underlying40, Try.underlying3, ho, azero3, this, Fw.flat]
theorem mapE_snoc {x y : List Nat} (hl : x.length = y.length) (a b : Nat) : mapE (x ++ [a]) (y ++ [b]) = mapE x y ++ [(.int .i64 (a : Int), .int .i64 (b : Int))] := by
  rw [mapE, List.zip_append hl]; simp [mapE]
theorem set_map {g : AHeap} {M : Nat} {x y : List Nat} (ho : g.own M = some (.map (mapE x y))) (hl : x.length = y.length) {a b : Nat} (ha : a ∉ x) : aMapSet Try.prog g 40 (.map (some M)) (.int .i64 (a : Int)) (.int .i64 (b : Int)) = some (g.put M (.map (mapE (x ++ [a]) (y ++ [b])))) := by
  have := mfind_mapE a x y 0 hl
  rw [if_neg ha] at this
  simp [aMapSet, Try.underlying40, Try.underlying3, ho, this, mapE_snoc hl]

/- what is read of a right skin -/
section
variable {h : AHeap} {r ve d : Value} {S : SkinM} {v : Nat}
theorem skin_rot (hs : SkinR h r ve d S) (hr : RightS S) (hv : v < S.rot.length) :
    ∃ u, aIndexAddr Try.prog 23 r (.int .i64 v) = some (.pointer (some (elemAddr r v))) ∧ (∀ g, Le h g → aload Try.prog g 31 (elemAddr r v) = some u) ∧ (∀ g, aLen Try.prog g 31 u = some (.int .i64 (dg S v))) ∧
      ∀ p, p < dg S v → aIndexAddr Try.prog 31 u (.int .i64 p) = some (.pointer (some (elemAddr u p))) ∧ ∀ g, Le h g → aload Try.prog g 3 (elemAddr u p) = some (.int .i64 ((nb S v p : Nat) : Int)) := by
  obtain ⟨u, hu, hr2⟩ := hs.rot.load' (P := Try.prog) Try.underlying31 rfl v hv
  have e2 : S.rot.getD v [] = S.rot[v] := getD_of hv
  have hdg : S.rot[v].length = dg S v := by rw [dg, e2]
  refine ⟨u, hs.rot.addr (P := Try.prog) Try.underlying23 Try.underlying31 (by kernel_rfl) (k := .i64) v hv, hu, fun g => by rw [hr2.len (P := Try.prog) Try.underlying31 g, hdg], fun p hp => ?_⟩
  have hpl : p < S.rot[v].length := by rw [hdg]; exact hp
  refine ⟨hr2.addr (P := Try.prog) Try.underlying31 Try.underlying3 (by kernel_rfl) (k := .i64) p hpl, fun g e => ?_⟩
  rw [(hr2.le .isI e).loadI (P := Try.prog) Try.underlying3 rfl p hpl]
  have e3 : S.rot[v].getD p 0 = S.rot[v][p] := getD_of hpl
  rw [← (nb_ok hr hv hp).2.2.1, e2, e3]
theorem skin_vert (hs : SkinR h r ve d S) (hr : RightS S) (hv : v < S.rot.length) :
    ∃ u, aIndexAddr Try.prog 24 ve (.int .i64 v) = some (.pointer (some (elemAddr ve v))) ∧ (∀ g, Le h g → aload Try.prog g 34 (elemAddr ve v) = some u ∧ aConvert Try.prog g 34 9 u = some (.string (bytesOfInts (colV S v)), g)) ∧ okB (colV S v) := by
  have hlv : v < S.vert.length := by rw [hr.vert]; exact hv
  obtain ⟨u, hu, hr3⟩ := hs.vert.load' (P := Try.prog) Try.underlying34 rfl v hlv
  have ec : colV S v = S.vert[v] := getD_of hlv
  rw [← ec] at hr3
  exact ⟨u, hs.vert.addr (P := Try.prog) Try.underlying24 Try.underlying34 (by kernel_rfl) (k := .i64) v hlv, fun g e => ⟨hu g e, (hr3.le .isB e).text (P := Try.prog) (d := 9) Try.underlying34 Try.underlying5 rfl Try.underlying9⟩, hr3.cellsB.2⟩
theorem skin_dart (hs : SkinR h r ve d S) (hr : RightS S) (hv : v < S.rot.length) :
    ∃ u, aIndexAddr Try.prog 25 d (.int .i64 v) = some (.pointer (some (elemAddr d v))) ∧ (∀ g, Le h g → aload Try.prog g 24 (elemAddr d v) = some u) ∧
      ∀ p, p < dg S v → ∃ c, aIndexAddr Try.prog 24 u (.int .i64 p) = some (.pointer (some (elemAddr u p))) ∧ (∀ g, Le h g → aload Try.prog g 34 (elemAddr u p) = some c ∧ aConvert Try.prog g 34 9 c = some (.string (bytesOfInts (colD S v p)), g)) ∧ okB (colD S v p) := by
  have hld : v < S.dart.length := by rw [hr.dart]; exact hv
  obtain ⟨u, hu, hr4⟩ := hs.dart.load' (P := Try.prog) Try.underlying24 rfl v hld
  refine ⟨u, hs.dart.addr (P := Try.prog) Try.underlying25 Try.underlying24 (by kernel_rfl) (k := .i64) v hld, hu, fun p hp => ?_⟩
  have hdg : S.rot[v].length = dg S v := by rw [dg, getD_of hv]
  have hdl : S.dart[v].length = dg S v := by rw [hr.darts v _ _ (getElem?_of hv) (getElem?_of hld), hdg]
  have hpl : p < S.dart[v].length := by rw [hdl]; exact hp
  obtain ⟨c, hc, hr5⟩ := hr4.load' (P := Try.prog) Try.underlying34 rfl p hpl
  have ec : colD S v p = S.dart[v][p] := by
    have e2 : S.dart.getD v [] = S.dart[v] := getD_of hld
    have e3 : S.dart[v].getD p [] = S.dart[v][p] := getD_of hpl
    rw [colD, e2, e3]
  rw [← ec] at hr5
  exact ⟨c, hr4.addr (P := Try.prog) Try.underlying24 Try.underlying34 (by kernel_rfl) (k := .i64) p hpl, fun g e => ⟨hc g e, (hr5.le .isB e).text (P := Try.prog) (d := 9) Try.underlying34 Try.underlying5 rfl Try.underlying9⟩, hr5.cellsB.2⟩
end

theorem strEq {xs ys : List Int} (hx : okB xs) (hy : okB ys) : ((bytesOfInts xs).toList == (bytesOfInts ys).toList) = decide (xs = ys) := by
  rw [bytesOfInts_toList, bytesOfInts_toList]
  by_cases h : xs = ys
  · subst h; simp
  · rw [decide_eq_false h, beq_eq_false_iff_ne]
    exact fun e => h (bytes_inj hx hy e)

/- two numbers for a dart -/
theorem aBox2u (h : AHeap) (a b : Int) : aBox h (.agg #[.int .u8 a, .int .u8 b]) = some (.pointer (some ⟨h.next, 0, none⟩), h.alloc (.cells [.int .u8 a, .int .u8 b])) := rfl
theorem cv53' (h : AHeap) (x : Int) : aConvert Try.prog h 5 3 (.int .u8 x) = some (.int .i64 (awrap .i64 x), h) := by
  simp [aConvert, Try.underlying5, Try.underlying3]
theorem ix28 (a : Addr) (i : Nat) (hi : i < 2) : aIndexAddr Try.prog 28 (.pointer (some a)) (.int .i64 i) = some (.pointer (some (aadd a i))) := by
  have h1 : (i : Int) < 2 := by omega
  match i, hi with
  | 0, _ => rfl
  | 1, _ => rfl

theorem dart_any (W0 : World) (r ve d : Value) (S : SkinM) (a b : Int) (h : AHeap) (hs : SkinR h r ve d S) (hr : RightS S) (hm : SmallM S) (ha : 0 ≤ a ∧ a < 256) (hb : 0 ≤ b ∧ b < 256) :
    AC Try.prog W0 9 [.agg #[r, ve, d], .agg #[.int .u8 a, .int .u8 b]] h fun x h' => x = .tuple #[.int .i64 ((a.toNat % S.rot.length : Nat) : Int), .int .i64 ((b.toNat % max (dg S (a.toNat % S.rot.length)) 1 : Nat) : Int)] ∧ Le h h' := by
  refine AC.vc (fn := Try.f9) (c := _) ⟨Try.func9, rfl, by decide⟩ Try.ntmps9 Try.results9 (by simp) fun hwf => ?_
  simp only [argFrame, argFrom, Nat.reduceAdd]
  obtain ⟨h1, b1, le1, wf1, o1, lA⟩ := aBoxS hwf hs
  generalize hB : h.next = B at *
  simp only [beq_dec, fst_mk, snd_mk, VK_skip, VK_ret, VK_exit, VK_seq, VK_block, VK_region, VK_draw, VK_cond, KCond_true, KCond_false, VK_loop, KN_nil, KN_seq, KN_blk, KX_ret_nil, KX_ret_seq, KX_ret_blk, KX_exit_nil, KX_exit_seq, KX_exit_blk, KE_normal, KE_ret, KE_exit, KO_nil, KO_cons, KO_app_cons, KO_app_nil, KO1_true, KO1_false, KO2_true, KO2_false, KO3_some, KO4_some, loopQ_ret, loopQ_exit, wantA, isCall, stepOp, evalO, evalL, evalP, evalM, putDst, flat, cond_true, cond_false, Nat.reduceLT, ↓reduceIte, Trie.get_set, Nat.reduceEqDiff, Nat.one_ne_zero, Nat.zero_ne_one, aBuiltin, abinG, guardFree, abin, aInt, aUn, aNilCheck, retQ, retQ1, aresults, aresultL, aresult, mkF, undefV, reduceCtorEq, List.getElem?_toArray, List.append_eq, List.cons_append, List.nil_append, List.getElem?_cons_zero, List.getElem?_cons_succ, Option.bind_some, Bool.not_true, Bool.not_false, beq_self_eq_true, aExtract, calleeOf, awrap_u8, Bool.true_beq, Bool.false_beq, beq_true, beq_false, decide_true, decide_false, Bool.not_not, Bool.and_true, Bool.true_and, Bool.and_false, Bool.false_and, b1, aBox2u]
  obtain ⟨h2, e2, le2, wf2, o2⟩ := alloc_f wf1 [.int .u8 a, .int .u8 b]
  rw [e2]
  generalize h1.next = C at *
  have i0 : aIndexAddr Try.prog 28 (.pointer (some ⟨C, 0, none⟩)) (.int .i64 0) = some (.pointer (some ⟨C, 0, none⟩)) := ix28 ⟨C, 0, none⟩ 0 (by decide)
  have i1 : aIndexAddr Try.prog 28 (.pointer (some ⟨C, 0, none⟩)) (.int .i64 1) = some (.pointer (some ⟨C, 1, none⟩)) := ix28 ⟨C, 0, none⟩ 1 (by decide)
  have l0 : aload Try.prog h2 5 ⟨C, 0, none⟩ = some (.int .u8 a) := by rw [aload_one Try.underlying5 rfl o2]; rfl
  have l1 : aload Try.prog h2 5 ⟨C, 1, none⟩ = some (.int .u8 b) := by rw [aload_one Try.underlying5 rfl o2]; rfl
  have lS := (lA h2 le2).2.1
  have nr := fun g => hs.rot.len (P := Try.prog) Try.underlying23 g
  have wa : awrap .i64 a = ((a.toNat : Nat) : Int) := by rw [awrap_in _ (by omega) (by omega)]; omega
  have wb : awrap .i64 b = ((b.toNat : Nat) : Int) := by rw [awrap_in _ (by omega) (by omega)]; omega
  have hp := hr.pos
  have z0 : ((S.rot.length : Int) = 0) = False := eq_false (by omega)
  have t0 : ((a.toNat : Nat) : Int).tmod (S.rot.length : Int) = ((a.toNat % S.rot.length : Nat) : Int) := by rw [← Int.ofNat_tmod]
  have hv : a.toNat % S.rot.length < S.rot.length := Nat.mod_lt _ (by omega)
  simp only [beq_dec, fst_mk, snd_mk, VK_skip, VK_ret, VK_exit, VK_seq, VK_block, VK_region, VK_draw, VK_cond, KCond_true, KCond_false, VK_loop, KN_nil, KN_seq, KN_blk, KX_ret_nil, KX_ret_seq, KX_ret_blk, KX_exit_nil, KX_exit_seq, KX_exit_blk, KE_normal, KE_ret, KE_exit, KO_nil, KO_cons, KO_app_cons, KO_app_nil, KO1_true, KO1_false, KO2_true, KO2_false, KO3_some, KO4_some, loopQ_ret, loopQ_exit, wantA, isCall, stepOp, evalO, evalL, evalP, evalM, putDst, flat, cond_true, cond_false, Nat.reduceLT, ↓reduceIte, Trie.get_set, Nat.reduceEqDiff, Nat.one_ne_zero, Nat.zero_ne_one, aBuiltin, abinG, guardFree, abin, aInt, aUn, aNilCheck, retQ, retQ1, aresults, aresultL, aresult, mkF, undefV, reduceCtorEq, List.getElem?_toArray, List.append_eq, List.cons_append, List.nil_append, List.getElem?_cons_zero, List.getElem?_cons_succ, Option.bind_some, Bool.not_true, Bool.not_false, beq_self_eq_true, aExtract, calleeOf, awrap_u8, Bool.true_beq, Bool.false_beq, beq_true, beq_false, decide_true, decide_false, Bool.not_not, Bool.and_true, Bool.true_and, Bool.and_false, Bool.false_and, i0, l0, cv53', fld0, aadd, Nat.zero_add, lS, nr, wa, z0, t0]
  generalize a.toNat % S.rot.length = v at *
  obtain ⟨u, ad, ld, ln, -⟩ := skin_rot hs hr hv
  have lu := ld h2 (le1.trans le2)
  have mx : aMax (.int .i64 (dg S v)) [.int .i64 1] = some (.int .i64 ((max (dg S v) 1 : Nat) : Int)) := by
    simp only [aMax, if_true]
    by_cases hd : (1 : Int) > (dg S v : Int)
    · rw [if_pos hd, show max (dg S v) 1 = 1 by omega]; rfl
    · rw [if_neg hd, show max (dg S v) 1 = dg S v by omega]
  have z1 : (((max (dg S v) 1 : Nat) : Int) = 0) = False := eq_false (by omega)
  have t1 : ((b.toNat : Nat) : Int).tmod ((max (dg S v) 1 : Nat) : Int) = ((b.toNat % max (dg S v) 1 : Nat) : Int) := by rw [← Int.ofNat_tmod]
  refine KDraw.intro mixed (.fl 0 (.fl 1 (.fl 2 (.fl 3 (.fl 4 (.fl 5 (.fl 6 (.fl 7 (.fl 8 (.fl 9 (.fl 10 (.fl 11 (.fl 12 (.fl 13 (.done))))))))))))))) (by kernel_rfl) ?_
  simp only [beq_dec, fst_mk, snd_mk, VK_skip, VK_ret, VK_exit, VK_seq, VK_block, VK_region, VK_draw, VK_cond, KCond_true, KCond_false, VK_loop, KN_nil, KN_seq, KN_blk, KX_ret_nil, KX_ret_seq, KX_ret_blk, KX_exit_nil, KX_exit_seq, KX_exit_blk, KE_normal, KE_ret, KE_exit, KO_nil, KO_cons, KO_app_cons, KO_app_nil, KO1_true, KO1_false, KO2_true, KO2_false, KO3_some, KO4_some, loopQ_ret, loopQ_exit, wantA, isCall, stepOp, evalO, evalL, evalP, evalM, putDst, flat, cond_true, cond_false, Nat.reduceLT, ↓reduceIte, Trie.get_set, Nat.reduceEqDiff, Nat.one_ne_zero, Nat.zero_ne_one, aBuiltin, abinG, guardFree, abin, aInt, aUn, aNilCheck, retQ, retQ1, aresults, aresultL, aresult, mkF, undefV, reduceCtorEq, List.getElem?_toArray, List.append_eq, List.cons_append, List.nil_append, List.getElem?_cons_zero, List.getElem?_cons_succ, Option.bind_some, Bool.not_true, Bool.not_false, beq_self_eq_true, aExtract, calleeOf, awrap_u8, Bool.true_beq, Bool.false_beq, beq_true, beq_false, decide_true, decide_false, Bool.not_not, Bool.and_true, Bool.true_and, Bool.and_false, Bool.false_and, Nat.reduceBEq, Bool.or_self, Bool.false_eq_true, KD_done, KD_no, KD_fl, KF1_some, KF2_true, KF2_false, KF3_some, KF4_some, KD_ch, KG1_some, KG2_true, KG2_false, KG3_true, KG3_false, KG4_some, KG5_some, HoldsAll, Holds_eq, H1_some, H2_true, H2_false, H3_some, HD_some, HD_none, List.filter_nil, List.filter_cons, List.contains_cons, List.contains_nil, Bool.or_false, Bool.false_or, Bool.true_or, Bool.or_true, true_and, and_true, i1, l1, cv53', fld0, aadd, Nat.zero_add, lS, ad, lu, ln, mx, wb, z1, t1]
  exact le1.trans le2
end Go.Fw
