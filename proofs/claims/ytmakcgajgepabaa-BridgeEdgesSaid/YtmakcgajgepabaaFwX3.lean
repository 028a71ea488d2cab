/- One of the texts of the layer and the walks: it proves what its theorems say of the functions of the seat, with no condition beyond theirs. -/
import Derived.Test.YtmakcgajgepabaaFwX2
set_option linter.unusedSimpArgs false
set_option linter.unusedVariables false
namespace Go.Fw
open Go.Proofs
attribute [local irreducible] KO4 KO3 KO2 KO1 KO KN KX KE VK KCond KDraw KCall KLoop
set_option maxHeartbeats 8000000
set_option maxRecDepth 10000
def fmap (l : List Int) : List (Int × Int) := l.foldl (fun m v => setK m v 1) []
theorem fmap_snoc (l : List Int) (x : Int) : fmap (l ++ [x]) = setK (fmap l) x 1 := by simp [fmap]
theorem fmap_keys (l : List Int) : ∀ x, x ∈ (fmap l).map (·.1) ↔ x ∈ l := by
  have : ∀ (l : List Int) (m : List (Int × Int)) x, x ∈ (l.foldl (fun m v => setK m v 1) m).map (·.1) ↔ x ∈ m.map (·.1) ∨ x ∈ l := by
    intro l
    induction l with
    | nil => simp
    | cons a l ih => intro m x; rw [List.foldl_cons, ih, setK_keys]; simp only [List.mem_cons]; exact ⟨fun h => h.elim (fun h => h.elim (fun h => .inr (.inl h)) .inl) (fun h => .inr (.inr h)), fun h => h.elim (fun h => .inl (.inr h)) (fun h => h.elim (fun h => .inl (.inl h)) .inr)⟩
  intro x
  have := this l [] x
  simpa [fmap] using this
theorem fmap_nodup (l : List Int) : ((fmap l).map (·.1)).Nodup := by
  have : ∀ (l : List Int) (m : List (Int × Int)), (m.map (·.1)).Nodup → ((l.foldl (fun m v => setK m v 1) m).map (·.1)).Nodup := by
    intro l
    induction l with
    | nil => intro m h; exact h
    | cons a l ih => intro m h; exact ih _ (setK_nodup h a 1)
  exact this l [] (by simp)
theorem fmap_val (l : List Int) : ∀ x b, lookK (fmap l) x = some b → b = 1 := by
  have : ∀ (l : List Int) (m : List (Int × Int)), (∀ x b, lookK m x = some b → b = 1) → ∀ x b, lookK (l.foldl (fun m v => setK m v 1) m) x = some b → b = 1 := by
    intro l
    induction l with
    | nil => intro m h; exact h
    | cons a l ih =>
      intro m h
      refine ih _ fun x b hx => ?_
      rw [lookK_set] at hx
      split at hx
      · injection hx with hx; exact hx.symm
      · exact h x b hx
  exact this l [] (by simp [lookK])
theorem fmap_look {l : List Int} {x : Int} (h : x ∈ l) : lookK (fmap l) x = some 1 := by
  have := lookK_mem.2 ((fmap_keys l x).2 h)
  cases hx : lookK (fmap l) x with
  | none => exact absurd hx this
  | some b => rw [fmap_val l x b hx]
theorem fmap_len {l feet : List Int} (hp : feet.Pairwise (· < ·)) (hm : ∀ x, x ∈ feet ↔ x ∈ l) : (fmap l).length = feet.length := by
  have nd : feet.Nodup := by rw [List.nodup_iff_pairwise_ne]; exact hp.imp fun h => by omega
  have l1 := (fmap_nodup l).length_le_of_subset (l₂ := feet) fun x hx => (hm x).2 ((fmap_keys l x).1 hx)
  have l2 := nd.length_le_of_subset (l₂ := (fmap l).map (·.1)) fun x hx => (fmap_keys l x).2 ((hm x).1 hx)
  rw [List.length_map] at l1 l2
  omega
theorem alloc_m {h : AHeap} (hw : WF h) : ∃ h', h.alloc (.map []) = h' ∧ Le h h' ∧ WF h' ∧ h'.own h.next = some (.map (mapI [])) := ⟨_, rfl, (Le.refl h).alloc hw _, hw.alloc _, AHeap.own_alloc_eq _ _⟩
theorem together24_any (W0 : World) (gv ea eb nv : Value) (n : Nat) (web inn edges : List Pr) (feet : List Int) (h : AHeap) (hg : GR h gv ⟨(n : Int), inn⟩) (pa : PR h ea edges) (pb : RL isI h eb feet) (hnv : RL isBo h nv (onM n web)) (hR : InR n edges) (hn : n ≤ 300) (hel : edges.length ≤ 1000) (hfl : feet.length ≤ 1000)
    (hr : RightG ⟨(n : Int), inn⟩) (hp : feet.Pairwise (· < ·)) (hm : ∀ x, x ∈ feet ↔ x ∈ ftL (onF n web) edges) (hc : ∀ u w : Nat, (u : Int) ∈ ftL (fun u => !onF n web u) edges → (w : Int) ∈ ftL (fun u => !onF n web u) edges → Con inn u w) :
    AC Try.prog W0 24 [gv, .agg #[ea, eb], nv] h fun x h' => x = .bool true ∧ Le h h' := by
  have hg0 := hg
  obtain ⟨ev, rfl, hpg⟩ := hg.open
  refine AC.vc (fn := Try.f24) (c := _) ⟨Try.func24, rfl, by decide⟩ Try.ntmps24 Try.results24 (by simp) fun hwf => ?_
  simp only [argFrame, argFrom, Nat.reduceAdd]
  obtain ⟨h1, b1, le1, wf1, -, lA⟩ := boxG (n := (n : Int)) hwf hpg
  generalize h.next = B at *
  obtain ⟨h2, e2, l2, w2, o2⟩ := alloc_f wf1 [ea, eb]
  have bx : aBox h1 (.agg #[ea, eb]) = some (.pointer (some ⟨h1.next, 0, none⟩), h2) := by
    rw [← e2]
    obtain ⟨_, _, rfl, _⟩ := pa.sl
    obtain ⟨_, _, rfl, _⟩ := pb.sl
    rfl
  have lF : ∀ g, Le h2 g → aload Try.prog g 22 ⟨h1.next, 0, none⟩ = some ea ∧ aload Try.prog g 39 ⟨h1.next, 1, none⟩ = some eb := fun g l => ⟨by rw [aload_one Try.underlying22 rfl (l.own _ _ o2)]; rfl, by rw [aload_one Try.underlying39 rfl (l.own _ _ o2)]; rfl⟩
  generalize h1.next = C at *
  obtain ⟨h3, e3, l3, w3, o3⟩ := alloc_m w2
  have nM : h2.own h2.next = none := (Le.refl h2).next w2 (Nat.le_refl _)
  generalize hMn : h2.next = M at *
  have lF3 := lF h3 l3
  have le := fun g => pa.len g
  have lfe := fun g => pb.len (P := Try.prog) Try.underlying39 g
  simp only [kS1, bLookup, bMapSet, wantA, isCall, stepOp, evalO, evalL, evalP, evalM, putDst, flat, kA, kB, Nat.reduceLT, ↓reduceIte, kC, Nat.reduceEqDiff, aBuiltin, abinG, guardFree, abin, aInt, aUn, aNilCheck, retQ, retQ1, aresults, aresultL, aresult, mkF, undefV, reduceCtorEq, kD, kE, kF, kG, kH, kI, kJ, kK, aExtract, calleeOf, b1, bx, e3, hMn, ff0, aadd, Nat.zero_add, lF3.1, le]
  let on : Nat → Bool := onF n web
  let off : Nat → Bool := fun u => !on u
  have oaN : ∀ u, u < n → aIndexAddr Try.prog 35 nv (.int .i64 u) = some (.pointer (some (elemAddr nv u))) := fun u hu => hnv.addrBo (k := .i64) u (by rw [onM_length]; exact hu)
  have olN : ∀ g, Le h g → ∀ u, u < n → aload Try.prog g 4 (elemAddr nv u) = some (.bool (on u)) := fun g l u hu => by
    rw [(hnv.le Stays.isBo l).loadBo u (by rw [onM_length]; exact hu)]
    simp only [on]; rw [onF, getD_of (by rw [onM_length]; exact hu)]
  have le03 := (le1.trans l2).trans l3
  refine KLoop.intro (fun k fr hh => ∃ (i : Nat) (sv : Value), k = edges.length - i ∧ i ≤ edges.length ∧ fr = mkF [(2, nv), (3, .pointer (some ⟨B, 0, none⟩)), (4, .pointer (some ⟨C, 0, none⟩)), (7, .map (some M)), (8, sv), (21, ea), (22, .int .i64 edges.length), (23, .int .i64 i)] ∧ GI hh sv (ftL off (edges.take i)) ∧ Le h2 hh ∧ Apart h2 sv ∧ hh.own M = some (.map (mapI (fmap (ftL on (edges.take i))))) ∧ blk sv ≠ some M)
    edges.length [(2, nv), (3, .pointer (some ⟨B, 0, none⟩)), (4, .pointer (some ⟨C, 0, none⟩)), (7, .map (some M)), (8, .slice none 0 0), (21, ea), (22, .int .i64 edges.length), (23, .int .i64 (0 : Nat))] (by simp only [hasAll, kS1, bLookup, bMapSet, wantA, isCall, stepOp, evalO, evalL, evalP, evalM, putDst, flat, kA, kB, Nat.reduceLT, ↓reduceIte, kC, Nat.reduceEqDiff, aBuiltin, abinG, guardFree, abin, aInt, aUn, aNilCheck, retQ, retQ1, aresults, aresultL, aresult, mkF, undefV, reduceCtorEq, kD, kE, kF, kG, kH, kI, kJ, kK, aExtract, calleeOf]; simp)
    ⟨0, _, rfl, Nat.zero_le _, rfl, by simpa [ftL] using GI.nil h3, l3, fun b hb => by simp [blk] at hb, by simpa [ftL, fmap] using o3, by simp [blk]⟩ ?_
  rintro k fr hh hwh ⟨i, sv, rfl, hi, rfl, g, leh, ap, oM, nm⟩
  have hol := ftL_length off (edges.take i)
  rw [List.length_take] at hol
  simp only [kS1, bLookup, bMapSet, wantA, isCall, stepOp, evalO, evalL, evalP, evalM, putDst, flat, kA, kB, Nat.reduceLT, ↓reduceIte, kC, Nat.reduceEqDiff, aBuiltin, abinG, guardFree, abin, aInt, aUn, aNilCheck, retQ, retQ1, aresults, aresultL, aresult, mkF, undefV, reduceCtorEq, kD, kE, kF, kG, kH, kI, kJ, kK, aExtract, calleeOf]
  refine KCond.intro (fun ht => ?_) (fun hf => ?_)
  · have hlt : i < edges.length := lt_t ht
    clear ht
    have hpi := getElem?_of hlt
    have htk : edges.take (i + 1) = edges.take i ++ [edges[i]] := List.take_succ_eq_append_getElem hlt
    generalize edges[i] = p at hpi htk
    obtain ⟨p1, p2, p3⟩ := hR p (List.mem_of_getElem? hpi)
    have ad := pa.addr (k := .i64) i hlt
    have ld := (pa.le ((le1.trans l2).trans leh)).load hpi
    obtain ⟨h4', h4, a4, s4, l4, w4, o4⟩ := new42 hwh p
    have g4 := g.le l4
    have oM4 := l4.own _ _ oM
    have LP := own42 o4
    generalize hh.next = E at *
    simp only [kS1, bLookup, bMapSet, wantA, isCall, stepOp, evalO, evalL, evalP, evalM, putDst, flat, kA, kB, Nat.reduceLT, ↓reduceIte, kC, Nat.reduceEqDiff, aBuiltin, abinG, guardFree, abin, aInt, aUn, aNilCheck, retQ, retQ1, aresults, aresultL, aresult, mkF, undefV, reduceCtorEq, kD, kE, kF, kG, kH, kI, kJ, kK, aExtract, calleeOf, ad, ld, a4, s4, LP]
    have hU0 : ftL off (edges.take i) = ftL off (edges.take i) ++ ftU off p 0 := by simp [ftU]
    have hU1 : ftL on (edges.take i) = ftL on (edges.take i) ++ ftU on p 0 := by simp [ftU]
    rw [hU0] at g4
    rw [hU1] at oM4
    refine KLoop.intro (fun k fr hq => ∃ (q : Nat) (sv : Value), k = 2 - q ∧ q ≤ 2 ∧ fr = mkF [(2, nv), (3, .pointer (some ⟨B, 0, none⟩)), (4, .pointer (some ⟨C, 0, none⟩)), (7, .map (some M)), (8, sv), (21, ea), (22, .int .i64 edges.length), (23, .int .i64 i), (27, valP p), (28, .int .i64 q)] ∧ GI hq sv (ftL off (edges.take i) ++ ftU off p q) ∧ Le h2 hq ∧ Apart h2 sv ∧ hq.own M = some (.map (mapI (fmap (ftL on (edges.take i) ++ ftU on p q)))) ∧ blk sv ≠ some M)
      2 [(2, nv), (3, .pointer (some ⟨B, 0, none⟩)), (4, .pointer (some ⟨C, 0, none⟩)), (7, .map (some M)), (8, sv), (21, ea), (22, .int .i64 edges.length), (23, .int .i64 i), (27, valP p), (28, .int .i64 (0 : Nat))] (by simp only [hasAll, kS1, bLookup, bMapSet, wantA, isCall, stepOp, evalO, evalL, evalP, evalM, putDst, flat, kA, kB, Nat.reduceLT, ↓reduceIte, kC, Nat.reduceEqDiff, aBuiltin, abinG, guardFree, abin, aInt, aUn, aNilCheck, retQ, retQ1, aresults, aresultL, aresult, mkF, undefV, reduceCtorEq, kD, kE, kF, kG, kH, kI, kJ, kK, aExtract, calleeOf]; simp)
      ⟨0, _, rfl, Nat.zero_le _, rfl, g4, leh.trans l4, ap, oM4, nm⟩ ?_
    have leH := (le1.trans l2)
    clear hU0 hU1 g4 LP oM4 o4 w4 s4 a4 l4 ld
    clear h4 h4' nm oM ap leh g hwh sv hh
    rintro k fr hq hwq ⟨q, sv, rfl, hq2, rfl, g, leq, ap, oM, nm⟩
    have hlen : (ftL off (edges.take i) ++ ftU off p q).length ≤ 100000 := by
      have h1 := ftL_length off (edges.take i)
      have h2 : (ftU off p q).length ≤ 2 := Nat.le_trans (List.length_filter_le _ _) (by rw [List.length_take]; exact Nat.min_le_right _ _)
      rw [List.length_append]; rw [List.length_take] at h1; omega
    by_cases c : q < 2
    rotate_left
    · have z : ((q : Int) < 2) = False := eq_false (by omega)
      obtain rfl : q = 2 := by omega
      have he : ftL off (edges.take i) ++ ftU off p 2 = ftL off (edges.take (i + 1)) := by rw [htk]; simp [ftL, ftU, ftP]
      have he1 : ftL on (edges.take i) ++ ftU on p 2 = ftL on (edges.take (i + 1)) := by rw [htk]; simp [ftL, ftU, ftP]
      rw [he] at g
      rw [he1] at oM
      simp only [kS1, bLookup, bMapSet, wantA, isCall, stepOp, evalO, evalL, evalP, evalM, putDst, flat, kA, kB, Nat.reduceLT, ↓reduceIte, kC, Nat.reduceEqDiff, aBuiltin, abinG, guardFree, abin, aInt, aUn, aNilCheck, retQ, retQ1, aresults, aresultL, aresult, mkF, undefV, reduceCtorEq, kD, kE, kF, kG, kH, kI, kJ, kK, aExtract, calleeOf, z, awrap_succ i (by omega)]
      exact loop_again (edges.length - (i + 1)) [(2, nv), (3, .pointer (some ⟨B, 0, none⟩)), (4, .pointer (some ⟨C, 0, none⟩)), (7, .map (some M)), (8, sv), (21, ea), (22, .int .i64 edges.length), (23, .int .i64 (i + 1 : Nat))] (by omega) (by simp only [hasAll, kS1, bLookup, bMapSet, wantA, isCall, stepOp, evalO, evalL, evalP, evalM, putDst, flat, kA, kB, Nat.reduceLT, ↓reduceIte, kC, Nat.reduceEqDiff, aBuiltin, abinG, guardFree, abin, aInt, aUn, aNilCheck, retQ, retQ1, aresults, aresultL, aresult, mkF, undefV, reduceCtorEq, kD, kE, kF, kG, kH, kI, kJ, kK, aExtract, calleeOf]; simp) ⟨i + 1, sv, rfl, hlt, rfl, g, leq, ap, oM, nm⟩
    have z : ((q : Int) < 2) = True := eq_true (by omega)
    have ix := ix42 p q c
    have hrng : 0 ≤ endAt p q ∧ endAt p q < (n : Int) := by unfold endAt; split <;> omega
    have hsu := ftU_succ off p q c
    have hsu1 := ftU_succ on p q c
    generalize endAt p q = x at ix hrng hsu hsu1
    obtain ⟨v, rfl⟩ := Int.eq_ofNat_of_zero_le hrng.1
    have hv : v < n := by omega
    have oa := oaN v hv
    have ol := olN hq (leH.trans leq) v hv
    rw [Int.toNat_natCast] at hsu hsu1
    cases c2 : on v with
    | true =>
      have c3 : off v = false := by simp [off, c2]
      rw [c2] at ol hsu1
      rw [c3] at hsu
      have he : ftL off (edges.take i) ++ ftU off p q = ftL off (edges.take i) ++ ftU off p (q + 1) := by rw [hsu]; simp
      rw [he] at g
      have ms := mapI_set oM (v : Int) 1
      rw [← fmap_snoc] at ms
      have he1 : ftL on (edges.take i) ++ ftU on p q ++ [(v : Int)] = ftL on (edges.take i) ++ ftU on p (q + 1) := by rw [hsu1]; simp
      rw [he1] at ms
      simp only [kS1, bLookup, bMapSet, wantA, isCall, stepOp, evalO, evalL, evalP, evalM, putDst, flat, kA, kB, Nat.reduceLT, ↓reduceIte, kC, Nat.reduceEqDiff, aBuiltin, abinG, guardFree, abin, aInt, aUn, aNilCheck, retQ, retQ1, aresults, aresultL, aresult, mkF, undefV, reduceCtorEq, kD, kE, kF, kG, kH, kI, kJ, kK, aExtract, calleeOf, z, ix, oa, ol, ms, awrap_succ q (by omega)]
      exact loop_again (2 - (q + 1)) [(2, nv), (3, .pointer (some ⟨B, 0, none⟩)), (4, .pointer (some ⟨C, 0, none⟩)), (7, .map (some M)), (8, sv), (21, ea), (22, .int .i64 edges.length), (23, .int .i64 i), (27, valP p), (28, .int .i64 (q + 1 : Nat))] (by omega) (by simp only [hasAll, kS1, bLookup, bMapSet, wantA, isCall, stepOp, evalO, evalL, evalP, evalM, putDst, flat, kA, kB, Nat.reduceLT, ↓reduceIte, kC, Nat.reduceEqDiff, aBuiltin, abinG, guardFree, abin, aInt, aUn, aNilCheck, retQ, retQ1, aresults, aresultL, aresult, mkF, undefV, reduceCtorEq, kD, kE, kF, kG, kH, kI, kJ, kK, aExtract, calleeOf]; simp) ⟨q + 1, sv, rfl, c, rfl, GS.put g _ nm, leq.put _ nM, ap, AHeap.own_put_eq _ _ _, nm⟩
    | false =>
      have c3 : off v = true := by simp [off, c2]
      rw [c2] at ol hsu1
      rw [c3] at hsu
      obtain ⟨sv', h4, h5, e4, e5, g5, w5, l4, hf, hk⟩ := g.push hwq (v : Int) hlen
      obtain ⟨l5, a5⟩ := hf h2 leq ap
      obtain ⟨oM5, nm5⟩ := hk M _ oM nm
      have he : ftL off (edges.take i) ++ ftU off p q ++ [(v : Int)] = ftL off (edges.take i) ++ ftU off p (q + 1) := by rw [hsu]; simp
      have he1 : ftL on (edges.take i) ++ ftU on p q = ftL on (edges.take i) ++ ftU on p (q + 1) := by rw [hsu1]; simp
      rw [he] at g5
      rw [he1] at oM5
      simp only [kS1, bLookup, bMapSet, wantA, isCall, stepOp, evalO, evalL, evalP, evalM, putDst, flat, kA, kB, Nat.reduceLT, ↓reduceIte, kC, Nat.reduceEqDiff, aBuiltin, abinG, guardFree, abin, aInt, aUn, aNilCheck, retQ, retQ1, aresults, aresultL, aresult, mkF, undefV, reduceCtorEq, kD, kE, kF, kG, kH, kI, kJ, kK, aExtract, calleeOf, z, ix, oa, ol, e4, e5, awrap_succ q (by omega)]
      exact loop_again (2 - (q + 1)) [(2, nv), (3, .pointer (some ⟨B, 0, none⟩)), (4, .pointer (some ⟨C, 0, none⟩)), (7, .map (some M)), (8, sv'), (21, ea), (22, .int .i64 edges.length), (23, .int .i64 i), (27, valP p), (28, .int .i64 (q + 1 : Nat))] (by omega) (by simp only [hasAll, kS1, bLookup, bMapSet, wantA, isCall, stepOp, evalO, evalL, evalP, evalM, putDst, flat, kA, kB, Nat.reduceLT, ↓reduceIte, kC, Nat.reduceEqDiff, aBuiltin, abinG, guardFree, abin, aInt, aUn, aNilCheck, retQ, retQ1, aresults, aresultL, aresult, mkF, undefV, reduceCtorEq, kD, kE, kF, kG, kH, kI, kJ, kK, aExtract, calleeOf]; simp) ⟨q + 1, sv', rfl, c, rfl, g5, l5, a5, oM5, nm5⟩
  have hge : edges.length ≤ i := lt_f hf
  rw [List.take_of_length_le hge] at g oM
  have leHh := (le1.trans l2).trans leh
  have lFh := lF hh leh
  have pbh := pb.le Stays.isI leHh
  simp only [kS1, bLookup, bMapSet, wantA, isCall, stepOp, evalO, evalL, evalP, evalM, putDst, flat, kA, kB, Nat.reduceLT, ↓reduceIte, kC, Nat.reduceEqDiff, aBuiltin, abinG, guardFree, abin, aInt, aUn, aNilCheck, retQ, retQ1, aresults, aresultL, aresult, mkF, undefV, reduceCtorEq, kD, kE, kF, kG, kH, kI, kJ, kK, aExtract, calleeOf, ff1, aadd, Nat.zero_add, lFh.2, lfe]
  refine KLoop.intro (fun k fr hq => ∃ j : Nat, k = feet.length - j ∧ j ≤ feet.length ∧ fr = mkF [(3, .pointer (some ⟨B, 0, none⟩)), (4, .pointer (some ⟨C, 0, none⟩)), (7, .map (some M)), (8, sv), (44, eb), (45, .int .i64 feet.length), (46, .int .i64 j)] ∧ hq = hh)
    feet.length [(3, .pointer (some ⟨B, 0, none⟩)), (4, .pointer (some ⟨C, 0, none⟩)), (7, .map (some M)), (8, sv), (44, eb), (45, .int .i64 feet.length), (46, .int .i64 (0 : Nat))] (by simp only [hasAll, kS1, bLookup, bMapSet, wantA, isCall, stepOp, evalO, evalL, evalP, evalM, putDst, flat, kA, kB, Nat.reduceLT, ↓reduceIte, kC, Nat.reduceEqDiff, aBuiltin, abinG, guardFree, abin, aInt, aUn, aNilCheck, retQ, retQ1, aresults, aresultL, aresult, mkF, undefV, reduceCtorEq, kD, kE, kF, kG, kH, kI, kJ, kK, aExtract, calleeOf]; simp) ⟨0, rfl, Nat.zero_le _, rfl, rfl⟩ ?_
  clear hf
  rintro k fr hq hwq ⟨j, rfl, hj, rfl, rfl⟩
  simp only [kS1, bLookup, bMapSet, wantA, isCall, stepOp, evalO, evalL, evalP, evalM, putDst, flat, kA, kB, Nat.reduceLT, ↓reduceIte, kC, Nat.reduceEqDiff, aBuiltin, abinG, guardFree, abin, aInt, aUn, aNilCheck, retQ, retQ1, aresults, aresultL, aresult, mkF, undefV, reduceCtorEq, kD, kE, kF, kG, kH, kI, kJ, kK, aExtract, calleeOf]
  refine KCond.intro (fun ht => ?_) (fun hf => ?_)
  · have hlj : j < feet.length := lt_t ht
    clear ht
    have hfj := getElem?_of hlj
    have adj' := pb.addr (P := Try.prog) Try.underlying39 Try.underlying3 (by kernel_rfl) (k := .i64) j hlj
    have ldj := pbh.loadI (P := Try.prog) Try.underlying3 rfl j hlj
    have hxm := (hm _).1 (List.mem_of_getElem? hfj)
    have hord : ∀ j', j' + 1 = j → ∃ y, feet[j']? = some y ∧ y < feet[j] := fun j' e => by
      rw [List.pairwise_iff_getElem] at hp
      exact ⟨_, getElem?_of (by omega), hp j' j (by omega) hlj (by omega)⟩
    generalize feet[j] = x at hfj ldj hxm hord
    have lk := mapI_look oM x false
    rw [fmap_look hxm] at lk
    have lk : aLookup Try.prog hq 47 (.map (some M)) (.int .i64 x) false = some (.int .i64 1) := lk
    have d1 : decide ((1 : Int) = 0) = false := by decide
    cases j with
    | zero =>
      have z0 : ((0 : Nat) : Int) = 0 := rfl
      have c0 : ¬ ((0 : Int) > 0) := by omega
      simp only [z0] at adj'
      simp only [kS1, bLookup, bMapSet, wantA, isCall, stepOp, evalO, evalL, evalP, evalM, putDst, flat, kA, kB, Nat.reduceLT, ↓reduceIte, kC, Nat.reduceEqDiff, aBuiltin, abinG, guardFree, abin, aInt, aUn, aNilCheck, retQ, retQ1, aresults, aresultL, aresult, mkF, undefV, reduceCtorEq, kD, kE, kF, kG, kH, kI, kJ, kK, aExtract, calleeOf, z0, adj', ldj, lk, d1, c0]
      exact loop_again (feet.length - 1) [(3, .pointer (some ⟨B, 0, none⟩)), (4, .pointer (some ⟨C, 0, none⟩)), (7, .map (some M)), (8, sv), (44, eb), (45, .int .i64 feet.length), (46, .int .i64 (1 : Nat))] (by omega) (by simp only [hasAll, kS1, bLookup, bMapSet, wantA, isCall, stepOp, evalO, evalL, evalP, evalM, putDst, flat, kA, kB, Nat.reduceLT, ↓reduceIte, kC, Nat.reduceEqDiff, aBuiltin, abinG, guardFree, abin, aInt, aUn, aNilCheck, retQ, retQ1, aresults, aresultL, aresult, mkF, undefV, reduceCtorEq, kD, kE, kF, kG, kH, kI, kJ, kK, aExtract, calleeOf]; simp [awrap_eq, IntKind.wrap, IntKind.bits, IntKind.signed]) ⟨1, rfl, hlj, rfl, rfl⟩
    | succ j' =>
      obtain ⟨y, hy, hyx⟩ := hord j' rfl
      have hj'l := (List.getElem?_eq_some_iff.1 hy).1
      have c0 : (((j' + 1 : Nat) : Int) > 0) := by omega
      have aw1 : awrap .i64 (((j' + 1 : Nat) : Int) - 1) = ((j' : Nat) : Int) := by rw [awrap_i64 _ (by omega) (by omega)]; omega
      have adj2 := pb.addr (P := Try.prog) Try.underlying39 Try.underlying3 (by kernel_rfl) (k := .i64) j' hj'l
      have ldj2 := pbh.loadI (P := Try.prog) Try.underlying3 rfl j' hj'l
      rw [(List.getElem?_eq_some_iff.1 hy).2] at ldj2
      have c1 : ¬ (y ≥ x) := by omega
      simp only [kS1, bLookup, bMapSet, wantA, isCall, stepOp, evalO, evalL, evalP, evalM, putDst, flat, kA, kB, Nat.reduceLT, ↓reduceIte, kC, Nat.reduceEqDiff, aBuiltin, abinG, guardFree, abin, aInt, aUn, aNilCheck, retQ, retQ1, aresults, aresultL, aresult, mkF, undefV, reduceCtorEq, kD, kE, kF, kG, kH, kI, kJ, kK, aExtract, calleeOf, adj', ldj, lk, d1, c0, ff1, aadd, Nat.zero_add, lFh.2, aw1, adj2, ldj2, c1, awrap_succ (j' + 1) (by omega)]
      exact loop_again (feet.length - (j' + 1 + 1)) [(3, .pointer (some ⟨B, 0, none⟩)), (4, .pointer (some ⟨C, 0, none⟩)), (7, .map (some M)), (8, sv), (44, eb), (45, .int .i64 feet.length), (46, .int .i64 (j' + 1 + 1 : Nat))] (by omega) (by simp only [hasAll, kS1, bLookup, bMapSet, wantA, isCall, stepOp, evalO, evalL, evalP, evalM, putDst, flat, kA, kB, Nat.reduceLT, ↓reduceIte, kC, Nat.reduceEqDiff, aBuiltin, abinG, guardFree, abin, aInt, aUn, aNilCheck, retQ, retQ1, aresults, aresultL, aresult, mkF, undefV, reduceCtorEq, kD, kE, kF, kG, kH, kI, kJ, kK, aExtract, calleeOf]; simp) ⟨j' + 1 + 1, rfl, hlj, rfl, rfl⟩
  have ml := mapI_len oM
  rw [fmap_len hp hm] at ml
  have lo := fun g' => g.rl.len (P := Try.prog) Try.underlying39 g'
  have hc' : ∀ u w : Nat, (u : Int) ∈ ftL off edges → (w : Int) ∈ ftL off edges → Con inn u w := hc
  have hrg : ∀ x ∈ ftL off edges, 0 ≤ x ∧ x < (n : Int) := fun x hx => by
    simp only [ftL, List.mem_flatMap, ftP, List.mem_filter, List.mem_cons, List.not_mem_nil, or_false] at hx
    obtain ⟨p, hp, h | h, _⟩ := hx <;> have := hR p hp <;> omega
  clear hc
  have hownl := ftL_length off edges
  generalize ftL off edges = own at g hc' hrg hownl lo
  clear hf
  have dd : decide ((feet.length : Int) = (feet.length : Int)) = true := by simp
  cases own with
  | nil =>
    have d0 : decide (((([] : List Int).length : Nat) : Int) = 0) = true := by decide
    simp only [kS1, bLookup, bMapSet, wantA, isCall, stepOp, evalO, evalL, evalP, evalM, putDst, flat, kA, kB, Nat.reduceLT, ↓reduceIte, kC, Nat.reduceEqDiff, aBuiltin, abinG, guardFree, abin, aInt, aUn, aNilCheck, retQ, retQ1, aresults, aresultL, aresult, mkF, undefV, reduceCtorEq, kD, kE, kF, kG, kH, kI, kJ, kK, aExtract, calleeOf, lo, d0, ml, ff1, aadd, Nat.zero_add, lFh.2, lfe, dd]
    exact ⟨trivial, leHh⟩
  | cons s own' =>
    generalize hgo : s :: own' = own at *
    have hs0 : own[0]? = some s := by rw [← hgo]; rfl
    have hol0 : 0 < own.length := by rw [← hgo]; simp
    have d0 : decide ((own.length : Int) = 0) = false := decide_eq_false (by omega)
    clear hgo
    have lAh := lA hq ((l2.trans leh))
    have hsr := hrg s (List.mem_of_getElem? hs0)
    obtain ⟨s, rfl⟩ := Int.eq_ofNat_of_zero_le hsr.1
    have ads := g.rl.addr (P := Try.prog) Try.underlying39 Try.underlying3 (by kernel_rfl) (k := .i64) 0 hol0
    have lds := g.rl.loadI (P := Try.prog) Try.underlying3 rfl 0 hol0
    rw [(List.getElem?_eq_some_iff.1 hs0).2] at lds
    have z0 : ((0 : Nat) : Int) = 0 := rfl
    rw [z0] at ads
    simp only [kS1, bLookup, bMapSet, wantA, isCall, stepOp, evalO, evalL, evalP, evalM, putDst, flat, kA, kB, Nat.reduceLT, ↓reduceIte, kC, Nat.reduceEqDiff, aBuiltin, abinG, guardFree, abin, aInt, aUn, aNilCheck, retQ, retQ1, aresults, aresultL, aresult, mkF, undefV, reduceCtorEq, kD, kE, kF, kG, kH, kI, kJ, kK, aExtract, calleeOf, lo, d0]
    refine KDraw.intro mixed (.fl 0 (.fl 1 (.fl 2 (.fl 3 (.ch 4 [0, 3] (.fl 5 (.fl 6 (.fl 7 (.fl 8 (.fl 9 (.done)))))) .no))))) (by kernel_rfl) ?_
    simp only [kS1, bLookup, bMapSet, wantA, isCall, stepOp, evalO, evalL, evalP, evalM, putDst, flat, kA, kB, Nat.reduceLT, ↓reduceIte, kC, Nat.reduceEqDiff, aBuiltin, abinG, guardFree, abin, aInt, aUn, aNilCheck, retQ, retQ1, aresults, aresultL, aresult, mkF, undefV, reduceCtorEq, kD, kE, kF, kG, kH, kI, kJ, kK, aExtract, calleeOf, kD1, Nat.reduceBEq, HoldsAll, kL, kM, kN, kO, lAh.1, ads, lds]
    refine KGCall.intro (by simp only [kS1, bLookup, bMapSet, wantA, isCall, stepOp, evalO, evalL, evalP, evalM, putDst, flat, kA, kB, Nat.reduceLT, ↓reduceIte, kC, Nat.reduceEqDiff, aBuiltin, abinG, guardFree, abin, aInt, aUn, aNilCheck, retQ, retQ1, aresults, aresultL, aresult, mkF, undefV, reduceCtorEq, kD, kE, kF, kG, kH, kI, kJ, kK, aExtract, calleeOf] <;> rfl) ⟨Try.func51, rfl, by decide⟩ (Away_any W0 _ ⟨(n : Int), inn⟩ (s : Int) hq (hg0.le leHh)) ?_
    rintro x h6 w6 ⟨l6, dv, e, rfl, hcc⟩
    obtain ⟨rfl, L, hL, hF⟩ : e = 0 ∧ ∃ L, RL isI h6 dv L ∧ Far n inn s L := by
      rcases hcc with ⟨h, _⟩ | ⟨_, h, _⟩ | ⟨_, _, _, h, h'⟩
      · exact absurd hr h
      · exact absurd hsr h
      · exact ⟨h, by simpa using h'⟩
    clear hcc
    have lAh6 := lA h6 ((l2.trans leh).trans l6)
    have lds6 := (g.rl.le Stays.isI l6).loadI (P := Try.prog) Try.underlying3 rfl 0 hol0
    rw [(List.getElem?_eq_some_iff.1 hs0).2] at lds6
    simp only [kS1, bLookup, bMapSet, wantA, isCall, stepOp, evalO, evalL, evalP, evalM, putDst, flat, kA, kB, Nat.reduceLT, ↓reduceIte, kC, Nat.reduceEqDiff, aBuiltin, abinG, guardFree, abin, aInt, aUn, aNilCheck, retQ, retQ1, aresults, aresultL, aresult, mkF, undefV, reduceCtorEq, kD, kE, kF, kG, kH, kI, kJ, kK, aExtract, calleeOf, kD1, Nat.reduceBEq, HoldsAll, kL, kM, kN, kO, lAh6.1, ads, lds6, lo]
    refine KLoop.intro (fun k fr hh => ∃ j : Nat, k = own.length - j ∧ j ≤ own.length ∧ fr = mkF [(4, .pointer (some ⟨C, 0, none⟩)), (7, .map (some M)), (15, dv), (16, .int .i64 0), (87, sv), (88, .int .i64 own.length), (89, .int .i64 j)] ∧ hh = h6)
      own.length [(4, .pointer (some ⟨C, 0, none⟩)), (7, .map (some M)), (15, dv), (16, .int .i64 0), (87, sv), (88, .int .i64 own.length), (89, .int .i64 (0 : Nat))] (by simp only [hasAll, kS1, bLookup, bMapSet, wantA, isCall, stepOp, evalO, evalL, evalP, evalM, putDst, flat, kA, kB, Nat.reduceLT, ↓reduceIte, kC, Nat.reduceEqDiff, aBuiltin, abinG, guardFree, abin, aInt, aUn, aNilCheck, retQ, retQ1, aresults, aresultL, aresult, mkF, undefV, reduceCtorEq, kD, kE, kF, kG, kH, kI, kJ, kK, aExtract, calleeOf]; simp) ⟨0, rfl, Nat.zero_le _, rfl, rfl⟩ ?_
    rintro k fr hh hwh ⟨q, rfl, hq', rfl, rfl⟩
    simp only [kS1, bLookup, bMapSet, wantA, isCall, stepOp, evalO, evalL, evalP, evalM, putDst, flat, kA, kB, Nat.reduceLT, ↓reduceIte, kC, Nat.reduceEqDiff, aBuiltin, abinG, guardFree, abin, aInt, aUn, aNilCheck, retQ, retQ1, aresults, aresultL, aresult, mkF, undefV, reduceCtorEq, kD, kE, kF, kG, kH, kI, kJ, kK, aExtract, calleeOf]
    refine KCond.intro (fun ht => ?_) (fun hf => ?_)
    · have hlq : q < own.length := lt_t ht
      clear ht
      have hoq := getElem?_of hlq
      have adq := g.rl.addr (P := Try.prog) Try.underlying39 Try.underlying3 (by kernel_rfl) (k := .i64) q hlq
      have ldq := (g.rl.le Stays.isI l6).loadI (P := Try.prog) Try.underlying3 rfl q hlq
      generalize own[q] = x at hoq ldq
      have hxr := hrg x (List.mem_of_getElem? hoq)
      obtain ⟨x, rfl⟩ := Int.eq_ofNat_of_zero_le hxr.1
      have hxn : x < L.length := by rw [hF.len]; omega
      have adx := hL.addr (P := Try.prog) Try.underlying39 Try.underlying3 (by kernel_rfl) (k := .i64) x hxn
      have ldx := hL.loadI (P := Try.prog) Try.underlying3 rfl x hxn
      have hpos := (hF.pos x _ (getElem?_of hxn)).2 (hc' s x (List.mem_of_getElem? hs0) (List.mem_of_getElem? hoq))
      generalize L[x] = d at ldx hpos
      have c0 : ¬ (d < 0) := by omega
      simp only [kS1, bLookup, bMapSet, wantA, isCall, stepOp, evalO, evalL, evalP, evalM, putDst, flat, kA, kB, Nat.reduceLT, ↓reduceIte, kC, Nat.reduceEqDiff, aBuiltin, abinG, guardFree, abin, aInt, aUn, aNilCheck, retQ, retQ1, aresults, aresultL, aresult, mkF, undefV, reduceCtorEq, kD, kE, kF, kG, kH, kI, kJ, kK, aExtract, calleeOf, bne, adq, ldq, adx, ldx, c0, awrap_succ q (by omega)]
      exact loop_again (own.length - (q + 1)) [(4, .pointer (some ⟨C, 0, none⟩)), (7, .map (some M)), (15, dv), (16, .int .i64 0), (87, sv), (88, .int .i64 own.length), (89, .int .i64 (q + 1 : Nat))] (by omega) (by simp only [hasAll, kS1, bLookup, bMapSet, wantA, isCall, stepOp, evalO, evalL, evalP, evalM, putDst, flat, kA, kB, Nat.reduceLT, ↓reduceIte, kC, Nat.reduceEqDiff, aBuiltin, abinG, guardFree, abin, aInt, aUn, aNilCheck, retQ, retQ1, aresults, aresultL, aresult, mkF, undefV, reduceCtorEq, kD, kE, kF, kG, kH, kI, kJ, kK, aExtract, calleeOf]; simp) ⟨q + 1, rfl, hlq, rfl, rfl⟩
    · have ml6 := mapI_len (l6.own _ _ oM)
      rw [fmap_len hp hm] at ml6
      have lF6 := lF hh (leh.trans l6)
      simp only [kS1, bLookup, bMapSet, wantA, isCall, stepOp, evalO, evalL, evalP, evalM, putDst, flat, kA, kB, Nat.reduceLT, ↓reduceIte, kC, Nat.reduceEqDiff, aBuiltin, abinG, guardFree, abin, aInt, aUn, aNilCheck, retQ, retQ1, aresults, aresultL, aresult, mkF, undefV, reduceCtorEq, kD, kE, kF, kG, kH, kI, kJ, kK, aExtract, calleeOf, ml6, ff1, aadd, Nat.zero_add, lF6.2, lfe, dd]
      exact ⟨trivial, leHh.trans l6⟩
end Go.Fw
