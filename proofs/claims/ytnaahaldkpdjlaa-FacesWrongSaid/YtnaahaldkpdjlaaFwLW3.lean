/- A text of the proof. -/
import Derived.Test.YtnaahaldkpdjlaaFwLB14
set_option linter.unusedSimpArgs false
set_option linter.unusedVariables false
namespace Go.Fw
open Go.Proofs
attribute [local irreducible] KO4 KO3 KO2 KO1 KO KN KX KE VK KCond KDraw KCall KLoop
set_option maxHeartbeats 8000000
set_option maxRecDepth 10000
structure WkP (n : Nat) (h hq : AHeap) (U M R : Nat) (ov wv : Value) (met : List Bool) (tried o opn : List Nat) (up : List Int) : Prop where
 oU : hq.own U = some (.cells (I64 up))
 oM : hq.own M = some (.cells (Bo met))
 oR : hq.own R = some (.cells (I64 (nat64 tried)))
 go : GI hq ov (nat64 o)
 gw : GU hq wv (nat64 opn)
 ap : ∀ b, blk ov = some b → blk wv ≠ some b
 oo : blk ov ≠ some U ∧ blk ov ≠ some M ∧ blk ov ≠ some R
 ww : blk wv ≠ some U ∧ blk wv ≠ some M ∧ blk wv ≠ some R
 ne : U ≠ M ∧ U ≠ R ∧ M ≠ R
 le : Le h hq
 nn : h.own U = none ∧ h.own M = none ∧ h.own R = none
 ao : Apart h ov
 aw : Apart h wv
 lm : met.length = n
 lt : tried.length = n
 lu : up.length = n
structure WkH (n : Nat) (es : List Pr) (s : Nat) (h hq : AHeap) (U M R : Nat) (ov wv : Value) (met : List Bool) (tried o opn : List Nat) (up : List Int) : Prop extends WkP n h hq U M R ov wv met tried o opn up where
 ds : DS n es s met tried o opn up
theorem WkP.tried {n : Nat} {h hq : AHeap} {U M R : Nat} {ov wv : Value} {met : List Bool} {tr o opn : List Nat} {up : List Int} (k : WkP n h hq U M R ov wv met tr o opn up) {v : Nat} (t' : Nat) (hv : v < n) (hwq : WF hq) :
  ∃ h', aStore Try.prog hq 3 (.pointer (some ⟨R, v, none⟩)) (.int .i64 (t' : Int)) = some h' ∧ WF h' ∧ WkP n h h' U M R ov wv met (tr.set v t') o opn up := by
 have e : (I64 (nat64 tr)).set v (.int .i64 (t' : Int)) = I64 (nat64 (tr.set v t')) := by rw [I64_set]; simp [nat64, List.map_set]
 refine ⟨_, aStore1 (P := Try.prog) (t := 3) (x := .int .i64 (t' : Int)) Try.underlying3 (by kernel_rfl) k.oR (off := v) (by rw [I64_length, nat64_length, k.lt]; exact hv) rfl rfl, hwq.put _ (hwq.lt k.oR), ?_⟩
 rw [e]
 exact { k with
  oU := by rw [AHeap.own_put_ne _ _ _ _ k.ne.2.1]; exact k.oU
  oM := by rw [AHeap.own_put_ne _ _ _ _ k.ne.2.2]; exact k.oM
  oR := AHeap.own_put_eq _ _ _
  go := GS.put k.go _ k.oo.2.2
  gw := GT.put k.gw _ k.ww.2.2
  le := k.le.put _ k.nn.2.2
  lt := by simp [k.lt] }
theorem WkP.mark {n : Nat} {h hq : AHeap} {U M R : Nat} {ov wv : Value} {met : List Bool} {tr o opn : List Nat} {up : List Int} (k : WkP n h hq U M R ov wv met tr o opn up) (v : Nat) {w : Nat} (hw : w < n) (hwq : WF hq) :
  ∃ h1 h2, aStore Try.prog hq 4 (.pointer (some ⟨M, w, none⟩)) (.bool true) = some h1 ∧ aStore Try.prog h1 3 (.pointer (some ⟨U, w, none⟩)) (.int .i64 (v : Int)) = some h2 ∧ WF h2 ∧ WkP n h h2 U M R ov wv (met.set w true) tr o opn (up.set w (v : Int)) := by
 have hlM : w < (Bo met).length := by rw [Bo_length, k.lm]; exact hw
 have hlU : w < (I64 up).length := by rw [I64_length, k.lu]; exact hw
 have s1 := aStore1 (P := Try.prog) (t := 4) (x := .bool true) Try.underlying4 (by kernel_rfl) k.oM (off := w) hlM rfl rfl
 rw [Bo_set] at s1
 have oU1 : (hq.put M (.cells (Bo (met.set w true)))).own U = some (.cells (I64 up)) := by rw [AHeap.own_put_ne _ _ _ _ k.ne.1]; exact k.oU
 have s2 := aStore1 (P := Try.prog) (t := 3) (x := .int .i64 (v : Int)) Try.underlying3 (by kernel_rfl) oU1 (off := w) hlU rfl rfl
 rw [I64_set] at s2
 have w1 := hwq.put (.cells (Bo (met.set w true))) (hwq.lt k.oM)
 refine ⟨_, _, s1, s2, w1.put _ (w1.lt oU1), { k with oU := AHeap.own_put_eq _ _ _, oM := ?_, oR := ?_, go := GS.put (GS.put k.go _ k.oo.2.1) _ k.oo.1, gw := GT.put (GT.put k.gw _ k.ww.2.1) _ k.ww.1, le := (k.le.put _ k.nn.2.1).put _ k.nn.1, lm := by simp [k.lm], lu := by simp [k.lu] }⟩
 ·rw [AHeap.own_put_ne _ _ _ _ (Ne.symm k.ne.1)]; exact AHeap.own_put_eq _ _ _
 ·rw [AHeap.own_put_ne _ _ _ _ (Ne.symm k.ne.2.1), AHeap.own_put_ne _ _ _ _ (Ne.symm k.ne.2.2)]; exact k.oR
theorem WkP.grow {n : Nat} {h hq : AHeap} {U M R : Nat} {ov wv : Value} {met : List Bool} {tr o opn : List Nat} {up : List Int} (k : WkP n h hq U M R ov wv met tr o opn up) (w : Nat) (hwq : WF hq) (hol : o.length ≤ 1000) (hpl : opn.length ≤ 1000) :
  ∃ v1 v2 h1 h2 h3 h4 h5, aBuildSlice Try.prog hq 38 1 [(0, .int .i64 (w : Int))] = some (v1, h1) ∧ aAppend Try.prog h1 38 38 ov v1 = some (v2, h2) ∧ ∃ v3 v4, aBuildSlice Try.prog h2 38 1 [(0, .int .i64 (w : Int))] = some (v3, h3) ∧ aAppend Try.prog h3 38 38 wv v3 = some (v4, h4) ∧ h5 = h4 ∧ WF h4 ∧
   WkP n h h4 U M R v2 v4 met tr (o ++ [w]) (opn ++ [w]) up := by
 have e1 : ∀ l : List Nat, nat64 l ++ [(w : Int)] = nat64 (l ++ [w]) := fun l => by simp [nat64]
 obtain ⟨v2, h1, h2, b1, a1, g1, w2, l1, f1, k1⟩ := k.go.push hwq (w : Int) (by rw [nat64_length]; omega)
 obtain ⟨l2, ap2⟩ := f1 h k.le k.ao
 rw [e1] at g1
 have gw2 : GU h2 wv (nat64 opn) := k.gw.kept fun b o hb ho => (k1 b o ho (fun hc => k.ap b hc hb)).1
 have U2 := k1 U _ k.oU k.oo.1
 have M2 := k1 M _ k.oM k.oo.2.1
 have R2 := k1 R _ k.oR k.oo.2.2
 have ap2' : ∀ b, blk wv = some b → blk v2 ≠ some b := fun b hb => by
  obtain ⟨c, hc⟩ := GT.blk_own k.gw hb
  exact (k1 b _ hc (fun hc => k.ap b hc hb)).2
 obtain ⟨v4, h3, h4, b3, a3, g3, w4, l3, f3, k3⟩ := gw2.push w2 (w : Int) (by rw [nat64_length]; omega)
 obtain ⟨l4, ap4⟩ := f3 h l2 k.aw
 rw [e1] at g3
 have U4 := k3 U _ U2.1 k.ww.1
 have M4 := k3 M _ M2.1 k.ww.2.1
 have R4 := k3 R _ R2.1 k.ww.2.2
 refine ⟨_, v2, h1, h2, h3, h4, h4, b1, a1, _, v4, b3, a3, rfl, w4, { k with oU := U4.1, oM := M4.1, oR := R4.1, go := ?_, gw := g3, ap := fun b hb => ?_, oo := ⟨U2.2, M2.2, R2.2⟩, ww := ⟨U4.2, M4.2, R4.2⟩, le := l4, ao := ap2, aw := ap4 }⟩
 ·exact g1.kept fun b o hb ho => (k3 b o ho fun hc => ap2' b hc hb).1
 ·have hne : h2.own b ≠ none := GS.blk_own g1 hb
  cases ho : h2.own b with
  | none => exact absurd ho hne
  | some o => exact (k3 b o ho fun hc => ap2' b hc hb).2
theorem walk_any (W0 : Base) (bv : Value) (n s : Nat) (es : List Pr) (h : AHeap) (hb : RL (RL isI) h bv (besM n es)) (hr : InR n es) (ha : Asc es) (hn : n ≤ 300) (hel : es.length ≤ 1000) (hs : s < n) :
  AC Try.prog W0 62 [bv, .int .i64 (s : Int)] h fun x h' => ∃ ov U o up, x = .tuple #[ov, .slice (some ⟨U, 0, none⟩) n n] ∧ GI h' ov (nat64 o) ∧ (h'.own U = some (.cells (I64 up)) ∧ blk ov ≠ some U ∧ h.own U = none) ∧ DfsFin n es s o up ∧ Le h h' ∧ Apart h ov := by
 refine AC.vc (fn := Try.f62) (c := _) ⟨Try.func62, rfl, by decide⟩ Try.ntmps62 Try.results62 (by simp) fun hwf => ?_
 simp only [argFrame, argFrom, Nat.reduceAdd]
 have lb := fun g => hb.len (P := Try.prog) Try.underlying32 g
 rw [besM_length] at lb
 obtain ⟨h1, e1, l1, w1, o1⟩ := alloc_f hwf [.int .i64 (-1)]
 simp only [kS1, bLookup, bMapSet, wantA, isCall, stepOp, evalO, evalL, evalP, evalM, putDst, flat, kA, kB, Nat.reduceLT, ↓reduceIte, kC, Nat.reduceEqDiff, aBuiltin, abinG, guardFree, abin, aInt, aUn, aNilCheck, retQ, retQ1, aresults, aresultL, aresult, mkF, undefV, reduceCtorEq, kD, kE, kF, kG, kH, kI, kJ, kK, aExtract, calleeOf]
 refine VK.scope ?_
 simp only [kS1, bLookup, bMapSet, wantA, isCall, stepOp, evalO, evalL, evalP, evalM, putDst, flat, kA, kB, Nat.reduceLT, ↓reduceIte, kC, Nat.reduceEqDiff, aBuiltin, abinG, guardFree, abin, aInt, aUn, aNilCheck, retQ, retQ1, aresults, aresultL, aresult, mkF, undefV, reduceCtorEq, kD, kE, kF, kG, kH, kI, kJ, kK, aExtract, calleeOf, mk1, e1, lb]
 refine KCall.intro (by simp only [kS1, bLookup, bMapSet, wantA, isCall, stepOp, evalO, evalL, evalP, evalM, putDst, flat, kA, kB, Nat.reduceLT, ↓reduceIte, kC, Nat.reduceEqDiff, aBuiltin, abinG, guardFree, abin, aInt, aUn, aNilCheck, retQ, retQ1, aresults, aresultL, aresult, mkF, undefV, reduceCtorEq, kD, kE, kF, kG, kH, kI, kJ, kK, aExtract, calleeOf] <;> rfl) ⟨Try.func95, rfl, by decide⟩ (Repeat_any W0 _ n (by omega) h1 (RL.ofI (RS.whole o1 rfl))) ?_
 rintro x h2 w2 ⟨U, rfl, hU, o2, l2⟩
 have nU : h.own U = none := (l1.next w1 hU)
 have oU : h2.own U = some (.cells (I64 (List.replicate n (-1)))) := by rw [o2]; simp [I64]
 have mk := aMakeSlice1 (P := Try.prog) (t := 25) (z := .bool false) h2 Try.underlying25 rfl rfl rfl rfl (by kernel_rfl) Try.underlying4 (by kernel_rfl) n (by omega)
 obtain ⟨h3, e3, l3, w3, o3⟩ := alloc_f w2 (List.replicate n (.bool false))
 rw [e3] at mk
 have nM : h.own h2.next = none := (l1.trans l2).next w2 (Nat.le_refl _)
 have neUM : U ≠ h2.next := fun e => by have := w2.lt oU; omega
 generalize h2.next = M at *
 have oM : h3.own M = some (.cells (Bo (List.replicate n false))) := by rw [o3]; simp [Bo]
 have mk2 := aMakeSlice1 (P := Try.prog) (t := 38) (z := .int .i64 0) h3 Try.underlying38 rfl rfl rfl rfl (by kernel_rfl) Try.underlying3 (by kernel_rfl) n (by omega)
 obtain ⟨h4, e4, l4, w4, o4⟩ := alloc_f w3 (List.replicate n (.int .i64 0))
 rw [e4] at mk2
 have l03 := (l1.trans l2).trans l3
 have nR : h.own h3.next = none := l03.next w3 (Nat.le_refl _)
 have neUR : U ≠ h3.next := fun e => by have := w3.lt (l3.own _ _ oU); omega
 have neMR : M ≠ h3.next := fun e => by have := w3.lt oM; omega
 generalize h3.next = R at *
 have oR : h4.own R = some (.cells (I64 (nat64 (List.replicate n 0)))) := by rw [o4]; simp [I64, nat64]
 obtain ⟨h5, e5, l5, w5, o5⟩ := alloc_f w4 [.int .i64 (s : Int)]
 obtain ⟨h6, e6, l6, w6, o6⟩ := alloc_f w5 [.int .i64 (s : Int)]
 have l46 := l5.trans l6
 have oM6 := l46.own _ _ (l4.own _ _ oM)
 have ixM : ∀ (k : IntKind) (j : Nat), j < n → aIndexAddr Try.prog 25 (.slice (some ⟨M, 0, none⟩) n n) (.int k j) = some (.pointer (some ⟨M, j, none⟩)) := fun k j hj => by rw [aIdx Try.underlying25 Try.underlying4 (by kernel_rfl) j hj]; simp [aadd]
 have ixI : ∀ (T : Nat) (k : IntKind) (j : Nat), j < n → aIndexAddr Try.prog 38 (.slice (some ⟨T, 0, none⟩) n n) (.int k j) = some (.pointer (some ⟨T, j, none⟩)) := fun T k j hj => by rw [aIdx Try.underlying38 Try.underlying3 (by kernel_rfl) j hj]; simp [aadd]
 have st1 := aStore1 (P := Try.prog) (t := 4) (x := .bool true) Try.underlying4 (by kernel_rfl) oM6 (off := s) (by simp [Bo, hs]) rfl rfl
 rw [Bo_set] at st1
 simp only [kS1, bLookup, bMapSet, wantA, isCall, stepOp, evalO, evalL, evalP, evalM, putDst, flat, kA, kB, Nat.reduceLT, ↓reduceIte, kC, Nat.reduceEqDiff, aBuiltin, abinG, guardFree, abin, aInt, aUn, aNilCheck, retQ, retQ1, aresults, aresultL, aresult, mkF, undefV, reduceCtorEq, kD, kE, kF, kG, kH, kI, kJ, kK, aExtract, calleeOf, lb, mk, mk2, mk1, e5, e6, ixM _ s hs, st1]
 refine VK.label ?_
 simp only [kS1, bLookup, bMapSet, wantA, isCall, stepOp, evalO, evalL, evalP, evalM, putDst, flat, kA, kB, Nat.reduceLT, ↓reduceIte, kC, Nat.reduceEqDiff, aBuiltin, abinG, guardFree, abin, aInt, aUn, aNilCheck, retQ, retQ1, aresults, aresultL, aresult, mkF, undefV, reduceCtorEq, kD, kE, kF, kG, kH, kI, kJ, kK, aExtract, calleeOf, scopeQ_normal, scopeQ_ret, scopeQ_exit]
 have nb5 : h4.own h4.next = none := (Le.refl h4).next w4 (Nat.le_refl _)
 have nb6 : h5.own h5.next = none := (Le.refl h5).next w5 (Nat.le_refl _)
 have ne56 : h4.next ≠ h5.next := fun e => by rw [← e, o5] at nb6; cases nb6
 have l04 := l03.trans l4
 have l24 := l3.trans l4
 have low4 : ∀ b o, h4.own b = some o → b ≠ h4.next ∧ b ≠ h5.next := fun b o hb => ⟨fun e => by (rw [← e, hb] at nb5; cases nb5), fun e => by (rw [← e, l5.own _ _ hb] at nb6; cases nb6)⟩
 have oU4 := l24.own _ _ oU
 have oM4 := l4.own _ _ oM
 have qU := low4 _ _ oU4
 have qM := low4 _ _ oM4
 have qR := low4 _ _ oR
 have nO : h.own h4.next = none := l04.next w4 (Nat.le_refl _)
 have nW : h.own h5.next = none := (l04.trans l5).next w5 (Nat.le_refl _)
 have keep : ∀ b o, b ≠ M → h6.own b = some o → (h6.put M (.cells (Bo ((List.replicate n false).set s true)))).own b = some o := fun b o hb ho => by rw [AHeap.own_put_ne _ _ _ _ hb]; exact ho
 have K0 : WkH n es s h (h6.put M (.cells (Bo ((List.replicate n false).set s true)))) U M R (.slice (some ⟨h4.next, 0, none⟩) 1 1) (.slice (some ⟨h5.next, 0, none⟩) 1 1) ((List.replicate n false).set s true) (List.replicate n 0) [s] [s] (List.replicate n (-1)) := {
  oU := keep _ _ neUM (l46.own _ _ oU4)
  oM := AHeap.own_put_eq _ _ _
  oR := keep _ _ (Ne.symm neMR) (l46.own _ _ oR)
  go := GS.full (keep _ _ (Ne.symm qM.1) (l6.own _ _ o5)) rfl (show 1 < 1000000000000 by decide)
  gw := (GS.full (keep _ _ (Ne.symm qM.2) o6) rfl (show 1 < 1000000000000 by decide)).gt
  ap := fun b hb hc => by injection hb with hb; injection hc with hc; exact ne56 (hb.trans hc.symm)
  oo := ⟨fun e => by injection e with e; exact qU.1 e.symm, fun e => by injection e with e; exact qM.1 e.symm, fun e => by injection e with e; exact qR.1 e.symm⟩
  ww := ⟨fun e => by injection e with e; exact qU.2 e.symm, fun e => by injection e with e; exact qM.2 e.symm, fun e => by injection e with e; exact qR.2 e.symm⟩
  ne := ⟨neUM, neUR, neMR⟩
  le := (l04.trans l46).put _ nM
  nn := ⟨nU, nM, nR⟩
  ao := fun b hb => by injection hb with hb; subst hb; exact nO
  aw := fun b hb => by injection hb with hb; subst hb; exact nW
  lm := by simp
  lt := by simp
  lu := by simp
  ds := DS.start hs }
 have w7 := w6.put (.cells (Bo ((List.replicate n false).set s true))) (w6.lt oM6)
 clear keep nO nW qU qM qR oU4 oM4 low4 l24 l04 ne56 nb6 nb5 st1 oM6 l46 o6 l6 o5 l5 oR neMR neUR nR l03 o4 l4 w4 mk2 oM neUM nM o3 l3 w3 mk oU nU o2 l2 w2 o1 l1 w1
 generalize h6.put M (.cells (Bo ((List.replicate n false).set s true))) = h7 at *
 generalize Value.slice (some ⟨h4.next, 0, none⟩) 1 1 = ov0 at *
 generalize Value.slice (some ⟨h5.next, 0, none⟩) 1 1 = wv0 at *
 clear w6 w5 e6 e5 e4 e3 e1 hU
 clear h6 h5 h4 h3 h2 h1
 have ixb : ∀ u, u < n → aIndexAddr Try.prog 32 bv (.int .i64 u) = some (.pointer (some (elemAddr bv u))) := fun u hu => hb.addr (P := Try.prog) Try.underlying32 Try.underlying38 (by kernel_rfl) (k := .i64) u (by rw [besM_length]; exact hu)
 have ldI : ∀ (g : AHeap) (T : Nat) (L : List Int) (j : Nat) (l : Int), g.own T = some (.cells (I64 L)) → L[j]? = some l → aload Try.prog g 3 ⟨T, j, none⟩ = some (.int .i64 l) := fun g T L j l ho hl => by
  rw [aload_one Try.underlying3 rfl ho]; simp [I64, hl]
 have ldB : ∀ (g : AHeap) (T : Nat) (L : List Bool) (j : Nat) (l : Bool), g.own T = some (.cells (Bo L)) → L[j]? = some l → aload Try.prog g 4 ⟨T, j, none⟩ = some (.bool l) := fun g T L j l ho hl => by
  rw [aload_one Try.underlying4 rfl ho]; simp [Bo, hl]
 refine KLoop.intro (fun k fr hq => ∃ (met : List Bool) (tr o opn : List Nat) (up : List Int) (ov wv : Value), k = 2 * (n - o.length) + opn.length ∧ fr = mkF [(0, bv), (6, .slice (some ⟨U, 0, none⟩) n n), (7, .slice (some ⟨M, 0, none⟩) n n), (8, .slice (some ⟨R, 0, none⟩) n n), (9, ov), (10, wv)] ∧
   WkH n es s h hq U M R ov wv met tr o opn up)
  (2 * (n - 1) + 1) [(0, bv), (6, .slice (some ⟨U, 0, none⟩) n n), (7, .slice (some ⟨M, 0, none⟩) n n), (8, .slice (some ⟨R, 0, none⟩) n n), (9, ov0), (10, wv0)] (by simp only [hasAll, kS1, bLookup, bMapSet, wantA, isCall, stepOp, evalO, evalL, evalP, evalM, putDst, flat, kA, kB, Nat.reduceLT, ↓reduceIte, kC, Nat.reduceEqDiff, aBuiltin, abinG, guardFree, abin, aInt, aUn, aNilCheck, retQ, retQ1, aresults, aresultL, aresult, mkF, undefV, reduceCtorEq, kD, kE, kF, kG, kH, kI, kJ, kK, aExtract, calleeOf]; simp)
  ⟨_, _, _, _, _, _, _, rfl, rfl, K0⟩ ?_
 clear K0 w7
 clear h7 ov0 wv0
 rintro k fr hq hwq ⟨met, tr, o, opn, up, ov, wv, rfl, rfl, K⟩
 have lw := fun g => K.gw.rl.len (P := Try.prog) Try.underlying38 g
 simp only [nat64_length] at lw
 rcases List.eq_nil_or_concat opn with rfl | ⟨op, v, hop⟩
 ·simp only [List.length_nil] at lw
  have c0 : ¬ (((0 : Nat) : Int) > 0) := by omega
  simp only [kS1, bLookup, bMapSet, wantA, isCall, stepOp, evalO, evalL, evalP, evalM, putDst, flat, kA, kB, Nat.reduceLT, ↓reduceIte, kC, Nat.reduceEqDiff, aBuiltin, abinG, guardFree, abin, aInt, aUn, aNilCheck, retQ, retQ1, aresults, aresultL, aresult, mkF, undefV, reduceCtorEq, kD, kE, kF, kG, kH, kI, kJ, kK, aExtract, calleeOf, lw, c0, scopeQ_normal, scopeQ_ret, scopeQ_exit]
  exact ⟨ov, _, o, up, rfl, K.go, ⟨K.oU, K.oo.1, K.nn.1⟩, K.ds.fin, K.le, K.ao⟩
 obtain rfl : opn = op ++ [v] := by simpa using hop
 clear hop
 have hvo : v ∈ o := K.ds.sub.subset (by simp)
 have hvn : v < n := K.ds.lt v hvo
 have hol := K.ds.len_opn
 have hl1 : (op ++ [v]).length = op.length + 1 := by simp
 rw [hl1] at hol
 simp only [hl1] at lw
 have c0 : (((op.length + 1 : Nat) : Int) > 0) := by omega
 have aw1 : awrap .i64 (((op.length + 1 : Nat) : Int) - 1) = ((op.length : Nat) : Int) := by rw [awrap_i64 _ (by omega) (by omega)]; omega
 have adv := K.gw.rl.addr (P := Try.prog) Try.underlying38 Try.underlying3 (by kernel_rfl) (k := .i64) op.length (by rw [nat64_length, hl1]; omega)
 have ldv := K.gw.rl.loadI (P := Try.prog) Try.underlying3 rfl op.length (by rw [nat64_length, hl1]; omega)
 have hgv : (nat64 (op ++ [v]))[op.length]'(by rw [nat64_length, hl1]; omega) = (v : Int) := by simp [nat64]
 rw [hgv] at ldv
 simp only [kS1, bLookup, bMapSet, wantA, isCall, stepOp, evalO, evalL, evalP, evalM, putDst, flat, kA, kB, Nat.reduceLT, ↓reduceIte, kC, Nat.reduceEqDiff, aBuiltin, abinG, guardFree, abin, aInt, aUn, aNilCheck, retQ, retQ1, aresults, aresultL, aresult, mkF, undefV, reduceCtorEq, kD, kE, kF, kG, kH, kI, kJ, kK, aExtract, calleeOf, lw, c0, aw1, adv, ldv]
 have hul : v < (besM n es).length := by rw [besM_length]; exact hvn
 have adr := ixb v hvn
 obtain ⟨uv, ldr, hrow⟩ := hb.load' (P := Try.prog) Try.underlying38 rfl v hul
 have hrd : (besM n es).getD v [] = (besM n es)[v] := getD_of hul
 generalize (besM n es)[v] = row at hrow hrd
 have lr := fun g => hrow.len (P := Try.prog) Try.underlying38 g
 have hrl : row.length ≤ 3000 := by
  have := besM_rows n es row (by rw [← hrd, getD_of hul]; exact List.getElem_mem hul)
  omega
 have htv := getElem?_of (show v < tr.length by rw [K.ds.trl]; exact hvn)
 have htl : tr[v]'(by rw [K.ds.trl]; exact hvn) ≤ row.length := by rw [← hrd]; exact (K.ds.tr _ _ htv).1
 refine KLoop.intro (fun k fr hq => ∃ (tr : List Nat) (t : Nat), k = row.length - t ∧ t ≤ row.length ∧ tr[v]? = some t ∧ fr = mkF [(0, bv), (6, .slice (some ⟨U, 0, none⟩) n n), (7, .slice (some ⟨M, 0, none⟩) n n), (8, .slice (some ⟨R, 0, none⟩) n n), (9, ov), (10, wv), (11, .int .i64 v)] ∧
   WkH n es s h hq U M R ov wv met tr o (op ++ [v]) up)
  (row.length - tr[v]'(by rw [K.ds.trl]; exact hvn)) [(0, bv), (6, .slice (some ⟨U, 0, none⟩) n n), (7, .slice (some ⟨M, 0, none⟩) n n), (8, .slice (some ⟨R, 0, none⟩) n n), (9, ov), (10, wv), (11, .int .i64 v)] (by simp only [hasAll, kS1, bLookup, bMapSet, wantA, isCall, stepOp, evalO, evalL, evalP, evalM, putDst, flat, kA, kB, Nat.reduceLT, ↓reduceIte, kC, Nat.reduceEqDiff, aBuiltin, abinG, guardFree, abin, aInt, aUn, aNilCheck, retQ, retQ1, aresults, aresultL, aresult, mkF, undefV, reduceCtorEq, kD, kE, kF, kG, kH, kI, kJ, kK, aExtract, calleeOf]; simp)
  ⟨_, _, rfl, htl, htv, rfl, K⟩ ?_
 clear htl htv ldv hgv adv lw K hwq
 clear tr hq
 rintro k fr hq hwq ⟨tr, t, rfl, htl, htv, rfl, K⟩
 have lw := fun g => K.gw.rl.len (P := Try.prog) Try.underlying38 g
 simp only [nat64_length, hl1] at lw
 have ldt := ldI hq R (nat64 tr) v t K.oR (by simp [nat64, htv])
 have hldr := ldr hq K.le
 simp only [kS1, bLookup, bMapSet, wantA, isCall, stepOp, evalO, evalL, evalP, evalM, putDst, flat, kA, kB, Nat.reduceLT, ↓reduceIte, kC, Nat.reduceEqDiff, aBuiltin, abinG, guardFree, abin, aInt, aUn, aNilCheck, retQ, retQ1, aresults, aresultL, aresult, mkF, undefV, reduceCtorEq, kD, kE, kF, kG, kH, kI, kJ, kK, aExtract, calleeOf]
 refine KDraw.intro mixed (.fl 0 (.fl 1 (.fl 2 (.fl 3 (.fl 4 (.fl 5 (.fl 6 (.fl 7 (.fl 8 (.fl 9 (.done))))))))))) (by kernel_rfl) ?_
 simp only [kS1, bLookup, bMapSet, wantA, isCall, stepOp, evalO, evalL, evalP, evalM, putDst, flat, kA, kB, Nat.reduceLT, ↓reduceIte, kC, Nat.reduceEqDiff, aBuiltin, abinG, guardFree, abin, aInt, aUn, aNilCheck, retQ, retQ1, aresults, aresultL, aresult, mkF, undefV, reduceCtorEq, kD, kE, kF, kG, kH, kI, kJ, kK, aExtract, calleeOf, kD1, Nat.reduceBEq, HoldsAll, kL, kM, kN, kO, ixI R _ v hvn, ldt, adr, hldr, lr]
 refine KCond.intro (fun ht => ?_) (fun hf => ?_)
 rotate_left
 ·have hge : row.length ≤ t := lt_f hf
  obtain rfl : t = row.length := by omega
  obtain ⟨wv', ecut, gw', bw'⟩ := K.gw.cut op.length (by rw [nat64_length, hl1]; omega)
  have htk : (nat64 (op ++ [v])).take op.length = nat64 op := by simp [nat64]
  rw [htk] at gw'
  simp only [kS1, bLookup, bMapSet, wantA, isCall, stepOp, evalO, evalL, evalP, evalM, putDst, flat, kA, kB, Nat.reduceLT, ↓reduceIte, kC, Nat.reduceEqDiff, aBuiltin, abinG, guardFree, abin, aInt, aUn, aNilCheck, retQ, retQ1, aresults, aresultL, aresult, mkF, undefV, reduceCtorEq, kD, kE, kF, kG, kH, kI, kJ, kK, aExtract, calleeOf, lw, aw1, ecut]
  refine loop_again (2 * (n - o.length) + op.length) [(0, bv), (6, .slice (some ⟨U, 0, none⟩) n n), (7, .slice (some ⟨M, 0, none⟩) n n), (8, .slice (some ⟨R, 0, none⟩) n n), (9, ov), (10, wv')] (by rw [hl1]; omega) (by simp only [hasAll, kS1, bLookup, bMapSet, wantA, isCall, stepOp, evalO, evalL, evalP, evalM, putDst, flat, kA, kB, Nat.reduceLT, ↓reduceIte, kC, Nat.reduceEqDiff, aBuiltin, abinG, guardFree, abin, aInt, aUn, aNilCheck, retQ, retQ1, aresults, aresultL, aresult, mkF, undefV, reduceCtorEq, kD, kE, kF, kG, kH, kI, kJ, kK, aExtract, calleeOf]; simp)
   ⟨met, tr, o, op, up, ov, wv', rfl, rfl, { K with gw := gw', ap := (by rw [bw']; exact K.ap), ww := (by rw [bw']; exact K.ww), aw := (by unfold Apart; rw [bw']; exact K.aw), ds := K.ds.pop hr (by rw [hrd]; exact htv) }⟩
 have hlt : t < row.length := lt_t ht
 clear ht
 have hrt : ((besM n es).getD v [])[t]? = some row[t] := by rw [hrd]; exact getElem?_of hlt
 have adw := hrow.addr (P := Try.prog) Try.underlying38 Try.underlying3 (by kernel_rfl) (k := .i64) t hlt
 have ldw := (hrow.le Stays.isI K.le).loadI (P := Try.prog) Try.underlying3 rfl t hlt
 have hxm : row[t] ∈ (besM n es).getD v [] := List.mem_of_getElem? hrt
 generalize row[t] = x at hrt ldw hxm
 obtain ⟨w, rfl, hwn⟩ := besM_nat hr hxm
 simp only [kS1, bLookup, bMapSet, wantA, isCall, stepOp, evalO, evalL, evalP, evalM, putDst, flat, kA, kB, Nat.reduceLT, ↓reduceIte, kC, Nat.reduceEqDiff, aBuiltin, abinG, guardFree, abin, aInt, aUn, aNilCheck, retQ, retQ1, aresults, aresultL, aresult, mkF, undefV, reduceCtorEq, kD, kE, kF, kG, kH, kI, kJ, kK, aExtract, calleeOf]
 refine KDraw.intro mixed (.fl 0 (.fl 1 (.fl 2 (.fl 3 (.fl 4 (.fl 5 (.fl 6 (.fl 7 (.fl 8 (.fl 9 (.fl 10 (.done)))))))))))) (by kernel_rfl) ?_
 simp only [kS1, bLookup, bMapSet, wantA, isCall, stepOp, evalO, evalL, evalP, evalM, putDst, flat, kA, kB, Nat.reduceLT, ↓reduceIte, kC, Nat.reduceEqDiff, aBuiltin, abinG, guardFree, abin, aInt, aUn, aNilCheck, retQ, retQ1, aresults, aresultL, aresult, mkF, undefV, reduceCtorEq, kD, kE, kF, kG, kH, kI, kJ, kK, aExtract, calleeOf, kD1, Nat.reduceBEq, HoldsAll, kL, kM, kN, kO, ixI R _ v hvn, ldt, adr, hldr, adw, ldw]
 have hmw := getElem?_of (show w < met.length by rw [K.ds.metl]; exact hwn)
 generalize met[w]'(by rw [K.ds.metl]; exact hwn) = mb at hmw
 have ldm := ldB hq M met w mb K.oM hmw
 cases mb with
 | true =>
  have hwo : w ∈ o := (K.ds.mm w hwn).1 hmw
  obtain ⟨h1, st, w1, K1⟩ := K.toWkP.tried (t + 1) hvn hwq
  have D1 := K.ds.skip htv hrt (by simpa using hwo)
  have ldm1 := ldB h1 M met w true K1.oM hmw
  simp only [kS1, bLookup, bMapSet, wantA, isCall, stepOp, evalO, evalL, evalP, evalM, putDst, flat, kA, kB, Nat.reduceLT, ↓reduceIte, kC, Nat.reduceEqDiff, aBuiltin, abinG, guardFree, abin, aInt, aUn, aNilCheck, retQ, retQ1, aresults, aresultL, aresult, mkF, undefV, reduceCtorEq, kD, kE, kF, kG, kH, kI, kJ, kK, aExtract, calleeOf, ixI R _ v hvn, ldt, awrap_succ t (by omega), st, ixM _ w hwn, ldm1]
  exact loop_again (row.length - (t + 1)) [(0, bv), (6, .slice (some ⟨U, 0, none⟩) n n), (7, .slice (some ⟨M, 0, none⟩) n n), (8, .slice (some ⟨R, 0, none⟩) n n), (9, ov), (10, wv), (11, .int .i64 v)] (by omega) (by simp only [hasAll, kS1, bLookup, bMapSet, wantA, isCall, stepOp, evalO, evalL, evalP, evalM, putDst, flat, kA, kB, Nat.reduceLT, ↓reduceIte, kC, Nat.reduceEqDiff, aBuiltin, abinG, guardFree, abin, aInt, aUn, aNilCheck, retQ, retQ1, aresults, aresultL, aresult, mkF, undefV, reduceCtorEq, kD, kE, kF, kG, kH, kI, kJ, kK, aExtract, calleeOf]; simp)
   ⟨_, t + 1, rfl, hlt, by rw [List.getElem?_set, if_pos rfl, if_pos (by rw [K.ds.trl]; exact hvn)], rfl, ⟨K1, D1⟩⟩
 | false =>
  have hwo : w ∉ o := fun hm => by have := (K.ds.mm w hwn).2 hm; rw [hmw] at this; cases this
  obtain ⟨h1, st, w1, K1⟩ := K.toWkP.tried (t + 1) hvn hwq
  have ldm1 := ldB h1 M met w false K1.oM hmw
  obtain ⟨h2, h3, st2, st3, w3, K3⟩ := K1.mark v hwn w1
  have hoo := K.ds.len_o
  obtain ⟨v1, v2, h4, h5, h6, h7, _, b4, a5, v3, v4, b6, a7, -, w7, K7⟩ := K3.grow w w3 (by omega) (by rw [hl1]; omega)
  have D7 := K.ds.push hr ha htv hrt hwo
  simp only [kS1, bLookup, bMapSet, wantA, isCall, stepOp, evalO, evalL, evalP, evalM, putDst, flat, kA, kB, Nat.reduceLT, ↓reduceIte, kC, Nat.reduceEqDiff, aBuiltin, abinG, guardFree, abin, aInt, aUn, aNilCheck, retQ, retQ1, aresults, aresultL, aresult, mkF, undefV, reduceCtorEq, kD, kE, kF, kG, kH, kI, kJ, kK, aExtract, calleeOf, ixI R _ v hvn, ldt, awrap_succ t (by omega), st, ixM _ w hwn, ldm1, st2, ixI U _ w hwn, st3, b4, a5, b6, a7]
  have hno : o.length + 1 ≤ n := by have := D7.len_o; simpa using this
  exact loop_again (2 * (n - (o ++ [w]).length) + (op ++ [v] ++ [w]).length) [(0, bv), (6, .slice (some ⟨U, 0, none⟩) n n), (7, .slice (some ⟨M, 0, none⟩) n n), (8, .slice (some ⟨R, 0, none⟩) n n), (9, v2), (10, v4)] (by simp; omega) (by simp only [hasAll, kS1, bLookup, bMapSet, wantA, isCall, stepOp, evalO, evalL, evalP, evalM, putDst, flat, kA, kB, Nat.reduceLT, ↓reduceIte, kC, Nat.reduceEqDiff, aBuiltin, abinG, guardFree, abin, aInt, aUn, aNilCheck, retQ, retQ1, aresults, aresultL, aresult, mkF, undefV, reduceCtorEq, kD, kE, kF, kG, kH, kI, kJ, kK, aExtract, calleeOf]; simp)
   ⟨_, _, _, _, _, _, _, rfl, rfl, ⟨K7, D7⟩⟩
end Go.Fw
