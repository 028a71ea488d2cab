/- A text of the proof. -/
import Derived.Test.YtnaahaldkpdjlaaFwLZ4
import Derived.Test.YtnaahaldkpdjlaaFwLT7
import Derived.Test.YtnaahaldkpdjlaaFwLW8
set_option linter.unusedSimpArgs false
set_option linter.unusedVariables false
namespace Go.Fw
open Go.Proofs
attribute [local irreducible] KO4 KO3 KO2 KO1 KO KN KX KE VK KCond KDraw KCall KLoop
set_option maxHeartbeats 16000000
set_option maxRecDepth 10000
theorem append_in {P : Program} {h : AHeap} {t xt : TypeId} {k n n' id cap : Nat} {x : Value} {c news : List Value} (ht : apT P t xt k = true) (ho : h.own id = some (.cells c)) (hc3 : cap * k ≤ c.length) (hc2 : cap < 1000000000000) (hf : n + n' ≤ cap)
  (hs : ∀ e, tsize P e = k → srcCells P h e x = some (n', news)) (h1 : news.all (·.oneCell') = true) (hnl : news.length = n' * k) (hb : n + n' ≤ 1000000000) (h0 : n' ≠ 0) :
  aAppend P h t xt (.slice (some ⟨id, 0, none⟩) n cap) x = some (.slice (some ⟨id, 0, none⟩) (n + n') cap, h.put id (.cells (putCells c (n * k) news))) := by
 unfold apT at ht
 split at ht
 ·rename_i e dx hu hx
  split at ht
  ·rename_i z hz
   simp only [Bool.and_eq_true, beq_iff_eq, decide_eq_true_eq] at ht
   obtain ⟨⟨⟨⟨⟨hz1, hz2⟩, hd⟩, hni⟩, hk⟩, hby⟩ := ht
   have hs := hs e hk
   have b1 : (n + n') * P.bytesOf e ≤ 140737488355328 := Nat.le_trans (Nat.mul_le_mul hb hby) (by decide)
   have b2 : n + n' ≤ 140737488355328 := by omega
   have hall : z.cells.size = tsize P e ∧ z.cells.toList.all (·.oneCell') ∧ (P.underlying e).isSome ∧ notIntD dx ∧ news.all (·.oneCell') ∧ (n + n') * P.bytesOf e ≤ 140737488355328 ∧ n + n' ≤ 140737488355328 ∧ news.length = n' * tsize P e :=
    ⟨hz1, hz2, hd, hni, h1, b1, b2, by rw [hk]; exact hnl⟩
   have hno : ¬ UNK ≤ cap := Nat.not_le.2 (Nat.lt_of_lt_of_le hc2 (by decide))
   have hroom : n * k + news.length ≤ c.length := by
    rw [hnl, ← Nat.add_mul]; exact Nat.le_trans (Nat.mul_le_mul_right _ hf) hc3
   simp only [aAppend, hu, hx, hz, hs]
   rw [if_pos hall, if_neg h0, if_neg hno, if_pos hf]
   simp only [ho, hk, Nat.zero_add, hroom, if_true]
  ·cases ht
 ·cases ht
theorem mkCapP (h : AHeap) (n : Nat) (hn : n ≤ 100000) : ∃ c, aMakeSlice Try.prog h 22 (.int .i64 0) (.int .i64 (n : Int)) = some (.slice (some ⟨h.next, 0, none⟩) 0 n, h.alloc (.cells c)) ∧ c.length = n * 2 := by
 have hz : azero Try.prog 61 = some (.agg #[.int .i64 0, .int .i64 0]) := by kernel_rfl
 have hcs : (Value.agg #[.int .i64 0, .int .i64 0]).cells = #[.int .i64 0, .int .i64 0] := rfl
 have hb : Try.prog.bytesOf 61 = 16 := by kernel_rfl
 have b1 : (16 : Int) * n ≤ 140737488355328 := by omega
 have b2 : (n : Int) ≤ 140737488355328 := by omega
 have hone : (zrow [Value.int .i64 0, .int .i64 0] n).all (·.oneCell') = true := by
  clear b1 b2 hn
  induction n with
  | zero => rfl
  | succ n ih => simp only [zrow, List.all_append, ih, Bool.and_true]; rfl
 refine ⟨zrow [.int .i64 0, .int .i64 0] n, ?_, by rw [zrow_length]; rfl⟩
 simp [aMakeSlice, Try.underlying22, Try.underlying61, hz, hcs, hb, ts42, flat, b1, b2, aNewRow, hone]
theorem push_in {h : AHeap} {id m : Nat} {c : List Value} {ps : List Pr} (hw : WF h) (ho : h.own id = some (.cells c)) (hc : c.length = m * 2) (ht : c.take (ps.length * 2) = flatP ps) (hlt : ps.length < m) (hm : m ≤ 100000) (p : Pr) :
  ∃ h4 h5, aBuildSlice Try.prog h 22 1 [(0, valP p)] = some (.slice (some ⟨h.next, 0, none⟩) 1 1, h4) ∧ aAppend Try.prog h4 22 22 (.slice (some ⟨id, 0, none⟩) ps.length m) (.slice (some ⟨h.next, 0, none⟩) 1 1) = some (.slice (some ⟨id, 0, none⟩) (ps.length + 1) m, h5) ∧ WF h5 ∧
   (∃ c', h5.own id = some (.cells c') ∧ c'.length = m * 2 ∧ c'.take ((ps ++ [p]).length * 2) = flatP (ps ++ [p])) ∧ (∀ f, Le f h → f.own id = none → Le f h5) ∧ (∀ b o, h.own b = some o → b ≠ id → h5.own b = some o) := by
 obtain ⟨h4, e4, l4, w4, o4⟩ := alloc_f hw (cellsP p)
 have hx : PR h4 (.slice (some ⟨h.next, 0, none⟩) 1 1) [p] := by
  have := CS.own (k := 2) (off := 0) (n := 1) (cap := 1) o4 (by simp [cellsP])
  exact this
 have o4' := l4.own _ _ ho
 have key := append_in (P := Try.prog) (t := 22) (xt := 22) (k := 2) (n := ps.length) (n' := 1) (cap := m) (x := .slice (some ⟨h.next, 0, none⟩) 1 1) (by kernel_rfl) o4' (by omega) (by omega) (by omega) (fun e he => CS.src he hx) (flatP_one [p]) (flatP_length [p]) (by omega) (by omega)
 have hfl : flatP [p] = cellsP p := by simp [flatP]
 have hroom : ps.length * 2 + (flatP [p]).length ≤ c.length := by rw [flatP_length]; simp; omega
 refine ⟨h4, _, by rw [mkP1, e4], key, w4.put _ (w4.lt o4'), ⟨_, AHeap.own_put_eq _ _ _, by rw [putCells_length]; exact hc, ?_⟩, fun f lf nf => (lf.trans l4).put _ nf, fun b o hb hne => ?_⟩
 ·have hl : (flatP ps).length = ps.length * 2 := flatP_length ps
  have hl1 : (flatP [p]).length = 2 := flatP_length [p]
  rw [putCells_eq _ _ _ hroom, ht, flatP_append]
  rw [List.take_append_of_le_length (by simp [hl, hl1]; omega)]
  rw [List.take_of_length_le (by simp [hl, hl1]; omega)]
 ·rw [AHeap.own_put_ne _ _ _ _ hne]; exact l4.own _ _ hb
theorem store24 {h : AHeap} {R : Nat} {x y : Value} {n : Int} {ev : Value} (ho : h.own R = some (.cells [x, y])) (one : ev.oneCell' = true) (hce : ev.cells = #[ev]) : aStore Try.prog h 24 (.pointer (some ⟨R, 0, none⟩)) (.agg #[.int .i64 n, ev]) = some (h.put R (.cells [.int .i64 n, ev])) := by
 have ts24 : tsize Try.prog 24 = 2 := by kernel_rfl
 have hc : (Value.agg #[.int .i64 n, ev]).cells = #[.int .i64 n, ev] := by
  have h0 : (Value.int IntKind.i64 n).cells = #[.int .i64 n] := rfl
  simp [Value.cells, hce]
 have h0 : (Value.int IntKind.i64 n).oneCell' = true := rfl
 simp [aStore, ho, hc, ts24, putCells, Try.underlying24, one, h0]
theorem load24 {h : AHeap} {R : Nat} {n : Int} {ev : Value} (ho : h.own R = some (.cells [.int .i64 n, ev])) (hsl : ∃ a l c, ev = .slice a l c) : aload Try.prog h 24 ⟨R, 0, none⟩ = some (.agg #[.int .i64 n, ev]) := by
 have ts24 : tsize Try.prog 24 = 2 := by kernel_rfl
 obtain ⟨a, l, c, rfl⟩ := hsl
 rw [aload_own Try.underlying24 rfl ts24 ho (by simp)]; rfl
def normP (p : Pr) : Pr := (min p.1 p.2, max p.1 p.2)
structure NewOK (n : Int) (ps : List Pr) : Prop where
 n0 : 0 ≤ n
 n1 : n ≤ 200
 len : ps.length ≤ 594
 ok : ∀ p ∈ ps, 0 ≤ (normP p).1 ∧ (normP p).1 ≠ (normP p).2 ∧ (normP p).2 < n
 nd : (ps.map normP).Nodup
def emptyG : Value := .agg #[.int .i64 0, .slice none 0 0]
theorem build24z : aBuild Try.prog 24 [] = some emptyG := by kernel_rfl
theorem build24s (n : Int) (id m c : Nat) : aBuild Try.prog 24 [(0, .int .i64 n), (1, .slice (some ⟨id, 0, none⟩) m c)] = some (.agg #[.int .i64 n, .slice (some ⟨id, 0, none⟩) m c]) := by kernel_rfl
theorem NewOK.right {n : Nat} {ps : List Pr} (k : NewOK (n : Int) ps) : RightG ⟨(n : Int), sortP (ps.map normP)⟩ := by
 have nd : (sortP (ps.map normP)).Nodup := (sortP_perm _).nodup_iff.2 k.nd
 have hle := sortP_le (ps.map normP)
 refine RightG.of (by have := k.n1; omega) (by rw [sortP_length, List.length_map]; exact k.len) (fun q hq => ?_) (asc_pair.2 ?_)
 ·rw [sortP_mem, List.mem_map] at hq
  obtain ⟨p, hp, rfl⟩ := hq
  obtain ⟨h1, h2, h3⟩ := k.ok p hp
  have : (normP p).1 ≤ (normP p).2 := by simp only [normP]; omega
  refine ⟨h1, by omega, h3⟩
 ·refine (hle.and nd).imp fun {x y} h => ?_
  obtain ⟨h1, h2⟩ := h
  rcases h1 with h1 | ⟨h1, h3⟩
  ·exact .inl h1
  ·refine .inr ⟨h1, ?_⟩
   have : x.2 ≠ y.2 := fun e => h2 (Prod.ext h1 e)
   omega
theorem New_any (W0 : Base) (n : Int) (v : Value) (ps : List Pr) (h : AHeap) (hp : PR h v ps) (h100 : ps.length ≤ 100000) :
  AC Try.prog W0 68 [.int .i64 n, v] h fun x h' => Le h h' ∧ ((¬ NewOK n ps ∧ ∃ k : Int, k ≠ 0 ∧ x = .tuple #[emptyG, .int .i64 k]) ∨ (NewOK n ps ∧ ∃ ev, x = .tuple #[.agg #[.int .i64 n, ev], .int .i64 0] ∧ GP h' ev (sortP (ps.map normP)) ∧ Apart h ev)) := by
 refine AC.vc (fn := Try.f68) (c := _) ⟨Try.func68, rfl, by decide⟩ Try.ntmps68 Try.results68 (by simp) fun hwf => ?_
 simp only [argFrame, argFrom, Nat.reduceAdd]
 obtain ⟨h1, e1, l1, w1, o1⟩ := alloc_f hwf [.int .i64 0, .slice none 0 0]
 have al := alloc24 h
 rw [e1] at al
 have nR : h.own h.next = none := (Le.refl h).next hwf (Nat.le_refl _)
 generalize h.next = R at *
 have hlen := fun g => hp.len g
 have stE : ∀ g : AHeap, g.own R = some (.cells [.int .i64 0, .slice none 0 0]) → aStore Try.prog g 24 (.pointer (some ⟨R, 0, none⟩)) emptyG = some (g.put R (.cells [.int .i64 0, .slice none 0 0])) := fun g o => store24 o rfl rfl
 have ldE : ∀ g : AHeap, aload Try.prog (g.put R (.cells [.int .i64 0, .slice none 0 0])) 24 ⟨R, 0, none⟩ = some emptyG := fun g => load24 (AHeap.own_put_eq _ _ _) ⟨_, _, _, rfl⟩
 have fail : ∀ (g : AHeap) (k : Int), k ≠ 0 → Le h g → ¬ NewOK n ps → Le h (g.put R (.cells [.int .i64 0, .slice none 0 0])) ∧ ((¬ NewOK n ps ∧ ∃ k' : Int, k' ≠ 0 ∧ Value.tuple #[emptyG, .int .i64 k] = .tuple #[emptyG, .int .i64 k']) ∨ (NewOK n ps ∧ ∃ ev, Value.tuple #[emptyG, .int .i64 k] = .tuple #[.agg #[.int .i64 n, ev], .int .i64 0] ∧ GP (g.put R (.cells [.int .i64 0, .slice none 0 0])) ev (sortP (ps.map normP)) ∧ Apart h ev)) :=
  fun g k hk lg hno => ⟨lg.put _ nR, .inl ⟨hno, k, hk, rfl⟩⟩
 by_cases c1 : n > 200
 ·have d1 : decide (n > 200) = true := decide_eq_true c1
  simp only [kS1, bLookup, bMapSet, wantA, isCall, stepOp, evalO, evalL, evalP, evalM, putDst, flat, kA, kB, Nat.reduceLT, ↓reduceIte, kC, Nat.reduceEqDiff, aBuiltin, abinG, guardFree, abin, aInt, aUn, aNilCheck, retQ, retQ1, aresults, aresultL, aresult, mkF, undefV, reduceCtorEq, kD, kE, kF, kG, kH, kI, kJ, kK, aExtract, calleeOf, al, d1, build24z, stE h1 o1, ldE h1]
  exact fail h1 21 (by decide) l1 (fun k => by have := k.n1; omega)
 have d1 : decide (n > 200) = false := decide_eq_false c1
 by_cases c2 : (ps.length : Int) > 594
 ·have d2 : decide ((ps.length : Int) > 594) = true := decide_eq_true c2
  simp only [kS1, bLookup, bMapSet, wantA, isCall, stepOp, evalO, evalL, evalP, evalM, putDst, flat, kA, kB, Nat.reduceLT, ↓reduceIte, kC, Nat.reduceEqDiff, aBuiltin, abinG, guardFree, abin, aInt, aUn, aNilCheck, retQ, retQ1, aresults, aresultL, aresult, mkF, undefV, reduceCtorEq, kD, kE, kF, kG, kH, kI, kJ, kK, aExtract, calleeOf, al, d1, hlen, d2, build24z, stE h1 o1, ldE h1]
  exact fail h1 21 (by decide) l1 (fun k => by have := k.len; omega)
 have d2 : decide ((ps.length : Int) > 594) = false := decide_eq_false c2
 by_cases c3 : n < 0
 ·have d3 : decide (n < 0) = true := decide_eq_true c3
  simp only [kS1, bLookup, bMapSet, wantA, isCall, stepOp, evalO, evalL, evalP, evalM, putDst, flat, kA, kB, Nat.reduceLT, ↓reduceIte, kC, Nat.reduceEqDiff, aBuiltin, abinG, guardFree, abin, aInt, aUn, aNilCheck, retQ, retQ1, aresults, aresultL, aresult, mkF, undefV, reduceCtorEq, kD, kE, kF, kG, kH, kI, kJ, kK, aExtract, calleeOf, al, d1, hlen, d2, d3, build24z, stE h1 o1, ldE h1]
  exact fail h1 20 (by decide) l1 (fun k => by have := k.n0; omega)
 have d3 : decide (n < 0) = false := decide_eq_false c3
 obtain ⟨h2, e2, l2, w2, o2⟩ : ∃ h2, h1.alloc (.map []) = h2 ∧ Le h1 h2 ∧ WF h2 ∧ h2.own h1.next = some (.map []) := ⟨_, rfl, (Le.refl h1).alloc w1 _, w1.alloc _, AHeap.own_alloc_eq _ _⟩
 have nM : h1.own h1.next = none := (Le.refl h1).next w1 (Nat.le_refl _)
 have neRM : R ≠ h1.next := fun e => by rw [e, nM] at o1; cases o1
 obtain ⟨c0, mk, hc0⟩ := mkCapP h2 ps.length h100
 obtain ⟨h3, e3, l3, w3, o3⟩ := alloc_f w2 c0
 rw [e3] at mk
 have nI : h2.own h2.next = none := (Le.refl h2).next w2 (Nat.le_refl _)
 simp only [kS1, bLookup, bMapSet, wantA, isCall, stepOp, evalO, evalL, evalP, evalM, putDst, flat, kA, kB, Nat.reduceLT, ↓reduceIte, kC, Nat.reduceEqDiff, aBuiltin, abinG, guardFree, abin, aInt, aUn, aNilCheck, retQ, retQ1, aresults, aresultL, aresult, mkF, undefV, reduceCtorEq, kD, kE, kF, kG, kH, kI, kJ, kK, aExtract, calleeOf, al, d1, hlen, d2, d3, e2, mk]
 have oM3 := l3.own _ _ o2
 have oR3 := l3.own _ _ (l2.own _ _ o1)
 have neIM : h2.next ≠ h1.next := fun e => by rw [e, o2] at nI; cases nI
 have neIR : h2.next ≠ R := fun e => by rw [e, l2.own _ _ o1] at nI; cases nI
 have nI0 : h.own h2.next = none := (l1.trans l2).none nI
 have nM0 : h.own h1.next = none := l1.none nM
 have l03 := (l1.trans l2).trans l3
 generalize h1.next = M at *
 generalize h2.next = I at *
 refine KLoop.intro (fun k fr hq => ∃ (i : Nat) (al : List (Pr × Int)) (c : List Value), k = ps.length - i ∧ i ≤ ps.length ∧ fr = mkF [(0, .int .i64 n), (4, .pointer (some ⟨R, 0, none⟩)), (6, .map (some M)), (7, .slice (some ⟨I, 0, none⟩) ((ps.take i).map normP).length ps.length), (28, v), (29, .int .i64 ps.length), (30, .int .i64 i)] ∧
   hq.own R = some (.cells [.int .i64 0, .slice none 0 0]) ∧ hq.own M = some (.map (mapP al)) ∧ (∀ q, q ∈ al.map (·.1) ↔ q ∈ (ps.take i).map normP) ∧ hq.own I = some (.cells c) ∧ c.length = ps.length * 2 ∧ c.take (((ps.take i).map normP).length * 2) = flatP ((ps.take i).map normP) ∧
   (∀ p ∈ ps.take i, 0 ≤ (normP p).1 ∧ (normP p).1 ≠ (normP p).2 ∧ (normP p).2 < n) ∧ ((ps.take i).map normP).Nodup ∧ Le h hq)
  ps.length [(0, .int .i64 n), (4, .pointer (some ⟨R, 0, none⟩)), (6, .map (some M)), (7, .slice (some ⟨I, 0, none⟩) 0 ps.length), (28, v), (29, .int .i64 ps.length), (30, .int .i64 (0 : Nat))] (by simp only [hasAll, kS1, bLookup, bMapSet, wantA, isCall, stepOp, evalO, evalL, evalP, evalM, putDst, flat, kA, kB, Nat.reduceLT, ↓reduceIte, kC, Nat.reduceEqDiff, aBuiltin, abinG, guardFree, abin, aInt, aUn, aNilCheck, retQ, retQ1, aresults, aresultL, aresult, mkF, undefV, reduceCtorEq, kD, kE, kF, kG, kH, kI, kJ, kK, aExtract, calleeOf]; simp)
  ⟨0, [], c0, rfl, Nat.zero_le _, rfl, oR3, oM3, by simp, o3, hc0, rfl, by simp, by simp, l03⟩ ?_
 clear o3 hc0 oM3 oR3 w3 l3 l03 e3 mk o2 w2 l2 e2 nI nM al o1 w1 l1 e1
 clear h3 h2 h1 c0
 rintro k fr hq hwq ⟨i, al, c, rfl, hi, rfl, oR, oM, hal, oI, hcl, hct, hok, hnd, leq⟩
 have hil : ((ps.take i).map normP).length = i := by rw [List.length_map, List.length_take]; omega
 simp only [kS1, bLookup, bMapSet, wantA, isCall, stepOp, evalO, evalL, evalP, evalM, putDst, flat, kA, kB, Nat.reduceLT, ↓reduceIte, kC, Nat.reduceEqDiff, aBuiltin, abinG, guardFree, abin, aInt, aUn, aNilCheck, retQ, retQ1, aresults, aresultL, aresult, mkF, undefV, reduceCtorEq, kD, kE, kF, kG, kH, kI, kJ, kK, aExtract, calleeOf]
 refine KCond.intro (fun ht => ?_) (fun hf => ?_)
 rotate_left
 ·have hge : ps.length ≤ i := lt_f hf
  obtain rfl : i = ps.length := by omega
  rw [hil, List.take_of_length_le (Nat.le_refl _)] at hct
  rw [List.take_of_length_le (Nat.le_refl _)] at hok hnd
  have hOK : NewOK n ps := ⟨by omega, by omega, by omega, hok, hnd⟩
  have g : GP hq (.slice (some ⟨I, 0, none⟩) ps.length ps.length) (ps.map normP) := by
   have hl : c.length ≤ ps.length * 2 := by omega
   rw [List.take_of_length_le hl] at hct
   subst hct
   have := GS.full (k := 2) (n := ps.length) oI hcl (by omega)
   rw [GP, List.length_map]; exact this
  have ag : Apart h (.slice (some ⟨I, 0, none⟩) ps.length ps.length) := fun b hb => by injection hb with hb; subst hb; exact nI0
  have bs := build24s n I ps.length ps.length
  have bI : blk (.slice (some ⟨I, 0, none⟩) ps.length ps.length) = some I := rfl
  rw [hil]
  simp only [kS1, bLookup, bMapSet, wantA, isCall, stepOp, evalO, evalL, evalP, evalM, putDst, flat, kA, kB, Nat.reduceLT, ↓reduceIte, kC, Nat.reduceEqDiff, aBuiltin, abinG, guardFree, abin, aInt, aUn, aNilCheck, retQ, retQ1, aresults, aresultL, aresult, mkF, undefV, reduceCtorEq, kD, kE, kF, kG, kH, kI, kJ, kK, aExtract, calleeOf]
  generalize hsv : Value.slice (some ⟨I, 0, none⟩) ps.length ps.length = sv at *
  refine KCall.intro (by simp only [kS1, bLookup, bMapSet, wantA, isCall, stepOp, evalO, evalL, evalP, evalM, putDst, flat, kA, kB, Nat.reduceLT, ↓reduceIte, kC, Nat.reduceEqDiff, aBuiltin, abinG, guardFree, abin, aInt, aUn, aNilCheck, retQ, retQ1, aresults, aresultL, aresult, mkF, undefV, reduceCtorEq, kD, kE, kF, kG, kH, kI, kJ, kK, aExtract, calleeOf] <;> rfl) ⟨Try.func98, rfl, by decide⟩ (SortFunc_any W0 g (by rw [List.length_map]; omega) 85 (enters_of Try.func85 (by kernel_rfl) rfl) fun W p q => (compare_any _ p q _).mono fun _ _ h => h.1) ?_
  rintro x h4 w4 ⟨rfl, g4, f4⟩
  have l4 := f4 h leq ag
  have oR4 : h4.own R = some (.cells [.int .i64 0, .slice none 0 0]) := (keep_own (v' := sv) (fun f _ lf af => ⟨f4 f lf af, af⟩) hwq oR (by rw [bI]; simpa using neIR)).1
  have st := store24 (n := n) (ev := sv) oR4 (by rw [← hsv]; rfl) (by rw [← hsv]; rfl)
  have ld := load24 (n := n) (ev := sv) (AHeap.own_put_eq h4 R _) ⟨_, _, _, hsv.symm⟩
  simp only [kS1, bLookup, bMapSet, wantA, isCall, stepOp, evalO, evalL, evalP, evalM, putDst, flat, kA, kB, Nat.reduceLT, ↓reduceIte, kC, Nat.reduceEqDiff, aBuiltin, abinG, guardFree, abin, aInt, aUn, aNilCheck, retQ, retQ1, aresults, aresultL, aresult, mkF, undefV, reduceCtorEq, kD, kE, kF, kG, kH, kI, kJ, kK, aExtract, calleeOf, bs, st, ld]
  exact ⟨l4.put _ nR, .inr ⟨hOK, sv, rfl, GS.put g4 _ (by rw [bI]; simpa using neIR), ag⟩⟩
 have hlt : i < ps.length := lt_t ht
 clear ht
 have hpi := getElem?_of hlt
 have htk : ps.take (i + 1) = ps.take i ++ [ps[i]] := List.take_succ_eq_append_getElem hlt
 have hpm := List.getElem_mem hlt
 generalize ps[i] = p at hpi htk hpm
 have ad := hp.addr (k := .i64) i hlt
 have ld := (hp.le leq).load hpi
 obtain ⟨h7', h7, e7, e7s, l7, w7, o7⟩ := new42 hwq p
 obtain ⟨h8', h8, e8, e8s, l8, w8, o8⟩ := new42 w7 (normP p)
 have bn : aBuild Try.prog 61 [(0, .int .i64 (min p.1 p.2)), (1, .int .i64 (max p.1 p.2))] = some (valP (normP p)) := bP2 _ _
 simp only [kS1, bLookup, bMapSet, wantA, isCall, stepOp, evalO, evalL, evalP, evalM, putDst, flat, kA, kB, Nat.reduceLT, ↓reduceIte, kC, Nat.reduceEqDiff, aBuiltin, abinG, guardFree, abin, aInt, aUn, aNilCheck, retQ, retQ1, aresults, aresultL, aresult, mkF, undefV, reduceCtorEq, kD, kE, kF, kG, kH, kI, kJ, kK, aExtract, calleeOf, ad, ld, e7, e7s, pa0, pa1, aadd, Nat.zero_add, own0 o7, own1 o7, amin_i, amax_i, bn, e8, e8s]
 have l78 := leq.trans (l7.trans l8)
 have oR8 := (l7.trans l8).own _ _ oR
 have oM8 := (l7.trans l8).own _ _ oM
 have oI8 := (l7.trans l8).own _ _ oI
 have neE : h7.next ≠ M := fun e => by
  have := (Le.refl h7).next w7 (Nat.le_refl _)
  rw [e, l7.own _ _ oM] at this; cases this
 have neI : h7.next ≠ I := fun e => by
  have := (Le.refl h7).next w7 (Nat.le_refl _)
  rw [e, l7.own _ _ oI] at this; cases this
 generalize hE : h7.next = E at *
 have m0 := own0 o8
 have m1 := own1 o8
 have bad : ¬ (0 ≤ (normP p).1 ∧ (normP p).1 ≠ (normP p).2 ∧ (normP p).2 < n) → ¬ NewOK n ps := fun hn k => hn (k.ok p hpm)
 by_cases q1 : (normP p).1 < 0
 ·have d : decide ((normP p).1 < 0) = true := decide_eq_true q1
  simp only [kS1, bLookup, bMapSet, wantA, isCall, stepOp, evalO, evalL, evalP, evalM, putDst, flat, kA, kB, Nat.reduceLT, ↓reduceIte, kC, Nat.reduceEqDiff, aBuiltin, abinG, guardFree, abin, aInt, aUn, aNilCheck, retQ, retQ1, aresults, aresultL, aresult, mkF, undefV, reduceCtorEq, kD, kE, kF, kG, kH, kI, kJ, kK, aExtract, calleeOf, pa0, pa1, aadd, Nat.zero_add, m0, m1, d, build24z, stE h8 oR8, ldE h8]
  exact fail h8 20 (by decide) l78 (bad (by omega))
 have dq1 : decide ((normP p).1 < 0) = false := decide_eq_false q1
 by_cases q2 : (normP p).1 = (normP p).2
 ·have d : decide ((normP p).1 = (normP p).2) = true := decide_eq_true q2
  simp only [kS1, bLookup, bMapSet, wantA, isCall, stepOp, evalO, evalL, evalP, evalM, putDst, flat, kA, kB, Nat.reduceLT, ↓reduceIte, kC, Nat.reduceEqDiff, aBuiltin, abinG, guardFree, abin, aInt, aUn, aNilCheck, retQ, retQ1, aresults, aresultL, aresult, mkF, undefV, reduceCtorEq, kD, kE, kF, kG, kH, kI, kJ, kK, aExtract, calleeOf, pa0, pa1, aadd, Nat.zero_add, m0, m1, dq1, d, build24z, stE h8 oR8, ldE h8]
  exact fail h8 20 (by decide) l78 (bad (by omega))
 have dq2 : decide ((normP p).1 = (normP p).2) = false := decide_eq_false q2
 by_cases q3 : (normP p).2 ≥ n
 ·have d : decide ((normP p).2 ≥ n) = true := decide_eq_true q3
  simp only [kS1, bLookup, bMapSet, wantA, isCall, stepOp, evalO, evalL, evalP, evalM, putDst, flat, kA, kB, Nat.reduceLT, ↓reduceIte, kC, Nat.reduceEqDiff, aBuiltin, abinG, guardFree, abin, aInt, aUn, aNilCheck, retQ, retQ1, aresults, aresultL, aresult, mkF, undefV, reduceCtorEq, kD, kE, kF, kG, kH, kI, kJ, kK, aExtract, calleeOf, pa0, pa1, aadd, Nat.zero_add, m0, m1, dq1, dq2, d, build24z, stE h8 oR8, ldE h8]
  exact fail h8 20 (by decide) l78 (bad (by omega))
 have dq3 : decide ((normP p).2 ≥ n) = false := decide_eq_false q3
 have lp := own42 o8
 have lk := mapP_look oM8 (normP p) true
 by_cases q4 : normP p ∈ (ps.take i).map normP
 ·have hs : (lookK al (normP p)).isSome = true := by
   have := lookK_mem.2 ((hal _).2 q4)
   cases hh : lookK al (normP p) with
   | none => exact absurd hh this
   | some x => rfl
  rw [hs] at lk
  simp only [kS1, bLookup, bMapSet, wantA, isCall, stepOp, evalO, evalL, evalP, evalM, putDst, flat, kA, kB, Nat.reduceLT, ↓reduceIte, kC, Nat.reduceEqDiff, aBuiltin, abinG, guardFree, abin, aInt, aUn, aNilCheck, retQ, retQ1, aresults, aresultL, aresult, mkF, undefV, reduceCtorEq, kD, kE, kF, kG, kH, kI, kJ, kK, aExtract, calleeOf, pa0, pa1, aadd, Nat.zero_add, m0, m1, dq1, dq2, dq3, lp, lookP_none, lk, build24z, stE h8 oR8, ldE h8]
  refine fail h8 20 (by decide) l78 fun k => ?_
  have nd := k.nd
  rw [← List.take_append_drop (i + 1) ps, htk, List.map_append, List.map_append] at nd
  have := (List.nodup_append.1 nd).1
  rw [List.nodup_append] at this
  exact this.2.2 _ q4 _ (by simp) rfl
 have hs : lookK al (normP p) = none := by
  cases hh : lookK al (normP p) with
  | none => rfl
  | some x => exact absurd ((hal _).1 (lookK_mem.1 (by rw [hh]; simp))) q4
 rw [hs] at lk
 simp only [Option.isSome_none, Option.getD_none] at lk
 have sm := mapP_set oM8 (normP p) (i : Int)
 have w9 := w8.put (.map (mapP (setK al (normP p) (i : Int)))) (w8.lt oM8)
 have oM9 := AHeap.own_put_eq h8 M (.map (mapP (setK al (normP p) (i : Int))))
 have keep9 : ∀ b o, h8.own b = some o → b ≠ M → (h8.put M (.map (mapP (setK al (normP p) (i : Int))))).own b = some o := fun b o ho hb => by rw [AHeap.own_put_ne _ _ _ _ hb]; exact ho
 have oR9 := keep9 R _ oR8 neRM
 have oI9 := keep9 I _ oI8 neIM
 have oE9 := keep9 E _ o8 neE
 have l9 := l78.put (.map (mapP (setK al (normP p) (i : Int)))) nM0
 simp only [kS1, bLookup, bMapSet, wantA, isCall, stepOp, evalO, evalL, evalP, evalM, putDst, flat, kA, kB, Nat.reduceLT, ↓reduceIte, kC, Nat.reduceEqDiff, aBuiltin, abinG, guardFree, abin, aInt, aUn, aNilCheck, retQ, retQ1, aresults, aresultL, aresult, mkF, undefV, reduceCtorEq, kD, kE, kF, kG, kH, kI, kJ, kK, aExtract, calleeOf, pa0, pa1, aadd, Nat.zero_add, m0, m1, dq1, dq2, dq3, lp, lookP_none, lk, setP_none, sm]
 generalize h8.put M (.map (mapP (setK al (normP p) (i : Int)))) = h9 at *
 have lp9 := own42 oE9
 obtain ⟨h10, h11, e10, e11, w11, ⟨c', oI11, hcl', hct'⟩, f11, k11⟩ := push_in w9 oI9 hcl hct (by rw [hil]; exact hlt) h100 (normP p)
 have htk' : (ps.take (i + 1)).map normP = (ps.take i).map normP ++ [normP p] := by rw [htk, List.map_append]; rfl
 simp only [kS1, bLookup, bMapSet, wantA, isCall, stepOp, evalO, evalL, evalP, evalM, putDst, flat, kA, kB, Nat.reduceLT, ↓reduceIte, kC, Nat.reduceEqDiff, aBuiltin, abinG, guardFree, abin, aInt, aUn, aNilCheck, retQ, retQ1, aresults, aresultL, aresult, mkF, undefV, reduceCtorEq, kD, kE, kF, kG, kH, kI, kJ, kK, aExtract, calleeOf, lp9, e10, e11, awrap_succ i (by omega)]
 refine loop_again (ps.length - (i + 1)) [(0, .int .i64 n), (4, .pointer (some ⟨R, 0, none⟩)), (6, .map (some M)), (7, .slice (some ⟨I, 0, none⟩) (((ps.take i).map normP).length + 1) ps.length), (28, v), (29, .int .i64 ps.length), (30, .int .i64 (i + 1 : Nat))] (by omega) (by simp only [hasAll, kS1, bLookup, bMapSet, wantA, isCall, stepOp, evalO, evalL, evalP, evalM, putDst, flat, kA, kB, Nat.reduceLT, ↓reduceIte, kC, Nat.reduceEqDiff, aBuiltin, abinG, guardFree, abin, aInt, aUn, aNilCheck, retQ, retQ1, aresults, aresultL, aresult, mkF, undefV, reduceCtorEq, kD, kE, kF, kG, kH, kI, kJ, kK, aExtract, calleeOf]; simp)
  ⟨i + 1, _, c', rfl, hlt, by rw [htk', List.length_append]; rfl, k11 R _ oR9 (Ne.symm neIR), k11 M _ oM9 (Ne.symm neIM), fun q => ?_, oI11, hcl', by rw [htk']; exact hct', fun q hq => ?_, ?_, f11 h l9 nI0⟩
 ·rw [setK_keys, hal, htk', List.mem_append]; simp; exact or_comm
 ·rw [htk, List.mem_append] at hq
  rcases hq with hq | hq
  ·exact hok q hq
  ·simp at hq; subst hq; omega
 ·rw [htk', List.nodup_append]
  refine ⟨hnd, by simp, fun a ha b hb e => ?_⟩
  simp at hb; subst hb; subst e; exact q4 ha
end Go.Fw
