/- A text of the proof. -/
import Derived.Test.YtnaahaldkpdjlaaFwLC8
set_option linter.unusedSimpArgs false
set_option linter.unusedVariables false
namespace Go.Fw
open Go.Proofs
attribute [local irreducible] KO4 KO3 KO2 KO1 KO KN KX KE VK KCond KDraw KCall KLoop
set_option maxHeartbeats 16000000
set_option maxRecDepth 10000
theorem st3 {t e : TypeId} (ht : Try.prog.underlying t = some (.array 2 e)) (hs : tsize Try.prog t = 2) {h : AHeap} (c d : List Value) (x y n m : Nat) :
  aStore Try.prog (al3 h [.slice none 0 0, .slice none 0 0] c d) t (.pointer (some ⟨h.next, 0, none⟩)) (.agg #[.slice (some ⟨x, 0, none⟩) n n, .slice (some ⟨y, 0, none⟩) m m]) = some ((al3 h [.slice none 0 0, .slice none 0 0] c d).put h.next (.cells [.slice (some ⟨x, 0, none⟩) n n, .slice (some ⟨y, 0, none⟩) m m])) ∧
  aStore Try.prog (al3 h c [.slice none 0 0, .slice none 0 0] d) t (.pointer (some ⟨h.next + 1, 0, none⟩)) (.agg #[.slice (some ⟨x, 0, none⟩) n n, .slice (some ⟨y, 0, none⟩) m m]) = some ((al3 h c [.slice none 0 0, .slice none 0 0] d).put (h.next + 1) (.cells [.slice (some ⟨x, 0, none⟩) n n, .slice (some ⟨y, 0, none⟩) m m])) ∧
  aStore Try.prog (al3 h c d [.slice none 0 0, .slice none 0 0]) t (.pointer (some ⟨h.next + 1 + 1, 0, none⟩)) (.agg #[.slice (some ⟨x, 0, none⟩) n n, .slice (some ⟨y, 0, none⟩) m m]) = some ((al3 h c d [.slice none 0 0, .slice none 0 0]).put (h.next + 1 + 1) (.cells [.slice (some ⟨x, 0, none⟩) n n, .slice (some ⟨y, 0, none⟩) m m])) :=
 ⟨tsw ht hs al3_own.1 ⟨_, _, _, rfl, oneS x n n⟩ ⟨_, _, _, rfl, oneS y m m⟩, tsw ht hs al3_own.2.1 ⟨_, _, _, rfl, oneS x n n⟩ ⟨_, _, _, rfl, oneS y m m⟩, tsw ht hs al3_own.2.2 ⟨_, _, _, rfl, oneS x n n⟩ ⟨_, _, _, rfl, oneS y m m⟩⟩
theorem KLoop.gen2 {P : Program} {W0 : Base} {N : Nat} {c : Code} {ks : List Kt} {R : Exit → AFrame → AHeap → Prop} {fr : AFrame} {h : AHeap} (q : ∀ fr' h', fr' = fr → h' = h → KLoop P W0 N c ks R fr' h') : KLoop P W0 N c ks R fr h := q fr h rfl rfl
theorem Rows.kill {b0 h : AHeap} {L : Nat} {us : List Value} {rows : List (List Int)} (R : Rows b0 h L us rows) {q : Nat} (hq : b0.own q ≠ none) : Rows (b0.kill q) (h.kill q) L us rows := by
 have hn : ∀ b, b0.own b = none → b ≠ q := fun b h1 e => hq (by rw [← e]; exact h1)
 refine ⟨by rw [AHeap.own_kill_ne _ _ _ (hn L R.bL)]; exact R.oL, R.len, fun v u r hu hr => (R.gs v u r hu hr).kept fun b o hb ho => by rw [AHeap.own_kill_ne _ _ _ (hn b (R.ap v u hu b hb))]; exact ho, R.nL, R.dis, fun v u hu b hb => ?_, ((Le.killed _ _).trans R.le).to_kill (AHeap.own_kill_eq _ _), ?_⟩
 ·by_cases e : b = q
  ·subst e; exact AHeap.own_kill_eq _ _
  ·rw [AHeap.own_kill_ne _ _ _ e]; exact R.ap v u hu b hb
 ·rw [AHeap.own_kill_ne _ _ _ (hn L R.bL)]; exact R.bL
theorem lt_of_ne_succ {j i : Nat} (h : j < i + 1) (e : j ≠ i) : j < i := by omega
theorem rows_nil {f : List Pr → Nat → List Int} (hf : ∀ v, f [] v = []) (b : Nat) : (List.range b).map (f []) = List.replicate b [] := by
 rw [List.eq_replicate_iff]
 refine ⟨by simp, fun x hx => ?_⟩
 obtain ⟨v, _, rfl⟩ := List.mem_map.1 hx
 exact hf v
theorem linked_any (W0 : Base) (v : Value) (T : TM) (h : AHeap) (hv : TR h v T) (n : Nat) (hn : n = T.bs.length + T.cs.length) (h1 : n ≤ 1000) (h2 : T.ls.length ≤ 100000) :
  AC Try.prog W0 87 [v] h fun x h' => Le h h' ∧ ((¬ Lk T.bs.length n T.ls ∧ ∃ a1 a2, x = .tuple #[.agg #[a1, a2], .bool false] ∧ (∃ a m k, a1 = .slice a m k ∧ a1.oneCell' = true) ∧ ∃ a m k, a2 = .slice a m k ∧ a2.oneCell' = true) ∨ (Lk T.bs.length n T.ls ∧ ∃ l1 l2, x = .tuple #[.agg #[l1, l2], .bool true] ∧ RL isG h' l1 (rowsB T.bs.length T.ls) ∧ RL isG h' l2 (rowsC T.cs.length T.ls))) := by
 obtain ⟨bs, cs, ls⟩ := T
 obtain ⟨bv, cv, lv, rfl, hb, hc, hl⟩ := hv
 simp only at hn h2 hb hc hl ⊢
 refine AC.vc (fn := Try.f87) (c := _) ⟨Try.func87, rfl, by decide⟩ Try.ntmps87 Try.results87 (by simp) fun hwf => ?_
 simp only [argFrame, argFrom, Nat.reduceAdd]
 obtain ⟨h3, e3, l3, w3, lA⟩ := boxT (T := ⟨bs, cs, ls⟩) hwf hb hc hl
 generalize h.next = B at *
 obtain ⟨h4, e4, l4, w4, o4⟩ := alloc_f w3 [.slice none 0 0, .slice none 0 0]
 have al := alloc101 h3
 rw [e4] at al
 have nR3 : h3.own h3.next = none := (Le.refl h3).next w3 (Nat.le_refl _)
 have nR : h.own h3.next = none := l3.none nR3
 generalize h3.next = R at *
 have fA := lA h4 l4
 have lb := fun g => hb.len (P := Try.prog) Try.underlying28 g
 have lc := fun g => hc.len (P := Try.prog) Try.underlying38 g
 have ll := fun g => hl.len g
 generalize hbl : bs.length = b at *
 generalize hml : cs.length = m at *
 have hb1 : b ≤ 1000 := by omega
 have hm1 : m ≤ 1000 := by omega
 have hw : awrap .i64 ((b : Int) + (m : Int)) = (n : Int) := by rw [awrap_i64 _ (by omega) (by omega)]; omega
 have hn1 : awrap .i64 ((n : Int) - 1) = (n : Int) - 1 := awrap_i64 _ (by omega) (by omega)
 have sN : ∃ a m k, Value.slice none 0 0 = .slice a m k ∧ (Value.slice none 0 0).oneCell' = true := ⟨_, _, _, rfl, rfl⟩
 have stE : ∀ g : AHeap, g.own R = some (.cells [.slice none 0 0, .slice none 0 0]) → aStore Try.prog g 123 (.pointer (some ⟨R, 0, none⟩)) (.agg #[.slice none 0 0, .slice none 0 0]) = some (g.put R (.cells [.slice none 0 0, .slice none 0 0])) := fun g o => tsw Try.underlying123 ts101 o sN sN
 have ldR : ∀ (g : AHeap) (x y : Value), (∃ a m k, x = .slice a m k) → (∃ a m k, y = .slice a m k) → aload Try.prog (g.put R (.cells [x, y])) 123 ⟨R, 0, none⟩ = some (.agg #[x, y]) := fun g x y hx hy => by
  obtain ⟨a1, b1, c1, rfl⟩ := hx
  obtain ⟨a2, b2, c2, rfl⟩ := hy
  rw [aload_own Try.underlying123 rfl ts101 (AHeap.own_put_eq g R _) (by simp)]; rfl
 have sN' : ∃ a m k, Value.slice none 0 0 = .slice a m k := ⟨_, _, _, rfl⟩
 simp only [kS1, bLookup, bMapSet, wantA, isCall, stepOp, evalO, evalL, evalP, evalM, putDst, flat, kA, kB, Nat.reduceLT, ↓reduceIte, kC, Nat.reduceEqDiff, aBuiltin, abinG, guardFree, abin, aInt, aUn, aNilCheck, retQ, retQ1, aresults, aresultL, aresult, mkF, undefV, reduceCtorEq, kD, kE, kF, kG, kH, kI, kJ, kK, aExtract, calleeOf, e3, al, tf0, tf1, aadd, Nat.zero_add, fA.2.1, fA.2.2.1, lb, lc, hw]
 by_cases c0 : (n : Int) = 0
 ·have d0 : decide ((n : Int) = 0) = true := decide_eq_true c0
  simp only [kS1, bLookup, bMapSet, wantA, isCall, stepOp, evalO, evalL, evalP, evalM, putDst, flat, kA, kB, Nat.reduceLT, ↓reduceIte, kC, Nat.reduceEqDiff, aBuiltin, abinG, guardFree, abin, aInt, aUn, aNilCheck, retQ, retQ1, aresults, aresultL, aresult, mkF, undefV, reduceCtorEq, kD, kE, kF, kG, kH, kI, kJ, kK, aExtract, calleeOf, d0, build101e, stE h4 o4, ldR h4 _ _ sN' sN']
  exact ⟨(l3.trans l4).put _ nR, .inl ⟨fun G => G.n0 (by omega), _, _, rfl, sN, sN⟩⟩
 have d0 : decide ((n : Int) = 0) = false := decide_eq_false c0
 by_cases c1 : (ls.length : Int) = (n : Int) - 1
 rotate_left
 ·have d1 : decide ((ls.length : Int) = (n : Int) - 1) = false := decide_eq_false c1
  simp only [kS1, bLookup, bMapSet, wantA, isCall, stepOp, evalO, evalL, evalP, evalM, putDst, flat, kA, kB, Nat.reduceLT, ↓reduceIte, kC, Nat.reduceEqDiff, aBuiltin, abinG, guardFree, abin, aInt, aUn, aNilCheck, retQ, retQ1, aresults, aresultL, aresult, mkF, undefV, reduceCtorEq, kD, kE, kF, kG, kH, kI, kJ, kK, aExtract, calleeOf, d0, tf2, aadd, Nat.zero_add, fA.2.2.2, ll, hn1, bne, d1, build101e, stE h4 o4, ldR h4 _ _ sN' sN']
  exact ⟨(l3.trans l4).put _ nR, .inl ⟨fun G => c1 (by have := G.len; omega), _, _, rfl, sN, sN⟩⟩
 have d1 : decide ((ls.length : Int) = (n : Int) - 1) = true := decide_eq_true c1
 simp only [kS1, bLookup, bMapSet, wantA, isCall, stepOp, evalO, evalL, evalP, evalM, putDst, flat, kA, kB, Nat.reduceLT, ↓reduceIte, kC, Nat.reduceEqDiff, aBuiltin, abinG, guardFree, abin, aInt, aUn, aNilCheck, retQ, retQ1, aresults, aresultL, aresult, mkF, undefV, reduceCtorEq, kD, kE, kF, kG, kH, kI, kJ, kK, aExtract, calleeOf, d0, tf2, aadd, Nat.zero_add, fA.2.2.2, ll, hn1, bne, d1]
 have hll : ls.length ≤ 1000 := by omega
 -- the rows
 have D0 := fA
 have D1 := fun o : AObj => lA (h4.alloc o) (l4.trans ((Le.refl h4).alloc w4 _))
 have D2 := fun o o' : AObj => lA ((h4.alloc o).alloc o') (l4.trans (((Le.refl h4).alloc w4 _).alloc (w4.alloc _) _))
 have D3 := fun o o' o2 : AObj => lA (((h4.alloc o).alloc o').alloc o2) (l4.trans ((((Le.refl h4).alloc w4 _).alloc (w4.alloc _) _).alloc ((w4.alloc _).alloc _) _))
 have mB := fun g : AHeap => mk57 g b hb1
 have mC := fun g : AHeap => mk57 g m hm1
 have P0 := fun c d x y => (st3 Try.underlying123 ts101 (h := h4) c d x y b m).1
 have P1 := fun c d x y => (st3 Try.underlying123 ts101 (h := h4) c d x y b m).2.1
 have P2 := fun c d x y => (st3 Try.underlying123 ts101 (h := h4) c d x y b m).2.2
 simp only [al3] at P0 P1 P2
 apply byOne2 (F := fun (fr : AFrame) (h' : AHeap) => ∃ LB LC P, hasAll fr [(1, .pointer (some ⟨B, 0, none⟩)), (2, .pointer (some ⟨R, 0, none⟩)), (4, .int .i64 n), (5, .pointer (some ⟨P, 0, none⟩))] ∧
  New3 h4 h' LB LC P (List.replicate b (.slice none 0 0)) (List.replicate m (.slice none 0 0)) [.slice (some ⟨LB, 0, none⟩) b b, .slice (some ⟨LC, 0, none⟩) m m])
 ·intro cont
  refine KDraw.intro mixed (.fl 0 (.fl 1 (.fl 2 (.fl 4 (.fl 5 (.fl 6 (.ch 3 [2] (.ch 7 [6] (.fl 8 (.ch 9 [] (.ch 10 [0, 1, 2, 3, 4, 5, 6, 7, 8, 9] (.done) .no) .no)) (.ch 9 [] (.ch 7 [6] (.fl 8 (.ch 10 [0, 1, 2, 3, 4, 5, 6, 7, 8, 9] (.done) .no)) .no) .no)) (.ch 7 [6] (.ch 3 [2] (.fl 8 (.ch 9 [] (.ch 10 [0, 1, 2, 3, 4, 5, 6, 7, 8, 9] (.done) .no) .no)) (.ch 9 [] (.ch 3 [2] (.fl 8 (.ch 10 [0, 1, 2, 3, 4, 5, 6, 7, 8, 9] (.done) .no)) .no) .no)) (.ch 9 [] (.ch 3 [2] (.ch 7 [6] (.fl 8 (.ch 10 [0, 1, 2, 3, 4, 5, 6, 7, 8, 9] (.done) .no)) .no) (.ch 7 [6] (.ch 3 [2] (.fl 8 (.ch 10 [0, 1, 2, 3, 4, 5, 6, 7, 8, 9] (.done) .no)) .no) .no)) .no))))))))) (by kernel_rfl) ?_
  simp only [kJ1, bLookup, bMapSet, wantA, isCall, stepOp, evalO, evalL, evalP, evalM, putDst, flat, kA, kB, Nat.reduceLT, ↓reduceIte, kC, Nat.reduceEqDiff, aBuiltin, abinG, guardFree, abin, aInt, aUn, aNilCheck, retQ, retQ1, aresults, aresultL, aresult, mkF, undefV, reduceCtorEq, kD, kE, kF, kG, kH, kI, kJ, kK, aExtract, calleeOf, kD1, Nat.reduceBEq, HoldsAll, kL, kM, kN, kO, tf0, tf1, aadd, Nat.zero_add, D0.2.1, D0.2.2.1, (D1 _).2.1, (D1 _).2.2.1, (D2 _ _).2.1, (D2 _ _).2.2.1, (D3 _ _ _).2.1, (D3 _ _ _).2.2.1, lb, lc, mB, mC, alloc101, build101, next_alloc, P0, P1, P2]
  repeat' apply And.intro
  all_goals
   refine KN.gen2 fun fr' h' e1 e2 => cont fr' h' ?_
   subst e1 e2
   exact ⟨_, _, _, (by simp only [hasAll, kS1, bLookup, bMapSet, wantA, isCall, stepOp, evalO, evalL, evalP, evalM, putDst, flat, kA, kB, Nat.reduceLT, ↓reduceIte, kC, Nat.reduceEqDiff, aBuiltin, abinG, guardFree, abin, aInt, aUn, aNilCheck, retQ, retQ1, aresults, aresultL, aresult, mkF, undefV, reduceCtorEq, kD, kE, kF, kG, kH, kI, kJ, kK, aExtract, calleeOf]; simp), new3_of (h := h4) w4 (by omega) (by omega) (by omega) (by omega) (by omega) (by omega) (by first | exact al3_own.1 | exact al3_own.2.1 | exact al3_own.2.2) (by first | exact al3_own.1 | exact al3_own.2.1 | exact al3_own.2.2) (by first | exact al3_own.1 | exact al3_own.2.1 | exact al3_own.2.2)⟩
 rintro fr h5 ⟨LB, LC, P, hfr, N⟩
 simp only [hasAll] at hfr
 obtain ⟨f1, f2, f4, f5, -⟩ := hfr
 clear P0 P1 P2 mB mC D0 D1 D2 D3
 obtain ⟨b0, hb0⟩ : ∃ b0, b0 = (h5.kill LB).kill LC := ⟨_, rfl⟩
 have k0 : ∀ q, q ≠ LB → q ≠ LC → b0.own q = h5.own q := fun q q1 q2 => by rw [hb0, AHeap.own_kill_ne _ _ _ q2, AHeap.own_kill_ne _ _ _ q1]
 have bLB : b0.own LB = none := by rw [hb0, AHeap.own_kill_ne _ _ _ N.ab]; exact AHeap.own_kill_eq _ _
 have bLC : b0.own LC = none := by rw [hb0]; exact AHeap.own_kill_eq _ _
 have l0 : Le b0 h5 := by rw [hb0]; exact (Le.killed _ _).trans (Le.killed _ _)
 have l40 : Le h4 b0 := by rw [hb0]; exact (N.le.to_kill N.nA).to_kill N.nB
 have oP0 : b0.own P = some (.cells [.slice (some ⟨LB, 0, none⟩) b b, .slice (some ⟨LC, 0, none⟩) m m]) := by rw [k0 P N.ap.symm N.bp.symm]; exact N.oP
 have oR0 : b0.own R = some (.cells [.slice none 0 0, .slice none 0 0]) := l40.own _ _ o4
 have l30 := l4.trans l40
 have R0 : Rows2 b0 h5 LB (List.replicate b (.slice none 0 0)) (rowsB b (ls.take 0)) LC (List.replicate m (.slice none 0 0)) (rowsC m (ls.take 0)) := by
  have e1 : rowsB b (ls.take 0) = List.replicate b [] := rows_nil (f := rB) (fun _ => rfl) b
  have e2 : rowsC m (ls.take 0) = List.replicate m [] := rows_nil (f := rC) (fun _ => rfl) m
  have nil : ∀ (k v : Nat) u, (List.replicate k (Value.slice none 0 0))[v]? = some u → blk u = none := fun k v u hu => by rw [List.eq_of_mem_replicate (List.mem_of_getElem? hu)]; rfl
  rw [e1, e2]
  exact ⟨Rows.start N.oA l0 bLB, Rows.start N.oB l0 bLC, N.ab, fun v u hu => by rw [nil b v u hu]; simp, fun v u hu => by rw [nil m v u hu]; simp, fun v w u u' q hu _ hq => by rw [nil b v u hu] at hq; cases hq⟩
 have w5 := N.wf
 clear N hb0 k0
 have ldP : ∀ g, Le b0 g → aload Try.prog g 32 ⟨P, 0, none⟩ = some (.slice (some ⟨LB, 0, none⟩) b b) ∧ aload Try.prog g 32 ⟨P, 1, none⟩ = some (.slice (some ⟨LC, 0, none⟩) m m) := fun g l => ⟨by rw [aload_one Try.underlying32 rfl (l.own _ _ oP0)]; rfl, by rw [aload_one Try.underlying32 rfl (l.own _ _ oP0)]; rfl⟩
 have ixR : ∀ (L k : Nat) (kk : IntKind) (j : Nat), j < k → aIndexAddr Try.prog 32 (.slice (some ⟨L, 0, none⟩) k k) (.int kk j) = some (.pointer (some ⟨L, j, none⟩)) := fun L k kk j hj => by rw [aIdx Try.underlying32 Try.underlying38 (by kernel_rfl) j hj]; simp [aadd]
 have f50 := lA h5 (l30.trans l0)
 simp only [kS1, bLookup, bMapSet, wantA, isCall, stepOp, evalO, evalL, evalP, evalM, putDst, flat, kA, kB, Nat.reduceLT, ↓reduceIte, kC, Nat.reduceEqDiff, aBuiltin, abinG, guardFree, abin, aInt, aUn, aNilCheck, retQ, retQ1, aresults, aresultL, aresult, mkF, undefV, reduceCtorEq, kD, kE, kF, kG, kH, kI, kJ, kK, aExtract, calleeOf, f1, f2, f4, f5, tf2, aadd, Nat.zero_add, f50.2.2.2, ll]
 have nR3' := nR
 refine KLoop.intro (fun k fr hq => ∃ (i : Nat) (us us2 : List Value), k = ls.length - i ∧ i ≤ ls.length ∧ fr = mkF [(1, .pointer (some ⟨B, 0, none⟩)), (2, .pointer (some ⟨R, 0, none⟩)), (4, .int .i64 n), (5, .pointer (some ⟨P, 0, none⟩)), (45, lv), (46, .int .i64 ls.length), (47, .int .i64 i)] ∧
   Rows2 b0 hq LB us (rowsB b (ls.take i)) LC us2 (rowsC m (ls.take i)) ∧ (∀ p ∈ ls.take i, LinkOK b n p))
  ls.length [(1, .pointer (some ⟨B, 0, none⟩)), (2, .pointer (some ⟨R, 0, none⟩)), (4, .int .i64 n), (5, .pointer (some ⟨P, 0, none⟩)), (45, lv), (46, .int .i64 ls.length), (47, .int .i64 (0 : Nat))] (by simp only [hasAll, kS1, bLookup, bMapSet, wantA, isCall, stepOp, evalO, evalL, evalP, evalM, putDst, flat, kA, kB, Nat.reduceLT, ↓reduceIte, kC, Nat.reduceEqDiff, aBuiltin, abinG, guardFree, abin, aInt, aUn, aNilCheck, retQ, retQ1, aresults, aresultL, aresult, mkF, undefV, reduceCtorEq, kD, kE, kF, kG, kH, kI, kJ, kK, aExtract, calleeOf, f1, f2, f4, f5]; simp [f1, f2, f4, f5])
  ⟨0, _, _, rfl, Nat.zero_le _, rfl, R0, by simp⟩ ?_
 clear f1 f2 f4 f5 f50 R0 w5 l0
 clear fr h5
 rintro k fr hq hwq ⟨i, us, us2, rfl, hi, rfl, Rr, hok⟩
 have leq := Rr.a.le
 simp only [kS1, bLookup, bMapSet, wantA, isCall, stepOp, evalO, evalL, evalP, evalM, putDst, flat, kA, kB, Nat.reduceLT, ↓reduceIte, kC, Nat.reduceEqDiff, aBuiltin, abinG, guardFree, abin, aInt, aUn, aNilCheck, retQ, retQ1, aresults, aresultL, aresult, mkF, undefV, reduceCtorEq, kD, kE, kF, kG, kH, kI, kJ, kK, aExtract, calleeOf]
 refine KCond.intro (fun ht => ?_) (fun hf => ?_)
 ·have hlt : i < ls.length := lt_t ht
  clear ht
  have hws := wrapS hlt hll
  have hls := sub_step hlt
  have hpi := getElem?_of hlt
  have htk : ls.take (i + 1) = ls.take i ++ [ls[i]] := List.take_succ_eq_append_getElem hlt
  have hpm := List.getElem_mem hlt
  have htl : (ls.take i).length ≤ 1000 := by rw [List.length_take]; omega
  generalize ls[i] = p at *
  have ad := hl.addr (k := .i64) i hlt
  have ld := (hl.le (l3.trans (l30.trans leq))).load hpi
  obtain ⟨h7', h7, e7, e7s, l7, w7, o7⟩ := new42 hwq p
  have nE : hq.own hq.next = none := (Le.refl hq).next hwq (Nat.le_refl _)
  have nEL : hq.next ≠ LB := fun e => by have := Rr.a.oL; rw [← e, nE] at this; cases this
  have nEL2 : hq.next ≠ LC := fun e => by have := Rr.b.oL; rw [← e, nE] at this; cases this
  have nEu : ∀ (v : Nat) u, us[v]? = some u → blk u ≠ some hq.next := fun v u hu hb => by obtain ⟨o, ho⟩ := Rr.a.owned hu hb; rw [nE] at ho; cases ho
  have nEu2 : ∀ (v : Nat) u, us2[v]? = some u → blk u ≠ some hq.next := fun v u hu hb => by obtain ⟨o, ho⟩ := Rr.b.owned hu hb; rw [nE] at ho; cases ho
  generalize hq.next = E at *
  have m0 := own0 o7
  have m1 := own1 o7
  have R7 := Rr.up l7
  have le7 := leq.trans l7
  have f7 := lA h7 (l30.trans le7)
  have oR7 := le7.own _ _ oR0
  have bad : ¬ LinkOK b n p → ¬ Lk b n ls := fun hno G => hno (G.ok p hpm)
  have out : Le h (h7.put R (.cells [.slice none 0 0, .slice none 0 0])) := (l3.trans (l30.trans le7)).put _ nR
  simp only [kS1, bLookup, bMapSet, wantA, isCall, stepOp, evalO, evalL, evalP, evalM, putDst, flat, kA, kB, Nat.reduceLT, ↓reduceIte, kC, Nat.reduceEqDiff, aBuiltin, abinG, guardFree, abin, aInt, aUn, aNilCheck, retQ, retQ1, aresults, aresultL, aresult, mkF, undefV, reduceCtorEq, kD, kE, kF, kG, kH, kI, kJ, kK, aExtract, calleeOf, ad, ld, e7, e7s]
  refine KDraw.intro mixed (.fl 0 (.fl 1 (.fl 2 (.fl 3 (.fl 4 (.fl 5 (.done))))))) (by kernel_rfl) ?_
  simp only [kS1, bLookup, bMapSet, wantA, isCall, stepOp, evalO, evalL, evalP, evalM, putDst, flat, kA, kB, Nat.reduceLT, ↓reduceIte, kC, Nat.reduceEqDiff, aBuiltin, abinG, guardFree, abin, aInt, aUn, aNilCheck, retQ, retQ1, aresults, aresultL, aresult, mkF, undefV, reduceCtorEq, kD, kE, kF, kG, kH, kI, kJ, kK, aExtract, calleeOf, kD1, Nat.reduceBEq, HoldsAll, kL, kM, kN, kO, pa0, pa1, aadd, Nat.zero_add, m0, m1]
  by_cases q1 : p.1 < 0
  ·have d : decide (p.1 < 0) = true := decide_eq_true q1
   simp only [kS1, bLookup, bMapSet, wantA, isCall, stepOp, evalO, evalL, evalP, evalM, putDst, flat, kA, kB, Nat.reduceLT, ↓reduceIte, kC, Nat.reduceEqDiff, aBuiltin, abinG, guardFree, abin, aInt, aUn, aNilCheck, retQ, retQ1, aresults, aresultL, aresult, mkF, undefV, reduceCtorEq, kD, kE, kF, kG, kH, kI, kJ, kK, aExtract, calleeOf, d, build101e, stE h7 oR7, ldR h7 _ _ sN' sN']
   exact ⟨out, .inl ⟨bad fun L => by have := L.x0; omega, _, _, rfl, sN, sN⟩⟩
  have dq1 : decide (p.1 < 0) = false := decide_eq_false q1
  by_cases q2 : p.1 ≥ (b : Int)
  ·have d : decide (p.1 ≥ (b : Int)) = true := decide_eq_true q2
   simp only [kS1, bLookup, bMapSet, wantA, isCall, stepOp, evalO, evalL, evalP, evalM, putDst, flat, kA, kB, Nat.reduceLT, ↓reduceIte, kC, Nat.reduceEqDiff, aBuiltin, abinG, guardFree, abin, aInt, aUn, aNilCheck, retQ, retQ1, aresults, aresultL, aresult, mkF, undefV, reduceCtorEq, kD, kE, kF, kG, kH, kI, kJ, kK, aExtract, calleeOf, dq1, tf0, aadd, Nat.zero_add, f7.2.1, lb, d, build101e, stE h7 oR7, ldR h7 _ _ sN' sN']
   exact ⟨out, .inl ⟨bad fun L => by have := L.x1; omega, _, _, rfl, sN, sN⟩⟩
  have dq2 : decide (p.1 ≥ (b : Int)) = false := decide_eq_false q2
  by_cases q3 : p.2 < 0
  ·have d : decide (p.2 < 0) = true := decide_eq_true q3
   simp only [kS1, bLookup, bMapSet, wantA, isCall, stepOp, evalO, evalL, evalP, evalM, putDst, flat, kA, kB, Nat.reduceLT, ↓reduceIte, kC, Nat.reduceEqDiff, aBuiltin, abinG, guardFree, abin, aInt, aUn, aNilCheck, retQ, retQ1, aresults, aresultL, aresult, mkF, undefV, reduceCtorEq, kD, kE, kF, kG, kH, kI, kJ, kK, aExtract, calleeOf, dq1, tf0, aadd, Nat.zero_add, f7.2.1, lb, dq2, d, build101e, stE h7 oR7, ldR h7 _ _ sN' sN']
   exact ⟨out, .inl ⟨bad fun L => by have := L.y0; omega, _, _, rfl, sN, sN⟩⟩
  have dq3 : decide (p.2 < 0) = false := decide_eq_false q3
  by_cases q4 : p.2 ≥ (m : Int)
  ·have d : decide (p.2 ≥ (m : Int)) = true := decide_eq_true q4
   simp only [kS1, bLookup, bMapSet, wantA, isCall, stepOp, evalO, evalL, evalP, evalM, putDst, flat, kA, kB, Nat.reduceLT, ↓reduceIte, kC, Nat.reduceEqDiff, aBuiltin, abinG, guardFree, abin, aInt, aUn, aNilCheck, retQ, retQ1, aresults, aresultL, aresult, mkF, undefV, reduceCtorEq, kD, kE, kF, kG, kH, kI, kJ, kK, aExtract, calleeOf, dq1, tf0, tf1, aadd, Nat.zero_add, f7.2.1, f7.2.2.1, lb, lc, dq2, dq3, d, build101e, stE h7 oR7, ldR h7 _ _ sN' sN']
   exact ⟨out, .inl ⟨bad fun L => by have := L.y1; omega, _, _, rfl, sN, sN⟩⟩
  have dq4 : decide (p.2 ≥ (m : Int)) = false := decide_eq_false q4
  simp only [kS1, bLookup, bMapSet, wantA, isCall, stepOp, evalO, evalL, evalP, evalM, putDst, flat, kA, kB, Nat.reduceLT, ↓reduceIte, kC, Nat.reduceEqDiff, aBuiltin, abinG, guardFree, abin, aInt, aUn, aNilCheck, retQ, retQ1, aresults, aresultL, aresult, mkF, undefV, reduceCtorEq, kD, kE, kF, kG, kH, kI, kJ, kK, aExtract, calleeOf, dq1, tf0, tf1, aadd, Nat.zero_add, f7.2.1, f7.2.2.1, lb, lc, dq2, dq3, dq4]
  have hLp : LinkOK b n p := ⟨by omega, by omega, by omega, by omega⟩
  obtain ⟨x, ex⟩ := Int.eq_ofNat_of_zero_le hLp.x0
  obtain ⟨y, ey⟩ := Int.eq_ofNat_of_zero_le hLp.y0
  have hxb : x < b := by omega
  have hym : y < m := by omega
  rw [ex, ey]
  -- the block's row
  obtain ⟨u, u', g4, g5, g6, hu, k4, k5, k6, lg4, lg5, og4, og5, R6, w6, keep⟩ := R7.push w7 (rowsB_get (ls.take i) hxb) (y : Int) (by have := rB_len (ls.take i) x; omega)
  obtain ⟨oE4, oE5, oE6, nEu6⟩ := keep E _ o7 nEL nEu
  have lu7 : aload Try.prog h7 38 ⟨LB, x, none⟩ = some u := by rw [aload_one Try.underlying38 rfl R7.a.oL]; exact hu
  have lu4 : aload Try.prog g4 38 ⟨LB, x, none⟩ = some u := by rw [aload_one Try.underlying38 rfl og4]; exact hu
  have lu5 : aload Try.prog g5 38 ⟨LB, x, none⟩ = some u := by rw [aload_one Try.underlying38 rfl og5]; exact hu
  have P7 := ldP h7 le7
  have P4 := ldP g4 (le7.trans lg4)
  have P5 := ldP g5 lg5
  have P6 := ldP g6 R6.a.le
  refine KDraw.intro mixed (.fl 0 (.fl 1 (.fl 2 (.fl 3 (.fl 4 (.fl 5 (.fl 6 (.fl 7 (.fl 8 (.ch 9 [8] (.ch 10 [7, 9] (.fl 11 (.ch 12 [0, 1, 2, 3, 4, 5, 6, 7, 8, 9, 10, 11] (.done) .no)) .no) .no)))))))))) (by kernel_rfl) ?_
  simp only [kS1, bLookup, bMapSet, wantA, isCall, stepOp, evalO, evalL, evalP, evalM, putDst, flat, kA, kB, Nat.reduceLT, ↓reduceIte, kC, Nat.reduceEqDiff, aBuiltin, abinG, guardFree, abin, aInt, aUn, aNilCheck, retQ, retQ1, aresults, aresultL, aresult, mkF, undefV, reduceCtorEq, kD, kE, kF, kG, kH, kI, kJ, kK, aExtract, calleeOf, kD1, Nat.reduceBEq, HoldsAll, kL, kM, kN, kO, (ix101 _).1, (ix101 _).2, aadd, Nat.zero_add, P7.1, P4.1, P5.1, P6.1, ixR LB b _ x hxb, lu7, lu4, lu5, k4, k5, k6]
  -- the cut vertex's row
  obtain ⟨u2, u2', g8, g9, g10, hu2, k8, k9, k10, lg8, lg9, og8, og9, R10, w10, keep2⟩ := R6.swap.push w6 (rowsC_get (ls.take i) hym) (x : Int) (by have := rC_len (ls.take i) y; omega)
  have lv6 : aload Try.prog g6 38 ⟨LC, y, none⟩ = some u2 := by rw [aload_one Try.underlying38 rfl R6.b.oL]; exact hu2
  have lv8 : aload Try.prog g8 38 ⟨LC, y, none⟩ = some u2 := by rw [aload_one Try.underlying38 rfl og8]; exact hu2
  have lv9 : aload Try.prog g9 38 ⟨LC, y, none⟩ = some u2 := by rw [aload_one Try.underlying38 rfl og9]; exact hu2
  have P8 := ldP g8 (R6.a.le.trans lg8)
  have P9 := ldP g9 lg9
  have P10 := ldP g10 R10.a.le
  refine KDraw.intro mixed (.fl 0 (.fl 1 (.fl 2 (.fl 3 (.fl 4 (.fl 5 (.fl 6 (.fl 7 (.fl 8 (.ch 9 [8] (.ch 10 [7, 9] (.fl 11 (.ch 12 [0, 1, 2, 3, 4, 5, 6, 7, 8, 9, 10, 11] (.done) .no)) .no) .no)))))))))) (by kernel_rfl) ?_
  simp only [kS1, bLookup, bMapSet, wantA, isCall, stepOp, evalO, evalL, evalP, evalM, putDst, flat, kA, kB, Nat.reduceLT, ↓reduceIte, kC, Nat.reduceEqDiff, aBuiltin, abinG, guardFree, abin, aInt, aUn, aNilCheck, retQ, retQ1, aresults, aresultL, aresult, mkF, undefV, reduceCtorEq, kD, kE, kF, kG, kH, kI, kJ, kK, aExtract, calleeOf, kD1, Nat.reduceBEq, HoldsAll, kL, kM, kN, kO, (ix101 _).1, (ix101 _).2, aadd, Nat.zero_add, P6.2, P8.2, P9.2, P10.2, ixR LC m _ y hym, lv6, lv8, lv9, k8, k9, k10, hws]
  refine loop_again (ls.length - (i + 1)) [(1, .pointer (some ⟨B, 0, none⟩)), (2, .pointer (some ⟨R, 0, none⟩)), (4, .int .i64 n), (5, .pointer (some ⟨P, 0, none⟩)), (45, lv), (46, .int .i64 ls.length), (47, .int .i64 (i + 1 : Nat))] hls (by simp only [hasAll, kS1, bLookup, bMapSet, wantA, isCall, stepOp, evalO, evalL, evalP, evalM, putDst, flat, kA, kB, Nat.reduceLT, ↓reduceIte, kC, Nat.reduceEqDiff, aBuiltin, abinG, guardFree, abin, aInt, aUn, aNilCheck, retQ, retQ1, aresults, aresultL, aresult, mkF, undefV, reduceCtorEq, kD, kE, kF, kG, kH, kI, kJ, kK, aExtract, calleeOf]; simp)
   ⟨i + 1, us.set x u', us2.set y u2', rfl, hlt, rfl, ?_, fun q hq' => ?_⟩
  ·have e1 := rowsB_snoc (ls := ls.take i) hxb ex
   have e2 := rowsC_snoc (ls := ls.take i) hym ey
   rw [ey] at e1
   rw [ex] at e2
   rw [htk, e1, e2]
   exact R10.swap
  ·rw [htk, List.mem_append] at hq'
   rcases hq' with hq' | hq'
   ·exact hok q hq'
   ·simp at hq'; subst hq'; exact hLp
 have hge : ls.length ≤ i := lt_f hf
 rw [List.take_of_length_le hge] at hok Rr
 clear hge hf hi
 have rl1 : RL isG hq (.slice (some ⟨LB, 0, none⟩) b b) (rowsB b ls) := Rr.a.rlG (by rw [Rr.a.len, rowsB_length])
 have rk1 : RL isG (hq.kill R) (.slice (some ⟨LB, 0, none⟩) b b) (rowsB b ls) := (Rr.a.kill (by rw [oR0]; simp)).rlG (by rw [Rr.a.len, rowsB_length])
 have rk2 : RL isG (hq.kill R) (.slice (some ⟨LC, 0, none⟩) m m) (rowsC m ls) := (Rr.b.kill (by rw [oR0]; simp)).rlG (by rw [Rr.b.len, rowsC_length])
 have rl2 : RL isG hq (.slice (some ⟨LC, 0, none⟩) m m) (rowsC m ls) := Rr.b.rlG (by rw [Rr.b.len, rowsC_length])
 have ldP2 : ∀ g, Le hq g → aload Try.prog g 32 ⟨P, 0, none⟩ = some (.slice (some ⟨LB, 0, none⟩) b b) ∧ aload Try.prog g 32 ⟨P, 1, none⟩ = some (.slice (some ⟨LC, 0, none⟩) m m) := fun g l => ldP g (leq.trans l)
 have oPq := leq.own _ _ oP0
 have oRq := leq.own _ _ oR0
 have lAq := fun g l => lA g ((l30.trans leq).trans l)
 have lhq : Le h hq := l3.trans (l30.trans leq)
 clear ldP Rr oP0 oR0 bLB bLC l30 leq l40 lA
 -- the search
 have gq := lAq hq (Le.refl _)
 have D0 := gq
 have D1 := fun o : AObj => lAq (hq.alloc o) ((Le.refl hq).alloc hwq _)
 have D2 := fun o o' : AObj => lAq ((hq.alloc o).alloc o') (((Le.refl hq).alloc hwq _).alloc (hwq.alloc _) _)
 have D3 := fun o o' o2 : AObj => lAq (((hq.alloc o).alloc o').alloc o2) ((((Le.refl hq).alloc hwq _).alloc (hwq.alloc _) _).alloc ((hwq.alloc _).alloc _) _)
 have mB := fun g : AHeap => mk100 g b hb1
 have mC := fun g : AHeap => mk100 g m hm1
 have P0 := fun c d x y => (st3 Try.underlying158 ts127 (h := hq) c d x y b m).1
 have P1 := fun c d x y => (st3 Try.underlying158 ts127 (h := hq) c d x y b m).2.1
 have P2 := fun c d x y => (st3 Try.underlying158 ts127 (h := hq) c d x y b m).2.2
 simp only [al3] at P0 P1 P2
 simp only [kS1, bLookup, bMapSet, wantA, isCall, stepOp, evalO, evalL, evalP, evalM, putDst, flat, kA, kB, Nat.reduceLT, ↓reduceIte, kC, Nat.reduceEqDiff, aBuiltin, abinG, guardFree, abin, aInt, aUn, aNilCheck, retQ, retQ1, aresults, aresultL, aresult, mkF, undefV, reduceCtorEq, kD, kE, kF, kG, kH, kI, kJ, kK, aExtract, calleeOf]
 apply byOne2 (F := fun (fr : AFrame) (h' : AHeap) => ∃ MB MC Q, hasAll fr [(1, .pointer (some ⟨B, 0, none⟩)), (2, .pointer (some ⟨R, 0, none⟩)), (4, .int .i64 n), (5, .pointer (some ⟨P, 0, none⟩)), (10, .pointer (some ⟨Q, 0, none⟩))] ∧
  New3 hq h' MB MC Q (List.replicate b (.bool false)) (List.replicate m (.bool false)) [.slice (some ⟨MB, 0, none⟩) b b, .slice (some ⟨MC, 0, none⟩) m m])
 ·intro cont
  refine KDraw.intro mixed (.fl 0 (.fl 1 (.fl 2 (.fl 4 (.fl 5 (.fl 6 (.ch 3 [2] (.ch 7 [6] (.fl 8 (.ch 9 [] (.ch 10 [0, 1, 2, 3, 4, 5, 6, 7, 8, 9] (.done) .no) .no)) (.ch 9 [] (.ch 7 [6] (.fl 8 (.ch 10 [0, 1, 2, 3, 4, 5, 6, 7, 8, 9] (.done) .no)) .no) .no)) (.ch 7 [6] (.ch 3 [2] (.fl 8 (.ch 9 [] (.ch 10 [0, 1, 2, 3, 4, 5, 6, 7, 8, 9] (.done) .no) .no)) (.ch 9 [] (.ch 3 [2] (.fl 8 (.ch 10 [0, 1, 2, 3, 4, 5, 6, 7, 8, 9] (.done) .no)) .no) .no)) (.ch 9 [] (.ch 3 [2] (.ch 7 [6] (.fl 8 (.ch 10 [0, 1, 2, 3, 4, 5, 6, 7, 8, 9] (.done) .no)) .no) (.ch 7 [6] (.ch 3 [2] (.fl 8 (.ch 10 [0, 1, 2, 3, 4, 5, 6, 7, 8, 9] (.done) .no)) .no) .no)) .no))))))))) (by kernel_rfl) ?_
  simp only [kJ1, bLookup, bMapSet, wantA, isCall, stepOp, evalO, evalL, evalP, evalM, putDst, flat, kA, kB, Nat.reduceLT, ↓reduceIte, kC, Nat.reduceEqDiff, aBuiltin, abinG, guardFree, abin, aInt, aUn, aNilCheck, retQ, retQ1, aresults, aresultL, aresult, mkF, undefV, reduceCtorEq, kD, kE, kF, kG, kH, kI, kJ, kK, aExtract, calleeOf, kD1, Nat.reduceBEq, HoldsAll, kL, kM, kN, kO, tf0, tf1, aadd, Nat.zero_add, D0.2.1, D0.2.2.1, (D1 _).2.1, (D1 _).2.2.1, (D2 _ _).2.1, (D2 _ _).2.2.1, (D3 _ _ _).2.1, (D3 _ _ _).2.2.1, lb, lc, mB, mC, alloc127, build127, next_alloc, P0, P1, P2]
  repeat' apply And.intro
  all_goals
   refine KN.gen2 fun fr' h' e1 e2 => cont fr' h' ?_
   subst e1 e2
   exact ⟨_, _, _, (by simp only [hasAll, kS1, bLookup, bMapSet, wantA, isCall, stepOp, evalO, evalL, evalP, evalM, putDst, flat, kA, kB, Nat.reduceLT, ↓reduceIte, kC, Nat.reduceEqDiff, aBuiltin, abinG, guardFree, abin, aInt, aUn, aNilCheck, retQ, retQ1, aresults, aresultL, aresult, mkF, undefV, reduceCtorEq, kD, kE, kF, kG, kH, kI, kJ, kK, aExtract, calleeOf]; simp), new3_of (h := hq) hwq (by omega) (by omega) (by omega) (by omega) (by omega) (by omega) (by first | exact al3_own.1 | exact al3_own.2.1 | exact al3_own.2.2) (by first | exact al3_own.1 | exact al3_own.2.1 | exact al3_own.2.2) (by first | exact al3_own.1 | exact al3_own.2.1 | exact al3_own.2.2)⟩
 rintro fr h5 ⟨MB, MC, Q, hfr, N⟩
 simp only [hasAll] at hfr
 obtain ⟨f1, f2, f4, f5, f10, -⟩ := hfr
 clear P0 P1 P2 mB mC D0 D1 D2 D3
 have w5 := N.wf
 have l5 := N.le
 have nMB := N.nA
 have nMC := N.nB
 have nQ := N.nP
 have ab := N.ab
 have ap := N.ap
 have bp := N.bp
 have oMB : h5.own MB = some (.cells (Bo (List.replicate b false))) := by rw [N.oA]; simp [Bo]
 have oMC : h5.own MC = some (.cells (Bo (List.replicate m false))) := by rw [N.oB]; simp [Bo]
 have oQ := N.oP
 clear N
 have nbE : nodeP b 0 = if b = 0 then (1, 0) else (0, 0) := by
  unfold nodeP
  by_cases e : b = 0
  ·rw [if_neg (by omega), if_pos e]; simp
  ·rw [if_pos (by omega), if_neg e]; rfl
 obtain ⟨h6', h6, e6, e6s, l6, w6, o6⟩ := new107 w5 (0, 0)
 have nF : h5.own h5.next = none := (Le.refl h5).next w5 (Nat.le_refl _)
 generalize h5.next = F at *
 have oQ6 := l6.own _ _ oQ
 have oMB6 := l6.own _ _ oMB
 have oMC6 := l6.own _ _ oMC
 have f6 := lAq h6 (l5.trans l6)
 have neFQ : F ≠ Q := fun e => by rw [e, oQ] at nF; cases nF
 have neFB : F ≠ MB := fun e => by rw [e, oMB] at nF; cases nF
 have neFC : F ≠ MC := fun e => by rw [e, oMC] at nF; cases nF
 have ixM : ∀ (M k : Nat) (kk : IntKind) (j : Nat), j < k → aIndexAddr Try.prog 25 (.slice (some ⟨M, 0, none⟩) k k) (.int kk j) = some (.pointer (some ⟨M, j, none⟩)) := fun M k kk j hj => by rw [aIdx Try.underlying25 Try.underlying4 (by kernel_rfl) j hj]; simp [aadd]
 have ldQ : ∀ g : AHeap, g.own Q = some (.cells [.slice (some ⟨MB, 0, none⟩) b b, .slice (some ⟨MC, 0, none⟩) m m]) → aload Try.prog g 25 ⟨Q, 0, none⟩ = some (.slice (some ⟨MB, 0, none⟩) b b) ∧ aload Try.prog g 25 ⟨Q, 1, none⟩ = some (.slice (some ⟨MC, 0, none⟩) m m) := fun g o => ⟨by rw [aload_one Try.underlying25 rfl o]; rfl, by rw [aload_one Try.underlying25 rfl o]; rfl⟩
 have stM : ∀ (g : AHeap) (M : Nat) (l : List Bool) (j : Nat), g.own M = some (.cells (Bo l)) → j < l.length → aStore Try.prog g 4 (.pointer (some ⟨M, j, none⟩)) (.bool true) = some (g.put M (.cells (Bo (l.set j true)))) := fun g M l j o hj => by
  have := aStore1 (P := Try.prog) (t := 4) (x := .bool true) Try.underlying4 (by kernel_rfl) o (off := j) (by simpa [Bo] using hj) rfl rfl
  rw [this, Bo_set]
 have ldM : ∀ (g : AHeap) (M : Nat) (l : List Bool) (j : Nat), g.own M = some (.cells (Bo l)) → j < l.length → aload Try.prog g 4 ⟨M, j, none⟩ = some (.bool (l.getD j false)) := fun g M l j o hj => by
  rw [aload_one Try.underlying4 rfl o, getD_of hj]; simp [Bo, hj]
 have hnn : 0 < n := by omega
 have b107 : aBuild Try.prog 129 [(0, .int .i64 0), (1, .int .i64 0)] = some (valP (0, 0)) := build107 0 0
 have b107' : aBuild Try.prog 129 [(0, .int .i64 1), (1, .int .i64 0)] = some (valP (1, 0)) := build107 1 0
 -- the first one
 apply byOne2 (F := fun (fr : AFrame) (h' : AHeap) => ∃ rv mB mC, hasAll fr [(2, .pointer (some ⟨R, 0, none⟩)), (4, .int .i64 n), (5, .pointer (some ⟨P, 0, none⟩)), (10, .pointer (some ⟨Q, 0, none⟩)), (12, rv), (13, .int .i64 (0 : Nat))] ∧
  WF h' ∧ Le hq h' ∧ h'.own Q = some (.cells [.slice (some ⟨MB, 0, none⟩) b b, .slice (some ⟨MC, 0, none⟩) m m]) ∧ h'.own MB = some (.cells (Bo mB)) ∧ h'.own MC = some (.cells (Bo mC)) ∧ GP h' rv ([0].map (nodeP b)) ∧ Apart hq rv ∧ blk rv ≠ some Q ∧ blk rv ≠ some MB ∧ blk rv ≠ some MC ∧ BfsI b m n (edgesU b ls) [0] mB mC)
 ·intro cont
  by_cases e : b = 0
  ·have dd : decide ((b : Int) = 0) = true := decide_eq_true (by omega)
   have st := store107 (p := (1, 0)) (x := .int .i64 0) (y := .int .i64 0) o6
   have o7 := AHeap.own_put_eq h6 F (.cells (cellsP (1, 0)))
   have w7 := w6.put (.cells (cellsP (1, 0))) (w6.lt o6)
   have keep : ∀ q o, h6.own q = some o → q ≠ F → (h6.put F (.cells (cellsP (1, 0)))).own q = some o := fun q o h1 h2 => by rw [AHeap.own_put_ne _ _ _ _ h2]; exact h1
   have oQ7 := keep Q _ oQ6 neFQ.symm
   have oMB7 := keep MB _ oMB6 neFB.symm
   have oMC7 := keep MC _ oMC6 neFC.symm
   have l7 : Le hq (h6.put F (.cells (cellsP (1, 0)))) := (l5.trans l6).put _ (l5.none nF)
   have hm0 : 0 < m := by omega
   have sM := stM _ MC _ 0 oMC7 (by simpa using hm0)
   have lf0 := own0 o7
   have i0 := ixM MC m .i64 0 hm0
   simp only [kS1, bLookup, bMapSet, wantA, isCall, stepOp, evalO, evalL, evalP, evalM, putDst, flat, kA, kB, Nat.reduceLT, ↓reduceIte, kC, Nat.reduceEqDiff, aBuiltin, abinG, guardFree, abin, aInt, aUn, aNilCheck, retQ, retQ1, aresults, aresultL, aresult, mkF, undefV, reduceCtorEq, kD, kE, kF, kG, kH, kI, kJ, kK, aExtract, calleeOf, f1, f2, f4, f5, f10, b107, b107', e6, e6s, tf0, aadd, Nat.zero_add, f6.2.1, lb, dd, st]
   generalize hh7 : h6.put F (.cells (cellsP (1, 0))) = h7 at *
   obtain ⟨g8, w8⟩ : ∃ g, g = h7.put MC (.cells (Bo ((List.replicate m false).set 0 true))) := ⟨_, rfl⟩
   have wf8 : WF g8 := by rw [w8]; exact w7.put _ (w7.lt oMC7)
   have keep8 : ∀ q o, h7.own q = some o → q ≠ MC → g8.own q = some o := fun q o h1 h2 => by rw [w8, AHeap.own_put_ne _ _ _ _ h2]; exact h1
   have o8 := keep8 F _ o7 neFC
   have lp8 := load107 o8
   obtain ⟨h9, e9, l9, w9, o9⟩ := alloc_f wf8 (cellsP (1, 0))
   have mk := mk105 g8 (1, 0)
   rw [e9] at mk
   have nG : g8.own g8.next = none := (Le.refl g8).next wf8 (Nat.le_refl _)
   have l8 : Le hq g8 := by rw [w8]; exact l7.put _ nMC
   have i0' : aIndexAddr Try.prog 25 (.slice (some ⟨MC, 0, none⟩) m m) (.int .i64 0) = some (.pointer (some ⟨MC, 0, none⟩)) := i0
   simp only [kS1, bLookup, bMapSet, wantA, isCall, stepOp, evalO, evalL, evalP, evalM, putDst, flat, kA, kB, Nat.reduceLT, ↓reduceIte, kC, Nat.reduceEqDiff, aBuiltin, abinG, guardFree, abin, aInt, aUn, aNilCheck, retQ, retQ1, aresults, aresultL, aresult, mkF, undefV, reduceCtorEq, kD, kE, kF, kG, kH, kI, kJ, kK, aExtract, calleeOf, f1, f2, f4, f5, f10, nf0, nf1, aadd, Nat.zero_add, lf0, (ix127 _).2, (ldQ h7 oQ7).2, i0', sM, ← w8, lp8, mk]
   refine KLoop.gen2 fun fr' h' e1 e2 => cont fr' h' ?_
   subst e1 e2
   have oQ8 := keep8 Q _ oQ7 bp.symm
   have oMB8 := keep8 MB _ oMB7 ab
   have oMC8 : g8.own MC = some (.cells (Bo ((List.replicate m false).set 0 true))) := by rw [w8]; exact AHeap.own_put_eq _ _ _
   have ne : ∀ q o, g8.own q = some o → blk (.slice (some ⟨g8.next, 0, none⟩) 1 1) ≠ some q := fun q o h1 h2 => by injection h2 with h2; subst h2; rw [nG] at h1; cases h1
   refine ⟨.slice (some ⟨g8.next, 0, none⟩) 1 1, _, _, by simp only [hasAll, kS1, bLookup, bMapSet, wantA, isCall, stepOp, evalO, evalL, evalP, evalM, putDst, flat, kA, kB, Nat.reduceLT, ↓reduceIte, kC, Nat.reduceEqDiff, aBuiltin, abinG, guardFree, abin, aInt, aUn, aNilCheck, retQ, retQ1, aresults, aresultL, aresult, mkF, undefV, reduceCtorEq, kD, kE, kF, kG, kH, kI, kJ, kK, aExtract, calleeOf, f2, f4, f5, f10]; simp [f2, f4, f5, f10], w9, l8.trans l9, l9.own _ _ oQ8, l9.own _ _ oMB8, l9.own _ _ oMC8, ?_, fun q hq' => ?_, ne Q _ oQ8, ne MB _ oMB8, ne MC _ oMC8, ?_⟩
   ·have hnp : [0].map (nodeP b) = [(1, 0)] := by rw [List.map_cons, List.map_nil, nbE, if_pos e]
    rw [hnp]; exact GS.full o9 rfl (by decide)
   ·injection hq' with hq'; subst hq'; exact l8.none nG
   ·refine ⟨by simp, by simp, fun v hv => by omega, fun v hv => ?_, by simp, fun v hv => by simp at hv; omega, fun v hv => by simp at hv; subst hv; exact Con.refl _ _, by simp⟩
    rw [getD_setB _ _ _ (by simpa using hm0)]
    simp [hv]; omega
  ·have dd : decide ((b : Int) = 0) = false := decide_eq_false (by omega)
   have hb0 : 0 < b := by omega
   have sM := stM _ MB _ 0 oMB6 (by simpa using hb0)
   have lf0 := own0 o6
   have i0' : aIndexAddr Try.prog 25 (.slice (some ⟨MB, 0, none⟩) b b) (.int .i64 0) = some (.pointer (some ⟨MB, 0, none⟩)) := ixM MB b .i64 0 hb0
   obtain ⟨g8, w8⟩ : ∃ g, g = h6.put MB (.cells (Bo ((List.replicate b false).set 0 true))) := ⟨_, rfl⟩
   have wf8 : WF g8 := by rw [w8]; exact w6.put _ (w6.lt oMB6)
   have keep8 : ∀ q o, h6.own q = some o → q ≠ MB → g8.own q = some o := fun q o h1 h2 => by rw [w8, AHeap.own_put_ne _ _ _ _ h2]; exact h1
   have o8 := keep8 F _ o6 neFB
   have lp8 := load107 o8
   obtain ⟨h9, e9, l9, w9, o9⟩ := alloc_f wf8 (cellsP (0, 0))
   have mk := mk105 g8 (0, 0)
   rw [e9] at mk
   have nG : g8.own g8.next = none := (Le.refl g8).next wf8 (Nat.le_refl _)
   have l8 : Le hq g8 := by rw [w8]; exact (l5.trans l6).put _ nMB
   simp only [kS1, bLookup, bMapSet, wantA, isCall, stepOp, evalO, evalL, evalP, evalM, putDst, flat, kA, kB, Nat.reduceLT, ↓reduceIte, kC, Nat.reduceEqDiff, aBuiltin, abinG, guardFree, abin, aInt, aUn, aNilCheck, retQ, retQ1, aresults, aresultL, aresult, mkF, undefV, reduceCtorEq, kD, kE, kF, kG, kH, kI, kJ, kK, aExtract, calleeOf, f1, f2, f4, f5, f10, b107, e6, e6s, tf0, nf0, nf1, aadd, Nat.zero_add, f6.2.1, lb, dd, lf0, (ix127 _).1, (ldQ h6 oQ6).1, i0', sM, ← w8, lp8, mk]
   refine KLoop.gen2 fun fr' h' e1 e2 => cont fr' h' ?_
   subst e1 e2
   have oQ8 := keep8 Q _ oQ6 ap.symm
   have oMC8 := keep8 MC _ oMC6 ab.symm
   have oMB8 : g8.own MB = some (.cells (Bo ((List.replicate b false).set 0 true))) := by rw [w8]; exact AHeap.own_put_eq _ _ _
   have ne : ∀ q o, g8.own q = some o → blk (.slice (some ⟨g8.next, 0, none⟩) 1 1) ≠ some q := fun q o h1 h2 => by injection h2 with h2; subst h2; rw [nG] at h1; cases h1
   refine ⟨.slice (some ⟨g8.next, 0, none⟩) 1 1, _, _, by simp only [hasAll, kS1, bLookup, bMapSet, wantA, isCall, stepOp, evalO, evalL, evalP, evalM, putDst, flat, kA, kB, Nat.reduceLT, ↓reduceIte, kC, Nat.reduceEqDiff, aBuiltin, abinG, guardFree, abin, aInt, aUn, aNilCheck, retQ, retQ1, aresults, aresultL, aresult, mkF, undefV, reduceCtorEq, kD, kE, kF, kG, kH, kI, kJ, kK, aExtract, calleeOf, f2, f4, f5, f10]; simp [f2, f4, f5, f10], w9, l8.trans l9, l9.own _ _ oQ8, l9.own _ _ oMB8, l9.own _ _ oMC8, ?_, fun q hq' => ?_, ne Q _ oQ8, ne MB _ oMB8, ne MC _ oMC8, ?_⟩
   ·have hnp : [0].map (nodeP b) = [(0, 0)] := by rw [List.map_cons, List.map_nil, nbE, if_neg e]
    rw [hnp]; exact GS.full o9 rfl (by decide)
   ·injection hq' with hq'; subst hq'; exact l8.none nG
   ·refine ⟨by simp, by simp, fun v hv => ?_, fun v hv => ?_, by simp, fun v hv => by simp at hv; omega, fun v hv => by simp at hv; subst hv; exact Con.refl _ _, by simp⟩
    ·rw [getD_setB _ _ _ (by simpa using hb0)]
     simp [hv]
    ·simp [hv]; omega
 rintro fr' h7 ⟨rv0, mB0, mC0, hfr, w7, l7, oQ7, oMB7, oMC7, gr7, ar7, nrQ, nrB, nrC, I7⟩
 simp only [hasAll] at hfr
 obtain ⟨f2', f4', f5', f10', f12', f13', -⟩ := hfr
 clear f1 f2 f4 f5 f10 nbE o6 e6 e6s l6 w6 oQ6 oMB6 oMC6 f6 neFQ neFB neFC oQ oMB oMC l5 w5 nF
 have hr := edgesU_in hok
 refine KLoop.intro (fun k fr hz => ∃ (i : Nat) (met : List Nat) (mB mC : List Bool) (rv : Value), k = n - i ∧ i ≤ met.length ∧ fr = mkF [(2, .pointer (some ⟨R, 0, none⟩)), (4, .int .i64 n), (5, .pointer (some ⟨P, 0, none⟩)), (10, .pointer (some ⟨Q, 0, none⟩)), (12, rv), (13, .int .i64 i)] ∧
   Le hq hz ∧ hz.own Q = some (.cells [.slice (some ⟨MB, 0, none⟩) b b, .slice (some ⟨MC, 0, none⟩) m m]) ∧ hz.own MB = some (.cells (Bo mB)) ∧ hz.own MC = some (.cells (Bo mC)) ∧ GP hz rv (met.map (nodeP b)) ∧ Apart hq rv ∧ blk rv ≠ some Q ∧ blk rv ≠ some MB ∧ blk rv ≠ some MC ∧ BfsI b m n (edgesU b ls) met mB mC ∧
   ∀ (j v : Nat), j < i → met[j]? = some v → ∀ u, adj (edgesU b ls) v u → u ∈ met)
  n [(2, .pointer (some ⟨R, 0, none⟩)), (4, .int .i64 n), (5, .pointer (some ⟨P, 0, none⟩)), (10, .pointer (some ⟨Q, 0, none⟩)), (12, rv0), (13, .int .i64 (0 : Nat))] (by simp only [hasAll]; exact ⟨f2', f4', f5', f10', f12', f13', trivial⟩)
  ⟨0, [0], mB0, mC0, rv0, rfl, by simp, rfl, l7, oQ7, oMB7, oMC7, gr7, ar7, nrQ, nrB, nrC, I7, by intro j v hj; omega⟩ ?_
 clear f2' f4' f5' f10' f12' f13' w7 l7 oQ7 oMB7 oMC7 gr7 ar7 nrQ nrB nrC I7
 rintro k fr hz hwz ⟨i, met, mB, mC, rv, rfl, hi, rfl, lez, oQ, oMB, oMC, gr, ar, nrQ, nrB, nrC, I, hcl⟩
 have lr := fun g => gr.pr.len105 g
 rw [List.length_map] at lr
 have hmn : met.length ≤ n := by
  have := I.nd.length_le_of_subset (l₂ := List.range n) fun x hx => List.mem_range.2 (I.lt x hx)
  rwa [List.length_range] at this
 simp only [kS1, bLookup, bMapSet, wantA, isCall, stepOp, evalO, evalL, evalP, evalM, putDst, flat, kA, kB, Nat.reduceLT, ↓reduceIte, kC, Nat.reduceEqDiff, aBuiltin, abinG, guardFree, abin, aInt, aUn, aNilCheck, retQ, retQ1, aresults, aresultL, aresult, mkF, undefV, reduceCtorEq, kD, kE, kF, kG, kH, kI, kJ, kK, aExtract, calleeOf, lr]
 refine KCond.intro (fun ht => ?_) (fun hf => ?_)
 rotate_left
 ·have hge : met.length ≤ i := lt_f hf
  have oRz := lez.own _ _ oRq
  have oPz := lez.own _ _ oPq
  have lp : aload Try.prog hz 123 ⟨P, 0, none⟩ = some (.agg #[.slice (some ⟨LB, 0, none⟩) b b, .slice (some ⟨LC, 0, none⟩) m m]) := by rw [aload_own Try.underlying123 rfl ts101 oPz (by simp)]; rfl
  have st := tsw Try.underlying123 ts101 oRz ⟨_, _, _, rfl, oneS LB b b⟩ ⟨_, _, _, rfl, oneS LC m m⟩
  have ld := ldR hz (.slice (some ⟨LB, 0, none⟩) b b) (.slice (some ⟨LC, 0, none⟩) m m) ⟨_, _, _, rfl⟩ ⟨_, _, _, rfl⟩
  have hall := I.all (fun v hv u ha => by
   obtain ⟨j, hj⟩ := List.mem_iff_getElem?.1 hv
   exact hcl j v (by have := (List.getElem?_eq_some_iff.1 hj).1; omega) hj u ha)
  have out : Le h (hz.put R (.cells [.slice (some ⟨LB, 0, none⟩) b b, .slice (some ⟨LC, 0, none⟩) m m])) := (lhq.trans lez).put _ nR
  by_cases e : met.length = n
  ·have d : decide ((met.length : Int) = (n : Int)) = true := decide_eq_true (by omega)
   simp only [kS1, bLookup, bMapSet, wantA, isCall, stepOp, evalO, evalL, evalP, evalM, putDst, flat, kA, kB, Nat.reduceLT, ↓reduceIte, kC, Nat.reduceEqDiff, aBuiltin, abinG, guardFree, abin, aInt, aUn, aNilCheck, retQ, retQ1, aresults, aresultL, aresult, mkF, undefV, reduceCtorEq, kD, kE, kF, kG, kH, kI, kJ, kK, aExtract, calleeOf, lp, lr, d, st, ld]
   have K : Lk b n ls := ⟨by omega, by omega, hok, hall.1 e⟩
   have lk : Le (hq.kill R) (hz.put R (.cells [.slice (some ⟨LB, 0, none⟩) b b, .slice (some ⟨LC, 0, none⟩) m m])) := ((Le.killed hq R).trans lez).put _ (AHeap.own_kill_eq _ _)
   exact ⟨out, .inr ⟨K, _, _, rfl, rk1.le Stays.isG lk, rk2.le Stays.isG lk⟩⟩
  ·have d : decide ((met.length : Int) = (n : Int)) = false := decide_eq_false (by omega)
   simp only [kS1, bLookup, bMapSet, wantA, isCall, stepOp, evalO, evalL, evalP, evalM, putDst, flat, kA, kB, Nat.reduceLT, ↓reduceIte, kC, Nat.reduceEqDiff, aBuiltin, abinG, guardFree, abin, aInt, aUn, aNilCheck, retQ, retQ1, aresults, aresultL, aresult, mkF, undefV, reduceCtorEq, kD, kE, kF, kG, kH, kI, kJ, kK, aExtract, calleeOf, lp, lr, d, st, ld]
   exact ⟨out, .inl ⟨fun K => e (hall.2 K.con), _, _, rfl, ⟨_, _, _, rfl, oneS LB b b⟩, ⟨_, _, _, rfl, oneS LC m m⟩⟩⟩
 have hlt : i < met.length := lt_t ht
 clear ht
 have hin : i < n := by omega
 have hws := wrapS hin h1
 have hls := sub_step hin
 have hvi := getElem?_of hlt
 have hvm := List.getElem_mem hlt
 generalize met[i] = v at hvi hvm
 have hvn := I.lt v hvm
 have hnv : (met.map (nodeP b))[i]? = some (nodeP b v) := by rw [List.getElem?_map, hvi]; rfl
 have adr := gr.pr.addr105 (k := .i64) i (by rw [List.length_map]; exact hlt)
 have ldr := gr.pr.load107 hnv
 obtain ⟨h8', h8, e8, e8s, l8, w8, o8⟩ := new107 hwz (nodeP b v)
 have nN : hz.own hz.next = none := (Le.refl hz).next hwz (Nat.le_refl _)
 have oQ8 := l8.own _ _ oQ
 have oMB8 := l8.own _ _ oMB
 have oMC8 := l8.own _ _ oMC
 have neNQ : hz.next ≠ Q := fun e => by rw [e, oQ] at nN; cases nN
 have neNB : hz.next ≠ MB := fun e => by rw [e, oMB] at nN; cases nN
 have neNC : hz.next ≠ MC := fun e => by rw [e, oMC] at nN; cases nN
 have nrN : blk rv ≠ some hz.next := fun e => GS.blk_own gr e nN
 generalize hz.next = N at *
 have le8 := lez.trans l8
 have gr8 := gr.le l8
 have m0 := own0 o8
 have m1 := own1 o8
 have w10 : awrap .i64 ((1 : Int) - 0) = 1 := by decide
 have w11 : awrap .i64 ((1 : Int) - 1) = 0 := by decide
 simp only [kS1, bLookup, bMapSet, wantA, isCall, stepOp, evalO, evalL, evalP, evalM, putDst, flat, kA, kB, Nat.reduceLT, ↓reduceIte, kC, Nat.reduceEqDiff, aBuiltin, abinG, guardFree, abin, aInt, aUn, aNilCheck, retQ, retQ1, aresults, aresultL, aresult, mkF, undefV, reduceCtorEq, kD, kE, kF, kG, kH, kI, kJ, kK, aExtract, calleeOf, adr, ldr, e8, e8s]
 by_cases hvb : v < b
 ·skip
  have hsz : v < b := by omega
  have hnode : nodeP b v = (0, ((v : Nat) : Int)) := by rw [nodeP, if_pos hvb]
  rw [hnode] at m0 m1 o8
  have hlen : v < (rowsB b ls).length := by rw [rowsB_length]; exact hsz
  have adL := rl1.addr (P := Try.prog) Try.underlying32 Try.underlying38 (by kernel_rfl) (k := .i64) v hlen
  obtain ⟨u, ldu, hu⟩ := rl1.load' (P := Try.prog) Try.underlying38 rfl v hlen
  have hrow : (rowsB b ls)[v] = rB ls v := by
   have := rowsB_get ls hsz
   rw [List.getElem?_eq_getElem hlen] at this; injection this
  rw [hrow] at hu
  have hu' : GI hq u (rB ls v) := hu
  have hmemr : ∀ x ∈ rB ls v, ∃ c : Nat, x = (c : Int) ∧ c < m ∧ adj (edgesU b ls) v (b + c) := fun x hx => by
   obtain ⟨c, e, h1, h2⟩ := rB_mem hok hx; exact ⟨c, e, by omega, h2⟩
  have hadjr : ∀ w, adj (edgesU b ls) v w → ∃ c : Nat, w = b + c ∧ (c : Int) ∈ rB ls v := fun w ha => by
   obtain ⟨h1, h2⟩ := adj_rB hok hvb ha; exact ⟨w - b, by omega, h2⟩
  have hrl : (rB ls v).length ≤ 1000 := by have := rB_len ls v; omega
  generalize rB ls v = row at *
  have lu := fun g => hu'.rl.len (P := Try.prog) Try.underlying38 g
  have P8 := ldP2 h8 le8
  refine KDraw.intro mixed (.fl 0 (.fl 1 (.fl 2 (.fl 3 (.fl 4 (.fl 5 (.fl 6 (.fl 7 (.fl 8 (.fl 9 (.done))))))))))) (by kernel_rfl) ?_
  simp only [kS1, bLookup, bMapSet, wantA, isCall, stepOp, evalO, evalL, evalP, evalM, putDst, flat, kA, kB, Nat.reduceLT, ↓reduceIte, kC, Nat.reduceEqDiff, aBuiltin, abinG, guardFree, abin, aInt, aUn, aNilCheck, retQ, retQ1, aresults, aresultL, aresult, mkF, undefV, reduceCtorEq, kD, kE, kF, kG, kH, kI, kJ, kK, aExtract, calleeOf, kD1, Nat.reduceBEq, HoldsAll, kL, kM, kN, kO, nf0, nf1, aadd, Nat.zero_add, m0, m1, (ix101 _).1, P8.1, adL, ldu h8 le8, lu]
  refine KLoop.intro (fun k fr hy => ∃ (j : Nat) (ext : List Nat) (mB mC : List Bool) (rv : Value), k = row.length - j ∧ j ≤ row.length ∧ fr = mkF [(2, .pointer (some ⟨R, 0, none⟩)), (4, .int .i64 n), (5, .pointer (some ⟨P, 0, none⟩)), (10, .pointer (some ⟨Q, 0, none⟩)), (12, rv), (13, .int .i64 i), (14, .pointer (some ⟨N, 0, none⟩)), (140, u), (141, .int .i64 row.length), (142, .int .i64 j)] ∧
    Le hq hy ∧ hy.own N = some (.cells (cellsP (0, ((v : Nat) : Int)))) ∧ hy.own Q = some (.cells [.slice (some ⟨MB, 0, none⟩) b b, .slice (some ⟨MC, 0, none⟩) m m]) ∧ hy.own MB = some (.cells (Bo mB)) ∧ hy.own MC = some (.cells (Bo mC)) ∧ GP hy rv ((met ++ ext).map (nodeP b)) ∧ Apart hq rv ∧ blk rv ≠ some Q ∧ blk rv ≠ some MB ∧ blk rv ≠ some MC ∧ blk rv ≠ some N ∧ BfsI b m n (edgesU b ls) (met ++ ext) mB mC ∧
    ∀ c : Nat, (c : Int) ∈ row.take j → b + c ∈ met ++ ext)
   row.length [(2, .pointer (some ⟨R, 0, none⟩)), (4, .int .i64 n), (5, .pointer (some ⟨P, 0, none⟩)), (10, .pointer (some ⟨Q, 0, none⟩)), (12, rv), (13, .int .i64 i), (14, .pointer (some ⟨N, 0, none⟩)), (140, u), (141, .int .i64 row.length), (142, .int .i64 (0 : Nat))] (by simp only [hasAll, kS1, bLookup, bMapSet, wantA, isCall, stepOp, evalO, evalL, evalP, evalM, putDst, flat, kA, kB, Nat.reduceLT, ↓reduceIte, kC, Nat.reduceEqDiff, aBuiltin, abinG, guardFree, abin, aInt, aUn, aNilCheck, retQ, retQ1, aresults, aresultL, aresult, mkF, undefV, reduceCtorEq, kD, kE, kF, kG, kH, kI, kJ, kK, aExtract, calleeOf]; simp)
   ⟨0, [], mB, mC, rv, rfl, Nat.zero_le _, rfl, le8, o8, oQ8, oMB8, oMC8, by simpa using gr8, ar, nrQ, nrB, nrC, nrN, by simpa using I, by simp⟩ ?_
  clear oQ8 oMB8 oMC8 gr8 ar nrQ nrB nrC nrN m0 m1 o8 P8 w8 e8 e8s adr ldr gr lr oQ oMB oMC
  rintro k fr hy hwy ⟨j, ext, mB, mC, rv, rfl, hj, rfl, ley, oN, oQ, oMB, oMC, gr, ar, nrQ, nrB, nrC, nrN, I, hdone⟩
  simp only [kS1, bLookup, bMapSet, wantA, isCall, stepOp, evalO, evalL, evalP, evalM, putDst, flat, kA, kB, Nat.reduceLT, ↓reduceIte, kC, Nat.reduceEqDiff, aBuiltin, abinG, guardFree, abin, aInt, aUn, aNilCheck, retQ, retQ1, aresults, aresultL, aresult, mkF, undefV, reduceCtorEq, kD, kE, kF, kG, kH, kI, kJ, kK, aExtract, calleeOf]
  refine KCond.intro (fun ht => ?_) (fun hf => ?_)
  rotate_left
  ·have hge : row.length ≤ j := lt_f hf
   rw [List.take_of_length_le hge] at hdone
   simp only [kS1, bLookup, bMapSet, wantA, isCall, stepOp, evalO, evalL, evalP, evalM, putDst, flat, kA, kB, Nat.reduceLT, ↓reduceIte, kC, Nat.reduceEqDiff, aBuiltin, abinG, guardFree, abin, aInt, aUn, aNilCheck, retQ, retQ1, aresults, aresultL, aresult, mkF, undefV, reduceCtorEq, kD, kE, kF, kG, kH, kI, kJ, kK, aExtract, calleeOf, hws]
   refine loop_again (n - (i + 1)) [(2, .pointer (some ⟨R, 0, none⟩)), (4, .int .i64 n), (5, .pointer (some ⟨P, 0, none⟩)), (10, .pointer (some ⟨Q, 0, none⟩)), (12, rv), (13, .int .i64 (i + 1 : Nat))] hls (by simp only [hasAll, kS1, bLookup, bMapSet, wantA, isCall, stepOp, evalO, evalL, evalP, evalM, putDst, flat, kA, kB, Nat.reduceLT, ↓reduceIte, kC, Nat.reduceEqDiff, aBuiltin, abinG, guardFree, abin, aInt, aUn, aNilCheck, retQ, retQ1, aresults, aresultL, aresult, mkF, undefV, reduceCtorEq, kD, kE, kF, kG, kH, kI, kJ, kK, aExtract, calleeOf]; simp)
    ⟨i + 1, met ++ ext, mB, mC, rv, rfl, Nat.le_trans hlt (by rw [List.length_append]; exact Nat.le_add_right _ _), rfl, ley, oQ, oMB, oMC, gr, ar, nrQ, nrB, nrC, I, fun j' v' hj' hv' w ha => ?_⟩
   by_cases e : j' = i
   ·subst e
    rw [List.getElem?_append_left hlt, hvi] at hv'
    injection hv' with hv'; subst hv'
    obtain ⟨c, rfl, hcm⟩ := hadjr w ha
    exact hdone _ hcm
   ·rw [List.getElem?_append_left (Nat.lt_trans (lt_of_ne_succ hj' e) hlt)] at hv'
    exact List.mem_append_left _ (hcl j' v' (lt_of_ne_succ hj' e) hv' w ha)
  have hlj : j < row.length := lt_t ht
  clear ht
  have hws2 := wrapS hlj hrl
  have hls2 := sub_step hlj
  have adj_ := hu'.rl.addr (P := Try.prog) Try.underlying38 Try.underlying3 (by kernel_rfl) (k := .i64) j hlj
  have ldj := (hu'.le ley).rl.loadI (P := Try.prog) Try.underlying3 rfl j hlj
  have htk : row.take (j + 1) = row.take j ++ [row[j]] := List.take_succ_eq_append_getElem hlj
  obtain ⟨c, hc, hcz, hca⟩ := hmemr _ (List.getElem_mem hlj)
  rw [hc] at ldj htk
  have m0 := own0 oN
  have m1 := own1 oN
  have qQ := ldQ hy oQ
  have hml' : c < (mC).length := by rw [I.lC]; exact hcz
  have lM := ldM hy MC _ c oMC hml'
  have hvext : v ∈ met ++ ext := List.mem_append_left _ hvm
  have hin2 := I.mc c hcz
  cases hbit : (mC).getD c false with
  | true =>
   rw [hbit] at lM hin2
   have hin3 := hin2.1 rfl
   simp only [kS1, bLookup, bMapSet, wantA, isCall, stepOp, evalO, evalL, evalP, evalM, putDst, flat, kA, kB, Nat.reduceLT, ↓reduceIte, kC, Nat.reduceEqDiff, aBuiltin, abinG, guardFree, abin, aInt, aUn, aNilCheck, retQ, retQ1, aresults, aresultL, aresult, mkF, undefV, reduceCtorEq, kD, kE, kF, kG, kH, kI, kJ, kK, aExtract, calleeOf, adj_, ldj, nf0, aadd, Nat.zero_add, m0, w10, (ix127 _).2, qQ.2, ixM MC m _ c hcz, lM, hws2]
   refine loop_again (row.length - (j + 1)) [(2, .pointer (some ⟨R, 0, none⟩)), (4, .int .i64 n), (5, .pointer (some ⟨P, 0, none⟩)), (10, .pointer (some ⟨Q, 0, none⟩)), (12, rv), (13, .int .i64 i), (14, .pointer (some ⟨N, 0, none⟩)), (140, u), (141, .int .i64 row.length), (142, .int .i64 (j + 1 : Nat))] hls2 (by simp only [hasAll, kS1, bLookup, bMapSet, wantA, isCall, stepOp, evalO, evalL, evalP, evalM, putDst, flat, kA, kB, Nat.reduceLT, ↓reduceIte, kC, Nat.reduceEqDiff, aBuiltin, abinG, guardFree, abin, aInt, aUn, aNilCheck, retQ, retQ1, aresults, aresultL, aresult, mkF, undefV, reduceCtorEq, kD, kE, kF, kG, kH, kI, kJ, kK, aExtract, calleeOf]; simp)
    ⟨j + 1, ext, mB, mC, rv, rfl, hlj, rfl, ley, oN, oQ, oMB, oMC, gr, ar, nrQ, nrB, nrC, nrN, I, fun c' hc' => ?_⟩
   rw [htk, List.mem_append, List.mem_singleton] at hc'
   rcases hc' with hc' | hc'
   ·exact hdone c' hc'
   ·have : c' = c := by omega
    subst this; exact hin3
  | false =>
   rw [hbit] at lM hin2
   have hnin : b + c ∉ met ++ ext := fun h => by have := hin2.2 h; cases this
   have st := stM hy MC _ c oMC hml'
   have wy := hwy.put (.cells (Bo ((mC).set c true))) (hwy.lt oMC)
   have keep : ∀ q o, hy.own q = some o → q ≠ MC → (hy.put MC (.cells (Bo ((mC).set c true)))).own q = some o := fun q o h1 h2 => by rw [AHeap.own_put_ne _ _ _ _ h2]; exact h1
   have oM1 := AHeap.own_put_eq hy MC (.cells (Bo ((mC).set c true)))
   have oN1 := keep N _ oN neNC
   have oQ1 := keep Q _ oQ bp.symm
   have oO1 := keep MB _ oMB ab
   have ly1 := ley.put (.cells (Bo ((mC).set c true))) nMC
   have gr1 : GP (hy.put MC (.cells (Bo ((mC).set c true)))) rv ((met ++ ext).map (nodeP b)) := GS.put gr _ nrC
   have I1 := I.addC (by omega : b + m = n) hcz hnin hvext hca
   have hnl : ((met ++ ext).map (nodeP b)).length ≤ 2000 := by
    rw [List.length_map]
    have := I.nd.length_le_of_subset (l₂ := List.range n) fun x hx => List.mem_range.2 (I.lt x hx)
    rw [List.length_range] at this; omega
   have nodeC : nodeP b (b + c) = (1, (c : Int)) := by rw [nodeP, if_neg (by omega), Nat.add_sub_cancel_left]
   generalize hG1 : hy.put MC (.cells (Bo ((mC).set c true))) = hy1 at *
   obtain ⟨rv', g4, g5, k4, k5, g5p, w5, l4, f5, k5p⟩ := gr1.push105 wy (1, (c : Int)) (by omega)
   obtain ⟨l5, a5⟩ := f5 hq ly1 ar
   obtain ⟨oN5, nN5⟩ := k5p N _ oN1 nrN
   obtain ⟨oQ5, nQ5⟩ := k5p Q _ oQ1 nrQ
   obtain ⟨oM5, nM5⟩ := k5p MC _ oM1 nrC
   obtain ⟨oO5, nO5⟩ := k5p MB _ oO1 nrB
   have m0' := own0 oN1
   have m1' := own1 oN1
   have bd := build107 1 (c : Int)
   simp only [kS1, bLookup, bMapSet, wantA, isCall, stepOp, evalO, evalL, evalP, evalM, putDst, flat, kA, kB, Nat.reduceLT, ↓reduceIte, kC, Nat.reduceEqDiff, aBuiltin, abinG, guardFree, abin, aInt, aUn, aNilCheck, retQ, retQ1, aresults, aresultL, aresult, mkF, undefV, reduceCtorEq, kD, kE, kF, kG, kH, kI, kJ, kK, aExtract, calleeOf, adj_, ldj, nf0, nf1, aadd, Nat.zero_add, m0, m0', w10, (ix127 _).2, qQ.2, ixM MC m _ c hcz, lM, st, bd, k4, k5, hws2]
   refine loop_again (row.length - (j + 1)) [(2, .pointer (some ⟨R, 0, none⟩)), (4, .int .i64 n), (5, .pointer (some ⟨P, 0, none⟩)), (10, .pointer (some ⟨Q, 0, none⟩)), (12, rv'), (13, .int .i64 i), (14, .pointer (some ⟨N, 0, none⟩)), (140, u), (141, .int .i64 row.length), (142, .int .i64 (j + 1 : Nat))] hls2 (by simp only [hasAll, kS1, bLookup, bMapSet, wantA, isCall, stepOp, evalO, evalL, evalP, evalM, putDst, flat, kA, kB, Nat.reduceLT, ↓reduceIte, kC, Nat.reduceEqDiff, aBuiltin, abinG, guardFree, abin, aInt, aUn, aNilCheck, retQ, retQ1, aresults, aresultL, aresult, mkF, undefV, reduceCtorEq, kD, kE, kF, kG, kH, kI, kJ, kK, aExtract, calleeOf]; simp)
    ⟨j + 1, ext ++ [b + c], mB, (mC.set c true), rv', rfl, hlj, rfl, l5, oN5, oQ5, oO5, oM5, ?_, a5, nQ5, nO5, nM5, nN5, by rw [← List.append_assoc]; exact I1, fun c' hc' => ?_⟩
   ·rw [← List.append_assoc, List.map_append, List.map_cons, List.map_nil, nodeC]; exact g5p
   ·rw [← List.append_assoc]
    rw [htk, List.mem_append, List.mem_singleton] at hc'
    rcases hc' with hc' | hc'
    ·exact List.mem_append_left _ (hdone c' hc')
    ·have : c' = c := by omega
     subst this; simp
 ·skip
  have hsz : (v - b) < m := by omega
  have hnode : nodeP b v = (1, (((v - b) : Nat) : Int)) := by rw [nodeP, if_neg hvb]
  rw [hnode] at m0 m1 o8
  have hlen : (v - b) < (rowsC m ls).length := by rw [rowsC_length]; exact hsz
  have adL := rl2.addr (P := Try.prog) Try.underlying32 Try.underlying38 (by kernel_rfl) (k := .i64) (v - b) hlen
  obtain ⟨u, ldu, hu⟩ := rl2.load' (P := Try.prog) Try.underlying38 rfl (v - b) hlen
  have hrow : (rowsC m ls)[(v - b)] = rC ls (v - b) := by
   have := rowsC_get ls hsz
   rw [List.getElem?_eq_getElem hlen] at this; injection this
  rw [hrow] at hu
  have hu' : GI hq u (rC ls (v - b)) := hu
  have hmemr : ∀ x ∈ rC ls (v - b), ∃ c : Nat, x = (c : Int) ∧ c < b ∧ adj (edgesU b ls) v (c) := fun x hx => by
   obtain ⟨c, e, h1, h2⟩ := rC_mem hok hx; exact ⟨c, e, h1, by rwa [show b + (v - b) = v by omega] at h2⟩
  have hadjr : ∀ w, adj (edgesU b ls) v w → ∃ c : Nat, w = c ∧ (c : Int) ∈ rC ls (v - b) := fun w ha => by
   obtain ⟨h1, h2⟩ := adj_rC hok (v := v - b) (u := w) (by rwa [show b + (v - b) = v by omega]); exact ⟨w, rfl, h2⟩
  have hrl : (rC ls (v - b)).length ≤ 1000 := by have := rC_len ls (v - b); omega
  generalize rC ls (v - b) = row at *
  have lu := fun g => hu'.rl.len (P := Try.prog) Try.underlying38 g
  have P8 := ldP2 h8 le8
  refine KDraw.intro mixed (.fl 0 (.fl 1 (.fl 2 (.fl 3 (.fl 4 (.fl 5 (.fl 6 (.fl 7 (.fl 8 (.fl 9 (.done))))))))))) (by kernel_rfl) ?_
  simp only [kS1, bLookup, bMapSet, wantA, isCall, stepOp, evalO, evalL, evalP, evalM, putDst, flat, kA, kB, Nat.reduceLT, ↓reduceIte, kC, Nat.reduceEqDiff, aBuiltin, abinG, guardFree, abin, aInt, aUn, aNilCheck, retQ, retQ1, aresults, aresultL, aresult, mkF, undefV, reduceCtorEq, kD, kE, kF, kG, kH, kI, kJ, kK, aExtract, calleeOf, kD1, Nat.reduceBEq, HoldsAll, kL, kM, kN, kO, nf0, nf1, aadd, Nat.zero_add, m0, m1, (ix101 _).2, P8.2, adL, ldu h8 le8, lu]
  refine KLoop.intro (fun k fr hy => ∃ (j : Nat) (ext : List Nat) (mB mC : List Bool) (rv : Value), k = row.length - j ∧ j ≤ row.length ∧ fr = mkF [(2, .pointer (some ⟨R, 0, none⟩)), (4, .int .i64 n), (5, .pointer (some ⟨P, 0, none⟩)), (10, .pointer (some ⟨Q, 0, none⟩)), (12, rv), (13, .int .i64 i), (14, .pointer (some ⟨N, 0, none⟩)), (140, u), (141, .int .i64 row.length), (142, .int .i64 j)] ∧
    Le hq hy ∧ hy.own N = some (.cells (cellsP (1, (((v - b) : Nat) : Int)))) ∧ hy.own Q = some (.cells [.slice (some ⟨MB, 0, none⟩) b b, .slice (some ⟨MC, 0, none⟩) m m]) ∧ hy.own MB = some (.cells (Bo mB)) ∧ hy.own MC = some (.cells (Bo mC)) ∧ GP hy rv ((met ++ ext).map (nodeP b)) ∧ Apart hq rv ∧ blk rv ≠ some Q ∧ blk rv ≠ some MB ∧ blk rv ≠ some MC ∧ blk rv ≠ some N ∧ BfsI b m n (edgesU b ls) (met ++ ext) mB mC ∧
    ∀ c : Nat, (c : Int) ∈ row.take j → c ∈ met ++ ext)
   row.length [(2, .pointer (some ⟨R, 0, none⟩)), (4, .int .i64 n), (5, .pointer (some ⟨P, 0, none⟩)), (10, .pointer (some ⟨Q, 0, none⟩)), (12, rv), (13, .int .i64 i), (14, .pointer (some ⟨N, 0, none⟩)), (140, u), (141, .int .i64 row.length), (142, .int .i64 (0 : Nat))] (by simp only [hasAll, kS1, bLookup, bMapSet, wantA, isCall, stepOp, evalO, evalL, evalP, evalM, putDst, flat, kA, kB, Nat.reduceLT, ↓reduceIte, kC, Nat.reduceEqDiff, aBuiltin, abinG, guardFree, abin, aInt, aUn, aNilCheck, retQ, retQ1, aresults, aresultL, aresult, mkF, undefV, reduceCtorEq, kD, kE, kF, kG, kH, kI, kJ, kK, aExtract, calleeOf]; simp)
   ⟨0, [], mB, mC, rv, rfl, Nat.zero_le _, rfl, le8, o8, oQ8, oMB8, oMC8, by simpa using gr8, ar, nrQ, nrB, nrC, nrN, by simpa using I, by simp⟩ ?_
  clear oQ8 oMB8 oMC8 gr8 ar nrQ nrB nrC nrN m0 m1 o8 P8 w8 e8 e8s adr ldr gr lr oQ oMB oMC
  rintro k fr hy hwy ⟨j, ext, mB, mC, rv, rfl, hj, rfl, ley, oN, oQ, oMB, oMC, gr, ar, nrQ, nrB, nrC, nrN, I, hdone⟩
  simp only [kS1, bLookup, bMapSet, wantA, isCall, stepOp, evalO, evalL, evalP, evalM, putDst, flat, kA, kB, Nat.reduceLT, ↓reduceIte, kC, Nat.reduceEqDiff, aBuiltin, abinG, guardFree, abin, aInt, aUn, aNilCheck, retQ, retQ1, aresults, aresultL, aresult, mkF, undefV, reduceCtorEq, kD, kE, kF, kG, kH, kI, kJ, kK, aExtract, calleeOf]
  refine KCond.intro (fun ht => ?_) (fun hf => ?_)
  rotate_left
  ·have hge : row.length ≤ j := lt_f hf
   rw [List.take_of_length_le hge] at hdone
   simp only [kS1, bLookup, bMapSet, wantA, isCall, stepOp, evalO, evalL, evalP, evalM, putDst, flat, kA, kB, Nat.reduceLT, ↓reduceIte, kC, Nat.reduceEqDiff, aBuiltin, abinG, guardFree, abin, aInt, aUn, aNilCheck, retQ, retQ1, aresults, aresultL, aresult, mkF, undefV, reduceCtorEq, kD, kE, kF, kG, kH, kI, kJ, kK, aExtract, calleeOf, hws]
   refine loop_again (n - (i + 1)) [(2, .pointer (some ⟨R, 0, none⟩)), (4, .int .i64 n), (5, .pointer (some ⟨P, 0, none⟩)), (10, .pointer (some ⟨Q, 0, none⟩)), (12, rv), (13, .int .i64 (i + 1 : Nat))] hls (by simp only [hasAll, kS1, bLookup, bMapSet, wantA, isCall, stepOp, evalO, evalL, evalP, evalM, putDst, flat, kA, kB, Nat.reduceLT, ↓reduceIte, kC, Nat.reduceEqDiff, aBuiltin, abinG, guardFree, abin, aInt, aUn, aNilCheck, retQ, retQ1, aresults, aresultL, aresult, mkF, undefV, reduceCtorEq, kD, kE, kF, kG, kH, kI, kJ, kK, aExtract, calleeOf]; simp)
    ⟨i + 1, met ++ ext, mB, mC, rv, rfl, Nat.le_trans hlt (by rw [List.length_append]; exact Nat.le_add_right _ _), rfl, ley, oQ, oMB, oMC, gr, ar, nrQ, nrB, nrC, I, fun j' v' hj' hv' w ha => ?_⟩
   by_cases e : j' = i
   ·subst e
    rw [List.getElem?_append_left hlt, hvi] at hv'
    injection hv' with hv'; subst hv'
    obtain ⟨c, rfl, hcm⟩ := hadjr w ha
    exact hdone _ hcm
   ·rw [List.getElem?_append_left (Nat.lt_trans (lt_of_ne_succ hj' e) hlt)] at hv'
    exact List.mem_append_left _ (hcl j' v' (lt_of_ne_succ hj' e) hv' w ha)
  have hlj : j < row.length := lt_t ht
  clear ht
  have hws2 := wrapS hlj hrl
  have hls2 := sub_step hlj
  have adj_ := hu'.rl.addr (P := Try.prog) Try.underlying38 Try.underlying3 (by kernel_rfl) (k := .i64) j hlj
  have ldj := (hu'.le ley).rl.loadI (P := Try.prog) Try.underlying3 rfl j hlj
  have htk : row.take (j + 1) = row.take j ++ [row[j]] := List.take_succ_eq_append_getElem hlj
  obtain ⟨c, hc, hcz, hca⟩ := hmemr _ (List.getElem_mem hlj)
  rw [hc] at ldj htk
  have m0 := own0 oN
  have m1 := own1 oN
  have qQ := ldQ hy oQ
  have hml' : c < (mB).length := by rw [I.lB]; exact hcz
  have lM := ldM hy MB _ c oMB hml'
  have hvext : v ∈ met ++ ext := List.mem_append_left _ hvm
  have hin2 := I.mb c hcz
  cases hbit : (mB).getD c false with
  | true =>
   rw [hbit] at lM hin2
   have hin3 := hin2.1 rfl
   simp only [kS1, bLookup, bMapSet, wantA, isCall, stepOp, evalO, evalL, evalP, evalM, putDst, flat, kA, kB, Nat.reduceLT, ↓reduceIte, kC, Nat.reduceEqDiff, aBuiltin, abinG, guardFree, abin, aInt, aUn, aNilCheck, retQ, retQ1, aresults, aresultL, aresult, mkF, undefV, reduceCtorEq, kD, kE, kF, kG, kH, kI, kJ, kK, aExtract, calleeOf, adj_, ldj, nf0, aadd, Nat.zero_add, m0, w11, (ix127 _).1, qQ.1, ixM MB b _ c hcz, lM, hws2]
   refine loop_again (row.length - (j + 1)) [(2, .pointer (some ⟨R, 0, none⟩)), (4, .int .i64 n), (5, .pointer (some ⟨P, 0, none⟩)), (10, .pointer (some ⟨Q, 0, none⟩)), (12, rv), (13, .int .i64 i), (14, .pointer (some ⟨N, 0, none⟩)), (140, u), (141, .int .i64 row.length), (142, .int .i64 (j + 1 : Nat))] hls2 (by simp only [hasAll, kS1, bLookup, bMapSet, wantA, isCall, stepOp, evalO, evalL, evalP, evalM, putDst, flat, kA, kB, Nat.reduceLT, ↓reduceIte, kC, Nat.reduceEqDiff, aBuiltin, abinG, guardFree, abin, aInt, aUn, aNilCheck, retQ, retQ1, aresults, aresultL, aresult, mkF, undefV, reduceCtorEq, kD, kE, kF, kG, kH, kI, kJ, kK, aExtract, calleeOf]; simp)
    ⟨j + 1, ext, mB, mC, rv, rfl, hlj, rfl, ley, oN, oQ, oMB, oMC, gr, ar, nrQ, nrB, nrC, nrN, I, fun c' hc' => ?_⟩
   rw [htk, List.mem_append, List.mem_singleton] at hc'
   rcases hc' with hc' | hc'
   ·exact hdone c' hc'
   ·have : c' = c := by omega
    subst this; exact hin3
  | false =>
   rw [hbit] at lM hin2
   have hnin : c ∉ met ++ ext := fun h => by have := hin2.2 h; cases this
   have st := stM hy MB _ c oMB hml'
   have wy := hwy.put (.cells (Bo ((mB).set c true))) (hwy.lt oMB)
   have keep : ∀ q o, hy.own q = some o → q ≠ MB → (hy.put MB (.cells (Bo ((mB).set c true)))).own q = some o := fun q o h1 h2 => by rw [AHeap.own_put_ne _ _ _ _ h2]; exact h1
   have oM1 := AHeap.own_put_eq hy MB (.cells (Bo ((mB).set c true)))
   have oN1 := keep N _ oN neNB
   have oQ1 := keep Q _ oQ ap.symm
   have oO1 := keep MC _ oMC ab.symm
   have ly1 := ley.put (.cells (Bo ((mB).set c true))) nMB
   have gr1 : GP (hy.put MB (.cells (Bo ((mB).set c true)))) rv ((met ++ ext).map (nodeP b)) := GS.put gr _ nrB
   have I1 := I.addB (by omega : b + m = n) hcz hnin hvext hca
   have hnl : ((met ++ ext).map (nodeP b)).length ≤ 2000 := by
    rw [List.length_map]
    have := I.nd.length_le_of_subset (l₂ := List.range n) fun x hx => List.mem_range.2 (I.lt x hx)
    rw [List.length_range] at this; omega
   have nodeC : nodeP b (c) = (0, (c : Int)) := by rw [nodeP, if_pos hcz]
   generalize hG1 : hy.put MB (.cells (Bo ((mB).set c true))) = hy1 at *
   obtain ⟨rv', g4, g5, k4, k5, g5p, w5, l4, f5, k5p⟩ := gr1.push105 wy (0, (c : Int)) (by omega)
   obtain ⟨l5, a5⟩ := f5 hq ly1 ar
   obtain ⟨oN5, nN5⟩ := k5p N _ oN1 nrN
   obtain ⟨oQ5, nQ5⟩ := k5p Q _ oQ1 nrQ
   obtain ⟨oM5, nM5⟩ := k5p MB _ oM1 nrB
   obtain ⟨oO5, nO5⟩ := k5p MC _ oO1 nrC
   have m0' := own0 oN1
   have m1' := own1 oN1
   have bd := build107 0 (c : Int)
   simp only [kS1, bLookup, bMapSet, wantA, isCall, stepOp, evalO, evalL, evalP, evalM, putDst, flat, kA, kB, Nat.reduceLT, ↓reduceIte, kC, Nat.reduceEqDiff, aBuiltin, abinG, guardFree, abin, aInt, aUn, aNilCheck, retQ, retQ1, aresults, aresultL, aresult, mkF, undefV, reduceCtorEq, kD, kE, kF, kG, kH, kI, kJ, kK, aExtract, calleeOf, adj_, ldj, nf0, nf1, aadd, Nat.zero_add, m0, m0', w11, (ix127 _).1, qQ.1, ixM MB b _ c hcz, lM, st, bd, k4, k5, hws2]
   refine loop_again (row.length - (j + 1)) [(2, .pointer (some ⟨R, 0, none⟩)), (4, .int .i64 n), (5, .pointer (some ⟨P, 0, none⟩)), (10, .pointer (some ⟨Q, 0, none⟩)), (12, rv'), (13, .int .i64 i), (14, .pointer (some ⟨N, 0, none⟩)), (140, u), (141, .int .i64 row.length), (142, .int .i64 (j + 1 : Nat))] hls2 (by simp only [hasAll, kS1, bLookup, bMapSet, wantA, isCall, stepOp, evalO, evalL, evalP, evalM, putDst, flat, kA, kB, Nat.reduceLT, ↓reduceIte, kC, Nat.reduceEqDiff, aBuiltin, abinG, guardFree, abin, aInt, aUn, aNilCheck, retQ, retQ1, aresults, aresultL, aresult, mkF, undefV, reduceCtorEq, kD, kE, kF, kG, kH, kI, kJ, kK, aExtract, calleeOf]; simp)
    ⟨j + 1, ext ++ [c], (mB.set c true), mC, rv', rfl, hlj, rfl, l5, oN5, oQ5, oM5, oO5, ?_, a5, nQ5, nM5, nO5, nN5, by rw [← List.append_assoc]; exact I1, fun c' hc' => ?_⟩
   ·rw [← List.append_assoc, List.map_append, List.map_cons, List.map_nil, nodeC]; exact g5p
   ·rw [← List.append_assoc]
    rw [htk, List.mem_append, List.mem_singleton] at hc'
    rcases hc' with hc' | hc'
    ·exact List.mem_append_left _ (hdone c' hc')
    ·have : c' = c := by omega
     subst this; simp
end Go.Fw
