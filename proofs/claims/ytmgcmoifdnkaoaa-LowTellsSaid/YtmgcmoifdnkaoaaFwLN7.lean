/- One of the texts of the layer and the walks: it proves what its theorems say of the functions of the seat, with no condition beyond theirs. -/
import Derived.Test.YtmgcmoifdnkaoaaFwLN5
import Derived.Test.YtmgcmoifdnkaoaaFwLT1
set_option linter.unusedSimpArgs false
set_option linter.unusedVariables false
namespace Go.Fw
open Go.Proofs
attribute [local irreducible] KO4 KO3 KO2 KO1 KO KN KX KE VK KCond KDraw KCall KLoop
set_option maxHeartbeats 16000000
set_option maxRecDepth 10000
attribute [local irreducible] lowM metM walkF
def zl (ls : List Lw) : List Lw := ls.map fun q => (q.1, q.2.1, 0)
theorem zl_length (ls : List Lw) : (zl ls).length = ls.length := by simp [zl]
theorem zl_get (ls : List Lw) (v : Nat) : getL (zl ls) v = ((getL ls v).1, (getL ls v).2.1, 0) := by
  simp only [getL, zl, List.getD_eq_getElem?_getD, List.getElem?_map]
  cases ls[v]? <;> rfl
theorem zl_set (ls : List Lw) (v : Nat) (q : Lw) : zl (ls.set v q) = (zl ls).set v (q.1, q.2.1, 0) := by simp [zl, List.map_set]
theorem flatL_num (ps : List Lw) (i : Nat) (p : Lw) (x : Int) (h : ps[i]? = some p) : flatL (ps.set i (x, p.2.1, p.2.2)) = (flatL ps).set (i * 3) (.int .i64 x) := by
  rw [flatL_set ps i p _ h]
  obtain ⟨g0, g1, g2⟩ := flatL_get ps i p h
  apply List.ext_getElem?
  intro j
  simp only [List.getElem?_set, List.length_set]
  by_cases e2 : i * 3 + 2 = j
  · subst e2
    obtain ⟨q, r⟩ := List.getElem?_eq_some_iff.1 g2
    rw [if_neg (by omega : ¬ i * 3 = i * 3 + 2)]; simp [q, r]
  · simp only [e2, if_false]
    by_cases e1 : i * 3 + 1 = j
    · subst e1
      obtain ⟨q, r⟩ := List.getElem?_eq_some_iff.1 g1
      rw [if_neg (by omega : ¬ i * 3 = i * 3 + 1)]; simp [q, r]
    · simp only [e1, if_false]
theorem flatL_up (ps : List Lw) (i : Nat) (p : Lw) (x : Int) (h : ps[i]? = some p) : flatL (ps.set i (p.1, x, p.2.2)) = (flatL ps).set (i * 3 + 1) (.int .i64 x) := by
  rw [flatL_set ps i p _ h]
  obtain ⟨g0, g1, g2⟩ := flatL_get ps i p h
  apply List.ext_getElem?
  intro j
  simp only [List.getElem?_set, List.length_set]
  by_cases e2 : i * 3 + 2 = j
  · subst e2
    obtain ⟨q, r⟩ := List.getElem?_eq_some_iff.1 g2
    rw [if_neg (by omega : ¬ i * 3 + 1 = i * 3 + 2)]; simp [q, r]
  · simp only [e2, if_false]
    by_cases e1 : i * 3 + 1 = j
    · simp [e1]
    · simp only [e1, if_false]
      by_cases e0 : i * 3 = j
      · subst e0
        obtain ⟨q, r⟩ := List.getElem?_eq_some_iff.1 g0
        simp [q, r]
      · simp [e0]
section
variable {h : AHeap} {L : Nat} {ls : List Lw}
theorem sNum (ho : h.own L = some (.cells (flatL ls))) {v : Nat} {p : Lw} (hp : ls[v]? = some p) (x : Int) :
    aStore Try.prog h 3 (.pointer (some ⟨L, v * 3, none⟩)) (.int .i64 x) = some (h.put L (.cells (flatL (ls.set v (x, p.2.1, p.2.2))))) := by
  rw [flatL_num ls v p x hp]
  exact aStore1 (P := Try.prog) (t := 3) (x := .int .i64 x) Try.underlying3 (by kernel_rfl) ho (off := v * 3) (List.getElem?_eq_some_iff.1 (flatL_get ls v p hp).1).1 rfl rfl
theorem sUp (ho : h.own L = some (.cells (flatL ls))) {v : Nat} {p : Lw} (hp : ls[v]? = some p) (x : Int) :
    aStore Try.prog h 3 (.pointer (some ⟨L, v * 3 + 1, none⟩)) (.int .i64 x) = some (h.put L (.cells (flatL (ls.set v (p.1, x, p.2.2))))) := by
  rw [flatL_up ls v p x hp]
  exact aStore1 (P := Try.prog) (t := 3) (x := .int .i64 x) Try.underlying3 (by kernel_rfl) ho (off := v * 3 + 1) (List.getElem?_eq_some_iff.1 (flatL_get ls v p hp).2.1).1 rfl rfl
end
structure LowP (es : List Pr) (num : Nat → Nat) (up : Nat → Option Nat) (v u w : Nat) (x : Nat) : Prop where
  self : x ≤ num v
  back : ∀ a b, (a < u ∨ a = u ∧ b < w) → Anc up v a → Nt es up a b → x ≤ num b
  some_ : x = num v ∨ ∃ a b, Anc up v a ∧ Nt es up a b ∧ x = num b
theorem RSearch_any (W0 : Base) (v : Value) (G : GM) (h : AHeap) (hg : GR h v G) :
    AC Try.prog W0 18 [v] h fun x h' => Le h h' ∧ ((¬ RightG G ∧ x = .tuple #[.slice none 0 0, .int .i64 20]) ∨ (RightG G ∧ ∃ lv, x = .tuple #[lv, .int .i64 0] ∧ LR h' lv (lowM G.n.toNat G.es).1)) := by
  have hg0 := hg
  obtain ⟨gn, es⟩ := G
  obtain ⟨ev, rfl, hp⟩ := hg.open
  refine AC.vc (fn := Try.f18) (c := _) ⟨Try.func18, rfl, by decide⟩ Try.ntmps18 Try.results18 (by simp) fun hwf => ?_
  simp only [argFrame, argFrom, Nat.reduceAdd]
  obtain ⟨h1, b1, le1, wf1, -, lA⟩ := boxG (n := gn) hwf hp
  generalize h.next = B at *
  have lA1 := lA h1 (Le.refl _)
  simp only [kS1, bLookup, bMapSet, wantA, isCall, stepOp, evalO, evalL, evalP, evalM, putDst, flat, kA, kB, Nat.reduceLT, ↓reduceIte, kC, Nat.reduceEqDiff, aBuiltin, abinG, guardFree, abin, aInt, aUn, aNilCheck, retQ, retQ1, aresults, aresultL, aresult, mkF, undefV, reduceCtorEq, kD, kE, kF, kG, kH, kI, kJ, kK, aExtract, calleeOf, b1, lA1.1]
  refine KCall.intro (by simp only [kS1, bLookup, bMapSet, wantA, isCall, stepOp, evalO, evalL, evalP, evalM, putDst, flat, kA, kB, Nat.reduceLT, ↓reduceIte, kC, Nat.reduceEqDiff, aBuiltin, abinG, guardFree, abin, aInt, aUn, aNilCheck, retQ, retQ1, aresults, aresultL, aresult, mkF, undefV, reduceCtorEq, kD, kE, kF, kG, kH, kI, kJ, kK, aExtract, calleeOf] <;> rfl) ⟨Try.func56, rfl, by decide⟩ (RefRight_any W0 _ _ h1 (hg0.le le1)) ?_
  rintro x h2 wf2 ⟨⟨bb, rfl, hbb⟩, le2⟩
  cases bb with
  | false =>
    simp only [kS1, bLookup, bMapSet, wantA, isCall, stepOp, evalO, evalL, evalP, evalM, putDst, flat, kA, kB, Nat.reduceLT, ↓reduceIte, kC, Nat.reduceEqDiff, aBuiltin, abinG, guardFree, abin, aInt, aUn, aNilCheck, retQ, retQ1, aresults, aresultL, aresult, mkF, undefV, reduceCtorEq, kD, kE, kF, kG, kH, kI, kJ, kK, aExtract, calleeOf]
    exact ⟨le1.trans le2, .inl ⟨(fun hr => by cases hbb.2 hr), trivial⟩⟩
  | true =>
  have hr := hbb.1 rfl
  have h0 : 0 ≤ gn := hr.n0
  obtain ⟨n, rfl⟩ := Int.eq_ofNat_of_zero_le h0
  have h200 : (n : Int) ≤ 200 := hr.n1
  have h594 : es.length ≤ 594 := hr.len
  have hR := hr.inR
  simp only [Int.toNat_natCast]
  have lA2 := lA h2 le2
  obtain ⟨h3, e3, l3, w3, o3⟩ := alloc_f wf2 (flatL (List.replicate n (0, 0, 0)))
  have mk := mkL h2 n (by omega)
  rw [e3] at mk
  have nT : h2.own h2.next = none := (Le.refl h2).next wf2 (Nat.le_refl _)
  simp only [kS1, bLookup, bMapSet, wantA, isCall, stepOp, evalO, evalL, evalP, evalM, putDst, flat, kA, kB, Nat.reduceLT, ↓reduceIte, kC, Nat.reduceEqDiff, aBuiltin, abinG, guardFree, abin, aInt, aUn, aNilCheck, retQ, retQ1, aresults, aresultL, aresult, mkF, undefV, reduceCtorEq, kD, kE, kF, kG, kH, kI, kJ, kK, aExtract, calleeOf, fg0, aadd, Nat.zero_add, lA2.2.1, mk]
  generalize h2.next = T at *
  have z0 : zl (metM n es 0).1 = List.replicate n (0, 0, 0) := by unfold metM; simp [zl]
  have m0 : (metM n es 0).2.length = 0 := by unfold metM; rfl
  refine KLoop.intro (fun k fr hq => ∃ (i : Nat), k = n - i ∧ i ≤ n ∧ fr = mkF [(1, .pointer (some ⟨B, 0, none⟩)), (4, .slice (some ⟨T, 0, none⟩) n n), (5, .int .i64 (metM n es i).2.length), (6, .int .i64 i)] ∧ hq.own T = some (.cells (flatL (zl (metM n es i).1))) ∧ Le h2 hq)
    n [(1, .pointer (some ⟨B, 0, none⟩)), (4, .slice (some ⟨T, 0, none⟩) n n), (5, .int .i64 (0 : Nat)), (6, .int .i64 (0 : Nat))] (by simp only [hasAll, kS1, bLookup, bMapSet, wantA, isCall, stepOp, evalO, evalL, evalP, evalM, putDst, flat, kA, kB, Nat.reduceLT, ↓reduceIte, kC, Nat.reduceEqDiff, aBuiltin, abinG, guardFree, abin, aInt, aUn, aNilCheck, retQ, retQ1, aresults, aresultL, aresult, mkF, undefV, reduceCtorEq, kD, kE, kF, kG, kH, kI, kJ, kK, aExtract, calleeOf]; simp) ⟨0, rfl, Nat.zero_le _, by rw [m0], by rw [z0]; exact o3, l3⟩ ?_
  clear o3 w3 l3 e3 mk
  clear h3
  rintro k fr hq hwq ⟨i, rfl, hi, rfl, oT, leq⟩
  obtain ⟨C, hall⟩ := metM_C hR i hi
  have hzl : (zl (metM n es i).1).length = n := by rw [zl_length]; exact C.len
  have hol : (metM n es i).2.length ≤ n := C.toLowI.olen
  have lAq := lA hq (le2.trans leq)
  simp only [kS1, bLookup, bMapSet, wantA, isCall, stepOp, evalO, evalL, evalP, evalM, putDst, flat, kA, kB, Nat.reduceLT, ↓reduceIte, kC, Nat.reduceEqDiff, aBuiltin, abinG, guardFree, abin, aInt, aUn, aNilCheck, retQ, retQ1, aresults, aresultL, aresult, mkF, undefV, reduceCtorEq, kD, kE, kF, kG, kH, kI, kJ, kK, aExtract, calleeOf, fg0, aadd, Nat.zero_add, lAq.2.1]
  refine KCond.intro (fun ht => ?_) (fun hf => ?_)
  · have hlt : i < n := lt_t ht
    clear ht
    have gi := getL_of (ls := zl (metM n es i).1) (v := i) (by omega)
    have hn0 := lNum oT gi
    rw [zl_get] at hn0
    simp only at hn0
    simp only [kS1, bLookup, bMapSet, wantA, isCall, stepOp, evalO, evalL, evalP, evalM, putDst, flat, kA, kB, Nat.reduceLT, ↓reduceIte, kC, Nat.reduceEqDiff, aBuiltin, abinG, guardFree, abin, aInt, aUn, aNilCheck, retQ, retQ1, aresults, aresultL, aresult, mkF, undefV, reduceCtorEq, kD, kE, kF, kG, kH, kI, kJ, kK, aExtract, calleeOf, lAddr i hlt, fl0, aadd, Nat.add_zero, hn0, bne]
    by_cases c : (getL (metM n es i).1 i).1 = 0
    · simp only [kS1, bLookup, bMapSet, wantA, isCall, stepOp, evalO, evalL, evalP, evalM, putDst, flat, kA, kB, Nat.reduceLT, ↓reduceIte, kC, Nat.reduceEqDiff, aBuiltin, abinG, guardFree, abin, aInt, aUn, aNilCheck, retQ, retQ1, aresults, aresultL, aresult, mkF, undefV, reduceCtorEq, kD, kE, kF, kG, kH, kI, kJ, kK, aExtract, calleeOf, c, lAq.1]
      refine KCall.intro (by simp only [kS1, bLookup, bMapSet, wantA, isCall, stepOp, evalO, evalL, evalP, evalM, putDst, flat, kA, kB, Nat.reduceLT, ↓reduceIte, kC, Nat.reduceEqDiff, aBuiltin, abinG, guardFree, abin, aInt, aUn, aNilCheck, retQ, retQ1, aresults, aresultL, aresult, mkF, undefV, reduceCtorEq, kD, kE, kF, kG, kH, kI, kJ, kK, aExtract, calleeOf] <;> rfl) ⟨Try.func57, rfl, by decide⟩ (RWalk_any W0 _ n i es hq (hg0.le ((le1.trans le2).trans leq)) hr hlt) ?_
      rintro x h7 w7 ⟨ov, uv, P, up, rfl, go, gu, D, l7, ao, au⟩
      obtain ⟨p1, p2⟩ := fromA_pre hR C hlt c
      have hupR := D.dfs.upR hR hlt
      have hul := D.dfs.len.2
      obtain ⟨e1, e2⟩ := D.eq hR hlt
      have hfrom : metM n es (i + 1) = putA up P (metM n es i) := by
        rw [metM, fromA, if_pos c, ← e1, ← e2]
      rw [← e1] at p1 p2
      clear e1 e2 D
      have hPl : P.length ≤ n := by
        have := p1.length_le_of_subset (l₂ := List.range n) fun x hx => List.mem_range.2 (p2 x hx).1
        simpa using this
      have oT7 := l7.own _ _ oT
      have nov : blk ov ≠ some T := fun e => by have := ao _ e; rw [oT] at this; cases this
      have nuv : blk uv ≠ some T := fun e => by have := au _ e; rw [oT] at this; cases this
      have lo := fun g => go.rl.len (P := Try.prog) Try.underlying35 g
      rw [nat64_length] at lo
      simp only [kS1, bLookup, bMapSet, wantA, isCall, stepOp, evalO, evalL, evalP, evalM, putDst, flat, kA, kB, Nat.reduceLT, ↓reduceIte, kC, Nat.reduceEqDiff, aBuiltin, abinG, guardFree, abin, aInt, aUn, aNilCheck, retQ, retQ1, aresults, aresultL, aresult, mkF, undefV, reduceCtorEq, kD, kE, kF, kG, kH, kI, kJ, kK, aExtract, calleeOf]
      refine KLoop.intro (fun k fr hh => ∃ (j : Nat), k = P.length - j ∧ j ≤ P.length ∧ fr = mkF [(1, .pointer (some ⟨B, 0, none⟩)), (4, .slice (some ⟨T, 0, none⟩) n n), (5, .int .i64 (putA up (P.take j) (metM n es i)).2.length), (6, .int .i64 i), (7, ov), (8, uv), (10, .int .i64 j)] ∧
          hh.own T = some (.cells (flatL (zl (putA up (P.take j) (metM n es i)).1))) ∧ GI hh ov (nat64 P) ∧ GI hh uv up ∧ Le h2 hh)
        P.length [(1, .pointer (some ⟨B, 0, none⟩)), (4, .slice (some ⟨T, 0, none⟩) n n), (5, .int .i64 (metM n es i).2.length), (6, .int .i64 i), (7, ov), (8, uv), (10, .int .i64 (0 : Nat))] (by simp only [hasAll, kS1, bLookup, bMapSet, wantA, isCall, stepOp, evalO, evalL, evalP, evalM, putDst, flat, kA, kB, Nat.reduceLT, ↓reduceIte, kC, Nat.reduceEqDiff, aBuiltin, abinG, guardFree, abin, aInt, aUn, aNilCheck, retQ, retQ1, aresults, aresultL, aresult, mkF, undefV, reduceCtorEq, kD, kE, kF, kG, kH, kI, kJ, kK, aExtract, calleeOf]; simp)
        ⟨0, rfl, Nat.zero_le _, rfl, oT7, go, gu, leq.trans l7⟩ ?_
      clear oT7 go gu l7 w7 lo
      clear h7
      rintro k fr hh hwh ⟨j, rfl, hj, rfl, oT, go, gu, leh⟩
      obtain ⟨LI, -⟩ := putA_I hupR (P.take j) C.toLowI (p1.sublist (List.take_sublist _ _)) fun v hv => p2 v (List.mem_of_mem_take hv)
      have hol2 : (putA up (P.take j) (metM n es i)).2.length ≤ n := LI.olen
      have hll2 : (zl (putA up (P.take j) (metM n es i)).1).length = n := by rw [zl_length]; exact LI.len
      have lo := fun g => go.rl.len (P := Try.prog) Try.underlying35 g
      rw [nat64_length] at lo
      simp only [kS1, bLookup, bMapSet, wantA, isCall, stepOp, evalO, evalL, evalP, evalM, putDst, flat, kA, kB, Nat.reduceLT, ↓reduceIte, kC, Nat.reduceEqDiff, aBuiltin, abinG, guardFree, abin, aInt, aUn, aNilCheck, retQ, retQ1, aresults, aresultL, aresult, mkF, undefV, reduceCtorEq, kD, kE, kF, kG, kH, kI, kJ, kK, aExtract, calleeOf, lo]
      refine KCond.intro (fun ht => ?_) (fun hf => ?_)
      · have hlj : j < P.length := lt_t ht
        clear ht
        have hoj := getElem?_of hlj
        have ad := go.rl.addr (P := Try.prog) Try.underlying35 Try.underlying3 (by kernel_rfl) (k := .i64) j (by rw [nat64_length]; exact hlj)
        have ld := go.rl.loadI (P := Try.prog) Try.underlying3 rfl j (by rw [nat64_length]; exact hlj)
        rw [nat64_get hlj] at ld
        have hstepT : P.take (j + 1) = P.take j ++ [P[j]] := List.take_succ_eq_append_getElem hlj
        generalize hw : P[j] = w at hoj ld hstepT
        have hwn : w < n := (p2 w (List.mem_of_getElem? hoj)).1
        have hstep : putA up (P.take (j + 1)) (metM n es i) = ((putA up (P.take j) (metM n es i)).1.set w (((((putA up (P.take j) (metM n es i)).2.length + 1 : Nat) : Int), up.getD w 0, (((putA up (P.take j) (metM n es i)).2.length + 1 : Nat) : Int))), (putA up (P.take j) (metM n es i)).2 ++ [w]) := by
          rw [hstepT, putA_append]; rfl
        have hlen1 : (putA up (P.take (j + 1)) (metM n es i)).2.length = (putA up (P.take j) (metM n es i)).2.length + 1 := by rw [hstep]; simp
        have hz1 : zl (putA up (P.take (j + 1)) (metM n es i)).1 = (zl (putA up (P.take j) (metM n es i)).1).set w ((((putA up (P.take j) (metM n es i)).2.length + 1 : Nat) : Int), up.getD w 0, 0) := by rw [hstep, zl_set]
        have gz := zl_get (putA up (P.take j) (metM n es i)).1 w
        generalize hA : zl (putA up (P.take j) (metM n es i)).1 = A at *
        generalize hm : (putA up (P.take j) (metM n es i)).2.length = m at *
        have gw := getL_of (ls := A) (v := w) (by omega)
        have gw2 : (getL A w).2.2 = 0 := by rw [gz]
        have st1 := sNum oT gw ((m + 1 : Nat) : Int)
        have oT1 := AHeap.own_put_eq hh T (.cells (flatL (A.set w (((m + 1 : Nat) : Int), (getL A w).2.1, (getL A w).2.2))))
        have go1 := GS.put go (.cells (flatL (A.set w (((m + 1 : Nat) : Int), (getL A w).2.1, (getL A w).2.2)))) nov
        have gu1 := GS.put gu (.cells (flatL (A.set w (((m + 1 : Nat) : Int), (getL A w).2.1, (getL A w).2.2)))) nuv
        have leh1 := leh.put (.cells (flatL (A.set w (((m + 1 : Nat) : Int), (getL A w).2.1, (getL A w).2.2)))) nT
        have gs1 := getL_of (ls := A.set w (((m + 1 : Nat) : Int), (getL A w).2.1, (getL A w).2.2)) (v := w) (by simp; omega)
        have gsv : getL (A.set w (((m + 1 : Nat) : Int), (getL A w).2.1, (getL A w).2.2)) w = (((m + 1 : Nat) : Int), (getL A w).2.1, (getL A w).2.2) := by rw [getL_set, if_pos ⟨rfl, by omega⟩]
        have st2 := sUp oT1 gs1 (up.getD w 0)
        rw [gsv] at st2
        simp only [List.set_set, gw2] at st2
        rw [gw2] at st1 oT1 go1 gu1 leh1 gs1 gsv
        simp only [kS1, bLookup, bMapSet, wantA, isCall, stepOp, evalO, evalL, evalP, evalM, putDst, flat, kA, kB, Nat.reduceLT, ↓reduceIte, kC, Nat.reduceEqDiff, aBuiltin, abinG, guardFree, abin, aInt, aUn, aNilCheck, retQ, retQ1, aresults, aresultL, aresult, mkF, undefV, reduceCtorEq, kD, kE, kF, kG, kH, kI, kJ, kK, aExtract, calleeOf, awrap_succ m (by omega), ad, ld, lAddr w hwn, fl0, aadd, Nat.add_zero, st1]
        generalize hh.put T (.cells (flatL (A.set w (((m + 1 : Nat) : Int), (getL A w).2.1, 0)))) = g1 at *
        have go1' : GI g1 ov (nat64 P) := go1
        have gu1' : GI g1 uv up := gu1
        have ld1 := go1'.rl.loadI (P := Try.prog) Try.underlying3 rfl j (by rw [nat64_length]; exact hlj)
        rw [nat64_get hlj, hw] at ld1
        have adU := gu1'.rl.addr (P := Try.prog) Try.underlying35 Try.underlying3 (by kernel_rfl) (k := .i64) w (by omega)
        have ldU := gu1'.rl.loadI (P := Try.prog) Try.underlying3 rfl w (by omega)
        rw [← getD_of (d := 0) (show w < up.length by omega)] at ldU
        refine KDraw.intro mixed (.fl 0 (.fl 1 (.fl 2 (.fl 3 (.fl 4 (.fl 5 (.fl 6 (.fl 7 (.fl 8 (.fl 9 (.fl 10 (.fl 11 (.fl 12 (.fl 13 (.ch 14 [0, 1, 2, 3, 4, 5, 6, 7, 8, 9, 10, 11, 13] (.done) .no))))))))))))))) (by kernel_rfl) ?_
        simp only [kS1, bLookup, bMapSet, wantA, isCall, stepOp, evalO, evalL, evalP, evalM, putDst, flat, kA, kB, Nat.reduceLT, ↓reduceIte, kC, Nat.reduceEqDiff, aBuiltin, abinG, guardFree, abin, aInt, aUn, aNilCheck, retQ, retQ1, aresults, aresultL, aresult, mkF, undefV, reduceCtorEq, kD, kE, kF, kG, kH, kI, kJ, kK, aExtract, calleeOf, kD1, Nat.reduceBEq, HoldsAll, kL, kM, kN, kO, ad, ld1, adU, ldU, lAddr w hwn, fl1, aadd, st2, awrap_succ j (by omega)]
        refine loop_again (P.length - (j + 1)) [(1, .pointer (some ⟨B, 0, none⟩)), (4, .slice (some ⟨T, 0, none⟩) n n), (5, .int .i64 ((m + 1 : Nat) : Int)), (6, .int .i64 i), (7, ov), (8, uv), (10, .int .i64 (j + 1 : Nat))] (by omega) (by simp only [hasAll, kS1, bLookup, bMapSet, wantA, isCall, stepOp, evalO, evalL, evalP, evalM, putDst, flat, kA, kB, Nat.reduceLT, ↓reduceIte, kC, Nat.reduceEqDiff, aBuiltin, abinG, guardFree, abin, aInt, aUn, aNilCheck, retQ, retQ1, aresults, aresultL, aresult, mkF, undefV, reduceCtorEq, kD, kE, kF, kG, kH, kI, kJ, kK, aExtract, calleeOf]; simp)
          ⟨j + 1, rfl, hlj, by rw [hlen1]; rfl, by rw [hz1]; exact AHeap.own_put_eq _ _ _, GS.put go1' _ nov, GS.put gu1' _ nuv, leh1.put _ nT⟩
      · have hge : P.length ≤ j := lt_f hf
        rw [List.take_of_length_le hge, ← hfrom] at oT
        have hcnt : (putA up (P.take j) (metM n es i)).2.length = (metM n es (i + 1)).2.length := by rw [List.take_of_length_le hge, ← hfrom]
        simp only [kS1, bLookup, bMapSet, wantA, isCall, stepOp, evalO, evalL, evalP, evalM, putDst, flat, kA, kB, Nat.reduceLT, ↓reduceIte, kC, Nat.reduceEqDiff, aBuiltin, abinG, guardFree, abin, aInt, aUn, aNilCheck, retQ, retQ1, aresults, aresultL, aresult, mkF, undefV, reduceCtorEq, kD, kE, kF, kG, kH, kI, kJ, kK, aExtract, calleeOf, hcnt, awrap_succ i (by omega)]
        exact loop_again (n - (i + 1)) [(1, .pointer (some ⟨B, 0, none⟩)), (4, .slice (some ⟨T, 0, none⟩) n n), (5, .int .i64 (metM n es (i + 1)).2.length), (6, .int .i64 (i + 1 : Nat))] (by omega) (by simp only [hasAll, kS1, bLookup, bMapSet, wantA, isCall, stepOp, evalO, evalL, evalP, evalM, putDst, flat, kA, kB, Nat.reduceLT, ↓reduceIte, kC, Nat.reduceEqDiff, aBuiltin, abinG, guardFree, abin, aInt, aUn, aNilCheck, retQ, retQ1, aresults, aresultL, aresult, mkF, undefV, reduceCtorEq, kD, kE, kF, kG, kH, kI, kJ, kK, aExtract, calleeOf]; simp) ⟨i + 1, rfl, hlt, rfl, oT, leh⟩
    · have hfrom : metM n es (i + 1) = metM n es i := by rw [metM, fromA, if_neg c]
      simp only [kS1, bLookup, bMapSet, wantA, isCall, stepOp, evalO, evalL, evalP, evalM, putDst, flat, kA, kB, Nat.reduceLT, ↓reduceIte, kC, Nat.reduceEqDiff, aBuiltin, abinG, guardFree, abin, aInt, aUn, aNilCheck, retQ, retQ1, aresults, aresultL, aresult, mkF, undefV, reduceCtorEq, kD, kE, kF, kG, kH, kI, kJ, kK, aExtract, calleeOf, c, awrap_succ i (by omega)]
      exact loop_again (n - (i + 1)) [(1, .pointer (some ⟨B, 0, none⟩)), (4, .slice (some ⟨T, 0, none⟩) n n), (5, .int .i64 (metM n es i).2.length), (6, .int .i64 (i + 1 : Nat))] (by omega) (by simp only [hasAll, kS1, bLookup, bMapSet, wantA, isCall, stepOp, evalO, evalL, evalP, evalM, putDst, flat, kA, kB, Nat.reduceLT, ↓reduceIte, kC, Nat.reduceEqDiff, aBuiltin, abinG, guardFree, abin, aInt, aUn, aNilCheck, retQ, retQ1, aresults, aresultL, aresult, mkF, undefV, reduceCtorEq, kD, kE, kF, kG, kH, kI, kJ, kK, aExtract, calleeOf]; simp) ⟨i + 1, rfl, hlt, by rw [hfrom]; rfl, by rw [hfrom]; exact oT, leq⟩
  have hge : n ≤ i := lt_f hf
  obtain rfl : i = n := by omega
  clear hge hf hi hall
  obtain ⟨num, up, S⟩ := lowM_S hR
  have hnu : ∀ w, w < i → (getL (zl (metM i es i).1) w).1 = (num w : Int) ∧ (getL (zl (metM i es i).1) w).2.1 = nxtI (up w) := fun w hw => by
    have k1 : (getL (lowM i es).1 w).1 = (getL (metM i es i).1 w).1 := by unfold lowM; rw [(ups_keep _ _ w).1, (edges_keep _ _ w).1]
    have k2 : (getL (lowM i es).1 w).2.1 = (getL (metM i es i).1 w).2.1 := by unfold lowM; rw [(ups_keep _ _ w).2, (edges_keep _ _ w).2]
    rw [zl_get, ← k1, ← k2]
    refine ⟨S.nums w hw, ?_⟩
    have h1 := S.ups w hw
    have h2 := (S.upr w hw).1
    rw [← h1]; unfold upI
    by_cases q : 0 ≤ (getL (lowM i es).1 w).2.1
    · rw [if_pos q]; simp only [nxtI]; omega
    · rw [if_neg q]; simp only [nxtI]; omega
  have hupn : ∀ w, w < i → ∀ u, up w = some u → u < i := fun w hw u hu => ((S.fo.upa w u hw hu).1.lt hR).1
  simp only [kS1, bLookup, bMapSet, wantA, isCall, stepOp, evalO, evalL, evalP, evalM, putDst, flat, kA, kB, Nat.reduceLT, ↓reduceIte, kC, Nat.reduceEqDiff, aBuiltin, abinG, guardFree, abin, aInt, aUn, aNilCheck, retQ, retQ1, aresults, aresultL, aresult, mkF, undefV, reduceCtorEq, kD, kE, kF, kG, kH, kI, kJ, kK, aExtract, calleeOf]
  refine KLoop.intro (fun k fr hz => ∃ (v : Nat) (A : List Lw), k = i - v ∧ v ≤ i ∧ fr = mkF [(1, .pointer (some ⟨B, 0, none⟩)), (4, .slice (some ⟨T, 0, none⟩) i i), (11, .int .i64 v)] ∧ hz.own T = some (.cells (flatL A)) ∧ A.length = i ∧
      (∀ w, w < i → (getL A w).1 = (num w : Int) ∧ (getL A w).2.1 = nxtI (up w)) ∧ (∀ w, w < v → getL A w = getL (lowM i es).1 w) ∧ Le h2 hz)
    i [(1, .pointer (some ⟨B, 0, none⟩)), (4, .slice (some ⟨T, 0, none⟩) i i), (11, .int .i64 (0 : Nat))] (by simp only [hasAll, kS1, bLookup, bMapSet, wantA, isCall, stepOp, evalO, evalL, evalP, evalM, putDst, flat, kA, kB, Nat.reduceLT, ↓reduceIte, kC, Nat.reduceEqDiff, aBuiltin, abinG, guardFree, abin, aInt, aUn, aNilCheck, retQ, retQ1, aresults, aresultL, aresult, mkF, undefV, reduceCtorEq, kD, kE, kF, kG, kH, kI, kJ, kK, aExtract, calleeOf]; simp) ⟨0, _, rfl, Nat.zero_le _, rfl, oT, hzl, hnu, fun w hw => by omega, leq⟩ ?_
  clear oT hzl hnu leq lAq hwq hol C z0 m0
  clear hq
  rintro k fr hz hwz ⟨v, A, rfl, hv, rfl, oT, hAl, hnu, hdone, lez⟩
  have lAz := lA hz (le2.trans lez)
  simp only [kS1, bLookup, bMapSet, wantA, isCall, stepOp, evalO, evalL, evalP, evalM, putDst, flat, kA, kB, Nat.reduceLT, ↓reduceIte, kC, Nat.reduceEqDiff, aBuiltin, abinG, guardFree, abin, aInt, aUn, aNilCheck, retQ, retQ1, aresults, aresultL, aresult, mkF, undefV, reduceCtorEq, kD, kE, kF, kG, kH, kI, kJ, kK, aExtract, calleeOf, fg0, aadd, Nat.zero_add, lAz.2.1]
  refine KCond.intro (fun ht => ?_) (fun hf => ?_)
  rotate_left
  · have hge : i ≤ v := lt_f hf
    obtain rfl : v = i := by omega
    simp only [kS1, bLookup, bMapSet, wantA, isCall, stepOp, evalO, evalL, evalP, evalM, putDst, flat, kA, kB, Nat.reduceLT, ↓reduceIte, kC, Nat.reduceEqDiff, aBuiltin, abinG, guardFree, abin, aInt, aUn, aNilCheck, retQ, retQ1, aresults, aresultL, aresult, mkF, undefV, reduceCtorEq, kD, kE, kF, kG, kH, kI, kJ, kK, aExtract, calleeOf]
    refine ⟨(le1.trans le2).trans lez, .inr ⟨hr, _, rfl, ?_⟩⟩
    have : A = (lowM v es).1 := by
      apply List.ext_getElem?
      intro w
      by_cases hw : w < v
      · rw [getL_of (by omega : w < A.length), getL_of (ls := (lowM v es).1) (by rw [S.len]; exact hw), hdone w hw]
      · rw [List.getElem?_eq_none (by omega), List.getElem?_eq_none (by rw [S.len]; omega)]
    rw [this] at oT hAl
    exact LR.own oT hAl
  have hlt : v < i := lt_t ht
  clear ht
  have gv := getL_of (ls := A) (v := v) (by omega)
  have ldn := lNum oT gv
  have st0 := sLow oT gv (getL A v).1
  simp only [kS1, bLookup, bMapSet, wantA, isCall, stepOp, evalO, evalL, evalP, evalM, putDst, flat, kA, kB, Nat.reduceLT, ↓reduceIte, kC, Nat.reduceEqDiff, aBuiltin, abinG, guardFree, abin, aInt, aUn, aNilCheck, retQ, retQ1, aresults, aresultL, aresult, mkF, undefV, reduceCtorEq, kD, kE, kF, kG, kH, kI, kJ, kK, aExtract, calleeOf, lAddr v hlt, fl0, fl2, aadd, Nat.add_zero, ldn, st0]
  have nv := hnu v hlt
  rw [nv.1] at st0 ⊢
  -- the lows of the others stay
  have keep : ∀ (x : Int), (∀ w, w < i → (getL (A.set v ((getL A v).1, (getL A v).2.1, x)) w).1 = (num w : Int) ∧ (getL (A.set v ((getL A v).1, (getL A v).2.1, x)) w).2.1 = nxtI (up w)) := fun x w hw => by
    obtain ⟨q1, q2⟩ := set_keep A v x w
    rw [q1, q2]; exact hnu w hw
  have P0 : LowP es num up v 0 0 (num v) := ⟨Nat.le_refl _, fun a b h => by omega, .inl rfl⟩
  have nv1 := nv.1
  rw [show ((num v : Int), (getL A v).2.1, (num v : Int)) = ((getL A v).1, (getL A v).2.1, (num v : Int)) by rw [nv1]]
  refine KLoop.intro (fun k fr hy => ∃ (u x : Nat), k = i - u ∧ u ≤ i ∧ fr = mkF [(1, .pointer (some ⟨B, 0, none⟩)), (4, .slice (some ⟨T, 0, none⟩) i i), (11, .int .i64 v), (12, .int .i64 u)] ∧ hy.own T = some (.cells (flatL (A.set v ((getL A v).1, (getL A v).2.1, (x : Int))))) ∧ LowP es num up v u 0 x ∧ Le h2 hy)
    i [(1, .pointer (some ⟨B, 0, none⟩)), (4, .slice (some ⟨T, 0, none⟩) i i), (11, .int .i64 v), (12, .int .i64 (0 : Nat))] (by simp only [hasAll, kS1, bLookup, bMapSet, wantA, isCall, stepOp, evalO, evalL, evalP, evalM, putDst, flat, kA, kB, Nat.reduceLT, ↓reduceIte, kC, Nat.reduceEqDiff, aBuiltin, abinG, guardFree, abin, aInt, aUn, aNilCheck, retQ, retQ1, aresults, aresultL, aresult, mkF, undefV, reduceCtorEq, kD, kE, kF, kG, kH, kI, kJ, kK, aExtract, calleeOf]; simp) ⟨0, num v, rfl, Nat.zero_le _, rfl, AHeap.own_put_eq _ _ _, P0, lez.put _ nT⟩ ?_
  clear P0 st0 ldn gv lAz lez hwz oT
  clear hz
  rintro k fr hy hwy ⟨u, x, rfl, hu, rfl, oT, P, ley⟩
  have lAy := lA hy (le2.trans ley)
  simp only [kS1, bLookup, bMapSet, wantA, isCall, stepOp, evalO, evalL, evalP, evalM, putDst, flat, kA, kB, Nat.reduceLT, ↓reduceIte, kC, Nat.reduceEqDiff, aBuiltin, abinG, guardFree, abin, aInt, aUn, aNilCheck, retQ, retQ1, aresults, aresultL, aresult, mkF, undefV, reduceCtorEq, kD, kE, kF, kG, kH, kI, kJ, kK, aExtract, calleeOf, fg0, aadd, Nat.zero_add, lAy.2.1]
  refine KCond.intro (fun ht => ?_) (fun hf => ?_)
  rotate_left
  · have hge : i ≤ u := lt_f hf
    obtain rfl : u = i := by omega
    simp only [kS1, bLookup, bMapSet, wantA, isCall, stepOp, evalO, evalL, evalP, evalM, putDst, flat, kA, kB, Nat.reduceLT, ↓reduceIte, kC, Nat.reduceEqDiff, aBuiltin, abinG, guardFree, abin, aInt, aUn, aNilCheck, retQ, retQ1, aresults, aresultL, aresult, mkF, undefV, reduceCtorEq, kD, kE, kF, kG, kH, kI, kJ, kK, aExtract, calleeOf, awrap_succ v (by omega)]
    refine loop_again (u - (v + 1)) [(1, .pointer (some ⟨B, 0, none⟩)), (4, .slice (some ⟨T, 0, none⟩) u u), (11, .int .i64 (v + 1 : Nat))] (by omega) (by simp only [hasAll, kS1, bLookup, bMapSet, wantA, isCall, stepOp, evalO, evalL, evalP, evalM, putDst, flat, kA, kB, Nat.reduceLT, ↓reduceIte, kC, Nat.reduceEqDiff, aBuiltin, abinG, guardFree, abin, aInt, aUn, aNilCheck, retQ, retQ1, aresults, aresultL, aresult, mkF, undefV, reduceCtorEq, kD, kE, kF, kG, kH, kI, kJ, kK, aExtract, calleeOf]; simp)
      ⟨v + 1, _, rfl, hlt, rfl, oT, by simpa using hAl, keep _, fun w hw => ?_, ley⟩
    by_cases e : w = v
    · subst e
      rw [getL_set, if_pos ⟨rfl, by omega⟩]
      obtain ⟨y, hy1, hy2⟩ := S.low w hlt
      have hx : LowD es num up (Anc up) w x := ⟨P.self, fun a b ha hn => P.back a b (.inl (hn.1.lt hR).1) ha hn, P.some_⟩
      have := hx.uniq hy2
      have hup : (getL (lowM u es).1 w).2.1 = nxtI (up w) := by
        have h1 := S.ups w hlt
        have h2 := (S.upr w hlt).1
        rw [← h1]; unfold upI
        by_cases q : 0 ≤ (getL (lowM u es).1 w).2.1
        · rw [if_pos q]; simp only [nxtI]; omega
        · rw [if_neg q]; simp only [nxtI]; omega
      refine Prod.ext ?_ (Prod.ext ?_ ?_)
      · show (getL A w).1 = _; rw [nv.1, S.nums w hlt]
      · show (getL A w).2.1 = _; rw [nv.2, hup]
      · show (x : Int) = _; rw [hy1, this]
    · rw [getL_set, if_neg (fun h => e h.1.symm)]; exact hdone w (by omega)
  have hlu : u < i := lt_t ht
  clear ht
  simp only [kS1, bLookup, bMapSet, wantA, isCall, stepOp, evalO, evalL, evalP, evalM, putDst, flat, kA, kB, Nat.reduceLT, ↓reduceIte, kC, Nat.reduceEqDiff, aBuiltin, abinG, guardFree, abin, aInt, aUn, aNilCheck, retQ, retQ1, aresults, aresultL, aresult, mkF, undefV, reduceCtorEq, kD, kE, kF, kG, kH, kI, kJ, kK, aExtract, calleeOf]
  refine KLoop.intro (fun k fr hx => ∃ (w x : Nat), k = i - w ∧ w ≤ i ∧ fr = mkF [(1, .pointer (some ⟨B, 0, none⟩)), (4, .slice (some ⟨T, 0, none⟩) i i), (11, .int .i64 v), (12, .int .i64 u), (13, .int .i64 w)] ∧ hx.own T = some (.cells (flatL (A.set v ((getL A v).1, (getL A v).2.1, (x : Int))))) ∧ LowP es num up v u w x ∧ Le h2 hx)
    i [(1, .pointer (some ⟨B, 0, none⟩)), (4, .slice (some ⟨T, 0, none⟩) i i), (11, .int .i64 v), (12, .int .i64 u), (13, .int .i64 (0 : Nat))] (by simp only [hasAll, kS1, bLookup, bMapSet, wantA, isCall, stepOp, evalO, evalL, evalP, evalM, putDst, flat, kA, kB, Nat.reduceLT, ↓reduceIte, kC, Nat.reduceEqDiff, aBuiltin, abinG, guardFree, abin, aInt, aUn, aNilCheck, retQ, retQ1, aresults, aresultL, aresult, mkF, undefV, reduceCtorEq, kD, kE, kF, kG, kH, kI, kJ, kK, aExtract, calleeOf]; simp) ⟨0, x, rfl, Nat.zero_le _, rfl, oT, P, ley⟩ ?_
  clear P oT ley lAy hwy
  clear hy x
  rintro k fr hx hwx ⟨w, x, rfl, hw, rfl, oT, P, lex⟩
  have lAx := lA hx (le2.trans lex)
  have hSl : (A.set v ((getL A v).1, (getL A v).2.1, (x : Int))).length = i := by simpa using hAl
  have hSk := keep (x : Int)
  have hSv : getL (A.set v ((getL A v).1, (getL A v).2.1, (x : Int))) v = ((getL A v).1, (getL A v).2.1, (x : Int)) := by rw [getL_set, if_pos ⟨rfl, by omega⟩]
  have next : LowP es num up v u i x → LowP es num up v (u + 1) 0 x := fun P => ⟨P.self, fun a b h ha hn => P.back a b (by
    rcases h with h | ⟨_, h⟩
    · by_cases e : a = u
      · exact .inr ⟨e, (hn.1.lt hR).2⟩
      · exact .inl (by omega)
    · omega) ha hn, P.some_⟩
  by_cases hwi : w < i
  rotate_left
  · have d1 : decide ((w : Int) < (i : Int)) = false := decide_eq_false (by omega)
    have : w = i := by omega
    subst this
    simp only [kS1, bLookup, bMapSet, wantA, isCall, stepOp, evalO, evalL, evalP, evalM, putDst, flat, kA, kB, Nat.reduceLT, ↓reduceIte, kC, Nat.reduceEqDiff, aBuiltin, abinG, guardFree, abin, aInt, aUn, aNilCheck, retQ, retQ1, aresults, aresultL, aresult, mkF, undefV, reduceCtorEq, kD, kE, kF, kG, kH, kI, kJ, kK, aExtract, calleeOf, fg0, aadd, Nat.zero_add, lAx.2.1, d1, awrap_succ u (by omega)]
    exact loop_again (w - (u + 1)) [(1, .pointer (some ⟨B, 0, none⟩)), (4, .slice (some ⟨T, 0, none⟩) w w), (11, .int .i64 v), (12, .int .i64 (u + 1 : Nat))] (by omega) (by simp only [hasAll, kS1, bLookup, bMapSet, wantA, isCall, stepOp, evalO, evalL, evalP, evalM, putDst, flat, kA, kB, Nat.reduceLT, ↓reduceIte, kC, Nat.reduceEqDiff, aBuiltin, abinG, guardFree, abin, aInt, aUn, aNilCheck, retQ, retQ1, aresults, aresultL, aresult, mkF, undefV, reduceCtorEq, kD, kE, kF, kG, kH, kI, kJ, kK, aExtract, calleeOf]; simp) ⟨u + 1, x, rfl, hlu, rfl, oT, next P, lex⟩
  have d1 : decide ((w : Int) < (i : Int)) = true := decide_eq_true (by omega)
  simp only [kS1, bLookup, bMapSet, wantA, isCall, stepOp, evalO, evalL, evalP, evalM, putDst, flat, kA, kB, Nat.reduceLT, ↓reduceIte, kC, Nat.reduceEqDiff, aBuiltin, abinG, guardFree, abin, aInt, aUn, aNilCheck, retQ, retQ1, aresults, aresultL, aresult, mkF, undefV, reduceCtorEq, kD, kE, kF, kG, kH, kI, kJ, kK, aExtract, calleeOf, fg0, aadd, Nat.zero_add, lAx.2.1, d1]
  refine KCall.intro (by simp only [kS1, bLookup, bMapSet, wantA, isCall, stepOp, evalO, evalL, evalP, evalM, putDst, flat, kA, kB, Nat.reduceLT, ↓reduceIte, kC, Nat.reduceEqDiff, aBuiltin, abinG, guardFree, abin, aInt, aUn, aNilCheck, retQ, retQ1, aresults, aresultL, aresult, mkF, undefV, reduceCtorEq, kD, kE, kF, kG, kH, kI, kJ, kK, aExtract, calleeOf] <;> rfl) ⟨Try.func58, rfl, by decide⟩ (Rdown_any W0 (.slice (some ⟨T, 0, none⟩) i i) i u v es (A.set v ((getL A v).1, (getL A v).2.1, (x : Int))) num up hx (LR.own oT hSl) S.fo hSl (fun w hw => (hSk w hw).2) hlu hlt) ?_
  rintro r hx' wx' ⟨rfl, rfl⟩
  by_cases hd : Anc up v u
  rotate_left
  · have d2 : @decide (Anc up v u) (Classical.propDecidable _) = false := @decide_eq_false _ (Classical.propDecidable _) hd
    simp only [kS1, bLookup, bMapSet, wantA, isCall, stepOp, evalO, evalL, evalP, evalM, putDst, flat, kA, kB, Nat.reduceLT, ↓reduceIte, kC, Nat.reduceEqDiff, aBuiltin, abinG, guardFree, abin, aInt, aUn, aNilCheck, retQ, retQ1, aresults, aresultL, aresult, mkF, undefV, reduceCtorEq, kD, kE, kF, kG, kH, kI, kJ, kK, aExtract, calleeOf, d2, awrap_succ u (by omega)]
    refine loop_again (i - (u + 1)) [(1, .pointer (some ⟨B, 0, none⟩)), (4, .slice (some ⟨T, 0, none⟩) i i), (11, .int .i64 v), (12, .int .i64 (u + 1 : Nat))] (by omega) (by simp only [hasAll, kS1, bLookup, bMapSet, wantA, isCall, stepOp, evalO, evalL, evalP, evalM, putDst, flat, kA, kB, Nat.reduceLT, ↓reduceIte, kC, Nat.reduceEqDiff, aBuiltin, abinG, guardFree, abin, aInt, aUn, aNilCheck, retQ, retQ1, aresults, aresultL, aresult, mkF, undefV, reduceCtorEq, kD, kE, kF, kG, kH, kI, kJ, kK, aExtract, calleeOf]; simp) ⟨u + 1, x, rfl, hlu, rfl, oT, ⟨P.self, fun a b h ha hn => ?_, P.some_⟩, lex⟩
    rcases h with h | ⟨_, h⟩
    · by_cases e : a = u
      · subst e; exact absurd ha hd
      · exact P.back a b (.inl (by omega)) ha hn
    · omega
  have d2 : @decide (Anc up v u) (Classical.propDecidable _) = true := @decide_eq_true _ (Classical.propDecidable _) hd
  simp only [kS1, bLookup, bMapSet, wantA, isCall, stepOp, evalO, evalL, evalP, evalM, putDst, flat, kA, kB, Nat.reduceLT, ↓reduceIte, kC, Nat.reduceEqDiff, aBuiltin, abinG, guardFree, abin, aInt, aUn, aNilCheck, retQ, retQ1, aresults, aresultL, aresult, mkF, undefV, reduceCtorEq, kD, kE, kF, kG, kH, kI, kJ, kK, aExtract, calleeOf, d2]
  have gu := getL_of (ls := A.set v ((getL A v).1, (getL A v).2.1, (x : Int))) (v := u) (by omega)
  have gw := getL_of (ls := A.set v ((getL A v).1, (getL A v).2.1, (x : Int))) (v := w) (by omega)
  have gv := getL_of (ls := A.set v ((getL A v).1, (getL A v).2.1, (x : Int))) (v := v) (by omega)
  have eu : ∀ (a : Nat) (o : Option Nat), nxtI o = (a : Int) ↔ o = some a := fun a o => by
    cases o with
    | none => simp [nxtI] <;> omega
    | some b => simp [nxtI] <;> omega
  have skip : ¬ (Nt es up u w ∧ num w < x) → LowP es num up v u (w + 1) x := fun hn => ⟨P.self, fun a b h ha' hnt => by
    by_cases e : a = u ∧ b = w
    · obtain ⟨rfl, rfl⟩ := e
      have : ¬ num b < x := fun k => hn ⟨hnt, k⟩
      omega
    · exact P.back a b (by omega) ha' hnt, P.some_⟩
  have hsv := hSv
  rw [hSv] at gv
  have nu := hSk u hlu
  have nw := hSk w hwi
  generalize hA' : A.set v ((getL A v).1, (getL A v).2.1, (x : Int)) = A' at *
  have rU : ∀ g, Le hx' g → aload Try.prog g 3 ⟨T, u * 3 + 1, none⟩ = some (.int .i64 (nxtI (up u))) := fun g l => by rw [lUp (l.own _ _ oT) gu, nu.2]
  have rW : ∀ g, Le hx' g → aload Try.prog g 3 ⟨T, w * 3 + 1, none⟩ = some (.int .i64 (nxtI (up w))) := fun g l => by rw [lUp (l.own _ _ oT) gw, nw.2]
  have rN : ∀ g, Le hx' g → aload Try.prog g 3 ⟨T, w * 3, none⟩ = some (.int .i64 (num w : Int)) := fun g l => by rw [lNum (l.own _ _ oT) gw, nw.1]
  have rL : ∀ g, Le hx' g → aload Try.prog g 3 ⟨T, v * 3 + 2, none⟩ = some (.int .i64 (x : Int)) := fun g l => by rw [lLow (l.own _ _ oT) gv]
  refine KDraw.intro mixed (.fl 0 (.fl 1 (.fl 2 (.ch 3 [0, 1, 2] (.fl 4 (.fl 5 (.fl 6 (.fl 7 (.fl 8 (.fl 9 (.fl 10 (.fl 11 (.fl 12 (.fl 13 (.fl 14 (.fl 15 (.fl 16 (.fl 17 (.fl 18 (.fl 19 (.fl 20 (.fl 21 (.fl 22 (.fl 23 (.fl 24 (.fl 25 (.fl 26 (.fl 27 (.fl 28 (.fl 29 (.fl 30 (.fl 31 (.fl 32 (.fl 33 (.fl 34 (.done)))))))))))))))))))))))))))))))) .no)))) (by kernel_rfl) ?_
  simp only [kS1, bLookup, bMapSet, wantA, isCall, stepOp, evalO, evalL, evalP, evalM, putDst, flat, kA, kB, Nat.reduceLT, ↓reduceIte, kC, Nat.reduceEqDiff, aBuiltin, abinG, guardFree, abin, aInt, aUn, aNilCheck, retQ, retQ1, aresults, aresultL, aresult, mkF, undefV, reduceCtorEq, kD, kE, kF, kG, kH, kI, kJ, kK, aExtract, calleeOf, kD1, Nat.reduceBEq, HoldsAll, kL, kM, kN, kO, lAx.1]
  refine KGCall.intro (by simp only [kS1, bLookup, bMapSet, wantA, isCall, stepOp, evalO, evalL, evalP, evalM, putDst, flat, kA, kB, Nat.reduceLT, ↓reduceIte, kC, Nat.reduceEqDiff, aBuiltin, abinG, guardFree, abin, aInt, aUn, aNilCheck, retQ, retQ1, aresults, aresultL, aresult, mkF, undefV, reduceCtorEq, kD, kE, kF, kG, kH, kI, kJ, kK, aExtract, calleeOf] <;> rfl) ⟨Try.func59, rfl, by decide⟩ (RHas_any W0 (.agg #[.int .i64 (i : Int), ev]) i u w es hx' (hg0.le ((le1.trans le2).trans lex)) hr) ?_
  rintro r g1 wg1 ⟨rfl, lg1⟩
  have lAg := lA g1 (le2.trans (lex.trans lg1))
  have q1 := rU g1 lg1
  have q2 := rW g1 lg1
  have q3 := rN g1 lg1
  have q4 := rL g1 lg1
  have oT1 := lg1.own _ _ oT
  have leg := lex.trans lg1
  by_cases ha : adj es u w
  rotate_left
  · have e1 : decide (adj es u w) = false := decide_eq_false ha
    simp only [kS1, bLookup, bMapSet, wantA, isCall, stepOp, evalO, evalL, evalP, evalM, putDst, flat, kA, kB, Nat.reduceLT, ↓reduceIte, kC, Nat.reduceEqDiff, aBuiltin, abinG, guardFree, abin, aInt, aUn, aNilCheck, retQ, retQ1, aresults, aresultL, aresult, mkF, undefV, reduceCtorEq, kD, kE, kF, kG, kH, kI, kJ, kK, aExtract, calleeOf, kD1, Nat.reduceBEq, HoldsAll, kL, kM, kN, kO, e1, lAx.1, lAg.1, awrap_succ w (by omega)]
    exact loop_again (i - (w + 1)) [(1, .pointer (some ⟨B, 0, none⟩)), (4, .slice (some ⟨T, 0, none⟩) i i), (11, .int .i64 v), (12, .int .i64 u), (13, .int .i64 (w + 1 : Nat))] (by omega) (by simp only [hasAll, kS1, bLookup, bMapSet, wantA, isCall, stepOp, evalO, evalL, evalP, evalM, putDst, flat, kA, kB, Nat.reduceLT, ↓reduceIte, kC, Nat.reduceEqDiff, aBuiltin, abinG, guardFree, abin, aInt, aUn, aNilCheck, retQ, retQ1, aresults, aresultL, aresult, mkF, undefV, reduceCtorEq, kD, kE, kF, kG, kH, kI, kJ, kK, aExtract, calleeOf]; simp) ⟨w + 1, x, rfl, hwi, rfl, by rw [hA']; exact oT1, skip fun k => ha k.1.1, leg⟩
  have e1 : decide (adj es u w) = true := decide_eq_true ha
  by_cases k1 : up u = some w
  · have e2 : decide (nxtI (up u) = (w : Int)) = true := decide_eq_true ((eu _ _).2 k1)
    simp only [kS1, bLookup, bMapSet, wantA, isCall, stepOp, evalO, evalL, evalP, evalM, putDst, flat, kA, kB, Nat.reduceLT, ↓reduceIte, kC, Nat.reduceEqDiff, aBuiltin, abinG, guardFree, abin, aInt, aUn, aNilCheck, retQ, retQ1, aresults, aresultL, aresult, mkF, undefV, reduceCtorEq, kD, kE, kF, kG, kH, kI, kJ, kK, aExtract, calleeOf, kD1, Nat.reduceBEq, HoldsAll, kL, kM, kN, kO, e1, e2, bne, lAx.1, lAg.1, lAddr u hlu, lAddr w hwi, lAddr v hlt, fl0, fl1, fl2, aadd, Nat.add_zero, q1, q2, q3, q4, awrap_succ w (by omega)]
    exact loop_again (i - (w + 1)) [(1, .pointer (some ⟨B, 0, none⟩)), (4, .slice (some ⟨T, 0, none⟩) i i), (11, .int .i64 v), (12, .int .i64 u), (13, .int .i64 (w + 1 : Nat))] (by omega) (by simp only [hasAll, kS1, bLookup, bMapSet, wantA, isCall, stepOp, evalO, evalL, evalP, evalM, putDst, flat, kA, kB, Nat.reduceLT, ↓reduceIte, kC, Nat.reduceEqDiff, aBuiltin, abinG, guardFree, abin, aInt, aUn, aNilCheck, retQ, retQ1, aresults, aresultL, aresult, mkF, undefV, reduceCtorEq, kD, kE, kF, kG, kH, kI, kJ, kK, aExtract, calleeOf]; simp) ⟨w + 1, x, rfl, hwi, rfl, by rw [hA']; exact oT1, skip fun k => k.1.2.1 k1, leg⟩
  have e2 : decide (nxtI (up u) = (w : Int)) = false := decide_eq_false fun k => k1 ((eu _ _).1 k)
  by_cases k2 : up w = some u
  · have e3 : decide (nxtI (up w) = (u : Int)) = true := decide_eq_true ((eu _ _).2 k2)
    simp only [kS1, bLookup, bMapSet, wantA, isCall, stepOp, evalO, evalL, evalP, evalM, putDst, flat, kA, kB, Nat.reduceLT, ↓reduceIte, kC, Nat.reduceEqDiff, aBuiltin, abinG, guardFree, abin, aInt, aUn, aNilCheck, retQ, retQ1, aresults, aresultL, aresult, mkF, undefV, reduceCtorEq, kD, kE, kF, kG, kH, kI, kJ, kK, aExtract, calleeOf, kD1, Nat.reduceBEq, HoldsAll, kL, kM, kN, kO, e1, e2, e3, bne, lAx.1, lAg.1, lAddr u hlu, lAddr w hwi, lAddr v hlt, fl0, fl1, fl2, aadd, Nat.add_zero, q1, q2, q3, q4, awrap_succ w (by omega)]
    exact loop_again (i - (w + 1)) [(1, .pointer (some ⟨B, 0, none⟩)), (4, .slice (some ⟨T, 0, none⟩) i i), (11, .int .i64 v), (12, .int .i64 u), (13, .int .i64 (w + 1 : Nat))] (by omega) (by simp only [hasAll, kS1, bLookup, bMapSet, wantA, isCall, stepOp, evalO, evalL, evalP, evalM, putDst, flat, kA, kB, Nat.reduceLT, ↓reduceIte, kC, Nat.reduceEqDiff, aBuiltin, abinG, guardFree, abin, aInt, aUn, aNilCheck, retQ, retQ1, aresults, aresultL, aresult, mkF, undefV, reduceCtorEq, kD, kE, kF, kG, kH, kI, kJ, kK, aExtract, calleeOf]; simp) ⟨w + 1, x, rfl, hwi, rfl, by rw [hA']; exact oT1, skip fun k => k.1.2.2 k2, leg⟩
  have e3 : decide (nxtI (up w) = (u : Int)) = false := decide_eq_false fun k => k2 ((eu _ _).1 k)
  by_cases k3 : num w < x
  · have e4 : decide ((num w : Int) < (x : Int)) = true := decide_eq_true (by omega)
    have st := sLow oT1 gv (num w : Int)
    simp only at st
    have hset : A'.set v ((getL A v).1, (getL A v).2.1, (num w : Int)) = A.set v ((getL A v).1, (getL A v).2.1, (num w : Int)) := by rw [← hA', List.set_set]
    rw [hset] at st
    simp only [kS1, bLookup, bMapSet, wantA, isCall, stepOp, evalO, evalL, evalP, evalM, putDst, flat, kA, kB, Nat.reduceLT, ↓reduceIte, kC, Nat.reduceEqDiff, aBuiltin, abinG, guardFree, abin, aInt, aUn, aNilCheck, retQ, retQ1, aresults, aresultL, aresult, mkF, undefV, reduceCtorEq, kD, kE, kF, kG, kH, kI, kJ, kK, aExtract, calleeOf, kD1, Nat.reduceBEq, HoldsAll, kL, kM, kN, kO, e1, e2, e3, e4, bne, lAx.1, lAg.1, lAddr u hlu, lAddr w hwi, lAddr v hlt, fl0, fl1, fl2, aadd, Nat.add_zero, q1, q2, q3, q4, st, awrap_succ w (by omega)]
    refine loop_again (i - (w + 1)) [(1, .pointer (some ⟨B, 0, none⟩)), (4, .slice (some ⟨T, 0, none⟩) i i), (11, .int .i64 v), (12, .int .i64 u), (13, .int .i64 (w + 1 : Nat))] (by omega) (by simp only [hasAll, kS1, bLookup, bMapSet, wantA, isCall, stepOp, evalO, evalL, evalP, evalM, putDst, flat, kA, kB, Nat.reduceLT, ↓reduceIte, kC, Nat.reduceEqDiff, aBuiltin, abinG, guardFree, abin, aInt, aUn, aNilCheck, retQ, retQ1, aresults, aresultL, aresult, mkF, undefV, reduceCtorEq, kD, kE, kF, kG, kH, kI, kJ, kK, aExtract, calleeOf]; simp) ⟨w + 1, num w, rfl, hwi, rfl, AHeap.own_put_eq _ _ _, ⟨?_, fun a b h ha' hnt => ?_, ?_⟩, leg.put _ nT⟩
    · have := P.self; omega
    · by_cases e : a = u ∧ b = w
      · obtain ⟨rfl, rfl⟩ := e; exact Nat.le_refl _
      · have := P.back a b (by omega) ha' hnt; omega
    · exact .inr ⟨u, w, hd, ⟨ha, k1, k2⟩, rfl⟩
  · have e4 : decide ((num w : Int) < (x : Int)) = false := decide_eq_false (by omega)
    simp only [kS1, bLookup, bMapSet, wantA, isCall, stepOp, evalO, evalL, evalP, evalM, putDst, flat, kA, kB, Nat.reduceLT, ↓reduceIte, kC, Nat.reduceEqDiff, aBuiltin, abinG, guardFree, abin, aInt, aUn, aNilCheck, retQ, retQ1, aresults, aresultL, aresult, mkF, undefV, reduceCtorEq, kD, kE, kF, kG, kH, kI, kJ, kK, aExtract, calleeOf, kD1, Nat.reduceBEq, HoldsAll, kL, kM, kN, kO, e1, e2, e3, e4, bne, lAx.1, lAg.1, lAddr u hlu, lAddr w hwi, lAddr v hlt, fl0, fl1, fl2, aadd, Nat.add_zero, q1, q2, q3, q4, awrap_succ w (by omega)]
    exact loop_again (i - (w + 1)) [(1, .pointer (some ⟨B, 0, none⟩)), (4, .slice (some ⟨T, 0, none⟩) i i), (11, .int .i64 v), (12, .int .i64 u), (13, .int .i64 (w + 1 : Nat))] (by omega) (by simp only [hasAll, kS1, bLookup, bMapSet, wantA, isCall, stepOp, evalO, evalL, evalP, evalM, putDst, flat, kA, kB, Nat.reduceLT, ↓reduceIte, kC, Nat.reduceEqDiff, aBuiltin, abinG, guardFree, abin, aInt, aUn, aNilCheck, retQ, retQ1, aresults, aresultL, aresult, mkF, undefV, reduceCtorEq, kD, kE, kF, kG, kH, kI, kJ, kK, aExtract, calleeOf]; simp) ⟨w + 1, x, rfl, hwi, rfl, by rw [hA']; exact oT1, skip fun k => k3 k.2, leg⟩
end Go.Fw
