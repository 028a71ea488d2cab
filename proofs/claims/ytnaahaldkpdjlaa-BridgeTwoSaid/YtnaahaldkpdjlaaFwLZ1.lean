/- A text of the proof. -/
import Derived.Test.YtnaahaldkpdjlaaFwLW3
import Derived.Test.YtnaahaldkpdjlaaFwLW8
import Derived.Test.YtnaahaldkpdjlaaFwLW1
set_option linter.unusedSimpArgs false
set_option linter.unusedVariables false
namespace Go.Fw
open Go.Proofs
attribute [local irreducible] KO4 KO3 KO2 KO1 KO KN KX KE VK KCond KDraw KCall KLoop
set_option maxHeartbeats 8000000
set_option maxRecDepth 10000
theorem Walk_any (W0 : Base) (v : Value) (n s : Nat) (es : List Pr) (h : AHeap) (hg : GR h v ⟨(n : Int), es⟩) (hr : RightG ⟨(n : Int), es⟩) (hs : s < n) :
  AC Try.prog W0 93 [v, .int .i64 (s : Int)] h fun x h' => ∃ ov U o up, x = .tuple #[ov, .slice (some ⟨U, 0, none⟩) n n, .int .i64 0] ∧ GI h' ov (nat64 o) ∧ (h'.own U = some (.cells (I64 up)) ∧ blk ov ≠ some U ∧ h.own U = none) ∧ DfsFin n es s o up ∧ Le h h' ∧ Apart h ov := by
 have hg0 := hg
 obtain ⟨ev, rfl, hp⟩ := hg.open
 have h200 : (n : Int) ≤ 200 := hr.n1
 have h594 : es.length ≤ 594 := hr.len
 refine AC.vc (fn := Try.f93) (c := _) ⟨Try.func93, rfl, by decide⟩ Try.ntmps93 Try.results93 (by simp) fun hwf => ?_
 simp only [argFrame, argFrom, Nat.reduceAdd]
 obtain ⟨h1, b1, le1, wf1, -, lA⟩ := boxG (n := (n : Int)) hwf hp
 generalize h.next = B at *
 have lA1 := lA h1 (Le.refl _)
 obtain ⟨h2, e2, l2, w2, o2⟩ := alloc_f wf1 [.int .i64 (s : Int)]
 have rs : RL isI h2 (.slice (some ⟨h1.next, 0, none⟩) 1 1) [(s : Int)] := RL.ofI (RS.whole o2 rfl)
 simp only [kS1, bLookup, bMapSet, wantA, isCall, stepOp, evalO, evalL, evalP, evalM, putDst, flat, kA, kB, Nat.reduceLT, ↓reduceIte, kC, Nat.reduceEqDiff, aBuiltin, abinG, guardFree, abin, aInt, aUn, aNilCheck, retQ, retQ1, aresults, aresultL, aresult, mkF, undefV, reduceCtorEq, kD, kE, kF, kG, kH, kI, kJ, kK, aExtract, calleeOf, b1, lA1.1, mk1, e2]
 generalize Value.slice (some ⟨h1.next, 0, none⟩) 1 1 = sv at *
 refine KCall.intro (by simp only [kS1, bLookup, bMapSet, wantA, isCall, stepOp, evalO, evalL, evalP, evalM, putDst, flat, kA, kB, Nat.reduceLT, ↓reduceIte, kC, Nat.reduceEqDiff, aBuiltin, abinG, guardFree, abin, aInt, aUn, aNilCheck, retQ, retQ1, aresults, aresultL, aresult, mkF, undefV, reduceCtorEq, kD, kE, kF, kG, kH, kI, kJ, kK, aExtract, calleeOf] <;> rfl) ⟨Try.func61, rfl, by decide⟩ (start_any W0 _ sv ⟨(n : Int), es⟩ [(s : Int)] h2 (hg0.le (le1.trans l2)) rs (by simp)) ?_
 rintro x h3 wf3 ⟨le3, lv, e, rfl, hc⟩
 have le03 := (le1.trans l2).trans le3
 have hall : ∀ x ∈ [(s : Int)], 0 ≤ x ∧ x < (n : Int) := fun x hx => by rw [List.mem_singleton] at hx; subst hx; omega
 rcases hc with ⟨hnr, _, _⟩ | ⟨_, hns, _, _⟩ | ⟨_, _, rfl, hrows⟩
 ·exact absurd hr hnr
 ·exact absurd hall hns
 ·simp only [Int.toNat_natCast] at hrows
  simp only [kS1, bLookup, bMapSet, wantA, isCall, stepOp, evalO, evalL, evalP, evalM, putDst, flat, kA, kB, Nat.reduceLT, ↓reduceIte, kC, Nat.reduceEqDiff, aBuiltin, abinG, guardFree, abin, aInt, aUn, aNilCheck, retQ, retQ1, aresults, aresultL, aresult, mkF, undefV, reduceCtorEq, kD, kE, kF, kG, kH, kI, kJ, kK, aExtract, calleeOf, bne]
  refine KCall.intro (by simp only [kS1, bLookup, bMapSet, wantA, isCall, stepOp, evalO, evalL, evalP, evalM, putDst, flat, kA, kB, Nat.reduceLT, ↓reduceIte, kC, Nat.reduceEqDiff, aBuiltin, abinG, guardFree, abin, aInt, aUn, aNilCheck, retQ, retQ1, aresults, aresultL, aresult, mkF, undefV, reduceCtorEq, kD, kE, kF, kG, kH, kI, kJ, kK, aExtract, calleeOf] <;> rfl) ⟨Try.func62, rfl, by decide⟩ (walk_any W0 lv n s es h3 hrows hr.inR hr.asc (by omega) (by omega) hs) ?_
  rintro x h4 wf4 ⟨ov, uv, o, up, rfl, ho, hu, hd, le4, ap⟩
  simp only [kS1, bLookup, bMapSet, wantA, isCall, stepOp, evalO, evalL, evalP, evalM, putDst, flat, kA, kB, Nat.reduceLT, ↓reduceIte, kC, Nat.reduceEqDiff, aBuiltin, abinG, guardFree, abin, aInt, aUn, aNilCheck, retQ, retQ1, aresults, aresultL, aresult, mkF, undefV, reduceCtorEq, kD, kE, kF, kG, kH, kI, kJ, kK, aExtract, calleeOf]
  refine ⟨ov, uv, o, up, rfl, ho, ⟨hu.1, hu.2.1, le03.none hu.2.2⟩, hd, le03.trans le4, ?_⟩
  intro b hb
  cases ho : h.own b with
  | none => rfl
  | some o => have := ap b hb; rw [le03.own _ _ ho] at this; cases this
end Go.Fw
namespace Go.Fw
set_option maxRecDepth 10000
instance adjDec (es : List Pr) (u w : Nat) : Decidable (adj es u w) := by unfold adj; infer_instance
def nxtF (n : Nat) (es : List Pr) (o : List Nat) (v : Nat) : Option Nat := (List.range n).find? fun w => decide (adj es v w) && !o.contains w
def lastF (n : Nat) (es : List Pr) (o : List Nat) : List Nat → Option (Nat × Nat)
  | [] => none
  | v :: r => match nxtF n es o v with
    | some w => some (v, w)
    | none => lastF n es o r
def walkS (n : Nat) (es : List Pr) (st : List Nat × List Int) : List Nat × List Int :=
 match lastF n es st.1 st.1.reverse with
 | some (v, w) => (st.1 ++ [w], st.2.set w (v : Int))
 | none => st
def walkN (n : Nat) (es : List Pr) : Nat → List Nat × List Int → List Nat × List Int
 | 0, st => st
 | k + 1, st => walkN n es k (walkS n es st)
def walkF (n : Nat) (es : List Pr) (s : Nat) : List Nat × List Int := walkN n es n ([s], List.replicate n (-1))
theorem nxtF_some {n : Nat} {es : List Pr} {o : List Nat} {v w : Nat} (hr : InR n es) (h : nxtF n es o v = some w) : adj es v w ∧ w ∉ o ∧ ∀ y, adj es v y → y ∉ o → w ≤ y := by
 unfold nxtF at h
 have h1 := List.find?_some h
 simp only [Bool.and_eq_true, decide_eq_true_eq, Bool.not_eq_true', List.contains_eq_mem, decide_eq_false_iff_not] at h1
 refine ⟨h1.1, h1.2, fun y hy ho => ?_⟩
 rw [List.find?_range_eq_some] at h
 rcases Nat.lt_or_ge y w with hlt | hge
 ·have := h.2.2 y hlt
  simp [hy, ho] at this
 ·exact hge
theorem nxtF_none {n : Nat} {es : List Pr} {o : List Nat} {v : Nat} (hr : InR n es) (h : nxtF n es o v = none) : Full es o v := by
 intro y hy
 unfold nxtF at h
 rw [List.find?_eq_none] at h
 have := h y (List.mem_range.2 (hy.lt hr).2)
 simpa [hy] using this
theorem lastF_none {n : Nat} {es : List Pr} {o : List Nat} (hr : InR n es) : ∀ {l : List Nat}, lastF n es o l = none → ∀ x ∈ l, Full es o x
 | [], _, x, hx => by simp at hx
 | v :: r, h, x, hx => by
  simp only [lastF] at h
  split at h
  ·cases h
  ·rename_i hn
   rcases List.mem_cons.1 hx with rfl | hx
   ·exact nxtF_none hr hn
   ·exact lastF_none hr h x hx
theorem lastF_some {n : Nat} {es : List Pr} {o : List Nat} (hr : InR n es) : ∀ {l : List Nat} {v w : Nat}, lastF n es o l = some (v, w) → ∃ i, l[i]? = some v ∧ nxtF n es o v = some w ∧ ∀ (j x : Nat), j < i → l[j]? = some x → Full es o x
 | [], v, w, h => by cases h
 | u :: r, v, w, h => by
  simp only [lastF] at h
  split at h
  ·rename_i w' hn
   injection h with h; injection h with h1 h2; subst h1 h2
   exact ⟨0, rfl, hn, by omega⟩
  ·rename_i hn
   obtain ⟨i, h1, h2, h3⟩ := lastF_some hr h
   refine ⟨i + 1, by simpa using h1, h2, fun j x hj hx => ?_⟩
   cases j with
   | zero => simp at hx; subst hx; exact nxtF_none hr hn
   | succ j => exact h3 j x (by omega) (by simpa using hx)
theorem Dfs.ndlt {n : Nat} {es : List Pr} {s : Nat} {o : List Nat} {up : List Int} (hr : InR n es) (hs : s < n) (d : Dfs n es s o up) : o.Nodup ∧ ∀ x ∈ o, x < n := by
 induction d with
 | start => simp [hs]
 | @step o up k v w d hk ha hw hm hf ih =>
  refine ⟨?_, fun x hx => ?_⟩
  ·rw [List.nodup_append]
   exact ⟨ih.1, by simp, fun a hm' b hb e => by rw [List.mem_singleton] at hb; subst hb; subst e; exact hw hm'⟩
  ·rw [List.mem_append, List.mem_singleton] at hx
   rcases hx with hx | rfl
   ·exact ih.2 x hx
   ·exact (ha.lt hr).2
theorem Dfs.boundF {n : Nat} {es : List Pr} {s : Nat} {o : List Nat} {up : List Int} (hr : InR n es) (hs : s < n) (d : Dfs n es s o up) : o.length ≤ n := by
 have := (d.ndlt hr hs).1.length_le_of_subset (l₂ := List.range n) fun v hv => List.mem_range.2 ((d.ndlt hr hs).2 v hv)
 simpa using this
theorem walkN_fin {n : Nat} {es : List Pr} {s : Nat} (hr : InR n es) (hs : s < n) : ∀ (k : Nat) {o : List Nat} {up : List Int}, Dfs n es s o up → n < o.length + k → DfsFin n es s (walkN n es k (o, up)).1 (walkN n es k (o, up)).2
 | 0, o, up, d, h => by have := d.boundF hr hs; omega
 | k + 1, o, up, d, h => by
  simp only [walkN, walkS]
  split
  ·rename_i v w hl
   obtain ⟨i, h1, h2, h3⟩ := lastF_some hr hl
   obtain ⟨q1, q2, q3⟩ := nxtF_some hr h2
   have hi : i < o.length := by have := (List.getElem?_eq_some_iff.1 h1).1; simpa using this
   refine walkN_fin hr hs k (.step (k := o.length - 1 - i) d ?_ q1 q2 q3 fun j x hj hx => ?_) (by simp; omega)
   ·rw [List.getElem?_reverse hi] at h1; exact h1
   ·have hjl := (List.getElem?_eq_some_iff.1 hx).1
    refine h3 (o.length - 1 - j) x (by omega) ?_
    rw [List.getElem?_reverse (by omega)]
    have : o.length - 1 - (o.length - 1 - j) = j := by omega
    rw [this]; exact hx
  ·rename_i hl
   have hf : ∀ x ∈ o, Full es o x := fun x hx => lastF_none hr hl x (List.mem_reverse.2 hx)
   have : ∀ k, walkN n es k (o, up) = (o, up) := by
    intro k
    induction k with
    | zero => rfl
    | succ k ih => simp only [walkN, walkS]; rw [hl]; exact ih
   rw [this]
   exact ⟨d, hf⟩
theorem walkF_fin {n : Nat} {es : List Pr} {s : Nat} (hr : InR n es) (hs : s < n) : DfsFin n es s (walkF n es s).1 (walkF n es s).2 := walkN_fin hr hs n .start (by simp)
theorem DfsFin.eq {n : Nat} {es : List Pr} {s : Nat} {o : List Nat} {up : List Int} (hr : InR n es) (hs : s < n) (d : DfsFin n es s o up) : o = (walkF n es s).1 ∧ up = (walkF n es s).2 := d.uniq (walkF_fin hr hs)
end Go.Fw
namespace Go.Fw
open Go.Proofs
set_option maxHeartbeats 8000000
set_option maxRecDepth 10000
abbrev Lw := Int × Int × Int
def cellsL (p : Lw) : List Value := [.int .i64 p.1, .int .i64 p.2.1, .int .i64 p.2.2]
def valL (p : Lw) : Value := .agg #[.int .i64 p.1, .int .i64 p.2.1, .int .i64 p.2.2]
def flatL (ps : List Lw) : List Value := ps.flatMap cellsL
theorem flatL_length (ps : List Lw) : (flatL ps).length = ps.length * 3 := by
 induction ps with
 | nil => rfl
 | cons p ps ih => simp [flatL, cellsL] at ih ⊢; omega
theorem flatL_get : ∀ (ps : List Lw) (i : Nat) (p : Lw), ps[i]? = some p → (flatL ps)[i * 3]? = some (.int .i64 p.1) ∧ (flatL ps)[i * 3 + 1]? = some (.int .i64 p.2.1) ∧ (flatL ps)[i * 3 + 2]? = some (.int .i64 p.2.2)
 | [], i, p, h => by simp at h
 | q :: ps, 0, p, h => by simp at h; subst h; simp [flatL, cellsL]
 | q :: ps, i + 1, p, h => by
  have := flatL_get ps i p (by simpa using h)
  have e : flatL (q :: ps) = .int .i64 q.1 :: .int .i64 q.2.1 :: .int .i64 q.2.2 :: flatL ps := rfl
  rw [e, show (i + 1) * 3 = (i * 3 + 2) + 1 by omega]
  simpa using this
theorem flatL_set : ∀ (ps : List Lw) (i : Nat) (p q : Lw), ps[i]? = some p →
  flatL (ps.set i q) = (((flatL ps).set (i * 3) (.int .i64 q.1)).set (i * 3 + 1) (.int .i64 q.2.1)).set (i * 3 + 2) (.int .i64 q.2.2)
 | [], i, p, q, h => by simp at h
 | r :: ps, 0, p, q, h => by simp [flatL, cellsL]
 | r :: ps, i + 1, p, q, h => by
  have := flatL_set ps i p q (by simpa using h)
  have e : ∀ (r : Lw) ps, flatL (r :: ps) = .int .i64 r.1 :: .int .i64 r.2.1 :: .int .i64 r.2.2 :: flatL ps := fun _ _ => rfl
  rw [List.set_cons_succ, e, e, this, show (i + 1) * 3 = (i * 3 + 2) + 1 by omega]
  simp
theorem flatL_low (ps : List Lw) (i : Nat) (p : Lw) (x : Int) (h : ps[i]? = some p) : flatL (ps.set i (p.1, p.2.1, x)) = (flatL ps).set (i * 3 + 2) (.int .i64 x) := by
 rw [flatL_set ps i p _ h]
 obtain ⟨g0, g1, g2⟩ := flatL_get ps i p h
 apply List.ext_getElem?
 intro j
 simp only [List.getElem?_set, List.length_set]
 by_cases e2 : i * 3 + 2 = j
 ·simp [e2]
 ·simp only [e2, if_false]
  by_cases e1 : i * 3 + 1 = j
  ·subst e1
   obtain ⟨q, r⟩ := List.getElem?_eq_some_iff.1 g1
   simp [q, r]
  ·simp only [e1, if_false]
   by_cases e0 : i * 3 = j
   ·subst e0
    obtain ⟨q, r⟩ := List.getElem?_eq_some_iff.1 g0
    simp [q, r]
   ·simp [e0]
theorem ts51 : tsize Try.prog 93 = 3 := by kernel_rfl
theorem zrow3 (n : Nat) : zrow [Value.int .i64 0, .int .i64 0, .int .i64 0] n = flatL (List.replicate n (0, 0, 0)) := by
 induction n with
 | zero => rfl
 | succ n ih => rw [zrow, ih]; rfl
theorem mkL (h : AHeap) (n : Nat) (hn : n ≤ 100000) : aMakeSlice Try.prog h 89 (.int .i64 n) (.int .i64 n) = some (.slice (some ⟨h.next, 0, none⟩) n n, h.alloc (.cells (flatL (List.replicate n (0, 0, 0))))) := by
 have hz : azero Try.prog 93 = some (.agg #[.int .i64 0, .int .i64 0, .int .i64 0]) := by kernel_rfl
 have hb : Try.prog.bytesOf 93 = 24 := by kernel_rfl
 have b1 : (24 : Int) * n ≤ 140737488355328 := by omega
 have b2 : (n : Int) ≤ 140737488355328 := by omega
 have one : (flatL (List.replicate n (0, 0, 0))).all (·.oneCell') = true := by
  rw [List.all_eq_true]; intro x hx; rw [flatL, List.mem_flatMap] at hx
  obtain ⟨p, _, hx⟩ := hx
  simp [cellsL] at hx
  rcases hx with rfl | rfl | rfl <;> rfl
 simp [aMakeSlice, Try.underlying89, Try.underlying93, hz, hb, ts51, Value.cells, flat, b1, b2, aNewRow, zrow3, one]
section
variable {h : AHeap} {L n : Nat} {ls : List Lw}
theorem lAddr {k : IntKind} {cap : Nat} (v : Nat) (hv : v < n) : aIndexAddr Try.prog 89 (.slice (some ⟨L, 0, none⟩) n cap) (.int k v) = some (.pointer (some ⟨L, v * 3, none⟩)) := by
 have h1 : (v : Int) < (n : Int) := by omega
 simp [aIndexAddr, Try.underlying89, Try.underlying93, h1, ts51, aadd]
theorem fl0 (a : Addr) : aField Try.prog 93 (.pointer (some a)) 0 = some (.pointer (some (aadd a 0))) := rfl
theorem fl1 (a : Addr) : aField Try.prog 93 (.pointer (some a)) 1 = some (.pointer (some (aadd a 1))) := rfl
theorem fl2 (a : Addr) : aField Try.prog 93 (.pointer (some a)) 2 = some (.pointer (some (aadd a 2))) := rfl
theorem lNum (ho : h.own L = some (.cells (flatL ls))) {v : Nat} {p : Lw} (hp : ls[v]? = some p) : aload Try.prog h 3 ⟨L, v * 3, none⟩ = some (.int .i64 p.1) := by rw [aload_one Try.underlying3 rfl ho, (flatL_get ls v p hp).1]
theorem lUp (ho : h.own L = some (.cells (flatL ls))) {v : Nat} {p : Lw} (hp : ls[v]? = some p) : aload Try.prog h 3 ⟨L, v * 3 + 1, none⟩ = some (.int .i64 p.2.1) := by rw [aload_one Try.underlying3 rfl ho, (flatL_get ls v p hp).2.1]
theorem lLow (ho : h.own L = some (.cells (flatL ls))) {v : Nat} {p : Lw} (hp : ls[v]? = some p) : aload Try.prog h 3 ⟨L, v * 3 + 2, none⟩ = some (.int .i64 p.2.2) := by rw [aload_one Try.underlying3 rfl ho, (flatL_get ls v p hp).2.2]
theorem sLow (ho : h.own L = some (.cells (flatL ls))) {v : Nat} {p : Lw} (hp : ls[v]? = some p) (x : Int) :
  aStore Try.prog h 3 (.pointer (some ⟨L, v * 3 + 2, none⟩)) (.int .i64 x) = some (h.put L (.cells (flatL (ls.set v (p.1, p.2.1, x))))) := by
 rw [flatL_low ls v p x hp]
 exact aStore1 (P := Try.prog) (t := 3) (x := .int .i64 x) Try.underlying3 (by kernel_rfl) ho (off := v * 3 + 2) (List.getElem?_eq_some_iff.1 (flatL_get ls v p hp).2.2).1 rfl rfl
theorem sAll (ho : h.own L = some (.cells (flatL ls))) {v : Nat} (hv : v < ls.length) (q : Lw) :
  aStore Try.prog h 93 (.pointer (some ⟨L, v * 3, none⟩)) (valL q) = some (h.put L (.cells (flatL (ls.set v q)))) := by
 have hp := getElem?_of hv
 rw [flatL_set ls v _ q hp]
 have hl := (List.getElem?_eq_some_iff.1 (flatL_get ls v _ hp).2.2).1
 have h1 : v * 3 + 3 ≤ (flatL ls).length := by omega
 simp [aStore, ho, valL, Value.cells, ts51, putCells, Try.underlying93, h1, Value.oneCell']
end
end Go.Fw
namespace Go.Fw
open Go.Proofs
set_option maxRecDepth 10000
def getL (ls : List Lw) (v : Nat) : Lw := ls.getD v (0, 0, 0)
def putA (up : List Int) : List Nat → List Lw × List Nat → List Lw × List Nat
 | [], st => st
 | v :: r, (ls, o) => putA up r (ls.set v (((o.length + 1 : Nat) : Int), up.getD v 0, ((o.length + 1 : Nat) : Int)), o ++ [v])
def fromA (n : Nat) (es : List Pr) (i : Nat) (st : List Lw × List Nat) : List Lw × List Nat :=
 if (getL st.1 i).1 = 0 then putA (walkF n es i).2 (walkF n es i).1 st else st
def metM (n : Nat) (es : List Pr) : Nat → List Lw × List Nat
 | 0 => (List.replicate n (0, 0, 0), [])
 | i + 1 => fromA n es i (metM n es i)
def edgeB (ls : List Lw) (e : Pr) : List Lw :=
 let a := e.1.toNat
 let b := e.2.toNat
 if (getL ls a).2.1 = e.2 ∨ (getL ls b).2.1 = e.1 then ls
 else
  let l1 := ls.set a ((getL ls a).1, (getL ls a).2.1, min (getL ls a).2.2 (getL ls b).1)
  l1.set b ((getL l1 b).1, (getL l1 b).2.1, min (getL l1 b).2.2 (getL l1 a).1)
def upC (ls : List Lw) (v : Nat) : List Lw :=
 let u := (getL ls v).2.1
 if 0 ≤ u then ls.set u.toNat ((getL ls u.toNat).1, (getL ls u.toNat).2.1, min (getL ls u.toNat).2.2 (getL ls v).2.2) else ls
def lowM (n : Nat) (es : List Pr) : List Lw × List Nat := ((metM n es n).2.reverse.foldl upC (es.foldl edgeB (metM n es n).1), (metM n es n).2)
theorem getL_of {ls : List Lw} {v : Nat} (h : v < ls.length) : ls[v]? = some (getL ls v) := by
 simp [getL, List.getD, List.getElem?_eq_getElem h]
structure LowI (n : Nat) (ls : List Lw) (o : List Nat) : Prop where
 len : ls.length = n
 up : ∀ v, v < n → (getL ls v).2.1 < (n : Int)
 lt : ∀ v ∈ o, v < n
 nd : o.Nodup
 num : ∀ v, v < n → ((getL ls v).1 = 0 ↔ v ∉ o)
theorem getL_set (ls : List Lw) (v : Nat) (q : Lw) (u : Nat) : getL (ls.set v q) u = if v = u ∧ v < ls.length then q else getL ls u := by
 simp only [getL, List.getD_eq_getElem?_getD, List.getElem?_set]
 by_cases e : v = u
 ·subst e
  by_cases h : v < ls.length
  ·simp [h]
  ·simp [h]
 ·simp [e]
theorem Dfs.upR {n : Nat} {es : List Pr} {s : Nat} {o : List Nat} {up : List Int} (hr : InR n es) (hs : s < n) (d : Dfs n es s o up) : ∀ v, up.getD v 0 < (n : Int) := by
 induction d with
 | start =>
  intro v
  simp only [List.getD_eq_getElem?_getD, List.getElem?_replicate]
  split <;> simp <;> omega
 | @step o up k v w d hk ha hw hm hf ih =>
  intro x
  simp only [List.getD_eq_getElem?_getD, List.getElem?_set]
  have := ih x
  simp only [List.getD_eq_getElem?_getD] at this
  split
  ·split
   ·have := (ha.lt hr).1; simp; omega
   ·simp; omega
  ·exact this
theorem putA_I {n : Nat} {up : List Int} (hup : ∀ v, up.getD v 0 < (n : Int)) : ∀ (l : List Nat) {ls : List Lw} {o : List Nat}, LowI n ls o → l.Nodup → (∀ v ∈ l, v < n ∧ v ∉ o) →
  LowI n (putA up l (ls, o)).1 (putA up l (ls, o)).2 ∧ (putA up l (ls, o)).2 = o ++ l
 | [], ls, o, I, _, _ => ⟨I, by simp [putA]⟩
 | v :: r, ls, o, I, hn, hl => by
  rw [List.nodup_cons] at hn
  have hv := hl v (by simp)
  have I' : LowI n (ls.set v (((o.length + 1 : Nat) : Int), up.getD v 0, ((o.length + 1 : Nat) : Int))) (o ++ [v]) := by
   refine ⟨by simp [I.len], fun u hu => ?_, fun u hu => ?_, ?_, fun u hu => ?_⟩
   ·rw [getL_set]; split
    ·exact hup v
    ·exact I.up u hu
   ·rw [List.mem_append, List.mem_singleton] at hu
    rcases hu with hu | rfl
    ·exact I.lt u hu
    ·exact hv.1
   ·rw [List.nodup_append]
    exact ⟨I.nd, by simp, fun a ha b hb e => by rw [List.mem_singleton] at hb; subst hb; subst e; exact hv.2 ha⟩
   ·rw [getL_set, List.mem_append, List.mem_singleton]
    by_cases e : v = u
    ·subst e; simp [I.len, hu]; omega
    ·rw [if_neg (by simp [e]), I.num u hu]; simp [Ne.symm e]
  obtain ⟨q1, q2⟩ := putA_I hup r I' hn.2 fun u hu => ⟨(hl u (by simp [hu])).1, fun hm => by
   rw [List.mem_append, List.mem_singleton] at hm
   rcases hm with hm | rfl
   ·exact (hl u (by simp [hu])).2 hm
   ·exact hn.1 hu⟩
  exact ⟨q1, by rw [putA, q2]; simp⟩
theorem con_back {es : List Pr} {o : List Nat} (hc : ∀ u w, adj es u w → u ∈ o → w ∈ o) {i v : Nat} (h : Con es i v) : v ∈ o → i ∈ o := by
 induction h with
 | refl _ => exact id
 | step _ a _ ih => exact fun hv => ih (hc _ _ a.symm hv)
structure LowC (n : Nat) (es : List Pr) (ls : List Lw) (o : List Nat) : Prop extends LowI n ls o where
 cl : ∀ u w, adj es u w → u ∈ o → w ∈ o
theorem fromA_pre {n : Nat} {es : List Pr} (hr : InR n es) {ls : List Lw} {o : List Nat} (I : LowC n es ls o) {i : Nat} (hi : i < n) (h0 : (getL ls i).1 = 0) :
  (walkF n es i).1.Nodup ∧ ∀ v ∈ (walkF n es i).1, v < n ∧ v ∉ o := by
 have D := walkF_fin hr hi
 refine ⟨D.dfs.nodup, fun v hv => ⟨((D.mem v).1 hv).lt hr hi, fun hm => (I.num i hi).1 h0 (con_back I.cl ((D.mem v).1 hv) hm)⟩⟩
theorem fromA_C {n : Nat} {es : List Pr} (hr : InR n es) {ls : List Lw} {o : List Nat} (I : LowC n es ls o) {i : Nat} (hi : i < n) :
  LowC n es (fromA n es i (ls, o)).1 (fromA n es i (ls, o)).2 ∧ i ∈ (fromA n es i (ls, o)).2 ∧ ∀ v ∈ o, v ∈ (fromA n es i (ls, o)).2 := by
 unfold fromA
 split
 ·rename_i h0
  obtain ⟨p1, p2⟩ := fromA_pre hr I hi h0
  have D := walkF_fin hr hi
  obtain ⟨q1, q2⟩ := putA_I (D.dfs.upR hr hi) (walkF n es i).1 I.toLowI p1 p2
  rw [q2] at q1 ⊢
  refine ⟨⟨q1, fun u w ha hu => ?_⟩, List.mem_append_right _ ((D.mem i).2 (Con.refl es i)), fun v hv => List.mem_append_left _ hv⟩
  rw [List.mem_append] at hu ⊢
  rcases hu with hu | hu
  ·exact .inl (I.cl u w ha hu)
  ·exact .inr (D.full u hu w ha)
 ·rename_i h0
  refine ⟨I, ?_, fun v hv => hv⟩
  by_cases hm : i ∈ o
  ·exact hm
  ·exact absurd ((I.num i hi).2 hm) h0
theorem metM_C {n : Nat} {es : List Pr} (hr : InR n es) : ∀ i, i ≤ n → LowC n es (metM n es i).1 (metM n es i).2 ∧ ∀ v, v < i → v ∈ (metM n es i).2
 | 0, _ => ⟨⟨⟨by simp [metM], fun v hv => by simp [metM, getL, List.getD_eq_getElem?_getD, List.getElem?_replicate, hv]; omega, by simp [metM], by simp [metM], fun v hv => by simp [metM, getL, List.getD_eq_getElem?_getD, List.getElem?_replicate, hv]⟩, by simp [metM]⟩, by omega⟩
 | i + 1, hi => by
  obtain ⟨I, hm⟩ := metM_C hr i (by omega)
  obtain ⟨q1, q2, q3⟩ := fromA_C hr I (i := i) (by omega)
  refine ⟨q1, fun v hv => ?_⟩
  by_cases e : v = i
  ·subst e; exact q2
  ·exact q3 v (hm v (by omega))
theorem LowI.olen {n : Nat} {ls : List Lw} {o : List Nat} (I : LowI n ls o) : o.length ≤ n := by
 have := I.nd.length_le_of_subset (l₂ := List.range n) fun v hv => List.mem_range.2 (I.lt v hv)
 simpa using this
end Go.Fw
