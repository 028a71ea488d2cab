/- One of the texts of the layer and the walks: it proves what its theorems say of the functions of the seat, with no condition beyond theirs. -/
import Derived.Test.YtmakcgajgepabaaFwB18
set_option linter.unusedSimpArgs false
set_option linter.unusedVariables false
namespace Go.Fw
open Go.Proofs
attribute [local irreducible] KO4 KO3 KO2 KO1 KO KN KX KE VK KCond KDraw KCall KLoop
set_option maxHeartbeats 4000000
set_option maxRecDepth 10000
inductive Gw (es web : List Pr) (e : Pr) : Nat → Prop
  | base {i : Nat} : es[i]? = some e → Gw es web e i
  | step {i k : Nat} {p q : Pr} : Gw es web e k → es[i]? = some p → es[k]? = some q → meetB p q web = true → Gw es web e i
def selM (es : List Pr) (S : List Bool) : Nat → List Pr
  | 0 => []
  | i + 1 => match es[i]? with
    | some p => if S.getD i false = true then selM es S i ++ [p] else selM es S i
    | none => selM es S i
theorem selM_length (es : List Pr) (S : List Bool) (i : Nat) : (selM es S i).length ≤ i := by
  induction i with
  | zero => simp [selM]
  | succ i ih =>
    simp only [selM]
    split
    · split
      · simp; omega
      · omega
    · omega
theorem count_set {S : List Bool} {i : Nat} (h : S[i]? = some false) : (S.set i true).count false + 1 = S.count false := by
  induction S generalizing i with
  | nil => simp at h
  | cons b S ih =>
    cases i with
    | zero => simp at h; subst h; simp
    | succ i =>
      have := ih (by simpa using h)
      rw [List.set_cons_succ, List.count_cons, List.count_cons]; omega
structure GI1 (es web : List Pr) (e : Pr) (S : List Bool) : Prop where
  len : S.length = es.length
  ok : ∀ i, S[i]? = some true → Gw es web e i
def Cl (es web : List Pr) (e : Pr) (S : List Bool) (i : Nat) : Prop := ∀ p, es[i]? = some p → S[i]? = some false → p ≠ e ∧ ∀ (k : Nat) q, es[k]? = some q → S[k]? = some true → meetB p q web = false
theorem GI1.full {es web : List Pr} {e : Pr} {S : List Bool} (g : GI1 es web e S) (h : ∀ i, i < es.length → Cl es web e S i) (i : Nat) : S[i]? = some true ↔ Gw es web e i := by
  refine ⟨g.ok i, fun w => ?_⟩
  have not_f : ∀ i p, es[i]? = some p → S[i]? = some true ∨ S[i]? = some false := fun i p hp => by
    have := getElem?_of (show i < S.length by rw [g.len]; exact (List.getElem?_eq_some_iff.1 hp).1)
    rw [this]; cases S[i]'(by rw [g.len]; exact (List.getElem?_eq_some_iff.1 hp).1) <;> simp
  induction w with
  | base hb =>
    rcases not_f _ _ hb with h1 | h1
    · exact h1
    · exact absurd rfl (h _ (List.getElem?_eq_some_iff.1 hb).1 _ hb h1).1
  | step _ hp hq hm ih =>
    rcases not_f _ _ hp with h1 | h1
    · exact h1
    · have := (h _ (List.getElem?_eq_some_iff.1 hp).1 _ hp h1).2 _ _ hq ih
      rw [hm] at this; cases this
theorem GI1.push {es web : List Pr} {e : Pr} {S : List Bool} (g : GI1 es web e S) {i : Nat} (hi : i < es.length) (hw : Gw es web e i) : GI1 es web e (S.set i true) :=
  ⟨by simpa using g.len, fun j hj => by
    rw [List.getElem?_set] at hj
    by_cases c : i = j
    · subst c; exact hw
    · rw [if_neg c] at hj; exact g.ok j hj⟩
theorem grown_any (W0 : World) (v wv : Value) (n : Int) (es web : List Pr) (e : Pr) (h : AHeap) (hg : GR h v ⟨n, es⟩) (hw : PR h wv web) (hn : es.length ≤ 1000) (hnw : web.length ≤ 1000) :
    AC Try.prog W0 44 [v, wv, valP e] h fun x h' => ∃ S : List Bool, S.length = es.length ∧ (∀ i, S[i]? = some true ↔ Gw es web e i) ∧ GP h' x (selM es S es.length) ∧ Le h h' ∧ Apart h x := by
  obtain ⟨ev, rfl, hp⟩ := hg.open
  refine AC.vc (fn := Try.f44) (c := _) ⟨Try.func44, rfl, by decide⟩ Try.ntmps44 Try.results44 (by simp) fun hwf => ?_
  simp only [argFrame, argFrom, Nat.reduceAdd]
  obtain ⟨h1, b1, le1, wf1, -, lA⟩ := boxG (n := n) hwf hp
  obtain ⟨h2, e2, le2, wf2, o2⟩ := alloc_f wf1 (cellsP e)
  have ll := fun g => hp.len g
  have lA2 := lA h2 le2
  have mkE := aMakeSlice1 (P := Try.prog) (t := 35) (z := .bool false) h2 Try.underlying35 rfl rfl rfl rfl (by kernel_rfl) Try.underlying4 (by kernel_rfl) es.length (by omega)
  obtain ⟨h3, e3, le3, wf3, o3⟩ := alloc_f wf2 (List.replicate es.length (.bool false))
  rw [e3] at mkE
  have nB : h.own h.next = none := (Le.refl h).next hwf (Nat.le_refl _)
  have nI : h2.own h2.next = none := (Le.refl h2).next wf2 (Nat.le_refl _)
  simp only [kS1, bLookup, bMapSet, wantA, isCall, stepOp, evalO, evalL, evalP, evalM, putDst, flat, kA, kB, Nat.reduceLT, ↓reduceIte, kC, Nat.reduceEqDiff, aBuiltin, abinG, guardFree, abin, aInt, aUn, aNilCheck, retQ, retQ1, aresults, aresultL, aresult, mkF, undefV, reduceCtorEq, kD, kE, kF, kG, kH, kI, kJ, kK, aExtract, calleeOf, b1, box42, e2, fg1, aadd, Nat.zero_add, lA2.2.2, ll, mkE]
  have le12 := le1.trans le2
  have le23 : Le h2 h3 := le3
  have LE : ∀ g, Le h2 g → aload Try.prog g 42 ⟨h1.next, 0, none⟩ = some (valP e) := fun g l => own42 (l.own _ _ o2)
  generalize h1.next = E at *
  generalize h2.next = I at *
  generalize h.next = B at *
  have o30 : h3.own I = some (.cells ((List.replicate es.length false).map Value.bool)) := by rw [o3]; simp
  have ixI : ∀ (k : IntKind) (j : Nat), j < es.length → aIndexAddr Try.prog 35 (.slice (some ⟨I, 0, none⟩) es.length es.length) (.int k j) = some (.pointer (some ⟨I, j, none⟩)) := fun k j hj => by rw [aIdx Try.underlying35 Try.underlying4 (by kernel_rfl) j hj]; simp [aadd]
  have ldI : ∀ (g : AHeap) (S : List Bool) (j : Nat) (b : Bool), g.own I = some (.cells (S.map Value.bool)) → S[j]? = some b → aload Try.prog g 4 ⟨I, j, none⟩ = some (.bool b) := fun g S j b ho hb => by
    rw [aload_one Try.underlying4 rfl ho]; simp [hb]
  have hp2 := hp.le le12
  have hw2 := hw.le le12
  refine KLoop.intro (fun k fr hh => ∃ (S : List Bool) (ch : Bool), k = S.count false + (if ch then 1 else 0) ∧ fr = mkF [(1, wv), (3, .pointer (some ⟨B, 0, none⟩)), (5, .pointer (some ⟨E, 0, none⟩)), (7, .slice (some ⟨I, 0, none⟩) es.length es.length), (8, .bool ch)] ∧
      Le h2 hh ∧ hh.own I = some (.cells (S.map Value.bool)) ∧ GI1 es web e S ∧ (ch = false → ∀ i, i < es.length → Cl es web e S i))
    ((List.replicate es.length false).count false + 1) [(1, wv), (3, .pointer (some ⟨B, 0, none⟩)), (5, .pointer (some ⟨E, 0, none⟩)), (7, .slice (some ⟨I, 0, none⟩) es.length es.length), (8, .bool true)] (by simp only [hasAll, kS1, bLookup, bMapSet, wantA, isCall, stepOp, evalO, evalL, evalP, evalM, putDst, flat, kA, kB, Nat.reduceLT, ↓reduceIte, kC, Nat.reduceEqDiff, aBuiltin, abinG, guardFree, abin, aInt, aUn, aNilCheck, retQ, retQ1, aresults, aresultL, aresult, mkF, undefV, reduceCtorEq, kD, kE, kF, kG, kH, kI, kJ, kK, aExtract, calleeOf]; simp)
    ⟨_, true, rfl, rfl, le3, o30, ⟨by simp, fun i hi => by have := List.eq_of_mem_replicate (List.mem_of_getElem? hi); cases this⟩, fun hc => by cases hc⟩ ?_
  clear o30 o3 le23 wf3 mkE e3 le3 h3
  rintro k fr hh hwh ⟨S, ch, rfl, rfl, leh, oI, gi, hcl⟩
  cases ch with
  | false =>
    have full := gi.full (hcl rfl)
    simp only [kS1, bLookup, bMapSet, wantA, isCall, stepOp, evalO, evalL, evalP, evalM, putDst, flat, kA, kB, Nat.reduceLT, ↓reduceIte, kC, Nat.reduceEqDiff, aBuiltin, abinG, guardFree, abin, aInt, aUn, aNilCheck, retQ, retQ1, aresults, aresultL, aresult, mkF, undefV, reduceCtorEq, kD, kE, kF, kG, kH, kI, kJ, kK, aExtract, calleeOf]
    have lS : ∀ g : AHeap, aLen Try.prog g 35 (.slice (some ⟨I, 0, none⟩) es.length es.length) = some (.int .i64 es.length) := fun g => aLenS Try.underlying35 g
    refine KLoop.intro (fun k fr hq => ∃ (i : Nat) (lv : Value), k = es.length - i ∧ i ≤ es.length ∧ fr = mkF [(3, .pointer (some ⟨B, 0, none⟩)), (7, .slice (some ⟨I, 0, none⟩) es.length es.length), (12, lv), (13, .int .i64 i)] ∧
        GP hq lv (selM es S i) ∧ Le hh hq ∧ Apart hh lv)
      es.length [(3, .pointer (some ⟨B, 0, none⟩)), (7, .slice (some ⟨I, 0, none⟩) es.length es.length), (12, .slice none 0 0), (13, .int .i64 (0 : Nat))] (by simp only [hasAll, kS1, bLookup, bMapSet, wantA, isCall, stepOp, evalO, evalL, evalP, evalM, putDst, flat, kA, kB, Nat.reduceLT, ↓reduceIte, kC, Nat.reduceEqDiff, aBuiltin, abinG, guardFree, abin, aInt, aUn, aNilCheck, retQ, retQ1, aresults, aresultL, aresult, mkF, undefV, reduceCtorEq, kD, kE, kF, kG, kH, kI, kJ, kK, aExtract, calleeOf]; simp)
      ⟨0, _, rfl, Nat.zero_le _, rfl, GP.nil hh, Le.refl _, fun b hb => by simp [blk] at hb⟩ ?_
    rintro k fr hq hwq ⟨i, lv, rfl, hi, rfl, gl, leq, al⟩
    simp only [kS1, bLookup, bMapSet, wantA, isCall, stepOp, evalO, evalL, evalP, evalM, putDst, flat, kA, kB, Nat.reduceLT, ↓reduceIte, kC, Nat.reduceEqDiff, aBuiltin, abinG, guardFree, abin, aInt, aUn, aNilCheck, retQ, retQ1, aresults, aresultL, aresult, mkF, undefV, reduceCtorEq, kD, kE, kF, kG, kH, kI, kJ, kK, aExtract, calleeOf, lS]
    refine KCond.intro (fun ht => ?_) (fun hf => ?_)
    rotate_left
    · have hge : es.length ≤ i := lt_f hf
      obtain rfl : i = es.length := by omega
      simp only [kS1, bLookup, bMapSet, wantA, isCall, stepOp, evalO, evalL, evalP, evalM, putDst, flat, kA, kB, Nat.reduceLT, ↓reduceIte, kC, Nat.reduceEqDiff, aBuiltin, abinG, guardFree, abin, aInt, aUn, aNilCheck, retQ, retQ1, aresults, aresultL, aresult, mkF, undefV, reduceCtorEq, kD, kE, kF, kG, kH, kI, kJ, kK, aExtract, calleeOf]
      exact ⟨S, gi.len, full, gl, (le12.trans leh).trans leq, fun b hb => (le12.trans leh).none (al b hb)⟩
    have hlt : i < es.length := lt_t ht
    have hpi := getElem?_of hlt
    have hSi := getElem?_of (show i < S.length by rw [gi.len]; exact hlt)
    generalize es[i] = p at hpi
    generalize S[i]'(by rw [gi.len]; exact hlt) = b at hSi
    have ix := ixI .i64 i hlt
    have lb := ldI hq S i b (leq.own _ _ oI) hSi
    have ad := hp.addr (k := .i64) i hlt
    have ld := (hp2.le (leh.trans leq)).load hpi
    have lAq := lA hq (le2.trans (leh.trans leq))
    have hgd : S.getD i false = b := by rw [List.getD_eq_getElem?_getD, hSi]; rfl
    cases b with
    | false =>
      have hs : selM es S i = selM es S (i + 1) := by simp only [selM, hpi, hgd]; simp
      rw [hs] at gl
      simp only [kS1, bLookup, bMapSet, wantA, isCall, stepOp, evalO, evalL, evalP, evalM, putDst, flat, kA, kB, Nat.reduceLT, ↓reduceIte, kC, Nat.reduceEqDiff, aBuiltin, abinG, guardFree, abin, aInt, aUn, aNilCheck, retQ, retQ1, aresults, aresultL, aresult, mkF, undefV, reduceCtorEq, kD, kE, kF, kG, kH, kI, kJ, kK, aExtract, calleeOf, ix, lb, awrap_succ i (by omega)]
      exact loop_again (es.length - (i + 1)) [(3, .pointer (some ⟨B, 0, none⟩)), (7, .slice (some ⟨I, 0, none⟩) es.length es.length), (12, lv), (13, .int .i64 (i + 1 : Nat))] (by omega) (by simp only [hasAll, kS1, bLookup, bMapSet, wantA, isCall, stepOp, evalO, evalL, evalP, evalM, putDst, flat, kA, kB, Nat.reduceLT, ↓reduceIte, kC, Nat.reduceEqDiff, aBuiltin, abinG, guardFree, abin, aInt, aUn, aNilCheck, retQ, retQ1, aresults, aresultL, aresult, mkF, undefV, reduceCtorEq, kD, kE, kF, kG, kH, kI, kJ, kK, aExtract, calleeOf]; simp) ⟨i + 1, lv, rfl, hlt, rfl, gl, leq, al⟩
    | true =>
      have hs : selM es S i ++ [p] = selM es S (i + 1) := by simp only [selM, hpi, hgd]; simp
      obtain ⟨lv', g4, g5, e4, e5, g5', w5, l4, hf5, -⟩ := gl.push hwq p (by have := selM_length es S i; omega)
      obtain ⟨l5, a5⟩ := hf5 hh leq al
      rw [hs] at g5'
      simp only [kS1, bLookup, bMapSet, wantA, isCall, stepOp, evalO, evalL, evalP, evalM, putDst, flat, kA, kB, Nat.reduceLT, ↓reduceIte, kC, Nat.reduceEqDiff, aBuiltin, abinG, guardFree, abin, aInt, aUn, aNilCheck, retQ, retQ1, aresults, aresultL, aresult, mkF, undefV, reduceCtorEq, kD, kE, kF, kG, kH, kI, kJ, kK, aExtract, calleeOf, ix, lb, fg1, aadd, Nat.zero_add, lAq.2.2, ad, ld, e4, e5, awrap_succ i (by omega)]
      exact loop_again (es.length - (i + 1)) [(3, .pointer (some ⟨B, 0, none⟩)), (7, .slice (some ⟨I, 0, none⟩) es.length es.length), (12, lv'), (13, .int .i64 (i + 1 : Nat))] (by omega) (by simp only [hasAll, kS1, bLookup, bMapSet, wantA, isCall, stepOp, evalO, evalL, evalP, evalM, putDst, flat, kA, kB, Nat.reduceLT, ↓reduceIte, kC, Nat.reduceEqDiff, aBuiltin, abinG, guardFree, abin, aInt, aUn, aNilCheck, retQ, retQ1, aresults, aresultL, aresult, mkF, undefV, reduceCtorEq, kD, kE, kF, kG, kH, kI, kJ, kK, aExtract, calleeOf]; simp) ⟨i + 1, lv', rfl, hlt, rfl, g5', l5, a5⟩
  | true =>
  simp only [kS1, bLookup, bMapSet, wantA, isCall, stepOp, evalO, evalL, evalP, evalM, putDst, flat, kA, kB, Nat.reduceLT, ↓reduceIte, kC, Nat.reduceEqDiff, aBuiltin, abinG, guardFree, abin, aInt, aUn, aNilCheck, retQ, retQ1, aresults, aresultL, aresult, mkF, undefV, reduceCtorEq, kD, kE, kF, kG, kH, kI, kJ, kK, aExtract, calleeOf]
  refine KLoop.intro (fun k fr hq => ∃ (i : Nat) (T : List Bool) (ch : Bool), k = es.length - i ∧ i ≤ es.length ∧ fr = mkF [(1, wv), (3, .pointer (some ⟨B, 0, none⟩)), (5, .pointer (some ⟨E, 0, none⟩)), (7, .slice (some ⟨I, 0, none⟩) es.length es.length), (8, .bool ch), (9, .int .i64 i)] ∧
      Le h2 hq ∧ hq.own I = some (.cells (T.map Value.bool)) ∧ GI1 es web e T ∧ (ch = true → T.count false < S.count false) ∧ T.count false ≤ S.count false ∧ (ch = false → ∀ j, j < i → Cl es web e T j))
    es.length [(1, wv), (3, .pointer (some ⟨B, 0, none⟩)), (5, .pointer (some ⟨E, 0, none⟩)), (7, .slice (some ⟨I, 0, none⟩) es.length es.length), (8, .bool false), (9, .int .i64 (0 : Nat))] (by simp only [hasAll, kS1, bLookup, bMapSet, wantA, isCall, stepOp, evalO, evalL, evalP, evalM, putDst, flat, kA, kB, Nat.reduceLT, ↓reduceIte, kC, Nat.reduceEqDiff, aBuiltin, abinG, guardFree, abin, aInt, aUn, aNilCheck, retQ, retQ1, aresults, aresultL, aresult, mkF, undefV, reduceCtorEq, kD, kE, kF, kG, kH, kI, kJ, kK, aExtract, calleeOf]; simp)
    ⟨0, S, false, rfl, Nat.zero_le _, rfl, leh, oI, gi, by simp, Nat.le_refl _, by omega⟩ ?_
  clear hcl oI leh hwh hh
  rintro k fr hh hwh ⟨i, T, ch, rfl, hi, rfl, leh, oI, gt, hc1, hc2, hcl⟩
  have lAh := lA hh (le2.trans leh)
  simp only [kS1, bLookup, bMapSet, wantA, isCall, stepOp, evalO, evalL, evalP, evalM, putDst, flat, kA, kB, Nat.reduceLT, ↓reduceIte, kC, Nat.reduceEqDiff, aBuiltin, abinG, guardFree, abin, aInt, aUn, aNilCheck, retQ, retQ1, aresults, aresultL, aresult, mkF, undefV, reduceCtorEq, kD, kE, kF, kG, kH, kI, kJ, kK, aExtract, calleeOf, fg1, aadd, Nat.zero_add, lAh.2.2, ll]
  refine KCond.intro (fun ht => ?_) (fun hf => ?_)
  rotate_left
  · have hge : es.length ≤ i := lt_f hf
    simp only [kS1, bLookup, bMapSet, wantA, isCall, stepOp, evalO, evalL, evalP, evalM, putDst, flat, kA, kB, Nat.reduceLT, ↓reduceIte, kC, Nat.reduceEqDiff, aBuiltin, abinG, guardFree, abin, aInt, aUn, aNilCheck, retQ, retQ1, aresults, aresultL, aresult, mkF, undefV, reduceCtorEq, kD, kE, kF, kG, kH, kI, kJ, kK, aExtract, calleeOf]
    refine loop_again (T.count false + (if ch then 1 else 0)) [(1, wv), (3, .pointer (some ⟨B, 0, none⟩)), (5, .pointer (some ⟨E, 0, none⟩)), (7, .slice (some ⟨I, 0, none⟩) es.length es.length), (8, .bool ch)] ?_ (by simp only [hasAll, kS1, bLookup, bMapSet, wantA, isCall, stepOp, evalO, evalL, evalP, evalM, putDst, flat, kA, kB, Nat.reduceLT, ↓reduceIte, kC, Nat.reduceEqDiff, aBuiltin, abinG, guardFree, abin, aInt, aUn, aNilCheck, retQ, retQ1, aresults, aresultL, aresult, mkF, undefV, reduceCtorEq, kD, kE, kF, kG, kH, kI, kJ, kK, aExtract, calleeOf]; simp)
      ⟨T, ch, rfl, rfl, leh, oI, gt, fun hc j hj => hcl hc j (by omega)⟩
    cases ch with
    | false => simp; omega
    | true => have := hc1 rfl; simp; omega
  have hlt : i < es.length := lt_t ht
  clear ht
  have hpi := getElem?_of hlt
  have hTl : i < T.length := by rw [gt.len]; exact hlt
  have hTi := getElem?_of hTl
  generalize es[i] = p at hpi
  generalize T[i] = b at hTi
  have ix := ixI .i64 i hlt
  have lb := ldI hh T i b oI hTi
  cases b with
  | true =>
    simp only [kS1, bLookup, bMapSet, wantA, isCall, stepOp, evalO, evalL, evalP, evalM, putDst, flat, kA, kB, Nat.reduceLT, ↓reduceIte, kC, Nat.reduceEqDiff, aBuiltin, abinG, guardFree, abin, aInt, aUn, aNilCheck, retQ, retQ1, aresults, aresultL, aresult, mkF, undefV, reduceCtorEq, kD, kE, kF, kG, kH, kI, kJ, kK, aExtract, calleeOf, ix, lb, awrap_succ i (by omega)]
    refine loop_again (es.length - (i + 1)) [(1, wv), (3, .pointer (some ⟨B, 0, none⟩)), (5, .pointer (some ⟨E, 0, none⟩)), (7, .slice (some ⟨I, 0, none⟩) es.length es.length), (8, .bool ch), (9, .int .i64 (i + 1 : Nat))] (by omega) (by simp only [hasAll, kS1, bLookup, bMapSet, wantA, isCall, stepOp, evalO, evalL, evalP, evalM, putDst, flat, kA, kB, Nat.reduceLT, ↓reduceIte, kC, Nat.reduceEqDiff, aBuiltin, abinG, guardFree, abin, aInt, aUn, aNilCheck, retQ, retQ1, aresults, aresultL, aresult, mkF, undefV, reduceCtorEq, kD, kE, kF, kG, kH, kI, kJ, kK, aExtract, calleeOf]; simp)
      ⟨i + 1, T, ch, rfl, hlt, rfl, leh, oI, gt, hc1, hc2, fun hc j hj => ?_⟩
    by_cases ej : j = i
    · subst ej; intro p' _ hf; rw [hTi] at hf; cases hf
    · exact hcl hc j (by omega)
  | false =>
  have ad := hp.addr (k := .i64) i hlt
  have ld := (hp2.le leh).load hpi
  have lE := LE hh leh
  have hab := (abinP p e).1
  simp only [kS1, bLookup, bMapSet, wantA, isCall, stepOp, evalO, evalL, evalP, evalM, putDst, flat, kA, kB, Nat.reduceLT, ↓reduceIte, kC, Nat.reduceEqDiff, aBuiltin, abinG, guardFree, abin, aInt, aUn, aNilCheck, retQ, retQ1, aresults, aresultL, aresult, mkF, undefV, reduceCtorEq, kD, kE, kF, kG, kH, kI, kJ, kK, aExtract, calleeOf, ix, lb]
  refine KDraw.intro mixed (.fl 0 (.fl 1 (.fl 2 (.fl 3 (.fl 4 (.fl 5 (.fl 6 (.fl 7 (.done))))))))) (by kernel_rfl) ?_
  simp only [kS1, bLookup, bMapSet, wantA, isCall, stepOp, evalO, evalL, evalP, evalM, putDst, flat, kA, kB, Nat.reduceLT, ↓reduceIte, kC, Nat.reduceEqDiff, aBuiltin, abinG, guardFree, abin, aInt, aUn, aNilCheck, retQ, retQ1, aresults, aresultL, aresult, mkF, undefV, reduceCtorEq, kD, kE, kF, kG, kH, kI, kJ, kK, aExtract, calleeOf, kD1, Nat.reduceBEq, HoldsAll, kL, kM, kN, kO, fg1, aadd, Nat.zero_add, lAh.2.2, ad, ld, lE, hab, -abinG]
  have start : (decide (p = e) = true ↔ (p = e ∨ ∃ (k : Nat) (q : Pr), k < 0 ∧ es[k]? = some q ∧ T[k]? = some true ∧ meetB p q web = true)) := by
    rw [decide_eq_true_iff]
    exact ⟨.inl, fun h => h.elim id fun ⟨k, q, hk, _⟩ => by omega⟩
  refine KLoop.intro (fun k fr hq => ∃ (j : Nat) (now : Bool), k = es.length - j ∧ j ≤ es.length ∧ fr = mkF [(1, wv), (3, .pointer (some ⟨B, 0, none⟩)), (5, .pointer (some ⟨E, 0, none⟩)), (7, .slice (some ⟨I, 0, none⟩) es.length es.length), (8, .bool ch), (9, .int .i64 i), (10, .bool now), (11, .int .i64 j)] ∧
      Le hh hq ∧ (now = true ↔ (p = e ∨ ∃ (k : Nat) (q : Pr), k < j ∧ es[k]? = some q ∧ T[k]? = some true ∧ meetB p q web = true)))
    es.length [(1, wv), (3, .pointer (some ⟨B, 0, none⟩)), (5, .pointer (some ⟨E, 0, none⟩)), (7, .slice (some ⟨I, 0, none⟩) es.length es.length), (8, .bool ch), (9, .int .i64 i), (10, .bool (decide (p = e))), (11, .int .i64 (0 : Nat))] (by simp only [hasAll, kS1, bLookup, bMapSet, wantA, isCall, stepOp, evalO, evalL, evalP, evalM, putDst, flat, kA, kB, Nat.reduceLT, ↓reduceIte, kC, Nat.reduceEqDiff, aBuiltin, abinG, guardFree, abin, aInt, aUn, aNilCheck, retQ, retQ1, aresults, aresultL, aresult, mkF, undefV, reduceCtorEq, kD, kE, kF, kG, kH, kI, kJ, kK, aExtract, calleeOf]; simp)
    ⟨0, _, rfl, Nat.zero_le _, rfl, Le.refl _, start⟩ ?_
  clear start hab lE ld lAh
  rintro k fr hq hwq ⟨j, now, rfl, hj, rfl, leq, hnow⟩
  have le2q := leh.trans leq
  have lAq := lA hq (le2.trans le2q)
  have ldp := (hp2.le le2q).load hpi
  have oIq := leq.own _ _ oI
  simp only [kS1, bLookup, bMapSet, wantA, isCall, stepOp, evalO, evalL, evalP, evalM, putDst, flat, kA, kB, Nat.reduceLT, ↓reduceIte, kC, Nat.reduceEqDiff, aBuiltin, abinG, guardFree, abin, aInt, aUn, aNilCheck, retQ, retQ1, aresults, aresultL, aresult, mkF, undefV, reduceCtorEq, kD, kE, kF, kG, kH, kI, kJ, kK, aExtract, calleeOf, fg1, aadd, Nat.zero_add, lAq.2.2, ll]
  refine KCond.intro (fun ht => ?_) (fun hf => ?_)
  rotate_left
  · have hge : es.length ≤ j := lt_f hf
    cases now with
    | false =>
      simp only [kS1, bLookup, bMapSet, wantA, isCall, stepOp, evalO, evalL, evalP, evalM, putDst, flat, kA, kB, Nat.reduceLT, ↓reduceIte, kC, Nat.reduceEqDiff, aBuiltin, abinG, guardFree, abin, aInt, aUn, aNilCheck, retQ, retQ1, aresults, aresultL, aresult, mkF, undefV, reduceCtorEq, kD, kE, kF, kG, kH, kI, kJ, kK, aExtract, calleeOf, awrap_succ i (by omega)]
      refine loop_again (es.length - (i + 1)) [(1, wv), (3, .pointer (some ⟨B, 0, none⟩)), (5, .pointer (some ⟨E, 0, none⟩)), (7, .slice (some ⟨I, 0, none⟩) es.length es.length), (8, .bool ch), (9, .int .i64 (i + 1 : Nat))] (by omega) (by simp only [hasAll, kS1, bLookup, bMapSet, wantA, isCall, stepOp, evalO, evalL, evalP, evalM, putDst, flat, kA, kB, Nat.reduceLT, ↓reduceIte, kC, Nat.reduceEqDiff, aBuiltin, abinG, guardFree, abin, aInt, aUn, aNilCheck, retQ, retQ1, aresults, aresultL, aresult, mkF, undefV, reduceCtorEq, kD, kE, kF, kG, kH, kI, kJ, kK, aExtract, calleeOf]; simp)
        ⟨i + 1, T, ch, rfl, hlt, rfl, le2q, oIq, gt, hc1, hc2, fun hc a ha => ?_⟩
      by_cases ea : a = i
      · subst ea
        intro p' hp' _
        rw [hpi] at hp'; injection hp' with hp'; subst hp'
        refine ⟨fun he => (by cases hnow.2 (.inl he)), fun k q hq hk => ?_⟩
        cases hm : meetB p q web with
        | false => rfl
        | true => have := (List.getElem?_eq_some_iff.1 hq).1; cases hnow.2 (.inr ⟨k, q, by omega, hq, hk, hm⟩)
      · exact hcl hc a (by omega)
    | true =>
      have hG : Gw es web e i := by
        rcases hnow.1 rfl with rfl | ⟨k, q, _, hq, hk, hm⟩
        · exact .base hpi
        · exact .step (gt.ok k hk) hpi hq hm
      have st := aStore1 (P := Try.prog) (t := 4) (x := .bool true) Try.underlying4 (by kernel_rfl) oIq (off := i) (by simpa using hTl) rfl rfl
      have hset : (T.map Value.bool).set i (.bool true) = (T.set i true).map Value.bool := by rw [List.map_set]
      rw [hset] at st
      have cs := count_set hTi
      simp only [kS1, bLookup, bMapSet, wantA, isCall, stepOp, evalO, evalL, evalP, evalM, putDst, flat, kA, kB, Nat.reduceLT, ↓reduceIte, kC, Nat.reduceEqDiff, aBuiltin, abinG, guardFree, abin, aInt, aUn, aNilCheck, retQ, retQ1, aresults, aresultL, aresult, mkF, undefV, reduceCtorEq, kD, kE, kF, kG, kH, kI, kJ, kK, aExtract, calleeOf, ix, st, awrap_succ i (by omega)]
      exact loop_again (es.length - (i + 1)) [(1, wv), (3, .pointer (some ⟨B, 0, none⟩)), (5, .pointer (some ⟨E, 0, none⟩)), (7, .slice (some ⟨I, 0, none⟩) es.length es.length), (8, .bool true), (9, .int .i64 (i + 1 : Nat))] (by omega) (by simp only [hasAll, kS1, bLookup, bMapSet, wantA, isCall, stepOp, evalO, evalL, evalP, evalM, putDst, flat, kA, kB, Nat.reduceLT, ↓reduceIte, kC, Nat.reduceEqDiff, aBuiltin, abinG, guardFree, abin, aInt, aUn, aNilCheck, retQ, retQ1, aresults, aresultL, aresult, mkF, undefV, reduceCtorEq, kD, kE, kF, kG, kH, kI, kJ, kK, aExtract, calleeOf]; simp)
        ⟨i + 1, T.set i true, true, rfl, hlt, rfl, le2q.put _ nI, AHeap.own_put_eq _ _ _, gt.push hlt hG, fun _ => by omega, by omega, fun hc => by cases hc⟩
  have hjl : j < es.length := lt_t ht
  clear ht
  have hqj := getElem?_of hjl
  have hTj := getElem?_of (show j < T.length by rw [gt.len]; exact hjl)
  generalize es[j] = q at hqj
  generalize T[j]'(by rw [gt.len]; exact hjl) = bj at hTj
  have ixj := ixI .i64 j hjl
  have lbj := ldI hq T j bj oIq hTj
  have adj := hp.addr (k := .i64) j hjl
  have ldj := (hp2.le le2q).load hqj
  have done : ∀ nw : Bool, (nw = true ↔ now = true ∨ (bj = true ∧ meetB p q web = true)) → (nw = true ↔ (p = e ∨ ∃ (k : Nat) (q : Pr), k < j + 1 ∧ es[k]? = some q ∧ T[k]? = some true ∧ meetB p q web = true)) := fun nw hnw => by
    rw [hnw, hnow]
    constructor
    · rintro ((h | ⟨k, q', hk, h⟩) | ⟨rfl, hm⟩)
      · exact .inl h
      · exact .inr ⟨k, q', by omega, h⟩
      · exact .inr ⟨j, q, by omega, hqj, hTj, hm⟩
    · rintro (h | ⟨k, q', hk, hq', hT', hm⟩)
      · exact .inl (.inl h)
      · by_cases ek : k = j
        · subst ek
          rw [hqj] at hq'; injection hq' with hq'; subst hq'
          rw [hTj] at hT'; injection hT' with hT'
          exact .inr ⟨hT', hm⟩
        · exact .inl (.inr ⟨k, q', by omega, hq', hT', hm⟩)
  cases now with
  | true =>
    simp only [kS1, bLookup, bMapSet, wantA, isCall, stepOp, evalO, evalL, evalP, evalM, putDst, flat, kA, kB, Nat.reduceLT, ↓reduceIte, kC, Nat.reduceEqDiff, aBuiltin, abinG, guardFree, abin, aInt, aUn, aNilCheck, retQ, retQ1, aresults, aresultL, aresult, mkF, undefV, reduceCtorEq, kD, kE, kF, kG, kH, kI, kJ, kK, aExtract, calleeOf]
    refine KDraw.intro mixed (.fl 0 (.fl 1 (.fl 2 (.fl 3 (.fl 4 (.fl 5 (.fl 6 (.fl 7 (.fl 8 (.fl 9 (.fl 10 (.fl 11 (.fl 12 (.fl 13 (.fl 14 (.fl 15 (.fl 16 (.fl 17 (.ch 18 [6, 11, 16, 17] (.fl 19 (.fl 20 (.ch 21 [0, 1, 2, 3, 4, 5, 6, 7, 8, 9, 10, 11, 12, 13, 14, 15, 16, 17, 18, 19, 20] (.done) .no))) .no))))))))))))))))))) (by kernel_rfl) ?_
    simp only [kS1, bLookup, bMapSet, wantA, isCall, stepOp, evalO, evalL, evalP, evalM, putDst, flat, kA, kB, Nat.reduceLT, ↓reduceIte, kC, Nat.reduceEqDiff, aBuiltin, abinG, guardFree, abin, aInt, aUn, aNilCheck, retQ, retQ1, aresults, aresultL, aresult, mkF, undefV, reduceCtorEq, kD, kE, kF, kG, kH, kI, kJ, kK, aExtract, calleeOf, kD1, Nat.reduceBEq, HoldsAll, kL, kM, kN, kO, awrap_succ j (by omega)]
    exact loop_again (es.length - (j + 1)) [(1, wv), (3, .pointer (some ⟨B, 0, none⟩)), (5, .pointer (some ⟨E, 0, none⟩)), (7, .slice (some ⟨I, 0, none⟩) es.length es.length), (8, .bool ch), (9, .int .i64 i), (10, .bool true), (11, .int .i64 (j + 1 : Nat))] (by omega) (by simp only [hasAll, kS1, bLookup, bMapSet, wantA, isCall, stepOp, evalO, evalL, evalP, evalM, putDst, flat, kA, kB, Nat.reduceLT, ↓reduceIte, kC, Nat.reduceEqDiff, aBuiltin, abinG, guardFree, abin, aInt, aUn, aNilCheck, retQ, retQ1, aresults, aresultL, aresult, mkF, undefV, reduceCtorEq, kD, kE, kF, kG, kH, kI, kJ, kK, aExtract, calleeOf]; simp)
      ⟨j + 1, true, rfl, hjl, rfl, leq, done true (by simp)⟩
  | false =>
  cases bj with
  | false =>
    simp only [kS1, bLookup, bMapSet, wantA, isCall, stepOp, evalO, evalL, evalP, evalM, putDst, flat, kA, kB, Nat.reduceLT, ↓reduceIte, kC, Nat.reduceEqDiff, aBuiltin, abinG, guardFree, abin, aInt, aUn, aNilCheck, retQ, retQ1, aresults, aresultL, aresult, mkF, undefV, reduceCtorEq, kD, kE, kF, kG, kH, kI, kJ, kK, aExtract, calleeOf]
    refine KDraw.intro mixed (.fl 0 (.fl 1 (.fl 2 (.fl 3 (.fl 4 (.fl 5 (.fl 6 (.fl 7 (.fl 8 (.fl 9 (.fl 10 (.fl 11 (.fl 12 (.fl 13 (.fl 14 (.fl 15 (.fl 16 (.fl 17 (.ch 18 [6, 11, 16, 17] (.fl 19 (.fl 20 (.ch 21 [0, 1, 2, 3, 4, 5, 6, 7, 8, 9, 10, 11, 12, 13, 14, 15, 16, 17, 18, 19, 20] (.done) .no))) .no))))))))))))))))))) (by kernel_rfl) ?_
    simp only [kS1, bLookup, bMapSet, wantA, isCall, stepOp, evalO, evalL, evalP, evalM, putDst, flat, kA, kB, Nat.reduceLT, ↓reduceIte, kC, Nat.reduceEqDiff, aBuiltin, abinG, guardFree, abin, aInt, aUn, aNilCheck, retQ, retQ1, aresults, aresultL, aresult, mkF, undefV, reduceCtorEq, kD, kE, kF, kG, kH, kI, kJ, kK, aExtract, calleeOf, kD1, Nat.reduceBEq, HoldsAll, kL, kM, kN, kO, ixj, lbj, awrap_succ j (by omega)]
    exact loop_again (es.length - (j + 1)) [(1, wv), (3, .pointer (some ⟨B, 0, none⟩)), (5, .pointer (some ⟨E, 0, none⟩)), (7, .slice (some ⟨I, 0, none⟩) es.length es.length), (8, .bool ch), (9, .int .i64 i), (10, .bool false), (11, .int .i64 (j + 1 : Nat))] (by omega) (by simp only [hasAll, kS1, bLookup, bMapSet, wantA, isCall, stepOp, evalO, evalL, evalP, evalM, putDst, flat, kA, kB, Nat.reduceLT, ↓reduceIte, kC, Nat.reduceEqDiff, aBuiltin, abinG, guardFree, abin, aInt, aUn, aNilCheck, retQ, retQ1, aresults, aresultL, aresult, mkF, undefV, reduceCtorEq, kD, kE, kF, kG, kH, kI, kJ, kK, aExtract, calleeOf]; simp)
      ⟨j + 1, false, rfl, hjl, rfl, leq, done false (by simp)⟩
  | true =>
    simp only [kS1, bLookup, bMapSet, wantA, isCall, stepOp, evalO, evalL, evalP, evalM, putDst, flat, kA, kB, Nat.reduceLT, ↓reduceIte, kC, Nat.reduceEqDiff, aBuiltin, abinG, guardFree, abin, aInt, aUn, aNilCheck, retQ, retQ1, aresults, aresultL, aresult, mkF, undefV, reduceCtorEq, kD, kE, kF, kG, kH, kI, kJ, kK, aExtract, calleeOf]
    refine KDraw.intro mixed (.fl 0 (.fl 1 (.fl 2 (.fl 3 (.fl 4 (.fl 5 (.fl 6 (.fl 7 (.fl 8 (.fl 9 (.fl 10 (.fl 11 (.fl 12 (.fl 13 (.fl 14 (.fl 15 (.fl 16 (.fl 17 (.ch 18 [6, 11, 16, 17] (.fl 19 (.fl 20 (.ch 21 [0, 1, 2, 3, 4, 5, 6, 7, 8, 9, 10, 11, 12, 13, 14, 15, 16, 17, 18, 19, 20] (.done) .no))) .no))))))))))))))))))) (by kernel_rfl) ?_
    simp only [kS1, bLookup, bMapSet, wantA, isCall, stepOp, evalO, evalL, evalP, evalM, putDst, flat, kA, kB, Nat.reduceLT, ↓reduceIte, kC, Nat.reduceEqDiff, aBuiltin, abinG, guardFree, abin, aInt, aUn, aNilCheck, retQ, retQ1, aresults, aresultL, aresult, mkF, undefV, reduceCtorEq, kD, kE, kF, kG, kH, kI, kJ, kK, aExtract, calleeOf, kD1, Nat.reduceBEq, HoldsAll, kL, kM, kN, kO, ixj, lbj, fg1, aadd, Nat.zero_add, lAq.2.2, ad, ldp, adj, ldj]
    refine KGCall.intro (by simp only [kS1, bLookup, bMapSet, wantA, isCall, stepOp, evalO, evalL, evalP, evalM, putDst, flat, kA, kB, Nat.reduceLT, ↓reduceIte, kC, Nat.reduceEqDiff, aBuiltin, abinG, guardFree, abin, aInt, aUn, aNilCheck, retQ, retQ1, aresults, aresultL, aresult, mkF, undefV, reduceCtorEq, kD, kE, kF, kG, kH, kI, kJ, kK, aExtract, calleeOf] <;> rfl) ⟨Try.func72, rfl, by decide⟩ (meet_any W0 p q wv web hq (hw2.le le2q) (by omega)) ?_
    rintro x h9 w9 ⟨rfl, le9⟩
    have lA9 := lA h9 ((le2.trans le2q).trans le9)
    have ldp9 := (hp2.le (le2q.trans le9)).load hpi
    have ldj9 := (hp2.le (le2q.trans le9)).load hqj
    have lbj9 := ldI h9 T j true (le9.own _ _ oIq) hTj
    simp only [kS1, bLookup, bMapSet, wantA, isCall, stepOp, evalO, evalL, evalP, evalM, putDst, flat, kA, kB, Nat.reduceLT, ↓reduceIte, kC, Nat.reduceEqDiff, aBuiltin, abinG, guardFree, abin, aInt, aUn, aNilCheck, retQ, retQ1, aresults, aresultL, aresult, mkF, undefV, reduceCtorEq, kD, kE, kF, kG, kH, kI, kJ, kK, aExtract, calleeOf, kD1, Nat.reduceBEq, HoldsAll, kL, kM, kN, kO, ixj, lbj9, fg1, aadd, Nat.zero_add, lA9.2.2, ad, ldp9, adj, ldj9, awrap_succ j (by omega)]
    exact loop_again (es.length - (j + 1)) [(1, wv), (3, .pointer (some ⟨B, 0, none⟩)), (5, .pointer (some ⟨E, 0, none⟩)), (7, .slice (some ⟨I, 0, none⟩) es.length es.length), (8, .bool ch), (9, .int .i64 i), (10, .bool (meetB p q web)), (11, .int .i64 (j + 1 : Nat))] (by omega) (by simp only [hasAll, kS1, bLookup, bMapSet, wantA, isCall, stepOp, evalO, evalL, evalP, evalM, putDst, flat, kA, kB, Nat.reduceLT, ↓reduceIte, kC, Nat.reduceEqDiff, aBuiltin, abinG, guardFree, abin, aInt, aUn, aNilCheck, retQ, retQ1, aresults, aresultL, aresult, mkF, undefV, reduceCtorEq, kD, kE, kF, kG, kH, kI, kJ, kK, aExtract, calleeOf]; simp)
      ⟨j + 1, _, rfl, hjl, rfl, leq.trans le9, done _ (by simp)⟩
end Go.Fw
namespace Go.Fw
open Go.Proofs
attribute [local irreducible] KO4 KO3 KO2 KO1 KO KN KX KE VK KCond KDraw KCall KLoop
set_option maxHeartbeats 4000000
set_option maxRecDepth 10000
def rfeet (web l : List Pr) (n : Nat) : List Nat := (List.range n).filter fun v => onE web (v : Int) && onE l (v : Int)
theorem rfeet_succ (web l : List Pr) (n : Nat) : rfeet web l (n + 1) = if (onE web (n : Int) && onE l (n : Int)) = true then rfeet web l n ++ [n] else rfeet web l n := by
  simp only [rfeet, List.range_succ, List.filter_append]
  cases h : (onE web (n : Int) && onE l (n : Int)) <;> simp [h]
theorem rfeet_length (web l : List Pr) (n : Nat) : (rfeet web l n).length ≤ n := by
  have := List.length_filter_le (fun v : Nat => onE web (v : Int) && onE l (v : Int)) (List.range n)
  simpa [rfeet] using this
theorem rfeet_any (W0 : World) (n : Nat) (wv lv : Value) (web l : List Pr) (h : AHeap) (hw : PR h wv web) (hl : PR h lv l) (hn : n ≤ 1000) (h1 : web.length ≤ 100000) (h2 : l.length ≤ 100000) :
    AC Try.prog W0 45 [.int .i64 n, wv, lv] h fun x h' => GI h' x (nat64 (rfeet web l n)) ∧ Le h h' ∧ Apart h x := by
  refine AC.vc (fn := Try.f45) (c := _) ⟨Try.func45, rfl, by decide⟩ Try.ntmps45 Try.results45 (by simp) fun hwf => ?_
  simp only [argFrame, argFrom, Nat.reduceAdd]
  simp only [kS1, bLookup, bMapSet, wantA, isCall, stepOp, evalO, evalL, evalP, evalM, putDst, flat, kA, kB, Nat.reduceLT, ↓reduceIte, kC, Nat.reduceEqDiff, aBuiltin, abinG, guardFree, abin, aInt, aUn, aNilCheck, retQ, retQ1, aresults, aresultL, aresult, mkF, undefV, reduceCtorEq, kD, kE, kF, kG, kH, kI, kJ, kK, aExtract, calleeOf]
  refine KLoop.intro (fun k fr hq => ∃ (i : Nat) (ov : Value), k = n - i ∧ i ≤ n ∧ fr = mkF [(0, .int .i64 n), (1, wv), (2, lv), (7, ov), (8, .int .i64 i)] ∧ GI hq ov (nat64 (rfeet web l i)) ∧ Le h hq ∧ Apart h ov)
    n [(0, .int .i64 n), (1, wv), (2, lv), (7, .slice none 0 0), (8, .int .i64 (0 : Nat))] (by simp only [hasAll, kS1, bLookup, bMapSet, wantA, isCall, stepOp, evalO, evalL, evalP, evalM, putDst, flat, kA, kB, Nat.reduceLT, ↓reduceIte, kC, Nat.reduceEqDiff, aBuiltin, abinG, guardFree, abin, aInt, aUn, aNilCheck, retQ, retQ1, aresults, aresultL, aresult, mkF, undefV, reduceCtorEq, kD, kE, kF, kG, kH, kI, kJ, kK, aExtract, calleeOf]; simp) ⟨0, _, rfl, Nat.zero_le _, rfl, GI.nil h, Le.refl _, fun b hb => by simp [blk] at hb⟩ ?_
  rintro k fr hq hwq ⟨i, ov, rfl, hi, rfl, g, leq, ap⟩
  simp only [kS1, bLookup, bMapSet, wantA, isCall, stepOp, evalO, evalL, evalP, evalM, putDst, flat, kA, kB, Nat.reduceLT, ↓reduceIte, kC, Nat.reduceEqDiff, aBuiltin, abinG, guardFree, abin, aInt, aUn, aNilCheck, retQ, retQ1, aresults, aresultL, aresult, mkF, undefV, reduceCtorEq, kD, kE, kF, kG, kH, kI, kJ, kK, aExtract, calleeOf]
  refine KCond.intro (fun ht => ?_) (fun hf => ?_)
  rotate_left
  · have hge : n ≤ i := lt_f hf
    obtain rfl : i = n := by omega
    simp only [kS1, bLookup, bMapSet, wantA, isCall, stepOp, evalO, evalL, evalP, evalM, putDst, flat, kA, kB, Nat.reduceLT, ↓reduceIte, kC, Nat.reduceEqDiff, aBuiltin, abinG, guardFree, abin, aInt, aUn, aNilCheck, retQ, retQ1, aresults, aresultL, aresult, mkF, undefV, reduceCtorEq, kD, kE, kF, kG, kH, kI, kJ, kK, aExtract, calleeOf]
    exact ⟨g, leq, ap⟩
  have hlt : i < n := lt_t ht
  clear ht
  have hs := rfeet_succ web l i
  have hgl := rfeet_length web l i
  simp only [kS1, bLookup, bMapSet, wantA, isCall, stepOp, evalO, evalL, evalP, evalM, putDst, flat, kA, kB, Nat.reduceLT, ↓reduceIte, kC, Nat.reduceEqDiff, aBuiltin, abinG, guardFree, abin, aInt, aUn, aNilCheck, retQ, retQ1, aresults, aresultL, aresult, mkF, undefV, reduceCtorEq, kD, kE, kF, kG, kH, kI, kJ, kK, aExtract, calleeOf]
  refine KCall.intro (by simp only [kS1, bLookup, bMapSet, wantA, isCall, stepOp, evalO, evalL, evalP, evalM, putDst, flat, kA, kB, Nat.reduceLT, ↓reduceIte, kC, Nat.reduceEqDiff, aBuiltin, abinG, guardFree, abin, aInt, aUn, aNilCheck, retQ, retQ1, aresults, aresultL, aresult, mkF, undefV, reduceCtorEq, kD, kE, kF, kG, kH, kI, kJ, kK, aExtract, calleeOf] <;> rfl) ⟨Try.func73, rfl, by decide⟩ (On_any W0 wv web (i : Int) hq (hw.le leq) h1) ?_
  rintro x g1 w1 ⟨rfl, l1⟩
  cases c1 : onE web (i : Int) with
  | false =>
    rw [c1, Bool.false_and, if_neg (by simp)] at hs
    rw [← hs] at g
    simp only [kS1, bLookup, bMapSet, wantA, isCall, stepOp, evalO, evalL, evalP, evalM, putDst, flat, kA, kB, Nat.reduceLT, ↓reduceIte, kC, Nat.reduceEqDiff, aBuiltin, abinG, guardFree, abin, aInt, aUn, aNilCheck, retQ, retQ1, aresults, aresultL, aresult, mkF, undefV, reduceCtorEq, kD, kE, kF, kG, kH, kI, kJ, kK, aExtract, calleeOf, awrap_succ i (by omega)]
    exact loop_again (n - (i + 1)) [(0, .int .i64 n), (1, wv), (2, lv), (7, ov), (8, .int .i64 (i + 1 : Nat))] (by omega) (by simp only [hasAll, kS1, bLookup, bMapSet, wantA, isCall, stepOp, evalO, evalL, evalP, evalM, putDst, flat, kA, kB, Nat.reduceLT, ↓reduceIte, kC, Nat.reduceEqDiff, aBuiltin, abinG, guardFree, abin, aInt, aUn, aNilCheck, retQ, retQ1, aresults, aresultL, aresult, mkF, undefV, reduceCtorEq, kD, kE, kF, kG, kH, kI, kJ, kK, aExtract, calleeOf]; simp) ⟨i + 1, ov, rfl, hlt, rfl, g.le l1, leq.trans l1, ap⟩
  | true =>
  simp only [kS1, bLookup, bMapSet, wantA, isCall, stepOp, evalO, evalL, evalP, evalM, putDst, flat, kA, kB, Nat.reduceLT, ↓reduceIte, kC, Nat.reduceEqDiff, aBuiltin, abinG, guardFree, abin, aInt, aUn, aNilCheck, retQ, retQ1, aresults, aresultL, aresult, mkF, undefV, reduceCtorEq, kD, kE, kF, kG, kH, kI, kJ, kK, aExtract, calleeOf]
  refine KCall.intro (by simp only [kS1, bLookup, bMapSet, wantA, isCall, stepOp, evalO, evalL, evalP, evalM, putDst, flat, kA, kB, Nat.reduceLT, ↓reduceIte, kC, Nat.reduceEqDiff, aBuiltin, abinG, guardFree, abin, aInt, aUn, aNilCheck, retQ, retQ1, aresults, aresultL, aresult, mkF, undefV, reduceCtorEq, kD, kE, kF, kG, kH, kI, kJ, kK, aExtract, calleeOf] <;> rfl) ⟨Try.func73, rfl, by decide⟩ (On_any W0 lv l (i : Int) g1 (hl.le (leq.trans l1)) h2) ?_
  rintro x g2 w2 ⟨rfl, l2⟩
  have g' := (g.le l1).le l2
  have leq2 := (leq.trans l1).trans l2
  cases c2 : onE l (i : Int) with
  | false =>
    rw [c1, c2, Bool.and_false, if_neg (by simp)] at hs
    rw [← hs] at g'
    simp only [kS1, bLookup, bMapSet, wantA, isCall, stepOp, evalO, evalL, evalP, evalM, putDst, flat, kA, kB, Nat.reduceLT, ↓reduceIte, kC, Nat.reduceEqDiff, aBuiltin, abinG, guardFree, abin, aInt, aUn, aNilCheck, retQ, retQ1, aresults, aresultL, aresult, mkF, undefV, reduceCtorEq, kD, kE, kF, kG, kH, kI, kJ, kK, aExtract, calleeOf, awrap_succ i (by omega)]
    exact loop_again (n - (i + 1)) [(0, .int .i64 n), (1, wv), (2, lv), (7, ov), (8, .int .i64 (i + 1 : Nat))] (by omega) (by simp only [hasAll, kS1, bLookup, bMapSet, wantA, isCall, stepOp, evalO, evalL, evalP, evalM, putDst, flat, kA, kB, Nat.reduceLT, ↓reduceIte, kC, Nat.reduceEqDiff, aBuiltin, abinG, guardFree, abin, aInt, aUn, aNilCheck, retQ, retQ1, aresults, aresultL, aresult, mkF, undefV, reduceCtorEq, kD, kE, kF, kG, kH, kI, kJ, kK, aExtract, calleeOf]; simp) ⟨i + 1, ov, rfl, hlt, rfl, g', leq2, ap⟩
  | true =>
    rw [c1, c2, Bool.and_true, if_pos rfl] at hs
    obtain ⟨ov', g4, g5, e4, e5, gg, w5, l4, hf5, -⟩ := g'.push w2 (i : Int) (by rw [nat64_length]; omega)
    obtain ⟨l5, a5⟩ := hf5 h leq2 ap
    have hc : nat64 (rfeet web l i) ++ [(i : Int)] = nat64 (rfeet web l (i + 1)) := by rw [hs]; simp [nat64]
    rw [hc] at gg
    simp only [kS1, bLookup, bMapSet, wantA, isCall, stepOp, evalO, evalL, evalP, evalM, putDst, flat, kA, kB, Nat.reduceLT, ↓reduceIte, kC, Nat.reduceEqDiff, aBuiltin, abinG, guardFree, abin, aInt, aUn, aNilCheck, retQ, retQ1, aresults, aresultL, aresult, mkF, undefV, reduceCtorEq, kD, kE, kF, kG, kH, kI, kJ, kK, aExtract, calleeOf, e4, e5, awrap_succ i (by omega)]
    exact loop_again (n - (i + 1)) [(0, .int .i64 n), (1, wv), (2, lv), (7, ov'), (8, .int .i64 (i + 1 : Nat))] (by omega) (by simp only [hasAll, kS1, bLookup, bMapSet, wantA, isCall, stepOp, evalO, evalL, evalP, evalM, putDst, flat, kA, kB, Nat.reduceLT, ↓reduceIte, kC, Nat.reduceEqDiff, aBuiltin, abinG, guardFree, abin, aInt, aUn, aNilCheck, retQ, retQ1, aresults, aresultL, aresult, mkF, undefV, reduceCtorEq, kD, kE, kF, kG, kH, kI, kJ, kK, aExtract, calleeOf]; simp) ⟨i + 1, ov', rfl, hlt, rfl, gg, l5, a5⟩
structure SelP (es web : List Pr) (e : Pr) (S : List Bool) : Prop where
  len : S.length = es.length
  iff : ∀ j, S[j]? = some true ↔ Gw es web e j
inductive RO (es web : List Pr) (n : Nat) : Nat → List FM → List Pr → Prop
  | nil : RO es web n 0 [] []
  | skip {i : Nat} {fs : List FM} {done : List Pr} {p : Pr} : RO es web n i fs done → es[i]? = some p → (p ∈ web ∨ p ∈ done) → RO es web n (i + 1) fs done
  | take {i : Nat} {fs : List FM} {done : List Pr} {p : Pr} {S : List Bool} : RO es web n i fs done → es[i]? = some p → p ∉ web → p ∉ done → SelP es web p S →
      RO es web n (i + 1) (fs ++ [⟨selM es S es.length, nat64 (rfeet web (selM es S es.length) n)⟩]) (done ++ selM es S es.length)
theorem RO.len {es web : List Pr} {n i : Nat} {fs : List FM} {done : List Pr} (r : RO es web n i fs done) : done.length ≤ i * es.length ∧ fs.length ≤ i := by
  induction r with
  | nil => simp
  | skip _ _ _ ih => rw [Nat.succ_mul]; omega
  | @take i fs done p S _ _ _ _ _ ih =>
    have := selM_length es S es.length
    simp only [List.length_append, List.length_cons, List.length_nil, Nat.succ_mul]; omega
theorem PR.to_rem {h : AHeap} {v : Value} {ps : List Pr} {l : List Nat} (g : GP h v ps) (hb : ∀ b, blk v = some b → b ∉ l) : PR (rem l h) v ps := (GS.to_rem g hb).cs
theorem GI.to_rem {h : AHeap} {v : Value} {xs : List Int} {l : List Nat} (g : GI h v xs) (hb : ∀ b, blk v = some b → b ∉ l) : RL isI (rem l h) v xs := RL.ofI (GS.to_rem g hb).cs.rs
theorem mkF1 (h : AHeap) {a b : Value} {n m : Nat} (ha : isSl a n) (hb : isSl b m) : aBuildSlice Try.prog h 27 1 [(0, .agg #[a, b])] = some (.slice (some ⟨h.next, 0, none⟩) 1 1, h.alloc (.cells [a, b])) := by
  obtain ⟨_, _, rfl, _⟩ := ha
  obtain ⟨_, _, rfl, _⟩ := hb
  kernel_rfl
structure FG (b0 h : AHeap) (ov dv : Value) (fs : List FM) (done : List Pr) : Prop where
  ex : ∃ (f : AHeap) (c : List Value), GS 2 h ov fs.length c ∧ c.all (·.oneCell') = true ∧ Le b0 f ∧ Le f h ∧ Apart f ov ∧ Apart f dv ∧
    ∀ (i : Nat) x, fs[i]? = some x → ∃ a b, c[i * 2]? = some a ∧ c[i * 2 + 1]? = some b ∧ PR f a x.edges ∧ RL isI f b x.feet
  gd : GP h dv done
  ne : ∀ b, blk ov = some b → blk dv ≠ some b
theorem FG.fl {b0 h : AHeap} {ov dv : Value} {fs : List FM} {done : List Pr} (r : FG b0 h ov dv fs done) : FL h ov fs := by
  obtain ⟨f, c, g, _, _, lf, _, _, hx⟩ := r.ex
  exact ⟨c, g.cs, fun i x hi => by obtain ⟨a, b, q1, q2, q3, q4⟩ := hx i x hi; exact ⟨a, b, q1, q2, q3.le lf, q4.le Stays.isI lf⟩⟩
theorem FG.le {b0 h : AHeap} {ov dv : Value} {fs : List FM} {done : List Pr} (r : FG b0 h ov dv fs done) : Le b0 h := by
  obtain ⟨f, c, _, _, l1, l2, _⟩ := r.ex; exact l1.trans l2
theorem FG.up {b0 h h' : AHeap} {ov dv : Value} {fs : List FM} {done : List Pr} (r : FG b0 h ov dv fs done) (e : Le h h') : FG b0 h' ov dv fs done := by
  obtain ⟨⟨f, c, g, c1, l1, l2, r⟩, gd, ne⟩ := r
  exact ⟨⟨f, c, g.le e, c1, l1, l2.trans e, r⟩, gd.le e, ne⟩
theorem FG.start (h : AHeap) : FG h h (.slice none 0 0) (.slice none 0 0) [] [] :=
  ⟨⟨h, [], GS.nil 2 h, rfl, Le.refl h, Le.refl h, fun b hb => by simp [blk] at hb, fun b hb => by simp [blk] at hb, fun i x hx => by simp at hx⟩, GP.nil h, fun b hb => by simp [blk] at hb⟩
theorem FG.join {b0 h : AHeap} {ov dv lv : Value} {fs : List FM} {done l : List Pr} (r : FG b0 h ov dv fs done) (hwf : WF h) (gl : GP h lv l) (hl : ∀ b, blk lv = some b → blk ov ≠ some b ∧ blk dv ≠ some b) (hn : done.length + l.length ≤ 1000000000) :
    ∃ dv' h', aAppend Try.prog h 22 22 dv lv = some (dv', h') ∧ WF h' ∧ FG b0 h' ov dv' fs (done ++ l) ∧ GP h' lv l ∧ ∀ b, blk lv = some b → blk ov ≠ some b ∧ blk dv' ≠ some b := by
  obtain ⟨⟨f, c, g, c1, l1, l2, ao, ad, hx⟩, gd, ne⟩ := r
  obtain ⟨dv', h5, e5, g5, w5, hf, hk⟩ := gd.join hwf gl.pr hn
  obtain ⟨lf5, ad5⟩ := hf f l2 ad
  refine ⟨dv', h5, e5, w5, ⟨⟨f, c, GS.kept g fun b o hb ho => (hk b o ho (ne b hb)).1, c1, l1, lf5, ao, ad5, hx⟩, g5, fun b hb => ?_⟩, GS.kept gl fun b o hb ho => (hk b o ho (hl b hb).2).1, fun b hb => ⟨(hl b hb).1, ?_⟩⟩
  · obtain ⟨o, ho⟩ := Option.ne_none_iff_exists'.1 (GS.blk_own g hb)
    exact (hk b o ho (ne b hb)).2
  · obtain ⟨o, ho⟩ := Option.ne_none_iff_exists'.1 (GS.blk_own gl hb)
    exact (hk b o ho (hl b hb).2).2
theorem FG.push {b0 h : AHeap} {ov dv lv fv : Value} {fs : List FM} {done l : List Pr} {xs : List Int} (r : FG b0 h ov dv fs done) (hwf : WF h) (gl : GP h lv l) (gx : GI h fv xs) (hl : ∀ b, blk lv = some b → blk ov ≠ some b ∧ blk dv ≠ some b) (hx' : ∀ b, blk fv = some b → blk ov ≠ some b ∧ blk dv ≠ some b) (hn : fs.length ≤ 100000) :
    ∃ ov' h4 h5, aBuildSlice Try.prog h 27 1 [(0, .agg #[lv, fv])] = some (.slice (some ⟨h.next, 0, none⟩) 1 1, h4) ∧ aAppend Try.prog h4 27 27 ov (.slice (some ⟨h.next, 0, none⟩) 1 1) = some (ov', h5) ∧ WF h5 ∧ FG b0 h5 ov' dv (fs ++ [⟨l, xs⟩]) done := by
  obtain ⟨⟨f, c, g, c1, l1, l2, ao, ad, hx⟩, gd, ne⟩ := r
  obtain ⟨h4, e4, l4, w4, o4⟩ := alloc_f hwf [lv, fv]
  have ol := gl.pr.sl
  have of' := gx.rl.sl
  have hnew : CS 2 h4 (.slice (some ⟨h.next, 0, none⟩) 1 1) 1 [lv, fv] := CS.own (k := 2) (off := 0) (n := 1) (cap := 1) o4 (by simp)
  have hone : [lv, fv].all (·.oneCell') = true := by simp [ol.one, of'.one]
  obtain ⟨ov', h5, e5, g5, hf⟩ := GS.append (P := Try.prog) (t := 27) (xt := 27) (k := 2) (by kernel_rfl) (g.le l4) (fun e he => CS.src he hnew) c1 hone (by simp) (by omega)
  let l0 := bl ov ++ bl dv
  have nin : ∀ {b : Nat}, blk ov ≠ some b → blk dv ≠ some b → b ∉ l0 := fun h1 h2 hm => by
    simp only [l0, List.mem_append, mem_bl] at hm
    rcases hm with hm | hm
    · exact h1 hm
    · exact h2 hm
  have lff : Le f (rem l0 h4) := (l2.trans l4).of_none fun i hi => by
    simp only [l0, List.mem_append, mem_bl] at hi
    rcases hi with hi | hi
    · exact ao i hi
    · exact ad i hi
  have apo : Apart (rem l0 h4) ov := fun b hb => by rw [rem_own, if_pos]; simp only [l0, List.mem_append, mem_bl]; exact .inl hb
  have apd : Apart (rem l0 h4) dv := fun b hb => by rw [rem_own, if_pos]; simp only [l0, List.mem_append, mem_bl]; exact .inr hb
  obtain ⟨lf5, ao5⟩ := hf (rem l0 h4) w4 (rem_le _ _) apo
  have hcl : c.length = fs.length * 2 := g.1
  refine ⟨ov', h4, h5, by rw [mkF1 h ol of', e4], e5, aAppend_wf w4 e5, ⟨⟨rem l0 h4, c ++ [lv, fv], by rw [List.length_append]; exact g5, by rw [List.all_append, c1, hone]; rfl, l1.trans lff, lf5, ao5, apd, fun i x hi => ?_⟩, GS.kept (gd.le l4) fun b o hb ho => (keep_own hf w4 ho (fun hb' => ne b hb' hb)).1, fun b hb hb' => ?_⟩⟩
  · by_cases hil : i < fs.length
    · rw [List.getElem?_append_left hil] at hi
      obtain ⟨a, b, q1, q2, q3, q4⟩ := hx i x hi
      exact ⟨a, b, by rw [List.getElem?_append_left (by omega)]; exact q1, by rw [List.getElem?_append_left (by omega)]; exact q2, q3.le lff, q4.le Stays.isI lff⟩
    · rw [List.getElem?_append_right (by omega)] at hi
      have hi0 := (List.getElem?_eq_some_iff.1 hi).1
      simp at hi0
      obtain rfl : i = fs.length := by omega
      simp at hi; subst hi
      exact ⟨lv, fv, by rw [List.getElem?_append_right (by omega)]; simp [hcl], by rw [List.getElem?_append_right (by omega)]; simp [hcl], PR.to_rem (gl.le l4) fun b hb => nin (hl b hb).1 (hl b hb).2, GI.to_rem (gx.le l4) fun b hb => nin (hx' b hb).1 (hx' b hb).2⟩
  · obtain ⟨o, ho⟩ := Option.ne_none_iff_exists'.1 (GS.blk_own (gd.le l4) hb')
    exact (keep_own hf w4 ho (fun hb2 => ne b hb2 hb')).2 hb
end Go.Fw
namespace Go.Fw
open Go.Proofs
attribute [local irreducible] KO4 KO3 KO2 KO1 KO KN KX KE VK KCond KDraw KCall KLoop
set_option maxHeartbeats 8000000
set_option maxRecDepth 10000
theorem build24 {n : Int} {v : Value} {k : Nat} (hv : isSl v k) : aBuild Try.prog 24 [(0, .int .i64 n), (1, v)] = some (.agg #[.int .i64 n, v]) := by
  obtain ⟨_, _, rfl, _⟩ := hv
  kernel_rfl
structure WebR (n : Int) (es web : List Pr) : Prop where
  right : RightG ⟨n, web⟩
  mem : ∀ p ∈ web, p ∈ es
theorem RFragments_any (W0 : World) (v wv : Value) (G : GM) (web : List Pr) (h : AHeap) (hg : GR h v G) (hw : PR h wv web) :
    AC Try.prog W0 13 [v, wv] h fun x h' => Le h h' ∧ ∃ lv e, x = .tuple #[lv, .int .i64 e] ∧
      ((¬ RightG G ∧ lv = .slice none 0 0 ∧ e = 20) ∨ (RightG G ∧ ¬ WebR G.n G.es web ∧ lv = .slice none 0 0 ∧ e = 2) ∨
        (RightG G ∧ WebR G.n G.es web ∧ e = 0 ∧ ∃ fs done, RO G.es web G.n.toNat G.es.length fs done ∧ FL h' lv fs)) := by
  have hg0 := hg
  obtain ⟨gn, es⟩ := G
  obtain ⟨ev, rfl, hp⟩ := hg.open
  refine AC.vc (fn := Try.f13) (c := _) ⟨Try.func13, rfl, by decide⟩ Try.ntmps13 Try.results13 (by simp) fun hwf => ?_
  simp only [argFrame, argFrom, Nat.reduceAdd]
  obtain ⟨h1, b1, le1, wf1, -, lA⟩ := boxG (n := gn) hwf hp
  generalize h.next = B at *
  have lA1 := lA h1 (Le.refl _)
  simp only [kS1, bLookup, bMapSet, wantA, isCall, stepOp, evalO, evalL, evalP, evalM, putDst, flat, kA, kB, Nat.reduceLT, ↓reduceIte, kC, Nat.reduceEqDiff, aBuiltin, abinG, guardFree, abin, aInt, aUn, aNilCheck, retQ, retQ1, aresults, aresultL, aresult, mkF, undefV, reduceCtorEq, kD, kE, kF, kG, kH, kI, kJ, kK, aExtract, calleeOf, b1, lA1.1]
  refine KCall.intro (by simp only [kS1, bLookup, bMapSet, wantA, isCall, stepOp, evalO, evalL, evalP, evalM, putDst, flat, kA, kB, Nat.reduceLT, ↓reduceIte, kC, Nat.reduceEqDiff, aBuiltin, abinG, guardFree, abin, aInt, aUn, aNilCheck, retQ, retQ1, aresults, aresultL, aresult, mkF, undefV, reduceCtorEq, kD, kE, kF, kG, kH, kI, kJ, kK, aExtract, calleeOf] <;> rfl) ⟨Try.func42, rfl, by decide⟩ (RefRight_any W0 _ _ h1 (hg0.le le1)) ?_
  rintro x h2 wf2 ⟨⟨bb, rfl, hbb⟩, le2⟩
  cases bb with
  | false =>
    simp only [kS1, bLookup, bMapSet, wantA, isCall, stepOp, evalO, evalL, evalP, evalM, putDst, flat, kA, kB, Nat.reduceLT, ↓reduceIte, kC, Nat.reduceEqDiff, aBuiltin, abinG, guardFree, abin, aInt, aUn, aNilCheck, retQ, retQ1, aresults, aresultL, aresult, mkF, undefV, reduceCtorEq, kD, kE, kF, kG, kH, kI, kJ, kK, aExtract, calleeOf]
    exact ⟨le1.trans le2, _, _, rfl, .inl ⟨(fun hr => by cases hbb.2 hr), rfl, rfl⟩⟩
  | true =>
  have hr := hbb.1 rfl
  have h0 : 0 ≤ gn := hr.n0
  obtain ⟨n, rfl⟩ := Int.eq_ofNat_of_zero_le h0
  have h200 : (n : Int) ≤ 200 := hr.n1
  have h594 : es.length ≤ 594 := hr.len
  have lA2 := lA h2 le2
  have bld := build24 (n := (n : Int)) hw.sl
  have hw2 := hw.le (le1.trans le2)
  simp only [kS1, bLookup, bMapSet, wantA, isCall, stepOp, evalO, evalL, evalP, evalM, putDst, flat, kA, kB, Nat.reduceLT, ↓reduceIte, kC, Nat.reduceEqDiff, aBuiltin, abinG, guardFree, abin, aInt, aUn, aNilCheck, retQ, retQ1, aresults, aresultL, aresult, mkF, undefV, reduceCtorEq, kD, kE, kF, kG, kH, kI, kJ, kK, aExtract, calleeOf, fg0, aadd, Nat.zero_add, lA2.2.1, bld]
  refine KCall.intro (by simp only [kS1, bLookup, bMapSet, wantA, isCall, stepOp, evalO, evalL, evalP, evalM, putDst, flat, kA, kB, Nat.reduceLT, ↓reduceIte, kC, Nat.reduceEqDiff, aBuiltin, abinG, guardFree, abin, aInt, aUn, aNilCheck, retQ, retQ1, aresults, aresultL, aresult, mkF, undefV, reduceCtorEq, kD, kE, kF, kG, kH, kI, kJ, kK, aExtract, calleeOf] <;> rfl) ⟨Try.func42, rfl, by decide⟩ (RefRight_any W0 _ ⟨(n : Int), web⟩ h2 ⟨wv, rfl, hw2⟩) ?_
  rintro x h3 wf3 ⟨⟨bb2, rfl, hbb2⟩, le3⟩
  have le03 := (le1.trans le2).trans le3
  cases bb2 with
  | false =>
    simp only [kS1, bLookup, bMapSet, wantA, isCall, stepOp, evalO, evalL, evalP, evalM, putDst, flat, kA, kB, Nat.reduceLT, ↓reduceIte, kC, Nat.reduceEqDiff, aBuiltin, abinG, guardFree, abin, aInt, aUn, aNilCheck, retQ, retQ1, aresults, aresultL, aresult, mkF, undefV, reduceCtorEq, kD, kE, kF, kG, kH, kI, kJ, kK, aExtract, calleeOf]
    exact ⟨le03, _, _, rfl, .inr (.inl ⟨hr, (fun k => by cases hbb2.2 k.right), rfl, rfl⟩)⟩
  | true =>
  have hrw := hbb2.1 rfl
  have hwl : web.length ≤ 594 := hrw.len
  have lw := fun g => hw.len g
  have lle := fun g => hp.len g
  simp only [kS1, bLookup, bMapSet, wantA, isCall, stepOp, evalO, evalL, evalP, evalM, putDst, flat, kA, kB, Nat.reduceLT, ↓reduceIte, kC, Nat.reduceEqDiff, aBuiltin, abinG, guardFree, abin, aInt, aUn, aNilCheck, retQ, retQ1, aresults, aresultL, aresult, mkF, undefV, reduceCtorEq, kD, kE, kF, kG, kH, kI, kJ, kK, aExtract, calleeOf]
  refine KLoop.intro (fun k fr hq => ∃ i : Nat, k = web.length - i ∧ i ≤ web.length ∧ fr = mkF [(1, wv), (2, .pointer (some ⟨B, 0, none⟩)), (6, .int .i64 i)] ∧ Le h3 hq ∧ ∀ (j : Nat) p, j < i → web[j]? = some p → p ∈ es)
    web.length [(1, wv), (2, .pointer (some ⟨B, 0, none⟩)), (6, .int .i64 (0 : Nat))] (by simp only [hasAll, kS1, bLookup, bMapSet, wantA, isCall, stepOp, evalO, evalL, evalP, evalM, putDst, flat, kA, kB, Nat.reduceLT, ↓reduceIte, kC, Nat.reduceEqDiff, aBuiltin, abinG, guardFree, abin, aInt, aUn, aNilCheck, retQ, retQ1, aresults, aresultL, aresult, mkF, undefV, reduceCtorEq, kD, kE, kF, kG, kH, kI, kJ, kK, aExtract, calleeOf]; simp) ⟨0, rfl, Nat.zero_le _, rfl, Le.refl _, by omega⟩ ?_
  rintro k fr hq hwq ⟨i, rfl, hi, rfl, leq, hall⟩
  have le0q := le03.trans leq
  have le1q := (le2.trans le3).trans leq
  simp only [kS1, bLookup, bMapSet, wantA, isCall, stepOp, evalO, evalL, evalP, evalM, putDst, flat, kA, kB, Nat.reduceLT, ↓reduceIte, kC, Nat.reduceEqDiff, aBuiltin, abinG, guardFree, abin, aInt, aUn, aNilCheck, retQ, retQ1, aresults, aresultL, aresult, mkF, undefV, reduceCtorEq, kD, kE, kF, kG, kH, kI, kJ, kK, aExtract, calleeOf, lw]
  refine KCond.intro (fun ht => ?_) (fun hf => ?_)
  · have hlt : i < web.length := lt_t ht
    clear ht
    have hpi := getElem?_of hlt
    generalize web[i] = p at hpi
    have ad := hw.addr (k := .i64) i hlt
    have ld := (hw.le le0q).load hpi
    have lAq := lA hq le1q
    simp only [kS1, bLookup, bMapSet, wantA, isCall, stepOp, evalO, evalL, evalP, evalM, putDst, flat, kA, kB, Nat.reduceLT, ↓reduceIte, kC, Nat.reduceEqDiff, aBuiltin, abinG, guardFree, abin, aInt, aUn, aNilCheck, retQ, retQ1, aresults, aresultL, aresult, mkF, undefV, reduceCtorEq, kD, kE, kF, kG, kH, kI, kJ, kK, aExtract, calleeOf]
    refine KDraw.intro mixed (.fl 0 (.fl 1 (.fl 2 (.fl 3 (.fl 4 (.fl 5 (.ch 6 [1, 5] (.fl 7 (.done)) .no))))))) (by kernel_rfl) ?_
    simp only [kS1, bLookup, bMapSet, wantA, isCall, stepOp, evalO, evalL, evalP, evalM, putDst, flat, kA, kB, Nat.reduceLT, ↓reduceIte, kC, Nat.reduceEqDiff, aBuiltin, abinG, guardFree, abin, aInt, aUn, aNilCheck, retQ, retQ1, aresults, aresultL, aresult, mkF, undefV, reduceCtorEq, kD, kE, kF, kG, kH, kI, kJ, kK, aExtract, calleeOf, kD1, Nat.reduceBEq, HoldsAll, kL, kM, kN, kO, fg1, aadd, Nat.zero_add, lAq.2.2, ad, ld]
    refine KGCall.intro (by simp only [kS1, bLookup, bMapSet, wantA, isCall, stepOp, evalO, evalL, evalP, evalM, putDst, flat, kA, kB, Nat.reduceLT, ↓reduceIte, kC, Nat.reduceEqDiff, aBuiltin, abinG, guardFree, abin, aInt, aUn, aNilCheck, retQ, retQ1, aresults, aresultL, aresult, mkF, undefV, reduceCtorEq, kD, kE, kF, kG, kH, kI, kJ, kK, aExtract, calleeOf] <;> rfl) ⟨Try.func43, rfl, by decide⟩ (has_any W0 ev es p hq (hp.le le0q) (by omega)) ?_
    rintro x h4 w4 ⟨rfl, le4⟩
    have ld4 := (hw.le (le0q.trans le4)).load hpi
    have lA4 := lA h4 (le1q.trans le4)
    cases hb : hasB es p with
    | false =>
      simp only [kS1, bLookup, bMapSet, wantA, isCall, stepOp, evalO, evalL, evalP, evalM, putDst, flat, kA, kB, Nat.reduceLT, ↓reduceIte, kC, Nat.reduceEqDiff, aBuiltin, abinG, guardFree, abin, aInt, aUn, aNilCheck, retQ, retQ1, aresults, aresultL, aresult, mkF, undefV, reduceCtorEq, kD, kE, kF, kG, kH, kI, kJ, kK, aExtract, calleeOf, kD1, Nat.reduceBEq, HoldsAll, kL, kM, kN, kO, fg1, aadd, Nat.zero_add, lA4.2.2, ad, ld4]
      exact ⟨le0q.trans le4, _, _, rfl, .inr (.inl ⟨hr, (fun k => by rw [(hasB_iff es p).2 (k.mem p (List.mem_of_getElem? hpi))] at hb; cases hb), rfl, rfl⟩)⟩
    | true =>
      have hpe := (hasB_iff es p).1 hb
      simp only [kS1, bLookup, bMapSet, wantA, isCall, stepOp, evalO, evalL, evalP, evalM, putDst, flat, kA, kB, Nat.reduceLT, ↓reduceIte, kC, Nat.reduceEqDiff, aBuiltin, abinG, guardFree, abin, aInt, aUn, aNilCheck, retQ, retQ1, aresults, aresultL, aresult, mkF, undefV, reduceCtorEq, kD, kE, kF, kG, kH, kI, kJ, kK, aExtract, calleeOf, kD1, Nat.reduceBEq, HoldsAll, kL, kM, kN, kO, fg1, aadd, Nat.zero_add, lA4.2.2, ad, ld4, awrap_succ i (by omega)]
      refine loop_again (web.length - (i + 1)) [(1, wv), (2, .pointer (some ⟨B, 0, none⟩)), (6, .int .i64 (i + 1 : Nat))] (by omega) (by simp only [hasAll, kS1, bLookup, bMapSet, wantA, isCall, stepOp, evalO, evalL, evalP, evalM, putDst, flat, kA, kB, Nat.reduceLT, ↓reduceIte, kC, Nat.reduceEqDiff, aBuiltin, abinG, guardFree, abin, aInt, aUn, aNilCheck, retQ, retQ1, aresults, aresultL, aresult, mkF, undefV, reduceCtorEq, kD, kE, kF, kG, kH, kI, kJ, kK, aExtract, calleeOf]; simp) ⟨i + 1, rfl, hlt, rfl, leq.trans le4, fun j q hj hq => ?_⟩
      by_cases e : j = i
      · subst e; rw [hpi] at hq; injection hq with hq; subst hq; exact hpe
      · exact hall j q (by omega) hq
  have hge : web.length ≤ i := lt_f hf
  clear hf
  have hweb : WebR (n : Int) es web := ⟨hrw, fun p hp => by
    obtain ⟨j, hj⟩ := List.mem_iff_getElem?.1 hp
    exact hall j p (by have := (List.getElem?_eq_some_iff.1 hj).1; omega) hj⟩
  clear hall
  simp only [kS1, bLookup, bMapSet, wantA, isCall, stepOp, evalO, evalL, evalP, evalM, putDst, flat, kA, kB, Nat.reduceLT, ↓reduceIte, kC, Nat.reduceEqDiff, aBuiltin, abinG, guardFree, abin, aInt, aUn, aNilCheck, retQ, retQ1, aresults, aresultL, aresult, mkF, undefV, reduceCtorEq, kD, kE, kF, kG, kH, kI, kJ, kK, aExtract, calleeOf]
  refine KLoop.intro (fun k fr hz => ∃ (i : Nat) (ov dv : Value) (fs : List FM) (done : List Pr), k = es.length - i ∧ i ≤ es.length ∧ fr = mkF [(1, wv), (2, .pointer (some ⟨B, 0, none⟩)), (7, ov), (8, dv), (9, .int .i64 i)] ∧ FG hq hz ov dv fs done ∧ RO es web n i fs done)
    es.length [(1, wv), (2, .pointer (some ⟨B, 0, none⟩)), (7, .slice none 0 0), (8, .slice none 0 0), (9, .int .i64 (0 : Nat))] (by simp only [hasAll, kS1, bLookup, bMapSet, wantA, isCall, stepOp, evalO, evalL, evalP, evalM, putDst, flat, kA, kB, Nat.reduceLT, ↓reduceIte, kC, Nat.reduceEqDiff, aBuiltin, abinG, guardFree, abin, aInt, aUn, aNilCheck, retQ, retQ1, aresults, aresultL, aresult, mkF, undefV, reduceCtorEq, kD, kE, kF, kG, kH, kI, kJ, kK, aExtract, calleeOf]; simp) ⟨0, _, _, [], [], rfl, Nat.zero_le _, rfl, FG.start hq, RO.nil⟩ ?_
  rintro k fr hz hwz ⟨i, ov, dv, fs, done, rfl, hi, rfl, F, ro⟩
  have lez := F.le
  have le0z := le0q.trans lez
  have le1z := le1q.trans lez
  have lAz := lA hz le1z
  simp only [kS1, bLookup, bMapSet, wantA, isCall, stepOp, evalO, evalL, evalP, evalM, putDst, flat, kA, kB, Nat.reduceLT, ↓reduceIte, kC, Nat.reduceEqDiff, aBuiltin, abinG, guardFree, abin, aInt, aUn, aNilCheck, retQ, retQ1, aresults, aresultL, aresult, mkF, undefV, reduceCtorEq, kD, kE, kF, kG, kH, kI, kJ, kK, aExtract, calleeOf, fg1, aadd, Nat.zero_add, lAz.2.2, lle]
  refine KCond.intro (fun ht => ?_) (fun hf => ?_)
  rotate_left
  · have hge : es.length ≤ i := lt_f hf
    obtain rfl : i = es.length := by omega
    simp only [kS1, bLookup, bMapSet, wantA, isCall, stepOp, evalO, evalL, evalP, evalM, putDst, flat, kA, kB, Nat.reduceLT, ↓reduceIte, kC, Nat.reduceEqDiff, aBuiltin, abinG, guardFree, abin, aInt, aUn, aNilCheck, retQ, retQ1, aresults, aresultL, aresult, mkF, undefV, reduceCtorEq, kD, kE, kF, kG, kH, kI, kJ, kK, aExtract, calleeOf]
    exact ⟨le0z, _, _, rfl, .inr (.inr ⟨hr, hweb, rfl, fs, done, ro, F.fl⟩)⟩
  have hlt : i < es.length := lt_t ht
  clear ht
  have hpi := getElem?_of hlt
  generalize es[i] = p at hpi
  have ad := hp.addr (k := .i64) i hlt
  have ld := (hp.le le0z).load hpi
  obtain ⟨g1', g1, e1, e1s, l1, w1, o1⟩ := new42 hwz p
  have LE : ∀ g, Le g1 g → aload Try.prog g 42 ⟨hz.next, 0, none⟩ = some (valP p) := fun g l => own42 (l.own _ _ o1)
  have LE1 := LE g1 (Le.refl _)
  have F1 := F.up l1
  generalize hz.next = E at *
  simp only [kS1, bLookup, bMapSet, wantA, isCall, stepOp, evalO, evalL, evalP, evalM, putDst, flat, kA, kB, Nat.reduceLT, ↓reduceIte, kC, Nat.reduceEqDiff, aBuiltin, abinG, guardFree, abin, aInt, aUn, aNilCheck, retQ, retQ1, aresults, aresultL, aresult, mkF, undefV, reduceCtorEq, kD, kE, kF, kG, kH, kI, kJ, kK, aExtract, calleeOf, fg1, aadd, Nat.zero_add, lAz.2.2, ad, ld, e1, e1s, LE1]
  refine KCall.intro (by simp only [kS1, bLookup, bMapSet, wantA, isCall, stepOp, evalO, evalL, evalP, evalM, putDst, flat, kA, kB, Nat.reduceLT, ↓reduceIte, kC, Nat.reduceEqDiff, aBuiltin, abinG, guardFree, abin, aInt, aUn, aNilCheck, retQ, retQ1, aresults, aresultL, aresult, mkF, undefV, reduceCtorEq, kD, kE, kF, kG, kH, kI, kJ, kK, aExtract, calleeOf] <;> rfl) ⟨Try.func43, rfl, by decide⟩ (has_any W0 wv web p g1 (hw.le (le0z.trans l1)) (by omega)) ?_
  rintro x g2 w2 ⟨rfl, l2⟩
  have F2 := F1.up l2
  cases hb : hasB web p with
  | true =>
    simp only [kS1, bLookup, bMapSet, wantA, isCall, stepOp, evalO, evalL, evalP, evalM, putDst, flat, kA, kB, Nat.reduceLT, ↓reduceIte, kC, Nat.reduceEqDiff, aBuiltin, abinG, guardFree, abin, aInt, aUn, aNilCheck, retQ, retQ1, aresults, aresultL, aresult, mkF, undefV, reduceCtorEq, kD, kE, kF, kG, kH, kI, kJ, kK, aExtract, calleeOf, awrap_succ i (by omega)]
    exact loop_again (es.length - (i + 1)) [(1, wv), (2, .pointer (some ⟨B, 0, none⟩)), (7, ov), (8, dv), (9, .int .i64 (i + 1 : Nat))] (by omega) (by simp only [hasAll, kS1, bLookup, bMapSet, wantA, isCall, stepOp, evalO, evalL, evalP, evalM, putDst, flat, kA, kB, Nat.reduceLT, ↓reduceIte, kC, Nat.reduceEqDiff, aBuiltin, abinG, guardFree, abin, aInt, aUn, aNilCheck, retQ, retQ1, aresults, aresultL, aresult, mkF, undefV, reduceCtorEq, kD, kE, kF, kG, kH, kI, kJ, kK, aExtract, calleeOf]; simp) ⟨i + 1, ov, dv, fs, done, rfl, hlt, rfl, F2, ro.skip hpi (.inl ((hasB_iff web p).1 hb))⟩
  | false =>
  have hdl := ro.len
  have hdl2 : done.length ≤ 594 * 594 := Nat.le_trans hdl.1 (Nat.mul_le_mul (by omega) (by omega))
  have LE2 := LE g2 l2
  simp only [kS1, bLookup, bMapSet, wantA, isCall, stepOp, evalO, evalL, evalP, evalM, putDst, flat, kA, kB, Nat.reduceLT, ↓reduceIte, kC, Nat.reduceEqDiff, aBuiltin, abinG, guardFree, abin, aInt, aUn, aNilCheck, retQ, retQ1, aresults, aresultL, aresult, mkF, undefV, reduceCtorEq, kD, kE, kF, kG, kH, kI, kJ, kK, aExtract, calleeOf, LE2]
  refine KCall.intro (by simp only [kS1, bLookup, bMapSet, wantA, isCall, stepOp, evalO, evalL, evalP, evalM, putDst, flat, kA, kB, Nat.reduceLT, ↓reduceIte, kC, Nat.reduceEqDiff, aBuiltin, abinG, guardFree, abin, aInt, aUn, aNilCheck, retQ, retQ1, aresults, aresultL, aresult, mkF, undefV, reduceCtorEq, kD, kE, kF, kG, kH, kI, kJ, kK, aExtract, calleeOf] <;> rfl) ⟨Try.func43, rfl, by decide⟩ (has_any W0 dv done p g2 F2.gd.pr (by omega)) ?_
  rintro x g3 w3 ⟨rfl, l3⟩
  have F3 := F2.up l3
  cases hb2 : hasB done p with
  | true =>
    simp only [kS1, bLookup, bMapSet, wantA, isCall, stepOp, evalO, evalL, evalP, evalM, putDst, flat, kA, kB, Nat.reduceLT, ↓reduceIte, kC, Nat.reduceEqDiff, aBuiltin, abinG, guardFree, abin, aInt, aUn, aNilCheck, retQ, retQ1, aresults, aresultL, aresult, mkF, undefV, reduceCtorEq, kD, kE, kF, kG, kH, kI, kJ, kK, aExtract, calleeOf, awrap_succ i (by omega)]
    exact loop_again (es.length - (i + 1)) [(1, wv), (2, .pointer (some ⟨B, 0, none⟩)), (7, ov), (8, dv), (9, .int .i64 (i + 1 : Nat))] (by omega) (by simp only [hasAll, kS1, bLookup, bMapSet, wantA, isCall, stepOp, evalO, evalL, evalP, evalM, putDst, flat, kA, kB, Nat.reduceLT, ↓reduceIte, kC, Nat.reduceEqDiff, aBuiltin, abinG, guardFree, abin, aInt, aUn, aNilCheck, retQ, retQ1, aresults, aresultL, aresult, mkF, undefV, reduceCtorEq, kD, kE, kF, kG, kH, kI, kJ, kK, aExtract, calleeOf]; simp) ⟨i + 1, ov, dv, fs, done, rfl, hlt, rfl, F3, ro.skip hpi (.inr ((hasB_iff done p).1 hb2))⟩
  | false =>
  have nw : p ∉ web := fun h => by rw [(hasB_iff web p).2 h] at hb; cases hb
  have nd : p ∉ done := fun h => by rw [(hasB_iff done p).2 h] at hb2; cases hb2
  have l13 := l2.trans l3
  have LE3 := LE g3 l13
  have le03 := le0z.trans (l1.trans l13)
  have lA3 := lA g3 (le1z.trans (l1.trans l13))
  simp only [kS1, bLookup, bMapSet, wantA, isCall, stepOp, evalO, evalL, evalP, evalM, putDst, flat, kA, kB, Nat.reduceLT, ↓reduceIte, kC, Nat.reduceEqDiff, aBuiltin, abinG, guardFree, abin, aInt, aUn, aNilCheck, retQ, retQ1, aresults, aresultL, aresult, mkF, undefV, reduceCtorEq, kD, kE, kF, kG, kH, kI, kJ, kK, aExtract, calleeOf, lA3.1, LE3]
  refine KCall.intro (by simp only [kS1, bLookup, bMapSet, wantA, isCall, stepOp, evalO, evalL, evalP, evalM, putDst, flat, kA, kB, Nat.reduceLT, ↓reduceIte, kC, Nat.reduceEqDiff, aBuiltin, abinG, guardFree, abin, aInt, aUn, aNilCheck, retQ, retQ1, aresults, aresultL, aresult, mkF, undefV, reduceCtorEq, kD, kE, kF, kG, kH, kI, kJ, kK, aExtract, calleeOf] <;> rfl) ⟨Try.func44, rfl, by decide⟩ (grown_any W0 _ wv (n : Int) es web p g3 (hg0.le le03) (hw.le le03) (by omega) (by omega)) ?_
  rintro lv g4 w4 ⟨S, hSl, hSi, gl, l4, al⟩
  have F4 := F3.up l4
  have hsl := selM_length es S es.length
  have own3 : ∀ b, blk lv = some b → blk ov ≠ some b ∧ blk dv ≠ some b := fun b hb => by
    have hn := al b hb
    refine ⟨fun h => ?_, fun h => ?_⟩
    · obtain ⟨f, c, g, _⟩ := F3.ex
      exact GS.blk_own g h hn
    · exact GS.blk_own F3.gd h hn
  obtain ⟨dv', g5, e5, w5, F5, gl5, own5⟩ := F4.join w4 gl own3 (by omega)
  have lez5 := F5.le
  have lA5 := lA g5 (le1q.trans lez5)
  simp only [kS1, bLookup, bMapSet, wantA, isCall, stepOp, evalO, evalL, evalP, evalM, putDst, flat, kA, kB, Nat.reduceLT, ↓reduceIte, kC, Nat.reduceEqDiff, aBuiltin, abinG, guardFree, abin, aInt, aUn, aNilCheck, retQ, retQ1, aresults, aresultL, aresult, mkF, undefV, reduceCtorEq, kD, kE, kF, kG, kH, kI, kJ, kK, aExtract, calleeOf, e5, fg0, aadd, Nat.zero_add, lA5.2.1]
  refine KCall.intro (by simp only [kS1, bLookup, bMapSet, wantA, isCall, stepOp, evalO, evalL, evalP, evalM, putDst, flat, kA, kB, Nat.reduceLT, ↓reduceIte, kC, Nat.reduceEqDiff, aBuiltin, abinG, guardFree, abin, aInt, aUn, aNilCheck, retQ, retQ1, aresults, aresultL, aresult, mkF, undefV, reduceCtorEq, kD, kE, kF, kG, kH, kI, kJ, kK, aExtract, calleeOf] <;> rfl) ⟨Try.func45, rfl, by decide⟩ (rfeet_any W0 n wv lv web (selM es S es.length) g5 (hw.le (le0q.trans lez5)) gl5.pr (by omega) (by omega) (by omega)) ?_
  rintro fv g6 w6 ⟨gf, l6, af⟩
  have F6 := F5.up l6
  have own6 : ∀ b, blk fv = some b → blk ov ≠ some b ∧ blk dv' ≠ some b := fun b hb => by
    have hn := af b hb
    refine ⟨fun h => ?_, fun h => ?_⟩
    · obtain ⟨f, c, g, _⟩ := F5.ex
      exact GS.blk_own g h hn
    · exact GS.blk_own F5.gd h hn
  have bld2 := build41 gl5.pr.sl gf.rl.sl
  obtain ⟨ov', g7, g8, e7, e8, w8, F8⟩ := F6.push w6 (gl5.le l6) gf own5 own6 (by omega)
  simp only [kS1, bLookup, bMapSet, wantA, isCall, stepOp, evalO, evalL, evalP, evalM, putDst, flat, kA, kB, Nat.reduceLT, ↓reduceIte, kC, Nat.reduceEqDiff, aBuiltin, abinG, guardFree, abin, aInt, aUn, aNilCheck, retQ, retQ1, aresults, aresultL, aresult, mkF, undefV, reduceCtorEq, kD, kE, kF, kG, kH, kI, kJ, kK, aExtract, calleeOf, bld2, e7, e8, awrap_succ i (by omega)]
  exact loop_again (es.length - (i + 1)) [(1, wv), (2, .pointer (some ⟨B, 0, none⟩)), (7, ov'), (8, dv'), (9, .int .i64 (i + 1 : Nat))] (by omega) (by simp only [hasAll, kS1, bLookup, bMapSet, wantA, isCall, stepOp, evalO, evalL, evalP, evalM, putDst, flat, kA, kB, Nat.reduceLT, ↓reduceIte, kC, Nat.reduceEqDiff, aBuiltin, abinG, guardFree, abin, aInt, aUn, aNilCheck, retQ, retQ1, aresults, aresultL, aresult, mkF, undefV, reduceCtorEq, kD, kE, kF, kG, kH, kI, kJ, kK, aExtract, calleeOf]; simp) ⟨i + 1, ov', dv', _, _, rfl, hlt, rfl, F8, ro.take hpi nw nd ⟨hSl, hSi⟩⟩
end Go.Fw
namespace Go.Fw
open Go.Proofs
attribute [local irreducible] KO4 KO3 KO2 KO1 KO KN KX KE VK KCond KDraw KCall KLoop
set_option maxHeartbeats 4000000
set_option maxRecDepth 10000
theorem FL.len {h : AHeap} {v : Value} {fs : List FM} (r : FL h v fs) (g : AHeap) : aLen Try.prog g 27 v = some (.int .i64 fs.length) := by
  obtain ⟨cs, c, _⟩ := r
  obtain ⟨a, k, rfl, _⟩ := c.sl; simp [aLen, Try.underlying27]
def fAddr (v : Value) (i : Nat) : Addr := elemAddr v (i * 2)
theorem FL.addr {h : AHeap} {v : Value} {fs : List FM} (r : FL h v fs) {k : IntKind} (i : Nat) (hi : i < fs.length) : aIndexAddr Try.prog 27 v (.int k i) = some (.pointer (some (fAddr v i))) := by
  obtain ⟨cs, c, _⟩ := r
  obtain ⟨a, k, rfl, hs⟩ := c.sl
  obtain ⟨a, rfl⟩ := Option.isSome_iff_exists.1 (hs (by omega))
  have h1 : (i : Int) < (fs.length : Int) := by omega
  simp [aIndexAddr, Try.underlying27, Try.underlying41, h1, fAddr, elemAddr, ts41]
theorem ff0 (a : Addr) : aField Try.prog 41 (.pointer (some a)) 0 = some (.pointer (some (aadd a 0))) := rfl
theorem ff1 (a : Addr) : aField Try.prog 41 (.pointer (some a)) 1 = some (.pointer (some (aadd a 1))) := rfl
theorem FL.get {h : AHeap} {v : Value} {fs : List FM} (r : FL h v fs) {i : Nat} {f : FM} (hf : fs[i]? = some f) :
    ∃ a b, (∀ g, Le h g → aload Try.prog g 22 (aadd (fAddr v i) 0) = some a ∧ aload Try.prog g 39 (aadd (fAddr v i) 1) = some b) ∧ PR h a f.edges ∧ RL isI h b f.feet := by
  obtain ⟨cs, c, hx⟩ := r
  obtain ⟨a, b, q1, q2, q3, q4⟩ := hx i f hf
  refine ⟨a, b, fun g l => ?_, q3, q4⟩
  have g1 := c.get _ _ q1
  have g2 := c.get _ _ q2
  obtain ⟨ad, k, rfl, hs⟩ := c.sl
  obtain ⟨ad, rfl⟩ := Option.isSome_iff_exists.1 (hs (by have := (List.getElem?_eq_some_iff.1 hf).1; omega))
  rw [aload_flat Try.underlying22 rfl, aload_flat Try.underlying39 rfl]
  rw [elemAddr_mk] at g1 g2
  refine ⟨?_, ?_⟩
  · rw [fAddr, elemAddr_mk, aadd_aadd, Nat.add_zero]; exact l.read g1
  · rw [fAddr, elemAddr_mk, aadd_aadd]; exact l.read g2
theorem Same_any (W0 : World) (v w : Value) (fs gs : List FM) (h : AHeap) (hv : FL h v fs) (hw : FL h w gs) (hn : fs.length ≤ 100000) (hb : ∀ f ∈ fs, f.edges.length ≤ 100000 ∧ f.feet.length ≤ 100000) : AC Try.prog W0 14 [v, w] h fun x h' => BoolIs (fs = gs) x ∧ Le h h' := by
  refine AC.vc (fn := Try.f14) (c := _) ⟨Try.func14, rfl, by decide⟩ Try.ntmps14 Try.results14 (by simp) fun hwf => ?_
  simp only [argFrame, argFrom, Nat.reduceAdd]
  have lv := fun g => hv.len g
  have lw := fun g => hw.len g
  by_cases c : (fs.length : Int) = (gs.length : Int)
  rotate_left
  · simp only [kS1, bLookup, bMapSet, wantA, isCall, stepOp, evalO, evalL, evalP, evalM, putDst, flat, kA, kB, Nat.reduceLT, ↓reduceIte, kC, Nat.reduceEqDiff, aBuiltin, abinG, guardFree, abin, aInt, aUn, aNilCheck, retQ, retQ1, aresults, aresultL, aresult, mkF, undefV, reduceCtorEq, kD, kE, kF, kG, kH, kI, kJ, kK, aExtract, calleeOf, lv, lw, bne, eq_false c]
    exact ⟨.f fun e => c (by rw [e]), Le.refl _⟩
  have c' : fs.length = gs.length := by omega
  simp only [kS1, bLookup, bMapSet, wantA, isCall, stepOp, evalO, evalL, evalP, evalM, putDst, flat, kA, kB, Nat.reduceLT, ↓reduceIte, kC, Nat.reduceEqDiff, aBuiltin, abinG, guardFree, abin, aInt, aUn, aNilCheck, retQ, retQ1, aresults, aresultL, aresult, mkF, undefV, reduceCtorEq, kD, kE, kF, kG, kH, kI, kJ, kK, aExtract, calleeOf, lv, lw, bne, eq_true c]
  refine KLoop.intro (fun k fr hh => ∃ i : Nat, k = fs.length - i ∧ i ≤ fs.length ∧ fr = mkF [(0, v), (1, w), (12, .int .i64 fs.length), (13, .int .i64 i)] ∧ Le h hh ∧ fs.take i = gs.take i)
    fs.length [(0, v), (1, w), (12, .int .i64 fs.length), (13, .int .i64 (0 : Nat))] (by simp only [hasAll, kS1, bLookup, bMapSet, wantA, isCall, stepOp, evalO, evalL, evalP, evalM, putDst, flat, kA, kB, Nat.reduceLT, ↓reduceIte, kC, Nat.reduceEqDiff, aBuiltin, abinG, guardFree, abin, aInt, aUn, aNilCheck, retQ, retQ1, aresults, aresultL, aresult, mkF, undefV, reduceCtorEq, kD, kE, kF, kG, kH, kI, kJ, kK, aExtract, calleeOf]; simp) ⟨0, rfl, Nat.zero_le _, rfl, Le.refl _, rfl⟩ ?_
  rintro k fr hh hwh ⟨i, rfl, hi, rfl, leh, he⟩
  simp only [kS1, bLookup, bMapSet, wantA, isCall, stepOp, evalO, evalL, evalP, evalM, putDst, flat, kA, kB, Nat.reduceLT, ↓reduceIte, kC, Nat.reduceEqDiff, aBuiltin, abinG, guardFree, abin, aInt, aUn, aNilCheck, retQ, retQ1, aresults, aresultL, aresult, mkF, undefV, reduceCtorEq, kD, kE, kF, kG, kH, kI, kJ, kK, aExtract, calleeOf]
  refine KCond.intro (fun ht => ?_) (fun hf => ?_)
  rotate_left
  · have hge : fs.length ≤ i := lt_f hf
    rw [List.take_of_length_le hge, List.take_of_length_le (by omega)] at he
    simp only [kS1, bLookup, bMapSet, wantA, isCall, stepOp, evalO, evalL, evalP, evalM, putDst, flat, kA, kB, Nat.reduceLT, ↓reduceIte, kC, Nat.reduceEqDiff, aBuiltin, abinG, guardFree, abin, aInt, aUn, aNilCheck, retQ, retQ1, aresults, aresultL, aresult, mkF, undefV, reduceCtorEq, kD, kE, kF, kG, kH, kI, kJ, kK, aExtract, calleeOf]
    exact ⟨.t he, leh⟩
  have hlt : i < fs.length := lt_t ht
  clear ht
  have hfi := getElem?_of hlt
  have hgi := getElem?_of (show i < gs.length by omega)
  have t1 : fs.take (i + 1) = fs.take i ++ [fs[i]] := List.take_succ_eq_append_getElem hlt
  have t2 : gs.take (i + 1) = gs.take i ++ [gs[i]'(by omega)] := List.take_succ_eq_append_getElem (by omega)
  generalize fs[i] = f at hfi t1
  generalize gs[i]'(by omega) = g at hgi t2
  obtain ⟨a, b, hab, pa, pb⟩ := hv.get hfi
  obtain ⟨x, y, hxy, px, py⟩ := hw.get hgi
  have a1 := hv.addr (k := .i64) i hlt
  have a2 := hw.addr (k := .i64) i (by omega)
  obtain ⟨be, bf⟩ := hb f (List.mem_of_getElem? hfi)
  have L1 := hab hh leh
  have L2 := hxy hh leh
  have bad : f ≠ g → ¬ fs = gs := fun hne e => hne (by subst e; rw [hfi] at hgi; injection hgi)
  simp only [kS1, bLookup, bMapSet, wantA, isCall, stepOp, evalO, evalL, evalP, evalM, putDst, flat, kA, kB, Nat.reduceLT, ↓reduceIte, kC, Nat.reduceEqDiff, aBuiltin, abinG, guardFree, abin, aInt, aUn, aNilCheck, retQ, retQ1, aresults, aresultL, aresult, mkF, undefV, reduceCtorEq, kD, kE, kF, kG, kH, kI, kJ, kK, aExtract, calleeOf]
  refine KDraw.intro mixed (.fl 0 (.fl 1 (.fl 2 (.fl 3 (.fl 4 (.fl 5 (.fl 6 (.fl 7 (.fl 8 (.fl 9 (.ch 10 [4, 9] (.fl 11 (.fl 12 (.fl 13 (.fl 14 (.fl 15 (.fl 16 (.fl 17 (.fl 18 (.fl 19 (.fl 20 (.fl 21 (.fl 22 (.ch 23 [12, 17, 22] (.fl 24 (.fl 25 (.done))) .no))))))))))))) .no))))))))))) (by kernel_rfl) ?_
  simp only [kS1, bLookup, bMapSet, wantA, isCall, stepOp, evalO, evalL, evalP, evalM, putDst, flat, kA, kB, Nat.reduceLT, ↓reduceIte, kC, Nat.reduceEqDiff, aBuiltin, abinG, guardFree, abin, aInt, aUn, aNilCheck, retQ, retQ1, aresults, aresultL, aresult, mkF, undefV, reduceCtorEq, kD, kE, kF, kG, kH, kI, kJ, kK, aExtract, calleeOf, kD1, Nat.reduceBEq, HoldsAll, kL, kM, kN, kO, a1, a2, ff0, L1.1, L2.1]
  refine KGCall.intro (by simp only [kS1, bLookup, bMapSet, wantA, isCall, stepOp, evalO, evalL, evalP, evalM, putDst, flat, kA, kB, Nat.reduceLT, ↓reduceIte, kC, Nat.reduceEqDiff, aBuiltin, abinG, guardFree, abin, aInt, aUn, aNilCheck, retQ, retQ1, aresults, aresultL, aresult, mkF, undefV, reduceCtorEq, kD, kE, kF, kG, kH, kI, kJ, kK, aExtract, calleeOf] <;> rfl) ⟨Try.func16, rfl, by decide⟩ (SamePairs_any W0 a x f.edges g.edges hh (pa.le leh) (px.le leh) be) ?_
  rintro z h2 w2 ⟨rfl, rfl⟩
  by_cases c1 : f.edges = g.edges
  rotate_left
  · have hne : decide (f.edges = g.edges) = false := decide_eq_false c1
    simp only [kS1, bLookup, bMapSet, wantA, isCall, stepOp, evalO, evalL, evalP, evalM, putDst, flat, kA, kB, Nat.reduceLT, ↓reduceIte, kC, Nat.reduceEqDiff, aBuiltin, abinG, guardFree, abin, aInt, aUn, aNilCheck, retQ, retQ1, aresults, aresultL, aresult, mkF, undefV, reduceCtorEq, kD, kE, kF, kG, kH, kI, kJ, kK, aExtract, calleeOf, kD1, Nat.reduceBEq, HoldsAll, kL, kM, kN, kO, a1, a2, ff0, L1.1, L2.1, hne]
    exact ⟨.f (bad fun e => c1 (by rw [e])), leh⟩
  have hye : decide (f.edges = g.edges) = true := decide_eq_true c1
  simp only [kS1, bLookup, bMapSet, wantA, isCall, stepOp, evalO, evalL, evalP, evalM, putDst, flat, kA, kB, Nat.reduceLT, ↓reduceIte, kC, Nat.reduceEqDiff, aBuiltin, abinG, guardFree, abin, aInt, aUn, aNilCheck, retQ, retQ1, aresults, aresultL, aresult, mkF, undefV, reduceCtorEq, kD, kE, kF, kG, kH, kI, kJ, kK, aExtract, calleeOf, kD1, Nat.reduceBEq, HoldsAll, kL, kM, kN, kO, a1, a2, ff0, ff1, L1.1, L2.1, L1.2, L2.2, hye]
  refine KGCall.intro (by simp only [kS1, bLookup, bMapSet, wantA, isCall, stepOp, evalO, evalL, evalP, evalM, putDst, flat, kA, kB, Nat.reduceLT, ↓reduceIte, kC, Nat.reduceEqDiff, aBuiltin, abinG, guardFree, abin, aInt, aUn, aNilCheck, retQ, retQ1, aresults, aresultL, aresult, mkF, undefV, reduceCtorEq, kD, kE, kF, kG, kH, kI, kJ, kK, aExtract, calleeOf] <;> rfl) ⟨Try.func31, rfl, by decide⟩ (SameInts_any W0 b y f.feet g.feet h2 (pb.le Stays.isI leh) (py.le Stays.isI leh) bf) ?_
  rintro z h3 w3 ⟨rfl, rfl⟩
  by_cases c2 : f.feet = g.feet
  rotate_left
  · have hne : decide (f.feet = g.feet) = false := decide_eq_false c2
    simp only [kS1, bLookup, bMapSet, wantA, isCall, stepOp, evalO, evalL, evalP, evalM, putDst, flat, kA, kB, Nat.reduceLT, ↓reduceIte, kC, Nat.reduceEqDiff, aBuiltin, abinG, guardFree, abin, aInt, aUn, aNilCheck, retQ, retQ1, aresults, aresultL, aresult, mkF, undefV, reduceCtorEq, kD, kE, kF, kG, kH, kI, kJ, kK, aExtract, calleeOf, kD1, Nat.reduceBEq, HoldsAll, kL, kM, kN, kO, a1, a2, ff0, ff1, L1.1, L2.1, L1.2, L2.2, hye, hne]
    exact ⟨.f (bad fun e => c2 (by rw [e])), leh⟩
  have hye2 : decide (f.feet = g.feet) = true := decide_eq_true c2
  have hfg : f = g := by obtain ⟨_, _⟩ := f; obtain ⟨_, _⟩ := g; simp only at c1 c2; rw [c1, c2]
  simp only [kS1, bLookup, bMapSet, wantA, isCall, stepOp, evalO, evalL, evalP, evalM, putDst, flat, kA, kB, Nat.reduceLT, ↓reduceIte, kC, Nat.reduceEqDiff, aBuiltin, abinG, guardFree, abin, aInt, aUn, aNilCheck, retQ, retQ1, aresults, aresultL, aresult, mkF, undefV, reduceCtorEq, kD, kE, kF, kG, kH, kI, kJ, kK, aExtract, calleeOf, kD1, Nat.reduceBEq, HoldsAll, kL, kM, kN, kO, a1, a2, ff0, ff1, L1.1, L2.1, L1.2, L2.2, hye, hye2, awrap_succ i (by omega)]
  exact loop_again (fs.length - (i + 1)) [(0, v), (1, w), (12, .int .i64 fs.length), (13, .int .i64 (i + 1 : Nat))] (by omega) (by simp only [hasAll, kS1, bLookup, bMapSet, wantA, isCall, stepOp, evalO, evalL, evalP, evalM, putDst, flat, kA, kB, Nat.reduceLT, ↓reduceIte, kC, Nat.reduceEqDiff, aBuiltin, abinG, guardFree, abin, aInt, aUn, aNilCheck, retQ, retQ1, aresults, aresultL, aresult, mkF, undefV, reduceCtorEq, kD, kE, kF, kG, kH, kI, kJ, kK, aExtract, calleeOf]; simp) ⟨i + 1, rfl, hlt, rfl, leh, by rw [t1, t2, he, hfg]⟩
end Go.Fw
