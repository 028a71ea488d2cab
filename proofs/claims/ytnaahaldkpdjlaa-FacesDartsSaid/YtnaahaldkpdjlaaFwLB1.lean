/- A text of the proof. -/
import Derived.Test.YtnaahaldkpdjlaaFwRep2
import Derived.Test.YtnaahaldkpdjlaaFwFrame
import Derived.Test.YtnaahaldkpdjlaaFwOps7
import Derived.KernelRfl
import Derived.Test.YtnaahaldkpdjlaaProg
set_option linter.unusedSimpArgs false
set_option linter.unusedVariables false
namespace Go.Fw
open Go.Proofs
set_option maxHeartbeats 1000000
set_option maxRecDepth 10000
theorem mixed : Try.prog.follows .mixedOrders = true := by kernel_rfl
theorem getElem?_of {α : Type} {l : List α} {i : Nat} (h : i < l.length) : l[i]? = some l[i] := List.getElem?_eq_getElem h
theorem getD_of {α : Type} {l : List α} {i : Nat} {d : α} (h : i < l.length) : l.getD i d = l[i] := by simp [List.getD, h]
def BoolIs (p : Prop) (v : Value) : Prop := ∃ b : Bool, v = .bool b ∧ (b = true ↔ p)
theorem BoolIs.t {p : Prop} (h : p) : BoolIs p (.bool true) := ⟨true, rfl, by simp [h]⟩
theorem BoolIs.f {p : Prop} (h : ¬ p) : BoolIs p (.bool false) := ⟨false, rfl, by simp [h]⟩
theorem lt_t {i n : Nat} (h : decide ((i : Int) < (n : Int)) = true) : i < n := by have := of_decide_eq_true h; omega
theorem lt_f {i n : Nat} (h : decide ((i : Int) < (n : Int)) = false) : n ≤ i := by have := of_decide_eq_false h; omega
theorem alloc_f {h : AHeap} (hw : WF h) (c : List Value) : ∃ h', h.alloc (.cells c) = h' ∧ Le h h' ∧ WF h' ∧ h'.own h.next = some (.cells c) := ⟨_, rfl, (Le.refl h).alloc hw _, hw.alloc _, AHeap.own_alloc_eq _ _⟩
theorem byOne2 {ι κ : Type} {F : ι → κ → Prop} {A : Prop} (Φ : ι → κ → Prop) (h1 : (∀ x y, F x y → Φ x y) → A) (h2 : ∀ x y, F x y → Φ x y) : A := h1 h2
theorem KN.gen2 {P : Program} {W0 : Base} {N : Nat} {ks : List Kt} {R : Exit → AFrame → AHeap → Prop} {fr : AFrame} {h : AHeap} (q : ∀ fr' h', fr' = fr → h' = h → KN P W0 N ks R fr' h') : KN P W0 N ks R fr h := q fr h rfl rfl
theorem GS.kept {k n : Nat} {h h' : AHeap} {v : Value} {cs : List Value} (g : GS k h v n cs) (hk : ∀ b o, blk v = some b → h.own b = some o → h'.own b = some o) : GS k h' v n cs := by
 obtain ⟨hl, q | ⟨i, c, cap, rfl, ho, rr⟩⟩ := g
 ·exact ⟨hl, .inl q⟩
 ·exact ⟨hl, .inr ⟨i, c, cap, rfl, hk i _ rfl ho, rr⟩⟩
theorem GS.put {k n : Nat} {h : AHeap} {v : Value} {cs : List Value} (g : GS k h v n cs) {id : Nat} (o : AObj) (hb : blk v ≠ some id) : GS k (h.put id o) v n cs :=
 g.kept fun b o' hv ho => by rw [AHeap.own_put_ne _ _ _ _ (fun e => hb (by rw [← e]; exact hv))]; exact ho
abbrev Pr := Int × Int
def cellsP (p : Pr) : List Value := [.int .i64 p.1, .int .i64 p.2]
def valP (p : Pr) : Value := .agg #[.int .i64 p.1, .int .i64 p.2]
def flatP (ps : List Pr) : List Value := ps.flatMap cellsP
theorem flatP_length (ps : List Pr) : (flatP ps).length = ps.length * 2 := by
 induction ps with
 | nil => rfl
 | cons p ps ih => simp [flatP, cellsP] at ih ⊢; omega
theorem flatP_one (ps : List Pr) : (flatP ps).all (·.oneCell') = true := by
 rw [List.all_eq_true]; intro x hx; rw [flatP, List.mem_flatMap] at hx
 obtain ⟨p, _, hx⟩ := hx
 simp [cellsP] at hx
 rcases hx with rfl | rfl <;> rfl
theorem flatP_append (a b : List Pr) : flatP (a ++ b) = flatP a ++ flatP b := by simp [flatP]
theorem flatP_get : ∀ (ps : List Pr) (i : Nat) (p : Pr), ps[i]? = some p → (flatP ps)[i * 2]? = some (.int .i64 p.1) ∧ (flatP ps)[i * 2 + 1]? = some (.int .i64 p.2)
 | [], i, p, h => by simp at h
 | q :: ps, 0, p, h => by simp at h; subst h; simp [flatP, cellsP]
 | q :: ps, i + 1, p, h => by
  have := flatP_get ps i p (by simpa using h)
  have e : flatP (q :: ps) = .int .i64 q.1 :: .int .i64 q.2 :: flatP ps := rfl
  rw [e, show (i + 1) * 2 = (i * 2 + 1) + 1 by omega]
  simpa using this
def PR (h : AHeap) (v : Value) (ps : List Pr) : Prop := CS 2 h v ps.length (flatP ps)
def pAddr (v : Value) (i : Nat) : Addr := elemAddr v (i * 2)
theorem PR.le {h h' : AHeap} {v : Value} {ps : List Pr} (r : PR h v ps) (e : Le h h') : PR h' v ps := CS.le r e
theorem PR.nil (h : AHeap) : PR h (.slice none 0 0) [] := CS.nil 2 h
theorem ts42 : tsize Try.prog 61 = 2 := by kernel_rfl
theorem ts3 : tsize Try.prog 3 = 1 := by kernel_rfl
theorem PR.len {h : AHeap} {v : Value} {ps : List Pr} (r : PR h v ps) (g : AHeap) : aLen Try.prog g 22 v = some (.int .i64 ps.length) := by
 obtain ⟨a, c, rfl, _⟩ := r.sl; simp [aLen, Try.underlying22]
theorem PR.addr {h : AHeap} {v : Value} {ps : List Pr} (r : PR h v ps) {k : IntKind} (i : Nat) (hi : i < ps.length) : aIndexAddr Try.prog 22 v (.int k i) = some (.pointer (some (pAddr v i))) := by
 obtain ⟨a, c, rfl, hs⟩ := r.sl
 obtain ⟨a, rfl⟩ := Option.isSome_iff_exists.1 (hs (by omega))
 have h1 : (i : Int) < (ps.length : Int) := by omega
 simp [aIndexAddr, Try.underlying22, Try.underlying61, h1, pAddr, elemAddr, ts42]
theorem pa0 (a : Addr) : aIndexAddr Try.prog 61 (.pointer (some a)) (.int .i64 0) = some (.pointer (some (aadd a 0))) := by
 simp [aIndexAddr, Try.underlying61, Try.underlying3]
theorem pa1 (a : Addr) : aIndexAddr Try.prog 61 (.pointer (some a)) (.int .i64 1) = some (.pointer (some (aadd a 1))) := by
 simp [aIndexAddr, Try.underlying61, Try.underlying3, ts3]
theorem PR.get {h : AHeap} {v : Value} {ps : List Pr} (r : PR h v ps) {i : Nat} {p : Pr} (hp : ps[i]? = some p) :
  h.read (aadd (pAddr v i) 0) = some (.int .i64 p.1) ∧ h.read (aadd (pAddr v i) 1) = some (.int .i64 p.2) := by
 obtain ⟨f1, f2⟩ := flatP_get ps i p hp
 have g1 := CS.get r _ _ f1
 have g2 := CS.get r _ _ f2
 obtain ⟨a, c, rfl, hs⟩ := r.sl
 have hi := (List.getElem?_eq_some_iff.1 hp).1
 obtain ⟨a, rfl⟩ := Option.isSome_iff_exists.1 (hs (by omega))
 simp only [pAddr, elemAddr_mk, aadd] at *
 exact ⟨by simpa using g1, by simpa [Nat.add_assoc] using g2⟩
theorem PR.load {h : AHeap} {v : Value} {ps : List Pr} (r : PR h v ps) {i : Nat} {p : Pr} (hp : ps[i]? = some p) : aload Try.prog h 61 (pAddr v i) = some (valP p) := by
 obtain ⟨g1, g2⟩ := r.get hp
 have hrd : readN h (pAddr v i) 2 = some [.int .i64 p.1, .int .i64 p.2] := by
  refine readN_get [.int .i64 p.1, .int .i64 p.2] _ fun j x hx => ?_
  match j with
  | 0 => simp at hx; subst hx; exact g1
  | 1 => simp at hx; subst hx; exact g2
  | j + 2 => simp at hx
 have hd : isAggD (.array 2 3) = true := rfl
 simp only [aload, Try.underlying61, hd, cond_true, ts42, hrd, valP]
theorem alloc42 (h : AHeap) : aAlloc Try.prog h 61 = some (.pointer (some ⟨h.next, 0, none⟩), h.alloc (.cells [.int .i64 0, .int .i64 0])) := rfl
theorem store42 {h : AHeap} {w : Nat} {x y : Value} {p : Pr} (ho : h.own w = some (.cells [x, y])) : aStore Try.prog h 61 (.pointer (some ⟨w, 0, none⟩)) (valP p) = some (h.put w (.cells (cellsP p))) := by
 simp [aStore, ho, valP, Value.cells, ts42, putCells, cellsP, Try.underlying61]
 exact ⟨rfl, rfl⟩
theorem box42 (h : AHeap) (p : Pr) : aBox h (valP p) = some (.pointer (some ⟨h.next, 0, none⟩), h.alloc (.cells (cellsP p))) := rfl
theorem own0 {h : AHeap} {w : Nat} {p : Pr} (ho : h.own w = some (.cells (cellsP p))) : aload Try.prog h 3 ⟨w, 0, none⟩ = some (.int .i64 p.1) := by rw [aload_one Try.underlying3 rfl ho]; rfl
theorem own1 {h : AHeap} {w : Nat} {p : Pr} (ho : h.own w = some (.cells (cellsP p))) : aload Try.prog h 3 ⟨w, 1, none⟩ = some (.int .i64 p.2) := by rw [aload_one Try.underlying3 rfl ho]; rfl
theorem own42 {h : AHeap} {w : Nat} {p : Pr} (ho : h.own w = some (.cells (cellsP p))) : aload Try.prog h 61 ⟨w, 0, none⟩ = some (valP p) := by
 rw [aload_own Try.underlying61 rfl ts42 ho (by simp [cellsP])]; rfl
theorem new42 {h : AHeap} (hw : WF h) (p : Pr) : ∃ h1 h2, aAlloc Try.prog h 61 = some (.pointer (some ⟨h.next, 0, none⟩), h1) ∧ aStore Try.prog h1 61 (.pointer (some ⟨h.next, 0, none⟩)) (valP p) = some h2 ∧ Le h h2 ∧ WF h2 ∧ h2.own h.next = some (.cells (cellsP p)) := by
 obtain ⟨h1, e1, l1, w1, o1⟩ := alloc_f hw [.int .i64 0, .int .i64 0]
 have nw : h.own h.next = none := (Le.refl h).next hw (Nat.le_refl _)
 exact ⟨h1, _, by rw [alloc42, e1], store42 o1, l1.put _ nw, w1.put _ (w1.lt o1), AHeap.own_put_eq _ _ _⟩
structure GM where
 n : Int
 es : List Pr
structure GR (h : AHeap) (v : Value) (G : GM) : Prop where
 ex : ∃ ev, v = .agg #[.int .i64 G.n, ev] ∧ PR h ev G.es
theorem GR.le {h h' : AHeap} {v : Value} {G : GM} (r : GR h v G) (e : Le h h') : GR h' v G := by
 obtain ⟨ev, e1, e2⟩ := r.ex; exact ⟨ev, e1, e2.le e⟩
theorem fg0 (a : Addr) : aField Try.prog 24 (.pointer (some a)) 0 = some (.pointer (some (aadd a 0))) := rfl
theorem fg1 (a : Addr) : aField Try.prog 24 (.pointer (some a)) 1 = some (.pointer (some (aadd a 1))) := rfl
theorem boxG {h : AHeap} (hwf : WF h) {n : Int} {ev : Value} {es : List Pr} (r : PR h ev es) :
  ∃ h1, aBox h (.agg #[.int .i64 n, ev]) = some (.pointer (some ⟨h.next, 0, none⟩), h1) ∧ Le h h1 ∧ WF h1 ∧ h1.own h.next = some (.cells [.int .i64 n, ev]) ∧
   ∀ g, Le h1 g → aload Try.prog g 24 ⟨h.next, 0, none⟩ = some (.agg #[.int .i64 n, ev]) ∧ aload Try.prog g 3 ⟨h.next, 0, none⟩ = some (.int .i64 n) ∧ aload Try.prog g 22 ⟨h.next, 1, none⟩ = some ev := by
 obtain ⟨h1, e1, l1, w1, o1⟩ := alloc_f hwf [.int .i64 n, ev]
 have h2 := r.sl.one
 refine ⟨h1, ?_, l1, w1, o1, fun g e => ⟨?_, aload_one Try.underlying3 rfl (e.own _ _ o1), aload_one Try.underlying22 rfl (e.own _ _ o1)⟩⟩
 ·rw [← e1]
  obtain ⟨_, _, rfl, _⟩ := r.sl
  rfl
 ·rw [aload_own Try.underlying24 rfl (by kernel_rfl : tsize Try.prog 24 = 2) (e.own _ _ o1) (by simp)]; rfl
theorem isSl.cells {v : Value} {n : Nat} (h : isSl v n) : v.cells = #[v] := by obtain ⟨a, c, rfl, _⟩ := h; rfl
end Go.Fw
namespace Go.Fw
open Go.Proofs
attribute [local irreducible] KO4 KO3 KO2 KO1 KO KN KX KE VK KCond KDraw KCall KLoop
set_option maxHeartbeats 2000000
set_option maxRecDepth 10000
theorem isNaN_any (W0 : Base) (a : Int) (h : AHeap) : AC Try.prog W0 125 [.int .i64 a] h fun v h' => v = .bool false ∧ h' = h := by
 refine AC.vc (fn := Try.f125) (c := _) ⟨Try.func125, rfl, by decide⟩ Try.ntmps125 Try.results125 (by simp) fun hwf => ?_
 simp only [argFrame, argFrom, Nat.reduceAdd]
 simp only [kS1, bLookup, bMapSet, wantA, isCall, stepOp, evalO, evalL, evalP, evalM, putDst, flat, kA, kB, Nat.reduceLT, ↓reduceIte, kC, Nat.reduceEqDiff, aBuiltin, abinG, guardFree, abin, aInt, aUn, aNilCheck, retQ, retQ1, aresults, aresultL, aresult, mkF, undefV, reduceCtorEq, kD, kE, kF, kG, kH, kI, kJ, kK, aExtract, calleeOf, bne, eq_self]
 exact ⟨trivial, trivial⟩
def cmpI (a b : Int) : Int := if a < b then -1 else if a > b then 1 else 0
theorem Compare_any (W0 : Base) (a b : Int) (h : AHeap) : AC Try.prog W0 116 [.int .i64 a, .int .i64 b] h fun v h' => v = .int .i64 (cmpI a b) ∧ h' = h := by
 refine AC.vc (fn := Try.f116) (c := _) ⟨Try.func116, rfl, by decide⟩ Try.ntmps116 Try.results116 (by simp) fun hwf => ?_
 simp only [argFrame, argFrom, Nat.reduceAdd]
 simp only [kS1, bLookup, bMapSet, wantA, isCall, stepOp, evalO, evalL, evalP, evalM, putDst, flat, kA, kB, Nat.reduceLT, ↓reduceIte, kC, Nat.reduceEqDiff, aBuiltin, abinG, guardFree, abin, aInt, aUn, aNilCheck, retQ, retQ1, aresults, aresultL, aresult, mkF, undefV, reduceCtorEq, kD, kE, kF, kG, kH, kI, kJ, kK, aExtract, calleeOf]
 refine KCall.intro (by simp only [kS1, bLookup, bMapSet, wantA, isCall, stepOp, evalO, evalL, evalP, evalM, putDst, flat, kA, kB, Nat.reduceLT, ↓reduceIte, kC, Nat.reduceEqDiff, aBuiltin, abinG, guardFree, abin, aInt, aUn, aNilCheck, retQ, retQ1, aresults, aresultL, aresult, mkF, undefV, reduceCtorEq, kD, kE, kF, kG, kH, kI, kJ, kK, aExtract, calleeOf] <;> rfl) ⟨Try.func125, rfl, by decide⟩ (isNaN_any W0 a h) ?_
 rintro x h1 w1 ⟨rfl, rfl⟩
 simp only [kS1, bLookup, bMapSet, wantA, isCall, stepOp, evalO, evalL, evalP, evalM, putDst, flat, kA, kB, Nat.reduceLT, ↓reduceIte, kC, Nat.reduceEqDiff, aBuiltin, abinG, guardFree, abin, aInt, aUn, aNilCheck, retQ, retQ1, aresults, aresultL, aresult, mkF, undefV, reduceCtorEq, kD, kE, kF, kG, kH, kI, kJ, kK, aExtract, calleeOf]
 refine KCall.intro (by simp only [kS1, bLookup, bMapSet, wantA, isCall, stepOp, evalO, evalL, evalP, evalM, putDst, flat, kA, kB, Nat.reduceLT, ↓reduceIte, kC, Nat.reduceEqDiff, aBuiltin, abinG, guardFree, abin, aInt, aUn, aNilCheck, retQ, retQ1, aresults, aresultL, aresult, mkF, undefV, reduceCtorEq, kD, kE, kF, kG, kH, kI, kJ, kK, aExtract, calleeOf] <;> rfl) ⟨Try.func125, rfl, by decide⟩ (isNaN_any W0 b h1) ?_
 rintro x h2 w2 ⟨rfl, rfl⟩
 unfold cmpI
 by_cases c : a < b
 ·simp only [kS1, bLookup, bMapSet, wantA, isCall, stepOp, evalO, evalL, evalP, evalM, putDst, flat, kA, kB, Nat.reduceLT, ↓reduceIte, kC, Nat.reduceEqDiff, aBuiltin, abinG, guardFree, abin, aInt, aUn, aNilCheck, retQ, retQ1, aresults, aresultL, aresult, mkF, undefV, reduceCtorEq, kD, kE, kF, kG, kH, kI, kJ, kK, aExtract, calleeOf, c]; exact ⟨trivial, trivial⟩
 ·by_cases c2 : a > b
  ·simp only [kS1, bLookup, bMapSet, wantA, isCall, stepOp, evalO, evalL, evalP, evalM, putDst, flat, kA, kB, Nat.reduceLT, ↓reduceIte, kC, Nat.reduceEqDiff, aBuiltin, abinG, guardFree, abin, aInt, aUn, aNilCheck, retQ, retQ1, aresults, aresultL, aresult, mkF, undefV, reduceCtorEq, kD, kE, kF, kG, kH, kI, kJ, kK, aExtract, calleeOf, c, c2]; exact ⟨trivial, trivial⟩
  ·simp only [kS1, bLookup, bMapSet, wantA, isCall, stepOp, evalO, evalL, evalP, evalM, putDst, flat, kA, kB, Nat.reduceLT, ↓reduceIte, kC, Nat.reduceEqDiff, aBuiltin, abinG, guardFree, abin, aInt, aUn, aNilCheck, retQ, retQ1, aresults, aresultL, aresult, mkF, undefV, reduceCtorEq, kD, kE, kF, kG, kH, kI, kJ, kK, aExtract, calleeOf, c, c2]; exact ⟨trivial, trivial⟩
def orM : List Int → Int
 | [] => 0
 | x :: r => if x = 0 then orM r else x
theorem Or_any (W0 : Base) (v : Value) (xs : List Int) (h : AHeap) (hv : RL isI h v xs) (hn : xs.length ≤ 1000) : AC Try.prog W0 115 [v] h fun x h' => x = .int .i64 (orM xs) ∧ h' = h := by
 refine AC.vc (fn := Try.f115) (c := _) ⟨Try.func115, rfl, by decide⟩ Try.ntmps115 Try.results115 (by simp) fun hwf => ?_
 simp only [argFrame, argFrom, Nat.reduceAdd]
 have ll := hv.len (P := Try.prog) Try.underlying38 h
 simp only [kS1, bLookup, bMapSet, wantA, isCall, stepOp, evalO, evalL, evalP, evalM, putDst, flat, kA, kB, Nat.reduceLT, ↓reduceIte, kC, Nat.reduceEqDiff, aBuiltin, abinG, guardFree, abin, aInt, aUn, aNilCheck, retQ, retQ1, aresults, aresultL, aresult, mkF, undefV, reduceCtorEq, kD, kE, kF, kG, kH, kI, kJ, kK, aExtract, calleeOf, ll]
 refine KLoop.intro (fun k fr hh => ∃ i : Nat, k = xs.length - i ∧ i ≤ xs.length ∧ hh = h ∧ fr = mkF [(3, .int .i64 0), (6, v), (7, .int .i64 xs.length), (8, .int .i64 i)] ∧ orM xs = orM (xs.drop i))
  xs.length [(3, .int .i64 0), (6, v), (7, .int .i64 xs.length), (8, .int .i64 (0 : Nat))] (by simp only [hasAll, kS1, bLookup, bMapSet, wantA, isCall, stepOp, evalO, evalL, evalP, evalM, putDst, flat, kA, kB, Nat.reduceLT, ↓reduceIte, kC, Nat.reduceEqDiff, aBuiltin, abinG, guardFree, abin, aInt, aUn, aNilCheck, retQ, retQ1, aresults, aresultL, aresult, mkF, undefV, reduceCtorEq, kD, kE, kF, kG, kH, kI, kJ, kK, aExtract, calleeOf]; simp) ⟨0, rfl, Nat.zero_le _, rfl, rfl, rfl⟩ ?_
 rintro k fr hh - ⟨i, rfl, hi, rfl, rfl, ho⟩
 simp only [kS1, bLookup, bMapSet, wantA, isCall, stepOp, evalO, evalL, evalP, evalM, putDst, flat, kA, kB, Nat.reduceLT, ↓reduceIte, kC, Nat.reduceEqDiff, aBuiltin, abinG, guardFree, abin, aInt, aUn, aNilCheck, retQ, retQ1, aresults, aresultL, aresult, mkF, undefV, reduceCtorEq, kD, kE, kF, kG, kH, kI, kJ, kK, aExtract, calleeOf]
 refine KCond.intro (fun ht => ?_) (fun hf => ?_)
 ·have hlt : i < xs.length := lt_t ht
  have ad := hv.addr (P := Try.prog) Try.underlying38 Try.underlying3 (by kernel_rfl) (k := .i64) i hlt
  have ld := hv.loadI (P := Try.prog) Try.underlying3 rfl i hlt
  rw [List.drop_eq_getElem_cons hlt, orM] at ho
  by_cases c : xs[i] = 0
  ·rw [if_pos c] at ho
   simp only [kS1, bLookup, bMapSet, wantA, isCall, stepOp, evalO, evalL, evalP, evalM, putDst, flat, kA, kB, Nat.reduceLT, ↓reduceIte, kC, Nat.reduceEqDiff, aBuiltin, abinG, guardFree, abin, aInt, aUn, aNilCheck, retQ, retQ1, aresults, aresultL, aresult, mkF, undefV, reduceCtorEq, kD, kE, kF, kG, kH, kI, kJ, kK, aExtract, calleeOf, ad, ld, bne, eq_true c, awrap_succ i (by omega)]
   exact loop_again (xs.length - (i + 1)) [(3, .int .i64 0), (6, v), (7, .int .i64 xs.length), (8, .int .i64 (i + 1 : Nat))] (by omega) (by simp only [hasAll, kS1, bLookup, bMapSet, wantA, isCall, stepOp, evalO, evalL, evalP, evalM, putDst, flat, kA, kB, Nat.reduceLT, ↓reduceIte, kC, Nat.reduceEqDiff, aBuiltin, abinG, guardFree, abin, aInt, aUn, aNilCheck, retQ, retQ1, aresults, aresultL, aresult, mkF, undefV, reduceCtorEq, kD, kE, kF, kG, kH, kI, kJ, kK, aExtract, calleeOf]; simp) ⟨i + 1, rfl, hlt, rfl, rfl, ho⟩
  ·rw [if_neg c] at ho
   simp only [kS1, bLookup, bMapSet, wantA, isCall, stepOp, evalO, evalL, evalP, evalM, putDst, flat, kA, kB, Nat.reduceLT, ↓reduceIte, kC, Nat.reduceEqDiff, aBuiltin, abinG, guardFree, abin, aInt, aUn, aNilCheck, retQ, retQ1, aresults, aresultL, aresult, mkF, undefV, reduceCtorEq, kD, kE, kF, kG, kH, kI, kJ, kK, aExtract, calleeOf, ad, ld, bne, eq_false c]
   exact ⟨by rw [ho], trivial⟩
 ·have hge : xs.length ≤ i := lt_f hf
  rw [List.drop_eq_nil_of_le hge, orM] at ho
  simp only [kS1, bLookup, bMapSet, wantA, isCall, stepOp, evalO, evalL, evalP, evalM, putDst, flat, kA, kB, Nat.reduceLT, ↓reduceIte, kC, Nat.reduceEqDiff, aBuiltin, abinG, guardFree, abin, aInt, aUn, aNilCheck, retQ, retQ1, aresults, aresultL, aresult, mkF, undefV, reduceCtorEq, kD, kE, kF, kG, kH, kI, kJ, kK, aExtract, calleeOf]
  exact ⟨by rw [ho], trivial⟩
def cmpP (p q : Pr) : Int := orM [cmpI p.1 q.1, cmpI p.2 q.2]
theorem cmpP_lt (p q : Pr) : cmpP p q < 0 ↔ p.1 < q.1 ∨ p.1 = q.1 ∧ p.2 < q.2 := by
 unfold cmpP orM orM orM cmpI
 repeat' split
 all_goals omega
theorem cmpP_eq (p q : Pr) : cmpP p q = 0 ↔ p = q := by
 have : p = q ↔ p.1 = q.1 ∧ p.2 = q.2 := Prod.ext_iff
 rw [this]
 unfold cmpP orM orM orM cmpI
 repeat' split
 all_goals omega
theorem mk2 (h : AHeap) (a b : Int) : aBuildSlice Try.prog h 38 2 [(0, .int .i64 a), (1, .int .i64 b)] = some (.slice (some ⟨h.next, 0, none⟩) 2 2, h.alloc (.cells [.int .i64 a, .int .i64 b])) := rfl
theorem compare_any (W0 : Base) (p q : Pr) (h : AHeap) : AC Try.prog W0 85 [valP p, valP q] h fun v h' => v = .int .i64 (cmpP p q) ∧ Le h h' := by
 refine AC.vc (fn := Try.f85) (c := _) ⟨Try.func85, rfl, by decide⟩ Try.ntmps85 Try.results85 (by simp) fun hwf => ?_
 simp only [argFrame, argFrom, Nat.reduceAdd]
 obtain ⟨h1, e1, l1, w1, o1⟩ := alloc_f hwf (cellsP p)
 obtain ⟨h2, e2, l2, w2, o2⟩ := alloc_f w1 (cellsP q)
 simp only [kS1, bLookup, bMapSet, wantA, isCall, stepOp, evalO, evalL, evalP, evalM, putDst, flat, kA, kB, Nat.reduceLT, ↓reduceIte, kC, Nat.reduceEqDiff, aBuiltin, abinG, guardFree, abin, aInt, aUn, aNilCheck, retQ, retQ1, aresults, aresultL, aresult, mkF, undefV, reduceCtorEq, kD, kE, kF, kG, kH, kI, kJ, kK, aExtract, calleeOf, box42, e1, e2]
 have o12 := l2.own _ _ o1
 generalize h.next = a at *
 generalize h1.next = b at *
 refine KDraw.intro mixed (.fl 0 (.fl 1 (.fl 2 (.fl 3 (.fl 5 (.fl 6 (.fl 7 (.fl 8 (.ch 4 [1, 3] (.ch 9 [4, 6, 8] (.ch 10 [4, 9] (.ch 11 [9, 10] (.fl 12 (.done)) .no) .no) .no) .no))))))))) (by kernel_rfl) ?_
 simp only [kS1, bLookup, bMapSet, wantA, isCall, stepOp, evalO, evalL, evalP, evalM, putDst, flat, kA, kB, Nat.reduceLT, ↓reduceIte, kC, Nat.reduceEqDiff, aBuiltin, abinG, guardFree, abin, aInt, aUn, aNilCheck, retQ, retQ1, aresults, aresultL, aresult, mkF, undefV, reduceCtorEq, kD, kE, kF, kG, kH, kI, kJ, kK, aExtract, calleeOf, kD1, Nat.reduceBEq, HoldsAll, kL, kM, kN, kO, pa0, pa1, aadd, Nat.zero_add, own0 o12, own1 o12, own0 o2, own1 o2]
 refine KGCall.intro (by simp only [kS1, bLookup, bMapSet, wantA, isCall, stepOp, evalO, evalL, evalP, evalM, putDst, flat, kA, kB, Nat.reduceLT, ↓reduceIte, kC, Nat.reduceEqDiff, aBuiltin, abinG, guardFree, abin, aInt, aUn, aNilCheck, retQ, retQ1, aresults, aresultL, aresult, mkF, undefV, reduceCtorEq, kD, kE, kF, kG, kH, kI, kJ, kK, aExtract, calleeOf] <;> rfl) ⟨Try.func116, rfl, by decide⟩ (Compare_any W0 p.1 q.1 h2) ?_
 rintro x h3 w3 ⟨rfl, rfl⟩
 simp only [kS1, bLookup, bMapSet, wantA, isCall, stepOp, evalO, evalL, evalP, evalM, putDst, flat, kA, kB, Nat.reduceLT, ↓reduceIte, kC, Nat.reduceEqDiff, aBuiltin, abinG, guardFree, abin, aInt, aUn, aNilCheck, retQ, retQ1, aresults, aresultL, aresult, mkF, undefV, reduceCtorEq, kD, kE, kF, kG, kH, kI, kJ, kK, aExtract, calleeOf, kD1, Nat.reduceBEq, HoldsAll, kL, kM, kN, kO, pa0, pa1, aadd, Nat.zero_add, own0 o12, own1 o12, own0 o2, own1 o2]
 refine KGCall.intro (by simp only [kS1, bLookup, bMapSet, wantA, isCall, stepOp, evalO, evalL, evalP, evalM, putDst, flat, kA, kB, Nat.reduceLT, ↓reduceIte, kC, Nat.reduceEqDiff, aBuiltin, abinG, guardFree, abin, aInt, aUn, aNilCheck, retQ, retQ1, aresults, aresultL, aresult, mkF, undefV, reduceCtorEq, kD, kE, kF, kG, kH, kI, kJ, kK, aExtract, calleeOf] <;> rfl) ⟨Try.func116, rfl, by decide⟩ (Compare_any W0 p.2 q.2 h3) ?_
 rintro x h4 w4 ⟨rfl, rfl⟩
 obtain ⟨h5, e5, l5, w5, o5⟩ := alloc_f w4 [.int .i64 (cmpI p.1 q.1), .int .i64 (cmpI p.2 q.2)]
 have o52 := l5.own _ _ o12
 have o53 := l5.own _ _ o2
 simp only [kS1, bLookup, bMapSet, wantA, isCall, stepOp, evalO, evalL, evalP, evalM, putDst, flat, kA, kB, Nat.reduceLT, ↓reduceIte, kC, Nat.reduceEqDiff, aBuiltin, abinG, guardFree, abin, aInt, aUn, aNilCheck, retQ, retQ1, aresults, aresultL, aresult, mkF, undefV, reduceCtorEq, kD, kE, kF, kG, kH, kI, kJ, kK, aExtract, calleeOf, kD1, Nat.reduceBEq, HoldsAll, kL, kM, kN, kO, pa0, pa1, aadd, Nat.zero_add, own0 o12, own1 o12, own0 o2, own1 o2, mk2, e5, own0 o52, own1 o52, own0 o53, own1 o53]
 refine KGCall.intro (by simp only [kS1, bLookup, bMapSet, wantA, isCall, stepOp, evalO, evalL, evalP, evalM, putDst, flat, kA, kB, Nat.reduceLT, ↓reduceIte, kC, Nat.reduceEqDiff, aBuiltin, abinG, guardFree, abin, aInt, aUn, aNilCheck, retQ, retQ1, aresults, aresultL, aresult, mkF, undefV, reduceCtorEq, kD, kE, kF, kG, kH, kI, kJ, kK, aExtract, calleeOf] <;> rfl) ⟨Try.func115, rfl, by decide⟩ (Or_any W0 _ [cmpI p.1 q.1, cmpI p.2 q.2] h5 (RL.ofI (RS.whole o5 rfl)) (by simp)) ?_
 rintro x h6 w6 ⟨rfl, rfl⟩
 simp only [kS1, bLookup, bMapSet, wantA, isCall, stepOp, evalO, evalL, evalP, evalM, putDst, flat, kA, kB, Nat.reduceLT, ↓reduceIte, kC, Nat.reduceEqDiff, aBuiltin, abinG, guardFree, abin, aInt, aUn, aNilCheck, retQ, retQ1, aresults, aresultL, aresult, mkF, undefV, reduceCtorEq, kD, kE, kF, kG, kH, kI, kJ, kK, aExtract, calleeOf, kD1, Nat.reduceBEq, HoldsAll, kL, kM, kN, kO, pa0, pa1, aadd, Nat.zero_add, own0 o52, own1 o52, own0 o53, own1 o53]
 exact ⟨rfl, (l1.trans l2).trans l5⟩
end Go.Fw
