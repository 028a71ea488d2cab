/- One of the texts of the layer and the walks: it proves what its theorems say of the functions of the seat, with no condition beyond theirs. -/
import Derived.Test.YtmgcmoifdnkaoaaFwRep
import Derived.Test.YtmgcmoifdnkaoaaFwSh
import Derived.Test.YtmgcmoifdnkaoaaFwBytes
import Derived.Test.YtmgcmoifdnkaoaaFwOps7
import Derived.KernelRfl
import Derived.Test.YtmgcmoifdnkaoaaProg
set_option linter.unusedSimpArgs false
set_option linter.unusedVariables false
namespace Go.Fw
open Go.Proofs
set_option maxHeartbeats 1000000
set_option maxRecDepth 10000
theorem mixed : Try.prog.follows .mixedOrders = true := by kernel_rfl
theorem getElem?_of {α : Type} {l : List α} {i : Nat} (h : i < l.length) : l[i]? = some l[i] := List.getElem?_eq_getElem h
theorem getD_of {α : Type} {l : List α} {i : Nat} {d : α} (h : i < l.length) : l.getD i d = l[i] := by simp [List.getD, h]
def BoolIs (p : Prop) (v : Value) : Prop := ∃ b : Bool, v = .bool b ∧ (b = true ↔ p)
theorem BoolIs.t {p : Prop} (h : p) : BoolIs p (.bool true) := ⟨true, rfl, by simp [h]⟩
theorem BoolIs.f {p : Prop} (h : ¬ p) : BoolIs p (.bool false) := ⟨false, rfl, by simp [h]⟩
theorem lt_t {i n : Nat} (h : decide ((i : Int) < (n : Int)) = true) : i < n := by have := of_decide_eq_true h; omega
theorem lt_f {i n : Nat} (h : decide ((i : Int) < (n : Int)) = false) : n ≤ i := by have := of_decide_eq_false h; omega
theorem alloc_f {h : AHeap} (hw : WF h) (c : List Value) : ∃ h', h.alloc (.cells c) = h' ∧ Le h h' ∧ WF h' ∧ h'.own h.next = some (.cells c) := ⟨_, rfl, (Le.refl h).alloc hw _, hw.alloc _, AHeap.own_alloc_eq _ _⟩
theorem byOne {ι : Type} {F : ι → Prop} {A : Prop} (Φ : ι → Prop) (h1 : (∀ x, F x → Φ x) → A) (h2 : ∀ x, F x → Φ x) : A := h1 h2
theorem byOne2 {ι κ : Type} {F : ι → κ → Prop} {A : Prop} (Φ : ι → κ → Prop) (h1 : (∀ x y, F x y → Φ x y) → A) (h2 : ∀ x y, F x y → Φ x y) : A := h1 h2
theorem KN.gen2 {P : Program} {W0 : Base} {N : Nat} {ks : List Kt} {R : Exit → AFrame → AHeap → Prop} {fr : AFrame} {h : AHeap} (q : ∀ fr' h', fr' = fr → h' = h → KN P W0 N ks R fr' h') : KN P W0 N ks R fr h := q fr h rfl rfl
theorem KN.gen {P : Program} {W0 : Base} {N : Nat} {ks : List Kt} {R : Exit → AFrame → AHeap → Prop} {fr : AFrame} {h : AHeap} (q : ∀ fr', fr' = fr → KN P W0 N ks R fr' h) : KN P W0 N ks R fr h := q fr rfl
theorem GS.kept {k n : Nat} {h h' : AHeap} {v : Value} {cs : List Value} (g : GS k h v n cs) (hk : ∀ b o, blk v = some b → h.own b = some o → h'.own b = some o) : GS k h' v n cs := by
  obtain ⟨hl, q | ⟨i, c, cap, rfl, ho, rr⟩⟩ := g
  · exact ⟨hl, .inl q⟩
  · exact ⟨hl, .inr ⟨i, c, cap, rfl, hk i _ rfl ho, rr⟩⟩
theorem GS.put {k n : Nat} {h : AHeap} {v : Value} {cs : List Value} (g : GS k h v n cs) {id : Nat} (o : AObj) (hb : blk v ≠ some id) : GS k (h.put id o) v n cs :=
  g.kept fun b o' hv ho => by rw [AHeap.own_put_ne _ _ _ _ (fun e => hb (by rw [← e]; exact hv))]; exact ho
abbrev Pr := Int × Int
def cellsP (p : Pr) : List Value := [.int .i64 p.1, .int .i64 p.2]
def valP (p : Pr) : Value := .agg #[.int .i64 p.1, .int .i64 p.2]
def flatP (ps : List Pr) : List Value := ps.flatMap cellsP
theorem flatP_length (ps : List Pr) : (flatP ps).length = ps.length * 2 := by
  induction ps with
  | nil => rfl
  | cons p ps ih => simp [flatP, cellsP] at ih ⊢; omega
theorem flatP_one (ps : List Pr) : (flatP ps).all (·.oneCell') = true := by
  rw [List.all_eq_true]; intro x hx; rw [flatP, List.mem_flatMap] at hx
  obtain ⟨p, _, hx⟩ := hx
  simp [cellsP] at hx
  rcases hx with rfl | rfl <;> rfl
theorem flatP_append (a b : List Pr) : flatP (a ++ b) = flatP a ++ flatP b := by simp [flatP]
theorem flatP_snoc (ps : List Pr) (p : Pr) : flatP (ps ++ [p]) = flatP ps ++ [.int .i64 p.1, .int .i64 p.2] := by simp [flatP, cellsP]
theorem flatP_get : ∀ (ps : List Pr) (i : Nat) (p : Pr), ps[i]? = some p → (flatP ps)[i * 2]? = some (.int .i64 p.1) ∧ (flatP ps)[i * 2 + 1]? = some (.int .i64 p.2)
  | [], i, p, h => by simp at h
  | q :: ps, 0, p, h => by simp at h; subst h; simp [flatP, cellsP]
  | q :: ps, i + 1, p, h => by
    have := flatP_get ps i p (by simpa using h)
    have e : flatP (q :: ps) = .int .i64 q.1 :: .int .i64 q.2 :: flatP ps := rfl
    rw [e, show (i + 1) * 2 = (i * 2 + 1) + 1 by omega]
    simpa using this
def PR (h : AHeap) (v : Value) (ps : List Pr) : Prop := CS 2 h v ps.length (flatP ps)
def pAddr (v : Value) (i : Nat) : Addr := elemAddr v (i * 2)
theorem PR.le {h h' : AHeap} {v : Value} {ps : List Pr} (r : PR h v ps) (e : Le h h') : PR h' v ps := CS.le r e
theorem PR.nil (h : AHeap) : PR h (.slice none 0 0) [] := CS.nil 2 h
theorem ts42 : tsize Try.prog 45 = 2 := by kernel_rfl
theorem ts3 : tsize Try.prog 3 = 1 := by kernel_rfl
theorem PR.len {h : AHeap} {v : Value} {ps : List Pr} (r : PR h v ps) (g : AHeap) : aLen Try.prog g 22 v = some (.int .i64 ps.length) := by
  obtain ⟨a, c, rfl, _⟩ := r.sl; simp [aLen, Try.underlying22]
theorem PR.addr {h : AHeap} {v : Value} {ps : List Pr} (r : PR h v ps) {k : IntKind} (i : Nat) (hi : i < ps.length) : aIndexAddr Try.prog 22 v (.int k i) = some (.pointer (some (pAddr v i))) := by
  obtain ⟨a, c, rfl, hs⟩ := r.sl
  obtain ⟨a, rfl⟩ := Option.isSome_iff_exists.1 (hs (by omega))
  have h1 : (i : Int) < (ps.length : Int) := by omega
  simp [aIndexAddr, Try.underlying22, Try.underlying45, h1, pAddr, elemAddr, ts42]
theorem pa0 (a : Addr) : aIndexAddr Try.prog 45 (.pointer (some a)) (.int .i64 0) = some (.pointer (some (aadd a 0))) := by
  simp [aIndexAddr, Try.underlying45, Try.underlying3]
theorem pa1 (a : Addr) : aIndexAddr Try.prog 45 (.pointer (some a)) (.int .i64 1) = some (.pointer (some (aadd a 1))) := by
  simp [aIndexAddr, Try.underlying45, Try.underlying3, ts3]
theorem PR.get {h : AHeap} {v : Value} {ps : List Pr} (r : PR h v ps) {i : Nat} {p : Pr} (hp : ps[i]? = some p) :
    h.read (aadd (pAddr v i) 0) = some (.int .i64 p.1) ∧ h.read (aadd (pAddr v i) 1) = some (.int .i64 p.2) := by
  obtain ⟨f1, f2⟩ := flatP_get ps i p hp
  have g1 := CS.get r _ _ f1
  have g2 := CS.get r _ _ f2
  obtain ⟨a, c, rfl, hs⟩ := r.sl
  have hi := (List.getElem?_eq_some_iff.1 hp).1
  obtain ⟨a, rfl⟩ := Option.isSome_iff_exists.1 (hs (by omega))
  simp only [pAddr, elemAddr_mk, aadd] at *
  exact ⟨by simpa using g1, by simpa [Nat.add_assoc] using g2⟩
theorem PR.l0 {h : AHeap} {v : Value} {ps : List Pr} (r : PR h v ps) {i : Nat} {p : Pr} (hp : ps[i]? = some p) : aload Try.prog h 3 (aadd (pAddr v i) 0) = some (.int .i64 p.1) := by
  rw [aload_flat Try.underlying3 rfl]; exact (r.get hp).1
theorem PR.l1 {h : AHeap} {v : Value} {ps : List Pr} (r : PR h v ps) {i : Nat} {p : Pr} (hp : ps[i]? = some p) : aload Try.prog h 3 (aadd (pAddr v i) 1) = some (.int .i64 p.2) := by
  rw [aload_flat Try.underlying3 rfl]; exact (r.get hp).2
theorem PR.load {h : AHeap} {v : Value} {ps : List Pr} (r : PR h v ps) {i : Nat} {p : Pr} (hp : ps[i]? = some p) : aload Try.prog h 45 (pAddr v i) = some (valP p) := by
  obtain ⟨g1, g2⟩ := r.get hp
  have hrd : readN h (pAddr v i) 2 = some [.int .i64 p.1, .int .i64 p.2] := by
    refine readN_get [.int .i64 p.1, .int .i64 p.2] _ fun j x hx => ?_
    match j with
    | 0 => simp at hx; subst hx; exact g1
    | 1 => simp at hx; subst hx; exact g2
    | j + 2 => simp at hx
  have hd : isAggD (.array 2 3) = true := rfl
  simp only [aload, Try.underlying45, hd, cond_true, ts42, hrd, valP]
theorem alloc42 (h : AHeap) : aAlloc Try.prog h 45 = some (.pointer (some ⟨h.next, 0, none⟩), h.alloc (.cells [.int .i64 0, .int .i64 0])) := rfl
theorem store42 {h : AHeap} {w : Nat} {x y : Value} {p : Pr} (ho : h.own w = some (.cells [x, y])) : aStore Try.prog h 45 (.pointer (some ⟨w, 0, none⟩)) (valP p) = some (h.put w (.cells (cellsP p))) := by
  simp [aStore, ho, valP, Value.cells, ts42, putCells, cellsP, Try.underlying45]
  exact ⟨rfl, rfl⟩
theorem box42 (h : AHeap) (p : Pr) : aBox h (valP p) = some (.pointer (some ⟨h.next, 0, none⟩), h.alloc (.cells (cellsP p))) := rfl
theorem own0 {h : AHeap} {w : Nat} {p : Pr} (ho : h.own w = some (.cells (cellsP p))) : aload Try.prog h 3 ⟨w, 0, none⟩ = some (.int .i64 p.1) := by rw [aload_one Try.underlying3 rfl ho]; rfl
theorem own1 {h : AHeap} {w : Nat} {p : Pr} (ho : h.own w = some (.cells (cellsP p))) : aload Try.prog h 3 ⟨w, 1, none⟩ = some (.int .i64 p.2) := by rw [aload_one Try.underlying3 rfl ho]; rfl
theorem own42 {h : AHeap} {w : Nat} {p : Pr} (ho : h.own w = some (.cells (cellsP p))) : aload Try.prog h 45 ⟨w, 0, none⟩ = some (valP p) := by
  rw [aload_own Try.underlying45 rfl ts42 ho (by simp [cellsP])]; rfl
theorem new42 {h : AHeap} (hw : WF h) (p : Pr) : ∃ h1 h2, aAlloc Try.prog h 45 = some (.pointer (some ⟨h.next, 0, none⟩), h1) ∧ aStore Try.prog h1 45 (.pointer (some ⟨h.next, 0, none⟩)) (valP p) = some h2 ∧ Le h h2 ∧ WF h2 ∧ h2.own h.next = some (.cells (cellsP p)) := by
  obtain ⟨h1, e1, l1, w1, o1⟩ := alloc_f hw [.int .i64 0, .int .i64 0]
  have nw : h.own h.next = none := (Le.refl h).next hw (Nat.le_refl _)
  exact ⟨h1, _, by rw [alloc42, e1], store42 o1, l1.put _ nw, w1.put _ (w1.lt o1), AHeap.own_put_eq _ _ _⟩
structure GM where
  n : Int
  es : List Pr
structure GR (h : AHeap) (v : Value) (G : GM) : Prop where
  ex : ∃ ev, v = .agg #[.int .i64 G.n, ev] ∧ PR h ev G.es
theorem GR.le {h h' : AHeap} {v : Value} {G : GM} (r : GR h v G) (e : Le h h') : GR h' v G := by
  obtain ⟨ev, e1, e2⟩ := r.ex; exact ⟨ev, e1, e2.le e⟩
theorem fg0 (a : Addr) : aField Try.prog 24 (.pointer (some a)) 0 = some (.pointer (some (aadd a 0))) := rfl
theorem fg1 (a : Addr) : aField Try.prog 24 (.pointer (some a)) 1 = some (.pointer (some (aadd a 1))) := rfl
theorem boxG {h : AHeap} (hwf : WF h) {n : Int} {ev : Value} {es : List Pr} (r : PR h ev es) :
    ∃ h1, aBox h (.agg #[.int .i64 n, ev]) = some (.pointer (some ⟨h.next, 0, none⟩), h1) ∧ Le h h1 ∧ WF h1 ∧ h1.own h.next = some (.cells [.int .i64 n, ev]) ∧
      ∀ g, Le h1 g → aload Try.prog g 24 ⟨h.next, 0, none⟩ = some (.agg #[.int .i64 n, ev]) ∧ aload Try.prog g 3 ⟨h.next, 0, none⟩ = some (.int .i64 n) ∧ aload Try.prog g 22 ⟨h.next, 1, none⟩ = some ev := by
  obtain ⟨h1, e1, l1, w1, o1⟩ := alloc_f hwf [.int .i64 n, ev]
  have h2 := r.sl.one
  refine ⟨h1, ?_, l1, w1, o1, fun g e => ⟨?_, aload_one Try.underlying3 rfl (e.own _ _ o1), aload_one Try.underlying22 rfl (e.own _ _ o1)⟩⟩
  · rw [← e1]
    obtain ⟨_, _, rfl, _⟩ := r.sl
    rfl
  · rw [aload_own Try.underlying24 rfl (by kernel_rfl : tsize Try.prog 24 = 2) (e.own _ _ o1) (by simp)]; rfl
end Go.Fw
namespace Go.Fw
open Go.Proofs
attribute [local irreducible] KO4 KO3 KO2 KO1 KO KN KX KE VK KCond KDraw KCall KLoop
set_option maxHeartbeats 2000000
set_option maxRecDepth 10000
theorem isNaN_any (W0 : Base) (a : Int) (h : AHeap) : AC Try.prog W0 91 [.int .i64 a] h fun v h' => v = .bool false ∧ h' = h := by
  refine AC.vc (fn := Try.f91) (c := _) ⟨Try.func91, rfl, by decide⟩ Try.ntmps91 Try.results91 (by simp) fun hwf => ?_
  simp only [argFrame, argFrom, Nat.reduceAdd]
  simp only [kS1, bLookup, bMapSet, wantA, isCall, stepOp, evalO, evalL, evalP, evalM, putDst, flat, kA, kB, Nat.reduceLT, ↓reduceIte, kC, Nat.reduceEqDiff, aBuiltin, abinG, guardFree, abin, aInt, aUn, aNilCheck, retQ, retQ1, aresults, aresultL, aresult, mkF, undefV, reduceCtorEq, kD, kE, kF, kG, kH, kI, kJ, kK, aExtract, calleeOf, bne, eq_self]
  exact ⟨trivial, trivial⟩
def cmpI (a b : Int) : Int := if a < b then -1 else if a > b then 1 else 0
theorem Compare_any (W0 : Base) (a b : Int) (h : AHeap) : AC Try.prog W0 63 [.int .i64 a, .int .i64 b] h fun v h' => v = .int .i64 (cmpI a b) ∧ h' = h := by
  refine AC.vc (fn := Try.f63) (c := _) ⟨Try.func63, rfl, by decide⟩ Try.ntmps63 Try.results63 (by simp) fun hwf => ?_
  simp only [argFrame, argFrom, Nat.reduceAdd]
  simp only [kS1, bLookup, bMapSet, wantA, isCall, stepOp, evalO, evalL, evalP, evalM, putDst, flat, kA, kB, Nat.reduceLT, ↓reduceIte, kC, Nat.reduceEqDiff, aBuiltin, abinG, guardFree, abin, aInt, aUn, aNilCheck, retQ, retQ1, aresults, aresultL, aresult, mkF, undefV, reduceCtorEq, kD, kE, kF, kG, kH, kI, kJ, kK, aExtract, calleeOf]
  refine KCall.intro (by simp only [kS1, bLookup, bMapSet, wantA, isCall, stepOp, evalO, evalL, evalP, evalM, putDst, flat, kA, kB, Nat.reduceLT, ↓reduceIte, kC, Nat.reduceEqDiff, aBuiltin, abinG, guardFree, abin, aInt, aUn, aNilCheck, retQ, retQ1, aresults, aresultL, aresult, mkF, undefV, reduceCtorEq, kD, kE, kF, kG, kH, kI, kJ, kK, aExtract, calleeOf] <;> rfl) ⟨Try.func91, rfl, by decide⟩ (isNaN_any W0 a h) ?_
  rintro x h1 w1 ⟨rfl, rfl⟩
  simp only [kS1, bLookup, bMapSet, wantA, isCall, stepOp, evalO, evalL, evalP, evalM, putDst, flat, kA, kB, Nat.reduceLT, ↓reduceIte, kC, Nat.reduceEqDiff, aBuiltin, abinG, guardFree, abin, aInt, aUn, aNilCheck, retQ, retQ1, aresults, aresultL, aresult, mkF, undefV, reduceCtorEq, kD, kE, kF, kG, kH, kI, kJ, kK, aExtract, calleeOf]
  refine KCall.intro (by simp only [kS1, bLookup, bMapSet, wantA, isCall, stepOp, evalO, evalL, evalP, evalM, putDst, flat, kA, kB, Nat.reduceLT, ↓reduceIte, kC, Nat.reduceEqDiff, aBuiltin, abinG, guardFree, abin, aInt, aUn, aNilCheck, retQ, retQ1, aresults, aresultL, aresult, mkF, undefV, reduceCtorEq, kD, kE, kF, kG, kH, kI, kJ, kK, aExtract, calleeOf] <;> rfl) ⟨Try.func91, rfl, by decide⟩ (isNaN_any W0 b h1) ?_
  rintro x h2 w2 ⟨rfl, rfl⟩
  unfold cmpI
  by_cases c : a < b
  · simp only [kS1, bLookup, bMapSet, wantA, isCall, stepOp, evalO, evalL, evalP, evalM, putDst, flat, kA, kB, Nat.reduceLT, ↓reduceIte, kC, Nat.reduceEqDiff, aBuiltin, abinG, guardFree, abin, aInt, aUn, aNilCheck, retQ, retQ1, aresults, aresultL, aresult, mkF, undefV, reduceCtorEq, kD, kE, kF, kG, kH, kI, kJ, kK, aExtract, calleeOf, c]; exact ⟨trivial, trivial⟩
  · by_cases c2 : a > b
    · simp only [kS1, bLookup, bMapSet, wantA, isCall, stepOp, evalO, evalL, evalP, evalM, putDst, flat, kA, kB, Nat.reduceLT, ↓reduceIte, kC, Nat.reduceEqDiff, aBuiltin, abinG, guardFree, abin, aInt, aUn, aNilCheck, retQ, retQ1, aresults, aresultL, aresult, mkF, undefV, reduceCtorEq, kD, kE, kF, kG, kH, kI, kJ, kK, aExtract, calleeOf, c, c2]; exact ⟨trivial, trivial⟩
    · simp only [kS1, bLookup, bMapSet, wantA, isCall, stepOp, evalO, evalL, evalP, evalM, putDst, flat, kA, kB, Nat.reduceLT, ↓reduceIte, kC, Nat.reduceEqDiff, aBuiltin, abinG, guardFree, abin, aInt, aUn, aNilCheck, retQ, retQ1, aresults, aresultL, aresult, mkF, undefV, reduceCtorEq, kD, kE, kF, kG, kH, kI, kJ, kK, aExtract, calleeOf, c, c2]; exact ⟨trivial, trivial⟩
def orM : List Int → Int
  | [] => 0
  | x :: r => if x = 0 then orM r else x
theorem Or_any (W0 : Base) (v : Value) (xs : List Int) (h : AHeap) (hv : RL isI h v xs) (hn : xs.length ≤ 1000) : AC Try.prog W0 62 [v] h fun x h' => x = .int .i64 (orM xs) ∧ h' = h := by
  refine AC.vc (fn := Try.f62) (c := _) ⟨Try.func62, rfl, by decide⟩ Try.ntmps62 Try.results62 (by simp) fun hwf => ?_
  simp only [argFrame, argFrom, Nat.reduceAdd]
  have ll := hv.len (P := Try.prog) Try.underlying35 h
  simp only [kS1, bLookup, bMapSet, wantA, isCall, stepOp, evalO, evalL, evalP, evalM, putDst, flat, kA, kB, Nat.reduceLT, ↓reduceIte, kC, Nat.reduceEqDiff, aBuiltin, abinG, guardFree, abin, aInt, aUn, aNilCheck, retQ, retQ1, aresults, aresultL, aresult, mkF, undefV, reduceCtorEq, kD, kE, kF, kG, kH, kI, kJ, kK, aExtract, calleeOf, ll]
  refine KLoop.intro (fun k fr hh => ∃ i : Nat, k = xs.length - i ∧ i ≤ xs.length ∧ hh = h ∧ fr = mkF [(3, .int .i64 0), (6, v), (7, .int .i64 xs.length), (8, .int .i64 i)] ∧ orM xs = orM (xs.drop i))
    xs.length [(3, .int .i64 0), (6, v), (7, .int .i64 xs.length), (8, .int .i64 (0 : Nat))] (by simp only [hasAll, kS1, bLookup, bMapSet, wantA, isCall, stepOp, evalO, evalL, evalP, evalM, putDst, flat, kA, kB, Nat.reduceLT, ↓reduceIte, kC, Nat.reduceEqDiff, aBuiltin, abinG, guardFree, abin, aInt, aUn, aNilCheck, retQ, retQ1, aresults, aresultL, aresult, mkF, undefV, reduceCtorEq, kD, kE, kF, kG, kH, kI, kJ, kK, aExtract, calleeOf]; simp) ⟨0, rfl, Nat.zero_le _, rfl, rfl, rfl⟩ ?_
  rintro k fr hh - ⟨i, rfl, hi, rfl, rfl, ho⟩
  simp only [kS1, bLookup, bMapSet, wantA, isCall, stepOp, evalO, evalL, evalP, evalM, putDst, flat, kA, kB, Nat.reduceLT, ↓reduceIte, kC, Nat.reduceEqDiff, aBuiltin, abinG, guardFree, abin, aInt, aUn, aNilCheck, retQ, retQ1, aresults, aresultL, aresult, mkF, undefV, reduceCtorEq, kD, kE, kF, kG, kH, kI, kJ, kK, aExtract, calleeOf]
  refine KCond.intro (fun ht => ?_) (fun hf => ?_)
  · have hlt : i < xs.length := lt_t ht
    have ad := hv.addr (P := Try.prog) Try.underlying35 Try.underlying3 (by kernel_rfl) (k := .i64) i hlt
    have ld := hv.loadI (P := Try.prog) Try.underlying3 rfl i hlt
    rw [List.drop_eq_getElem_cons hlt, orM] at ho
    by_cases c : xs[i] = 0
    · rw [if_pos c] at ho
      simp only [kS1, bLookup, bMapSet, wantA, isCall, stepOp, evalO, evalL, evalP, evalM, putDst, flat, kA, kB, Nat.reduceLT, ↓reduceIte, kC, Nat.reduceEqDiff, aBuiltin, abinG, guardFree, abin, aInt, aUn, aNilCheck, retQ, retQ1, aresults, aresultL, aresult, mkF, undefV, reduceCtorEq, kD, kE, kF, kG, kH, kI, kJ, kK, aExtract, calleeOf, ad, ld, bne, eq_true c, awrap_succ i (by omega)]
      exact loop_again (xs.length - (i + 1)) [(3, .int .i64 0), (6, v), (7, .int .i64 xs.length), (8, .int .i64 (i + 1 : Nat))] (by omega) (by simp only [hasAll, kS1, bLookup, bMapSet, wantA, isCall, stepOp, evalO, evalL, evalP, evalM, putDst, flat, kA, kB, Nat.reduceLT, ↓reduceIte, kC, Nat.reduceEqDiff, aBuiltin, abinG, guardFree, abin, aInt, aUn, aNilCheck, retQ, retQ1, aresults, aresultL, aresult, mkF, undefV, reduceCtorEq, kD, kE, kF, kG, kH, kI, kJ, kK, aExtract, calleeOf]; simp) ⟨i + 1, rfl, hlt, rfl, rfl, ho⟩
    · rw [if_neg c] at ho
      simp only [kS1, bLookup, bMapSet, wantA, isCall, stepOp, evalO, evalL, evalP, evalM, putDst, flat, kA, kB, Nat.reduceLT, ↓reduceIte, kC, Nat.reduceEqDiff, aBuiltin, abinG, guardFree, abin, aInt, aUn, aNilCheck, retQ, retQ1, aresults, aresultL, aresult, mkF, undefV, reduceCtorEq, kD, kE, kF, kG, kH, kI, kJ, kK, aExtract, calleeOf, ad, ld, bne, eq_false c]
      exact ⟨by rw [ho], trivial⟩
  · have hge : xs.length ≤ i := lt_f hf
    rw [List.drop_eq_nil_of_le hge, orM] at ho
    simp only [kS1, bLookup, bMapSet, wantA, isCall, stepOp, evalO, evalL, evalP, evalM, putDst, flat, kA, kB, Nat.reduceLT, ↓reduceIte, kC, Nat.reduceEqDiff, aBuiltin, abinG, guardFree, abin, aInt, aUn, aNilCheck, retQ, retQ1, aresults, aresultL, aresult, mkF, undefV, reduceCtorEq, kD, kE, kF, kG, kH, kI, kJ, kK, aExtract, calleeOf]
    exact ⟨by rw [ho], trivial⟩
def cmpP (p q : Pr) : Int := orM [cmpI p.1 q.1, cmpI p.2 q.2]
theorem cmpP_lt (p q : Pr) : cmpP p q < 0 ↔ p.1 < q.1 ∨ p.1 = q.1 ∧ p.2 < q.2 := by
  unfold cmpP orM orM orM cmpI
  repeat' split
  all_goals omega
theorem cmpP_eq (p q : Pr) : cmpP p q = 0 ↔ p = q := by
  have : p = q ↔ p.1 = q.1 ∧ p.2 = q.2 := Prod.ext_iff
  rw [this]
  unfold cmpP orM orM orM cmpI
  repeat' split
  all_goals omega
theorem mk2 (h : AHeap) (a b : Int) : aBuildSlice Try.prog h 35 2 [(0, .int .i64 a), (1, .int .i64 b)] = some (.slice (some ⟨h.next, 0, none⟩) 2 2, h.alloc (.cells [.int .i64 a, .int .i64 b])) := rfl
theorem compare_any (W0 : Base) (p q : Pr) (h : AHeap) : AC Try.prog W0 71 [valP p, valP q] h fun v h' => v = .int .i64 (cmpP p q) ∧ Le h h' := by
  refine AC.vc (fn := Try.f71) (c := _) ⟨Try.func71, rfl, by decide⟩ Try.ntmps71 Try.results71 (by simp) fun hwf => ?_
  simp only [argFrame, argFrom, Nat.reduceAdd]
  obtain ⟨h1, e1, l1, w1, o1⟩ := alloc_f hwf (cellsP p)
  obtain ⟨h2, e2, l2, w2, o2⟩ := alloc_f w1 (cellsP q)
  simp only [kS1, bLookup, bMapSet, wantA, isCall, stepOp, evalO, evalL, evalP, evalM, putDst, flat, kA, kB, Nat.reduceLT, ↓reduceIte, kC, Nat.reduceEqDiff, aBuiltin, abinG, guardFree, abin, aInt, aUn, aNilCheck, retQ, retQ1, aresults, aresultL, aresult, mkF, undefV, reduceCtorEq, kD, kE, kF, kG, kH, kI, kJ, kK, aExtract, calleeOf, box42, e1, e2]
  have o12 := l2.own _ _ o1
  generalize h.next = a at *
  generalize h1.next = b at *
  refine KDraw.intro mixed (.fl 0 (.fl 1 (.fl 2 (.fl 3 (.fl 5 (.fl 6 (.fl 7 (.fl 8 (.ch 4 [1, 3] (.ch 9 [4, 6, 8] (.ch 10 [4, 9] (.ch 11 [9, 10] (.fl 12 (.done)) .no) .no) .no) .no))))))))) (by kernel_rfl) ?_
  simp only [kS1, bLookup, bMapSet, wantA, isCall, stepOp, evalO, evalL, evalP, evalM, putDst, flat, kA, kB, Nat.reduceLT, ↓reduceIte, kC, Nat.reduceEqDiff, aBuiltin, abinG, guardFree, abin, aInt, aUn, aNilCheck, retQ, retQ1, aresults, aresultL, aresult, mkF, undefV, reduceCtorEq, kD, kE, kF, kG, kH, kI, kJ, kK, aExtract, calleeOf, kD1, Nat.reduceBEq, HoldsAll, kL, kM, kN, kO, pa0, pa1, aadd, Nat.zero_add, own0 o12, own1 o12, own0 o2, own1 o2]
  refine KGCall.intro (by simp only [kS1, bLookup, bMapSet, wantA, isCall, stepOp, evalO, evalL, evalP, evalM, putDst, flat, kA, kB, Nat.reduceLT, ↓reduceIte, kC, Nat.reduceEqDiff, aBuiltin, abinG, guardFree, abin, aInt, aUn, aNilCheck, retQ, retQ1, aresults, aresultL, aresult, mkF, undefV, reduceCtorEq, kD, kE, kF, kG, kH, kI, kJ, kK, aExtract, calleeOf] <;> rfl) ⟨Try.func63, rfl, by decide⟩ (Compare_any W0 p.1 q.1 h2) ?_
  rintro x h3 w3 ⟨rfl, rfl⟩
  simp only [kS1, bLookup, bMapSet, wantA, isCall, stepOp, evalO, evalL, evalP, evalM, putDst, flat, kA, kB, Nat.reduceLT, ↓reduceIte, kC, Nat.reduceEqDiff, aBuiltin, abinG, guardFree, abin, aInt, aUn, aNilCheck, retQ, retQ1, aresults, aresultL, aresult, mkF, undefV, reduceCtorEq, kD, kE, kF, kG, kH, kI, kJ, kK, aExtract, calleeOf, kD1, Nat.reduceBEq, HoldsAll, kL, kM, kN, kO, pa0, pa1, aadd, Nat.zero_add, own0 o12, own1 o12, own0 o2, own1 o2]
  refine KGCall.intro (by simp only [kS1, bLookup, bMapSet, wantA, isCall, stepOp, evalO, evalL, evalP, evalM, putDst, flat, kA, kB, Nat.reduceLT, ↓reduceIte, kC, Nat.reduceEqDiff, aBuiltin, abinG, guardFree, abin, aInt, aUn, aNilCheck, retQ, retQ1, aresults, aresultL, aresult, mkF, undefV, reduceCtorEq, kD, kE, kF, kG, kH, kI, kJ, kK, aExtract, calleeOf] <;> rfl) ⟨Try.func63, rfl, by decide⟩ (Compare_any W0 p.2 q.2 h3) ?_
  rintro x h4 w4 ⟨rfl, rfl⟩
  obtain ⟨h5, e5, l5, w5, o5⟩ := alloc_f w4 [.int .i64 (cmpI p.1 q.1), .int .i64 (cmpI p.2 q.2)]
  have o52 := l5.own _ _ o12
  have o53 := l5.own _ _ o2
  simp only [kS1, bLookup, bMapSet, wantA, isCall, stepOp, evalO, evalL, evalP, evalM, putDst, flat, kA, kB, Nat.reduceLT, ↓reduceIte, kC, Nat.reduceEqDiff, aBuiltin, abinG, guardFree, abin, aInt, aUn, aNilCheck, retQ, retQ1, aresults, aresultL, aresult, mkF, undefV, reduceCtorEq, kD, kE, kF, kG, kH, kI, kJ, kK, aExtract, calleeOf, kD1, Nat.reduceBEq, HoldsAll, kL, kM, kN, kO, pa0, pa1, aadd, Nat.zero_add, own0 o12, own1 o12, own0 o2, own1 o2, mk2, e5, own0 o52, own1 o52, own0 o53, own1 o53]
  refine KGCall.intro (by simp only [kS1, bLookup, bMapSet, wantA, isCall, stepOp, evalO, evalL, evalP, evalM, putDst, flat, kA, kB, Nat.reduceLT, ↓reduceIte, kC, Nat.reduceEqDiff, aBuiltin, abinG, guardFree, abin, aInt, aUn, aNilCheck, retQ, retQ1, aresults, aresultL, aresult, mkF, undefV, reduceCtorEq, kD, kE, kF, kG, kH, kI, kJ, kK, aExtract, calleeOf] <;> rfl) ⟨Try.func62, rfl, by decide⟩ (Or_any W0 _ [cmpI p.1 q.1, cmpI p.2 q.2] h5 (RL.ofI (RS.whole o5 rfl)) (by simp)) ?_
  rintro x h6 w6 ⟨rfl, rfl⟩
  simp only [kS1, bLookup, bMapSet, wantA, isCall, stepOp, evalO, evalL, evalP, evalM, putDst, flat, kA, kB, Nat.reduceLT, ↓reduceIte, kC, Nat.reduceEqDiff, aBuiltin, abinG, guardFree, abin, aInt, aUn, aNilCheck, retQ, retQ1, aresults, aresultL, aresult, mkF, undefV, reduceCtorEq, kD, kE, kF, kG, kH, kI, kJ, kK, aExtract, calleeOf, kD1, Nat.reduceBEq, HoldsAll, kL, kM, kN, kO, pa0, pa1, aadd, Nat.zero_add, own0 o52, own1 o52, own0 o53, own1 o53]
  exact ⟨rfl, (l1.trans l2).trans l5⟩
end Go.Fw
namespace Go.Fw
open Go.Proofs
attribute [local irreducible] KO4 KO3 KO2 KO1 KO KN KX KE VK KCond KDraw KCall KLoop
set_option maxHeartbeats 4000000
set_option maxRecDepth 10000
def EdgeOK (G : GM) (i : Nat) : Prop := ∀ p, G.es[i]? = some p → (0 ≤ p.1 ∧ p.1 < p.2 ∧ p.2 < G.n) ∧ ∀ q, 0 < i → G.es[i - 1]? = some q → cmpP q p < 0
structure RightG (G : GM) : Prop where
  n0 : 0 ≤ G.n
  n1 : G.n ≤ 200
  len : G.es.length ≤ 594
  ok : ∀ i, i < G.es.length → EdgeOK G i
theorem Right_any (W0 : Base) (v : Value) (G : GM) (h : AHeap) (hg : GR h v G) : AC Try.prog W0 48 [v] h fun x h' => BoolIs (RightG G) x ∧ Le h h' := by
  obtain ⟨ev, rfl, hp⟩ := hg.ex
  refine AC.vc (fn := Try.f48) (c := _) ⟨Try.func48, rfl, by decide⟩ Try.ntmps48 Try.results48 (by simp) fun hwf => ?_
  simp only [argFrame, argFrom, Nat.reduceAdd]
  obtain ⟨h1, b1, le1, wf1, -, lA⟩ := boxG (n := G.n) hwf hp
  generalize h.next = B at *
  have ll := fun g => hp.len g
  have lA1 := lA h1 (Le.refl _)
  by_cases c0 : G.n < 0
  · simp only [kS1, bLookup, bMapSet, wantA, isCall, stepOp, evalO, evalL, evalP, evalM, putDst, flat, kA, kB, Nat.reduceLT, ↓reduceIte, kC, Nat.reduceEqDiff, aBuiltin, abinG, guardFree, abin, aInt, aUn, aNilCheck, retQ, retQ1, aresults, aresultL, aresult, mkF, undefV, reduceCtorEq, kD, kE, kF, kG, kH, kI, kJ, kK, aExtract, calleeOf, b1, fg0, aadd, Nat.zero_add, lA1.2.1, c0]
    exact ⟨.f fun q => by have := q.n0; omega, le1⟩
  by_cases c1 : G.n > 200
  · simp only [kS1, bLookup, bMapSet, wantA, isCall, stepOp, evalO, evalL, evalP, evalM, putDst, flat, kA, kB, Nat.reduceLT, ↓reduceIte, kC, Nat.reduceEqDiff, aBuiltin, abinG, guardFree, abin, aInt, aUn, aNilCheck, retQ, retQ1, aresults, aresultL, aresult, mkF, undefV, reduceCtorEq, kD, kE, kF, kG, kH, kI, kJ, kK, aExtract, calleeOf, b1, fg0, aadd, Nat.zero_add, lA1.2.1, c0, c1]
    exact ⟨.f fun q => by have := q.n1; omega, le1⟩
  by_cases c2 : (G.es.length : Int) > 594
  · simp only [kS1, bLookup, bMapSet, wantA, isCall, stepOp, evalO, evalL, evalP, evalM, putDst, flat, kA, kB, Nat.reduceLT, ↓reduceIte, kC, Nat.reduceEqDiff, aBuiltin, abinG, guardFree, abin, aInt, aUn, aNilCheck, retQ, retQ1, aresults, aresultL, aresult, mkF, undefV, reduceCtorEq, kD, kE, kF, kG, kH, kI, kJ, kK, aExtract, calleeOf, b1, fg0, fg1, aadd, Nat.zero_add, lA1.2.1, lA1.2.2, ll, c0, c1, c2]
    exact ⟨.f fun q => by have := q.len; omega, le1⟩
  simp only [kS1, bLookup, bMapSet, wantA, isCall, stepOp, evalO, evalL, evalP, evalM, putDst, flat, kA, kB, Nat.reduceLT, ↓reduceIte, kC, Nat.reduceEqDiff, aBuiltin, abinG, guardFree, abin, aInt, aUn, aNilCheck, retQ, retQ1, aresults, aresultL, aresult, mkF, undefV, reduceCtorEq, kD, kE, kF, kG, kH, kI, kJ, kK, aExtract, calleeOf, b1, fg0, fg1, aadd, Nat.zero_add, lA1.2.1, lA1.2.2, ll, c0, c1, c2]
  refine KLoop.intro (fun k fr hh => ∃ i : Nat, k = G.es.length - i ∧ i ≤ G.es.length ∧ fr = mkF [(1, .pointer (some ⟨B, 0, none⟩)), (20, ev), (21, .int .i64 G.es.length), (22, .int .i64 i)] ∧ Le h1 hh ∧ ∀ j, j < i → EdgeOK G j)
    G.es.length [(1, .pointer (some ⟨B, 0, none⟩)), (20, ev), (21, .int .i64 G.es.length), (22, .int .i64 (0 : Nat))] (by simp only [hasAll, kS1, bLookup, bMapSet, wantA, isCall, stepOp, evalO, evalL, evalP, evalM, putDst, flat, kA, kB, Nat.reduceLT, ↓reduceIte, kC, Nat.reduceEqDiff, aBuiltin, abinG, guardFree, abin, aInt, aUn, aNilCheck, retQ, retQ1, aresults, aresultL, aresult, mkF, undefV, reduceCtorEq, kD, kE, kF, kG, kH, kI, kJ, kK, aExtract, calleeOf]; simp) ⟨0, rfl, Nat.zero_le _, rfl, Le.refl _, by omega⟩ ?_
  rintro k fr hh hwh ⟨i, rfl, hi, rfl, leh, hall⟩
  simp only [kS1, bLookup, bMapSet, wantA, isCall, stepOp, evalO, evalL, evalP, evalM, putDst, flat, kA, kB, Nat.reduceLT, ↓reduceIte, kC, Nat.reduceEqDiff, aBuiltin, abinG, guardFree, abin, aInt, aUn, aNilCheck, retQ, retQ1, aresults, aresultL, aresult, mkF, undefV, reduceCtorEq, kD, kE, kF, kG, kH, kI, kJ, kK, aExtract, calleeOf]
  refine KCond.intro (fun ht => ?_) (fun hf => ?_)
  rotate_left
  · have hge : G.es.length ≤ i := lt_f hf
    simp only [kS1, bLookup, bMapSet, wantA, isCall, stepOp, evalO, evalL, evalP, evalM, putDst, flat, kA, kB, Nat.reduceLT, ↓reduceIte, kC, Nat.reduceEqDiff, aBuiltin, abinG, guardFree, abin, aInt, aUn, aNilCheck, retQ, retQ1, aresults, aresultL, aresult, mkF, undefV, reduceCtorEq, kD, kE, kF, kG, kH, kI, kJ, kK, aExtract, calleeOf]
    exact ⟨.t ⟨by omega, by omega, by omega, fun j hj => hall j (by omega)⟩, le1.trans leh⟩
  have hlt : i < G.es.length := lt_t ht
  clear ht
  have hpi := getElem?_of hlt
  generalize G.es[i] = p at hpi
  have hph := hp.le (le1.trans leh)
  have ad := hp.addr (k := .i64) i hlt
  have ld := hph.load hpi
  obtain ⟨h2, h3, e2, e3, le3, wf3, o3⟩ := new42 hwh p
  have L0 := own0 o3
  have L1 := own1 o3
  have LP := own42 o3
  have lA3 := lA h3 (leh.trans le3)
  have bad : ¬ EdgeOK G i → ¬ RightG G := fun hn q => hn (q.ok i hlt)
  have lef := (le1.trans leh).trans le3
  generalize hh.next = E at *
  by_cases d0 : p.1 < 0
  · simp only [kS1, bLookup, bMapSet, wantA, isCall, stepOp, evalO, evalL, evalP, evalM, putDst, flat, kA, kB, Nat.reduceLT, ↓reduceIte, kC, Nat.reduceEqDiff, aBuiltin, abinG, guardFree, abin, aInt, aUn, aNilCheck, retQ, retQ1, aresults, aresultL, aresult, mkF, undefV, reduceCtorEq, kD, kE, kF, kG, kH, kI, kJ, kK, aExtract, calleeOf, ad, ld, e2, e3, pa0, pa1, aadd, Nat.zero_add, L0, L1, d0]
    exact ⟨.f (bad fun q => by have := (q p hpi).1.1; omega), lef⟩
  by_cases d1 : p.1 ≥ p.2
  · simp only [kS1, bLookup, bMapSet, wantA, isCall, stepOp, evalO, evalL, evalP, evalM, putDst, flat, kA, kB, Nat.reduceLT, ↓reduceIte, kC, Nat.reduceEqDiff, aBuiltin, abinG, guardFree, abin, aInt, aUn, aNilCheck, retQ, retQ1, aresults, aresultL, aresult, mkF, undefV, reduceCtorEq, kD, kE, kF, kG, kH, kI, kJ, kK, aExtract, calleeOf, ad, ld, e2, e3, pa0, pa1, aadd, Nat.zero_add, L0, L1, d0, d1]
    exact ⟨.f (bad fun q => by have := (q p hpi).1.2.1; omega), lef⟩
  by_cases d2 : p.2 ≥ G.n
  · simp only [kS1, bLookup, bMapSet, wantA, isCall, stepOp, evalO, evalL, evalP, evalM, putDst, flat, kA, kB, Nat.reduceLT, ↓reduceIte, kC, Nat.reduceEqDiff, aBuiltin, abinG, guardFree, abin, aInt, aUn, aNilCheck, retQ, retQ1, aresults, aresultL, aresult, mkF, undefV, reduceCtorEq, kD, kE, kF, kG, kH, kI, kJ, kK, aExtract, calleeOf, ad, ld, e2, e3, pa0, pa1, fg0, aadd, Nat.zero_add, L0, L1, lA3.2.1, d0, d1, d2]
    exact ⟨.f (bad fun q => by have := (q p hpi).1.2.2; omega), lef⟩
  simp only [kS1, bLookup, bMapSet, wantA, isCall, stepOp, evalO, evalL, evalP, evalM, putDst, flat, kA, kB, Nat.reduceLT, ↓reduceIte, kC, Nat.reduceEqDiff, aBuiltin, abinG, guardFree, abin, aInt, aUn, aNilCheck, retQ, retQ1, aresults, aresultL, aresult, mkF, undefV, reduceCtorEq, kD, kE, kF, kG, kH, kI, kJ, kK, aExtract, calleeOf, ad, ld, e2, e3, pa0, pa1, fg0, aadd, Nat.zero_add, L0, L1, lA3.2.1, d0, d1, d2]
  by_cases i0 : i = 0
  · subst i0
    have z : ((0 : Int) < ((0 : Nat) : Int)) = False := eq_false (by omega)
    refine KDraw.intro mixed (.fl 0 (.fl 1 (.fl 2 (.fl 3 (.fl 4 (.fl 5 (.fl 6 (.fl 7 (.fl 8 (.fl 9 (.ch 10 [2, 8, 9] (.fl 11 (.fl 12 (.done))) .no))))))))))) (by kernel_rfl) ?_
    simp only [kS1, bLookup, bMapSet, wantA, isCall, stepOp, evalO, evalL, evalP, evalM, putDst, flat, kA, kB, Nat.reduceLT, ↓reduceIte, kC, Nat.reduceEqDiff, aBuiltin, abinG, guardFree, abin, aInt, aUn, aNilCheck, retQ, retQ1, aresults, aresultL, aresult, mkF, undefV, reduceCtorEq, kD, kE, kF, kG, kH, kI, kJ, kK, aExtract, calleeOf, kD1, Nat.reduceBEq, HoldsAll, kL, kM, kN, kO, gt_iff_lt, z, awrap_succ 0 (by omega)]
    refine loop_again (G.es.length - (0 + 1)) [(1, .pointer (some ⟨B, 0, none⟩)), (20, ev), (21, .int .i64 G.es.length), (22, .int .i64 (0 + 1 : Nat))] (by omega) (by simp only [hasAll, kS1, bLookup, bMapSet, wantA, isCall, stepOp, evalO, evalL, evalP, evalM, putDst, flat, kA, kB, Nat.reduceLT, ↓reduceIte, kC, Nat.reduceEqDiff, aBuiltin, abinG, guardFree, abin, aInt, aUn, aNilCheck, retQ, retQ1, aresults, aresultL, aresult, mkF, undefV, reduceCtorEq, kD, kE, kF, kG, kH, kI, kJ, kK, aExtract, calleeOf]; simp) ⟨0 + 1, rfl, hlt, rfl, leh.trans le3, fun j hj => ?_⟩
    have : j = 0 := by omega
    subst this
    intro p' hp'
    rw [hpi] at hp'; injection hp' with hp'; subst hp'
    exact ⟨⟨by omega, by omega, by omega⟩, fun q hq => absurd hq (by omega)⟩
  · have z : ((0 : Int) < (i : Int)) = True := eq_true (by omega)
    have hqi := getElem?_of (show i - 1 < G.es.length by omega)
    generalize G.es[i - 1]'(by omega) = q at hqi
    have wsub : awrap .i64 ((i : Int) - 1) = ((i - 1 : Nat) : Int) := by rw [awrap_in _ (by omega) (by omega)]; omega
    have adq := hp.addr (k := .i64) (i - 1) (by omega)
    have ldq := (hph.le le3).load hqi
    refine KDraw.intro mixed (.fl 0 (.fl 1 (.fl 2 (.fl 3 (.fl 4 (.fl 5 (.fl 6 (.fl 7 (.fl 8 (.fl 9 (.ch 10 [2, 8, 9] (.fl 11 (.fl 12 (.done))) .no))))))))))) (by kernel_rfl) ?_
    simp only [kS1, bLookup, bMapSet, wantA, isCall, stepOp, evalO, evalL, evalP, evalM, putDst, flat, kA, kB, Nat.reduceLT, ↓reduceIte, kC, Nat.reduceEqDiff, aBuiltin, abinG, guardFree, abin, aInt, aUn, aNilCheck, retQ, retQ1, aresults, aresultL, aresult, mkF, undefV, reduceCtorEq, kD, kE, kF, kG, kH, kI, kJ, kK, aExtract, calleeOf, kD1, Nat.reduceBEq, HoldsAll, kL, kM, kN, kO, gt_iff_lt, z, wsub, fg1, aadd, Nat.zero_add, lA3.2.2, adq, ldq, LP]
    refine KGCall.intro (by simp only [kS1, bLookup, bMapSet, wantA, isCall, stepOp, evalO, evalL, evalP, evalM, putDst, flat, kA, kB, Nat.reduceLT, ↓reduceIte, kC, Nat.reduceEqDiff, aBuiltin, abinG, guardFree, abin, aInt, aUn, aNilCheck, retQ, retQ1, aresults, aresultL, aresult, mkF, undefV, reduceCtorEq, kD, kE, kF, kG, kH, kI, kJ, kK, aExtract, calleeOf] <;> rfl) ⟨Try.func71, rfl, by decide⟩ (compare_any W0 q p h3) ?_
    rintro x h4 wf4 ⟨rfl, le4⟩
    have lA4 := lA h4 ((leh.trans le3).trans le4)
    have ldq4 := ldq
    have LP4 := own42 (le4.own _ _ o3)
    have ldq4 := ((hph.le le3).le le4).load hqi
    by_cases d3 : cmpP q p ≥ 0
    · simp only [kS1, bLookup, bMapSet, wantA, isCall, stepOp, evalO, evalL, evalP, evalM, putDst, flat, kA, kB, Nat.reduceLT, ↓reduceIte, kC, Nat.reduceEqDiff, aBuiltin, abinG, guardFree, abin, aInt, aUn, aNilCheck, retQ, retQ1, aresults, aresultL, aresult, mkF, undefV, reduceCtorEq, kD, kE, kF, kG, kH, kI, kJ, kK, aExtract, calleeOf, kD1, Nat.reduceBEq, HoldsAll, kL, kM, kN, kO, z, wsub, fg1, aadd, Nat.zero_add, lA4.2.2, adq, ldq4, LP4, d3]
      exact ⟨.f (bad fun k => by have := (k p hpi).2 q (by omega) hqi; omega), lef.trans le4⟩
    · simp only [kS1, bLookup, bMapSet, wantA, isCall, stepOp, evalO, evalL, evalP, evalM, putDst, flat, kA, kB, Nat.reduceLT, ↓reduceIte, kC, Nat.reduceEqDiff, aBuiltin, abinG, guardFree, abin, aInt, aUn, aNilCheck, retQ, retQ1, aresults, aresultL, aresult, mkF, undefV, reduceCtorEq, kD, kE, kF, kG, kH, kI, kJ, kK, aExtract, calleeOf, kD1, Nat.reduceBEq, HoldsAll, kL, kM, kN, kO, z, wsub, fg1, aadd, Nat.zero_add, lA4.2.2, adq, ldq4, LP4, d3, awrap_succ i (by omega)]
      refine loop_again (G.es.length - (i + 1)) [(1, .pointer (some ⟨B, 0, none⟩)), (20, ev), (21, .int .i64 G.es.length), (22, .int .i64 (i + 1 : Nat))] (by omega) (by simp only [hasAll, kS1, bLookup, bMapSet, wantA, isCall, stepOp, evalO, evalL, evalP, evalM, putDst, flat, kA, kB, Nat.reduceLT, ↓reduceIte, kC, Nat.reduceEqDiff, aBuiltin, abinG, guardFree, abin, aInt, aUn, aNilCheck, retQ, retQ1, aresults, aresultL, aresult, mkF, undefV, reduceCtorEq, kD, kE, kF, kG, kH, kI, kJ, kK, aExtract, calleeOf]; simp) ⟨i + 1, rfl, hlt, rfl, (leh.trans le3).trans le4, fun j hj => ?_⟩
      by_cases e : j = i
      · subst e
        intro p' hp'
        rw [hpi] at hp'; injection hp' with hp'; subst hp'
        refine ⟨⟨by omega, by omega, by omega⟩, fun q' _ hq' => ?_⟩
        rw [hqi] at hq'; injection hq' with hq'; subst hq'; omega
      · exact hall j (by omega)
end Go.Fw
namespace Go.Fw
open Go.Proofs
attribute [local irreducible] KO4 KO3 KO2 KO1 KO KN KX KE VK KCond KDraw KCall KLoop
set_option maxHeartbeats 4000000
set_option maxRecDepth 10000
theorem RefRight_any (W0 : Base) (v : Value) (G : GM) (h : AHeap) (hg : GR h v G) : AC Try.prog W0 56 [v] h fun x h' => BoolIs (RightG G) x ∧ Le h h' := by
  obtain ⟨ev, rfl, hp⟩ := hg.ex
  refine AC.vc (fn := Try.f56) (c := _) ⟨Try.func56, rfl, by decide⟩ Try.ntmps56 Try.results56 (by simp) fun hwf => ?_
  simp only [argFrame, argFrom, Nat.reduceAdd]
  obtain ⟨h1, b1, le1, wf1, -, lA⟩ := boxG (n := G.n) hwf hp
  generalize h.next = B at *
  have ll := fun g => hp.len g
  have lA1 := lA h1 (Le.refl _)
  have hp1 := hp.le le1
  by_cases c0 : G.n < 0
  · simp only [kS1, bLookup, bMapSet, wantA, isCall, stepOp, evalO, evalL, evalP, evalM, putDst, flat, kA, kB, Nat.reduceLT, ↓reduceIte, kC, Nat.reduceEqDiff, aBuiltin, abinG, guardFree, abin, aInt, aUn, aNilCheck, retQ, retQ1, aresults, aresultL, aresult, mkF, undefV, reduceCtorEq, kD, kE, kF, kG, kH, kI, kJ, kK, aExtract, calleeOf, b1, fg0, aadd, Nat.zero_add, lA1.2.1, c0]
    exact ⟨.f fun q => by have := q.n0; omega, le1⟩
  by_cases c1 : G.n > 200
  · simp only [kS1, bLookup, bMapSet, wantA, isCall, stepOp, evalO, evalL, evalP, evalM, putDst, flat, kA, kB, Nat.reduceLT, ↓reduceIte, kC, Nat.reduceEqDiff, aBuiltin, abinG, guardFree, abin, aInt, aUn, aNilCheck, retQ, retQ1, aresults, aresultL, aresult, mkF, undefV, reduceCtorEq, kD, kE, kF, kG, kH, kI, kJ, kK, aExtract, calleeOf, b1, fg0, aadd, Nat.zero_add, lA1.2.1, c0, c1]
    exact ⟨.f fun q => by have := q.n1; omega, le1⟩
  by_cases c2 : (G.es.length : Int) > 594
  · simp only [kS1, bLookup, bMapSet, wantA, isCall, stepOp, evalO, evalL, evalP, evalM, putDst, flat, kA, kB, Nat.reduceLT, ↓reduceIte, kC, Nat.reduceEqDiff, aBuiltin, abinG, guardFree, abin, aInt, aUn, aNilCheck, retQ, retQ1, aresults, aresultL, aresult, mkF, undefV, reduceCtorEq, kD, kE, kF, kG, kH, kI, kJ, kK, aExtract, calleeOf, b1, fg0, fg1, aadd, Nat.zero_add, lA1.2.1, lA1.2.2, ll, c0, c1, c2]
    exact ⟨.f fun q => by have := q.len; omega, le1⟩
  simp only [kS1, bLookup, bMapSet, wantA, isCall, stepOp, evalO, evalL, evalP, evalM, putDst, flat, kA, kB, Nat.reduceLT, ↓reduceIte, kC, Nat.reduceEqDiff, aBuiltin, abinG, guardFree, abin, aInt, aUn, aNilCheck, retQ, retQ1, aresults, aresultL, aresult, mkF, undefV, reduceCtorEq, kD, kE, kF, kG, kH, kI, kJ, kK, aExtract, calleeOf, b1, fg0, fg1, aadd, Nat.zero_add, lA1.2.1, lA1.2.2, ll, c0, c1, c2]
  refine KLoop.intro (fun k fr hh => ∃ (i : Nat) (last : Int), k = G.es.length - i ∧ i ≤ G.es.length ∧ hh = h1 ∧ fr = mkF [(1, .pointer (some ⟨B, 0, none⟩)), (3, .int .i64 last), (4, .int .i64 i)] ∧
      (∀ j, j < i → EdgeOK G j) ∧ ((i = 0 ∧ last = -1) ∨ ∃ q, 0 < i ∧ G.es[i - 1]? = some q ∧ last = q.1 * 200 + q.2))
    G.es.length [(1, .pointer (some ⟨B, 0, none⟩)), (3, .int .i64 (-1)), (4, .int .i64 (0 : Nat))] (by simp only [hasAll, kS1, bLookup, bMapSet, wantA, isCall, stepOp, evalO, evalL, evalP, evalM, putDst, flat, kA, kB, Nat.reduceLT, ↓reduceIte, kC, Nat.reduceEqDiff, aBuiltin, abinG, guardFree, abin, aInt, aUn, aNilCheck, retQ, retQ1, aresults, aresultL, aresult, mkF, undefV, reduceCtorEq, kD, kE, kF, kG, kH, kI, kJ, kK, aExtract, calleeOf]; simp) ⟨0, -1, rfl, Nat.zero_le _, rfl, rfl, by omega, .inl ⟨rfl, rfl⟩⟩ ?_
  rintro k fr hh - ⟨i, last, rfl, hi, rfl, rfl, hall, hlast⟩
  simp only [kS1, bLookup, bMapSet, wantA, isCall, stepOp, evalO, evalL, evalP, evalM, putDst, flat, kA, kB, Nat.reduceLT, ↓reduceIte, kC, Nat.reduceEqDiff, aBuiltin, abinG, guardFree, abin, aInt, aUn, aNilCheck, retQ, retQ1, aresults, aresultL, aresult, mkF, undefV, reduceCtorEq, kD, kE, kF, kG, kH, kI, kJ, kK, aExtract, calleeOf, fg1, aadd, Nat.zero_add, lA1.2.2, ll]
  refine KCond.intro (fun ht => ?_) (fun hf => ?_)
  rotate_left
  · have hge : G.es.length ≤ i := lt_f hf
    simp only [kS1, bLookup, bMapSet, wantA, isCall, stepOp, evalO, evalL, evalP, evalM, putDst, flat, kA, kB, Nat.reduceLT, ↓reduceIte, kC, Nat.reduceEqDiff, aBuiltin, abinG, guardFree, abin, aInt, aUn, aNilCheck, retQ, retQ1, aresults, aresultL, aresult, mkF, undefV, reduceCtorEq, kD, kE, kF, kG, kH, kI, kJ, kK, aExtract, calleeOf]
    exact ⟨.t ⟨by omega, by omega, by omega, fun j hj => hall j (by omega)⟩, le1⟩
  have hlt : i < G.es.length := lt_t ht
  clear ht
  have hpi := getElem?_of hlt
  generalize G.es[i] = p at hpi
  have ad := hp.addr (k := .i64) i hlt
  have l0 := hp1.l0 hpi
  have l1 := hp1.l1 hpi
  simp only [aadd] at l0 l1
  have bad : ¬ EdgeOK G i → ¬ RightG G := fun hn q => hn (q.ok i hlt)
  simp only [kS1, bLookup, bMapSet, wantA, isCall, stepOp, evalO, evalL, evalP, evalM, putDst, flat, kA, kB, Nat.reduceLT, ↓reduceIte, kC, Nat.reduceEqDiff, aBuiltin, abinG, guardFree, abin, aInt, aUn, aNilCheck, retQ, retQ1, aresults, aresultL, aresult, mkF, undefV, reduceCtorEq, kD, kE, kF, kG, kH, kI, kJ, kK, aExtract, calleeOf]
  refine KDraw.intro mixed (.fl 0 (.fl 1 (.fl 2 (.fl 3 (.fl 4 (.fl 5 (.fl 6 (.fl 7 (.fl 8 (.fl 9 (.fl 10 (.fl 11 (.fl 12 (.fl 13 (.done))))))))))))))) (by kernel_rfl) ?_
  by_cases d0 : p.1 < 0
  · simp only [kS1, bLookup, bMapSet, wantA, isCall, stepOp, evalO, evalL, evalP, evalM, putDst, flat, kA, kB, Nat.reduceLT, ↓reduceIte, kC, Nat.reduceEqDiff, aBuiltin, abinG, guardFree, abin, aInt, aUn, aNilCheck, retQ, retQ1, aresults, aresultL, aresult, mkF, undefV, reduceCtorEq, kD, kE, kF, kG, kH, kI, kJ, kK, aExtract, calleeOf, kD1, Nat.reduceBEq, HoldsAll, kL, kM, kN, kO, fg1, pa0, pa1, aadd, Nat.zero_add, lA1.2.2, ad, l0, l1, d0]
    exact ⟨.f (bad fun q => by have := (q p hpi).1.1; omega), le1⟩
  by_cases d1 : p.2 < 0
  · simp only [kS1, bLookup, bMapSet, wantA, isCall, stepOp, evalO, evalL, evalP, evalM, putDst, flat, kA, kB, Nat.reduceLT, ↓reduceIte, kC, Nat.reduceEqDiff, aBuiltin, abinG, guardFree, abin, aInt, aUn, aNilCheck, retQ, retQ1, aresults, aresultL, aresult, mkF, undefV, reduceCtorEq, kD, kE, kF, kG, kH, kI, kJ, kK, aExtract, calleeOf, kD1, Nat.reduceBEq, HoldsAll, kL, kM, kN, kO, fg1, pa0, pa1, aadd, Nat.zero_add, lA1.2.2, ad, l0, l1, d0, d1]
    exact ⟨.f (bad fun q => by have := (q p hpi).1; omega), le1⟩
  by_cases d2 : p.1 ≥ G.n
  · simp only [kS1, bLookup, bMapSet, wantA, isCall, stepOp, evalO, evalL, evalP, evalM, putDst, flat, kA, kB, Nat.reduceLT, ↓reduceIte, kC, Nat.reduceEqDiff, aBuiltin, abinG, guardFree, abin, aInt, aUn, aNilCheck, retQ, retQ1, aresults, aresultL, aresult, mkF, undefV, reduceCtorEq, kD, kE, kF, kG, kH, kI, kJ, kK, aExtract, calleeOf, kD1, Nat.reduceBEq, HoldsAll, kL, kM, kN, kO, fg0, fg1, pa0, pa1, aadd, Nat.zero_add, lA1.2.1, lA1.2.2, ad, l0, l1, d0, d1, d2]
    exact ⟨.f (bad fun q => by have := (q p hpi).1; omega), le1⟩
  by_cases d3 : p.2 ≥ G.n
  · simp only [kS1, bLookup, bMapSet, wantA, isCall, stepOp, evalO, evalL, evalP, evalM, putDst, flat, kA, kB, Nat.reduceLT, ↓reduceIte, kC, Nat.reduceEqDiff, aBuiltin, abinG, guardFree, abin, aInt, aUn, aNilCheck, retQ, retQ1, aresults, aresultL, aresult, mkF, undefV, reduceCtorEq, kD, kE, kF, kG, kH, kI, kJ, kK, aExtract, calleeOf, kD1, Nat.reduceBEq, HoldsAll, kL, kM, kN, kO, fg0, fg1, pa0, pa1, aadd, Nat.zero_add, lA1.2.1, lA1.2.2, ad, l0, l1, d0, d1, d2, d3]
    exact ⟨.f (bad fun q => by have := (q p hpi).1; omega), le1⟩
  by_cases d4 : p.1 ≥ p.2
  · simp only [kS1, bLookup, bMapSet, wantA, isCall, stepOp, evalO, evalL, evalP, evalM, putDst, flat, kA, kB, Nat.reduceLT, ↓reduceIte, kC, Nat.reduceEqDiff, aBuiltin, abinG, guardFree, abin, aInt, aUn, aNilCheck, retQ, retQ1, aresults, aresultL, aresult, mkF, undefV, reduceCtorEq, kD, kE, kF, kG, kH, kI, kJ, kK, aExtract, calleeOf, kD1, Nat.reduceBEq, HoldsAll, kL, kM, kN, kO, fg0, fg1, pa0, pa1, aadd, Nat.zero_add, lA1.2.1, lA1.2.2, ad, l0, l1, d0, d1, d2, d3, d4]
    exact ⟨.f (bad fun q => by have := (q p hpi).1; omega), le1⟩
  have w1 : awrap .i64 (p.1 * 200) = p.1 * 200 := awrap_in _ (by omega) (by omega)
  have w2 : awrap .i64 (p.1 * 200 + p.2) = p.1 * 200 + p.2 := awrap_in _ (by omega) (by omega)
  by_cases d5 : p.1 * 200 + p.2 ≤ last
  · simp only [kS1, bLookup, bMapSet, wantA, isCall, stepOp, evalO, evalL, evalP, evalM, putDst, flat, kA, kB, Nat.reduceLT, ↓reduceIte, kC, Nat.reduceEqDiff, aBuiltin, abinG, guardFree, abin, aInt, aUn, aNilCheck, retQ, retQ1, aresults, aresultL, aresult, mkF, undefV, reduceCtorEq, kD, kE, kF, kG, kH, kI, kJ, kK, aExtract, calleeOf, kD1, Nat.reduceBEq, HoldsAll, kL, kM, kN, kO, fg0, fg1, pa0, pa1, aadd, Nat.zero_add, lA1.2.1, lA1.2.2, ad, l0, l1, d0, d1, d2, d3, d4, w1, w2, d5]
    refine ⟨.f (bad fun k => ?_), le1⟩
    rcases hlast with ⟨rfl, rfl⟩ | ⟨q, hi0, hq, rfl⟩
    · omega
    · have := (cmpP_lt q p).1 ((k p hpi).2 q hi0 hq)
      have hq2 := (hall (i - 1) (by omega) q hq).1
      omega
  · simp only [kS1, bLookup, bMapSet, wantA, isCall, stepOp, evalO, evalL, evalP, evalM, putDst, flat, kA, kB, Nat.reduceLT, ↓reduceIte, kC, Nat.reduceEqDiff, aBuiltin, abinG, guardFree, abin, aInt, aUn, aNilCheck, retQ, retQ1, aresults, aresultL, aresult, mkF, undefV, reduceCtorEq, kD, kE, kF, kG, kH, kI, kJ, kK, aExtract, calleeOf, kD1, Nat.reduceBEq, HoldsAll, kL, kM, kN, kO, fg0, fg1, pa0, pa1, aadd, Nat.zero_add, lA1.2.1, lA1.2.2, ad, l0, l1, d0, d1, d2, d3, d4, w1, w2, d5, awrap_succ i (by omega)]
    refine loop_again (G.es.length - (i + 1)) [(1, .pointer (some ⟨B, 0, none⟩)), (3, .int .i64 (p.1 * 200 + p.2)), (4, .int .i64 (i + 1 : Nat))] (by omega) (by simp only [hasAll, kS1, bLookup, bMapSet, wantA, isCall, stepOp, evalO, evalL, evalP, evalM, putDst, flat, kA, kB, Nat.reduceLT, ↓reduceIte, kC, Nat.reduceEqDiff, aBuiltin, abinG, guardFree, abin, aInt, aUn, aNilCheck, retQ, retQ1, aresults, aresultL, aresult, mkF, undefV, reduceCtorEq, kD, kE, kF, kG, kH, kI, kJ, kK, aExtract, calleeOf]; simp) ⟨i + 1, _, rfl, hlt, rfl, rfl, fun j hj => ?_, .inr ⟨p, by omega, by simpa using hpi, rfl⟩⟩
    by_cases e : j = i
    · subst e
      intro p' hp'
      rw [hpi] at hp'; injection hp' with hp'; subst hp'
      refine ⟨⟨by omega, by omega, by omega⟩, fun q hj0 hq => ?_⟩
      rcases hlast with ⟨rfl, rfl⟩ | ⟨q', _, hq', rfl⟩
      · omega
      · rw [hq'] at hq; injection hq with hq; subst hq
        have hq2 := (hall (j - 1) (by omega) q' hq').1
        rw [cmpP_lt]; omega
    · exact hall j (by omega)
end Go.Fw
namespace Go.Fw
open Go.Proofs
attribute [local irreducible] KO4 KO3 KO2 KO1 KO KN KX KE VK KCond KDraw KCall KLoop
set_option maxHeartbeats 4000000
set_option maxRecDepth 10000
def Asc (es : List Pr) : Prop := ∀ (i j : Nat) p q, i < j → es[i]? = some p → es[j]? = some q → cmpP p q < 0
theorem RightG.asc {G : GM} (r : RightG G) : Asc G.es := by
  have step : ∀ (d i : Nat) p q, G.es[i]? = some p → G.es[i + (d + 1)]? = some q → cmpP p q < 0 := by
    intro d
    induction d with
    | zero =>
      intro i p q hp hq
      have hl := (List.getElem?_eq_some_iff.1 hq).1
      exact (r.ok (i + 1) hl q hq).2 p (by omega) (by simpa using hp)
    | succ d ih =>
      intro i p q hp hq
      have hl := (List.getElem?_eq_some_iff.1 hq).1
      have hm := getElem?_of (show i + (d + 1) < G.es.length by omega)
      have h1 := ih i p _ hp hm
      have h2 := (r.ok (i + (d + 1 + 1)) hl q hq).2 _ (by omega) (by rw [show i + (d + 1 + 1) - 1 = i + (d + 1) by omega]; exact hm)
      rw [cmpP_lt] at *
      omega
  intro i j p q hij hp hq
  have := step (j - i - 1) i p q hp (by rw [show i + (j - i - 1 + 1) = j by omega]; exact hq)
  exact this
theorem Asc.uniq {es : List Pr} (a : Asc es) {i j : Nat} {p : Pr} (hi : es[i]? = some p) (hj : es[j]? = some p) : i = j := by
  rcases Nat.lt_trichotomy i j with h | h | h
  · have := a i j p p h hi hj
    have h0 := (cmpP_eq p p).2 rfl
    omega
  · exact h
  · have := a j i p p h hj hi
    have h0 := (cmpP_eq p p).2 rfl
    omega
theorem aw_u64 (n : Nat) (h : n < 18446744073709551616) : awrap .u64 (n : Int) = (n : Int) := by
  unfold awrap; simp; omega
theorem shr_u64 (n : Nat) (h : n < 18446744073709551616) : aShift .shr .u64 (n : Int) 1 = some (.int .u64 ((n / 2 : Nat) : Int)) := by
  have e : ((n : Int)).fdiv (2 ^ min 1 IntKind.u64.bits) = ((n / 2 : Nat) : Int) := by
    rw [show min 1 IntKind.u64.bits = 1 from rfl, Int.fdiv_eq_ediv_of_nonneg _ (by decide)]; simp
  simp [aShift, e]
theorem cv3u (h : AHeap) (x : Int) : aConvert Try.prog h 3 124 (.int .i64 x) = some (.int .u64 (awrap .u64 x), h) := by
  simp [aConvert, Try.underlying124, Try.underlying3]
theorem cvu3 (h : AHeap) (x : Int) : aConvert Try.prog h 124 3 (.int .u64 x) = some (.int .i64 (awrap .i64 x), h) := by
  simp [aConvert, Try.underlying124, Try.underlying3]
theorem Search_any (W0 : Base) (F : FuncId) (fn : Func) (c : Code) (hF : Good Try.prog F fn c) (hcmp : ∀ (p q : Pr) (h : AHeap), AC Try.prog W0 F [valP p, valP q] h fun v h' => v = .int .i64 (cmpP p q) ∧ Le h h')
    (v : Value) (es : List Pr) (p : Pr) (h : AHeap) (hv : PR h v es) (hn : es.length ≤ 1000) (ha : Asc es) :
    AC Try.prog W0 72 [v, valP p, .func (.func F) #[] #[]] h fun x h' => (∃ (i : Nat) (b : Bool), x = .tuple #[.int .i64 i, .bool b] ∧ (b = true → es[i]? = some p) ∧ (b = false → p ∉ es)) ∧ Le h h' := by
  refine AC.vc (fn := Try.f72) (c := _) ⟨Try.func72, rfl, by decide⟩ Try.ntmps72 Try.results72 (by simp) fun hwf => ?_
  simp only [argFrame, argFrom, Nat.reduceAdd]
  obtain ⟨h1, e1, l1, w1, o1⟩ := alloc_f hwf (cellsP p)
  have ll := fun g => hv.len g
  simp only [kS1, bLookup, bMapSet, wantA, isCall, stepOp, evalO, evalL, evalP, evalM, putDst, flat, kA, kB, Nat.reduceLT, ↓reduceIte, kC, Nat.reduceEqDiff, aBuiltin, abinG, guardFree, abin, aInt, aUn, aNilCheck, retQ, retQ1, aresults, aresultL, aresult, mkF, undefV, reduceCtorEq, kD, kE, kF, kG, kH, kI, kJ, kK, aExtract, calleeOf, box42, e1, ll]
  generalize h.next = B at *
  refine KLoop.intro (fun k fr hh => ∃ lo hi : Nat, k = hi - lo ∧ lo ≤ hi ∧ hi ≤ es.length ∧ fr = mkF [(0, v), (2, .func (.func F) #[] #[]), (4, .pointer (some ⟨B, 0, none⟩)), (8, .int .i64 es.length), (9, .int .i64 lo), (10, .int .i64 hi)] ∧ Le h1 hh ∧
      (∀ (k : Nat) q, k < lo → es[k]? = some q → cmpP q p < 0) ∧ ∀ (k : Nat) q, hi ≤ k → es[k]? = some q → ¬ cmpP q p < 0)
    es.length [(0, v), (2, .func (.func F) #[] #[]), (4, .pointer (some ⟨B, 0, none⟩)), (8, .int .i64 es.length), (9, .int .i64 (0 : Nat)), (10, .int .i64 es.length)] (by simp only [hasAll, kS1, bLookup, bMapSet, wantA, isCall, stepOp, evalO, evalL, evalP, evalM, putDst, flat, kA, kB, Nat.reduceLT, ↓reduceIte, kC, Nat.reduceEqDiff, aBuiltin, abinG, guardFree, abin, aInt, aUn, aNilCheck, retQ, retQ1, aresults, aresultL, aresult, mkF, undefV, reduceCtorEq, kD, kE, kF, kG, kH, kI, kJ, kK, aExtract, calleeOf]; simp)
    ⟨0, es.length, rfl, Nat.zero_le _, Nat.le_refl _, rfl, Le.refl _, by omega, fun k q hk hq => by have := (List.getElem?_eq_some_iff.1 hq).1; omega⟩ ?_
  rintro k fr hh hwh ⟨lo, hi, rfl, hlh, hhi, rfl, leh, hlo, hup⟩
  have LP := own42 (leh.own _ _ o1)
  have hvh := hv.le (l1.trans leh)
  simp only [kS1, bLookup, bMapSet, wantA, isCall, stepOp, evalO, evalL, evalP, evalM, putDst, flat, kA, kB, Nat.reduceLT, ↓reduceIte, kC, Nat.reduceEqDiff, aBuiltin, abinG, guardFree, abin, aInt, aUn, aNilCheck, retQ, retQ1, aresults, aresultL, aresult, mkF, undefV, reduceCtorEq, kD, kE, kF, kG, kH, kI, kJ, kK, aExtract, calleeOf]
  refine KCond.intro (fun ht => ?_) (fun hf => ?_)
  · have hlt : lo < hi := lt_t ht
    clear ht
    have a1 : awrap .i64 ((lo : Int) + (hi : Int)) = ((lo + hi : Nat) : Int) := by rw [awrap_in _ (by omega) (by omega)]; omega
    have a2 := aw_u64 (lo + hi) (by omega)
    have a3 := shr_u64 (lo + hi) (by omega)
    have a4 : awrap .i64 (((lo + hi) / 2 : Nat) : Int) = (((lo + hi) / 2 : Nat) : Int) := awrap_in _ (by omega) (by omega)
    have hm : (lo + hi) / 2 < hi := by omega
    have hml : lo ≤ (lo + hi) / 2 := by omega
    simp only [kS1, bLookup, bMapSet, wantA, isCall, stepOp, evalO, evalL, evalP, evalM, putDst, flat, kA, kB, Nat.reduceLT, ↓reduceIte, kC, Nat.reduceEqDiff, aBuiltin, abinG, guardFree, abin, aInt, aUn, aNilCheck, retQ, retQ1, aresults, aresultL, aresult, mkF, undefV, reduceCtorEq, kD, kE, kF, kG, kH, kI, kJ, kK, aExtract, calleeOf, a1, cv3u, a2, a3, cvu3, a4]
    generalize (lo + hi) / 2 = m at *
    have hq := getElem?_of (show m < es.length by omega)
    generalize es[m]'(by omega) = q at hq
    have ad := hv.addr (k := .i64) m (by omega)
    have ld := hvh.load hq
    refine KDraw.intro mixed (.fl 0 (.fl 1 (.fl 2 (.fl 3 (.fl 4 (.fl 5 (.ch 6 [0, 4, 5] (.fl 7 (.done)) .no))))))) (by kernel_rfl) ?_
    simp only [kS1, bLookup, bMapSet, wantA, isCall, stepOp, evalO, evalL, evalP, evalM, putDst, flat, kA, kB, Nat.reduceLT, ↓reduceIte, kC, Nat.reduceEqDiff, aBuiltin, abinG, guardFree, abin, aInt, aUn, aNilCheck, retQ, retQ1, aresults, aresultL, aresult, mkF, undefV, reduceCtorEq, kD, kE, kF, kG, kH, kI, kJ, kK, aExtract, calleeOf, kD1, Nat.reduceBEq, HoldsAll, kL, kM, kN, kO, ad, ld, LP]
    refine KGCall.intro (by simp only [kS1, bLookup, bMapSet, wantA, isCall, stepOp, evalO, evalL, evalP, evalM, putDst, flat, kA, kB, Nat.reduceLT, ↓reduceIte, kC, Nat.reduceEqDiff, aBuiltin, abinG, guardFree, abin, aInt, aUn, aNilCheck, retQ, retQ1, aresults, aresultL, aresult, mkF, undefV, reduceCtorEq, kD, kE, kF, kG, kH, kI, kJ, kK, aExtract, calleeOf] <;> rfl) hF (hcmp q p hh) ?_
    rintro x h3 w3 ⟨rfl, l3⟩
    have LP3 := own42 ((leh.trans l3).own _ _ o1)
    have ld3 := (hvh.le l3).load hq
    by_cases c0 : cmpP q p < 0
    · simp only [kS1, bLookup, bMapSet, wantA, isCall, stepOp, evalO, evalL, evalP, evalM, putDst, flat, kA, kB, Nat.reduceLT, ↓reduceIte, kC, Nat.reduceEqDiff, aBuiltin, abinG, guardFree, abin, aInt, aUn, aNilCheck, retQ, retQ1, aresults, aresultL, aresult, mkF, undefV, reduceCtorEq, kD, kE, kF, kG, kH, kI, kJ, kK, aExtract, calleeOf, kD1, Nat.reduceBEq, HoldsAll, kL, kM, kN, kO, ad, ld3, LP3, c0, awrap_succ m (by omega)]
      refine loop_again (hi - (m + 1)) [(0, v), (2, .func (.func F) #[] #[]), (4, .pointer (some ⟨B, 0, none⟩)), (8, .int .i64 es.length), (9, .int .i64 (m + 1 : Nat)), (10, .int .i64 hi)] (by omega) (by simp only [hasAll, kS1, bLookup, bMapSet, wantA, isCall, stepOp, evalO, evalL, evalP, evalM, putDst, flat, kA, kB, Nat.reduceLT, ↓reduceIte, kC, Nat.reduceEqDiff, aBuiltin, abinG, guardFree, abin, aInt, aUn, aNilCheck, retQ, retQ1, aresults, aresultL, aresult, mkF, undefV, reduceCtorEq, kD, kE, kF, kG, kH, kI, kJ, kK, aExtract, calleeOf]; simp) ⟨m + 1, hi, rfl, hm, hhi, rfl, leh.trans l3, fun k q' hk hq' => ?_, hup⟩
      by_cases e : k = m
      · subst e; rw [hq] at hq'; injection hq' with hq'; subst hq'; exact c0
      · have := ha k m q' q (by omega) hq' hq
        rw [cmpP_lt] at *; omega
    · simp only [kS1, bLookup, bMapSet, wantA, isCall, stepOp, evalO, evalL, evalP, evalM, putDst, flat, kA, kB, Nat.reduceLT, ↓reduceIte, kC, Nat.reduceEqDiff, aBuiltin, abinG, guardFree, abin, aInt, aUn, aNilCheck, retQ, retQ1, aresults, aresultL, aresult, mkF, undefV, reduceCtorEq, kD, kE, kF, kG, kH, kI, kJ, kK, aExtract, calleeOf, kD1, Nat.reduceBEq, HoldsAll, kL, kM, kN, kO, ad, ld3, LP3, c0]
      refine loop_again (m - lo) [(0, v), (2, .func (.func F) #[] #[]), (4, .pointer (some ⟨B, 0, none⟩)), (8, .int .i64 es.length), (9, .int .i64 lo), (10, .int .i64 m)] (by omega) (by simp only [hasAll, kS1, bLookup, bMapSet, wantA, isCall, stepOp, evalO, evalL, evalP, evalM, putDst, flat, kA, kB, Nat.reduceLT, ↓reduceIte, kC, Nat.reduceEqDiff, aBuiltin, abinG, guardFree, abin, aInt, aUn, aNilCheck, retQ, retQ1, aresults, aresultL, aresult, mkF, undefV, reduceCtorEq, kD, kE, kF, kG, kH, kI, kJ, kK, aExtract, calleeOf]; simp) ⟨lo, m, rfl, hml, by omega, rfl, leh.trans l3, hlo, fun k q' hk hq' => ?_⟩
      by_cases e : k = m
      · subst e; rw [hq] at hq'; injection hq' with hq'; subst hq'; exact c0
      · have := ha m k q q' (by omega) hq hq'
        rw [cmpP_lt] at *; omega
  have hge : hi ≤ lo := lt_f hf
  obtain rfl : lo = hi := by omega
  clear hf
  by_cases c1 : lo < es.length
  · have z : ((lo : Int) < (es.length : Int)) = True := eq_true (by omega)
    have hq := getElem?_of c1
    generalize es[lo] = q at hq
    have ad := hv.addr (k := .i64) lo c1
    have ld := hvh.load hq
    simp only [kS1, bLookup, bMapSet, wantA, isCall, stepOp, evalO, evalL, evalP, evalM, putDst, flat, kA, kB, Nat.reduceLT, ↓reduceIte, kC, Nat.reduceEqDiff, aBuiltin, abinG, guardFree, abin, aInt, aUn, aNilCheck, retQ, retQ1, aresults, aresultL, aresult, mkF, undefV, reduceCtorEq, kD, kE, kF, kG, kH, kI, kJ, kK, aExtract, calleeOf]
    refine KDraw.intro mixed (.fl 0 (.fl 1 (.fl 2 (.fl 3 (.fl 4 (.fl 5 (.fl 6 (.fl 7 (.fl 8 (.fl 9 (.fl 10 (.ch 11 [4, 5, 9, 10] (.fl 12 (.fl 13 (.fl 14 (.fl 15 (.done))))) .no)))))))))))) (by kernel_rfl) ?_
    simp only [kS1, bLookup, bMapSet, wantA, isCall, stepOp, evalO, evalL, evalP, evalM, putDst, flat, kA, kB, Nat.reduceLT, ↓reduceIte, kC, Nat.reduceEqDiff, aBuiltin, abinG, guardFree, abin, aInt, aUn, aNilCheck, retQ, retQ1, aresults, aresultL, aresult, mkF, undefV, reduceCtorEq, kD, kE, kF, kG, kH, kI, kJ, kK, aExtract, calleeOf, kD1, Nat.reduceBEq, HoldsAll, kL, kM, kN, kO, z, ad, ld, LP]
    refine KGCall.intro (by simp only [kS1, bLookup, bMapSet, wantA, isCall, stepOp, evalO, evalL, evalP, evalM, putDst, flat, kA, kB, Nat.reduceLT, ↓reduceIte, kC, Nat.reduceEqDiff, aBuiltin, abinG, guardFree, abin, aInt, aUn, aNilCheck, retQ, retQ1, aresults, aresultL, aresult, mkF, undefV, reduceCtorEq, kD, kE, kF, kG, kH, kI, kJ, kK, aExtract, calleeOf] <;> rfl) hF (hcmp q p hh) ?_
    rintro x h3 w3 ⟨rfl, l3⟩
    have LP3 := own42 ((leh.trans l3).own _ _ o1)
    have ld3 := (hvh.le l3).load hq
    simp only [kS1, bLookup, bMapSet, wantA, isCall, stepOp, evalO, evalL, evalP, evalM, putDst, flat, kA, kB, Nat.reduceLT, ↓reduceIte, kC, Nat.reduceEqDiff, aBuiltin, abinG, guardFree, abin, aInt, aUn, aNilCheck, retQ, retQ1, aresults, aresultL, aresult, mkF, undefV, reduceCtorEq, kD, kE, kF, kG, kH, kI, kJ, kK, aExtract, calleeOf, kD1, Nat.reduceBEq, HoldsAll, kL, kM, kN, kO, z, ad, ld3, LP3]
    refine ⟨⟨lo, decide (cmpP q p = 0), rfl, fun e => ?_, fun e => ?_⟩, (l1.trans leh).trans l3⟩
    · have := (cmpP_eq q p).1 (of_decide_eq_true e); subst this; exact hq
    · have hne := of_decide_eq_false e
      intro hm
      obtain ⟨k, hk⟩ := List.mem_iff_getElem?.1 hm
      have h0 := (cmpP_eq p p).2 rfl
      rcases Nat.lt_trichotomy k lo with h | h | h
      · have := hlo k p h hk; omega
      · subst h; rw [hq] at hk; injection hk with hk; subst hk; omega
      · have := ha lo k q p h hq hk
        exact hup lo q (Nat.le_refl _) hq this
  · have z : ((lo : Int) < (es.length : Int)) = False := eq_false (by omega)
    simp only [kS1, bLookup, bMapSet, wantA, isCall, stepOp, evalO, evalL, evalP, evalM, putDst, flat, kA, kB, Nat.reduceLT, ↓reduceIte, kC, Nat.reduceEqDiff, aBuiltin, abinG, guardFree, abin, aInt, aUn, aNilCheck, retQ, retQ1, aresults, aresultL, aresult, mkF, undefV, reduceCtorEq, kD, kE, kF, kG, kH, kI, kJ, kK, aExtract, calleeOf]
    refine KDraw.intro mixed (.fl 0 (.fl 1 (.fl 2 (.fl 3 (.fl 4 (.fl 5 (.fl 6 (.fl 7 (.fl 8 (.fl 9 (.fl 10 (.ch 11 [4, 5, 9, 10] (.fl 12 (.fl 13 (.fl 14 (.fl 15 (.done))))) .no)))))))))))) (by kernel_rfl) ?_
    simp only [kS1, bLookup, bMapSet, wantA, isCall, stepOp, evalO, evalL, evalP, evalM, putDst, flat, kA, kB, Nat.reduceLT, ↓reduceIte, kC, Nat.reduceEqDiff, aBuiltin, abinG, guardFree, abin, aInt, aUn, aNilCheck, retQ, retQ1, aresults, aresultL, aresult, mkF, undefV, reduceCtorEq, kD, kE, kF, kG, kH, kI, kJ, kK, aExtract, calleeOf, kD1, Nat.reduceBEq, HoldsAll, kL, kM, kN, kO, z]
    refine ⟨⟨lo, false, rfl, (by simp), fun _ hm => ?_⟩, l1.trans leh⟩
    obtain ⟨k, hk⟩ := List.mem_iff_getElem?.1 hm
    have h0 := (cmpP_eq p p).2 rfl
    have hkl := (List.getElem?_eq_some_iff.1 hk).1
    have := hlo k p (by omega) hk
    omega
end Go.Fw
