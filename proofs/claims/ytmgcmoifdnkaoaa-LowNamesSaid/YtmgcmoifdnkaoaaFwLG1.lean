/- One of the texts of the layer and the walks: it proves what its theorems say of the functions of the seat, with no condition beyond theirs. -/
import Derived.Test.YtmgcmoifdnkaoaaFwLB12
import Derived.Test.YtmgcmoifdnkaoaaFwLB9
import Derived.Test.YtmgcmoifdnkaoaaFwLW8
set_option linter.unusedSimpArgs false
set_option linter.unusedVariables false
namespace Go.Fw
open Go.Proofs
set_option maxHeartbeats 4000000
set_option maxRecDepth 10000
theorem build24 {n : Int} {v : Value} {k : Nat} (hv : isSl v k) : aBuild Try.prog 24 [(0, .int .i64 n), (1, v)] = some (.agg #[.int .i64 n, v]) := by
  obtain ⟨_, _, rfl, _⟩ := hv
  kernel_rfl
theorem alloc24 (h : AHeap) : aAlloc Try.prog h 24 = some (.pointer (some ⟨h.next, 0, none⟩), h.alloc (.cells [.int .i64 0, .slice none 0 0])) := rfl
theorem newG {h : AHeap} (hw : WF h) {n : Int} {ev : Value} {es : List Pr} (r : PR h ev es) : ∃ h1 h2, aAlloc Try.prog h 24 = some (.pointer (some ⟨h.next, 0, none⟩), h1) ∧ aStore Try.prog h1 24 (.pointer (some ⟨h.next, 0, none⟩)) (.agg #[.int .i64 n, ev]) = some h2 ∧ Le h h2 ∧ WF h2 ∧
    ∀ g, Le h2 g → aload Try.prog g 24 ⟨h.next, 0, none⟩ = some (.agg #[.int .i64 n, ev]) ∧ aload Try.prog g 3 ⟨h.next, 0, none⟩ = some (.int .i64 n) ∧ aload Try.prog g 22 ⟨h.next, 1, none⟩ = some ev := by
  obtain ⟨h1, e1, l1, w1, o1⟩ := alloc_f hw [.int .i64 0, .slice none 0 0]
  have nw : h.own h.next = none := (Le.refl h).next hw (Nat.le_refl _)
  have one := r.sl.one
  have ts24 : tsize Try.prog 24 = 2 := by kernel_rfl
  have hc : (Value.agg #[.int .i64 n, ev]).cells = #[.int .i64 n, ev] := rfl
  have h0 : (Value.int IntKind.i64 n).oneCell' = true := rfl
  have ho : (h1.put h.next (.cells [.int .i64 n, ev])).own h.next = some (.cells [.int .i64 n, ev]) := AHeap.own_put_eq _ _ _
  refine ⟨h1, h1.put h.next (.cells [.int .i64 n, ev]), by rw [alloc24, e1], ?_, l1.put _ nw, w1.put _ (w1.lt o1), fun g e => ⟨?_, aload_one Try.underlying3 rfl (e.own _ _ ho), aload_one Try.underlying22 rfl (e.own _ _ ho)⟩⟩
  · simp [aStore, o1, hc, ts24, putCells, Try.underlying24, one, h0]
  · rw [aload_own Try.underlying24 rfl ts24 (e.own _ _ ho) (by simp)]; rfl
theorem mkP8 (h : AHeap) (p0 p1 p2 p3 p4 p5 p6 p7 : Pr) : aBuildSlice Try.prog h 22 8 [(0, valP p0), (1, valP p1), (2, valP p2), (3, valP p3), (4, valP p4), (5, valP p5), (6, valP p6), (7, valP p7)] = some (.slice (some ⟨h.next, 0, none⟩) 8 8, h.alloc (.cells (flatP [p0, p1, p2, p3, p4, p5, p6, p7]))) := by kernel_rfl
theorem mkP4 (h : AHeap) (p0 p1 p2 p3 : Pr) : aBuildSlice Try.prog h 22 4 [(0, valP p0), (1, valP p1), (2, valP p2), (3, valP p3)] = some (.slice (some ⟨h.next, 0, none⟩) 4 4, h.alloc (.cells (flatP [p0, p1, p2, p3]))) := by kernel_rfl
theorem mkP2 (h : AHeap) (p0 p1 : Pr) : aBuildSlice Try.prog h 22 2 [(0, valP p0), (1, valP p1)] = some (.slice (some ⟨h.next, 0, none⟩) 2 2, h.alloc (.cells (flatP [p0, p1]))) := by kernel_rfl
theorem mkP1' (h : AHeap) (p0 : Pr) : aBuildSlice Try.prog h 22 1 [(0, valP p0)] = some (.slice (some ⟨h.next, 0, none⟩) 1 1, h.alloc (.cells (flatP [p0]))) := by kernel_rfl
theorem mkP3 (h : AHeap) (p0 p1 p2 : Pr) : aBuildSlice Try.prog h 22 3 [(0, valP p0), (1, valP p1), (2, valP p2)] = some (.slice (some ⟨h.next, 0, none⟩) 3 3, h.alloc (.cells (flatP [p0, p1, p2]))) := by kernel_rfl
theorem mkI3 (h : AHeap) (a b c : Int) : aBuildSlice Try.prog h 35 3 [(0, .int .i64 a), (1, .int .i64 b), (2, .int .i64 c)] = some (.slice (some ⟨h.next, 0, none⟩) 3 3, h.alloc (.cells [.int .i64 a, .int .i64 b, .int .i64 c])) := by kernel_rfl
theorem PR.made {h : AHeap} {id : Nat} {ps : List Pr} (ho : h.own id = some (.cells (flatP ps))) {k : Nat} (hk : ps.length = k) : PR h (.slice (some ⟨id, 0, none⟩) k k) ps := by
  have := CS.own (k := 2) (off := 0) (n := k) (cap := k) ho (by rw [flatP_length, hk]; omega)
  rw [List.drop_zero, List.take_of_length_le (by rw [flatP_length, hk]; exact Nat.le_refl _)] at this
  rw [PR, hk]; exact this
structure GX (h : AHeap) (X : Nat) (n : Int) (ev : Value) (ps : List Pr) : Prop where
  ox : h.own X = some (.cells [.int .i64 n, ev])
  gp : GP h ev ps
  ne : blk ev ≠ some X
theorem build24e (n : Int) : aBuild Try.prog 24 [(0, .int .i64 n)] = some (.agg #[.int .i64 n, .slice none 0 0]) := by kernel_rfl
theorem GX.new {h : AHeap} (hw : WF h) (n : Int) : ∃ h1 h2, aAlloc Try.prog h 24 = some (.pointer (some ⟨h.next, 0, none⟩), h1) ∧ aStore Try.prog h1 24 (.pointer (some ⟨h.next, 0, none⟩)) (.agg #[.int .i64 n, .slice none 0 0]) = some h2 ∧ Le h h2 ∧ WF h2 ∧ h.own h.next = none ∧ GX h2 h.next n (.slice none 0 0) [] := by
  obtain ⟨h1, e1, l1, w1, o1⟩ := alloc_f hw [.int .i64 0, .slice none 0 0]
  have nw : h.own h.next = none := (Le.refl h).next hw (Nat.le_refl _)
  have ts24 : tsize Try.prog 24 = 2 := by kernel_rfl
  have hc : (Value.agg #[.int .i64 n, .slice none 0 0]).cells = #[.int .i64 n, .slice none 0 0] := rfl
  have h0 : (Value.int IntKind.i64 n).oneCell' = true := rfl
  have h1' : (Value.slice none 0 0).oneCell' = true := rfl
  have ho : (h1.put h.next (.cells [.int .i64 n, .slice none 0 0])).own h.next = some (.cells [.int .i64 n, .slice none 0 0]) := AHeap.own_put_eq _ _ _
  refine ⟨h1, h1.put h.next (.cells [.int .i64 n, .slice none 0 0]), by rw [alloc24, e1], ?_, l1.put _ nw, w1.put _ (w1.lt o1), nw, ⟨ho, GP.nil _, by simp [blk]⟩⟩
  simp [aStore, o1, hc, ts24, putCells, Try.underlying24, h0, h1']
theorem GX.le {h h' : AHeap} {X : Nat} {n : Int} {ev : Value} {ps : List Pr} (g : GX h X n ev ps) (e : Le h h') : GX h' X n ev ps := ⟨e.own _ _ g.ox, g.gp.le e, g.ne⟩
theorem GX.ld {h : AHeap} {X : Nat} {n : Int} {ev : Value} {ps : List Pr} (g : GX h X n ev ps) : aload Try.prog h 24 ⟨X, 0, none⟩ = some (.agg #[.int .i64 n, ev]) ∧ aload Try.prog h 3 ⟨X, 0, none⟩ = some (.int .i64 n) ∧ aload Try.prog h 22 ⟨X, 1, none⟩ = some ev := by
  refine ⟨?_, aload_one Try.underlying3 rfl g.ox, aload_one Try.underlying22 rfl g.ox⟩
  rw [aload_own Try.underlying24 rfl (by kernel_rfl : tsize Try.prog 24 = 2) g.ox (by simp)]; rfl
theorem GX.gr {h : AHeap} {X : Nat} {n : Int} {ev : Value} {ps : List Pr} (g : GX h X n ev ps) : GR h (.agg #[.int .i64 n, ev]) ⟨n, ps⟩ := ⟨ev, rfl, g.gp.pr⟩
theorem GX.push {h : AHeap} {X : Nat} {n : Int} {ev : Value} {ps : List Pr} (g : GX h X n ev ps) (hw : WF h) (p : Pr) (hn : ps.length + 1 ≤ 100000) :
    ∃ v' h4 h5 h6, aBuildSlice Try.prog h 22 1 [(0, valP p)] = some (.slice (some ⟨h.next, 0, none⟩) 1 1, h4) ∧ aAppend Try.prog h4 22 22 ev (.slice (some ⟨h.next, 0, none⟩) 1 1) = some (v', h5) ∧ aStore Try.prog h5 22 (.pointer (some ⟨X, 1, none⟩)) v' = some h6 ∧
      GX h6 X n v' (ps ++ [p]) ∧ WF h6 ∧ Le h h4 ∧ (∀ f, Le f h → f.own X = none → Apart f ev → Le f h6 ∧ Apart f v') := by
  obtain ⟨v', h4, h5, e4, e5, g5, w5, l4, hf, hk⟩ := g.gp.push hw p hn
  obtain ⟨ox5, nx5⟩ := hk X _ g.ox g.ne
  have one := g5.pr.sl.one
  have hc : v'.cells = #[v'] := by obtain ⟨_, _, rfl, _⟩ := g5.pr.sl; rfl
  have st := aStore1 (P := Try.prog) (t := 22) (x := v') Try.underlying22 (by kernel_rfl) ox5 (off := 1) (by simp) hc one
  refine ⟨v', h4, h5, _, e4, e5, st, ⟨AHeap.own_put_eq _ _ _, GS.put g5 _ nx5, nx5⟩, w5.put _ (w5.lt ox5), l4, fun f lf nf af => ?_⟩
  obtain ⟨l5, a5⟩ := hf f lf af
  exact ⟨l5.put _ nf, a5⟩
theorem GX.put {h : AHeap} {X : Nat} {n : Int} {ev : Value} {ps : List Pr} (g : GX h X n ev ps) {id : Nat} (o : AObj) (h1 : X ≠ id) (h2 : blk ev ≠ some id) : GX (h.put id o) X n ev ps :=
  ⟨by rw [AHeap.own_put_ne _ _ _ _ h1]; exact g.ox, GS.put g.gp _ h2, g.ne⟩
theorem GX.push' {h : AHeap} {X : Nat} {n : Int} {ev : Value} {ps : List Pr} (g : GX h X n ev ps) (hw : WF h) (p : Pr) (hn : ps.length + 1 ≤ 100000) :
    ∃ v' h4 h5 h6, aBuildSlice Try.prog h 22 1 [(0, valP p)] = some (.slice (some ⟨h.next, 0, none⟩) 1 1, h4) ∧ aAppend Try.prog h4 22 22 ev (.slice (some ⟨h.next, 0, none⟩) 1 1) = some (v', h5) ∧ aStore Try.prog h5 22 (.pointer (some ⟨X, 1, none⟩)) v' = some h6 ∧
      GX h6 X n v' (ps ++ [p]) ∧ WF h6 ∧ Le h h4 ∧ (∀ f, Le f h → f.own X = none → Apart f ev → Le f h6 ∧ Apart f v') ∧ (∀ b o, h.own b = some o → b ≠ X → blk ev ≠ some b → h6.own b = some o ∧ blk v' ≠ some b) := by
  obtain ⟨v', h4, h5, e4, e5, g5, w5, l4, hf, hk⟩ := g.gp.push hw p hn
  obtain ⟨ox5, nx5⟩ := hk X _ g.ox g.ne
  have one := g5.pr.sl.one
  have hc : v'.cells = #[v'] := by obtain ⟨_, _, rfl, _⟩ := g5.pr.sl; rfl
  have st := aStore1 (P := Try.prog) (t := 22) (x := v') Try.underlying22 (by kernel_rfl) ox5 (off := 1) (by simp) hc one
  refine ⟨v', h4, h5, _, e4, e5, st, ⟨AHeap.own_put_eq _ _ _, GS.put g5 _ nx5, nx5⟩, w5.put _ (w5.lt ox5), l4, fun f lf nf af => ?_, fun b o hb hx he => ?_⟩
  · obtain ⟨l5, a5⟩ := hf f lf af
    exact ⟨l5.put _ nf, a5⟩
  · obtain ⟨q1, q2⟩ := hk b o hb he
    exact ⟨by rw [AHeap.own_put_ne _ _ _ _ hx]; exact q1, q2⟩
theorem GX.new' {h : AHeap} (hw : WF h) (n : Int) : ∃ h1 h2, aAlloc Try.prog h 24 = some (.pointer (some ⟨h.next, 0, none⟩), h1) ∧ aStore Try.prog h1 3 (.pointer (some ⟨h.next, 0, none⟩)) (.int .i64 n) = some h2 ∧ Le h h1 ∧ Le h h2 ∧ WF h2 ∧ h.own h.next = none ∧ GX h2 h.next n (.slice none 0 0) [] := by
  obtain ⟨h1, e1, l1, w1, o1⟩ := alloc_f hw [.int .i64 0, .slice none 0 0]
  have nw : h.own h.next = none := (Le.refl h).next hw (Nat.le_refl _)
  have st := aStore1 (P := Try.prog) (t := 3) (x := .int .i64 n) Try.underlying3 (by kernel_rfl) o1 (off := 0) (by simp) rfl rfl
  exact ⟨h1, _, by rw [alloc24, e1], st, l1, l1.put _ nw, w1.put _ (w1.lt o1), nw, ⟨AHeap.own_put_eq _ _ _, GP.nil _, by simp [blk]⟩⟩
end Go.Fw
namespace Go.Fw
open Go.Proofs
attribute [local irreducible] KO4 KO3 KO2 KO1 KO KN KX KE VK KCond KDraw KCall KLoop
set_option maxHeartbeats 8000000
set_option maxRecDepth 10000
theorem build42 (x y : Int) : aBuild Try.prog 45 [(0, .int .i64 x), (1, .int .i64 y)] = some (valP (x, y)) := by kernel_rfl
theorem Has_any (W0 : Base) (v : Value) (G : GM) (a b : Int) (h : AHeap) (hg : GR h v G) : AC Try.prog W0 32 [v, .int .i64 a, .int .i64 b] h fun x h' => BoolIs (RightG G ∧ (min a b, max a b) ∈ G.es) x ∧ Le h h' := by
  have hg0 := hg
  obtain ⟨gn, es⟩ := G
  obtain ⟨ev, rfl, hp⟩ := hg.open
  refine AC.vc (fn := Try.f32) (c := _) ⟨Try.func32, rfl, by decide⟩ Try.ntmps32 Try.results32 (by simp) fun hwf => ?_
  simp only [argFrame, argFrom, Nat.reduceAdd]
  obtain ⟨h1, b1, le1, wf1, -, lA⟩ := boxG (n := gn) hwf hp
  generalize h.next = B at *
  have lA1 := lA h1 (Le.refl _)
  simp only [kS1, bLookup, bMapSet, wantA, isCall, stepOp, evalO, evalL, evalP, evalM, putDst, flat, kA, kB, Nat.reduceLT, ↓reduceIte, kC, Nat.reduceEqDiff, aBuiltin, abinG, guardFree, abin, aInt, aUn, aNilCheck, retQ, retQ1, aresults, aresultL, aresult, mkF, undefV, reduceCtorEq, kD, kE, kF, kG, kH, kI, kJ, kK, aExtract, calleeOf, b1, lA1.1]
  refine KCall.intro (by simp only [kS1, bLookup, bMapSet, wantA, isCall, stepOp, evalO, evalL, evalP, evalM, putDst, flat, kA, kB, Nat.reduceLT, ↓reduceIte, kC, Nat.reduceEqDiff, aBuiltin, abinG, guardFree, abin, aInt, aUn, aNilCheck, retQ, retQ1, aresults, aresultL, aresult, mkF, undefV, reduceCtorEq, kD, kE, kF, kG, kH, kI, kJ, kK, aExtract, calleeOf] <;> rfl) ⟨Try.func48, rfl, by decide⟩ (Right_any W0 _ _ h1 (hg0.le le1)) ?_
  rintro x h2 wf2 ⟨⟨bb, rfl, hbb⟩, le2⟩
  have lA2 := lA h2 le2
  cases bb with
  | false =>
    simp only [kS1, bLookup, bMapSet, wantA, isCall, stepOp, evalO, evalL, evalP, evalM, putDst, flat, kA, kB, Nat.reduceLT, ↓reduceIte, kC, Nat.reduceEqDiff, aBuiltin, abinG, guardFree, abin, aInt, aUn, aNilCheck, retQ, retQ1, aresults, aresultL, aresult, mkF, undefV, reduceCtorEq, kD, kE, kF, kG, kH, kI, kJ, kK, aExtract, calleeOf]
    exact ⟨BoolIs.f (fun h => by cases hbb.2 h.1), le1.trans le2⟩
  | true =>
    have hr := hbb.1 rfl
    have h594 : es.length ≤ 594 := hr.len
    have mn : aMin (.int .i64 a) [.int .i64 b] = some (.int .i64 (min a b)) := by
      simp only [aMin, if_true]; congr 2; rw [Int.min_def]; split <;> split <;> omega
    have mx : aMax (.int .i64 a) [.int .i64 b] = some (.int .i64 (max a b)) := by
      simp only [aMax, if_true]; congr 2; rw [Int.max_def]; split <;> split <;> omega
    simp only [kS1, bLookup, bMapSet, wantA, isCall, stepOp, evalO, evalL, evalP, evalM, putDst, flat, kA, kB, Nat.reduceLT, ↓reduceIte, kC, Nat.reduceEqDiff, aBuiltin, abinG, guardFree, abin, aInt, aUn, aNilCheck, retQ, retQ1, aresults, aresultL, aresult, mkF, undefV, reduceCtorEq, kD, kE, kF, kG, kH, kI, kJ, kK, aExtract, calleeOf, fg1, aadd, Nat.zero_add, lA2.2.2, mn, mx, build42]
    refine KCall.intro (by simp only [kS1, bLookup, bMapSet, wantA, isCall, stepOp, evalO, evalL, evalP, evalM, putDst, flat, kA, kB, Nat.reduceLT, ↓reduceIte, kC, Nat.reduceEqDiff, aBuiltin, abinG, guardFree, abin, aInt, aUn, aNilCheck, retQ, retQ1, aresults, aresultL, aresult, mkF, undefV, reduceCtorEq, kD, kE, kF, kG, kH, kI, kJ, kK, aExtract, calleeOf] <;> rfl) ⟨Try.func72, rfl, by decide⟩ (Search_any W0 71 Try.f71 _ ⟨Try.func71, rfl, by decide⟩ (fun p q h => compare_any W0 p q h) ev es (min a b, max a b) h2 (hp.le (le1.trans le2)) (by omega) hr.asc) ?_
    rintro x h3 wf3 ⟨⟨at', c, rfl, hbt, hbf⟩, le3⟩
    simp only [kS1, bLookup, bMapSet, wantA, isCall, stepOp, evalO, evalL, evalP, evalM, putDst, flat, kA, kB, Nat.reduceLT, ↓reduceIte, kC, Nat.reduceEqDiff, aBuiltin, abinG, guardFree, abin, aInt, aUn, aNilCheck, retQ, retQ1, aresults, aresultL, aresult, mkF, undefV, reduceCtorEq, kD, kE, kF, kG, kH, kI, kJ, kK, aExtract, calleeOf]
    refine ⟨⟨c, rfl, ?_⟩, (le1.trans le2).trans le3⟩
    cases c with
    | true => exact ⟨fun _ => ⟨hr, List.mem_of_getElem? (hbt rfl)⟩, fun _ => rfl⟩
    | false => exact ⟨(fun h => by cases h), fun h => absurd h.2 (hbf rfl)⟩
end Go.Fw
namespace Go.Fw
open Go.Proofs
set_option maxRecDepth 10000
section
variable {α : Type} [DecidableEq α]
def setK : List (α × Int) → α → Int → List (α × Int)
  | [], k, v => [(k, v)]
  | (a, b) :: r, k, v => if a = k then (k, v) :: r else (a, b) :: setK r k v
def lookK : List (α × Int) → α → Option Int
  | [], _ => none
  | (a, b) :: r, k => if a = k then some b else lookK r k
theorem lookK_set (l : List (α × Int)) (k k' : α) (v : Int) : lookK (setK l k v) k' = if k = k' then some v else lookK l k' := by
  induction l with
  | nil => simp [setK, lookK]
  | cons x r ih =>
    obtain ⟨a, b⟩ := x
    simp only [setK]
    by_cases h : a = k
    · subst h; rw [if_pos rfl]; simp only [lookK]; split <;> simp_all
    · rw [if_neg h]; simp only [lookK, ih]
      by_cases h2 : a = k'
      · subst h2; simp [Ne.symm h]
      · simp [h2]
theorem lookK_mem {l : List (α × Int)} {k : α} : lookK l k ≠ none ↔ k ∈ l.map (·.1) := by
  induction l with
  | nil => simp [lookK]
  | cons x r ih =>
    obtain ⟨a, b⟩ := x
    simp only [lookK, List.map_cons, List.mem_cons]
    by_cases h : a = k
    · simp [h]
    · rw [if_neg h, ih]; simp [Ne.symm h]
theorem setK_keys (l : List (α × Int)) (k k' : α) (v : Int) : k' ∈ (setK l k v).map (·.1) ↔ k' = k ∨ k' ∈ l.map (·.1) := by
  rw [← lookK_mem, lookK_set, ← lookK_mem]
  by_cases h : k = k'
  · simp [h]
  · simp [h, Ne.symm h]
theorem setK_nodup {l : List (α × Int)} (h : (l.map (·.1)).Nodup) (k : α) (v : Int) : ((setK l k v).map (·.1)).Nodup := by
  induction l with
  | nil => simp [setK]
  | cons x r ih =>
    obtain ⟨a, b⟩ := x
    rw [List.map_cons, List.nodup_cons] at h
    simp only [setK]
    split
    · rename_i e; subst e; rw [List.map_cons, List.nodup_cons]; exact h
    · rename_i e
      rw [List.map_cons, List.nodup_cons]
      exact ⟨fun hm => by
        rcases (setK_keys r k a v).1 hm with h1 | h1
        · exact e h1
        · exact h.1 h1, ih h.2⟩
theorem setK_at (l : List (α × Int)) (k : α) (v : Int) : (lookK l k = none ∧ setK l k v = l ++ [(k, v)]) ∨ ∃ (j : Nat) (b : Int), lookK l k = some b ∧ l[j]? = some (k, b) ∧ (∀ i, i < j → ∀ x, l[i]? = some x → x.1 ≠ k) ∧ setK l k v = l.set j (k, v) := by
  induction l with
  | nil => exact .inl ⟨rfl, rfl⟩
  | cons x r ih =>
    obtain ⟨a, b⟩ := x
    simp only [setK, lookK]
    by_cases h : a = k
    · subst h
      rw [if_pos rfl, if_pos rfl]
      exact .inr ⟨0, b, rfl, rfl, by omega, rfl⟩
    · rw [if_neg h, if_neg h]
      rcases ih with ⟨h1, h2⟩ | ⟨j, c, h1, h2, h3, h4⟩
      · exact .inl ⟨h1, by rw [h2]; rfl⟩
      · refine .inr ⟨j + 1, c, h1, by simpa using h2, fun i hi x hx => ?_, by rw [h4]; rfl⟩
        cases i with
        | zero => simp at hx; subst hx; exact h
        | succ i => exact h3 i (by omega) x (by simpa using hx)
end
def mapI (l : List (Int × Int)) : List (Value × Value) := l.map fun x => (.int .i64 x.1, .int .i64 x.2)
theorem mfind_mapI (k : Int) : ∀ (l : List (Int × Int)) (i : Nat), (lookK l k = none → mfind .i64 k (mapI l) i = some none) ∧ ∀ (j : Nat) b, l[j]? = some (k, b) → (∀ q, q < j → ∀ x, l[q]? = some x → x.1 ≠ k) → mfind .i64 k (mapI l) i = some (some (i + j, .int .i64 b))
  | [], i => ⟨fun _ => rfl, fun j b h => by simp at h⟩
  | (a, b) :: r, i => by
    obtain ⟨h1, h2⟩ := mfind_mapI k r (i + 1)
    constructor
    · intro h
      simp only [lookK] at h
      by_cases e : a = k
      · rw [if_pos e] at h; cases h
      · rw [if_neg e] at h
        show (if IntKind.i64 = IntKind.i64 then (if k = a then _ else mfind .i64 k (mapI r) (i + 1)) else none) = _
        rw [if_pos rfl, if_neg (Ne.symm e)]; exact h1 h
    · intro j c hj hlt
      cases j with
      | zero =>
        simp at hj
        obtain ⟨rfl, rfl⟩ := hj
        show (if IntKind.i64 = IntKind.i64 then (if a = a then _ else mfind .i64 a (mapI r) (i + 1)) else none) = _
        rw [if_pos rfl, if_pos rfl]; rfl
      | succ j =>
        have e : a ≠ k := hlt 0 (by omega) (a, b) rfl
        show (if IntKind.i64 = IntKind.i64 then (if k = a then _ else mfind .i64 k (mapI r) (i + 1)) else none) = _
        rw [if_pos rfl, if_neg (Ne.symm e), h2 j c (by simpa using hj) fun q hq x hx => hlt (q + 1) (by omega) x (by simpa using hx)]
        congr 3; omega
theorem mapI_look {h : AHeap} {M : Nat} {l : List (Int × Int)} (ho : h.own M = some (.map (mapI l))) (k : Int) (ok : Bool) :
    aLookup Try.prog h 49 (.map (some M)) (.int .i64 k) ok = some (bif ok then .tuple #[.int .i64 ((lookK l k).getD 0), .bool (lookK l k).isSome] else .int .i64 ((lookK l k).getD 0)) := by
  have hz : azero Try.prog 3 = some (.int .i64 0) := by kernel_rfl
  simp only [aLookup, Try.underlying49, Try.underlying3, ho, hz, show flat (.int .i64 0) = true from rfl, if_true]
  rcases setK_at l k 0 with ⟨h1, _⟩ | ⟨j, b, h1, h2, h3, _⟩
  · rw [(mfind_mapI k l 0).1 h1, h1]; rfl
  · rw [(mfind_mapI k l 0).2 j b h2 h3, h1]; rfl
theorem mapI_set {h : AHeap} {M : Nat} {l : List (Int × Int)} (ho : h.own M = some (.map (mapI l))) (k v : Int) : aMapSet Try.prog h 49 (.map (some M)) (.int .i64 k) (.int .i64 v) = some (h.put M (.map (mapI (setK l k v)))) := by
  simp only [aMapSet, Try.underlying49, Try.underlying3, ho]
  rcases setK_at l k v with ⟨h1, h4⟩ | ⟨j, b, h1, h2, h3, h4⟩
  · rw [(mfind_mapI k l 0).1 h1, h4]; simp [mapI]
  · rw [(mfind_mapI k l 0).2 j b h2 h3, h4]; simp [mapI, List.map_set]
theorem mapI_len {h : AHeap} {M : Nat} {l : List (Int × Int)} (ho : h.own M = some (.map (mapI l))) : aLen Try.prog h 49 (.map (some M)) = some (.int .i64 l.length) := by
  simp [aLen, Try.underlying49, ho, mapI]
def mapP (l : List (Pr × Int)) : List (Value × Value) := l.map fun x => (valP x.1, .int .i64 x.2)
theorem afind_mapP (k : Pr) : ∀ (l : List (Pr × Int)) (i : Nat), (lookK l k = none → afind Try.prog 45 (valP k) (mapP l) i = some none) ∧ ∀ (j : Nat) b, l[j]? = some (k, b) → (∀ q, q < j → ∀ x, l[q]? = some x → x.1 ≠ k) → afind Try.prog 45 (valP k) (mapP l) i = some (some (i + j, .int .i64 b))
  | [], i => ⟨fun _ => rfl, fun j b h => by simp at h⟩
  | (a, b) :: r, i => by
    obtain ⟨h1, h2⟩ := afind_mapP k r (i + 1)
    have un : afind Try.prog 45 (valP k) (mapP ((a, b) :: r)) i = match aEq Try.prog 45 (valP k) (valP a) with | some true => some (some (i, .int .i64 b)) | some false => afind Try.prog 45 (valP k) (mapP r) (i + 1) | none => none := rfl
    rw [un, eqP]
    constructor
    · intro h
      simp only [lookK] at h
      by_cases e : a = k
      · rw [if_pos e] at h; cases h
      · rw [if_neg e] at h
        have : decide (k = a) = false := by simpa using Ne.symm e
        rw [this]; exact h1 h
    · intro j c hj hlt
      cases j with
      | zero =>
        simp at hj
        obtain ⟨rfl, rfl⟩ := hj
        have : decide (a = a) = true := by simp
        rw [this]; rfl
      | succ j =>
        have e : a ≠ k := hlt 0 (by omega) (a, b) rfl
        have : decide (k = a) = false := by simpa using Ne.symm e
        rw [this]
        show afind Try.prog 45 (valP k) (mapP r) (i + 1) = _
        rw [h2 j c (by simpa using hj) fun q hq x hx => hlt (q + 1) (by omega) x (by simpa using hx)]
        congr 3; omega
theorem keyP (p : Pr) : keyArr Try.prog 45 (valP p) = true := by
  have : allInts [.int .i64 p.1, .int .i64 p.2] = some [(IntKind.i64, p.1), (IntKind.i64, p.2)] := rfl
  simp [keyArr, Try.underlying45, Try.underlying3, valP, this, ts3]
theorem lookP_none {h : AHeap} {x : Value} (p : Pr) (ok : Bool) : aLookup Try.prog h 54 x (valP p) ok = none := by
  simp only [aLookup, Try.underlying54, valP]
theorem setP_none {h : AHeap} {x v : Value} (p : Pr) : aMapSet Try.prog h 54 x (valP p) v = none := by
  simp only [aMapSet, Try.underlying54, valP]
theorem mapP_look {h : AHeap} {M : Nat} {l : List (Pr × Int)} (ho : h.own M = some (.map (mapP l))) (k : Pr) (ok : Bool) :
    aLookupA Try.prog h 54 (.map (some M)) (valP k) ok = some (bif ok then .tuple #[.int .i64 ((lookK l k).getD 0), .bool (lookK l k).isSome] else .int .i64 ((lookK l k).getD 0)) := by
  have hz : azero Try.prog 3 = some (.int .i64 0) := by kernel_rfl
  simp only [aLookupA, Try.underlying54, keyP, ho, hz, show flat (.int .i64 0) = true from rfl, if_true]
  rcases setK_at l k 0 with ⟨h1, _⟩ | ⟨j, b, h1, h2, h3, _⟩
  · rw [(afind_mapP k l 0).1 h1, h1]; rfl
  · rw [(afind_mapP k l 0).2 j b h2 h3, h1]; rfl
theorem mapP_set {h : AHeap} {M : Nat} {l : List (Pr × Int)} (ho : h.own M = some (.map (mapP l))) (k : Pr) (v : Int) : aMapSetA Try.prog h 54 (.map (some M)) (valP k) (.int .i64 v) = some (h.put M (.map (mapP (setK l k v)))) := by
  simp only [aMapSetA, Try.underlying54, keyP, ho, if_true]
  rcases setK_at l k v with ⟨h1, h4⟩ | ⟨j, b, h1, h2, h3, h4⟩
  · rw [(afind_mapP k l 0).1 h1, h4]; simp [mapP]
  · rw [(afind_mapP k l 0).2 j b h2 h3, h4]; simp [mapP, List.map_set]
theorem mapP_len {h : AHeap} {M : Nat} {l : List (Pr × Int)} (ho : h.own M = some (.map (mapP l))) : aLen Try.prog h 54 (.map (some M)) = some (.int .i64 l.length) := by
  simp [aLen, Try.underlying54, ho, mapP]
end Go.Fw
