/- One of the texts of the layer and the walks: it proves what its theorems say of the functions of the seat, with no condition beyond theirs. -/
import Derived.Test.YtmakcgajgepabaaFwW12
set_option linter.unusedSimpArgs false
set_option linter.unusedVariables false
namespace Go.Fw
open Go.Proofs
set_option maxHeartbeats 8000000
set_option maxRecDepth 10000
structure GX (h : AHeap) (X : Nat) (n : Int) (ev : Value) (ps : List Pr) : Prop where
  ox : h.own X = some (.cells [.int .i64 n, ev])
  gp : GP h ev ps
  ne : blk ev ≠ some X
theorem build24e (n : Int) : aBuild Try.prog 24 [(0, .int .i64 n)] = some (.agg #[.int .i64 n, .slice none 0 0]) := by kernel_rfl
theorem GX.new {h : AHeap} (hw : WF h) (n : Int) : ∃ h1 h2, aAlloc Try.prog h 24 = some (.pointer (some ⟨h.next, 0, none⟩), h1) ∧ aStore Try.prog h1 24 (.pointer (some ⟨h.next, 0, none⟩)) (.agg #[.int .i64 n, .slice none 0 0]) = some h2 ∧ Le h h2 ∧ WF h2 ∧ h.own h.next = none ∧ GX h2 h.next n (.slice none 0 0) [] := by
  obtain ⟨h1, e1, l1, w1, o1⟩ := alloc_f hw [.int .i64 0, .slice none 0 0]
  have nw : h.own h.next = none := (Le.refl h).next hw (Nat.le_refl _)
  have ts24 : tsize Try.prog 24 = 2 := by kernel_rfl
  have hc : (Value.agg #[.int .i64 n, .slice none 0 0]).cells = #[.int .i64 n, .slice none 0 0] := rfl
  have h0 : (Value.int IntKind.i64 n).oneCell' = true := rfl
  have h1' : (Value.slice none 0 0).oneCell' = true := rfl
  have ho : (h1.put h.next (.cells [.int .i64 n, .slice none 0 0])).own h.next = some (.cells [.int .i64 n, .slice none 0 0]) := AHeap.own_put_eq _ _ _
  refine ⟨h1, h1.put h.next (.cells [.int .i64 n, .slice none 0 0]), by rw [alloc24, e1], ?_, l1.put _ nw, w1.put _ (w1.lt o1), nw, ⟨ho, GP.nil _, by simp [blk]⟩⟩
  simp [aStore, o1, hc, ts24, putCells, Try.underlying24, h0, h1']
theorem GX.le {h h' : AHeap} {X : Nat} {n : Int} {ev : Value} {ps : List Pr} (g : GX h X n ev ps) (e : Le h h') : GX h' X n ev ps := ⟨e.own _ _ g.ox, g.gp.le e, g.ne⟩
theorem GX.ld {h : AHeap} {X : Nat} {n : Int} {ev : Value} {ps : List Pr} (g : GX h X n ev ps) : aload Try.prog h 24 ⟨X, 0, none⟩ = some (.agg #[.int .i64 n, ev]) ∧ aload Try.prog h 3 ⟨X, 0, none⟩ = some (.int .i64 n) ∧ aload Try.prog h 22 ⟨X, 1, none⟩ = some ev := by
  refine ⟨?_, aload_one Try.underlying3 rfl g.ox, aload_one Try.underlying22 rfl g.ox⟩
  rw [aload_own Try.underlying24 rfl (by kernel_rfl : tsize Try.prog 24 = 2) g.ox (by simp)]; rfl
theorem GX.gr {h : AHeap} {X : Nat} {n : Int} {ev : Value} {ps : List Pr} (g : GX h X n ev ps) : GR h (.agg #[.int .i64 n, ev]) ⟨n, ps⟩ := ⟨ev, rfl, g.gp.pr⟩
theorem GX.push {h : AHeap} {X : Nat} {n : Int} {ev : Value} {ps : List Pr} (g : GX h X n ev ps) (hw : WF h) (p : Pr) (hn : ps.length + 1 ≤ 100000) :
    ∃ v' h4 h5 h6, aBuildSlice Try.prog h 22 1 [(0, valP p)] = some (.slice (some ⟨h.next, 0, none⟩) 1 1, h4) ∧ aAppend Try.prog h4 22 22 ev (.slice (some ⟨h.next, 0, none⟩) 1 1) = some (v', h5) ∧ aStore Try.prog h5 22 (.pointer (some ⟨X, 1, none⟩)) v' = some h6 ∧
      GX h6 X n v' (ps ++ [p]) ∧ WF h6 ∧ Le h h4 ∧ (∀ f, Le f h → f.own X = none → Apart f ev → Le f h6 ∧ Apart f v') := by
  obtain ⟨v', h4, h5, e4, e5, g5, w5, l4, hf, hk⟩ := g.gp.push hw p hn
  obtain ⟨ox5, nx5⟩ := hk X _ g.ox g.ne
  have one := g5.pr.sl.one
  have hc : v'.cells = #[v'] := by obtain ⟨_, _, rfl, _⟩ := g5.pr.sl; rfl
  have st := aStore1 (P := Try.prog) (t := 22) (x := v') Try.underlying22 (by kernel_rfl) ox5 (off := 1) (by simp) hc one
  refine ⟨v', h4, h5, _, e4, e5, st, ⟨AHeap.own_put_eq _ _ _, GS.put g5 _ nx5, nx5⟩, w5.put _ (w5.lt ox5), l4, fun f lf nf af => ?_⟩
  obtain ⟨l5, a5⟩ := hf f lf af
  exact ⟨l5.put _ nf, a5⟩
def keepW (o0 a0 b0 o1 a1 b1 : Bool) : Bool := (!o0 || a0 || b0) && (!o1 || a1 || b1)
def wayB (n : Nat) (web : List Pr) (a b : Int) (e : Pr) : Bool := keepW (onF n web e.1.toNat) (decide (e.1 = a)) (decide (e.1 = b)) (onF n web e.2.toNat) (decide (e.2 = a)) (decide (e.2 = b))
theorem wayE_eq (n : Nat) (web : List Pr) (a b : Int) (l : List Pr) : wayE n web a b l = l.filter (wayB n web a b) := by
  rw [wayE]; rfl
def KB (_ : Bool) : Prop := True
def filtW (n : Nat) (web : List Pr) (a b : Nat) (l : List Pr) (q : Nat) : List Pr := (l.take q).filter (wayB n web a b)
theorem filtW_succ {n : Nat} {web : List Pr} {a b : Nat} {l : List Pr} {q : Nat} {p : Pr} (h : l[q]? = some p) : filtW n web a b l (q + 1) = if wayB n web a b p = true then filtW n web a b l q ++ [p] else filtW n web a b l q := by
  rw [filtW, List.take_add_one, h, List.filter_append]
  simp only [Option.toList_some, List.filter_cons, List.filter_nil, filtW]
  split <;> simp
end Go.Fw
