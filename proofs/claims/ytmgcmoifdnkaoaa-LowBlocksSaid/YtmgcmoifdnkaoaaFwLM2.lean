/- One of the texts of the layer and the walks: it proves what its theorems say of the functions of the seat, with no condition beyond theirs. -/
import Derived.Test.YtmgcmoifdnkaoaaFwLM1
import Derived.Test.YtmgcmoifdnkaoaaFwLG1
set_option linter.unusedSimpArgs false
set_option linter.unusedVariables false
namespace Go.Fw
open Go.Proofs
set_option maxHeartbeats 8000000
set_option maxRecDepth 10000
theorem mkP7 (h : AHeap) (p0 p1 p2 p3 p4 p5 p6 : Pr) : aBuildSlice Try.prog h 22 7 [(0, valP p0), (1, valP p1), (2, valP p2), (3, valP p3), (4, valP p4), (5, valP p5), (6, valP p6)] = some (.slice (some ⟨h.next, 0, none⟩) 7 7, h.alloc (.cells (flatP [p0, p1, p2, p3, p4, p5, p6]))) := by kernel_rfl
def aw5 : List Pr := [(0, 1), (0, 2), (1, 2), (2, 3), (2, 4), (3, 4), (4, 5)]
def aw5L : List Lw := [(1, -1, 1), (2, 0, 1), (3, 1, 1), (4, 2, 3), (5, 3, 3), (6, 4, 6)]
theorem aw5R : RightG ⟨6, aw5⟩ := by
  refine ⟨by decide, by decide, by decide, fun i hi p hp => ?_⟩
  have hi' : i < 7 := hi
  match i, hi' with
  | 0, _ => simp [aw5] at hp; subst hp; exact ⟨by decide, fun q h0 => by omega⟩
  | 1, _ => simp [aw5] at hp; subst hp; exact ⟨by decide, fun q h0 hq => by simp [aw5] at hq; subst hq; decide⟩
  | 2, _ => simp [aw5] at hp; subst hp; exact ⟨by decide, fun q h0 hq => by simp [aw5] at hq; subst hq; decide⟩
  | 3, _ => simp [aw5] at hp; subst hp; exact ⟨by decide, fun q h0 hq => by simp [aw5] at hq; subst hq; decide⟩
  | 4, _ => simp [aw5] at hp; subst hp; exact ⟨by decide, fun q h0 hq => by simp [aw5] at hq; subst hq; decide⟩
  | 5, _ => simp [aw5] at hp; subst hp; exact ⟨by decide, fun q h0 hq => by simp [aw5] at hq; subst hq; decide⟩
  | 6, _ => simp [aw5] at hp; subst hp; exact ⟨by decide, fun q h0 hq => by simp [aw5] at hq; subst hq; decide⟩
theorem aw5_low : lowM 6 aw5 = (aw5L, [0, 1, 2, 3, 4, 5]) := by decide +kernel
theorem aw5_bridges : bridgesM 6 aw5 = [(4, 5)] := by
  have : (lowM 6 aw5).2.filterMap (brB (lowM 6 aw5).1) = [(4, 5)] := by decide +kernel
  rw [bridgesM, this]; simp [sortP]
theorem aw5_cuts : cutsM 6 aw5 = [2, 4] := by decide +kernel
theorem aw5_blocks : blocksM 6 aw5 = [[(0, 1), (0, 2), (1, 2)], [(2, 3), (2, 4), (3, 4)], [(4, 5)]] := by decide +kernel
def GL (h : AHeap) (v : Value) (ps : List Lw) : Prop := GS 3 h v ps.length (flatL ps)
theorem flatL_one (ps : List Lw) : (flatL ps).all (·.oneCell') = true := by
  rw [List.all_eq_true]; intro x hx; rw [flatL, List.mem_flatMap] at hx
  obtain ⟨p, _, hx⟩ := hx
  simp [cellsL] at hx
  rcases hx with rfl | rfl | rfl <;> rfl
theorem GL.lr {h : AHeap} {v : Value} {ps : List Lw} (g : GL h v ps) : LR h v ps := GS.cs g
theorem GL.le {h h' : AHeap} {v : Value} {ps : List Lw} (g : GL h v ps) (e : Le h h') : GL h' v ps := GS.le g e
theorem mkL1 (h : AHeap) (p : Lw) : aBuildSlice Try.prog h 27 1 [(0, valL p)] = some (.slice (some ⟨h.next, 0, none⟩) 1 1, h.alloc (.cells (cellsL p))) := rfl
theorem GL.push {h : AHeap} {v : Value} {ps : List Lw} (g : GL h v ps) (hwf : WF h) (p : Lw) (hn : ps.length + 1 ≤ 100000) :
    ∃ v' h4 h5, aBuildSlice Try.prog h 27 1 [(0, valL p)] = some (.slice (some ⟨h.next, 0, none⟩) 1 1, h4) ∧ aAppend Try.prog h4 27 27 v (.slice (some ⟨h.next, 0, none⟩) 1 1) = some (v', h5) ∧ GL h5 v' (ps ++ [p]) ∧ WF h5 ∧ Le h h4 ∧
      (∀ f, Le f h → Apart f v → Le f h5 ∧ Apart f v') ∧ (∀ b o, h.own b = some o → blk v ≠ some b → h5.own b = some o ∧ blk v' ≠ some b) := by
  obtain ⟨h4, e4, l4, w4, o4⟩ := alloc_f hwf (cellsL p)
  have hx : LR h4 (.slice (some ⟨h.next, 0, none⟩) 1 1) [p] := LR.own (by rw [o4]; simp [flatL]) rfl
  obtain ⟨v', h5, e5, g5, hf⟩ := GS.append (P := Try.prog) (t := 27) (xt := 27) (k := 3) (by kernel_rfl) (GS.le g l4) (fun e he => CS.src he hx) (flatL_one _) (flatL_one _) (flatL_length _) (by simp; omega)
  refine ⟨v', h4, h5, by rw [mkL1, e4], e5, ?_, aAppend_wf w4 e5, l4, fun f lf af => hf f w4 (lf.trans l4) af, fun b o ho hb => keep_own hf w4 (l4.own _ _ ho) hb⟩
  have : flatL ps ++ flatL [p] = flatL (ps ++ [p]) := by simp [flatL]
  rw [GL, ← this, List.length_append]; exact g5
theorem ts78 : tsize Try.prog 78 = 3 := by kernel_rfl
theorem b78 (a b c : Int) : aBuild Try.prog 78 [(0, .int .i64 a), (1, .int .i64 b), (2, .int .i64 c)] = some (valL (a, b, c)) := by kernel_rfl
theorem mkT6 (h : AHeap) (p0 p1 p2 p3 p4 p5 : Lw) : aBuildSlice Try.prog h 79 6 [(0, valL p0), (1, valL p1), (2, valL p2), (3, valL p3), (4, valL p4), (5, valL p5)] = some (.slice (some ⟨h.next, 0, none⟩) 6 6, h.alloc (.cells (flatL [p0, p1, p2, p3, p4, p5]))) := by kernel_rfl
theorem tLen {h : AHeap} {v : Value} {ls : List Lw} (r : LR h v ls) (g : AHeap) : aLen Try.prog g 79 v = some (.int .i64 ls.length) := by
  obtain ⟨a, c, rfl, _⟩ := r.sl; simp [aLen, Try.underlying79]
theorem tAddr {h : AHeap} {v : Value} {ls : List Lw} (r : LR h v ls) {k : IntKind} (i : Nat) (hi : i < ls.length) : aIndexAddr Try.prog 79 v (.int k i) = some (.pointer (some (lA3 v i))) := by
  obtain ⟨a, c, rfl, hs⟩ := r.sl
  obtain ⟨a, rfl⟩ := Option.isSome_iff_exists.1 (hs (by omega))
  have h1 : (i : Int) < (ls.length : Int) := by omega
  simp [aIndexAddr, Try.underlying79, Try.underlying78, h1, lA3, elemAddr, ts78]
theorem tLoad {h : AHeap} {v : Value} {ls : List Lw} (r : LR h v ls) {i : Nat} {p : Lw} (hp : ls[i]? = some p) : aload Try.prog h 78 (lA3 v i) = some (valL p) := by
  have hd : isAggD (.array 3 3) = true := rfl
  simp only [aload, Try.underlying78, hd, cond_true, ts78, read3 (r.get hp), valL]
theorem t0 (a : Addr) : aIndexAddr Try.prog 78 (.pointer (some a)) (.int .i64 0) = some (.pointer (some (aadd a 0))) := by
  simp [aIndexAddr, Try.underlying78, Try.underlying3]
theorem t1 (a : Addr) : aIndexAddr Try.prog 78 (.pointer (some a)) (.int .i64 1) = some (.pointer (some (aadd a 1))) := by
  simp [aIndexAddr, Try.underlying78, Try.underlying3, ts3]
theorem t2 (a : Addr) : aIndexAddr Try.prog 78 (.pointer (some a)) (.int .i64 2) = some (.pointer (some (aadd a 2))) := by
  simp [aIndexAddr, Try.underlying78, Try.underlying3, ts3]
theorem new78 {h : AHeap} (hw : WF h) (p : Lw) : ∃ h1 h2, aAlloc Try.prog h 78 = some (.pointer (some ⟨h.next, 0, none⟩), h1) ∧ aStore Try.prog h1 78 (.pointer (some ⟨h.next, 0, none⟩)) (valL p) = some h2 ∧ Le h h2 ∧ WF h2 ∧
    aload Try.prog h2 3 ⟨h.next, 0, none⟩ = some (.int .i64 p.1) ∧ aload Try.prog h2 3 ⟨h.next, 1, none⟩ = some (.int .i64 p.2.1) ∧ aload Try.prog h2 3 ⟨h.next, 2, none⟩ = some (.int .i64 p.2.2) := by
  obtain ⟨h1, e1, l1, w1, o1⟩ := alloc_f hw [.int .i64 0, .int .i64 0, .int .i64 0]
  have nw : h.own h.next = none := (Le.refl h).next hw (Nat.le_refl _)
  have oo := AHeap.own_put_eq h1 h.next (.cells (cellsL p))
  refine ⟨h1, h1.put h.next (.cells (cellsL p)), by rw [← e1]; rfl, ?_, l1.put _ nw, w1.put _ (w1.lt o1), by rw [aload_one Try.underlying3 rfl oo]; rfl, by rw [aload_one Try.underlying3 rfl oo]; rfl, by rw [aload_one Try.underlying3 rfl oo]; rfl⟩
  simp [aStore, o1, valL, Value.cells, ts78, putCells, cellsL, Try.underlying78]
  exact ⟨rfl, rfl, rfl⟩
theorem mkPL3 (h : AHeap) {a b c : Value} {i j k : Nat} (ha : isSl a i) (hb : isSl b j) (hc : isSl c k) : aBuildSlice Try.prog h 38 3 [(0, a), (1, b), (2, c)] = some (.slice (some ⟨h.next, 0, none⟩) 3 3, h.alloc (.cells [a, b, c])) := by
  obtain ⟨_, _, rfl, _⟩ := ha
  obtain ⟨_, _, rfl, _⟩ := hb
  obtain ⟨_, _, rfl, _⟩ := hc
  rfl
theorem mkI2 (h : AHeap) (a b : Int) : aBuildSlice Try.prog h 35 2 [(0, .int .i64 a), (1, .int .i64 b)] = some (.slice (some ⟨h.next, 0, none⟩) 2 2, h.alloc (.cells [.int .i64 a, .int .i64 b])) := by kernel_rfl
theorem wr0 : awrap .i64 ((0 : Int) + 0) = 0 := by decide
end Go.Fw
