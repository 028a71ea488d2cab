/- One of the texts of the layer and the walks: it proves what its theorems say of the functions of the seat, with no condition beyond theirs. -/
import Derived.Test.YtmakcgajgepabaaFwB23
set_option linter.unusedSimpArgs false
set_option linter.unusedVariables false
namespace Go.Fw
open Go.Proofs
set_option maxHeartbeats 4000000
set_option maxRecDepth 10000
theorem bP (a b : Int) : aBuild Try.prog 42 [(0, .int .i64 a), (1, .int .i64 b)] = some (valP (a, b)) := by kernel_rfl
theorem alloc24 (h : AHeap) : aAlloc Try.prog h 24 = some (.pointer (some ⟨h.next, 0, none⟩), h.alloc (.cells [.int .i64 0, .slice none 0 0])) := rfl
theorem newG {h : AHeap} (hw : WF h) {n : Int} {ev : Value} {es : List Pr} (r : PR h ev es) : ∃ h1 h2, aAlloc Try.prog h 24 = some (.pointer (some ⟨h.next, 0, none⟩), h1) ∧ aStore Try.prog h1 24 (.pointer (some ⟨h.next, 0, none⟩)) (.agg #[.int .i64 n, ev]) = some h2 ∧ Le h h2 ∧ WF h2 ∧
    ∀ g, Le h2 g → aload Try.prog g 24 ⟨h.next, 0, none⟩ = some (.agg #[.int .i64 n, ev]) ∧ aload Try.prog g 3 ⟨h.next, 0, none⟩ = some (.int .i64 n) ∧ aload Try.prog g 22 ⟨h.next, 1, none⟩ = some ev := by
  obtain ⟨h1, e1, l1, w1, o1⟩ := alloc_f hw [.int .i64 0, .slice none 0 0]
  have nw : h.own h.next = none := (Le.refl h).next hw (Nat.le_refl _)
  have one := r.sl.one
  have ts24 : tsize Try.prog 24 = 2 := by kernel_rfl
  have hc : (Value.agg #[.int .i64 n, ev]).cells = #[.int .i64 n, ev] := rfl
  have h0 : (Value.int IntKind.i64 n).oneCell' = true := rfl
  have ho : (h1.put h.next (.cells [.int .i64 n, ev])).own h.next = some (.cells [.int .i64 n, ev]) := AHeap.own_put_eq _ _ _
  refine ⟨h1, h1.put h.next (.cells [.int .i64 n, ev]), by rw [alloc24, e1], ?_, l1.put _ nw, w1.put _ (w1.lt o1), fun g e => ⟨?_, aload_one Try.underlying3 rfl (e.own _ _ ho), aload_one Try.underlying22 rfl (e.own _ _ ho)⟩⟩
  · simp [aStore, o1, hc, ts24, putCells, Try.underlying24, one, h0]
  · rw [aload_own Try.underlying24 rfl ts24 (e.own _ _ ho) (by simp)]; rfl
theorem mkP8 (h : AHeap) (p0 p1 p2 p3 p4 p5 p6 p7 : Pr) : aBuildSlice Try.prog h 22 8 [(0, valP p0), (1, valP p1), (2, valP p2), (3, valP p3), (4, valP p4), (5, valP p5), (6, valP p6), (7, valP p7)] = some (.slice (some ⟨h.next, 0, none⟩) 8 8, h.alloc (.cells (flatP [p0, p1, p2, p3, p4, p5, p6, p7]))) := rfl
theorem mkP4 (h : AHeap) (p0 p1 p2 p3 : Pr) : aBuildSlice Try.prog h 22 4 [(0, valP p0), (1, valP p1), (2, valP p2), (3, valP p3)] = some (.slice (some ⟨h.next, 0, none⟩) 4 4, h.alloc (.cells (flatP [p0, p1, p2, p3]))) := rfl
theorem mkP3 (h : AHeap) (p0 p1 p2 : Pr) : aBuildSlice Try.prog h 22 3 [(0, valP p0), (1, valP p1), (2, valP p2)] = some (.slice (some ⟨h.next, 0, none⟩) 3 3, h.alloc (.cells (flatP [p0, p1, p2]))) := rfl
theorem mkP2 (h : AHeap) (p0 p1 : Pr) : aBuildSlice Try.prog h 22 2 [(0, valP p0), (1, valP p1)] = some (.slice (some ⟨h.next, 0, none⟩) 2 2, h.alloc (.cells (flatP [p0, p1]))) := rfl
theorem mkP1' (h : AHeap) (p0 : Pr) : aBuildSlice Try.prog h 22 1 [(0, valP p0)] = some (.slice (some ⟨h.next, 0, none⟩) 1 1, h.alloc (.cells (flatP [p0]))) := rfl
theorem mkI3 (h : AHeap) (a b c : Int) : aBuildSlice Try.prog h 39 3 [(0, .int .i64 a), (1, .int .i64 b), (2, .int .i64 c)] = some (.slice (some ⟨h.next, 0, none⟩) 3 3, h.alloc (.cells [.int .i64 a, .int .i64 b, .int .i64 c])) := rfl
theorem mkF2 (h : AHeap) {a b c d : Value} {n m k l : Nat} (ha : isSl a n) (hb : isSl b m) (hc : isSl c k) (hd : isSl d l) : aBuildSlice Try.prog h 27 2 [(0, .agg #[a, b]), (1, .agg #[c, d])] = some (.slice (some ⟨h.next, 0, none⟩) 2 2, h.alloc (.cells [a, b, c, d])) := by
  obtain ⟨_, _, rfl, _⟩ := ha
  obtain ⟨_, _, rfl, _⟩ := hb
  obtain ⟨_, _, rfl, _⟩ := hc
  obtain ⟨_, _, rfl, _⟩ := hd
  kernel_rfl
theorem PR.made {h : AHeap} {id : Nat} {ps : List Pr} (ho : h.own id = some (.cells (flatP ps))) {k : Nat} (hk : ps.length = k) : PR h (.slice (some ⟨id, 0, none⟩) k k) ps := by
  have := CS.own (k := 2) (off := 0) (n := k) (cap := k) ho (by rw [flatP_length, hk]; omega)
  rw [List.drop_zero, List.take_of_length_le (by rw [flatP_length, hk]; exact Nat.le_refl _)] at this
  rw [PR, hk]; exact this
def FragsR (n : Nat) (es web : List Pr) (L : List Int) : List FM := (grpsM (fragM n (onF n web) L) es web es.length).map fun g => ⟨g.2, nat64 (rfeet web g.2 n)⟩
theorem frags_r {n : Nat} {es web : List Pr} {L : List Int} (hR : InR n es) : FragsM n es web L = FragsR n es web L := by
  obtain ⟨nd, _, _, _, gm⟩ := grpsM_ok (fragM n (onF n web) L) es web es.length
  refine List.map_congr_left fun g hg => ?_
  show (⟨g.2, feetM (onF n web) g.2⟩ : FM) = ⟨g.2, nat64 (rfeet web g.2 n)⟩
  rw [feet_eq hR fun p hp => gm g hg p hp]
def awE : List Pr := [(0, 1), (0, 2), (0, 3), (0, 4), (1, 2), (1, 4), (2, 3), (3, 4)]
def awW : List Pr := [(0, 1), (0, 3), (1, 2), (2, 3)]
theorem awR : RightG ⟨5, awE⟩ := by
  refine ⟨by decide, by decide, by decide, fun i hi p hp => ?_⟩
  have hi' : i < 8 := hi
  match i, hi' with
  | 0, _ => simp [awE] at hp; subst hp; exact ⟨by decide, fun q h0 => by omega⟩
  | 1, _ => simp [awE] at hp; subst hp; exact ⟨by decide, fun q h0 hq => by simp [awE] at hq; subst hq; decide⟩
  | 2, _ => simp [awE] at hp; subst hp; exact ⟨by decide, fun q h0 hq => by simp [awE] at hq; subst hq; decide⟩
  | 3, _ => simp [awE] at hp; subst hp; exact ⟨by decide, fun q h0 hq => by simp [awE] at hq; subst hq; decide⟩
  | 4, _ => simp [awE] at hp; subst hp; exact ⟨by decide, fun q h0 hq => by simp [awE] at hq; subst hq; decide⟩
  | 5, _ => simp [awE] at hp; subst hp; exact ⟨by decide, fun q h0 hq => by simp [awE] at hq; subst hq; decide⟩
  | 6, _ => simp [awE] at hp; subst hp; exact ⟨by decide, fun q h0 hq => by simp [awE] at hq; subst hq; decide⟩
  | 7, _ => simp [awE] at hp; subst hp; exact ⟨by decide, fun q h0 hq => by simp [awE] at hq; subst hq; decide⟩
theorem awW1 : WebOK awE awW := by
  refine ⟨fun i p q hp hq => ?_, by decide⟩
  have hi := (List.getElem?_eq_some_iff.1 hq).1
  have hi' : i < 3 := by simp [awW] at hi; omega
  match i, hi' with
  | 0, _ => simp [awW] at hp hq; subst hp hq; decide
  | 1, _ => simp [awW] at hp hq; subst hp hq; decide
  | 2, _ => simp [awW] at hp hq; subst hp hq; decide
theorem awW2 : WebOK awE [] := ⟨fun i p q hp => by simp at hp, by simp⟩
theorem awW3 : WebOK awE awE := ⟨fun i p q hp hq => awR.asc i (i + 1) p q (by omega) hp hq, fun p hp => hp⟩
theorem awW4 : ¬ WebOK awE [(1, 2), (0, 1)] := fun w => by
  have := w.asc 0 (1, 2) (0, 1) rfl rfl
  revert this; decide
theorem awF1 {L : List Int} (hT : TogM 5 (onF 5 awW) awE L) : FragsM 5 awE awW L = [⟨[(0, 2)], [0, 2]⟩, ⟨[(0, 4), (1, 4), (3, 4)], [0, 1, 3]⟩] := by
  rw [frags_r awR.inR]
  obtain ⟨k, hk, h1, h2⟩ := hT.off 4 (by omega) (by decide)
  have ho := h2.off1
  have : k = 4 := by
    match k, hk with
    | 0, _ => revert ho; decide
    | 1, _ => revert ho; decide
    | 2, _ => revert ho; decide
    | 3, _ => revert ho; decide
    | 4, _ => rfl
  subst this
  have hl := hT.len
  match L, hl with
  | [a, b, c, d, e], _ =>
    simp at h1; subst h1
    rfl
theorem awF2 {L : List Int} (hT : TogM 5 (onF 5 []) awE L) : FragsM 5 awE [] L = [⟨awE, []⟩] := by
  rw [frags_r awR.inR]
  obtain ⟨k, hk, h1, h2⟩ := hT.off 0 (by omega) (by decide)
  have hs : ∀ u : Nat, u < 5 → adj awE 0 u → L[u]? = some (k : Int) := fun u hu ha => by
    have ho : ∀ u, onF 5 [] u = false := fun u => by
      by_cases c : u < 5
      · rw [onF, onM_getD c]; rfl
      · rw [onF, List.getD_eq_getElem?_getD, List.getElem?_eq_none (by rw [onM_length]; omega)]; rfl
    rw [← h1]; exact ((hT.same 0 u (by omega) hu (ho 0) (ho u)).2 ((Cn.refl (ho 0)).step ha (ho u))).symm
  have s1 := hs 1 (by omega) (.inl (by decide))
  have s2 := hs 2 (by omega) (.inl (by decide))
  have s3 := hs 3 (by omega) (.inl (by decide))
  have s4 := hs 4 (by omega) (.inl (by decide))
  have hl := hT.len
  match L, hl with
  | [a, b, c, d, e], _ =>
    simp at h1 s1 s2 s3 s4
    subst h1 s1 s2 s3 s4
    match k, hk with
    | 0, _ => rfl
    | 1, _ => rfl
    | 2, _ => rfl
    | 3, _ => rfl
    | 4, _ => rfl
theorem awF3 {L : List Int} : FragsM 5 awE awE L = [] := by
  rw [frags_r awR.inR]; kernel_rfl
end Go.Fw
