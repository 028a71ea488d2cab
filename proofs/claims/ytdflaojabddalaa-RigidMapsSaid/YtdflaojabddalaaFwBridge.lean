/- One of the texts of the layer and the walks: it proves what its theorems say of the functions of the seat, with no condition beyond theirs. -/
import Derived.Test.YtdflaojabddalaaFwRep
import Derived.Test.YtdflaojabddalaaFwRules
import Derived.ProofKit
import Derived.Deep.Slices
set_option linter.unusedSimpArgs false
set_option linter.unusedVariables false
/- From the row's reading of the arguments to the abstract heap, and back. -/
namespace Go.Fw
open Go.ChangeShapes Go.WideShapes Go.RowKit

/- nothing of one's own yet -/
def ext0 (W : World) : AHeap := ⟨fun b off => (W.cell? ⟨b, off, none⟩).bind tag, 0, .leaf⟩
theorem ext0_own (W : World) (i : Nat) : (ext0 W).own i = none := by simp [ext0, AHeap.own, Trie.get]
theorem Rel.start (W : World) (m : CMap) : Rel W m (ext0 W) W :=
  ⟨Nat.le_refl _, fun _ _ => rfl, fun _ _ => rfl, fun i hi => absurd (ext0_own W i) hi, fun i hi => absurd (ext0_own W i) hi, fun i o hi => by (rw [ext0_own] at hi; cases hi), fun i j hi => absurd (ext0_own W i) hi, rfl, rfl, rfl⟩
theorem WF.start (W : World) : WF (ext0 W) := fun i hi => absurd (ext0_own W i) hi

theorem Rel.below {W w' : World} {m : CMap} {h : AHeap} (R : Rel W m h w') : Below W.heap.size W w' := ⟨R.os, R.tape, R.output, R.size, R.old⟩

theorem mapM_at {α β : Type} {f : α → Option β} : ∀ {l : List α} {r : List β}, l.mapM f = some r → r.length = l.length ∧ ∀ (i : Nat) x, l[i]? = some x → ∃ y, r[i]? = some y ∧ f x = some y
  | [], r, h => by
    simp at h; subst h; exact ⟨rfl, by simp⟩
  | a :: l, r, h => by
    rw [List.mapM_cons] at h
    simp only [Option.bind_eq_bind, Option.pure_def, Option.bind_eq_some_iff, Option.some.injEq] at h
    obtain ⟨y, hy, r', hr', rfl⟩ := h
    obtain ⟨hl, hg⟩ := mapM_at hr'
    refine ⟨by simp [hl], fun i x hx => ?_⟩
    cases i with
    | zero => simp at hx; subst hx; exact ⟨y, rfl, hy⟩
    | succ i => simpa using hg i x (by simpa using hx)

section
variable {H : Type} {enc : TypeId × Value → H} {P : Program} {W : World}

/- what is read at a type of one cell stands for something -/
def Rd {α : Type} (enc : TypeId × Value → H) (P : Program) (W : World) (t : TypeId) (R : AHeap → Value → α → Prop) : Prop :=
  ∀ fuel cs x, DataW.trod enc P W 0 (fun _ => true) true fuel t cs = some x → ∃ v' v a, cs = [v'] ∧ tag v' = some v ∧ R (ext0 W) v a

theorem rd_i64 {t : TypeId} (ht : P.underlying t = some (.int .i64)) : Rd enc P W t isI := by
  intro fuel cs x h
  obtain ⟨n, rfl, _, _⟩ := DataW.trod_int ht h
  exact ⟨_, .int .i64 n, n, rfl, rfl, rfl⟩

theorem rd_u8 {t : TypeId} (ht : P.underlying t = some (.int .u8)) : Rd enc P W t isB := by
  intro fuel cs x h
  obtain ⟨n, rfl, _, hw⟩ := DataW.trod_int ht h
  refine ⟨_, .int .u8 n, n, rfl, rfl, rfl, ?_⟩
  simp [Lit.wf, IntKind.min, IntKind.max, IntKind.signed, IntKind.bits] at hw
  omega

theorem addr_add_of {a : Addr} (h : a.spot = none) (i : Nat) : a.add i = ⟨a.block, a.off + i, none⟩ := by
  obtain ⟨b, off, sp⟩ := a
  simp only at h
  subst h
  unfold Addr.add
  split
  · rename_i h; subst h; rfl
  · rfl

theorem rd_slice {α : Type} {R : AHeap → Value → α → Prop} {t e : TypeId} (ht : P.underlying t = some (.slice e)) (he : P.cellsOf e = 1) (hr : Rd enc P W e R) : Rd enc P W t (RL R) := by
  intro fuel cs x h
  rcases Go.Deep.open_slice1 ht he h with ⟨rfl, _⟩ | ⟨a, len, cap, m, n, V, D, Pl, rfl, hb, hl, hm, hmm, _, hx⟩
  · exact ⟨_, .slice none 0 0, [], rfl, rfl, RL.nil⟩
  · simp only [if_true] at hmm
    have hmm2 := hmm.symm
    subst hmm2
    have hU : cap < UNK := Nat.lt_of_le_of_lt hm (by decide)
    by_cases h0 : cap = 0
    · subst h0
      have : len = 0 := by omega
      subst this
      refine ⟨_, .slice (some ⟨a.block, a.off, some 0⟩) 0 0, [], rfl, ?_, [], ⟨⟨_, 0, rfl, by simp⟩, by simp⟩, rfl, by simp⟩
      obtain ⟨b, off, sp⟩ := a
      cases sp with
      | none => simp only [tag]; rw [if_pos (by decide)]
      | some k => rfl
    · have hsp : a.spot = none := by
        have := (hx 0 (by omega)).1
        rw [show a.add 0 = a from rfl] at this
        simp only [World.cell?] at this
        split at this
        · split at this
          · cases this
          · rename_i hs; simpa using hs
        · cases this
      have key : ∀ k, k ≤ len → ∃ (vs : List Value) (xs : List α), vs.length = k ∧ xs.length = k ∧ (∀ (i : Nat) u, vs[i]? = some u → tag (V i) = some u) ∧ ∀ (i : Nat) u y, vs[i]? = some u → xs[i]? = some y → R (ext0 W) u y := by
        intro k
        induction k with
        | zero => intro _; exact ⟨[], [], rfl, rfl, by simp, by simp⟩
        | succ k ih =>
          intro hk
          obtain ⟨vs, xs, h1, h2, h3, h4⟩ := ih (by omega)
          obtain ⟨v', v, y, e1, e2, e3⟩ := hr _ _ _ (hx k (by omega)).2
          injection e1 with e1
          subst e1
          refine ⟨vs ++ [v], xs ++ [y], by simp [h1], by simp [h2], fun i u hi => ?_, fun i u z hi hz => ?_⟩
          · by_cases hik : i < k
            · rw [List.getElem?_append_left (by omega)] at hi; exact h3 i u hi
            · rw [List.getElem?_append_right (by omega)] at hi
              have : i = k := by
                have := (List.getElem?_eq_some_iff.1 hi).1
                simp at this; omega
              subst this
              simp [h1] at hi; subst hi; exact e2
          · by_cases hik : i < k
            · rw [List.getElem?_append_left (by omega)] at hi
              rw [List.getElem?_append_left (by omega)] at hz
              exact h4 i u z hi hz
            · rw [List.getElem?_append_right (by omega)] at hi hz
              have : i = k := by
                have := (List.getElem?_eq_some_iff.1 hi).1
                simp at this; omega
              subst this
              simp [h1] at hi; simp [h2] at hz; subst hi hz; exact e3
      obtain ⟨vs, xs, h1, h2, h3, h4⟩ := key len (Nat.le_refl _)
      refine ⟨_, .slice (some ⟨a.block, a.off, some 0⟩) len cap, xs, rfl, ?_, vs, ⟨⟨_, cap, by rw [h1], by simp⟩, fun i u hi => ?_⟩, by omega, fun i y u hy hu => h4 i u y hu hy⟩
      · obtain ⟨b, off, sp⟩ := a
        simp only at hsp
        subst hsp
        simp only [tag]
        rw [if_pos hU]
      · have hil : i < len := by have := (List.getElem?_eq_some_iff.1 hi).1; omega
        have hc := (hx i (by omega)).1
        rw [addr_add_of hsp] at hc
        have ht := h3 i u hi
        rw [elemAddr_mk]
        simp only [aadd, AHeap.read, ext0, hc, Option.bind_some]
        exact ht
end
end Go.Fw
