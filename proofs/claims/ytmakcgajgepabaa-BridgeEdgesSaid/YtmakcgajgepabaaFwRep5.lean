/- One of the texts of the layer and the walks: it proves what its theorems say of the functions of the seat, with no condition beyond theirs. -/
import Derived.Test.YtmakcgajgepabaaFwRep4
set_option linter.unusedSimpArgs false
set_option linter.unusedVariables false
namespace Go.Fw
variable {P : Program} {h h' : AHeap}
def GRL {α : Type} (R : AHeap → Value → α → Prop) (h : AHeap) (v : Value) (xs : List α) : Prop :=
  ∃ us : List Value, GS 1 h v us.length us ∧ us.length = xs.length ∧ us.all (·.oneCell') = true ∧ ∀ (i : Nat) x u, xs[i]? = some x → us[i]? = some u → R (rem (bl v) h) u x
section
variable {α : Type} {R : AHeap → Value → α → Prop} {v : Value} {xs : List α}
theorem GRL.rl (s : Stays R) (g : GRL R h v xs) : RL R h v xs := by
  obtain ⟨us, g1, g2, _, g4⟩ := g
  exact ⟨us, g1.cs.rs, g2, fun i x u hx hu => s _ _ _ _ (g4 i x u hx hu) (rem_le _ _)⟩
theorem GRL.le (s : Stays R) (g : GRL R h v xs) (e : Le h h') : GRL R h' v xs := by
  obtain ⟨us, g1, g2, g3, g4⟩ := g
  exact ⟨us, g1.le e, g2, g3, fun i x u hx hu => s _ _ _ _ (g4 i x u hx hu) e.mono_rem⟩
theorem GRL.mono (s : Stays R) (g : GRL R h v xs) (e : Le (rem (bl v) h) (rem (bl v) h')) (hk : ∀ b o, blk v = some b → h.own b = some o → h'.own b = some o) : GRL R h' v xs := by
  obtain ⟨us, g1, g2, g3, g4⟩ := g
  refine ⟨us, ?_, g2, g3, fun i x u hx hu => s _ _ _ _ (g4 i x u hx hu) e⟩
  obtain ⟨hl, q | ⟨i, c, cap, rfl, ho, rr⟩⟩ := g1
  · exact ⟨hl, .inl q⟩
  · exact ⟨hl, .inr ⟨i, c, cap, rfl, hk i _ rfl ho, rr⟩⟩
theorem GRL.nil (R : AHeap → Value → α → Prop) (h : AHeap) : GRL R h (.slice none 0 0) [] := ⟨[], GS.nil 1 h, rfl, rfl, fun i x u hx => by simp at hx⟩
theorem GRL.empty (R : AHeap → Value → α → Prop) {id : Nat} (ho : h.own id = some (.cells [])) : GRL R h (.slice (some ⟨id, 0, none⟩) 0 0) [] := ⟨[], GS.full ho rfl (by decide), rfl, rfl, fun i x u hx => by simp at hx⟩
theorem GRL.push (s : Stays R) {t : TypeId} (ht : apT P t t 1 = true) (g : GRL R h v xs) (hwf : WF h) {u : Value} {x : α} (hu : R (rem (bl v) h) u x) (u1 : u.oneCell' = true) (hn : xs.length ≤ 100000000) :
    ∃ h4 v' h5, h.alloc (.cells [u]) = h4 ∧ aAppend P h4 t t v (.slice (some ⟨h.next, 0, none⟩) 1 1) = some (v', h5) ∧ GRL R h5 v' (xs ++ [x]) ∧ Le h h4 ∧ WF h4 ∧
      (∀ f, Le f h → Apart f v → Le f h5 ∧ Apart f v') ∧ (∀ b o, h.own b = some o → blk v ≠ some b → h5.own b = some o ∧ blk v' ≠ some b) := by
  obtain ⟨us, g1, g2, g3, g4⟩ := g
  have l4 : Le h (h.alloc (.cells [u])) := (Le.refl h).alloc hwf _
  have w4 : WF (h.alloc (.cells [u])) := hwf.alloc _
  have o4 : (h.alloc (.cells [u])).own h.next = some (.cells [u]) := AHeap.own_alloc_eq _ _
  obtain ⟨v', h5, e5, g5, hf⟩ := GS.push (P := P) ht (g1.le l4) o4 g3 u1 (by omega)
  refine ⟨_, v', h5, rfl, e5, ⟨us ++ [u], ?_, by simp [g2], by simpa [u1] using g3, fun i y w hy hw => ?_⟩, l4, w4, fun f lf af => hf f w4 (lf.trans l4) af, fun b o ho hb => keep_own hf w4 (l4.own _ _ ho) hb⟩
  · rw [List.length_append]; exact g5
  · have hrem : Apart (rem (bl v) h) v := fun b hb => by rw [rem_own, if_pos (mem_bl.2 hb)]
    obtain ⟨l5, a5⟩ := hf _ w4 ((rem_le (bl v) h).trans l4) hrem
    have le : Le (rem (bl v) h) (rem (bl v') h5) := l5.of_none fun i hi => a5 i (mem_bl.1 hi)
    by_cases hi : i < us.length
    · rw [List.getElem?_append_left hi] at hw
      rw [List.getElem?_append_left (by omega)] at hy
      exact s _ _ _ _ (g4 i y w hy hw) le
    · have e : i = us.length := by
        have := (List.getElem?_eq_some_iff.1 hw).1
        simp at this; omega
      subst e
      rw [List.getElem?_append_right (by omega)] at hw
      rw [List.getElem?_append_right (by omega), g2] at hy
      simp at hw hy
      subst hw hy
      exact s _ _ _ _ hu le
def RMR (l : List Nat) (R : AHeap → Value → α → Prop) : AHeap → Value → α → Prop := fun h u x => R (rem l h) u x
theorem RMR.stays (s : Stays R) (l : List Nat) : Stays (RMR l R) := fun _ _ _ _ r e => s _ _ _ _ r e.mono_rem
theorem rem_comm (l l' : List Nat) (h : AHeap) : Le (rem l (rem l' h)) (rem l' (rem l h)) :=
  ⟨by simp [rem_ext], fun i o hi => by
    obtain ⟨h1, h2⟩ := rem_some.1 hi
    obtain ⟨h3, h4⟩ := rem_some.1 h1
    exact rem_some.2 ⟨rem_some.2 ⟨h3, h2⟩, h4⟩⟩
theorem GRL.remI (s : Stays R) {l : List Nat} (g : GRL R (rem l h) v xs) : GRL (RMR l R) h v xs := by
  obtain ⟨us, g1, g2, g3, g4⟩ := g
  exact ⟨us, g1.le (rem_le _ _), g2, g3, fun i x u hx hu => s _ _ _ _ (g4 i x u hx hu) (rem_comm _ _ _)⟩
theorem GRL.remE (s : Stays R) {l : List Nat} (g : GRL (RMR l R) h v xs) (hb : ∀ b, blk v = some b → b ∉ l) : GRL R (rem l h) v xs := by
  obtain ⟨us, g1, g2, g3, g4⟩ := g
  exact ⟨us, g1.to_rem hb, g2, g3, fun i x u hx hu => s _ _ _ _ (g4 i x u hx hu) (rem_comm _ _ _)⟩
theorem GRL.push_rem (s : Stays R) {l : List Nat} {t : TypeId} (ht : apT P t t 1 = true) (g : GRL R (rem l h) v xs) (hwf : WF h) {u : Value} {x : α} (hu : R (rem l (rem (bl v) h)) u x) (u1 : u.oneCell' = true) (hn : xs.length ≤ 100000000)
    (hb : ∀ b, blk v = some b → b ∉ l) (hl : ∀ b ∈ l, h.own b ≠ none) :
    ∃ h4 v' h5, h.alloc (.cells [u]) = h4 ∧ aAppend P h4 t t v (.slice (some ⟨h.next, 0, none⟩) 1 1) = some (v', h5) ∧ GRL R (rem l h5) v' (xs ++ [x]) ∧ Le h h4 ∧ WF h4 ∧
      (∀ f, Le f h → Apart f v → Le f h5 ∧ Apart f v') ∧ (∀ b o, h.own b = some o → blk v ≠ some b → h5.own b = some o ∧ blk v' ≠ some b) := by
  obtain ⟨h4, v', h5, e4, e5, g5, l4, w4, f5, k5⟩ := GRL.push (RMR.stays s l) ht (g.remI s) hwf (u := u) (x := x) hu u1 hn
  refine ⟨h4, v', h5, e4, e5, g5.remE s fun b hb' hm => ?_, l4, w4, f5, k5⟩
  cases ho : h.own b with
  | none => exact hl b hm ho
  | some o => exact (k5 b o ho fun hc => hb b hc hm).2 hb'
end
end Go.Fw
