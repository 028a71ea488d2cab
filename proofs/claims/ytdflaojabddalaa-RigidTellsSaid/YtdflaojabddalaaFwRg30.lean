/- One of the texts of the layer and the walks: it proves what its theorems say of the functions of the seat, with no condition beyond theirs. -/
import Derived.Test.YtdflaojabddalaaFwRg8
import Derived.Test.YtdflaojabddalaaFwRep
set_option linter.unusedSimpArgs false
set_option linter.unusedVariables false
namespace Go.Fw
open Go.Proofs
set_option maxHeartbeats 1000000
set_option maxRecDepth 10000

/- plain: marking -/
def Adj (r : List (List Int)) (a b : Nat) : Prop := ∃ c, r[a]? = some c ∧ (b : Int) ∈ c
def Clo (r : List (List Int)) (M : List Bool) : Prop := ∀ a b, M[a]? = some true → Adj r a b → M[b]? = some true
structure Mark (r : List (List Int)) (M : List Bool) : Prop where
  len : M.length = r.length
  zero : M[0]? = some true
  reach : ∀ a, M[a]? = some true → Reach r a
theorem Mark.all {r : List (List Int)} {M : List Bool} (m : Mark r M) (c : Clo r M) {a : Nat} (ha : Reach r a) : M[a]? = some true := by
  induction ha with
  | zero => exact m.zero
  | step _ hc hw ih => exact c _ _ ih ⟨_, hc, hw⟩
theorem count_lt : ∀ {M N : List Bool}, M.length = N.length → (∀ a : Nat, M[a]? = some true → N[a]? = some true) → (∃ a : Nat, N[a]? = some true ∧ M[a]? ≠ some true) → M.count true < N.count true
  | [], [], _, _, ⟨a, h, _⟩ => by simp at h
  | [], _ :: _, h, _, _ => by simp at h
  | _ :: _, [], h, _, _ => by simp at h
  | x :: M, y :: N, hl, hs, ⟨a, h1, h2⟩ => by
    have hl' : M.length = N.length := by simpa using hl
    have hs' : ∀ a : Nat, M[a]? = some true → N[a]? = some true := fun a h => by simpa using hs (a + 1) (by simpa using h)
    have h0 := hs 0
    have le : M.count true ≤ N.count true := by
      have : ∀ {M N : List Bool}, M.length = N.length → (∀ a : Nat, M[a]? = some true → N[a]? = some true) → M.count true ≤ N.count true := by
        intro M
        induction M with
        | nil => intros; simp
        | cons x M ih =>
          intro N hl hs
          match N, hl with
          | y :: N, hl =>
            have := ih (N := N) (by simpa using hl) (fun a h => by simpa using hs (a + 1) (by simpa using h))
            have h0 := hs 0
            cases x <;> cases y <;> simp at h0 ⊢ <;> omega
      exact this hl' hs'
    cases a with
    | zero =>
      simp at h1 h2
      subst h1 h2
      simp; omega
    | succ a =>
      have := count_lt hl' hs' ⟨a, by simpa using h1, by simpa using h2⟩
      cases x <;> cases y <;> simp at h0 ⊢ <;> omega
/- one round more -/
theorem Mark.round {r : List (List Int)} {M N : List Bool} {i : Nat} (m : Mark r M) (n : Mark r N) (hs : ∀ a : Nat, M[a]? = some true → N[a]? = some true) (hc : ∀ a b, M[a]? = some true → Adj r a b → N[b]? = some true) (h : Clo r M ∨ i < M.count true) : Clo r N ∨ i + 1 < N.count true := by
  by_cases hcl : Clo r M
  · left
    intro a b ha hab
    exact hs b (m.all hcl (by obtain ⟨c, h1, h2⟩ := hab; exact (n.reach a ha).step h1 h2))
  · right
    rcases h with h | h
    · exact absurd h hcl
    · have : ∃ a b, M[a]? = some true ∧ Adj r a b ∧ M[b]? ≠ some true := by
        simp only [Clo] at hcl
        apply Classical.byContradiction
        intro hn
        apply hcl
        intro a b ha hab
        apply Classical.byContradiction
        intro hb
        exact hn ⟨a, b, ha, hab, hb⟩
      obtain ⟨a, b, h1, h2, h3⟩ := this
      have := count_lt (m.len.trans n.len.symm) hs ⟨b, hc a b h1 h2, h3⟩
      omega
theorem Mark.closed {r : List (List Int)} {M : List Bool} (m : Mark r M) (h : Clo r M ∨ r.length < M.count true) : Clo r M := by
  rcases h with h | h
  · exact h
  · have := List.count_le_length (a := true) (l := M)
    have := m.len
    omega

/- a circle is shorter than there are vertices -/
theorem Mutual.short {r : List (List Int)} (m : Mutual r) {v : Nat} {c : List Int} (hv : r[v]? = some c) : c.length < r.length := by
  have hnd : (c.map Int.toNat ++ [v]).Nodup := by
    rw [List.nodup_append]
    refine ⟨?_, by simp, ?_⟩
    · unfold List.Nodup
      rw [List.pairwise_iff_getElem]
      intro i j hi hj hij he
      simp only [List.length_map] at hi hj
      simp only [List.getElem_map] at he
      obtain ⟨p1, p2, p3, p4, p5⟩ := m v c hv i _ (List.getElem?_eq_getElem hi)
      obtain ⟨q1, q2, q3, q4, q5⟩ := m v c hv j _ (List.getElem?_eq_getElem hj)
      have : c[i] = c[j] := by omega
      rw [this] at p4
      omega
    · intro a ha b hb e
      have hb : b = v := by simpa using hb
      rw [List.mem_map] at ha
      obtain ⟨x, hx, hxa⟩ := ha
      obtain ⟨i, hi⟩ := List.mem_iff_getElem?.1 hx
      obtain ⟨p1, p2, p3, _⟩ := m v c hv i x hi
      exact p3 (by omega)
  have hlt : ∀ a ∈ c.map Int.toNat ++ [v], a < r.length := by
    intro a ha
    rcases List.mem_append.1 ha with ha | ha
    · rw [List.mem_map] at ha
      obtain ⟨x, hx, rfl⟩ := ha
      obtain ⟨i, hi⟩ := List.mem_iff_getElem?.1 hx
      obtain ⟨p1, p2, p3, _⟩ := m v c hv i x hi
      omega
    · simp at ha; subst ha; exact (List.getElem?_eq_some_iff.1 hv).1
  have := (nodup_le _ _ hnd hlt).1
  simp at this; omega
end Go.Fw
