/- One of the texts of the layer and the walks: it proves what its theorems say of the functions of the seat, with no condition beyond theirs. -/
import Derived.Test.YtmakcgajgepabaaFwW4
import Derived.Test.YtmakcgajgepabaaFwW2
set_option linter.unusedSimpArgs false
set_option linter.unusedVariables false
namespace Go.Fw
open Go.Proofs
set_option maxHeartbeats 8000000
set_option maxRecDepth 10000
structure FarI (n : Nat) (es : List Pr) (s : Nat) (L : List Int) (met : List Nat) (cl : Nat → Nat → Prop) : Prop where
  len : L.length = n
  val : ∀ (v : Nat) (x : Int), L[v]? = some x → x = -1 ∨ 0 ≤ x ∧ v ∈ met
  mm : ∀ v ∈ met, v < n ∧ Con es s v ∧ ∃ x : Int, L[v]? = some x ∧ 0 ≤ x
  nd : met.Nodup
  s0 : L[s]? = some 0
  ms : s ∈ met
  pre : ∀ (v : Nat) (x : Int), L[v]? = some x → 0 < x → ∃ w, adj es v w ∧ L[w]? = some (x - 1)
  zero : ∀ (v : Nat), L[v]? = some 0 → v = s
  cl : ∀ u w, cl u w → w ∈ met
  bd : ∀ (v : Nat) (x : Int), L[v]? = some x → x + 1 ≤ met.length
structure Far (n : Nat) (es : List Pr) (s : Nat) (L : List Int) : Prop where
  len : L.length = n
  pos : ∀ (v : Nat) (x : Int), L[v]? = some x → (0 ≤ x ↔ Con es s v)
  pre : ∀ (v : Nat) (x : Int), L[v]? = some x → 0 < x → ∃ w, adj es v w ∧ L[w]? = some (x - 1)
  zero : ∀ (v : Nat), L[v]? = some 0 → v = s
  bd : ∀ (v : Nat) (x : Int), L[v]? = some x → -1 ≤ x ∧ x + 1 ≤ n
theorem FarI.start {n : Nat} {es : List Pr} {s : Nat} (hs : s < n) (cl : Nat → Nat → Prop) (hcl : ∀ u w, ¬ cl u w) : FarI n es s ((List.replicate n (-1)).set s 0) [s] cl := by
  have gs : ∀ (v : Nat) (x : Int), ((List.replicate n (-1 : Int)).set s 0)[v]? = some x → v = s ∧ x = 0 ∨ x = -1 := by
    intro v x h
    rw [List.getElem?_set] at h
    split at h
    · rename_i e; split at h
      · injection h with h; exact .inl ⟨e.symm, h.symm⟩
      · cases h
    · rw [List.getElem?_replicate] at h
      split at h
      · injection h with h; exact .inr h.symm
      · cases h
  have h0 : ((List.replicate n (-1 : Int)).set s 0)[s]? = some 0 := by rw [List.getElem?_set]; simp [hs]
  refine ⟨by simp, fun v x h => ?_, fun v hv => ?_, by simp, h0, by simp, fun v x h hx => ?_, fun v h => ?_, fun u w h => absurd h (hcl u w), fun v x h => ?_⟩
  · rcases gs v x h with ⟨rfl, rfl⟩ | rfl
    · exact .inr ⟨Int.le_refl _, by simp⟩
    · exact .inl rfl
  · rw [List.mem_singleton] at hv; subst hv; exact ⟨hs, Con.refl es _, 0, h0, Int.le_refl _⟩
  · rcases gs v x h with ⟨rfl, rfl⟩ | rfl <;> omega
  · rcases gs v 0 h with ⟨rfl, _⟩ | e
    · rfl
    · omega
  · rcases gs v x h with ⟨rfl, rfl⟩ | rfl <;> simp
theorem FarI.mono {n : Nat} {es : List Pr} {s : Nat} {L : List Int} {met : List Nat} {cl cl' : Nat → Nat → Prop} (t : FarI n es s L met cl) (h : ∀ u w, cl' u w → cl u w) : FarI n es s L met cl' :=
  { t with cl := fun u w hc => t.cl u w (h u w hc) }
theorem FarI.stay {n : Nat} {es : List Pr} {s : Nat} {L : List Int} {met : List Nat} {cl cl' : Nat → Nat → Prop} (t : FarI n es s L met cl) {w : Nat} {x : Int} (hx : L[w]? = some x) (h0 : 0 ≤ x) (h : ∀ a b, cl' a b → cl a b ∨ b = w) : FarI n es s L met cl' :=
  have hw : w ∈ met := by
    rcases t.val _ _ hx with h | h
    · omega
    · exact h.2
  { t with cl := fun a b hc => (h a b hc).elim (fun h => t.cl a b h) (fun e => by rw [e]; exact hw) }
theorem FarI.push {n : Nat} {es : List Pr} {s : Nat} {L : List Int} {met : List Nat} {cl cl' : Nat → Nat → Prop} (t : FarI n es s L met cl) {u w : Nat} {d x : Int} (hu : u ∈ met) (hd : L[u]? = some d) (ha : adj es u w) (hx : L[w]? = some x) (h0 : x < 0) (h : ∀ a b, cl' a b → cl a b ∨ b = w) :
    FarI n es s (L.set w (d + 1)) (met ++ [w]) cl' := by
  have hwl := (List.getElem?_eq_some_iff.1 hx).1
  have hd0 : 0 ≤ d := by obtain ⟨_, _, y, hy, h0⟩ := t.mm u hu; rw [hd] at hy; injection hy with hy; omega
  have hwm : w ∉ met := fun hm => by obtain ⟨_, _, y, hy, h0'⟩ := t.mm w hm; rw [hx] at hy; injection hy with hy; omega
  have keep : ∀ (v : Nat) (y : Int), L[v]? = some y → 0 ≤ y → (L.set w (d + 1))[v]? = some y := fun v y hy hy0 => by
    rw [List.getElem?_set]
    split
    · rename_i e; subst e; rw [hx] at hy; injection hy with hy; omega
    · exact hy
  have gs : ∀ (v : Nat) (y : Int), (L.set w (d + 1))[v]? = some y → v = w ∧ y = d + 1 ∨ v ≠ w ∧ L[v]? = some y := fun v y hy => by
    rw [List.getElem?_set] at hy
    split at hy
    · rename_i e; injection hy with hy; exact .inl ⟨e.symm, hy.symm⟩
    · rename_i e; exact .inr ⟨Ne.symm e, hy⟩
  refine ⟨by simp [t.len], fun v y hy => ?_, fun v hv => ?_, ?_, keep _ _ t.s0 (Int.le_refl _), List.mem_append_left _ t.ms, fun v y hy hy0 => ?_, fun v hv => ?_, fun a b hc => ?_, fun v y hy => ?_⟩
  · rcases gs v y hy with ⟨rfl, rfl⟩ | ⟨_, hy⟩
    · exact .inr ⟨by omega, by simp⟩
    · rcases t.val v y hy with h | ⟨h1, h2⟩
      · exact .inl h
      · exact .inr ⟨h1, List.mem_append_left _ h2⟩
  · rw [List.mem_append, List.mem_singleton] at hv
    rcases hv with hv | rfl
    · obtain ⟨h1, h2, y, hy, hy0⟩ := t.mm v hv
      exact ⟨h1, h2, y, keep _ _ hy hy0, hy0⟩
    · exact ⟨by rw [← t.len]; exact hwl, .step (t.mm u hu).2.1 ha rfl, d + 1, by rw [List.getElem?_set]; simp [hwl], by omega⟩
  · rw [List.nodup_append]
    exact ⟨t.nd, by simp, fun a ham b hb e => by rw [List.mem_singleton] at hb; subst hb; subst e; exact hwm ham⟩
  · rcases gs v y hy with ⟨rfl, rfl⟩ | ⟨_, hy⟩
    · exact ⟨u, ha.symm, by rw [show d + 1 - 1 = d by omega]; exact keep _ _ hd hd0⟩
    · obtain ⟨b, hb, hb2⟩ := t.pre v y hy hy0
      exact ⟨b, hb, keep _ _ hb2 (by omega)⟩
  · rcases gs v 0 hv with ⟨_, e⟩ | ⟨_, hy⟩
    · omega
    · exact t.zero v hy
  · rw [List.mem_append, List.mem_singleton]
    rcases h a b hc with h | rfl
    · exact .inl (t.cl a b h)
    · exact .inr rfl
  · simp only [List.length_append, List.length_singleton]
    rcases gs v y hy with ⟨rfl, rfl⟩ | ⟨_, hy⟩
    · have := t.bd u d hd; omega
    · have := t.bd v y hy; omega
theorem FarI.len_met {n : Nat} {es : List Pr} {s : Nat} {L : List Int} {met : List Nat} {cl : Nat → Nat → Prop} (t : FarI n es s L met cl) : met.length ≤ n := by
  have := t.nd.length_le_of_subset (l₂ := List.range n) fun v hv => List.mem_range.2 (t.mm v hv).1
  simpa using this
theorem FarI.finish {n : Nat} {es : List Pr} {s : Nat} {L : List Int} {met : List Nat} {cl : Nat → Nat → Prop} (t : FarI n es s L met cl) (h : ∀ u w, u ∈ met → adj es u w → cl u w) : Far n es s L := by
  have all : ∀ v, Con es s v → v ∈ met := by
    intro v hc
    induction hc with
    | refl _ => exact t.ms
    | step _ a _ ih => exact t.cl _ _ (h _ _ ih a)
  refine ⟨t.len, fun v x hx => ⟨fun h0 => ?_, fun hc => ?_⟩, t.pre, t.zero, fun v x hx => ?_⟩
  · rcases t.val v x hx with h | ⟨_, h⟩
    · omega
    · exact (t.mm v h).2.1
  · obtain ⟨_, _, y, hy, h0⟩ := t.mm v (all v hc)
    rw [hx] at hy; injection hy with hy; omega
  · have := t.bd v x hx
    have := t.len_met
    rcases t.val v x hx with h | ⟨h, _⟩ <;> omega
end Go.Fw
