/- One of the texts of the layer and the walks: it proves what its theorems say of the functions of the seat, with no condition beyond theirs. -/
import Derived.Test.YtdflaojabddalaaFwRg51
set_option linter.unusedSimpArgs false
set_option linter.unusedVariables false
namespace Go.Fw
open Go.Proofs
set_option maxHeartbeats 1000000

/- a list whose places are set, one after another -/
def setA {α : Type} (f : Nat → Nat) (g : Nat → α) (z : List α) : Nat → List α
  | 0 => z
  | k + 1 => (setA f g z k).set (f k) (g k)
theorem setA_length {α : Type} (f : Nat → Nat) (g : Nat → α) (z : List α) : ∀ k, (setA f g z k).length = z.length
  | 0 => rfl
  | k + 1 => by simp [setA, setA_length f g z k]
theorem setA_other {α : Type} {f : Nat → Nat} {g : Nat → α} {z : List α} {w : Nat} : ∀ k, (∀ v, v < k → f v ≠ w) → (setA f g z k)[w]? = z[w]?
  | 0, _ => rfl
  | k + 1, h => by
    rw [setA, List.getElem?_set_ne (h k (Nat.lt_succ_self k))]
    exact setA_other k fun v hv => h v (by omega)
theorem setA_at {α : Type} {f : Nat → Nat} {g : Nat → α} {z : List α} {n : Nat} (hz : z.length = n) (hl : ∀ v, v < n → f v < n) (hi : ∀ v w, v < n → w < n → f v = f w → v = w) {v : Nat} : ∀ k, k ≤ n → v < k → (setA f g z k)[f v]? = some (g v)
  | 0, _, h => absurd h (by omega)
  | k + 1, hk, hv => by
    rw [setA]
    by_cases e : v = k
    · subst e
      rw [List.getElem?_set_self (by rw [setA_length, hz]; exact hl v (by omega))]
    · rw [List.getElem?_set_ne (fun q => e (hi v k (by omega) (by omega) q.symm))]
      exact setA_at hz hl hi k (by omega) (by omega)

/- a map of the numbers below n -/
structure MapN (n : Nat) (f : Nat → Nat) : Prop where
  lt : ∀ v, v < n → f v < n
  inj : ∀ v w, v < n → w < n → f v = f w → v = w
theorem MapN.onto {n : Nat} {f : Nat → Nat} (m : MapN n f) {w : Nat} (hw : w < n) : ∃ v, v < n ∧ f v = w := by
  have := (perm_range (l := (List.range n).map f) (by simp) (map_nodup m.inj) (by
    intro x hx
    rw [List.mem_map] at hx
    obtain ⟨y, hy, rfl⟩ := hx
    exact m.lt y (List.mem_range.1 hy))).symm.subset (List.mem_range.2 hw)
  rw [List.mem_map] at this
  obtain ⟨v, hv, e⟩ := this
  exact ⟨v, List.mem_range.1 hv, e⟩

def tn (turns : List Int) (v : Nat) : Nat := (turns.getD v 0).toNat
def cN (S : SkinM) (turns : List Int) (v : Nat) : Nat := tn turns v % dg S v
def pN (S : SkinM) (ab : Bool) (turns : List Int) (v i : Nat) : Nat := atM ab (cN S turns v) i (dg S v)
def rowN (S : SkinM) (f : Nat → Nat) (ab : Bool) (turns : List Int) (v : Nat) : List Int := (List.range (dg S v)).map fun i => ((f (nb S v (pN S ab turns v i)) : Nat) : Int)
def rowD (S : SkinM) (ab : Bool) (turns : List Int) (v : Nat) : List (List Int) := (List.range (dg S v)).map fun i => colD S v (pN S ab turns v i)
def skinA (S : SkinM) (f : Nat → Nat) (ab : Bool) (turns : List Int) (k : Nat) : SkinM :=
  ⟨setA f (rowN S f ab turns) (List.replicate S.rot.length []) k, setA f (colV S) (List.replicate S.rot.length []) k, setA f (rowD S ab turns) (List.replicate S.rot.length []) k⟩
def skinN (S : SkinM) (f : Nat → Nat) (ab : Bool) (turns : List Int) : SkinM := skinA S f ab turns S.rot.length
def bN (S : SkinM) (ab : Bool) (turns : List Int) (v : Nat) : Nat := if ab then cN S turns v else (dg S v - cN S turns v) % dg S v

theorem atM_back (ab : Bool) {c p n : Nat} (hc : c < n) (hp : p < n) : atM ab c (atM ab (if ab then c else (n - c) % n) p n) n = p := by
  have hn : 0 < n := by omega
  have hb : (if ab then c else (n - c) % n) < n := by split; exact hc; exact Nat.mod_lt _ hn
  have key : (n - c) % n = if c = 0 then 0 else n - c := by
    split
    · subst_vars; simp
    · exact Nat.mod_eq_of_lt (by omega)
  rw [atM_val hc (atM_lt _ _ _ hn), atM_val hb hp, key]
  cases ab <;> simp only [Bool.false_eq_true, if_true, if_false] <;> (repeat' split) <;> omega

section
variable {S : SkinM} {f : Nat → Nat} {ab : Bool} {turns : List Int}

theorem cN_lt {v : Nat} (h : 0 < dg S v) : cN S turns v < dg S v := Nat.mod_lt _ h
theorem pN_lt {v i : Nat} (h : i < dg S v) : pN S ab turns v i < dg S v := atM_lt _ _ _ (by omega)
theorem skinN_len : (skinN S f ab turns).rot.length = S.rot.length := by simp [skinN, skinA, setA_length]
theorem skinN_rot (m : MapN S.rot.length f) {v : Nat} (hv : v < S.rot.length) : (skinN S f ab turns).rot[f v]? = some (rowN S f ab turns v) := setA_at (by simp) m.lt m.inj _ (Nat.le_refl _) hv
theorem skinN_vert (m : MapN S.rot.length f) {v : Nat} (hv : v < S.rot.length) : (skinN S f ab turns).vert[f v]? = some (colV S v) := setA_at (by simp) m.lt m.inj _ (Nat.le_refl _) hv
theorem skinN_dart (m : MapN S.rot.length f) {v : Nat} (hv : v < S.rot.length) : (skinN S f ab turns).dart[f v]? = some (rowD S ab turns v) := setA_at (by simp) m.lt m.inj _ (Nat.le_refl _) hv
theorem rowN_get {v i : Nat} (hi : i < dg S v) : (rowN S f ab turns v)[i]? = some ((f (nb S v (pN S ab turns v i)) : Nat) : Int) := by simp [rowN, hi]
theorem rowD_get {v i : Nat} (hi : i < dg S v) : (rowD S ab turns v)[i]? = some (colD S v (pN S ab turns v i)) := by simp [rowD, hi]
theorem rowN_length (v : Nat) : (rowN S f ab turns v).length = dg S v := by simp [rowN]
theorem rowD_length (v : Nat) : (rowD S ab turns v).length = dg S v := by simp [rowD]

theorem names_iso (m : MapN S.rot.length f) : IsoS S (skinN S f ab turns) f (bN S ab turns) ab := by
  have hd : ∀ v, v < S.rot.length → dg (skinN S f ab turns) (f v) = dg S v := fun v hv => by
    rw [dg, List.getD_eq_getElem?_getD, skinN_rot m hv, Option.getD_some, rowN_length]
  have hb : ∀ v, 0 < dg S v → bN S ab turns v < dg S v := fun v h => by
    unfold bN; split
    · exact cN_lt h
    · exact Nat.mod_lt _ h
  have hk : ∀ v p, p < dg S v → pN S ab turns v (atM ab (bN S ab turns v) p (dg S v)) = p := fun v p hp => atM_back ab (cN_lt (by omega)) hp
  refine ⟨skinN_len, m.lt, m.inj, fun v hv => ?_, hd, fun v _ h => hb v h, fun v p hv hp => ?_, fun v p hv hp => ?_⟩
  · rw [colV, List.getD_eq_getElem?_getD, skinN_vert m hv]; rfl
  · rw [nb, List.getD_eq_getElem?_getD (l := (skinN S f ab turns).rot), skinN_rot m hv, Option.getD_some, List.getD_eq_getElem?_getD, rowN_get (atM_lt _ _ _ (by omega)), hk v p hp]; simp
  · rw [colD, List.getD_eq_getElem?_getD (l := (skinN S f ab turns).dart), skinN_dart m hv, Option.getD_some, List.getD_eq_getElem?_getD, rowD_get (atM_lt _ _ _ (by omega)), hk v p hp]; simp

theorem names_right (hr : RightS S) (m : MapN S.rot.length f) : RightS (skinN S f ab turns) := by
  have hat : ∀ {w : Nat} {c : List Int}, (skinN S f ab turns).rot[w]? = some c → ∃ v, v < S.rot.length ∧ f v = w ∧ c = rowN S f ab turns v := by
    intro w c hc
    have hw : w < S.rot.length := by rw [← skinN_len (f := f) (ab := ab) (turns := turns)]; exact (List.getElem?_eq_some_iff.1 hc).1
    obtain ⟨v, hv, rfl⟩ := m.onto hw
    rw [skinN_rot m hv] at hc
    injection hc with hc
    exact ⟨v, hv, rfl, hc.symm⟩
  have huniq : ∀ {v i j : Nat}, v < S.rot.length → i < dg S v → j < dg S v → f (nb S v (pN S ab turns v i)) = f (nb S v (pN S ab turns v j)) → i = j := by
    intro v i j hv hi hj e
    have h1 := (nb_ok hr hv (pN_lt (ab := ab) (turns := turns) hi)).1
    have h2 := (nb_ok hr hv (pN_lt (ab := ab) (turns := turns) hj)).1
    have := nb_inj hr hv (pN_lt hi) (pN_lt hj) (m.inj _ _ h1 h2 e)
    exact atM_inj ab (cN_lt (turns := turns) (by omega)) hi hj this
  refine ⟨by rw [skinN_len]; exact hr.pos, by rw [skinN_len]; exact hr.le, by simp [skinN, skinA, setA_length], by simp [skinN, skinA, setA_length], ?_, ?_, ?_, ?_⟩
  · intro w c hc
    obtain ⟨v, hv, rfl, rfl⟩ := hat hc
    rw [rowN_length, skinN_len, dg, getD_of hv]
    exact hr.short v _ (getElem?_of hv)
  · intro w c ds hc hds
    obtain ⟨v, hv, rfl, rfl⟩ := hat hc
    rw [skinN_dart m hv] at hds
    injection hds with hds
    subst hds
    rw [rowN_length, rowD_length]
  · intro w c hc i x hx
    obtain ⟨v, hv, rfl, rfl⟩ := hat hc
    have hi : i < dg S v := by have := (List.getElem?_eq_some_iff.1 hx).1; rwa [rowN_length] at this
    rw [rowN_get hi] at hx
    injection hx with hx
    subst hx
    obtain ⟨h1, h2, h3, h4, h5, h6⟩ := nb_ok hr hv (pN_lt (ab := ab) (turns := turns) hi)
    refine ⟨by omega, ?_, ?_, ?_, ?_⟩
    · rw [skinN_len]; have := m.lt _ h1; omega
    · intro e
      have e : f (nb S v (pN S ab turns v i)) = f v := by omega
      exact h2 (m.inj _ _ h1 hv e)
    · rw [placeM_eq]
      have hm : ((f (nb S v (pN S ab turns v i)) : Nat) : Int) ∈ rowN S f ab turns v := by
        rw [rowN, List.mem_map]; exact ⟨i, List.mem_range.2 hi, rfl⟩
      rw [if_pos hm]
      have hlt := List.idxOf_lt_length_of_mem hm
      have hg := List.getElem_idxOf hlt
      rw [rowN_length] at hlt
      have e2 := rowN_get (S := S) (f := f) (ab := ab) (turns := turns) hlt
      rw [getElem?_of (by rw [rowN_length]; exact hlt), hg] at e2
      injection e2 with e2
      have := huniq hv hi hlt (by omega)
      omega
    · intro c' hc'
      rw [Int.toNat_natCast, skinN_rot m h1] at hc'
      injection hc' with hc'
      subst hc'
      have hj : ∃ j, j < dg S (nb S v (pN S ab turns v i)) ∧ pN S ab turns (nb S v (pN S ab turns v i)) j = plM S (nb S v (pN S ab turns v i)) v := atM_onto ab (cN_lt (by omega)) h5
      obtain ⟨j, hj, hjp⟩ := hj
      have hm : ((f v : Nat) : Int) ∈ rowN S f ab turns (nb S v (pN S ab turns v i)) := by
        rw [rowN, List.mem_map]; exact ⟨j, List.mem_range.2 hj, by rw [hjp, h6]⟩
      rw [placeM_eq, if_pos hm]; omega
  · intro w hw
    rw [skinN_len] at hw
    obtain ⟨v, hv, rfl⟩ := m.onto hw
    have hp := hr.pos
    obtain ⟨v0, hv0, e0⟩ := m.onto (w := 0) (by omega)
    have hmem : ∀ x, x ∈ (List.range S.rot.length).filter (fun v => @decide (Reach (skinN S f ab turns).rot (f v)) (Classical.propDecidable _)) ↔ x < S.rot.length ∧ Reach (skinN S f ab turns).rot (f x) := by
      intro x
      rw [List.mem_filter, List.mem_range, @decide_eq_true_iff _ (Classical.propDecidable _)]
    have := closed_all hr (L := (List.range S.rot.length).filter (fun v => @decide (Reach (skinN S f ab turns).rot (f v)) (Classical.propDecidable _))) (fun x hx => ((hmem x).1 hx).1) (fun e => by
      have h0 : v0 ∈ (List.range S.rot.length).filter (fun v => @decide (Reach (skinN S f ab turns).rot (f v)) (Classical.propDecidable _)) := (hmem v0).2 ⟨hv0, by rw [e0]; exact .zero⟩
      rw [e] at h0; cases h0) (fun u hu p hp => by
      obtain ⟨h1, h2⟩ := (hmem u).1 hu
      refine (hmem _).2 ⟨(nb_ok hr h1 hp).1, ?_⟩
      refine .step h2 (skinN_rot m h1) ?_
      have hj : ∃ j, j < dg S u ∧ pN S ab turns u j = p := atM_onto ab (cN_lt (by omega)) hp
      obtain ⟨j, hj, hjp⟩ := hj
      rw [rowN, List.mem_map]
      exact ⟨j, List.mem_range.2 hj, by rw [hjp]⟩) v hv
    exact ((hmem v).1 this).2
end
end Go.Fw
