/- One of the texts of the layer and the walks: it proves what its theorems say of the functions of the seat, with no condition beyond theirs. -/
import Derived.Test.YtmakcgajgepabaaFwX1
set_option linter.unusedSimpArgs false
set_option linter.unusedVariables false
namespace Go.Fw
open Go.Proofs
set_option maxRecDepth 10000
section
variable {α : Type} [DecidableEq α]
def setK : List (α × Int) → α → Int → List (α × Int)
  | [], k, v => [(k, v)]
  | (a, b) :: r, k, v => if a = k then (k, v) :: r else (a, b) :: setK r k v
def lookK : List (α × Int) → α → Option Int
  | [], _ => none
  | (a, b) :: r, k => if a = k then some b else lookK r k
theorem lookK_set (l : List (α × Int)) (k k' : α) (v : Int) : lookK (setK l k v) k' = if k = k' then some v else lookK l k' := by
  induction l with
  | nil => simp [setK, lookK]
  | cons x r ih =>
    obtain ⟨a, b⟩ := x
    simp only [setK]
    by_cases h : a = k
    · subst h; rw [if_pos rfl]; simp only [lookK]; split <;> simp_all
    · rw [if_neg h]; simp only [lookK, ih]
      by_cases h2 : a = k'
      · subst h2; simp [Ne.symm h]
      · simp [h2]
theorem lookK_mem {l : List (α × Int)} {k : α} : lookK l k ≠ none ↔ k ∈ l.map (·.1) := by
  induction l with
  | nil => simp [lookK]
  | cons x r ih =>
    obtain ⟨a, b⟩ := x
    simp only [lookK, List.map_cons, List.mem_cons]
    by_cases h : a = k
    · simp [h]
    · rw [if_neg h, ih]; simp [Ne.symm h]
theorem setK_keys (l : List (α × Int)) (k k' : α) (v : Int) : k' ∈ (setK l k v).map (·.1) ↔ k' = k ∨ k' ∈ l.map (·.1) := by
  rw [← lookK_mem, lookK_set, ← lookK_mem]
  by_cases h : k = k'
  · simp [h]
  · simp [h, Ne.symm h]
theorem setK_nodup {l : List (α × Int)} (h : (l.map (·.1)).Nodup) (k : α) (v : Int) : ((setK l k v).map (·.1)).Nodup := by
  induction l with
  | nil => simp [setK]
  | cons x r ih =>
    obtain ⟨a, b⟩ := x
    rw [List.map_cons, List.nodup_cons] at h
    simp only [setK]
    split
    · rename_i e; subst e; rw [List.map_cons, List.nodup_cons]; exact h
    · rename_i e
      rw [List.map_cons, List.nodup_cons]
      exact ⟨fun hm => by
        rcases (setK_keys r k a v).1 hm with h1 | h1
        · exact e h1
        · exact h.1 h1, ih h.2⟩
theorem setK_at (l : List (α × Int)) (k : α) (v : Int) : (lookK l k = none ∧ setK l k v = l ++ [(k, v)]) ∨ ∃ (j : Nat) (b : Int), lookK l k = some b ∧ l[j]? = some (k, b) ∧ (∀ i, i < j → ∀ x, l[i]? = some x → x.1 ≠ k) ∧ setK l k v = l.set j (k, v) := by
  induction l with
  | nil => exact .inl ⟨rfl, rfl⟩
  | cons x r ih =>
    obtain ⟨a, b⟩ := x
    simp only [setK, lookK]
    by_cases h : a = k
    · subst h
      rw [if_pos rfl, if_pos rfl]
      exact .inr ⟨0, b, rfl, rfl, by omega, rfl⟩
    · rw [if_neg h, if_neg h]
      rcases ih with ⟨h1, h2⟩ | ⟨j, c, h1, h2, h3, h4⟩
      · exact .inl ⟨h1, by rw [h2]; rfl⟩
      · refine .inr ⟨j + 1, c, h1, by simpa using h2, fun i hi x hx => ?_, by rw [h4]; rfl⟩
        cases i with
        | zero => simp at hx; subst hx; exact h
        | succ i => exact h3 i (by omega) x (by simpa using hx)
end
def mapI (l : List (Int × Int)) : List (Value × Value) := l.map fun x => (.int .i64 x.1, .int .i64 x.2)
theorem mfind_mapI (k : Int) : ∀ (l : List (Int × Int)) (i : Nat), (lookK l k = none → mfind .i64 k (mapI l) i = some none) ∧ ∀ (j : Nat) b, l[j]? = some (k, b) → (∀ q, q < j → ∀ x, l[q]? = some x → x.1 ≠ k) → mfind .i64 k (mapI l) i = some (some (i + j, .int .i64 b))
  | [], i => ⟨fun _ => rfl, fun j b h => by simp at h⟩
  | (a, b) :: r, i => by
    obtain ⟨h1, h2⟩ := mfind_mapI k r (i + 1)
    constructor
    · intro h
      simp only [lookK] at h
      by_cases e : a = k
      · rw [if_pos e] at h; cases h
      · rw [if_neg e] at h
        show (if IntKind.i64 = IntKind.i64 then (if k = a then _ else mfind .i64 k (mapI r) (i + 1)) else none) = _
        rw [if_pos rfl, if_neg (Ne.symm e)]; exact h1 h
    · intro j c hj hlt
      cases j with
      | zero =>
        simp at hj
        obtain ⟨rfl, rfl⟩ := hj
        show (if IntKind.i64 = IntKind.i64 then (if a = a then _ else mfind .i64 a (mapI r) (i + 1)) else none) = _
        rw [if_pos rfl, if_pos rfl]; rfl
      | succ j =>
        have e : a ≠ k := hlt 0 (by omega) (a, b) rfl
        show (if IntKind.i64 = IntKind.i64 then (if k = a then _ else mfind .i64 k (mapI r) (i + 1)) else none) = _
        rw [if_pos rfl, if_neg (Ne.symm e), h2 j c (by simpa using hj) fun q hq x hx => hlt (q + 1) (by omega) x (by simpa using hx)]
        congr 3; omega
theorem mapI_look {h : AHeap} {M : Nat} {l : List (Int × Int)} (ho : h.own M = some (.map (mapI l))) (k : Int) (ok : Bool) :
    aLookup Try.prog h 47 (.map (some M)) (.int .i64 k) ok = some (bif ok then .tuple #[.int .i64 ((lookK l k).getD 0), .bool (lookK l k).isSome] else .int .i64 ((lookK l k).getD 0)) := by
  have hz : azero Try.prog 3 = some (.int .i64 0) := by kernel_rfl
  simp only [aLookup, Try.underlying47, Try.underlying3, ho, hz, show flat (.int .i64 0) = true from rfl, if_true]
  rcases setK_at l k 0 with ⟨h1, _⟩ | ⟨j, b, h1, h2, h3, _⟩
  · rw [(mfind_mapI k l 0).1 h1, h1]; rfl
  · rw [(mfind_mapI k l 0).2 j b h2 h3, h1]; rfl
theorem mapI_set {h : AHeap} {M : Nat} {l : List (Int × Int)} (ho : h.own M = some (.map (mapI l))) (k v : Int) : aMapSet Try.prog h 47 (.map (some M)) (.int .i64 k) (.int .i64 v) = some (h.put M (.map (mapI (setK l k v)))) := by
  simp only [aMapSet, Try.underlying47, Try.underlying3, ho]
  rcases setK_at l k v with ⟨h1, h4⟩ | ⟨j, b, h1, h2, h3, h4⟩
  · rw [(mfind_mapI k l 0).1 h1, h4]; simp [mapI]
  · rw [(mfind_mapI k l 0).2 j b h2 h3, h4]; simp [mapI, List.map_set]
theorem mapI_len {h : AHeap} {M : Nat} {l : List (Int × Int)} (ho : h.own M = some (.map (mapI l))) : aLen Try.prog h 47 (.map (some M)) = some (.int .i64 l.length) := by
  simp [aLen, Try.underlying47, ho, mapI]
def mapP (l : List (Pr × Int)) : List (Value × Value) := l.map fun x => (valP x.1, .int .i64 x.2)
theorem afind_mapP (k : Pr) : ∀ (l : List (Pr × Int)) (i : Nat), (lookK l k = none → afind Try.prog 42 (valP k) (mapP l) i = some none) ∧ ∀ (j : Nat) b, l[j]? = some (k, b) → (∀ q, q < j → ∀ x, l[q]? = some x → x.1 ≠ k) → afind Try.prog 42 (valP k) (mapP l) i = some (some (i + j, .int .i64 b))
  | [], i => ⟨fun _ => rfl, fun j b h => by simp at h⟩
  | (a, b) :: r, i => by
    obtain ⟨h1, h2⟩ := afind_mapP k r (i + 1)
    have un : afind Try.prog 42 (valP k) (mapP ((a, b) :: r)) i = match aEq Try.prog 42 (valP k) (valP a) with | some true => some (some (i, .int .i64 b)) | some false => afind Try.prog 42 (valP k) (mapP r) (i + 1) | none => none := rfl
    rw [un, eqP]
    constructor
    · intro h
      simp only [lookK] at h
      by_cases e : a = k
      · rw [if_pos e] at h; cases h
      · rw [if_neg e] at h
        have : decide (k = a) = false := by simpa using Ne.symm e
        rw [this]; exact h1 h
    · intro j c hj hlt
      cases j with
      | zero =>
        simp at hj
        obtain ⟨rfl, rfl⟩ := hj
        have : decide (a = a) = true := by simp
        rw [this]; rfl
      | succ j =>
        have e : a ≠ k := hlt 0 (by omega) (a, b) rfl
        have : decide (k = a) = false := by simpa using Ne.symm e
        rw [this]
        show afind Try.prog 42 (valP k) (mapP r) (i + 1) = _
        rw [h2 j c (by simpa using hj) fun q hq x hx => hlt (q + 1) (by omega) x (by simpa using hx)]
        congr 3; omega
theorem keyP (p : Pr) : keyArr Try.prog 42 (valP p) = true := by
  have : allInts [.int .i64 p.1, .int .i64 p.2] = some [(IntKind.i64, p.1), (IntKind.i64, p.2)] := rfl
  simp [keyArr, Try.underlying42, Try.underlying3, valP, this, ts3]
theorem lookP_none {h : AHeap} {x : Value} (p : Pr) (ok : Bool) : aLookup Try.prog h 46 x (valP p) ok = none := by
  simp only [aLookup, Try.underlying46, valP]
theorem setP_none {h : AHeap} {x v : Value} (p : Pr) : aMapSet Try.prog h 46 x (valP p) v = none := by
  simp only [aMapSet, Try.underlying46, valP]
theorem mapP_look {h : AHeap} {M : Nat} {l : List (Pr × Int)} (ho : h.own M = some (.map (mapP l))) (k : Pr) (ok : Bool) :
    aLookupA Try.prog h 46 (.map (some M)) (valP k) ok = some (bif ok then .tuple #[.int .i64 ((lookK l k).getD 0), .bool (lookK l k).isSome] else .int .i64 ((lookK l k).getD 0)) := by
  have hz : azero Try.prog 3 = some (.int .i64 0) := by kernel_rfl
  simp only [aLookupA, Try.underlying46, keyP, ho, hz, show flat (.int .i64 0) = true from rfl, if_true]
  rcases setK_at l k 0 with ⟨h1, _⟩ | ⟨j, b, h1, h2, h3, _⟩
  · rw [(afind_mapP k l 0).1 h1, h1]; rfl
  · rw [(afind_mapP k l 0).2 j b h2 h3, h1]; rfl
theorem mapP_set {h : AHeap} {M : Nat} {l : List (Pr × Int)} (ho : h.own M = some (.map (mapP l))) (k : Pr) (v : Int) : aMapSetA Try.prog h 46 (.map (some M)) (valP k) (.int .i64 v) = some (h.put M (.map (mapP (setK l k v)))) := by
  simp only [aMapSetA, Try.underlying46, keyP, ho, if_true]
  rcases setK_at l k v with ⟨h1, h4⟩ | ⟨j, b, h1, h2, h3, h4⟩
  · rw [(afind_mapP k l 0).1 h1, h4]; simp [mapP]
  · rw [(afind_mapP k l 0).2 j b h2 h3, h4]; simp [mapP, List.map_set]
theorem mapP_len {h : AHeap} {M : Nat} {l : List (Pr × Int)} (ho : h.own M = some (.map (mapP l))) : aLen Try.prog h 46 (.map (some M)) = some (.int .i64 l.length) := by
  simp [aLen, Try.underlying46, ho, mapP]
end Go.Fw
