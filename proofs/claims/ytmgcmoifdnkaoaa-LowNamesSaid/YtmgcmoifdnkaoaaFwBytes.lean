/- One of the texts of the layer and the walks: it proves what its theorems say of the functions of the seat, with no condition beyond theirs. -/
import Derived.Test.YtmgcmoifdnkaoaaFwRep
set_option linter.unusedSimpArgs false
set_option linter.unusedVariables false
namespace Go.Fw
theorem toList_loop (b : ByteArray) : ∀ (n i : Nat) (r : List UInt8), b.size - i = n → ByteArray.toList.loop b i r = r.reverse ++ b.data.toList.drop i := by
  intro n
  induction n with
  | zero =>
    intro i r h
    have hi : ¬ i < b.size := by omega
    unfold ByteArray.toList.loop
    rw [if_neg hi, List.drop_of_length_le (by simp; have : b.size = b.data.size := rfl; omega)]; simp
  | succ n ih =>
    intro i r h
    have hi : i < b.size := by omega
    have hi2 : i < b.data.toList.length := by simp; exact hi
    unfold ByteArray.toList.loop
    rw [if_pos hi, ih (i + 1) _ (by omega), List.drop_eq_getElem_cons hi2]
    simp [ByteArray.get!, hi, getElem!_pos]
theorem toList_eq (b : ByteArray) : b.toList = b.data.toList := by
  unfold ByteArray.toList
  rw [toList_loop b _ 0 [] rfl]; simp
theorem bytesOfInts_toList (xs : List Int) : (bytesOfInts xs).toList = xs.map fun n => UInt8.ofNat n.toNat := by
  rw [toList_eq]; simp [bytesOfInts]
theorem bytes_inj : ∀ {xs ys : List Int}, (∀ x ∈ xs, 0 ≤ x ∧ x < 256) → (∀ y ∈ ys, 0 ≤ y ∧ y < 256) → (xs.map fun n : Int => UInt8.ofNat n.toNat) = (ys.map fun n : Int => UInt8.ofNat n.toNat) → xs = ys
  | [], [], _, _, _ => rfl
  | [], y :: ys, _, _, h => by simp at h
  | x :: xs, [], _, _, h => by simp at h
  | x :: xs, y :: ys, hx, hy, h => by
    simp only [List.map_cons, List.cons.injEq] at h
    have h1 := hx x (by simp)
    have h2 := hy y (by simp)
    have e : x = y := by
      have := congrArg UInt8.toNat h.1
      simp at this; omega
    rw [e, bytes_inj (fun z hz => hx z (by simp [hz])) (fun z hz => hy z (by simp [hz])) h.2]
theorem allU8_map : ∀ xs : List Int, allU8 (xs.map (Value.int .u8)) = some xs
  | [] => rfl
  | x :: xs => by simp [allU8, allU8_map xs]
theorem RL.text {P : Program} {h : AHeap} {v : Value} {xs : List Int} (r : RL isB h v xs) {s e d : TypeId} (hs : P.underlying s = some (.slice e)) (he : P.underlying e = some (.int .u8)) (hk : tsize P e = 1) (hd : P.underlying d = some .string) :
    aConvert P h s d v = some (.string (bytesOfInts xs), h) := by
  obtain ⟨rs, hb⟩ := r.cellsB
  have hc := rs.cs
  obtain ⟨a, cap, rfl, hsm⟩ := rs.sl
  simp only [List.length_map] at *
  cases a with
  | none =>
    have : xs = [] := by cases xs with | nil => rfl | cons x xs => simp at hsm
    subst this
    simp [aConvert, hs, he, hd]; rfl
  | some a =>
    have := hc.readN
    rw [Nat.mul_one] at this
    simp [aConvert, hs, he, hd, this, allU8_map]
end Go.Fw
