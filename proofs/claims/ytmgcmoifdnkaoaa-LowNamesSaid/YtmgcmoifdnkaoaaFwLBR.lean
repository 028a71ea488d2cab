/- One of the texts of the layer and the walks: it proves what its theorems say of the functions of the seat, with no condition beyond theirs. -/
import Derived.Test.YtmgcmoifdnkaoaaFwLB6
import Derived.Test.YtmgcmoifdnkaoaaFwBridge
import Derived.Deep.Strs
import Derived.Test.YtmgcmoifdnkaoaaRows
set_option linter.unusedSimpArgs false
set_option linter.unusedVariables false
namespace Go.Fw
open Go.Proofs Go.ChangeShapes Go.WideShapes Go.RowKit Go.ChangeAt
open Go.Proofs.Ytmgcmoifdnkaoaa
set_option maxRecDepth 100000
section
variable {H : Type} {enc : TypeId × Value → H} {W : World}
theorem pairs_flat : ∀ (n : Nat) (C : List Value), C.length = n * 2 → (∀ i, i < n → ∃ a b, (C.drop (i * 2)).take 2 = [.int .i64 a, .int .i64 b]) → ∃ ps : List Pr, ps.length = n ∧ C = flatP ps
  | 0, C, hl, _ => ⟨[], rfl, List.eq_nil_of_length_eq_zero (by omega)⟩
  | n + 1, C, hl, h => by
    obtain ⟨a, b, e⟩ := h 0 (by omega)
    obtain ⟨ps, h1, h2⟩ := pairs_flat n (C.drop 2) (by simp; omega) fun i hi => by
      obtain ⟨a, b, e⟩ := h (i + 1) (by omega)
      refine ⟨a, b, ?_⟩
      rw [List.drop_drop, show 2 + i * 2 = (i + 1) * 2 by omega]; exact e
    refine ⟨(a, b) :: ps, by simp [h1], ?_⟩
    have : C = C.take 2 ++ C.drop 2 := (List.take_append_drop 2 C).symm
    rw [this, h2]
    simp only [Nat.zero_mul, List.drop_zero] at e
    rw [e]; rfl
theorem rd_pairs {fuel : Nat} {cs : List Value} {x : DataW H × List MemPlace} (h : DataW.trod enc Try.prog W 0 (fun _ => true) true fuel 22 cs = some x) : ∃ v' v ps, cs = [v'] ∧ tag v' = some v ∧ PR (ext0 W) v ps := by
  obtain ⟨v', v, n, C, h1, h2, h3, h4⟩ := rd_sliceK Try.underlying22 (by kernel_rfl) (by omega) (rd_pair Try.underlying45 Try.underlying3 (by kernel_rfl) (by kernel_rfl)) _ _ _ h
  obtain ⟨ps, h5, rfl⟩ := pairs_flat n C h3.len h4
  exact ⟨v', v, ps, h1, h2, by rw [PR, h5]; exact h3⟩
theorem open_pairs {v : Value} {d : DataW H} {ps : List MemPlace} {b0 : Nat} (hval : Value.okWide Try.prog W .any b0 22 v) (h : DataW.Trod enc Try.prog W 0 (fun _ => true) true 22 v d ps) (m : CMap) :
    ∃ u xs, VR 0 m u v ∧ PR (ext0 W) u xs := by
  obtain ⟨fuel, h⟩ := h
  obtain ⟨a, len, cap, rfl⟩ := okWide_slice Try.underlying22 hval
  obtain ⟨r', r, R, e0, t0, q0⟩ := rd_pairs h
  simp [Value.cells] at e0
  subst e0
  exact ⟨r, R, VR.of_tag t0, q0⟩
theorem open_ints' {v : Value} {d : DataW H} {ps : List MemPlace} {b0 : Nat} (hval : Value.okWide Try.prog W .any b0 35 v) (h : DataW.Trod enc Try.prog W 0 (fun _ => true) true 35 v d ps) (m : CMap) :
    ∃ u xs, VR 0 m u v ∧ RL isI (ext0 W) u xs := by
  obtain ⟨fuel, h⟩ := h
  obtain ⟨a, len, cap, rfl⟩ := okWide_slice Try.underlying35 hval
  obtain ⟨r', r, R, e0, t0, q0⟩ := rd_slice Try.underlying35 (by kernel_rfl) (rd_i64 Try.underlying3) _ _ _ h
  simp [Value.cells] at e0
  subst e0
  exact ⟨r, R, VR.of_tag t0, q0⟩
theorem open_bools {v : Value} {d : DataW H} {ps : List MemPlace} {b0 : Nat} (hval : Value.okWide Try.prog W .any b0 100 v) (h : DataW.Trod enc Try.prog W 0 (fun _ => true) true 100 v d ps) (m : CMap) :
    ∃ u xs, VR 0 m u v ∧ RL isBo (ext0 W) u xs := by
  obtain ⟨fuel, h⟩ := h
  obtain ⟨a, len, cap, rfl⟩ := okWide_slice Try.underlying100 hval
  obtain ⟨r', r, R, e0, t0, q0⟩ := rd_slice Try.underlying100 (by kernel_rfl) (rd_bool Try.underlying4) _ _ _ h
  simp [Value.cells] at e0
  subst e0
  exact ⟨r, R, VR.of_tag t0, q0⟩
theorem open_graph {v : Value} {d : DataW H} {ps : List MemPlace} {b0 : Nat} (hval : Value.okWide Try.prog W .any b0 24 v) (h : DataW.Trod enc Try.prog W 0 (fun _ => true) true 24 v d ps) (m : CMap) :
    ∃ u G, VR 0 m u v ∧ GR (ext0 W) u G := by
  obtain ⟨fuel, h⟩ := h
  simp only [Value.okWide, Try.underlying24] at hval
  obtain ⟨cs, rfl, hsz, _⟩ := hval
  have c24 : Try.prog.cellsOf 24 = 2 := by kernel_rfl
  have c3 : Try.prog.cellsOf 3 = 1 := by kernel_rfl
  have c22 : Try.prog.cellsOf 22 = 1 := by kernel_rfl
  obtain ⟨l⟩ := cs
  rw [c24] at hsz
  match l, hsz with
  | [x, y], _ =>
    obtain ⟨y0, y1, n, -, -, h0, h1⟩ := trod_struct2 Try.underlying24 h
    simp only [c3, c22, Value.cells, List.drop_zero, List.drop_succ_cons, List.take_succ_cons, List.take_zero, List.drop_nil, List.take_nil] at h0 h1
    obtain ⟨a, ea, _, _⟩ := DataW.trod_int Try.underlying3 h0
    obtain ⟨v', v, V, e1, t1, q1⟩ := rd_pairs h1
    injection ea with ea; injection e1 with e1
    subst ea e1
    refine ⟨_, ⟨a, V⟩, ?_, v, rfl, q1⟩
    refine .agg (by simp) fun i a b ha hb => ?_
    match i with
    | 0 => simp at ha hb; subst ha hb; exact .flat rfl
    | 1 => simp at ha hb; subst ha hb; exact VR.of_tag t1
    | i + 2 => simp at ha
theorem tcons {P : Program} {w : World} {base : Nat} {spare : Nat → Bool} {held : Bool} {t : TypeId} {ts : List TypeId} {v : Value} {vs : List Value} {d : DataW H} {ds : List (DataW H)} {p p' : List MemPlace}
    (h : DataW.Trod enc P w base spare held t v d p) (hs : DataW.TrodAll enc P w base spare held ts vs ds p') : DataW.TrodAll enc P w base spare held (t :: ts) (v :: vs) (d :: ds) (p ++ p') := ⟨p, p', h, hs, rfl⟩
end
end Go.Fw
