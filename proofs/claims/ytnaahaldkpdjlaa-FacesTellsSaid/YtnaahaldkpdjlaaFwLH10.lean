/- A text of the proof. -/
import Derived.Test.YtnaahaldkpdjlaaFwLH9
import Derived.Test.YtnaahaldkpdjlaaFwLF14
import Derived.Test.YtnaahaldkpdjlaaFwLB8
set_option linter.unusedSimpArgs false
set_option linter.unusedVariables false
namespace Go.Fw
open Go.Proofs Go.ChangeShapes Go.WideShapes Go.RowKit Go.ChangeAt
open Go.Proofs.Ytnaahaldkpdjlaa
set_option maxRecDepth 100000
theorem open_rotL {H : Type} {enc : TypeId × Value → H} {W : World} {v : Value} {d : DataW H} {ps : List MemPlace} {b0 : Nat} (hval : Value.okWide Try.prog W .any b0 52 v) (h : DataW.Trod enc Try.prog W 0 (fun _ => true) true 52 v d ps) (m : CMap) :
  ∃ u xs, VR 0 m u v ∧ RotL (ext0 W) u xs := by
 obtain ⟨fuel, h⟩ := h
 obtain ⟨a, len, cap, rfl⟩ := okWide_slice Try.underlying52 hval
 have hlen : len ≤ 9223372036854775807 := by
  rcases Go.Deep.open_slice Try.underlying52 h with ⟨e, _⟩ | ⟨a', len', cap', m', n', D, Pl, e, hb, hl, hm, _⟩
  ·simp [Value.cells] at e
   obtain ⟨-, rfl, -⟩ := e
   exact Nat.zero_le _
  ·simp [Value.cells] at e
   obtain ⟨-, rfl, rfl⟩ := e
   exact Nat.le_trans hl (Nat.le_trans hm (by decide))
 obtain ⟨r', r, R, e0, t0, q0⟩ := rd_slice Try.underlying52 (by kernel_rfl) (rd_slice Try.underlying38 (by kernel_rfl) (rd_i64 Try.underlying3)) _ _ _ h
 simp [Value.cells] at e0
 subst e0
 refine ⟨r, R, VR.of_tag t0, q0, ?_⟩
 obtain ⟨a2, c2, rfl, _⟩ := q0.sl
 have key : ∀ (v : Value) (a : Option Addr) (len cap : Nat), v = .slice a len cap → tag v = some (.slice a2 R.length c2) → R.length = len := fun v a len cap hv ht => by
  unfold tag at ht
  split at ht
  ·cases hv
  ·injection hv with _ h2 _; subst h2
   split at ht
   ·injection ht with ht; injection ht with _ h _; exact h.symm
   ·cases ht
  ·injection hv with _ h2 _; subst h2
   injection ht with ht; injection ht with _ h _; exact h.symm
  ·subst hv
   split at ht
   ·injection ht with ht; injection ht with _ h _; exact h.symm
   ·cases ht
 have := key _ _ _ _ rfl t0
 rw [this]; exact hlen
theorem facesTells_lifted (os : Os) (started : os.Started) (H : Type) (enc : TypeId × Value → H) :
  ReturnsInHanded {} Try.checked os 9 .any (Rows.facesTellsSpec.pre6 enc Try.prog Try.f9 Rows.facesTellsRow.domain false) (Rows.facesTellsSpec.post enc Try.prog Try.f9 false true false false) := by
 have own : ownKnob Try.prog.godebug = Option.none := by kernel_rfl
 have laidOut : laidOutB Try.prog = true := by kernel_rfl
 refine returnsInHanded_of_change (C := Try.checked) own started (by kernel_rfl) Try.func9
  (ChangeSpec.witness6 (enc := enc) (C := Try.checked) false ⟨#[], #[.agg #[.int .i64 0, .slice Option.none 0 0], .slice Option.none 0 0], []⟩ 8 (by kernel_rfl) (by kernel_rfl) (by kernel_rfl) (by kernel_rfl)) ?_
 intro W base args ds gs before hval0 hW hcnd _
 have hval : ∀ (j : Nat) t v, Try.f9.params[j]? = some t → args[j]? = some v → Value.okWide Try.prog W .any base t v := hval0
 have hW' := hW
 obtain ⟨p, q, hA0, hV, rfl, hfz, hnd⟩ := hW
 have hA : DataW.TrodAll enc Try.prog W 0 (fun _ => true) true Try.f9.params.toList args.toList ds p := hA0
 rw [Try.params9] at hA hval
 obtain ⟨v0, w0, d0, e0, p0, q0, hargs, rfl, rfl, h0, hA⟩ := trodAll_cons hA
 obtain ⟨v1, w1, d1, e1, p1, q1, rfl, rfl, rfl, h1, hA⟩ := trodAll_cons hA
 obtain ⟨rfl, rfl, rfl⟩ := trodAll_nil hA
 obtain rfl : args = #[v0, v1] := by cases args; simp_all
 obtain ⟨rfl, rfl⟩ := trodVars_none hV
 obtain ⟨u0, x0, hv0, hx0⟩ := open_graph (hval 0 24 v0 rfl rfl) h0 (fun _ => ⟨0, 0, 0⟩)
 obtain ⟨u1, x1, hv1, hx1⟩ := open_rotL (hval 1 52 v1 rfl rfl) h1 (fun _ => ⟨0, 0, 0⟩)
 refine (FTells_law (Base.of W) u0 u1 x0 x1 (ext0 W) hx0 hx1 [] (fun _ => ⟨0, 0, 0⟩) W [v0, v1] (Rel.start W _) ?_).mono ?_
 ·exact .cons hv0 (.cons hv1 ((.nil _ _)))
 ·rintro e W' ⟨x, x', m', h', rfl, R, -, -, hx, rfl, -⟩
  obtain rfl := hx.bool_inv
  have hb := R.below
  have hlt0 : ∀ y ∈ p0, y.block < W.heap.size := fun y hy => hW'.lt y (by simp [hy])
  have hlt1 : ∀ y ∈ p1, y.block < W.heap.size := fun y hy => hW'.lt y (by simp [hy])
  have hbool : DataW.Trod enc Try.prog W' W.heap.size (fun _ => false) false 4 (.bool true) (.lit (.bool true)) [] := ⟨1, by simp [DataW.trod, Value.cells, Try.underlying4]⟩
  have hargs :=
   tcons (Below.trod laidOut (by kernel_rfl) (of_decide_eq_true (by kernel_rfl)) h0 hb hlt0) (tcons (Below.trod laidOut (by kernel_rfl) (of_decide_eq_true (by kernel_rfl)) h1 hb hlt1) (trodAll_mk0))
  try simp only [List.append_nil, List.nil_append] at hargs
  exact ⟨_, rfl, _, _, _, [], _, [], hW', trodAll_mk1 hbool, hargs, rfl, hb.frame _, fun e => by cases e⟩
theorem facesTells_said : Rows.FacesTellsSaid :=
 OpenClaim.holds_of_wide 9 Try.f9 rfl rfl rfl rfl rfl rfl rfl ⟨rfl, rfl, rfl, rfl, rfl⟩ rfl rfl rfl rfl rfl (by kernel_rfl) Try.func9 (by kernel_rfl)
  (of_decide_eq_true (by kernel_rfl)) (by unfold Func.isWrapper; first | (rw [if_pos (by decide +kernel)]; kernel_rfl) | (rw [if_neg (by decide +kernel)]; exact ⟨rfl, rfl⟩))
  (fun os started H enc _ => facesTells_lifted os started H enc)
end Go.Fw
