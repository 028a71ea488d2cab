/- A text of the proof. -/
import Derived.Test.YtnaahaldkpdjlaaFwLF15
import Derived.Test.YtnaahaldkpdjlaaFwLBR
set_option linter.unusedSimpArgs false
set_option linter.unusedVariables false
namespace Go.Fw
open Go.Proofs Go.ChangeShapes Go.WideShapes Go.RowKit
set_option maxRecDepth 100000
section
variable {H : Type} {enc : TypeId × Value → H} {W : World}
theorem rd_u16 {P : Program} {t : TypeId} (ht : P.underlying t = some (.int .u16)) : Rd enc P W t isH := by
 intro fuel cs x h
 obtain ⟨n, rfl, _, hw⟩ := DataW.trod_int ht h
 refine ⟨_, .int .u16 n, n, rfl, rfl, rfl, ?_⟩
 simp [Lit.wf, IntKind.min, IntKind.max, IntKind.signed, IntKind.bits] at hw
 omega
theorem open_u16s {v : Value} {d : DataW H} {ps : List MemPlace} {b0 : Nat} (hval : Value.okWide Try.prog W .any b0 50 v) (h : DataW.Trod enc Try.prog W 0 (fun _ => true) true 50 v d ps) (m : CMap) :
  ∃ u xs, VR 0 m u v ∧ RL isH (ext0 W) u xs := by
 obtain ⟨fuel, h⟩ := h
 obtain ⟨a, len, cap, rfl⟩ := okWide_slice Try.underlying50 hval
 obtain ⟨r', r, R, e0, t0, q0⟩ := rd_slice Try.underlying50 (by kernel_rfl) (rd_u16 Try.underlying110) _ _ _ h
 simp [Value.cells] at e0
 subst e0
 exact ⟨r, R, VR.of_tag t0, q0⟩
theorem open_u8s {v : Value} {d : DataW H} {ps : List MemPlace} {b0 : Nat} (hval : Value.okWide Try.prog W .any b0 51 v) (h : DataW.Trod enc Try.prog W 0 (fun _ => true) true 51 v d ps) (m : CMap) :
  ∃ u xs, VR 0 m u v ∧ RL isB (ext0 W) u xs := by
 obtain ⟨fuel, h⟩ := h
 obtain ⟨a, len, cap, rfl⟩ := okWide_slice Try.underlying51 hval
 obtain ⟨r', r, R, e0, t0, q0⟩ := rd_slice Try.underlying51 (by kernel_rfl) (rd_u8 Try.underlying5) _ _ _ h
 simp [Value.cells] at e0
 subst e0
 exact ⟨r, R, VR.of_tag t0, q0⟩
end
end Go.Fw
namespace Go.Fw
open Go.Proofs Go.ChangeShapes Go.WideShapes Go.RowKit Go.ChangeAt
open Go.Proofs.Ytnaahaldkpdjlaa
set_option maxRecDepth 100000
theorem facesTurned_lifted (os : Os) (started : os.Started) (H : Type) (enc : TypeId × Value → H) :
  ReturnsInHanded {} Try.checked os 5 .any (Rows.facesTurnedSpec.pre6 enc Try.prog Try.f5 Rows.facesTurnedRow.domain false) (Rows.facesTurnedSpec.post enc Try.prog Try.f5 false true false false) := by
 have own : ownKnob Try.prog.godebug = Option.none := by kernel_rfl
 have laidOut : laidOutB Try.prog = true := by kernel_rfl
 refine returnsInHanded_of_change (C := Try.checked) own started (by kernel_rfl) Try.func5
  (ChangeSpec.witness6 (enc := enc) (C := Try.checked) false ⟨#[], #[.agg #[.int .i64 0, .slice Option.none 0 0], .slice Option.none 0 0, .slice Option.none 0 0], []⟩ 8 (by kernel_rfl) (by kernel_rfl) (by kernel_rfl) (by kernel_rfl)) ?_
 intro W base args ds gs before hval0 hW hcnd _
 have hval : ∀ (j : Nat) t v, Try.f5.params[j]? = some t → args[j]? = some v → Value.okWide Try.prog W .any base t v := hval0
 have hW' := hW
 obtain ⟨p, q, hA0, hV, rfl, hfz, hnd⟩ := hW
 have hA : DataW.TrodAll enc Try.prog W 0 (fun _ => true) true Try.f5.params.toList args.toList ds p := hA0
 rw [Try.params5] at hA hval
 obtain ⟨v0, w0, d0, e0, p0, q0, hargs, rfl, rfl, h0, hA⟩ := trodAll_cons hA
 obtain ⟨v1, w1, d1, e1, p1, q1, rfl, rfl, rfl, h1, hA⟩ := trodAll_cons hA
 obtain ⟨v2, w2, d2, e2, p2, q2, rfl, rfl, rfl, h2, hA⟩ := trodAll_cons hA
 obtain ⟨rfl, rfl, rfl⟩ := trodAll_nil hA
 obtain rfl : args = #[v0, v1, v2] := by cases args; simp_all
 obtain ⟨rfl, rfl⟩ := trodVars_none hV
 obtain ⟨u0, x0, hv0, hx0⟩ := open_graph (hval 0 24 v0 rfl rfl) h0 (fun _ => ⟨0, 0, 0⟩)
 obtain ⟨u1, x1, hv1, hx1⟩ := open_u16s (hval 1 50 v1 rfl rfl) h1 (fun _ => ⟨0, 0, 0⟩)
 obtain ⟨u2, x2, hv2, hx2⟩ := open_u8s (hval 2 51 v2 rfl rfl) h2 (fun _ => ⟨0, 0, 0⟩)
 refine (Turned_law (Base.of W) u0 u1 u2 x0 x1 x2 (ext0 W) hx0 hx1 hx2 [] (fun _ => ⟨0, 0, 0⟩) W [v0, v1, v2] (Rel.start W _) ?_).mono ?_
 ·exact .cons hv0 (.cons hv1 (.cons hv2 ((.nil _ _))))
 ·rintro e W' ⟨x, x', m', h', rfl, R, -, -, hx, rfl, -⟩
  obtain rfl := hx.bool_inv
  have hb := R.below
  have hlt0 : ∀ y ∈ p0, y.block < W.heap.size := fun y hy => hW'.lt y (by simp [hy])
  have hlt1 : ∀ y ∈ p1, y.block < W.heap.size := fun y hy => hW'.lt y (by simp [hy])
  have hlt2 : ∀ y ∈ p2, y.block < W.heap.size := fun y hy => hW'.lt y (by simp [hy])
  have hbool : DataW.Trod enc Try.prog W' W.heap.size (fun _ => false) false 4 (.bool true) (.lit (.bool true)) [] := ⟨1, by simp [DataW.trod, Value.cells, Try.underlying4]⟩
  have hargs :=
   tcons (Below.trod laidOut (by kernel_rfl) (of_decide_eq_true (by kernel_rfl)) h0 hb hlt0) (tcons (Below.trod laidOut (by kernel_rfl) (of_decide_eq_true (by kernel_rfl)) h1 hb hlt1) (tcons (Below.trod laidOut (by kernel_rfl) (of_decide_eq_true (by kernel_rfl)) h2 hb hlt2) (trodAll_mk0)))
  try simp only [List.append_nil, List.nil_append] at hargs
  exact ⟨_, rfl, _, _, _, [], _, [], hW', trodAll_mk1 hbool, hargs, rfl, hb.frame _, fun e => by cases e⟩
theorem facesTurned_said : Rows.FacesTurnedSaid :=
 OpenClaim.holds_of_wide 5 Try.f5 rfl rfl rfl rfl rfl rfl rfl ⟨rfl, rfl, rfl, rfl, rfl⟩ rfl rfl rfl rfl rfl (by kernel_rfl) Try.func5 (by kernel_rfl)
  (of_decide_eq_true (by kernel_rfl)) (by unfold Func.isWrapper; first | (rw [if_pos (by decide +kernel)]; kernel_rfl) | (rw [if_neg (by decide +kernel)]; exact ⟨rfl, rfl⟩))
  (fun os started H enc _ => facesTurned_lifted os started H enc)
end Go.Fw
