/- One of the texts of the layer and the walks: it proves what its theorems say of the functions of the seat, with no condition beyond theirs. -/
import Derived.Test.YtdflaojabddalaaFwRg1
import Derived.Test.YtdflaojabddalaaFwBridge
import Derived.Deep.Strs
import Derived.Test.YtdflaojabddalaaRows
set_option linter.unusedSimpArgs false
set_option linter.unusedVariables false
namespace Go.Fw
open Go.Proofs Go.ChangeShapes Go.WideShapes Go.RowKit Go.ChangeAt
open Go.Proofs.Ytdflaojabddalaa
set_option maxRecDepth 100000

section
variable {H : Type} {enc : TypeId × Value → H} {W : World}

theorem rd_rot : Rd enc Try.prog W 23 (RL (RL isI)) := rd_slice Try.underlying23 (by kernel_rfl) (rd_slice Try.underlying31 (by kernel_rfl) (rd_i64 Try.underlying3))
theorem rd_bytes : Rd enc Try.prog W 34 (RL isB) := rd_slice Try.underlying34 (by kernel_rfl) (rd_u8 Try.underlying5)
theorem rd_vert : Rd enc Try.prog W 24 (RL (RL isB)) := rd_slice Try.underlying24 (by kernel_rfl) rd_bytes
theorem rd_dart : Rd enc Try.prog W 25 (RL (RL (RL isB))) := rd_slice Try.underlying25 (by kernel_rfl) rd_vert

theorem VR.tagged {v v' : Value} {m : CMap} (h : tag v' = some v) : VR 0 m v v' := VR.of_tag h

theorem open_skin {v : Value} {d : DataW H} {ps : List MemPlace} {b0 : Nat} (hval : Value.okWide Try.prog W .any b0 27 v) (h : DataW.Trod enc Try.prog W 0 (fun _ => true) true 27 v d ps) (m : CMap) :
    ∃ u S, VR 0 m u v ∧ ∃ r ve dd, u = .agg #[r, ve, dd] ∧ SkinR (ext0 W) r ve dd S := by
  obtain ⟨fuel, h⟩ := h
  simp only [Value.okWide, Try.underlying27] at hval
  obtain ⟨cs, rfl, hsz, _⟩ := hval
  have c27 : Try.prog.cellsOf 27 = 3 := by kernel_rfl
  have c23 : Try.prog.cellsOf 23 = 1 := by kernel_rfl
  have c24 : Try.prog.cellsOf 24 = 1 := by kernel_rfl
  have c25 : Try.prog.cellsOf 25 = 1 := by kernel_rfl
  obtain ⟨l⟩ := cs
  rw [c27] at hsz
  match l, hsz with
  | [x, y, z], _ =>
    obtain ⟨y0, y1, y2, n, -, -, h0, h1, h2⟩ := Go.Deep.trod_struct3 Try.underlying27 h
    simp only [c23, c24, c25, Value.cells, List.drop_zero, List.drop_succ_cons, List.take_succ_cons, List.take_zero, List.drop_nil, List.take_nil] at h0 h1 h2
    obtain ⟨r', r, R, e0, t0, q0⟩ := rd_rot _ _ _ h0
    obtain ⟨v', v, V, e1, t1, q1⟩ := rd_vert _ _ _ h1
    obtain ⟨d', d, D, e2, t2, q2⟩ := rd_dart _ _ _ h2
    injection e0 with e0; injection e1 with e1; injection e2 with e2
    subst e0 e1 e2
    refine ⟨_, ⟨R, V, D⟩, ?_, r, v, d, rfl, ⟨q0, q1, q2⟩⟩
    refine .agg (by simp) fun i a b ha hb => ?_
    match i with
    | 0 => simp at ha hb; subst ha hb; exact VR.of_tag t0
    | 1 => simp at ha hb; subst ha hb; exact VR.of_tag t1
    | 2 => simp at ha hb; subst ha hb; exact VR.of_tag t2
    | i + 3 => simp at ha
end

/- the row, from the contract -/
theorem tells_lifted (hT : ∀ (W0 : World) (h : AHeap) (r ve d : Value) (S : SkinM) (v i : Int) (mir : Bool), SkinR h r ve d S → AC Try.prog W0 5 [.agg #[r, ve, d], .int .i64 v, .int .i64 i, .bool mir] h fun x _ => x = .bool true)
    (os : Os) (started : os.Started) (H : Type) (enc : TypeId × Value → H) :
    ReturnsInHanded {} Try.checked os 5 .any (Rows.rigidTellsSpec.pre6 enc Try.prog Try.f5 Rows.rigidTellsRow.domain false) (Rows.rigidTellsSpec.post enc Try.prog Try.f5 false true false false) := by
  have own : ownKnob Try.prog.godebug = Option.none := by kernel_rfl
  have laidOut : laidOutB Try.prog = true := by kernel_rfl
  refine returnsInHanded_of_change (C := Try.checked) own started (by kernel_rfl) Try.func5
    (ChangeSpec.witness6 (enc := enc) (C := Try.checked) false ⟨#[], #[.agg #[.slice Option.none 0 0, .slice Option.none 0 0, .slice Option.none 0 0], .int .i64 0, .int .i64 0, .bool false], []⟩ 8 (by kernel_rfl) (by kernel_rfl) (by kernel_rfl) (by kernel_rfl)) ?_
  intro W base args ds gs before hval0 hW hcnd _
  have hval : ∀ (j : Nat) t v, Try.f5.params[j]? = some t → args[j]? = some v → Value.okWide Try.prog W .any base t v := hval0
  have hW' := hW
  obtain ⟨p, q, hA0, hV, rfl, hfz, hnd⟩ := hW
  have hA : DataW.TrodAll enc Try.prog W 0 (fun _ => true) true Try.f5.params.toList args.toList ds p := hA0
  rw [Try.params5] at hA hval
  obtain ⟨v0, v1, v2, v3, d0, d1, d2, d3, p0, p1, p2, p3, rfl, rfl, rfl, h0, h1, h2, h3⟩ := trodAll_four hA
  obtain ⟨rfl, rfl⟩ := trodVars_none hV
  obtain ⟨u0, S, hv0, r, ve, dd, rfl, hS⟩ := open_skin (hval 0 27 v0 rfl rfl) h0 (fun _ => ⟨0, 0, 0⟩)
  obtain ⟨a, rfl, rfl, rfl, wa⟩ := open_int Try.underlying3 (hval 1 3 v1 rfl rfl) h1
  obtain ⟨b, rfl, rfl, rfl, wb⟩ := open_int Try.underlying3 (hval 2 3 v2 rfl rfl) h2
  obtain ⟨c, rfl, rfl, rfl⟩ := open_bool Try.underlying4 (hval 3 4 v3 rfl rfl) h3
  refine (hT W (ext0 W) r ve dd S a b c hS (fun _ => ⟨0, 0, 0⟩) W [v0, .int .i64 a, .int .i64 b, .bool c] (Rel.start W _) ?_).mono ?_
  · exact .cons hv0 (.cons (.flat rfl) (.cons (.flat rfl) (.cons (.flat rfl) (.nil _ _))))
  · rintro e W' ⟨x, x', m', h', rfl, R, -, -, hx, rfl⟩
    obtain rfl := hx.bool_inv
    have hb := R.below
    have hlt : ∀ y ∈ p0, y.block < W.heap.size := fun y hy => hW'.lt y (by simp [hy])
    have hbool : DataW.Trod enc Try.prog W' W.heap.size (fun _ => false) false 4 (.bool true) (.lit (.bool true)) [] := ⟨1, by simp [DataW.trod, Value.cells, Try.underlying4]⟩
    have hargs := trodAll_mk4 (Below.trod laidOut (by kernel_rfl) (of_decide_eq_true (by kernel_rfl)) h0 hb hlt) (Below.trod laidOut (by kernel_rfl) (of_decide_eq_true (by kernel_rfl)) h1 hb (by simp))
      (Below.trod laidOut (by kernel_rfl) (of_decide_eq_true (by kernel_rfl)) h2 hb (by simp)) (Below.trod laidOut (by kernel_rfl) (of_decide_eq_true (by kernel_rfl)) h3 hb (by simp))
    simp only [List.append_nil] at hargs
    exact ⟨_, rfl, _, _, _, [], p0, [], hW', trodAll_mk1 hbool, hargs, rfl, hb.frame _, fun e => by cases e⟩

theorem tells_holds (hT : ∀ (W0 : World) (h : AHeap) (r ve d : Value) (S : SkinM) (v i : Int) (mir : Bool), SkinR h r ve d S → AC Try.prog W0 5 [.agg #[r, ve, d], .int .i64 v, .int .i64 i, .bool mir] h fun x _ => x = .bool true) : Rows.RigidTellsSaid :=
  OpenClaim.holds_of_wide 5 Try.f5 rfl rfl rfl rfl rfl rfl rfl ⟨rfl, rfl, rfl, rfl, rfl⟩ rfl rfl rfl rfl rfl (by kernel_rfl) Try.func5 (by kernel_rfl)
    (of_decide_eq_true (by kernel_rfl)) (by unfold Func.isWrapper; first | (rw [if_pos (by decide +kernel)]; kernel_rfl) | (rw [if_neg (by decide +kernel)]; exact ⟨rfl, rfl⟩))
    (fun os started H enc _ => tells_lifted hT os started H enc)
end Go.Fw
