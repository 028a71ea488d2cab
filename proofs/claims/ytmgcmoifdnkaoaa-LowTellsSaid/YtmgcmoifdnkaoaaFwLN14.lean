/- One of the texts of the layer and the walks: it proves what its theorems say of the functions of the seat, with no condition beyond theirs. -/
import Derived.Test.YtmgcmoifdnkaoaaFwLN13
import Derived.Test.YtmgcmoifdnkaoaaFwLBR
set_option linter.unusedSimpArgs false
set_option linter.unusedVariables false
namespace Go.Fw
open Go.Proofs Go.ChangeShapes Go.WideShapes Go.RowKit Go.ChangeAt
open Go.Proofs.Ytmgcmoifdnkaoaa
set_option maxRecDepth 100000
section
variable {H : Type} {enc : TypeId × Value → H} {W : World}
theorem rd_room {e : TypeId} {t : TypeId} {fuel : Nat} {cs : List Value} {x : DataW H × List MemPlace} {v' v : Value} (ht : Try.prog.underlying t = some (.slice e)) (h : DataW.trod enc Try.prog W 0 (fun _ => true) true fuel t cs = some x) (e1 : cs = [v']) (e2 : tag v' = some v) :
    ∃ a n cap, v = .slice a n cap ∧ cap < UNK ∧ n ≤ cap := by
  rcases Go.Deep.open_slice ht h with ⟨rfl, _⟩ | ⟨a, len, cap, m, n, D, Pl, rfl, hb, hl, hm, hmm, _, hx⟩
  · injection e1 with e1; subst e1
    have e2 : some (Value.slice none 0 0) = some v := e2
    injection e2 with e2; exact ⟨none, 0, 0, e2.symm, by decide, Nat.le_refl _⟩
  · injection e1 with e1; subst e1
    have hU : cap < UNK := Nat.lt_of_le_of_lt hm (by decide)
    obtain ⟨b, off, sp⟩ := a
    cases sp with
    | none =>
      simp only [tag, if_pos hU] at e2
      injection e2 with e2; exact ⟨_, _, _, e2.symm, hU, hl⟩
    | some k =>
      unfold tag at e2
      split at e2
      · rename_i h; cases h
      · rename_i h; cases h
      · rename_i h; injection h with h1 h2 h3; injection e2 with e2; exact ⟨_, _, _, e2.symm, by decide, Nat.le_refl _⟩
      · split at e2
        · injection e2 with e2; exact ⟨_, _, _, e2.symm, hU, hl⟩
        · cases e2
theorem open_graphC {v : Value} {d : DataW H} {ps : List MemPlace} {b0 : Nat} (hval : Value.okWide Try.prog W .any b0 24 v) (h : DataW.Trod enc Try.prog W 0 (fun _ => true) true 24 v d ps) (m : CMap) :
    ∃ u G, VR 0 m u v ∧ GRC (ext0 W) u G := by
  obtain ⟨fuel, h⟩ := h
  simp only [Value.okWide, Try.underlying24] at hval
  obtain ⟨cs, rfl, hsz, _⟩ := hval
  have c24 : Try.prog.cellsOf 24 = 2 := by kernel_rfl
  have c3 : Try.prog.cellsOf 3 = 1 := by kernel_rfl
  have c22 : Try.prog.cellsOf 22 = 1 := by kernel_rfl
  obtain ⟨l⟩ := cs
  rw [c24] at hsz
  match l, hsz with
  | [x, y], _ =>
    obtain ⟨y0, y1, n, -, -, h0, h1⟩ := trod_struct2 Try.underlying24 h
    simp only [c3, c22, Value.cells, List.drop_zero, List.drop_succ_cons, List.take_succ_cons, List.take_zero, List.drop_nil, List.take_nil] at h0 h1
    obtain ⟨a, ea, _, _⟩ := DataW.trod_int Try.underlying3 h0
    obtain ⟨v', v, V, e1, t1, q1⟩ := rd_pairs h1
    obtain ⟨ad, k, cap, rfl, hU, hk⟩ := rd_room Try.underlying22 h1 e1 t1
    injection ea with ea; injection e1 with e1
    subst ea e1
    obtain ⟨_, _, ek, _⟩ := q1.sl
    injection ek with _ ek _
    refine ⟨_, ⟨a, V⟩, ?_, _, rfl, q1, ad, cap, by rw [ek], .inl ⟨hU, by show V.length ≤ cap; omega⟩⟩
    refine .agg (by simp) fun i a b ha hb => ?_
    match i with
    | 0 => simp at ha hb; subst ha hb; exact .flat rfl
    | 1 => simp at ha hb; subst ha hb; exact VR.of_tag t1
    | i + 2 => simp at ha
end
theorem lowTells_ok (W0 : Base) (v : Value) (G : GM) (h : AHeap) (hg : GRC h v G) : AC Try.prog W0 3 [v] h fun x _ => x = .bool true ∧ True := (LowTells_law W0 v G h hg).mono fun _ _ e => ⟨e.1, trivial⟩
theorem lowTells_lifted (os : Os) (started : os.Started) (H : Type) (enc : TypeId × Value → H) :
    ReturnsInHanded {} Try.checked os 3 .any (Rows.lowTellsSpec.pre6 enc Try.prog Try.f3 Rows.lowTellsRow.domain false) (Rows.lowTellsSpec.post enc Try.prog Try.f3 false true false false) := by
  have own : ownKnob Try.prog.godebug = Option.none := by kernel_rfl
  have laidOut : laidOutB Try.prog = true := by kernel_rfl
  refine returnsInHanded_of_change (C := Try.checked) own started (by kernel_rfl) Try.func3
    (ChangeSpec.witness6 (enc := enc) (C := Try.checked) false ⟨#[], #[.agg #[.int .i64 0, .slice Option.none 0 0]], []⟩ 8 (by kernel_rfl) (by kernel_rfl) (by kernel_rfl) (by kernel_rfl)) ?_
  intro W base args ds gs before hval0 hW hcnd _
  have hval : ∀ (j : Nat) t v, Try.f3.params[j]? = some t → args[j]? = some v → Value.okWide Try.prog W .any base t v := hval0
  have hW' := hW
  obtain ⟨p, q, hA0, hV, rfl, hfz, hnd⟩ := hW
  have hA : DataW.TrodAll enc Try.prog W 0 (fun _ => true) true Try.f3.params.toList args.toList ds p := hA0
  rw [Try.params3] at hA hval
  obtain ⟨v0, w0, d0, e0, p0, q0, hargs, rfl, rfl, h0, hA⟩ := trodAll_cons hA
  obtain ⟨rfl, rfl, rfl⟩ := trodAll_nil hA
  obtain rfl : args = #[v0] := by cases args; simp_all
  obtain ⟨rfl, rfl⟩ := trodVars_none hV
  obtain ⟨u0, x0, hv0, hx0⟩ := open_graphC (hval 0 24 v0 rfl rfl) h0 (fun _ => ⟨0, 0, 0⟩)
  refine (lowTells_ok (Base.of W) u0 x0 (ext0 W) hx0 [] (fun _ => ⟨0, 0, 0⟩) W [v0] (Rel.start W _) ?_).mono ?_
  · exact .cons hv0 ((.nil _ _))
  · rintro e W' ⟨x, x', m', h', rfl, R, -, -, hx, rfl, -⟩
    obtain rfl := hx.bool_inv
    have hb := R.below
    have hlt0 : ∀ y ∈ p0, y.block < W.heap.size := fun y hy => hW'.lt y (by simp [hy])
    have hbool : DataW.Trod enc Try.prog W' W.heap.size (fun _ => false) false 4 (.bool true) (.lit (.bool true)) [] := ⟨1, by simp [DataW.trod, Value.cells, Try.underlying4]⟩
    have hargs :=
      tcons (Below.trod laidOut (by kernel_rfl) (of_decide_eq_true (by kernel_rfl)) h0 hb hlt0) (trodAll_mk0)
    try simp only [List.append_nil, List.nil_append] at hargs
    exact ⟨_, rfl, _, _, _, [], _, [], hW', trodAll_mk1 hbool, hargs, rfl, hb.frame _, fun e => by cases e⟩
theorem lowTells_said : Rows.LowTellsSaid :=
  OpenClaim.holds_of_wide 3 Try.f3 rfl rfl rfl rfl rfl rfl rfl ⟨rfl, rfl, rfl, rfl, rfl⟩ rfl rfl rfl rfl rfl (by kernel_rfl) Try.func3 (by kernel_rfl)
    (of_decide_eq_true (by kernel_rfl)) (by unfold Func.isWrapper; first | (rw [if_pos (by decide +kernel)]; kernel_rfl) | (rw [if_neg (by decide +kernel)]; exact ⟨rfl, rfl⟩))
    (fun os started H enc _ => lowTells_lifted os started H enc)
end Go.Fw
