/- One of the texts of the layer and the walks: it proves what its theorems say of the functions of the seat, with no condition beyond theirs. -/
import Derived.Test.YtmgcmoifdnkaoaaFwOps2
set_option linter.unusedSimpArgs false
set_option linter.unusedVariables false
namespace Go.Fw
variable {W0 : Base} {m : CMap} {h : AHeap} {w : World}
def aIndexAddr (P : Program) (t : TypeId) (x ix : Value) : Option Value :=
  match P.underlying t, x, ix with
  | some (.slice e), .slice (some a) len _, .int _ i =>
    if 0 ≤ i ∧ i < (len : Int) ∧ (P.underlying e).isSome then some (.pointer (some (aadd a (i.toNat * tsize P e)))) else none
  | some (.array n e), .pointer (some a), .int _ i =>
    if 0 ≤ i ∧ i < (n : Int) ∧ (P.underlying e).isSome then some (.pointer (some (aadd a (i.toNat * tsize P e)))) else none
  | _, _, _ => none
theorem aIndexAddr_rel {n : Nat} {m : CMap} {P : Program} {t : TypeId} {x x' ix ix' v : Value} (hx : VR n m x x') (hi : VR n m ix ix') (e : aIndexAddr P t x ix = some v) (w : World) :
    ∃ v', (Instr.indexAt t x' ix').run P w = .ok v' w ∧ VR n m v v' := by
  unfold aIndexAddr at e
  split at e
  · rename_i el a len cap k i hu
    split at e
    · rename_i hc
      obtain ⟨h0, h1, hel⟩ := hc
      obtain ⟨d, hd⟩ := Option.isSome_iff_exists.1 hel
      injection e with e; subst e
      have := hi.int_inv; subst this
      have hsz := run_sizeOf_of (P := P) hd w
      have hc2 : 0 ≤ i ∧ i < (len : Int) := ⟨h0, h1⟩
      have hrun : ∀ a' c', (Instr.indexAt t (.slice (some a') len c') (.int k i)).run P w = .ok (.pointer (some (a'.add (i.toNat * tsize P el)))) w := by
        intro a' c'
        simp [Instr.indexAt, asIntOf, run_underlying hu, hc2, hsz]
      cases hx with
      | flat hf => simp [Fw.flat] at hf
      | slice hid hc => exact ⟨_, hrun _ _, ((AR.own hid).add _).ptr⟩
      | buf hid hl ha =>
        obtain ⟨rfl, _⟩ := ha.resolve_right (by omega)
        exact ⟨_, hrun _ _, ((AR.own hid).add _).ptr⟩
      | esl hc => exact ⟨_, hrun _ _, (AR.ext.add _).ptr⟩
      | empty => simp at h1; omega
    · cases e
  · rename_i cnt el a k i hu
    split at e
    · rename_i hc
      obtain ⟨h0, h1, hel⟩ := hc
      obtain ⟨d, hd⟩ := Option.isSome_iff_exists.1 hel
      injection e with e; subst e
      have := hi.int_inv; subst this
      have hsz := run_sizeOf_of (P := P) hd w
      obtain ⟨a', rfl, har⟩ := hx.ptr_inv
      have hc2 : 0 ≤ i ∧ i < (cnt : Int) := ⟨h0, h1⟩
      exact ⟨.pointer (some (a'.add (i.toNat * tsize P el))), by simp [Instr.indexAt, asIntOf, run_underlying hu, hc2, hsz, Instr.sureAddr], (har.add _).ptr⟩
    · cases e
  · cases e
def aField (P : Program) (s : TypeId) (x : Value) (f : Nat) : Option Value :=
  match P.underlying s, x with
  | some (.struct fs), .pointer (some a) =>
    match fs[f]? with
    | some fd => if tsize P fd.type ≠ 0 then some (.pointer (some (aadd a fd.offset))) else none
    | none => none
  | _, _ => none
theorem tsize_underlying {P : Program} {t : TypeId} (h : tsize P t ≠ 0) (w : World) : (sizeOf t).run P w = .ok (tsize P t) w := by
  unfold tsize Program.cellsOf at *
  cases hi : P.info? t with
  | none => rw [hi] at h; simp at h
  | some i => simp [sizeOf, typeInfo, hi]
theorem aField_rel {n : Nat} {m : CMap} {P : Program} {s : TypeId} {x x' v : Value} {f : Nat} (hx : VR n m x x') (e : aField P s x f = some v) (w : World) :
    ∃ v', (Instr.fieldAt s x' f).run P w = .ok v' w ∧ VR n m v v' := by
  unfold aField at e
  split at e
  · rename_i fs a hu
    split at e
    · rename_i fd hf
      split at e
      · rename_i hz
        injection e with e; subst e
        obtain ⟨a', rfl, har⟩ := hx.ptr_inv
        exact ⟨.pointer (some (a'.add fd.offset)), by simp [Instr.fieldAt, run_underlying hu, hf, Instr.sureAddr, fieldPlace, tsize_underlying hz, hz], (har.add _).ptr⟩
      · cases e
    · cases e
  · cases e
def aPart (P : Program) (t : TypeId) (cs : Array Value) (off : Nat) : Option Value :=
  match P.underlying t with
  | some d => bif isAggD d then some (.agg (cs.extract off (off + tsize P t))) else cs[off]?
  | none => none
theorem aPart_rel {n : Nat} {m : CMap} {P : Program} {t : TypeId} {cs cs' : Array Value} {off : Nat} {v : Value} (hx : VRs n m cs.toList cs'.toList) (e : aPart P t cs off = some v) (w : World) :
    ∃ v', (part t cs' off).run P w = .ok v' w ∧ VR n m v v' := by
  unfold aPart at e
  split at e
  · rename_i d hu
    cases hd : isAggD d with
    | true =>
      simp only [hd, cond_true] at e
      injection e with e; subst e
      refine ⟨.agg (cs'.extract off (off + tsize P t)), by simp [part, run_isAgg_of hu, hd, run_sizeOf_of hu], .agg_list ?_⟩
      simp only [Array.toList_extract, List.extract_eq_take_drop]
      exact (hx.drop _).take _
    | false =>
      simp only [hd, cond_false] at e
      obtain ⟨v', h1, h2⟩ := hx.get (i := off) (v := v) (by simpa using e)
      exact ⟨v', by simp [part, run_isAgg_of hu, hd, show cs'[off]? = some v' from by simpa using h1], h2⟩
  · cases e
def aFieldV (P : Program) (s : TypeId) (x : Value) (f : Nat) : Option Value :=
  match P.underlying s, x with
  | some (.struct fs), .agg cs =>
    match fs[f]? with
    | some fd => aPart P fd.type cs fd.offset
    | none => none
  | _, _ => none
theorem aFieldV_rel {n : Nat} {m : CMap} {P : Program} {s : TypeId} {x x' v : Value} {f : Nat} (hx : VR n m x x') (e : aFieldV P s x f = some v) (w : World) :
    ∃ v', (Instr.field s x' f).run P w = .ok v' w ∧ VR n m v v' := by
  unfold aFieldV at e
  split at e
  · rename_i fs cs hu
    split at e
    · rename_i fd hf
      obtain ⟨cs', rfl, hcs⟩ := hx.agg_inv
      obtain ⟨v', h1, h2⟩ := aPart_rel hcs e w
      exact ⟨v', by simp [Instr.field, run_underlying hu, hf, asAgg, h1], h2⟩
    · cases e
  · cases e
def aIndexV (P : Program) (t : TypeId) (x ix : Value) : Option Value :=
  match P.underlying t, x, ix with
  | some (.array n e), .agg cs, .int _ i => if 0 ≤ i ∧ i < (n : Int) ∧ (P.underlying e).isSome then aPart P e cs (i.toNat * tsize P e) else none
  | some .string, .string s, .int _ i => if 0 ≤ i then match s[i.toNat]? with | some b => some (.int .u8 b.toNat) | none => none else none
  | _, _, _ => none
theorem aIndexV_rel {n : Nat} {m : CMap} {P : Program} {t : TypeId} {x x' ix ix' v : Value} (hx : VR n m x x') (hi : VR n m ix ix') (e : aIndexV P t x ix = some v) (w : World) :
    ∃ v', (Instr.index t x' ix').run P w = .ok v' w ∧ VR n m v v' := by
  unfold aIndexV at e
  split at e
  · rename_i cnt el cs k i hu
    split at e
    · rename_i hc
      obtain ⟨h0, h1, hel⟩ := hc
      obtain ⟨d, hd⟩ := Option.isSome_iff_exists.1 hel
      have := hi.int_inv; subst this
      obtain ⟨cs', rfl, hcs⟩ := hx.agg_inv
      obtain ⟨v', h1', h2⟩ := aPart_rel hcs e w
      have hc2 : 0 ≤ i ∧ i < (cnt : Int) := ⟨h0, h1⟩
      exact ⟨v', by simp [Instr.index, asIntOf, run_underlying hu, hc2, run_sizeOf_of hd, h1'], h2⟩
    · cases e
  · rename_i s k i hu
    split at e
    · rename_i h0
      split at e
      · rename_i b hb
        injection e with e; subst e
        have := hi.int_inv; subst this
        have := hx.string_inv; subst this
        exact ⟨.int .u8 b.toNat, by simp [Instr.index, asIntOf, run_underlying hu, h0, hb], .flat rfl⟩
      · cases e
    · cases e
  · cases e
def aExtract (x : Value) (i : Nat) : Option Value := match x with | .tuple vs => vs[i]? | _ => none
theorem aExtract_rel {n : Nat} {m : CMap} {P : Program} {x x' v : Value} {i : Nat} (hx : VR n m x x') (e : aExtract x i = some v) (w : World) :
    ∃ v', (Instr.extract x' i).run P w = .ok v' w ∧ VR n m v v' := by
  unfold aExtract at e
  split at e
  · obtain ⟨cs', rfl, hcs⟩ := hx.tuple_inv
    obtain ⟨v', h1, h2⟩ := hcs.get (i := i) (v := v) (by simpa using e)
    exact ⟨v', by simp [Instr.extract, show cs'[i]? = some v' from by simpa using h1], h2⟩
  · cases e
def afill (place : Nat → Option (Nat × Nat)) (cells : List Value) : List (Nat × Value) → Option (List Value)
  | [] => some cells
  | (i, v) :: rest =>
    match place i with
    | none => none
    | some (off, size) =>
      if v.cells.size = size ∧ off + size ≤ cells.length then afill place (putCells cells off v.cells.toList) rest else none
theorem foldl_put (vs : List Value) : ∀ (C : Array Value) (off s : Nat), ((vs.zipIdx s).foldl (fun cs (c, j) => cs.setIfInBounds (off + j) c) C).toList = putCells C.toList (off + s) vs := by
  induction vs with
  | nil => intro C off s; rfl
  | cons v vs ih =>
    intro C off s
    simp only [List.zipIdx_cons, List.foldl_cons, putCells]
    rw [ih]
    simp [Nat.add_assoc]
theorem VR.cells {n : Nat} {m : CMap} {v v' : Value} (h : VR n m v v') : VRs n m v.cells.toList v'.cells.toList := by
  cases h with
  | agg hs h => exact ⟨by simpa [Value.cells] using hs, fun i v v' e e' => h i v v' (by simpa [Value.cells] using e) (by simpa [Value.cells] using e')⟩
  | @flat v hf =>
    have : v.cells = #[v] := by cases v <;> first | rfl | simp [Fw.flat] at hf
    rw [this]; exact .cons (.flat hf) (.nil _ _)
  | ptr h => exact .cons (.ptr h) (.nil _ _)
  | eptr => exact .cons .eptr (.nil _ _)
  | slice h hc => exact .cons (.slice h hc) (.nil _ _)
  | buf h hl ha => exact .cons (.buf h hl ha) (.nil _ _)
  | esl hc => exact .cons (.esl hc) (.nil _ _)
  | empty => exact .cons .empty (.nil _ _)
  | map h => exact .cons (.map h) (.nil _ _)
  | func a b c d => exact .cons (.func a b c d) (.nil _ _)
  | iface h => exact .cons (.iface h) (.nil _ _)
  | tuple a b => exact .cons (.tuple a b) (.nil _ _)
theorem VRs.putCells {n : Nat} {m : CMap} : ∀ {vs vs' : List Value} {c c' : List Value} (off : Nat), VRs n m c c' → VRs n m vs vs' → VRs n m (Fw.putCells c off vs) (Fw.putCells c' off vs')
  | [], vs', c, c', off, hc, hv => by
    have : vs' = [] := List.eq_nil_of_length_eq_zero (by rw [← hv.1]; rfl)
    subst this; exact hc
  | v :: vs, [], c, c', off, hc, hv => by simp [VRs] at hv
  | v :: vs, v' :: vs', c, c', off, hc, hv => VRs.putCells (off + 1) (hc.set off (hv.2 0 v v' rfl rfl)) (by simpa using hv.drop 1)
inductive PRs (n : Nat) (m : CMap) : List (Nat × Value) → List (Nat × Value) → Prop
  | nil : PRs n m [] []
  | cons {i : Nat} {v v' : Value} {l l' : List (Nat × Value)} (h : VR n m v v') (hl : PRs n m l l') : PRs n m ((i, v) :: l) ((i, v') :: l')
theorem afill_rel {n : Nat} {m : CMap} (place : Nat → Option (Nat × Nat)) {ps ps' : List (Nat × Value)} (hp : PRs n m ps ps') : ∀ {c r : List Value} {C : Array Value}, VRs n m c C.toList → afill place c ps = some r →
    ∃ R, Instr.fill place C ps' = some R ∧ VRs n m r R.toList := by
  induction hp with
  | nil => intro c r C hc e; simp [afill] at e; subst e; exact ⟨C, rfl, hc⟩
  | @cons i v v' l l' hv hl ih =>
    intro c r C hc e
    simp only [afill] at e
    split at e
    · cases e
    · rename_i off size hpl
      split at e
      · rename_i hh
        obtain ⟨h1, h2⟩ := hh
        have hcells := hv.cells
        have hsz : v'.cells.size = size := by have := hcells.1; simp at this; omega
        have hlen : C.size = c.length := by have := hc.1; simp at this; omega
        obtain ⟨R, hR, hr⟩ := ih (C := v'.cells.toList.zipIdx.foldl (fun cs (c, j) => cs.setIfInBounds (off + j) c) C) (by
          rw [foldl_put]; exact hc.putCells _ hcells) e
        refine ⟨R, ?_, hr⟩
        simp only [Instr.fill, hpl, hsz]
        have hno : ¬ (off + size > C.size) := by omega
        simp only [ne_eq, not_true_eq_false, decide_false, Bool.false_or, hno]
        rw [← Array.foldl_toList] 
        rw [Array.toList_zipIdx]
        exact hR
      · cases e
end Go.Fw
