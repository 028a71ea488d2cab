/- A text of the proof. -/
import Derived.Test.YtnaahaldkpdjlaaFwOps1
set_option linter.unusedSimpArgs false
set_option linter.unusedVariables false
namespace Go.Fw
variable {W0 : Base} {m : CMap} {h : AHeap} {w : World}
theorem VR.int_inv {n : Nat} {m : CMap} {k : IntKind} {i : Int} {v' : Value} (h : VR n m (.int k i) v') : v' = .int k i := by cases h; rfl
theorem VR.bool_inv {n : Nat} {m : CMap} {b : Bool} {v' : Value} (h : VR n m (.bool b) v') : v' = .bool b := by cases h; rfl
theorem VR.string_inv {n : Nat} {m : CMap} {s : ByteArray} {v' : Value} (h : VR n m (.string s) v') : v' = .string s := by cases h; rfl
theorem VR.agg_inv {n : Nat} {m : CMap} {a : Array Value} {v' : Value} (h : VR n m (.agg a) v') : ∃ a', v' = .agg a' ∧ VRs n m a.toList a'.toList := by
 cases h with
 | flat h => simp [Fw.flat] at h
 | agg hs h => exact ⟨_, rfl, by simpa using hs, fun i v v' e e' => h i v v' (by simpa using e) (by simpa using e')⟩
theorem VR.tuple_inv {n : Nat} {m : CMap} {a : Array Value} {v' : Value} (h : VR n m (.tuple a) v') : ∃ a', v' = .tuple a' ∧ VRs n m a.toList a'.toList := by
 cases h with
 | flat h => simp [Fw.flat] at h
 | tuple hs h => exact ⟨_, rfl, by simpa using hs, fun i v v' e e' => h i v v' (by simpa using e) (by simpa using e')⟩
theorem VR.slice_inv {n : Nat} {m : CMap} {a : Option Addr} {len cap : Nat} {v' : Value} (h : VR n m (.slice a len cap) v') : ∃ a' cap', v' = .slice a' len cap' ∧ a'.isSome = a.isSome := by
 cases h <;> exact ⟨_, _, rfl, by simp⟩
def aUn (op : UnOp) (x : Value) : Option Value :=
 match op, x with
 | .neg, .int k n => some (.int k (awrap k (0 - n)))
 | .not, .bool b => some (.bool (!b))
 | _, _ => none
theorem aUn_rel {n : Nat} {m : CMap} {op : UnOp} {x x' v : Value} (P : Program) (hx : VR n m x x') (e : aUn op x = some v) : flat v = true ∧ ∀ w, (Op.unary op x').run P w = .ok v w := by
 unfold aUn at e
 split at e
 ·cases hx; injection e with e; subst e; exact ⟨rfl, fun w => by simp [Op.unary, Op.intArith, awrap_eq]⟩
 ·cases hx; injection e with e; subst e; exact ⟨rfl, fun w => by simp [Op.unary]⟩
 ·cases e
def aBound (x : Value) (y : Nat) : Option Nat :=
 match x with
 | .int _ i => if 0 ≤ i ∧ i ≤ (y : Int) then some i.toNat else none
 | _ => none
theorem aBound_run {n : Nat} {m : CMap} {x x' : Value} {y y' r : Nat} (P : Program) (hx : VR n m x x') (e : aBound x y = some r) (hy : y ≤ y') (c : BoundsCode) (w : World) :
  (Instr.sliceBound x' y' c).run P w = .ok r w ∧ r ≤ y := by
 unfold aBound at e
 split at e
 ·cases hx
  split at e
  ·rename_i i _ hi
   injection e with e; subst e
   have hy2 : 0 ≤ i ∧ i ≤ (y' : Int) := by omega
   exact ⟨by simp [Instr.sliceBound, asIntOf, hy2], by omega⟩
  ·cases e
 ·cases e
def aBounds (len cap : Nat) (lo hi mx : Option Value) : Option (Nat × Nat × Nat) :=
  match (match mx with | some v => aBound v cap | none => some cap) with
  | none => none
  | some m => match (match hi with | some v => aBound v m | none => match mx with | none => some len | some _ => none) with
    | none => none
    | some h => match (match lo with | some v => aBound v h | none => some 0) with
      | none => none
      | some l => some (l, h, m)
inductive VRo (n : Nat) (m : CMap) : Option Value → Option Value → Prop
 | none : VRo n m none none
 | some {v v' : Value} (h : VR n m v v') : VRo n m (some v) (some v')
theorem aBounds_run {n : Nat} {m : CMap} {len cap cap' : Nat} {lo hi mx lo' hi' mx' : Option Value} {l h k : Nat} (P : Program) (b : Bool) (hlo : VRo n m lo lo') (hhi : VRo n m hi hi') (hmx : VRo n m mx mx')
  (hc : cap ≤ cap') (hl : len ≤ cap) (e : aBounds len cap lo hi mx = some (l, h, k)) (w : World) :
  (Instr.sliceBounds b len cap' lo' hi' mx').run P w = .ok (l, h, if mx.isSome then k else cap') w ∧ l ≤ h ∧ h ≤ k ∧ k ≤ cap ∧ (mx = none → k = cap) := by
 unfold aBounds at e
 cases hmx with
 | none =>
  simp only [] at e
  cases hhi with
  | none =>
   simp only [] at e
   cases hlo with
   | none =>
    simp only [Option.some.injEq, Prod.mk.injEq] at e
    obtain ⟨rfl, rfl, rfl⟩ := e
    exact ⟨by simp [Instr.sliceBounds], by omega, by omega, by omega, fun _ => rfl⟩
   | some hv =>
    simp only [] at e
    split at e
    ·cases e
    ·rename_i r hr
     simp only [Option.some.injEq, Prod.mk.injEq] at e
     obtain ⟨rfl, rfl, rfl⟩ := e
     obtain ⟨h1, h2⟩ := aBound_run P hv hr (Nat.le_refl _) .sliceB w
     exact ⟨by simp [Instr.sliceBounds, h1], h2, by omega, by omega, fun _ => rfl⟩
  | some hv =>
   simp only [] at e
   split at e
   ·cases e
   ·rename_i r hr
    obtain ⟨h1, h2⟩ := aBound_run P hv hr hc (if b then .sliceAcap else .sliceAlen) w
    cases hlo with
    | none =>
     simp only [Option.some.injEq, Prod.mk.injEq] at e
     obtain ⟨rfl, rfl, rfl⟩ := e
     exact ⟨by simp [Instr.sliceBounds, h1], by omega, by omega, by omega, fun _ => rfl⟩
    | some hv' =>
     simp only [] at e
     split at e
     ·cases e
     ·rename_i r' hr'
      simp only [Option.some.injEq, Prod.mk.injEq] at e
      obtain ⟨rfl, rfl, rfl⟩ := e
      obtain ⟨h3, h4⟩ := aBound_run P hv' hr' (Nat.le_refl _) .sliceB w
      exact ⟨by simp [Instr.sliceBounds, h1, h3], by omega, by omega, by omega, fun _ => rfl⟩
 | some hvm =>
  simp only [] at e
  split at e
  ·cases e
  ·rename_i r hr
   obtain ⟨h1, h2⟩ := aBound_run P hvm hr hc (if b then .slice3Acap else .slice3Alen) w
   cases hhi with
   | none => simp at e
   | some hv =>
    simp only [] at e
    split at e
    ·cases e
    ·rename_i r2 hr2
     obtain ⟨h3, h4⟩ := aBound_run P hv hr2 (Nat.le_refl _) .slice3B w
     cases hlo with
     | none =>
      simp only [Option.some.injEq, Prod.mk.injEq] at e
      obtain ⟨rfl, rfl, rfl⟩ := e
      exact ⟨by simp [Instr.sliceBounds, h1, h3], by omega, by omega, by omega, fun h => by cases h⟩
     | some hv' =>
      simp only [] at e
      split at e
      ·cases e
      ·rename_i r' hr'
       simp only [Option.some.injEq, Prod.mk.injEq] at e
       obtain ⟨rfl, rfl, rfl⟩ := e
       obtain ⟨h5, h6⟩ := aBound_run P hv' hr' (Nat.le_refl _) .slice3C w
       exact ⟨by simp [Instr.sliceBounds, h1, h3, h5], by omega, by omega, by omega, fun h => by cases h⟩
def aSlice (P : Program) (t : TypeId) (x : Value) (lo hi mx : Option Value) : Option Value :=
  match P.underlying t, x with
  | some (.slice e), .slice a len cap =>
    if UNK ≤ cap then
      match a with
      | none => none
      | some a =>
        if cap = UNK + tsize P e ∧ (P.underlying e).isSome then
          match aBounds len len lo hi mx with
          | some (l, h, m) => if mx.isSome then (if m = 0 then some (.slice (some a) 0 0) else if m < UNK then some (.slice (some (if m = l then a else aadd a (l * tsize P e))) (h - l) (m - l)) else none)
            else some (.slice (some (aadd a (l * tsize P e))) (h - l) cap)
          | none => none
        else none
    else if len ≤ cap ∧ (P.underlying e).isSome then
      match aBounds len cap lo hi mx with
      | some (l, h, m) => some (.slice (if m = l then a else a.map (fun a => aadd a (l * tsize P e))) (h - l) (m - l))
      | none => none
    else none
  | some (.array n e), .pointer (some a) =>
    if (P.underlying e).isSome ∧ n < UNK then
      match aBounds n n lo hi mx with
      | some (l, h, m) => some (.slice (some (if m = l then a else aadd a (l * tsize P e))) (h - l) (m - l))
      | none => none
    else none
  | some .string, .string s =>
    match mx with
    | some _ => none
    | none => match aBounds s.size s.size lo hi none with
      | some (l, h, _) => some (.string (s.extract l h))
      | none => none
  | _, _ => none
theorem AR.slice {n : Nat} {m : CMap} {a a' : Addr} {len cap : Nat} (h : AR n m a a') (hc : cap < UNK) : VR n m (.slice (some a) len cap) (.slice (some a') len cap) := by
 cases h with
 | own h => exact .slice h hc
 | ext => exact .esl hc
theorem AR.addIf {n : Nat} {m : CMap} {a a' : Addr} (h : AR n m a a') (p : Prop) [Decidable p] (k : Nat) : AR n m (if p then a else aadd a k) (if p then a' else a'.add k) := by
 split
 ·exact h
 ·exact h.add k
theorem aSlice_rel {n : Nat} {m : CMap} {P : Program} {t : TypeId} {x x' v : Value} {lo hi mx lo' hi' mx' : Option Value} (hx : VR n m x x') (hlo : VRo n m lo lo') (hhi : VRo n m hi hi') (hmx : VRo n m mx mx')
  (e : aSlice P t x lo hi mx = some v) (w : World) : ∃ v', (Instr.sliceAt t x' lo' hi' mx').run P w = .ok v' w ∧ VR n m v v' := by
 unfold aSlice at e
 split at e
 ·rename_i el a len cap hu
  split at e
  ·rename_i hunk
   split at e
   ·cases e
   ·rename_i a
    split at e
    ·rename_i hcap
     obtain ⟨hcap, hel⟩ := hcap
     obtain ⟨d, hd⟩ := Option.isSome_iff_exists.1 hel
     split at e
     ·rename_i l hh mm hb
      cases hx with
      | flat hf => simp [Fw.flat] at hf
      | slice hid hc => omega
      | esl hc => omega
      | empty => simp [UNK] at hunk
      | buf hid hl ha =>
       rename_i id off k cap' a'
       have hk : k = tsize P el := by omega
       subst hk
       obtain ⟨hrun, h1, h2, h3, h4⟩ := aBounds_run P true hlo hhi hmx hl (Nat.le_refl _) hb w
       have hsz := run_sizeOf_of (P := P) hd w
       split at e
       ·rename_i hmxs
        rw [if_pos hmxs] at hrun
        split at e
        ·rename_i hm0
         injection e with e; subst e; subst hm0
         have hl0 : l = 0 := by omega
         have hh0 : hh = 0 := by omega
         subst hl0; subst hh0
         refine ⟨.slice (some a') 0 0, ?_, .empty⟩
         simp [Instr.sliceAt, Instr.slice, run_underlying hu, hrun, hsz]
        ·rename_i hm0
         split at e
         case isFalse => cases e
         rename_i hmU
         injection e with e; subst e
         have hcp : cap' ≠ 0 := by omega
         obtain ⟨rfl, hlim⟩ := ha.resolve_right hcp
         refine ⟨_, by simp only [Instr.sliceAt, Instr.slice, run_underlying hu, hrun, hsz, Sem.run_bind, Result.andThen_ok, Sem.run_pure]; rfl, ?_⟩
         have hmu : mm - l < UNK := by omega
         have := (AR.own (m := m) (off := off) hid).addIf (mm = l) (l * tsize P el)
         have hs := this.slice (len := hh - l) hmu
         split
         ·rename_i hml; simp only [hml, if_true] at hs ⊢; exact hs
         ·rename_i hml; simp only [hml, if_false] at hs ⊢; exact hs
       ·rename_i hmxs
        rw [if_neg hmxs] at hrun
        injection e with e; subst e
        refine ⟨_, by simp only [Instr.sliceAt, Instr.slice, run_underlying hu, hrun, hsz, Sem.run_bind, Result.andThen_ok, Sem.run_pure]; rfl, ?_⟩
        rw [hcap]
        split
        ·rename_i hml
         exact .buf hid (by omega) (.inr (by omega))
        ·rename_i hml
         refine .buf hid (by omega) ?_
         rcases ha with ⟨rfl, hlim⟩ | h0
         ·refine .inl ⟨by simp [addr_add, Nat.add_assoc], ?_⟩
          have : l * tsize P el + (cap' - l) * tsize P el = cap' * tsize P el := by rw [← Nat.add_mul]; congr 1; omega
          show (m id).base + (off + l * tsize P el) + (cap' - l) * tsize P el ≤ (m id).lim
          omega
         ·exact .inr (by omega)
     ·cases e
    ·cases e
  ·rename_i hunk
   split at e
   ·rename_i hc
    obtain ⟨hlc, hel⟩ := hc
    obtain ⟨d, hd⟩ := Option.isSome_iff_exists.1 hel
    have hsz := run_sizeOf_of (P := P) hd w
    split at e
    ·rename_i l hh mm hb
     injection e with e; subst e
     have hcu : cap < UNK := by omega
     have hgen : ∀ a', (∃ c', x' = .slice a' len c' ∧ c' = cap) → (∃ w', w' = w) → (Instr.sliceAt t x' lo' hi' mx').run P w = .ok (.slice (if mm = l then a' else a'.map (·.add (l * tsize P el))) (hh - l) (mm - l)) w ∧ l ≤ hh ∧ hh ≤ mm ∧ mm ≤ cap := by
      rintro a' ⟨c', rfl, rfl⟩ _
      obtain ⟨hrun, h1, h2, h3, h4⟩ := aBounds_run P true hlo hhi hmx (Nat.le_refl _) hlc hb w
      refine ⟨?_, h1, h2, h3⟩
      have hm : (if mx.isSome then mm else c') = mm := by
       cases hmx with
       | none => simp [h4 rfl]
       | some h => simp
      rw [hm] at hrun
      simp [Instr.sliceAt, Instr.slice, run_underlying hu, hrun, hsz]
     cases hx with
     | flat hf =>
      cases a with
      | some a => simp [Fw.flat] at hf
      | none =>
       obtain ⟨hrun, h1, h2, h3⟩ := hgen none ⟨_, rfl, rfl⟩ ⟨w, rfl⟩
       refine ⟨_, hrun, ?_⟩
       simp [Fw.flat] at hf
       have e1 : hh - l = 0 := by omega
       have e2 : mm - l = 0 := by omega
       simp only [Option.map_none, ite_self, e1, e2]
       exact .flat rfl
     | slice hid hc =>
      rename_i id off
      obtain ⟨hrun, h1, h2, h3⟩ := hgen _ ⟨_, rfl, rfl⟩ ⟨w, rfl⟩
      refine ⟨_, hrun, ?_⟩
      have := ((AR.own (m := m) (off := off) hid).addIf (mm = l) (l * tsize P el)).slice (len := hh - l) (cap := mm - l) (by omega)
      split
      ·rename_i hml; simp only [hml, if_true] at this ⊢; exact this
      ·rename_i hml; simp only [hml, if_false] at this ⊢; exact this
     | buf hid hl ha => omega
     | esl hc =>
      rename_i b off
      obtain ⟨hrun, h1, h2, h3⟩ := hgen _ ⟨_, rfl, rfl⟩ ⟨w, rfl⟩
      refine ⟨_, hrun, ?_⟩
      have := ((AR.ext (n := n) (m := m) (b := b) (off := off)).addIf (mm = l) (l * tsize P el)).slice (len := hh - l) (cap := mm - l) (by omega)
      split
      ·rename_i hml; simp only [hml, if_true] at this ⊢; exact this
      ·rename_i hml; simp only [hml, if_false] at this ⊢; exact this
     | empty =>
      obtain ⟨hrun, h1, h2, h3⟩ := hgen _ ⟨_, rfl, rfl⟩ ⟨w, rfl⟩
      refine ⟨_, hrun, ?_⟩
      have e0 : mm = l := by omega
      have e1 : hh - l = 0 := by omega
      have e2 : mm - l = 0 := by omega
      simp only [e0, if_true, e1, Nat.sub_self]
      exact .empty
    ·cases e
   ·cases e
 ·rename_i cnt el a hu
  split at e
  ·rename_i hc
   obtain ⟨hel, hnu⟩ := hc
   obtain ⟨d, hd⟩ := Option.isSome_iff_exists.1 hel
   have hsz := run_sizeOf_of (P := P) hd w
   split at e
   ·rename_i l hh mm hb
    injection e with e; subst e
    obtain ⟨a', rfl, har⟩ := hx.ptr_inv
    obtain ⟨hrun, h1, h2, h3, h4⟩ := aBounds_run P false hlo hhi hmx (Nat.le_refl _) (Nat.le_refl _) hb w
    have hm : (if mx.isSome then mm else cnt) = mm := by
     cases hmx with
     | none => simp [h4 rfl]
     | some h => simp
    rw [hm] at hrun
    refine ⟨.slice (some (if mm = l then a' else a'.add (l * tsize P el))) (hh - l) (mm - l), by simp [Instr.sliceAt, Instr.sureAddr, run_underlying hu, hrun, hsz], ?_⟩
    exact (har.addIf (mm = l) (l * tsize P el)).slice (by omega)
   ·cases e
  ·cases e
 ·rename_i s hu
  split at e
  ·cases e
  ·split at e
   ·rename_i l hh mm hb
    injection e with e; subst e
    have := hx.string_inv; subst this
    cases hmx
    obtain ⟨hrun, h1, h2, h3, h4⟩ := aBounds_run P false hlo hhi .none (Nat.le_refl _) (Nat.le_refl _) hb w
    exact ⟨.string (s.extract l hh), by simp [Instr.sliceAt, Instr.slice, run_underlying hu, hrun], .flat rfl⟩
   ·cases e
 ·cases e
end Go.Fw
