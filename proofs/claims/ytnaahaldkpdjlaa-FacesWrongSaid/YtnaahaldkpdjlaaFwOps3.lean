/- A text of the proof. -/
import Derived.Test.YtnaahaldkpdjlaaFwOps2
set_option linter.unusedSimpArgs false
set_option linter.unusedVariables false
namespace Go.Fw
variable {W0 : Base} {m : CMap} {h : AHeap} {w : World}
def aIndexAddr (P : Program) (t : TypeId) (x ix : Value) : Option Value :=
 match P.underlying t, x, ix with
 | some (.slice e), .slice (some a) len _, .int _ i =>
  if 0 ≤ i ∧ i < (len : Int) ∧ (P.underlying e).isSome then some (.pointer (some (aadd a (i.toNat * tsize P e)))) else none
 | some (.array n e), .pointer (some a), .int _ i =>
  if 0 ≤ i ∧ i < (n : Int) ∧ (P.underlying e).isSome then some (.pointer (some (aadd a (i.toNat * tsize P e)))) else none
 | _, _, _ => none
theorem aIndexAddr_rel {n : Nat} {m : CMap} {P : Program} {t : TypeId} {x x' ix ix' v : Value} (hx : VR n m x x') (hi : VR n m ix ix') (e : aIndexAddr P t x ix = some v) (w : World) :
  ∃ v', (Instr.indexAt t x' ix').run P w = .ok v' w ∧ VR n m v v' := by
 unfold aIndexAddr at e
 split at e
 ·rename_i el a len cap k i hu
  split at e
  ·rename_i hc
   obtain ⟨h0, h1, hel⟩ := hc
   obtain ⟨d, hd⟩ := Option.isSome_iff_exists.1 hel
   injection e with e; subst e
   have := hi.int_inv; subst this
   have hsz := run_sizeOf_of (P := P) hd w
   have hc2 : 0 ≤ i ∧ i < (len : Int) := ⟨h0, h1⟩
   have hrun : ∀ a' c', (Instr.indexAt t (.slice (some a') len c') (.int k i)).run P w = .ok (.pointer (some (a'.add (i.toNat * tsize P el)))) w := by
    intro a' c'
    simp [Instr.indexAt, asIntOf, run_underlying hu, hc2, hsz]
   cases hx with
   | flat hf => simp [Fw.flat] at hf
   | slice hid hc => exact ⟨_, hrun _ _, ((AR.own hid).add _).ptr⟩
   | buf hid hl ha =>
    obtain ⟨rfl, _⟩ := ha.resolve_right (by omega)
    exact ⟨_, hrun _ _, ((AR.own hid).add _).ptr⟩
   | esl hc => exact ⟨_, hrun _ _, (AR.ext.add _).ptr⟩
   | empty => simp at h1; omega
  ·cases e
 ·rename_i cnt el a k i hu
  split at e
  ·rename_i hc
   obtain ⟨h0, h1, hel⟩ := hc
   obtain ⟨d, hd⟩ := Option.isSome_iff_exists.1 hel
   injection e with e; subst e
   have := hi.int_inv; subst this
   have hsz := run_sizeOf_of (P := P) hd w
   obtain ⟨a', rfl, har⟩ := hx.ptr_inv
   have hc2 : 0 ≤ i ∧ i < (cnt : Int) := ⟨h0, h1⟩
   exact ⟨.pointer (some (a'.add (i.toNat * tsize P el))), by simp [Instr.indexAt, asIntOf, run_underlying hu, hc2, hsz, Instr.sureAddr], (har.add _).ptr⟩
  ·cases e
 ·cases e
def aField (P : Program) (s : TypeId) (x : Value) (f : Nat) : Option Value :=
 match P.underlying s, x with
 | some (.struct fs), .pointer (some a) =>
  match fs[f]? with
  | some fd => if tsize P fd.type ≠ 0 then some (.pointer (some (aadd a fd.offset))) else none
  | none => none
 | _, _ => none
theorem tsize_underlying {P : Program} {t : TypeId} (h : tsize P t ≠ 0) (w : World) : (sizeOf t).run P w = .ok (tsize P t) w := by
 unfold tsize Program.cellsOf at *
 cases hi : P.info? t with
 | none => rw [hi] at h; simp at h
 | some i => simp [sizeOf, typeInfo, hi]
theorem aField_rel {n : Nat} {m : CMap} {P : Program} {s : TypeId} {x x' v : Value} {f : Nat} (hx : VR n m x x') (e : aField P s x f = some v) (w : World) :
  ∃ v', (Instr.fieldAt s x' f).run P w = .ok v' w ∧ VR n m v v' := by
 unfold aField at e
 split at e
 ·rename_i fs a hu
  split at e
  ·rename_i fd hf
   split at e
   ·rename_i hz
    injection e with e; subst e
    obtain ⟨a', rfl, har⟩ := hx.ptr_inv
    exact ⟨.pointer (some (a'.add fd.offset)), by simp [Instr.fieldAt, run_underlying hu, hf, Instr.sureAddr, fieldPlace, tsize_underlying hz, hz], (har.add _).ptr⟩
   ·cases e
  ·cases e
 ·cases e
def aPart (P : Program) (t : TypeId) (cs : Array Value) (off : Nat) : Option Value :=
 match P.underlying t with
 | some d => bif isAggD d then some (.agg (cs.extract off (off + tsize P t))) else cs[off]?
 | none => none
theorem aPart_rel {n : Nat} {m : CMap} {P : Program} {t : TypeId} {cs cs' : Array Value} {off : Nat} {v : Value} (hx : VRs n m cs.toList cs'.toList) (e : aPart P t cs off = some v) (w : World) :
  ∃ v', (part t cs' off).run P w = .ok v' w ∧ VR n m v v' := by
 unfold aPart at e
 split at e
 ·rename_i d hu
  cases hd : isAggD d with
  | true =>
   simp only [hd, cond_true] at e
   injection e with e; subst e
   refine ⟨.agg (cs'.extract off (off + tsize P t)), by simp [part, run_isAgg_of hu, hd, run_sizeOf_of hu], .agg_list ?_⟩
   simp only [Array.toList_extract, List.extract_eq_take_drop]
   exact (hx.drop _).take _
  | false =>
   simp only [hd, cond_false] at e
   obtain ⟨v', h1, h2⟩ := hx.get (i := off) (v := v) (by simpa using e)
   exact ⟨v', by simp [part, run_isAgg_of hu, hd, show cs'[off]? = some v' from by simpa using h1], h2⟩
 ·cases e
def aFieldV (P : Program) (s : TypeId) (x : Value) (f : Nat) : Option Value :=
 match P.underlying s, x with
 | some (.struct fs), .agg cs =>
  match fs[f]? with
  | some fd => aPart P fd.type cs fd.offset
  | none => none
 | _, _ => none
theorem aFieldV_rel {n : Nat} {m : CMap} {P : Program} {s : TypeId} {x x' v : Value} {f : Nat} (hx : VR n m x x') (e : aFieldV P s x f = some v) (w : World) :
  ∃ v', (Instr.field s x' f).run P w = .ok v' w ∧ VR n m v v' := by
 unfold aFieldV at e
 split at e
 ·rename_i fs cs hu
  split at e
  ·rename_i fd hf
   obtain ⟨cs', rfl, hcs⟩ := hx.agg_inv
   obtain ⟨v', h1, h2⟩ := aPart_rel hcs e w
   exact ⟨v', by simp [Instr.field, run_underlying hu, hf, asAgg, h1], h2⟩
  ·cases e
 ·cases e
def aIndexV (P : Program) (t : TypeId) (x ix : Value) : Option Value :=
 match P.underlying t, x, ix with
 | some (.array n e), .agg cs, .int _ i => if 0 ≤ i ∧ i < (n : Int) ∧ (P.underlying e).isSome then aPart P e cs (i.toNat * tsize P e) else none
 | some .string, .string s, .int _ i => if 0 ≤ i then match s[i.toNat]? with | some b => some (.int .u8 b.toNat) | none => none else none
 | _, _, _ => none
theorem aIndexV_rel {n : Nat} {m : CMap} {P : Program} {t : TypeId} {x x' ix ix' v : Value} (hx : VR n m x x') (hi : VR n m ix ix') (e : aIndexV P t x ix = some v) (w : World) :
  ∃ v', (Instr.index t x' ix').run P w = .ok v' w ∧ VR n m v v' := by
 unfold aIndexV at e
 split at e
 ·rename_i cnt el cs k i hu
  split at e
  ·rename_i hc
   obtain ⟨h0, h1, hel⟩ := hc
   obtain ⟨d, hd⟩ := Option.isSome_iff_exists.1 hel
   have := hi.int_inv; subst this
   obtain ⟨cs', rfl, hcs⟩ := hx.agg_inv
   obtain ⟨v', h1', h2⟩ := aPart_rel hcs e w
   have hc2 : 0 ≤ i ∧ i < (cnt : Int) := ⟨h0, h1⟩
   exact ⟨v', by simp [Instr.index, asIntOf, run_underlying hu, hc2, run_sizeOf_of hd, h1'], h2⟩
  ·cases e
 ·rename_i s k i hu
  split at e
  ·rename_i h0
   split at e
   ·rename_i b hb
    injection e with e; subst e
    have := hi.int_inv; subst this
    have := hx.string_inv; subst this
    exact ⟨.int .u8 b.toNat, by simp [Instr.index, asIntOf, run_underlying hu, h0, hb], .flat rfl⟩
   ·cases e
  ·cases e
 ·cases e
def aExtract (x : Value) (i : Nat) : Option Value := match x with | .tuple vs => vs[i]? | _ => none
theorem aExtract_rel {n : Nat} {m : CMap} {P : Program} {x x' v : Value} {i : Nat} (hx : VR n m x x') (e : aExtract x i = some v) (w : World) :
  ∃ v', (Instr.extract x' i).run P w = .ok v' w ∧ VR n m v v' := by
 unfold aExtract at e
 split at e
 ·obtain ⟨cs', rfl, hcs⟩ := hx.tuple_inv
  obtain ⟨v', h1, h2⟩ := hcs.get (i := i) (v := v) (by simpa using e)
  exact ⟨v', by simp [Instr.extract, show cs'[i]? = some v' from by simpa using h1], h2⟩
 ·cases e
def afill (place : Nat → Option (Nat × Nat)) (cells : List Value) : List (Nat × Value) → Option (List Value)
 | [] => some cells
 | (i, v) :: rest =>
  match place i with
  | none => none
  | some (off, size) =>
   if v.cells.size = size ∧ off + size ≤ cells.length then afill place (putCells cells off v.cells.toList) rest else none
theorem foldl_put (vs : List Value) : ∀ (C : Array Value) (off s : Nat), ((vs.zipIdx s).foldl (fun cs (c, j) => cs.setIfInBounds (off + j) c) C).toList = putCells C.toList (off + s) vs := by
 induction vs with
 | nil => intro C off s; rfl
 | cons v vs ih =>
  intro C off s
  simp only [List.zipIdx_cons, List.foldl_cons, putCells]
  rw [ih]
  simp [Nat.add_assoc]
theorem VR.cells {n : Nat} {m : CMap} {v v' : Value} (h : VR n m v v') : VRs n m v.cells.toList v'.cells.toList := by
 cases h with
 | agg hs h => exact ⟨by simpa [Value.cells] using hs, fun i v v' e e' => h i v v' (by simpa [Value.cells] using e) (by simpa [Value.cells] using e')⟩
 | @flat v hf =>
  have : v.cells = #[v] := by cases v <;> first | rfl | simp [Fw.flat] at hf
  rw [this]; exact .cons (.flat hf) (.nil _ _)
 | ptr h => exact .cons (.ptr h) (.nil _ _)
 | eptr => exact .cons .eptr (.nil _ _)
 | slice h hc => exact .cons (.slice h hc) (.nil _ _)
 | buf h hl ha => exact .cons (.buf h hl ha) (.nil _ _)
 | esl hc => exact .cons (.esl hc) (.nil _ _)
 | empty => exact .cons .empty (.nil _ _)
 | map h => exact .cons (.map h) (.nil _ _)
 | func a b c d => exact .cons (.func a b c d) (.nil _ _)
 | iface h => exact .cons (.iface h) (.nil _ _)
 | tuple a b => exact .cons (.tuple a b) (.nil _ _)
theorem VRs.putCells {n : Nat} {m : CMap} : ∀ {vs vs' : List Value} {c c' : List Value} (off : Nat), VRs n m c c' → VRs n m vs vs' → VRs n m (Fw.putCells c off vs) (Fw.putCells c' off vs')
 | [], vs', c, c', off, hc, hv => by
  have : vs' = [] := List.eq_nil_of_length_eq_zero (by rw [← hv.1]; rfl)
  subst this; exact hc
 | v :: vs, [], c, c', off, hc, hv => by simp [VRs] at hv
 | v :: vs, v' :: vs', c, c', off, hc, hv => VRs.putCells (off + 1) (hc.set off (hv.2 0 v v' rfl rfl)) (by simpa using hv.drop 1)
inductive PRs (n : Nat) (m : CMap) : List (Nat × Value) → List (Nat × Value) → Prop
 | nil : PRs n m [] []
 | cons {i : Nat} {v v' : Value} {l l' : List (Nat × Value)} (h : VR n m v v') (hl : PRs n m l l') : PRs n m ((i, v) :: l) ((i, v') :: l')
theorem afill_rel {n : Nat} {m : CMap} (place : Nat → Option (Nat × Nat)) {ps ps' : List (Nat × Value)} (hp : PRs n m ps ps') : ∀ {c r : List Value} {C : Array Value}, VRs n m c C.toList → afill place c ps = some r →
  ∃ R, Instr.fill place C ps' = some R ∧ VRs n m r R.toList := by
 induction hp with
 | nil => intro c r C hc e; simp [afill] at e; subst e; exact ⟨C, rfl, hc⟩
 | @cons i v v' l l' hv hl ih =>
  intro c r C hc e
  simp only [afill] at e
  split at e
  ·cases e
  ·rename_i off size hpl
   split at e
   ·rename_i hh
    obtain ⟨h1, h2⟩ := hh
    have hcells := hv.cells
    have hsz : v'.cells.size = size := by have := hcells.1; simp at this; omega
    have hlen : C.size = c.length := by have := hc.1; simp at this; omega
    obtain ⟨R, hR, hr⟩ := ih (C := v'.cells.toList.zipIdx.foldl (fun cs (c, j) => cs.setIfInBounds (off + j) c) C) (by
     rw [foldl_put]; exact hc.putCells _ hcells) e
    refine ⟨R, ?_, hr⟩
    simp only [Instr.fill, hpl, hsz]
    have hno : ¬ (off + size > C.size) := by omega
    simp only [ne_eq, not_true_eq_false, decide_false, Bool.false_or, hno]
    rw [← Array.foldl_toList]
    rw [Array.toList_zipIdx]
    exact hR
   ·cases e
end Go.Fw
namespace Go.Fw
variable {W0 : Base} {m : CMap} {h : AHeap} {w : World}
def OK (P : Program) (W0 : Base) (m : CMap) (h : AHeap) (w : World) (s : Sem Value) (v : Value) (h' : AHeap) : Prop :=
 ∃ m' v' w', s.run P w = .ok v' w' ∧ Rel W0 m' h' w' ∧ Agree h.next m m' ∧ h.next ≤ h'.next ∧ VR h'.next m' v v'
theorem OK.pure {P : Program} {s : Sem Value} {v : Value} (R : Rel W0 m h w) (e : ∃ v', s.run P w = .ok v' w ∧ VR h.next m v v') : OK P W0 m h w s v h :=
 let ⟨v', h1, h2⟩ := e; ⟨m, v', w, h1, R, .refl _ _, Nat.le_refl _, h2⟩
def azero (P : Program) (t : TypeId) : Option Value := match P.info? t with | some i => i.zero | none => none
theorem run_zero_of {P : Program} {t : TypeId} {z : Value} (hz : azero P t = some z) (w : World) : (zeroValue t).run P w = .ok z w := by
 unfold azero at hz
 split at hz
 ·rename_i i hi; simp [zeroValue, typeInfo, hi, hz]
 ·cases hz
def aNewRow (h : AHeap) (c : List Value) : Option (Addr × AHeap) :=
 if c.all (·.oneCell') then some (⟨h.next, 0, none⟩, h.alloc (.cells c)) else none
theorem aNewRow_rel {P : Program} (R : Rel W0 m h w) {c C : List Value} {a : Addr} {h' : AHeap} (e : TypeId) (hc : VRs h.next m c C) (hn : aNewRow h c = some (a, h')) :
  ∃ m' a' w', (newRow e C.toArray).run P w = .ok a' w' ∧ Rel W0 m' h' w' ∧ Agree h.next m m' ∧ h.next ≤ h'.next ∧ AR h'.next m' a a' := by
 unfold aNewRow at hn
 split at hn
 ·rename_i h1
  injection hn with hn
  simp only [Prod.mk.injEq] at hn
  obtain ⟨rfl, rfl⟩ := hn
  refine ⟨upd m h.next ⟨w.heap.size, 0, C.length⟩, ⟨w.heap.size, 0, none⟩, w.alloc (.cells C.toArray e), by simp [newRow], R.alloc_eq e hc h1, agree_upd _ _ _, Nat.le_succ _, ?_⟩
  have := AR.own (n := h.next + 1) (m := upd m h.next ⟨w.heap.size, 0, C.length⟩) (id := h.next) (off := 0) (Nat.lt_succ_self _)
  rw [upd_eq] at this
  exact this
 ·cases hn
def aAlloc (P : Program) (h : AHeap) (t : TypeId) : Option (Value × AHeap) :=
 match azero P t with
 | some z => if z.cells.toList.all flat then match aNewRow h z.cells.toList with | some (a, h') => some (.pointer (some a), h') | none => none else none
 | none => none
theorem aAlloc_ok {P : Program} (R : Rel W0 m h w) {t : TypeId} {v : Value} {h' : AHeap} (e : aAlloc P h t = some (v, h')) : OK P W0 m h w (Instr.alloc t true (.tuple #[])) v h' := by
 unfold aAlloc at e
 split at e
 ·rename_i z hz
  split at e
  ·rename_i hf
   split at e
   ·rename_i a h2 hn
    injection e with e; simp only [Prod.mk.injEq] at e; obtain ⟨rfl, rfl⟩ := e
    obtain ⟨m', a', w', h1, h2, h3, h4, h5⟩ := aNewRow_rel (P := P) R t (VRs.flat hf) hn
    refine ⟨m', .pointer (some a'), w', ?_, h2, h3, h4, h5.ptr⟩
    have h1' : (newRow t z.cells).run P w = .ok a' w' := by simpa using h1
    simp [Instr.alloc, run_zero_of hz, newVar, h1']
   ·cases e
  ·cases e
 ·cases e
def aBox (h : AHeap) (x : Value) : Option (Value × AHeap) := match aNewRow h x.cells.toList with | some (a, h') => some (.pointer (some a), h') | none => none
theorem aBox_ok {P : Program} (R : Rel W0 m h w) {t : TypeId} {x x' v : Value} {h' : AHeap} (hx : VR h.next m x x') (e : aBox h x = some (v, h')) : OK P W0 m h w (Instr.box t x') v h' := by
 unfold aBox at e
 split at e
 ·rename_i a h2 hn
  injection e with e; simp only [Prod.mk.injEq] at e; obtain ⟨rfl, rfl⟩ := e
  obtain ⟨m', a', w', h1, h2, h3, h4, h5⟩ := aNewRow_rel (P := P) R t hx.cells hn
  refine ⟨m', .pointer (some a'), w', ?_, h2, h3, h4, h5.ptr⟩
  have h1' : (newRow t x'.cells).run P w = .ok a' w' := by simpa using h1
  simp [Instr.box, newVar, h1']
 ·cases e
def aPlaces (P : Program) (t : TypeId) : Option (Nat → Option (Nat × Nat)) :=
 match P.underlying t with
 | some (.struct fs) => if fs.toList.all (fun f => (P.underlying f.type).isSome) then some (fun i => (fs.map (fun f => (f.offset, tsize P f.type)))[i]?) else none
 | some (.array _ e) => if (P.underlying e).isSome then some (fun i => some (i * tsize P e, tsize P e)) else none
 | _ => none
def aBuild (P : Program) (t : TypeId) (parts : List (Nat × Value)) : Option Value :=
 match azero P t, aPlaces P t with
 | some z, some pl => if z.cells.toList.all flat then match afill pl z.cells.toList parts with | some r => some (.agg r.toArray) | none => none else none
 | _, _ => none
theorem run_places {P : Program} (w : World) : ∀ (fs : List Field), fs.all (fun f => (P.underlying f.type).isSome) = true →
  (fs.mapM (m := Sem) fun f => do pure (f.offset, ← sizeOf f.type)).run P w = .ok (fs.map (fun f => (f.offset, tsize P f.type))) w
 | [], _ => by simp
 | f :: fs, h => by
  simp only [List.all_cons, Bool.and_eq_true] at h
  obtain ⟨d, hd⟩ := Option.isSome_iff_exists.1 h.1
  simp only [List.mapM_cons, Sem.run_bind, run_sizeOf_of hd, Result.andThen_ok, Sem.run_pure, run_places w fs h.2, List.map_cons]
theorem aBuild_rel {n : Nat} {m : CMap} {P : Program} {t : TypeId} {ps ps' : List (Nat × Value)} {v : Value} (hp : PRs n m ps ps') (e : aBuild P t ps = some v) (w : World) :
  ∃ v', (Instr.build t ps'.toArray).run P w = .ok v' w ∧ VR n m v v' := by
 unfold aBuild at e
 split at e
 ·rename_i z pl hz hpl
  split at e
  ·rename_i hf
   split at e
   ·rename_i r hr
    injection e with e; subst e
    unfold aPlaces at hpl
    split at hpl
    ·rename_i fs hu
     split at hpl
     ·rename_i hall
      injection hpl with hpl; subst hpl
      obtain ⟨R, hR, hrr⟩ := afill_rel _ hp (VRs.flat hf) hr
      have hm : (Array.mapM (m := Sem) (fun f => do pure (f.offset, ← sizeOf f.type)) fs).run P w = .ok (fs.map (fun f => (f.offset, tsize P f.type))) w := by
       have := run_places (P := P) w fs.toList hall
       rw [Array.mapM_eq_mapM_toList, map_eq_pure_bind, Sem.run_bind, this]
       simp only [Result.andThen_ok, Sem.run_pure]
       congr 1
       apply Array.toList_inj.1; simp
      refine ⟨.agg R, ?_, .agg_list (by simpa using hrr)⟩
      simp only [Instr.build, Sem.run_bind, run_zero_of hz, Result.andThen_ok, run_underlying hu, hm]
      rw [hR]; simp
     ·cases hpl
    ·rename_i cnt el hu
     split at hpl
     ·rename_i hel
      obtain ⟨d, hd⟩ := Option.isSome_iff_exists.1 hel
      injection hpl with hpl; subst hpl
      obtain ⟨R, hR, hrr⟩ := afill_rel _ hp (VRs.flat hf) hr
      refine ⟨.agg R, ?_, .agg_list (by simpa using hrr)⟩
      simp only [Instr.build, Sem.run_bind, run_zero_of hz, Result.andThen_ok, run_underlying hu, run_sizeOf_of hd]
      rw [hR]; simp
     ·cases hpl
    ·cases hpl
   ·cases e
  ·cases e
 ·cases e
def aBuildSlice (P : Program) (h : AHeap) (t : TypeId) (len : Nat) (parts : List (Nat × Value)) : Option (Value × AHeap) :=
 match P.underlying t with
 | some (.slice e) =>
  match azero P e with
  | some z =>
   if z.cells.toList.all flat ∧ z.cells.size = tsize P e ∧ (P.underlying e).isSome ∧ len * tsize P e ≤ 1000000 ∧ len ≤ 1000000 then
    match afill (fun i => some (i * tsize P e, tsize P e)) (zrow z.cells.toList len) parts with
    | some r => match aNewRow h r with | some (a, h') => some (.slice (some a) len len, h') | none => none
    | none => none
   else none
  | none => none
 | _ => none
theorem aBuildSlice_ok {P : Program} (R : Rel W0 m h w) {t : TypeId} {len : Nat} {ps ps' : List (Nat × Value)} {v : Value} {h' : AHeap} (hp : PRs h.next m ps ps')
  (e : aBuildSlice P h t len ps = some (v, h')) : OK P W0 m h w (Instr.buildSlice t len ps'.toArray) v h' := by
 unfold aBuildSlice at e
 split at e
 ·rename_i el hu
  split at e
  ·rename_i z hz
   split at e
   ·rename_i hc
    obtain ⟨hf, hzs, hel, hlen, hlen2⟩ := hc
    obtain ⟨d, hd⟩ := Option.isSome_iff_exists.1 hel
    split at e
    ·rename_i r hr
     split at e
     ·rename_i a h2 hn
      injection e with e; simp only [Prod.mk.injEq] at e; obtain ⟨rfl, rfl⟩ := e
      have hrow := zrow_range z.cells len (len * tsize P el) (by rw [hzs])
      obtain ⟨C, hC, hrr⟩ := afill_rel (C := (Array.range (len * tsize P el)).map (fun i => z.cells[i % z.cells.size]!)) _ hp (by rw [hrow]; exact VRs.flat (zrow_all _ _ hf len)) hr
      obtain ⟨m', a', w', h1, h2, h3, h4, h5⟩ := aNewRow_rel (P := P) R el hrr hn
      have h1' : (newRow el C).run P w = .ok a' w' := by simpa using h1
      have hu2 : len < UNK := by simp only [UNK]; omega
      refine ⟨m', .slice (some a') len len, w', ?_, h2, h3, h4, h5.slice hu2⟩
      have hno : ¬ (2 ^ 24 < len * tsize P el) := by omega
      simp only [Instr.buildSlice, Sem.run_bind, run_underlying hu, Result.andThen_ok, run_sizeOf_of hd]
      rw [if_neg (by simpa using hno)]
      split
      ·rename_i h0
       rw [h0] at hC
       simp only [Sem.run_bind, Sem.run_pure, Result.andThen_ok, h0]
       have hr0 : ∀ f : Nat → Value, (Array.range 0).map f = #[] := fun f => by simp
       rw [hr0] at hC
       simp only [hr0, hC, Sem.run_bind, h1', Result.andThen_ok, Sem.run_pure]
      ·simp only [Sem.run_bind, Sem.run_pure, Result.andThen_ok, run_zero_of hz, hC, h1']
     ·cases e
    ·cases e
   ·cases e
  ·cases e
 ·cases e
def aStore (P : Program) (h : AHeap) (t : TypeId) (a x : Value) : Option AHeap :=
 match a with
 | .pointer (some ⟨id, off, none⟩) =>
  match h.own id with
  | some (.cells c) =>
   if x.cells.size = tsize P t ∧ (P.underlying t).isSome ∧ off + x.cells.size ≤ c.length ∧ x.cells.toList.all (·.oneCell') then
    some (h.put id (.cells (putCells c off x.cells.toList)))
   else none
  | _ => none
 | _ => none
theorem VR.cells_size {n : Nat} {m : CMap} {v v' : Value} (h : VR n m v v') : v'.cells.size = v.cells.size := by
 have := h.cells.1; simpa using this.symm
theorem aStore_ok {P : Program} (R : Rel W0 m h w) {t : TypeId} {a a' x x' : Value} {h' : AHeap} (ha : VR h.next m a a') (hx : VR h.next m x x') (e : aStore P h t a x = some h') :
  ∃ w', (Instr.storeAt t a' x').run P w = .ok () w' ∧ Rel W0 m h' w' ∧ h'.next = h.next := by
 unfold aStore at e
 split at e
 ·rename_i id off
  split at e
  ·rename_i c ho
   split at e
   ·rename_i hc
    obtain ⟨h1, h2, h3, h4⟩ := hc
    obtain ⟨d, hd⟩ := Option.isSome_iff_exists.1 h2
    injection e with e; subst e
    cases ha with
    | flat hf => simp [Fw.flat] at hf
    | ptr hid =>
     have hsz : x'.cells.size = tsize P t := by rw [hx.cells_size, h1]
     obtain ⟨w', hw, R'⟩ := Rel.writeN P x.cells.toList x'.cells.toList 0 R ho (by simpa using h3) hx.cells (hx.cells.oneCells h4)
     refine ⟨w', ?_, by simpa using R', rfl⟩
     simp [Instr.storeAt, Instr.sureAddr, storeVar, run_sizeOf_of hd, hsz, hw]
   ·cases e
  ·cases e
 ·cases e
def aMakeSlice (P : Program) (h : AHeap) (t : TypeId) (l c : Value) : Option (Value × AHeap) :=
 match P.underlying t, l, c with
 | some (.slice e), .int _ l, .int _ c =>
  match azero P e with
  | some z =>
   if z.cells.toList.all flat ∧ z.cells.size = tsize P e ∧ (P.underlying e).isSome ∧ 0 ≤ l ∧ l ≤ c ∧ (P.bytesOf e : Int) * c ≤ 140737488355328 ∧ c ≤ 140737488355328 then
    match aNewRow h (zrow z.cells.toList c.toNat) with
    | some (a, h') => some (.slice (some a) l.toNat c.toNat, h')
    | none => none
   else none
  | none => none
 | _, _, _ => none
theorem info_of_underlying {P : Program} {t : TypeId} {d : TypeDesc} (hu : P.underlying t = some d) : ∃ i, P.info? t = some i ∧ P.bytesOf t = i.bytes ∧ tsize P t = i.size := by
 unfold Program.underlying at hu
 cases hi : P.info? t with
 | none => rw [hi] at hu; cases hu
 | some i => exact ⟨i, rfl, by simp [Program.bytesOf, hi], by simp [tsize, Program.cellsOf, hi]⟩
theorem aMakeSlice_ok {P : Program} (R : Rel W0 m h w) {t : TypeId} {l l' c c' v : Value} {h' : AHeap} (hl : VR h.next m l l') (hc : VR h.next m c c')
  (e : aMakeSlice P h t l c = some (v, h')) : OK P W0 m h w (Instr.makeSlice t l' c') v h' := by
 unfold aMakeSlice at e
 split at e
 ·rename_i el k li k2 ci hu
  split at e
  ·rename_i z hz
   split at e
   ·rename_i hcnd
    obtain ⟨hf, hzs, hel, h0, h1, hb, hcl⟩ := hcnd
    obtain ⟨d, hd⟩ := Option.isSome_iff_exists.1 hel
    obtain ⟨i, hi, hby, hsi⟩ := info_of_underlying hd
    split at e
    ·rename_i a h2 hn
     injection e with e; simp only [Prod.mk.injEq] at e; obtain ⟨rfl, rfl⟩ := e
     have := hl.int_inv; subst this
     have := hc.int_inv; subst this
     have hrow := zrow_range z.cells ci.toNat (ci.toNat * tsize P el) (by rw [hzs])
     obtain ⟨m', a', w', h1r, h2r, h3r, h4r, h5r⟩ := aNewRow_rel (P := P) R el (VRs.flat (zrow_all _ _ hf ci.toNat)) hn
     have h1' : (newRow el ((Array.range (ci.toNat * tsize P el)).map (fun i => z.cells[i % z.cells.size]!))).run P w = .ok a' w' := by
      rw [← hrow] at h1r; exact h1r
     refine ⟨m', .slice (some a') li.toNat ci.toNat, w', ?_, h2r, h3r, h4r, h5r.slice (by simp only [UNK]; omega)⟩
     have w1 : IntKind.i64.wrap li = li := by rw [← awrap_eq]; exact awrap_i64 _ (by omega) (by omega)
     have w2 : IntKind.i64.wrap ci = ci := by rw [← awrap_eq]; exact awrap_i64 _ (by omega) (by omega)
     rw [hby] at hb
     have n1 : ¬ (ci < 0) := by omega
     have n2 : (i.bytes : Int) * ci ≤ 281474976710656 := by omega
     have n3 : ¬ (li < 0) := by omega
     have n4 : ¬ (ci < li) := by omega
     simp only [Instr.makeSlice, Sem.run_bind, run_underlying hu, Result.andThen_ok, asInt, asIntOf, Sem.run_pure, typeInfo, run_program, hi, w1, w2]
     rw [if_neg (by simp [n1, n2, n3, n4])]
     simp only [Sem.run_bind, run_askRoom, Result.andThen_ok, run_sizeOf_of hd]
     split
     ·rename_i hn0
      simp only [Sem.run_bind, Sem.run_pure, Result.andThen_ok, hn0]
      have hr0 : ∀ f : Nat → Value, (Array.range 0).map f = #[] := fun f => by simp
      rw [hn0, hr0] at h1'
      simp only [hr0, h1', Result.andThen_ok]
     ·simp only [Sem.run_bind, Sem.run_pure, Result.andThen_ok, run_zero_of hz, h1']
    ·cases e
   ·cases e
  ·cases e
 ·cases e
end Go.Fw
