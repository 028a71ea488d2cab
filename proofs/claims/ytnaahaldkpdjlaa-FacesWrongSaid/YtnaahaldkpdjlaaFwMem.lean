/- A text of the proof. -/
import Derived.Test.YtnaahaldkpdjlaaFwHeap
set_option linter.unusedSimpArgs false
set_option linter.unusedVariables false
namespace Go.Fw
inductive AR (n : Nat) (m : CMap) : Addr → Addr → Prop
 | own {id off : Nat} (h : id < n) : AR n m ⟨id, off, none⟩ ⟨(m id).blk, (m id).base + off, none⟩
 | ext {b off : Nat} : AR n m ⟨b, off, some 0⟩ ⟨b, off, none⟩
theorem AR.mono {n n' : Nat} {m m' : CMap} {a a' : Addr} (h : AR n m a a') (hn : n ≤ n') (hm : Agree n m m') : AR n' m' a a' := by
 cases h with
 | own h => rw [← hm _ h]; exact .own (by omega)
 | ext => exact .ext
theorem AR.ptr {n : Nat} {m : CMap} {a a' : Addr} (h : AR n m a a') : VR n m (.pointer (some a)) (.pointer (some a')) := by
 cases h with
 | own h => exact .ptr h
 | ext => exact .eptr
theorem VR.ptr_inv {n : Nat} {m : CMap} {a : Addr} {v' : Value} (h : VR n m (.pointer (some a)) v') : ∃ a', v' = .pointer (some a') ∧ AR n m a a' := by
 cases h with
 | flat h => simp [Fw.flat] at h
 | ptr h => exact ⟨_, rfl, .own h⟩
 | eptr => exact ⟨_, rfl, .ext⟩
def aadd (a : Addr) (k : Nat) : Addr := { a with off := a.off + k }
theorem addr_add (b o k : Nat) : (⟨b, o, none⟩ : Addr).add k = ⟨b, o + k, none⟩ := by
 unfold Addr.add; split
 ·rename_i hk; subst hk; rfl
 ·rfl
theorem AR.add {n : Nat} {m : CMap} {a a' : Addr} (h : AR n m a a') (k : Nat) : AR n m (aadd a k) (a'.add k) := by
 cases h with
 | own h => rw [addr_add, Nat.add_assoc]; exact .own h
 | ext => rw [addr_add]; exact .ext
variable {W0 : Base} {m : CMap} {h : AHeap} {w : World}
theorem Rel.cell_own (R : Rel W0 m h w) {id off : Nat} {c : List Value} {v : Value} (ho : h.own id = some (.cells c)) (hv : c[off]? = some v) :
  ∃ v', w.cell? ⟨(m id).blk, (m id).base + off, none⟩ = some v' ∧ VR h.next m v v' := by
 obtain ⟨C, e, lo, hi, hb, hs, hl, hr, _, _⟩ := R.own id _ ho
 obtain ⟨v', hv', hvr⟩ := hr.get hv
 refine ⟨v', ?_, hvr⟩
 have hoff : off < c.length := (List.getElem?_eq_some_iff.1 hv).1
 rw [List.getElem?_take, if_pos hoff, List.getElem?_drop] at hv'
 simp [World.cell?, hb]
 simpa using hv'
theorem Rel.read (R : Rel W0 m h w) {a a' : Addr} {v : Value} (ha : AR h.next m a a') (hv : h.read a = some v) : ∃ v', w.cell? a' = some v' ∧ VR h.next m v v' := by
 cases ha with
 | own hid =>
  simp only [AHeap.read] at hv
  split at hv
  ·rename_i c ho; exact R.cell_own ho hv
  ·cases hv
 | @ext b off =>
  simp only [AHeap.read, R.ext] at hv
  cases hc : W0.cell? ⟨b, off, none⟩ with
  | none => rw [hc] at hv; simp at hv
  | some v' =>
   rw [hc] at hv
   simp only [Option.bind_some] at hv
   have hb : b < W0.heap.size := World.block_lt_of_cell? W0.toWorld ⟨b, off, none⟩ hc
   refine ⟨v', ?_, .of_tag hv⟩
   rw [World.cell?_of_block (w := W0.toWorld) (R.old b hb)]; exact hc
def readN (h : AHeap) (a : Addr) : Nat → Option (List Value)
  | 0 => some []
  | n + 1 => match h.read a with
    | some v => match readN h (aadd a 1) n with
      | some l => some (v :: l)
      | none => none
    | none => none
theorem readN_length : ∀ (n : Nat) (h : AHeap) (a : Addr) (l : List Value), readN h a n = some l → l.length = n
 | 0, _, _, l, e => by simp [readN] at e; subst e; rfl
 | n + 1, h, a, l, e => by
  simp only [readN] at e
  split at e
  ·split at e
   ·rename_i l' hl; injection e with e; subst e; simp [readN_length n h _ l' hl]
   ·cases e
  ·cases e
theorem Rel.readN (R : Rel W0 m h w) : ∀ (n : Nat) {a a' : Addr} {l : List Value}, AR h.next m a a' → Fw.readN h a n = some l →
  ∃ l', VRs h.next m l l' ∧ ∀ (j : Nat) (v : Value), l'[j]? = some v → w.cell? (a'.add j) = some v
 | 0, a, a', l, ha, e => by simp [Fw.readN] at e; subst e; exact ⟨[], .nil _ _, fun j v h => by simp at h⟩
 | n + 1, a, a', l, ha, e => by
  simp only [Fw.readN] at e
  split at e
  ·rename_i v hv
   split at e
   ·rename_i t ht
    injection e with e; subst e
    obtain ⟨v', hc, hvr⟩ := R.read ha hv
    obtain ⟨t', htr, hct⟩ := R.readN n (ha.add 1) ht
    refine ⟨v' :: t', .cons hvr htr, fun j u hu => ?_⟩
    cases j with
    | zero => simp at hu; subst hu; simpa [Addr.add] using hc
    | succ j =>
     have := hct j u (by simpa using hu)
     have e : (a'.add 1).add j = a'.add (j + 1) := by
      unfold Addr.add
      by_cases hj : j = 0
      ·subst hj; simp
      ·simp [hj]; omega
     rwa [e] at this
   ·cases e
  ·cases e
theorem Rel.loadCells (R : Rel W0 m h w) (P : Program) {n : Nat} {a a' : Addr} {l : List Value} (ha : AR h.next m a a') (e : Fw.readN h a n = some l) :
  ∃ l', VRs h.next m l l' ∧ (Go.loadCells a' n).run P w = .ok l'.toArray w := by
 obtain ⟨l', hr, hc⟩ := R.readN n ha e
 refine ⟨l', hr, ?_⟩
 have hl : n = l'.length := by rw [← hr.1, readN_length n h a l e]
 rw [hl]
 exact run_loadCells_list w a' l' hc
def tsize (P : Program) (t : TypeId) : Nat := P.cellsOf t
theorem run_sizeOf_of {P : Program} {t : TypeId} {d : TypeDesc} (hu : P.underlying t = some d) (w : World) : (sizeOf t).run P w = .ok (tsize P t) w := by
 unfold Program.underlying at hu
 cases hi : P.info? t with
 | none => rw [hi] at hu; cases hu
 | some i => simp [sizeOf, typeInfo, hi, tsize, Program.cellsOf]
def isAggD : TypeDesc → Bool
 | .struct _ | .array _ _ => true
 | _ => false
theorem run_isAgg_of {P : Program} {t : TypeId} {d : TypeDesc} (hu : P.underlying t = some d) (w : World) : (isAgg t).run P w = .ok (isAggD d) w := by
 cases d <;> simp [isAgg, run_underlying hu, isAggD]
def aload (P : Program) (h : AHeap) (t : TypeId) (a : Addr) : Option Value :=
 match P.underlying t with
 | some d => bif isAggD d then (match readN h a (tsize P t) with | some l => some (.agg l.toArray) | none => none) else h.read a
 | none => none
theorem Rel.loadVar (R : Rel W0 m h w) {P : Program} {t : TypeId} {a a' : Addr} {v : Value} (ha : AR h.next m a a') (e : aload P h t a = some v) :
  ∃ v', (Go.loadVar t a').run P w = .ok v' w ∧ VR h.next m v v' := by
 unfold aload at e
 split at e
 ·rename_i d hu
  cases hd : isAggD d with
  | true =>
   simp only [hd, cond_true] at e
   split at e
   ·rename_i l hl
    injection e with e; subst e
    obtain ⟨l', hr, hrun⟩ := R.loadCells P ha hl
    refine ⟨.agg l'.toArray, ?_, .agg_list (by simpa using hr)⟩
    simp [Go.loadVar, run_isAgg_of hu, run_sizeOf_of hu, hd, hrun]
   ·cases e
  | false =>
   simp only [hd, cond_false] at e
   obtain ⟨v', hc, hvr⟩ := R.read ha e
   refine ⟨v', ?_, hvr⟩
   simp [Go.loadVar, run_isAgg_of hu, hd, hc]
 ·cases e
theorem VR.oneCell {n : Nat} {m : CMap} {v v' : Value} (h : VR n m v v') : v'.oneCell' = v.oneCell' := by
 cases h <;> first | rfl | skip
theorem VRs.oneCells {n : Nat} {m : CMap} {l l' : List Value} (h : VRs n m l l') (h1 : l.all (·.oneCell') = true) : ∀ v ∈ l', v.oneCell' = true := by
 intro v hv
 obtain ⟨i, hi, rfl⟩ := List.mem_iff_getElem.1 hv
 have hi' : i < l.length := by rw [h.1]; exact hi
 rw [(h.2 i l[i] l'[i] (List.getElem?_eq_getElem hi') (List.getElem?_eq_getElem hi)).oneCell]
 exact List.all_eq_true.1 h1 _ (List.getElem_mem hi')
theorem Rel.mono_obj {n n' : Nat} {m m' : CMap} {w w' : World} {loc : Loc} {o : AObj} (hr : ORel n m w loc o) (hn : n ≤ n') (hm : Agree n m m') (hb : w'.heap[loc.blk]? = w.heap[loc.blk]?) : ORel n' m' w' loc o := by
 cases o with
 | cells c =>
  obtain ⟨C, e, lo, hi, h1, h2, h3, h4, h5, h6⟩ := hr
  exact ⟨C, e, lo, hi, by rw [hb]; exact h1, h2, h3, h4.mono hn hm, h5, h6⟩
 | map es =>
  obtain ⟨E, clock, h1, h2, h3⟩ := hr
  exact ⟨E, clock, by rw [hb]; exact h1, h2.mono hn hm, h3.mono hn hm⟩
theorem setCell_heap (w : World) (a : Addr) (v : Value) (b : Nat) (hb : b ≠ a.block) : (w.setCell a v).heap[b]? = w.heap[b]? := by
 simp [World.setCell, Array.getElem?_modify, Ne.symm hb]
theorem Rel.write1 (R : Rel W0 m h w) {id off : Nat} {c : List Value} {v v' : Value} (ho : h.own id = some (.cells c)) (hoff : off < c.length)
  (hv : VR h.next m v v') (h1 : v'.oneCell' = true) :
  Rel W0 m (h.put id (.cells (c.set off v))) (w.setCell ⟨(m id).blk, (m id).base + off, none⟩ v') := by
 have hne : h.own id ≠ none := by rw [ho]; simp
 obtain ⟨C, e, lo, hi, hb, hs, hl, hr, hone, hf⟩ := R.own id _ ho
 have hsome : ∀ i, (h.put id (.cells (c.set off v))).own i ≠ none → h.own i ≠ none := by
  intro i hi'
  by_cases hii : i = id
  ·subst hii; exact hne
  ·rwa [AHeap.own_put_ne _ _ _ _ hii] at hi'
 have hother : ∀ i, h.own i ≠ none → i ≠ id → (m i).blk ≠ (m id).blk := fun i hi' hii hbe => hii (R.inj i id hi' hne hbe)
 refine ⟨by simpa [World.setCell] using R.size, fun b hb' => ?_, R.ext, fun i hi' => R.lt i (hsome i hi'), fun i hi' => R.new i (hsome i hi'), fun i o hio => ?_, fun i j hi' hj' => R.inj i j (hsome i hi') (hsome j hj'), R.os, R.output, R.tape, R.prot.put hsome (fun b _ hb => setCell_heap _ _ _ _ (fun e => hb id hne e.symm))⟩
 ·rw [setCell_heap]
  ·exact R.old b hb'
  ·have := R.new id hne
   show b ≠ (m id).blk
   omega
 ·by_cases hii : i = id
  ·subst hii
   rw [AHeap.own_put_eq] at hio
   injection hio with hio
   subst hio
   refine ⟨C.setIfInBounds ((m i).base + off) v', e, lo, hi, ?_, by simpa using hs, by simpa using hl, ?_, ?_, ?_⟩
   ·simp only [World.setCell, Array.getElem?_modify, hb, if_true, Option.map_some]; rfl
   ·have e1 : ((C.setIfInBounds ((m i).base + off) v').toList.drop (m i).base).take (c.set off v).length = ((C.toList.drop (m i).base).take c.length).set off v' := by
     rw [Array.toList_setIfInBounds, List.length_set, ← List.set_drop, List.take_set]
    rw [e1]
    exact hr.set off hv
   ·intro u hu
    rw [Array.toList_setIfInBounds] at hu
    rcases List.mem_or_eq_of_mem_set hu with hu | rfl
    ·exact hone u hu
    ·exact h1
   ·intro j hj; exact hf j (by simpa using hj)
  ·rw [AHeap.own_put_ne _ _ _ _ hii] at hio
   have hin : h.own i ≠ none := by rw [hio]; simp
   exact Rel.mono_obj (R.own i o hio) (Nat.le_refl _) (Agree.refl _ _) (setCell_heap _ _ _ _ (hother i hin hii))
def putCells (c : List Value) (off : Nat) : List Value → List Value
 | [] => c
 | v :: vs => putCells (c.set off v) (off + 1) vs
theorem putCells_length : ∀ (vs : List Value) (c : List Value) (off : Nat), (putCells c off vs).length = c.length
 | [], _, _ => rfl
 | v :: vs, c, off => by simp [putCells, putCells_length vs]
theorem Rel.frozen (R : Rel W0 m h w) {id off : Nat} {c : List Value} (ho : h.own id = some (.cells c)) (hoff : off < c.length) :
  w.frozen? ⟨(m id).blk, (m id).base + off, none⟩ = false := by
 obtain ⟨C, e, lo, hi, hb, hs, hl, hr, hone, hf⟩ := R.own id _ ho
 simp only [World.frozen?, hb]
 exact (hf _ (by omega)).1
theorem Rel.writeN (P : Program) : ∀ (vs vs' : List Value) (i : Nat) {h : AHeap} {w : World} (_ : Rel W0 m h w) {id off : Nat} {c : List Value},
  h.own id = some (.cells c) → off + i + vs.length ≤ c.length → VRs h.next m vs vs' → (∀ v ∈ vs', v.oneCell' = true) →
  ∃ w', (storeCells ⟨(m id).blk, (m id).base + off, none⟩ vs' i).run P w = .ok () w' ∧ Rel W0 m (h.put id (.cells (putCells c (off + i) vs))) w'
 | [], vs', i, h, w, R, id, off, c, ho, _, hvs, _ => by
  have : vs' = [] := List.eq_nil_of_length_eq_zero (by rw [← hvs.1]; rfl)
  subst this
  refine ⟨w, by simp [storeCells], ?_⟩
  have hne : h.own id ≠ none := by rw [ho]; simp
  have hsome : ∀ j o, (h.put id (.cells c)).own j = some o ↔ h.own j = some o := by
   intro j o
   by_cases hj : j = id
   ·subst hj; rw [AHeap.own_put_eq, ho]
   ·rw [AHeap.own_put_ne _ _ _ _ hj]
  have hn : ∀ j, (h.put id (.cells c)).own j ≠ none → h.own j ≠ none := by
   intro j hj hjn
   cases hx : (h.put id (.cells c)).own j with
   | none => exact hj hx
   | some o => rw [(hsome j o).1 hx] at hjn; cases hjn
  exact ⟨R.size, R.old, R.ext, fun j hj => R.lt j (hn j hj), fun j hj => R.new j (hn j hj), fun j o hj => R.own j o ((hsome j o).1 hj), fun a b ha hb => R.inj a b (hn a ha) (hn b hb), R.os, R.output, R.tape, R.prot.put hn (fun _ _ _ => rfl)⟩
 | v :: vs, [], i, h, w, R, id, off, c, ho, hl, hvs, h1 => by simp [VRs] at hvs
 | v :: vs, v' :: vs', i, h, w, R, id, off, c, ho, hl, hvs, h1 => by
  have hoff : off + i < c.length := by simp at hl; omega
  have hv : VR h.next m v v' := hvs.2 0 v v' rfl rfl
  have hvs' : VRs h.next m vs vs' := by simpa using hvs.drop 1
  have h1v := h1 v' (by simp)
  have R1 := R.write1 ho hoff hv h1v
  obtain ⟨u, hu, _⟩ := R.cell_own ho (List.getElem?_eq_getElem hoff)
  have hf := R.frozen ho hoff
  obtain ⟨w', hw', R'⟩ := Rel.writeN P vs vs' (i + 1) R1 (off := off) (AHeap.own_put_eq h id (.cells (c.set (off + i) v))) (by simp at hl ⊢; omega) hvs' (fun u hu => h1 u (by simp [hu]))
  have hadd : (⟨(m id).blk, (m id).base + off, none⟩ : Addr).add i = ⟨(m id).blk, (m id).base + (off + i), none⟩ := by
   rw [addr_add, Nat.add_assoc]
  refine ⟨w', ?_, ?_⟩
  ·simp only [storeCells, Sem.run_bind, hadd]
   rw [run_store P w _ v' _ h1v]
   simp only [hu, hf, Bool.false_eq_true, if_false, Result.andThen_ok]
   exact hw'
  ·have e2 : ((h.put id (.cells (c.set (off + i) v))).put id (.cells (putCells (c.set (off + i) v) (off + (i + 1)) vs))).own = (h.put id (.cells (putCells c (off + i) (v :: vs)))).own := by
    funext j
    by_cases hj : j = id
    ·subst hj; rw [AHeap.own_put_eq, AHeap.own_put_eq]; rfl
    ·rw [AHeap.own_put_ne _ _ _ _ hj, AHeap.own_put_ne _ _ _ _ hj, AHeap.own_put_ne _ _ _ _ hj]
   exact ⟨R'.size, R'.old, R'.ext, fun j hj => R'.lt j (by rw [e2]; exact hj), fun j hj => R'.new j (by rw [e2]; exact hj), fun j o hj => R'.own j o (by rw [e2]; exact hj), fun a b ha hb => R'.inj a b (by rw [e2]; exact ha) (by rw [e2]; exact hb), R'.os, R'.output, R'.tape, R'.prot.put (fun j hj => by rw [e2]; exact hj) (fun _ _ _ => rfl)⟩
end Go.Fw
namespace Go.Fw
variable {W0 : Base} {m : CMap} {h : AHeap} {w : World}
def upd (m : CMap) (k : Nat) (l : Loc) : CMap := fun i => if i = k then l else m i
theorem upd_eq (m : CMap) (k : Nat) (l : Loc) : upd m k l k = l := by simp [upd]
theorem upd_ne (m : CMap) (k i : Nat) (l : Loc) (hi : i ≠ k) : upd m k l i = m i := by simp [upd, hi]
theorem agree_upd (m : CMap) (k : Nat) (l : Loc) : Agree k m (upd m k l) := fun i hi => upd_ne _ _ _ _ (by omega)
theorem Rel.drew (R : Rel W0 m h w) : Rel W0 m h w.drew := ⟨R.size, R.old, R.ext, R.lt, R.new, R.own, R.inj, R.os, R.output, ⟨R.tape.1, Nat.le_succ_of_le R.tape.2⟩, R.prot.put (fun _ hi => hi) (fun _ _ _ => rfl)⟩
theorem Rel.kill (R : Rel W0 m h w) (id : Nat) : Rel W0 m (h.kill id) w := by
 have hs : ∀ i o, (h.kill id).own i = some o → h.own i = some o := by
  intro i o hi
  by_cases e : i = id
  ·subst e; rw [AHeap.own_kill_eq] at hi; cases hi
  ·rwa [AHeap.own_kill_ne _ _ _ e] at hi
 have hn : ∀ i, (h.kill id).own i ≠ none → h.own i ≠ none := by
  intro i hi hx
  cases ho : (h.kill id).own i with
  | none => exact hi ho
  | some o => rw [hs i o ho] at hx; cases hx
 exact ⟨R.size, R.old, R.ext, fun i hi => R.lt i (hn i hi), fun i hi => R.new i (hn i hi), fun i o hi => R.own i o (hs i o hi), fun i j hi hj => R.inj i j (hn i hi) (hn j hj), R.os, R.output, R.tape, R.prot.put hn (fun _ _ _ => rfl)⟩
theorem Rel.add {w' : World} (R : Rel W0 m h w) (loc : Loc) (o : AObj) (hsz : w.heap.size ≤ w'.heap.size) (hb : ∀ b, b ≠ loc.blk → b < w.heap.size → w'.heap[b]? = w.heap[b]?)
  (hnew : W0.heap.size ≤ loc.blk) (hfree : ∀ i, h.own i ≠ none → (m i).blk ≠ loc.blk) (ho : ORel h.next m w' loc o)
  (hos : w'.os = w.os) (hout : w'.output = w.output) (htape : w'.tape = w.tape ∧ w.drawn ≤ w'.drawn) (hprot : ∀ b x, (b, x) ∈ W0.rw → loc.blk ≠ b := by exact fun b x hb e => by (have := R.prot.lt hb; simp at e; omega)) : Rel W0 (upd m h.next loc) (h.alloc o) w' := by
 have hcase : ∀ i, (h.alloc o).own i ≠ none → i = h.next ∨ (i ≠ h.next ∧ h.own i ≠ none) := by
  intro i hi
  by_cases e : i = h.next
  ·exact .inl e
  ·exact .inr ⟨e, by rwa [AHeap.own_alloc_ne _ _ _ e] at hi⟩
 have hag := agree_upd m h.next loc
 refine ⟨Nat.le_trans R.size hsz, fun b hbb => ?_, R.ext, fun i hi => ?_, fun i hi => ?_, fun i o' hi => ?_, fun i j hi hj hij => ?_, hos.trans R.os, hout.trans R.output, ⟨htape.1.trans R.tape.1, Nat.le_trans R.tape.2 htape.2⟩, ⟨R.prot.agree.trans hag R.prot.next, Nat.le_succ_of_le R.prot.next, R.prot.dist, R.prot.hi, fun b x hbx => (hb b (fun e => hprot b x hbx e.symm) (R.prot.lt hbx)).trans (R.prot.held b x hbx), fun b x i hbx hi => ?_⟩⟩
 ·rw [hb b (by omega) (Nat.lt_of_lt_of_le hbb R.size)]; exact R.old b hbb
 ·rcases hcase i hi with e | ⟨_, e⟩
  ·subst e; exact Nat.lt_succ_self _
  ·exact Nat.lt_succ_of_lt (R.lt i e)
 ·rcases hcase i hi with e | ⟨e1, e⟩
  ·subst e; rw [upd_eq]; exact hnew
  ·rw [upd_ne _ _ _ _ e1]; exact R.new i e
 ·by_cases e : i = h.next
  ·subst e
   rw [AHeap.own_alloc_eq] at hi
   injection hi with hi; subst hi
   rw [upd_eq]
   exact Rel.mono_obj ho (Nat.le_succ _) hag rfl
  ·rw [AHeap.own_alloc_ne _ _ _ e] at hi
   rw [upd_ne _ _ _ _ e]
   have hin : h.own i ≠ none := by rw [hi]; simp
   have hlt : (m i).blk < w.heap.size := by
    have hx := R.own i o' hi
    cases o' with
    | cells c => obtain ⟨C, _, lo, hi', h1, _⟩ := hx; exact (Array.getElem?_eq_some_iff.1 h1).1
    | map es => obtain ⟨E, clock, h1, _⟩ := hx; exact (Array.getElem?_eq_some_iff.1 h1).1
   exact Rel.mono_obj (R.own i o' hi) (Nat.le_succ _) hag (hb _ (hfree i hin) hlt)
 ·rcases hcase i hi with e | ⟨e1, e⟩ <;> rcases hcase j hj with e' | ⟨e1', e'⟩
  ·rw [e, e']
  ·subst e; rw [upd_eq, upd_ne _ _ _ _ e1'] at hij; exact absurd hij.symm (hfree j e')
  ·subst e'; rw [upd_eq, upd_ne _ _ _ _ e1] at hij; exact absurd hij (hfree i e)
  ·rw [upd_ne _ _ _ _ e1, upd_ne _ _ _ _ e1'] at hij; exact R.inj i j e e' hij
 ·rcases hcase i hi with e | ⟨e1, e⟩
  ·subst e; rw [upd_eq]; exact hprot b x hbx
  ·rw [upd_ne _ _ _ _ e1]; exact R.prot.apart b x i hbx e
theorem Rel.blk_lt (R : Rel W0 m h w) {i : Nat} (hi : h.own i ≠ none) : (m i).blk < w.heap.size := by
 cases ho : h.own i with
 | none => exact absurd ho hi
 | some o =>
  have hx := R.own i o ho
  cases o with
  | cells c => obtain ⟨C, _, lo, hi', h1, _⟩ := hx; exact (Array.getElem?_eq_some_iff.1 h1).1
  | map es => obtain ⟨E, clock, h1, _⟩ := hx; exact (Array.getElem?_eq_some_iff.1 h1).1
theorem Rel.alloc (R : Rel W0 m h w) {c : List Value} {C : Array Value} (e : TypeId) (hc : VRs h.next m c (C.toList.take c.length)) (hle : c.length ≤ C.size) (h1 : ∀ v ∈ C.toList, v.oneCell' = true) :
  Rel W0 (upd m h.next ⟨w.heap.size, 0, C.size⟩) (h.alloc (.cells c)) (w.alloc (.cells C e)) := by
 refine R.add ⟨w.heap.size, 0, C.size⟩ _ (by simp) (fun b _ hb => heap_alloc_old w _ b hb) R.size (fun i hi hx => ?_) ?_ rfl rfl ⟨rfl, Nat.le_refl _⟩
 ·have := R.blk_lt hi; simp at hx; omega
 ·exact ⟨C, e, 0, 0, heap_alloc_new w _, rfl, by simpa using hle, by simpa using hc, h1, fun i _ => by simp⟩
theorem Rel.allocMap (R : Rel W0 m h w) : Rel W0 (upd m h.next ⟨w.heap.size, 0, 0⟩) (h.alloc (.map [])) (w.alloc (.map #[] 0)) := by
 refine R.add ⟨w.heap.size, 0, 0⟩ _ (by simp) (fun b _ hb => heap_alloc_old w _ b hb) R.size (fun i hi hx => ?_) ?_ rfl rfl ⟨rfl, Nat.le_refl _⟩
 ·have := R.blk_lt hi; simp at hx; omega
 ·exact ⟨#[], 0, heap_alloc_new w _, by simpa using VRs.nil _ _, by simpa using VRs.nil _ _⟩
theorem Rel.alloc_eq (R : Rel W0 m h w) {c C : List Value} (e : TypeId) (hc : VRs h.next m c C) (h1 : c.all (·.oneCell') = true) :
  Rel W0 (upd m h.next ⟨w.heap.size, 0, C.length⟩) (h.alloc (.cells c)) (w.alloc (.cells C.toArray e)) := by
 have := R.alloc (c := c) (C := C.toArray) e (by simpa [hc.1, List.take_of_length_le] using hc) (by simp [hc.1]) (by simpa using hc.oneCells h1)
 simpa using this
theorem Rel.allocMove (R : Rel W0 m h w) {w' : World} {id : Nat} {c : List Value} (ho : h.own id = some (.cells c)) {C' : Array Value} {e : TypeId} {lo hi : Nat} {base : Nat} {c2 : List Value}
  (hheap : w'.heap = w.heap.setIfInBounds (m id).blk (.cells C' e (lo, hi))) (hs : C'.size = (m id).lim) (h1 : ∀ v ∈ C'.toList, v.oneCell' = true) (hf : ∀ i, i < C'.size → ((lo ≤ i && i < hi) = false ∧ lo ≤ hi))
  (hl : base + c2.length ≤ C'.size) (hr : VRs h.next m c2 ((C'.toList.drop base).take c2.length)) (hos : w'.os = w.os) (hout : w'.output = w.output) (htape : w'.tape = w.tape ∧ w.drawn ≤ w'.drawn) :
  Rel W0 (upd m h.next ⟨(m id).blk, base, (m id).lim⟩) ((h.kill id).alloc (.cells c2)) w' := by
 have hne : h.own id ≠ none := by rw [ho]; simp
 have hlt := R.blk_lt hne
 refine (R.kill id).add ⟨(m id).blk, base, (m id).lim⟩ (.cells c2) (by simp [hheap]) (fun b hb _ => ?_) (R.new id hne) (fun i hi' hx => ?_) ⟨C', e, lo, hi, ?_, hs, hl, hr, h1, hf⟩ hos hout htape (fun b x hb => R.prot.apart b x id hb hne)
 ·rw [hheap, Array.getElem?_setIfInBounds]; simp [Ne.symm hb]
 ·by_cases e : i = id
  ·subst e; exact hi' (AHeap.own_kill_eq _ _)
  ·rw [AHeap.own_kill_ne _ _ _ e] at hi'; exact e (R.inj i id hi' hne hx)
 ·rw [hheap, Array.getElem?_setIfInBounds]; simp [hlt]
def blockPut (C : Array Value) (off : Nat) : List Value → Array Value
 | [] => C
 | v :: vs => blockPut (C.setIfInBounds off v) (off + 1) vs
theorem blockPut_size : ∀ (vs : List Value) (C : Array Value) (off : Nat), (blockPut C off vs).size = C.size
 | [], _, _ => rfl
 | v :: vs, C, off => by simp [blockPut, blockPut_size vs]
theorem blockPut_toList : ∀ (vs : List Value) (C : Array Value) (off : Nat), (blockPut C off vs).toList = putCells C.toList off vs
 | [], _, _ => rfl
 | v :: vs, C, off => by simp [blockPut, putCells, blockPut_toList vs]
theorem putCells_eq : ∀ (vs c : List Value) (off : Nat), off + vs.length ≤ c.length → putCells c off vs = c.take off ++ vs ++ c.drop (off + vs.length)
 | [], c, off, h => by simp [putCells]
 | v :: vs, c, off, h => by
  simp at h
  rw [putCells, putCells_eq vs _ (off + 1) (by simp; omega)]
  have e1 : (c.set off v).take (off + 1) = c.take off ++ [v] := by
   rw [List.take_succ_eq_append_getElem (by simp; omega), List.take_set_of_le (Nat.le_refl _)]
   simp
  have e2 : (c.set off v).drop (off + 1 + vs.length) = c.drop (off + (v :: vs).length) := by
   rw [List.drop_set_of_lt (by omega)]; congr 1; simp; omega
  rw [e1, e2]; simp
theorem run_store_block (P : Program) (g : Nat) (e : TypeId) (lo hi : Nat) : ∀ (vs : List Value) (i off : Nat) (C : Array Value) (w : World),
  w.heap[g]? = some (.cells C e (lo, hi)) → off + i + vs.length ≤ C.size → (∀ v ∈ vs, v.oneCell' = true) → (∀ i, i < C.size → ((lo ≤ i && i < hi) = false ∧ lo ≤ hi)) →
  ∃ w', (storeCells ⟨g, off, none⟩ vs i).run P w = .ok () w' ∧ w'.heap = w.heap.setIfInBounds g (.cells (blockPut C (off + i) vs) e (lo, hi)) ∧ w'.os = w.os ∧ w'.output = w.output ∧ (w'.tape = w.tape ∧ w.drawn ≤ w'.drawn)
 | [], i, off, C, w, hg, _, _, _ => by
  refine ⟨w, by simp [storeCells], ?_, rfl, rfl, rfl, Nat.le_refl _⟩
  apply Array.ext_getElem?
  intro j
  rw [Array.getElem?_setIfInBounds]
  split
  ·rename_i hj; subst hj; rw [hg, if_pos (Array.getElem?_eq_some_iff.1 hg).1]; rfl
  ·rfl
 | v :: vs, i, off, C, w, hg, hl, h1, hf => by
  have hlt := (Array.getElem?_eq_some_iff.1 hg).1
  have hi' : off + i < C.size := by simp at hl; omega
  have hset : (w.setCell ⟨g, off + i, none⟩ v).heap = w.heap.setIfInBounds g (.cells (C.setIfInBounds (off + i) v) e (lo, hi)) := by
   apply Array.ext_getElem?
   intro j
   simp only [World.setCell, Array.getElem?_modify, Array.getElem?_setIfInBounds]
   split
   ·rename_i hj; subst hj; rw [hg]; simp
   ·rfl
  obtain ⟨w', hrun, hheap, ho, hou, ht⟩ := run_store_block P g e lo hi vs (i + 1) off (C.setIfInBounds (off + i) v) (w.setCell ⟨g, off + i, none⟩ v)
   (by rw [hset, Array.getElem?_setIfInBounds]; simp [hlt]) (by simp at hl ⊢; omega) (fun u hu => h1 u (by simp [hu])) (fun j hj => hf j (by simpa using hj))
  refine ⟨w', ?_, ?_, ho, hou, ht⟩
  ·have hc : w.cell? ⟨g, off + i, none⟩ = some C[off + i] := by
    have hlt' := (Array.getElem?_eq_some_iff.1 hg).2
    simp [World.cell?, hg, hi']
   have hfz : w.frozen? ⟨g, off + i, none⟩ = false := by simp only [World.frozen?, hg]; exact (hf _ hi').1
   simp only [storeCells, Sem.run_bind, addr_add]
   rw [run_store P w _ v _ (h1 v (by simp))]
   simp only [hc, hfz, Bool.false_eq_true, if_false, Result.andThen_ok]
   exact hrun
  ·rw [hheap, hset]
   simp [blockPut, Nat.add_assoc]
def zrow (z : List Value) : Nat → List Value
 | 0 => []
 | n + 1 => z ++ zrow z n
theorem zrow_length (z : List Value) : ∀ n, (zrow z n).length = n * z.length
 | 0 => by simp [zrow]
 | n + 1 => by simp [zrow, zrow_length z n, Nat.succ_mul, Nat.add_comm]
theorem zrow_get (z : List Value) : ∀ (n i : Nat), i < n * z.length → (zrow z n)[i]? = z[i % z.length]?
 | 0, i, h => by simp at h
 | n + 1, i, h => by
  rw [zrow]
  by_cases hi : i < z.length
  ·rw [List.getElem?_append_left hi, Nat.mod_eq_of_lt hi]
  ·rw [List.getElem?_append_right (by omega), zrow_get z n (i - z.length) (by rw [Nat.succ_mul] at h; omega)]
   congr 1
   conv => rhs; rw [show i = (i - z.length) + z.length from by omega, Nat.add_mod_right]
theorem zrow_range (z : Array Value) (n k : Nat) (hk : k = n * z.size) : ((Array.range k).map (fun i => z[i % z.size]!)).toList = zrow z.toList n := by
 apply List.ext_getElem?
 intro i
 by_cases hi : i < k
 ·have hz : 0 < z.size := by
   rcases Nat.eq_zero_or_pos z.size with h0 | h0
   ·rw [h0] at hk; simp at hk; omega
   ·exact h0
  rw [zrow_get z.toList n i (by simpa [← hk] using hi)]
  have hm : i % z.size < z.size := Nat.mod_lt _ hz
  simp [hi, hm]
 ·rw [List.getElem?_eq_none (by simpa using hi), List.getElem?_eq_none (by rw [zrow_length]; simp [← hk]; omega)]
theorem zrow_one (v : Value) : ∀ n, zrow [v] n = List.replicate n v
 | 0 => rfl
 | n + 1 => by rw [zrow, zrow_one v n]; rfl
theorem VRs.flat {n : Nat} {m : CMap} : ∀ {l : List Value}, l.all Fw.flat = true → VRs n m l l
 | [], _ => .nil _ _
 | v :: l, h => by
  simp at h
  exact .cons (.flat h.1) (VRs.flat (by simpa using h.2))
theorem zrow_all (p : Value → Bool) (z : List Value) (h : z.all p = true) : ∀ n, (zrow z n).all p = true
 | 0 => rfl
 | n + 1 => by rw [zrow, List.all_append, h, zrow_all p z h n]; rfl
end Go.Fw
