/- A text of the proof. -/
import Derived.Test.YtnaahaldkpdjlaaFwRep2
import Derived.Shelf.Sort.Plain
import Derived.Shelf.Slices.In.SortNone
import Derived.Shelf.Slices.CompactI
import Derived.Deep.Draws
set_option linter.unusedSimpArgs false
set_option linter.unusedVariables false
namespace Go.Fw
open Go.Proofs
variable {P : Program} {W0 : Base} {m : CMap} {h : AHeap} {w : World}
def i64s (l : List Int) : List Value := l.map (Value.int .i64)
theorem i64s_length (l : List Int) : (i64s l).length = l.length := by simp [i64s]
theorem vr_int {n : Nat} {m : CMap} {k : IntKind} {x : Int} {v : Value} (h : VR n m (.int k x) v) : v = .int k x := by cases h; rfl
theorem Rel.row (R : Rel W0 m h w) {id : Nat} {c : List Value} {ys : List Int} (ho : h.own id = some (.cells c)) (hl : ys.length ≤ c.length) (q : Nat) (os : Array Obj) :
  Rel W0 m (h.put id (.cells (i64s ys ++ c.drop ys.length))) (Sort.grow (Sort.putRow (Value.int .i64) (Sort.ahead w q) (m id).blk (m id).base ys.toArray) os) := by
 have hne : h.own id ≠ none := by rw [ho]; simp
 obtain ⟨C, e, lo, hi, hb, hs, hlc, hr, hone, hf⟩ := R.own id _ ho
 have hbl : (m id).blk < w.heap.size := (Array.getElem?_eq_some_iff.1 hb).1
 generalize hcc : i64s ys ++ c.drop ys.length = cc
 have hccl : cc.length = c.length := by rw [← hcc]; simp [i64s_length]; omega
 have hsome : ∀ i, (h.put id (.cells cc)).own i ≠ none → h.own i ≠ none := by
  intro i hi'
  by_cases hii : i = id
  ·subst hii; exact hne
  ·rwa [AHeap.own_put_ne _ _ _ _ hii] at hi'
 have hother : ∀ i, h.own i ≠ none → i ≠ id → (m i).blk ≠ (m id).blk := fun i hi' hii hbe => hii (R.inj i id hi' hne hbe)
 have heq : ∀ b, b < w.heap.size → b ≠ (m id).blk → (Sort.grow (Sort.putRow (Value.int .i64) (Sort.ahead w q) (m id).blk (m id).base ys.toArray) os).heap[b]? = w.heap[b]? := fun b hbs hbn => by
  simp only [Sort.grow, Sort.putRow, Sort.mapBlock, Sort.ahead]
  rw [Array.getElem?_append_left (by simpa using hbs), Array.getElem?_modify, if_neg (Ne.symm hbn)]
 have heq2 : (Sort.grow (Sort.putRow (Value.int .i64) (Sort.ahead w q) (m id).blk (m id).base ys.toArray) os).heap[(m id).blk]? = some (.cells (Sort.putCells (Value.int .i64) (m id).base ys.toArray C) e (lo, hi)) := by
  simp only [Sort.grow, Sort.putRow, Sort.mapBlock, Sort.ahead]
  rw [Array.getElem?_append_left (by simpa using hbl), Array.getElem?_modify, if_pos rfl, hb]
  rfl
 have hsz : (Sort.grow (Sort.putRow (Value.int .i64) (Sort.ahead w q) (m id).blk (m id).base ys.toArray) os).heap.size = w.heap.size + os.size := by
  simp [Sort.grow, Sort.putRow, Sort.mapBlock, Sort.ahead]
 refine ⟨by rw [hsz]; have := R.size; omega, fun b hb' => ?_, R.ext, fun i hi' => R.lt i (hsome i hi'), fun i hi' => R.new i (hsome i hi'), fun i o hio => ?_, fun i j hi' hj' => R.inj i j (hsome i hi') (hsome j hj'), R.os, R.output, ⟨R.tape.1, Nat.le_trans R.tape.2 (Nat.le_add_right _ _)⟩, R.prot.put hsome (fun b hb hn => heq b hb (fun e => hn id hne e.symm))⟩
 ·rw [heq b (by have := R.size; omega) (by have := R.new id hne; omega)]
  exact R.old b hb'
 ·by_cases hii : i = id
  ·subst hii
   rw [AHeap.own_put_eq] at hio
   injection hio with hio
   subst hio
   have hcs : (Sort.putCells (Value.int .i64) (m i).base ys.toArray C).size = C.size := by simp [Sort.putCells]
   have hget : ∀ k, (Sort.putCells (Value.int .i64) (m i).base ys.toArray C)[k]? = (C[k]?).map fun x => if (m i).base ≤ k ∧ k < (m i).base + ys.length then Value.int .i64 ys.toArray[k - (m i).base]! else x := fun k => by
    simp [Sort.putCells]
   refine ⟨_, e, lo, hi, heq2, by rw [hcs]; exact hs, by rw [hccl, hcs]; exact hlc, ⟨by simp [hccl, hcs]; omega, fun k v v' hk hk' => ?_⟩, fun u hu => ?_, fun j hj => hf j (by rw [hcs] at hj; exact hj)⟩
   ·rw [List.getElem?_take] at hk'
    split at hk'
    ·rename_i hkc
     rw [List.getElem?_drop, Array.getElem?_toList, hget] at hk'
     by_cases hky : k < ys.length
     ·have hkk : (m i).base + k < C.size := by omega
      rw [Array.getElem?_eq_getElem hkk, Option.map_some, if_pos ⟨by omega, by omega⟩] at hk'
      rw [← hcc, List.getElem?_append_left (by rw [i64s_length]; exact hky)] at hk
      simp only [i64s, List.getElem?_map, List.getElem?_eq_getElem hky, Option.map_some, Option.some.injEq] at hk hk'
      subst hk hk'
      have : (m i).base + k - (m i).base = k := by omega
      rw [this, getElem!_pos _ k (by simpa using hky)]
      exact .flat rfl
     ·rw [← hcc, List.getElem?_append_right (by rw [i64s_length]; omega), i64s_length, List.getElem?_drop] at hk
      have e1 : ys.length + (k - ys.length) = k := by omega
      rw [e1] at hk
      refine hr.2 k v v' hk ?_
      rw [List.getElem?_take, if_pos (by omega), List.getElem?_drop, Array.getElem?_toList, ← hk']
      cases hC : C[(m i).base + k]? with
      | none => rfl
      | some x => rw [Option.map_some, if_neg (by omega)]
    ·cases hk'
   ·obtain ⟨k, hk⟩ := List.mem_iff_getElem?.1 hu
    rw [Array.getElem?_toList, hget] at hk
    cases hC : C[k]? with
    | none => rw [hC] at hk; cases hk
    | some x =>
     rw [hC, Option.map_some] at hk
     injection hk with hk
     split at hk
     ·subst hk; rfl
     ·subst hk; exact hone _ (List.mem_of_getElem? (by rw [Array.getElem?_toList]; exact hC))
  ·rw [AHeap.own_put_ne _ _ _ _ hii] at hio
   have hin : h.own i ≠ none := by rw [hio]; simp
   exact Rel.mono_obj (R.own i o hio) (Nat.le_refl _) (Agree.refl _ _) (heq _ (R.blk_lt hin) (hother i hin hii))
theorem Rel.holds (R : Rel W0 m h w) {id : Nat} {c : List Value} {xs : List Int} (ho : h.own id = some (.cells c)) (hx : c.take xs.length = i64s xs) : Sort.Holds (Value.int .i64) w (m id).blk (m id).base xs.toArray := by
 intro j hj
 have hj' : j < xs.length := by simpa using hj
 have hg : c[j]? = some (.int .i64 xs[j]) := by
  have := congrArg (·[j]?) hx
  simp only [List.getElem?_take, if_pos hj', i64s, List.getElem?_map, List.getElem?_eq_getElem hj', Option.map_some] at this
  exact this
 obtain ⟨v', h1, h2⟩ := R.cell_own ho hg
 rw [vr_int h2] at h1
 refine ⟨?_, R.frozen ho (List.getElem?_eq_some_iff.1 hg).1⟩
 rw [h1, getElem!_pos _ j hj]; rfl
theorem vr_slice {n : Nat} {m : CMap} {id len cap : Nat} {v' : Value} (hl : len ≤ cap) (h0 : 0 < len) (h : VR n m (.slice (some ⟨id, 0, none⟩) len cap) v') :
  ∃ cap', v' = .slice (some ⟨(m id).blk, (m id).base, none⟩) len cap' ∧ len ≤ cap' ∧ ∀ k, k ≤ len → VR n m (.slice (some ⟨id, 0, none⟩) k cap) (.slice (some ⟨(m id).blk, (m id).base, none⟩) k cap') := by
 cases h with
 | flat h => simp [Fw.flat] at h
 | slice h hc => exact ⟨cap, by simp, hl, fun k _ => by simpa using VR.slice (m := m) (off := 0) (len := k) h hc⟩
 | @buf _ _ _ k cap' a' h hl' ha =>
  rcases ha with ⟨rfl, ha⟩ | ha
  ·exact ⟨cap', by simp, hl', fun j hj => by simpa using VR.buf (m := m) (off := 0) (len := j) (k := k) (cap' := cap') h (by omega) (.inl ⟨rfl, by simpa using ha⟩)⟩
  ·omega
 | empty => omega
theorem vr_zero {n : Nat} {m : CMap} {a : Option Addr} {cap : Nat} {v' : Value} (h : VR n m (.slice a 0 cap) v') : ∃ a' cap', v' = .slice a' 0 cap' := by
 cases h with
 | flat h => exact ⟨_, _, rfl⟩
 | slice => exact ⟨_, _, rfl⟩
 | buf => exact ⟨_, _, rfl⟩
 | esl => exact ⟨_, _, rfl⟩
 | empty => exact ⟨_, _, rfl⟩
theorem AC.ofRow {f : FuncId} {id len cap k : Nat} {c : List Value} {xs ys : List Int} {out : Value} (ho : h.own id = some (.cells c)) (hx : c.take len = i64s xs) (hxl : xs.length = len) (hyl : ys.length = len) (hcl : len ≤ c.length) (hl : len ≤ cap) (h0 : 0 < len) (hk : k ≤ len)
  (hout : out = .tuple #[] ∨ out = .slice (some ⟨id, 0, none⟩) k cap)
  (hC : ∀ (blk off cap' : Nat) (w : World), Sort.Holds (Value.int .i64) w blk off xs.toArray → blk < w.heap.size → len ≤ cap' →
   Calls P f #[.slice (some ⟨blk, off, none⟩) len cap'] w fun e w' => (∃ v, e = .returned v ∧ (out = .tuple #[] ∧ v = .tuple #[] ∨ out ≠ .tuple #[] ∧ v = .slice (some ⟨blk, off, none⟩) k cap')) ∧ ∃ q os, w' = Sort.grow (Sort.putRow (Value.int .i64) (Sort.ahead w q) blk off ys.toArray) os) :
  AC P W0 f [.slice (some ⟨id, 0, none⟩) len cap] h fun x h' => x = out ∧ h' = h.put id (.cells (i64s ys ++ c.drop len)) := by
 intro ex m w args' R va
 obtain ⟨v0, hv0, hvr⟩ := va.get (i := 0) rfl
 have hargs : args' = [v0] := by
  have hl1 := va.1
  match args', hl1 with
  | [x], _ => simp at hv0; rw [hv0]
 obtain ⟨cap', rfl, hc', hsh⟩ := vr_slice hl h0 hvr
 rw [hargs]
 have hne : h.own id ≠ none := by rw [ho]; simp
 refine (hC (m id).blk (m id).base cap' w (R.holds ho (by rw [hxl]; exact hx)) (R.blk_lt hne) hc').mono ?_
 rintro e w' ⟨⟨v, rfl, hv⟩, q, os, rfl⟩
 have R' := R.row (ys := ys) ho (by omega) q os
 rw [hyl] at R'
 refine ⟨out, v, m, _, rfl, R', Agree.refl _ _, Nat.le_refl _, ?_, rfl, rfl⟩
 rcases hv with ⟨h1, rfl⟩ | ⟨h1, rfl⟩
 ·rw [h1]; exact .tuple rfl (fun i v v' e => by simp at e)
 ·rcases hout with h2 | h2
  ·exact absurd h2 h1
  ·rw [h2]; exact hsh k hk
end Go.Fw
namespace Go.Fw
open Go.Proofs
variable {P : Program} {W0 : Base} {m : CMap} {h : AHeap} {w : World}
theorem Rel.rowV (R : Rel W0 m h w) {id : Nat} {c : List Value} {ys : List Value} (hfl : ∀ y ∈ ys, flat y = true ∧ y.oneCell' = true) (ho : h.own id = some (.cells c)) (hl : ys.length ≤ c.length) (q : Nat) (os : Array Obj) :
  Rel W0 m (h.put id (.cells (ys ++ c.drop ys.length))) (Sort.grow (Sort.putRow (fun v : Value => v) (Sort.ahead w q) (m id).blk (m id).base ys.toArray) os) := by
 have hne : h.own id ≠ none := by rw [ho]; simp
 obtain ⟨C, e, lo, hi, hb, hs, hlc, hr, hone, hf⟩ := R.own id _ ho
 have hbl : (m id).blk < w.heap.size := (Array.getElem?_eq_some_iff.1 hb).1
 generalize hcc : ys ++ c.drop ys.length = cc
 have hccl : cc.length = c.length := by rw [← hcc]; simp; omega
 have hsome : ∀ i, (h.put id (.cells cc)).own i ≠ none → h.own i ≠ none := by
  intro i hi'
  by_cases hii : i = id
  ·subst hii; exact hne
  ·rwa [AHeap.own_put_ne _ _ _ _ hii] at hi'
 have hother : ∀ i, h.own i ≠ none → i ≠ id → (m i).blk ≠ (m id).blk := fun i hi' hii hbe => hii (R.inj i id hi' hne hbe)
 have heq : ∀ b, b < w.heap.size → b ≠ (m id).blk → (Sort.grow (Sort.putRow (fun v : Value => v) (Sort.ahead w q) (m id).blk (m id).base ys.toArray) os).heap[b]? = w.heap[b]? := fun b hbs hbn => by
  simp only [Sort.grow, Sort.putRow, Sort.mapBlock, Sort.ahead]
  rw [Array.getElem?_append_left (by simpa using hbs), Array.getElem?_modify, if_neg (Ne.symm hbn)]
 have heq2 : (Sort.grow (Sort.putRow (fun v : Value => v) (Sort.ahead w q) (m id).blk (m id).base ys.toArray) os).heap[(m id).blk]? = some (.cells (Sort.putCells (fun v : Value => v) (m id).base ys.toArray C) e (lo, hi)) := by
  simp only [Sort.grow, Sort.putRow, Sort.mapBlock, Sort.ahead]
  rw [Array.getElem?_append_left (by simpa using hbl), Array.getElem?_modify, if_pos rfl, hb]
  rfl
 have hsz : (Sort.grow (Sort.putRow (fun v : Value => v) (Sort.ahead w q) (m id).blk (m id).base ys.toArray) os).heap.size = w.heap.size + os.size := by
  simp [Sort.grow, Sort.putRow, Sort.mapBlock, Sort.ahead]
 refine ⟨by rw [hsz]; have := R.size; omega, fun b hb' => ?_, R.ext, fun i hi' => R.lt i (hsome i hi'), fun i hi' => R.new i (hsome i hi'), fun i o hio => ?_, fun i j hi' hj' => R.inj i j (hsome i hi') (hsome j hj'), R.os, R.output, ⟨R.tape.1, Nat.le_trans R.tape.2 (Nat.le_add_right _ _)⟩, R.prot.put hsome (fun b hb hn => heq b hb (fun e => hn id hne e.symm))⟩
 ·rw [heq b (by have := R.size; omega) (by have := R.new id hne; omega)]
  exact R.old b hb'
 ·by_cases hii : i = id
  ·subst hii
   rw [AHeap.own_put_eq] at hio
   injection hio with hio
   subst hio
   have hcs : (Sort.putCells (fun v : Value => v) (m i).base ys.toArray C).size = C.size := by simp [Sort.putCells]
   have hget : ∀ k, (Sort.putCells (fun v : Value => v) (m i).base ys.toArray C)[k]? = (C[k]?).map fun x => if (m i).base ≤ k ∧ k < (m i).base + ys.length then ys.toArray[k - (m i).base]! else x := fun k => by
    simp [Sort.putCells]
   refine ⟨_, e, lo, hi, heq2, by rw [hcs]; exact hs, by rw [hccl, hcs]; exact hlc, ⟨by simp [hccl, hcs]; omega, fun k v v' hk hk' => ?_⟩, fun u hu => ?_, fun j hj => hf j (by rw [hcs] at hj; exact hj)⟩
   ·rw [List.getElem?_take] at hk'
    split at hk'
    ·rename_i hkc
     rw [List.getElem?_drop, Array.getElem?_toList, hget] at hk'
     by_cases hky : k < ys.length
     ·have hkk : (m i).base + k < C.size := by omega
      rw [Array.getElem?_eq_getElem hkk, Option.map_some, if_pos ⟨by omega, by omega⟩] at hk'
      rw [← hcc, List.getElem?_append_left (by exact hky)] at hk
      simp only [List.getElem?_eq_getElem hky, Option.some.injEq] at hk hk'
      subst hk hk'
      have : (m i).base + k - (m i).base = k := by omega
      rw [this, getElem!_pos _ k (by simpa using hky)]
      simp only [List.getElem_toArray]
      exact .flat (hfl _ (List.getElem_mem hky)).1
     ·rw [← hcc, List.getElem?_append_right (by omega), List.getElem?_drop] at hk
      have e1 : ys.length + (k - ys.length) = k := by omega
      rw [e1] at hk
      refine hr.2 k v v' hk ?_
      rw [List.getElem?_take, if_pos (by omega), List.getElem?_drop, Array.getElem?_toList, ← hk']
      cases hC : C[(m i).base + k]? with
      | none => rfl
      | some x => rw [Option.map_some, if_neg (by omega)]
    ·cases hk'
   ·obtain ⟨k, hk⟩ := List.mem_iff_getElem?.1 hu
    rw [Array.getElem?_toList, hget] at hk
    cases hC : C[k]? with
    | none => rw [hC] at hk; cases hk
    | some x =>
     rw [hC, Option.map_some] at hk
     injection hk with hk
     split at hk
     ·rename_i hr'
      subst hk
      have hky : k - (m i).base < ys.length := by omega
      rw [getElem!_pos _ _ (by simpa using hky)]
      simp only [List.getElem_toArray]
      exact (hfl _ (List.getElem_mem hky)).2
     ·subst hk; exact hone _ (List.mem_of_getElem? (by rw [Array.getElem?_toList]; exact hC))
  ·rw [AHeap.own_put_ne _ _ _ _ hii] at hio
   have hin : h.own i ≠ none := by rw [hio]; simp
   exact Rel.mono_obj (R.own i o hio) (Nat.le_refl _) (Agree.refl _ _) (heq _ (R.blk_lt hin) (hother i hin hii))
theorem vr_flat {n : Nat} {m : CMap} {v v' : Value} (hv : flat v = true) (h : VR n m v v') : v' = v := by
 cases h with
 | flat _ => rfl
 | ptr _ => cases hv
 | eptr => cases hv
 | slice _ _ => cases hv
 | buf _ _ _ => cases hv
 | esl _ => cases hv
 | empty => cases hv
 | map _ => cases hv
 | func => cases hv
 | iface _ => cases hv
 | agg => cases hv
 | tuple => cases hv
theorem Rel.holdsV (R : Rel W0 m h w) {id : Nat} {c xs : List Value} (hfl : ∀ y ∈ xs, flat y = true) (ho : h.own id = some (.cells c)) (hx : c.take xs.length = xs) : Sort.Holds (fun v : Value => v) w (m id).blk (m id).base xs.toArray := by
 intro j hj
 have hj' : j < xs.length := by simpa using hj
 have hg : c[j]? = some xs[j] := by
  have := congrArg (·[j]?) hx
  simp only [List.getElem?_take, if_pos hj', List.getElem?_eq_getElem hj'] at this
  exact this
 obtain ⟨v', h1, h2⟩ := R.cell_own ho hg
 rw [vr_flat (hfl _ (List.getElem_mem hj')) h2] at h1
 refine ⟨?_, R.frozen ho (List.getElem?_eq_some_iff.1 hg).1⟩
 rw [h1, getElem!_pos _ j hj]; rfl
theorem vr_func {n : Nat} {m : CMap} {f : Fn} {v' : Value} (h : VR n m (.func f #[] #[]) v') : v' = .func f #[] #[] := by
 cases h with
 | flat h => cases h
 | @func _ _ a' _ b' ha hb _ _ =>
  have h1 : a' = #[] := Array.eq_empty_of_size_eq_zero (by simpa using ha.symm)
  have h2 : b' = #[] := Array.eq_empty_of_size_eq_zero (by simpa using hb.symm)
  rw [h1, h2]
theorem AC.ofRowK {f : FuncId} {g : Fn} {k id len cap : Nat} {c xs ys : List Value} (ho : h.own id = some (.cells c)) (hx : c.take (len * k) = xs) (hxl : xs.length = len * k) (hyl : ys.length = len * k) (hcl : len * k ≤ c.length) (hl : len ≤ cap) (h0 : 0 < len)
  (hfx : ∀ y ∈ xs, flat y = true) (hfy : ∀ y ∈ ys, flat y = true ∧ y.oneCell' = true)
  (hC : ∀ (blk off cap' : Nat) (w : World), Sort.Holds (fun v : Value => v) w blk off xs.toArray → blk < w.heap.size → len ≤ cap' →
   Calls P f #[.slice (some ⟨blk, off, none⟩) len cap', .func g #[] #[]] w fun e w' => e = .returned (.tuple #[]) ∧ ∃ q os, w' = Sort.grow (Sort.putRow (fun v : Value => v) (Sort.ahead w q) blk off ys.toArray) os) :
  AC P W0 f [.slice (some ⟨id, 0, none⟩) len cap, .func g #[] #[]] h fun x h' => x = .tuple #[] ∧ h' = h.put id (.cells (ys ++ c.drop (len * k))) := by
 intro ex m w args' R va
 obtain ⟨v0, hv0, hvr⟩ := va.get (i := 0) rfl
 obtain ⟨v1, hv1, hvr1⟩ := va.get (i := 1) rfl
 have hargs : args' = [v0, v1] := by
  have hl1 := va.1
  match args', hl1 with
  | [x, y], _ => simp at hv0 hv1; rw [hv0, hv1]
 obtain ⟨cap', rfl, hc', hsh⟩ := vr_slice hl h0 hvr
 have := vr_func hvr1
 subst this
 rw [hargs]
 have hne : h.own id ≠ none := by rw [ho]; simp
 refine (hC (m id).blk (m id).base cap' w (R.holdsV hfx ho (by rw [hxl]; exact hx)) (R.blk_lt hne) hc').mono ?_
 rintro e w' ⟨rfl, q, os, rfl⟩
 have R' := R.rowV hfy ho (by omega) q os
 rw [hyl] at R'
 exact ⟨.tuple #[], .tuple #[], m, _, rfl, R', Agree.refl _ _, Nat.le_refl _, .tuple rfl (fun i v v' e => by simp at e), rfl, rfl⟩
theorem AC.ofNoneF {f : FuncId} {g : Fn} {a : Option Addr} {cap : Nat} (hC : ∀ (a' : Option Addr) (cap' : Nat) (w : World), Calls P f #[.slice a' 0 cap', .func g #[] #[]] w fun e w' => e = .returned (.tuple #[]) ∧ w' = w) :
  AC P W0 f [.slice a 0 cap, .func g #[] #[]] h fun x h' => x = .tuple #[] ∧ h' = h := by
 intro ex m w args' R va
 obtain ⟨v0, hv0, hvr⟩ := va.get (i := 0) rfl
 obtain ⟨v1, hv1, hvr1⟩ := va.get (i := 1) rfl
 have hargs : args' = [v0, v1] := by
  have hl1 := va.1
  match args', hl1 with
  | [x, y], _ => simp at hv0 hv1; rw [hv0, hv1]
 obtain ⟨a', cap', rfl⟩ := vr_zero hvr
 have := vr_func hvr1
 subst this
 rw [hargs]
 refine (hC a' cap' w).mono ?_
 rintro e w' ⟨rfl, rfl⟩
 exact ⟨.tuple #[], .tuple #[], m, _, rfl, R, Agree.refl _ _, Nat.le_refl _, .tuple rfl (fun i v v' e => by simp at e), rfl, rfl⟩
theorem Rel.grown {W w' : World} {m : CMap} {h : AHeap} (R : Rel (Base.of W) m h w') : ∃ q os, w' = Sort.grow (W.drewN q) os := by
 refine ⟨w'.drawn - W.drawn, w'.heap.extract W.heap.size w'.heap.size, ?_⟩
 have h1 : W.heap.size ≤ w'.heap.size := R.size
 have hh : w'.heap = W.heap ++ w'.heap.extract W.heap.size w'.heap.size := by
  apply Array.ext_getElem?
  intro i
  by_cases hi : i < W.heap.size
  ·rw [Array.getElem?_append_left hi]; exact R.old i hi
  ·rw [Array.getElem?_append_right (by omega), Array.getElem?_extract]
   by_cases hj : i < w'.heap.size
   ·rw [if_pos (by omega)]; congr 1; omega
   ·rw [if_neg (by omega), Array.getElem?_eq_none (by omega)]
 have h2 : W.drawn ≤ w'.drawn := R.tape.2
 have h3 : w'.drawn = W.drawn + (w'.drawn - W.drawn) := by omega
 have h4 : w'.tape = W.tape := R.tape.1
 have h5 : w'.os = W.os := R.os
 have h6 : w'.output = W.output := R.output
 have : ∀ a b : World, a.heap = b.heap → a.tape = b.tape → a.drawn = b.drawn → a.os = b.os → a.output = b.output → a = b := by
  intro a b e1 e2 e3 e4 e5
  cases a; cases b; simp at e1 e2 e3 e4 e5; subst e1 e2 e3 e4 e5; rfl
 exact this _ _ hh h4 h3 h5 h6
theorem AC.grown {f : FuncId} {args args' : List Value} {x : Int} (W : World) (ha : AC P (Base.of W) f args (ext0 W) fun v _ => v = .int .i64 x) (hv : ∀ m, VRs 0 m args args') :
  Calls P f args'.toArray W fun e w' => e = .returned (.int .i64 x) ∧ ∃ q os, w' = Sort.grow (W.drewN q) os := by
 refine (ha [] (fun _ => ⟨0, 0, 0⟩) W args' (Rel.start W _) (hv _)).mono ?_
 rintro e w' ⟨v, v', m', h', rfl, R, _, _, hvr, rfl⟩
 rw [vr_int hvr]
 exact ⟨rfl, R.grown⟩
end Go.Fw
