/- A text of the proof. -/
import Derived.Test.YtnaahaldkpdjlaaFwRep
import Derived.Test.YtnaahaldkpdjlaaFwRules
import Derived.ProofKit
import Derived.Deep.Slices
import Derived.OpenShut
import Derived.Shelf.Sort.Plain
import Derived.Shelf.Slices.In.SortNone
import Derived.Shelf.Slices.CompactI
import Derived.Deep.Draws
set_option linter.unusedSimpArgs false
set_option linter.unusedVariables false
namespace Go.Fw
variable {P : Program} {h h' : AHeap}
def rem (l : List Nat) (h : AHeap) : AHeap := l.foldr (fun i g => g.kill i) h
theorem rem_ext (l : List Nat) : (rem l h).ext = h.ext := by
 induction l with
 | nil => rfl
 | cons a l ih => exact ih
theorem rem_own (l : List Nat) (i : Nat) : (rem l h).own i = if i ∈ l then none else h.own i := by
 induction l with
 | nil => simp [rem]
 | cons a l ih =>
  show ((rem l h).kill a).own i = _
  rw [own_kill, ih]
  by_cases e : i = a
  ·simp [e]
  ·simp [e]
theorem rem_some {l : List Nat} {i : Nat} {o : AObj} : (rem l h).own i = some o ↔ h.own i = some o ∧ i ∉ l := by
 rw [rem_own]; split <;> simp_all
theorem rem_le (l : List Nat) (h : AHeap) : Le (rem l h) h := ⟨(rem_ext l).symm, fun i o hi => (rem_some.1 hi).1⟩
theorem Le.rem {l l' : List Nat} (he : h'.ext = h.ext) (hk : ∀ i o, h.own i = some o → i ∉ l → h'.own i = some o ∧ i ∉ l') : Le (Fw.rem l h) (Fw.rem l' h') :=
 ⟨by rw [rem_ext, rem_ext, he], fun i o hi => by
  obtain ⟨h1, h2⟩ := rem_some.1 hi
  exact rem_some.2 (hk i o h1 h2)⟩
theorem Le.of_none {g : AHeap} {l : List Nat} (e : Le g h) (hn : ∀ i ∈ l, g.own i = Option.none) : Le g (Fw.rem l h) :=
 ⟨by rw [rem_ext]; exact e.ext, fun i o hi => rem_some.2 ⟨e.own _ _ hi, fun hm => by rw [hn i hm] at hi; cases hi⟩⟩
theorem Le.mono_rem {l : List Nat} (e : Le h h') : Le (Fw.rem l h) (Fw.rem l h') := Le.rem e.ext fun i o hi hn => ⟨e.own _ _ hi, hn⟩
def bl (v : Value) : List Nat := (blk v).toList
theorem mem_bl {v : Value} {i : Nat} : i ∈ bl v ↔ blk v = some i := by simp [bl]
theorem GS.to_rem {k n : Nat} {v : Value} {cs : List Value} {l : List Nat} (g : GS k h v n cs) (hb : ∀ b, blk v = some b → b ∉ l) : GS k (rem l h) v n cs := by
 obtain ⟨hl, g | ⟨id, c, cap, rfl, ho, r⟩⟩ := g
 ·exact ⟨hl, .inl g⟩
 ·exact ⟨hl, .inr ⟨id, c, cap, rfl, rem_some.2 ⟨ho, hb id rfl⟩, r⟩⟩
theorem GS.blk_own {k n : Nat} {v : Value} {cs : List Value} (g : GS k h v n cs) {b : Nat} (hb : blk v = some b) : h.own b ≠ none := by
 obtain ⟨hl, ⟨rfl, _⟩ | ⟨id, c, cap, rfl, ho, r⟩⟩ := g
 ·cases hb
 ·injection hb with hb; subst hb; rw [ho]; simp
def cu (v : Value) : Prop := v = .slice none 0 0 ∨ ∃ a n c, v = .slice a n c ∧ UNK ≤ c
theorem aadd_aadd (a : Addr) (i j : Nat) : aadd (aadd a i) j = aadd a (i + j) := by simp [aadd, Nat.add_assoc]
theorem RS.part {a : Addr} {n cap cap' lo hi : Nat} {vs : List Value} (r : RS h (.slice (some a) n cap) vs) (h1 : lo ≤ hi) (h2 : hi ≤ n) (hn : vs.length = n) : RS h (.slice (some (aadd a lo)) (hi - lo) cap') ((vs.drop lo).take (hi - lo)) := by
 have hl : ((vs.drop lo).take (hi - lo)).length = hi - lo := by simp; omega
 refine ⟨⟨_, cap', by rw [hl], by simp⟩, fun i x hx => ?_⟩
 rw [elemAddr_mk, aadd_aadd]
 rw [List.getElem?_take] at hx
 split at hx
 ·rw [List.getElem?_drop] at hx; have := r.get (lo + i) x hx; rwa [elemAddr_mk] at this
 ·cases hx
theorem RS.none' {a : Option Addr} {n cap cap' : Nat} {a' : Option Addr} (hn : n = 0) : RS h (.slice a' n cap') [] := by
 subst hn; exact ⟨⟨a', cap', rfl, by simp⟩, fun i x hx => by simp at hx⟩
end Go.Fw
namespace Go.Fw
open Go.ChangeShapes Go.WideShapes Go.RowKit
def ext0 (W : World) : AHeap := ⟨fun b off => (W.cell? ⟨b, off, none⟩).bind tag, 0, .leaf⟩
theorem ext0_own (W : World) (i : Nat) : (ext0 W).own i = none := by simp [ext0, AHeap.own, Trie.get]
theorem Rel.start (W : World) (m : CMap) : Rel (Base.of W) m (ext0 W) W :=
 ⟨Nat.le_refl _, fun _ _ => rfl, fun _ _ => rfl, fun i hi => absurd (ext0_own W i) hi, fun i hi => absurd (ext0_own W i) hi, fun i o hi => by (rw [ext0_own] at hi; cases hi), fun i j hi => absurd (ext0_own W i) hi, rfl, rfl, ⟨rfl, Nat.le_refl _⟩, ⟨fun _ h => (nomatch h), Nat.zero_le _, .nil, fun _ _ h => (nomatch h), fun _ _ h => (nomatch h), fun _ _ _ h => (nomatch h)⟩⟩
theorem WF.start (W : World) : WF (ext0 W) := fun i hi => absurd (ext0_own W i) hi
theorem Rel.below {W w' : World} {m : CMap} {h : AHeap} (R : Rel (Base.of W) m h w') : Below W.heap.size W w' := ⟨R.os, R.tape.1, R.output, R.size, R.old⟩
section
variable {H : Type} {enc : TypeId × Value → H} {P : Program} {W : World}
def Rd {α : Type} (enc : TypeId × Value → H) (P : Program) (W : World) (t : TypeId) (R : AHeap → Value → α → Prop) : Prop :=
 ∀ fuel cs x, DataW.trod enc P W 0 (fun _ => true) true fuel t cs = some x → ∃ v' v a, cs = [v'] ∧ tag v' = some v ∧ R (ext0 W) v a
theorem rd_i64 {t : TypeId} (ht : P.underlying t = some (.int .i64)) : Rd enc P W t isI := by
 intro fuel cs x h
 obtain ⟨n, rfl, _, _⟩ := DataW.trod_int ht h
 exact ⟨_, .int .i64 n, n, rfl, rfl, rfl⟩
theorem addr_add_of {a : Addr} (h : a.spot = none) (i : Nat) : a.add i = ⟨a.block, a.off + i, none⟩ := by
 obtain ⟨b, off, sp⟩ := a
 simp only at h
 subst h
 unfold Addr.add
 split
 ·rename_i h; subst h; rfl
 ·rfl
theorem rd_slice {α : Type} {R : AHeap → Value → α → Prop} {t e : TypeId} (ht : P.underlying t = some (.slice e)) (he : P.cellsOf e = 1) (hr : Rd enc P W e R) : Rd enc P W t (RL R) := by
 intro fuel cs x h
 rcases Go.Deep.open_slice1 ht he h with ⟨rfl, _⟩ | ⟨a, len, cap, m, n, V, D, Pl, rfl, hb, hl, hm, hmm, _, hx⟩
 ·exact ⟨_, .slice none 0 0, [], rfl, rfl, RL.nil⟩
 ·simp only [if_true] at hmm
  have hmm2 := hmm.symm
  subst hmm2
  have hU : cap < UNK := Nat.lt_of_le_of_lt hm (by decide)
  by_cases h0 : cap = 0
  ·subst h0
   have : len = 0 := by omega
   subst this
   refine ⟨_, .slice (some ⟨a.block, a.off, some 0⟩) 0 0, [], rfl, ?_, [], ⟨⟨_, 0, rfl, by simp⟩, by simp⟩, rfl, by simp⟩
   obtain ⟨b, off, sp⟩ := a
   cases sp with
   | none => simp only [tag]; rw [if_pos (by decide)]
   | some k => rfl
  ·have hsp : a.spot = none := by
    have := (hx 0 (by omega)).1
    rw [show a.add 0 = a from rfl] at this
    simp only [World.cell?] at this
    split at this
    ·split at this
     ·cases this
     ·rename_i hs; simpa using hs
    ·cases this
   have key : ∀ k, k ≤ len → ∃ (vs : List Value) (xs : List α), vs.length = k ∧ xs.length = k ∧ (∀ (i : Nat) u, vs[i]? = some u → tag (V i) = some u) ∧ ∀ (i : Nat) u y, vs[i]? = some u → xs[i]? = some y → R (ext0 W) u y := by
    intro k
    induction k with
    | zero => intro _; exact ⟨[], [], rfl, rfl, by simp, by simp⟩
    | succ k ih =>
     intro hk
     obtain ⟨vs, xs, h1, h2, h3, h4⟩ := ih (by omega)
     obtain ⟨v', v, y, e1, e2, e3⟩ := hr _ _ _ (hx k (by omega)).2
     injection e1 with e1
     subst e1
     refine ⟨vs ++ [v], xs ++ [y], by simp [h1], by simp [h2], fun i u hi => ?_, fun i u z hi hz => ?_⟩
     ·by_cases hik : i < k
      ·rw [List.getElem?_append_left (by omega)] at hi; exact h3 i u hi
      ·rw [List.getElem?_append_right (by omega)] at hi
       have : i = k := by
        have := (List.getElem?_eq_some_iff.1 hi).1
        simp at this; omega
       subst this
       simp [h1] at hi; subst hi; exact e2
     ·by_cases hik : i < k
      ·rw [List.getElem?_append_left (by omega)] at hi
       rw [List.getElem?_append_left (by omega)] at hz
       exact h4 i u z hi hz
      ·rw [List.getElem?_append_right (by omega)] at hi hz
       have : i = k := by
        have := (List.getElem?_eq_some_iff.1 hi).1
        simp at this; omega
       subst this
       simp [h1] at hi; simp [h2] at hz; subst hi hz; exact e3
   obtain ⟨vs, xs, h1, h2, h3, h4⟩ := key len (Nat.le_refl _)
   refine ⟨_, .slice (some ⟨a.block, a.off, some 0⟩) len cap, xs, rfl, ?_, vs, ⟨⟨_, cap, by rw [h1], by simp⟩, fun i u hi => ?_⟩, by omega, fun i y u hy hu => h4 i u y hu hy⟩
   ·obtain ⟨b, off, sp⟩ := a
    simp only at hsp
    subst hsp
    simp only [tag]
    rw [if_pos hU]
   ·have hil : i < len := by have := (List.getElem?_eq_some_iff.1 hi).1; omega
    have hc := (hx i (by omega)).1
    rw [addr_add_of hsp] at hc
    have ht := h3 i u hi
    rw [elemAddr_mk]
    simp only [aadd, AHeap.read, ext0, hc, Option.bind_some]
    exact ht
end
end Go.Fw
namespace Go.Fw
open Go.ChangeShapes Go.WideShapes Go.RowKit
section
variable {H : Type} {enc : TypeId × Value → H} {P : Program} {W : World}
def RdK (enc : TypeId × Value → H) (P : Program) (W : World) (t : TypeId) (k : Nat) (Q : List Value → Prop) : Prop :=
 ∀ fuel cs x, DataW.trod enc P W 0 (fun _ => true) true fuel t cs = some x → ∃ us : List Value, us.length = k ∧ cs.length = k ∧ (∀ (i : Nat) u v', us[i]? = some u → cs[i]? = some v' → tag v' = some u) ∧ Q us
theorem rd_sliceK {t e : TypeId} {k : Nat} {Q : List Value → Prop} (ht : P.underlying t = some (.slice e)) (he : P.cellsOf e = k) (hk : 0 < k) (hr : RdK enc P W e k Q) :
  ∀ fuel cs x, DataW.trod enc P W 0 (fun _ => true) true fuel t cs = some x → ∃ v' v n C, cs = [v'] ∧ tag v' = some v ∧ CS k (ext0 W) v n C ∧ ∀ i, i < n → Q ((C.drop (i * k)).take k) := by
 intro fuel cs x h
 rcases Go.Deep.open_slice ht h with ⟨rfl, _⟩ | ⟨a, len, cap, m, n, D, Pl, rfl, hb, hl, hm, hmm, _, hx⟩
 ·exact ⟨_, .slice none 0 0, 0, [], rfl, rfl, CS.nil k _, fun i hi => absurd hi (by omega)⟩
 ·simp only [if_true] at hmm
  have hmm2 := hmm.symm
  subst hmm2
  rw [he] at hx
  have hU : cap < UNK := Nat.lt_of_le_of_lt hm (by decide)
  by_cases h0 : cap = 0
  ·subst h0
   have : len = 0 := by omega
   subst this
   refine ⟨_, .slice (some ⟨a.block, a.off, some 0⟩) 0 0, 0, [], rfl, ?_, ⟨⟨_, 0, rfl, by simp⟩, by simp, by simp⟩, fun i hi => absurd hi (by omega)⟩
   obtain ⟨b, off, sp⟩ := a
   cases sp with
   | none => simp only [tag]; rw [if_pos (by decide)]
   | some k => rfl
  ·have hsp : a.spot = none := by
    obtain ⟨cs', h1, h2⟩ := hx 0 (by omega)
    obtain ⟨us, _, hl2, _⟩ := hr _ _ _ h2
    obtain ⟨_, hlen, hcell⟩ := World.cells?_some h1
    have hc := hcell 0 hk
    rw [show (a.add (0 * k)).add 0 = a from by simp [Addr.add]] at hc
    cases hcs : cs'[0]? with
    | none => rw [List.getElem?_eq_none_iff] at hcs; omega
    | some q =>
     rw [hcs] at hc
     simp only [World.cell?] at hc
     split at hc
     ·split at hc
      ·cases hc
      ·rename_i hs; simpa using hs
     ·cases hc
   have key : ∀ j, j ≤ len → ∃ C : List Value, C.length = j * k ∧ (∀ (i : Nat) u, C[i]? = some u → (ext0 W).read ⟨a.block, a.off + i, some 0⟩ = some u) ∧ ∀ i, i < j → Q ((C.drop (i * k)).take k) := by
    intro j
    induction j with
    | zero => intro _; exact ⟨[], by simp, by simp, fun i hi => absurd hi (by omega)⟩
    | succ j ih =>
     intro hj
     obtain ⟨C, h1, h2, h3⟩ := ih (by omega)
     obtain ⟨cs', hc, ht⟩ := hx j (by omega)
     obtain ⟨us, l1, l2, l3, q⟩ := hr _ _ _ ht
     obtain ⟨_, hlen, hcell⟩ := World.cells?_some hc
     refine ⟨C ++ us, by simp [h1, l1, Nat.succ_mul], fun i u hi => ?_, fun i hi => ?_⟩
     ·by_cases hik : i < j * k
      ·rw [List.getElem?_append_left (by omega)] at hi; exact h2 i u hi
      ·rw [List.getElem?_append_right (by omega), h1] at hi
       have hlt : i - j * k < k := by
        have := (List.getElem?_eq_some_iff.1 hi).1; omega
       have hc1 := hcell (i - j * k) (by omega)
       have hsome : cs'[i - j * k]? = some cs'[i - j * k] := List.getElem?_eq_getElem (by omega)
       have htag := l3 _ u _ hi hsome
       rw [hsome, addr_add_of hsp, addr_add_of rfl] at hc1
       simp only at hc1
       rw [show a.off + j * k + (i - j * k) = a.off + i by omega] at hc1
       simp only [AHeap.read, ext0, hc1, Option.bind_some]
       exact htag
     ·by_cases hij : i < j
      ·have hik : i * k + k ≤ j * k := by rw [← Nat.succ_mul]; exact Nat.mul_le_mul_right _ hij
       rw [List.drop_append_of_le_length (by omega), List.take_append_of_le_length (by simp; omega)]
       exact h3 i hij
      ·obtain rfl : i = j := by omega
       rw [List.drop_append, show (C.drop (i * k)) = [] from List.drop_eq_nil_of_le (by omega), h1]
       simp only [Nat.sub_self, List.drop_zero, List.nil_append]
       rw [List.take_of_length_le (by omega)]
       exact q
   obtain ⟨C, h1, h2, h3⟩ := key len (Nat.le_refl _)
   refine ⟨_, .slice (some ⟨a.block, a.off, some 0⟩) len cap, len, C, rfl, ?_, ⟨⟨_, cap, rfl, by simp⟩, h1, fun i u hi => ?_⟩, h3⟩
   ·obtain ⟨b, off, sp⟩ := a
    simp only at hsp
    subst hsp
    simp only [tag]
    rw [if_pos hU]
   ·rw [elemAddr_mk]
    exact h2 i u hi
theorem rd_pair {t e : TypeId} (ht : P.underlying t = some (.array 2 e)) (he : P.underlying e = some (.int .i64)) (hc : P.cellsOf e = 1) (hc2 : P.cellsOf t = 2) :
  RdK enc P W t 2 (fun us => ∃ a b, us = [.int .i64 a, .int .i64 b]) := by
 intro fuel cs x h
 obtain ⟨xs, m, _, _, hl, hxs, hx⟩ := DataW.trod_array ht h
 rw [hc2] at hl
 match cs, hl, xs, hxs with
 | [c0, c1], _, [x0, x1], _ =>
  have h0 := hx 0 (by omega)
  have h1 := hx 1 (by omega)
  simp [hc] at h0 h1
  obtain ⟨a, ea, _, _⟩ := DataW.trod_int he h0
  obtain ⟨b, eb, _, _⟩ := DataW.trod_int he h1
  injection ea with ea
  injection eb with eb
  subst ea eb
  refine ⟨[.int .i64 a, .int .i64 b], rfl, rfl, fun i u v' hu hv => ?_, a, b, rfl⟩
  match i with
  | 0 => simp at hu hv; subst hu hv; rfl
  | 1 => simp at hu hv; subst hu hv; rfl
  | i + 2 => simp at hu
end
end Go.Fw
namespace Go.Fw
open Go.Proofs
variable {P : Program} {W0 : Base} {m : CMap} {h : AHeap} {w : World}
def i64s (l : List Int) : List Value := l.map (Value.int .i64)
theorem i64s_length (l : List Int) : (i64s l).length = l.length := by simp [i64s]
theorem vr_int {n : Nat} {m : CMap} {k : IntKind} {x : Int} {v : Value} (h : VR n m (.int k x) v) : v = .int k x := by cases h; rfl
theorem Rel.row (R : Rel W0 m h w) {id : Nat} {c : List Value} {ys : List Int} (ho : h.own id = some (.cells c)) (hl : ys.length ≤ c.length) (q : Nat) (os : Array Obj) :
  Rel W0 m (h.put id (.cells (i64s ys ++ c.drop ys.length))) (Sort.grow (Sort.putRow (Value.int .i64) (Sort.ahead w q) (m id).blk (m id).base ys.toArray) os) := by
 have hne : h.own id ≠ none := by rw [ho]; simp
 obtain ⟨C, e, lo, hi, hb, hs, hlc, hr, hone, hf⟩ := R.own id _ ho
 have hbl : (m id).blk < w.heap.size := (Array.getElem?_eq_some_iff.1 hb).1
 generalize hcc : i64s ys ++ c.drop ys.length = cc
 have hccl : cc.length = c.length := by rw [← hcc]; simp [i64s_length]; omega
 have hsome : ∀ i, (h.put id (.cells cc)).own i ≠ none → h.own i ≠ none := by
  intro i hi'
  by_cases hii : i = id
  ·subst hii; exact hne
  ·rwa [AHeap.own_put_ne _ _ _ _ hii] at hi'
 have hother : ∀ i, h.own i ≠ none → i ≠ id → (m i).blk ≠ (m id).blk := fun i hi' hii hbe => hii (R.inj i id hi' hne hbe)
 have heq : ∀ b, b < w.heap.size → b ≠ (m id).blk → (Sort.grow (Sort.putRow (Value.int .i64) (Sort.ahead w q) (m id).blk (m id).base ys.toArray) os).heap[b]? = w.heap[b]? := fun b hbs hbn => by
  simp only [Sort.grow, Sort.putRow, Sort.mapBlock, Sort.ahead]
  rw [Array.getElem?_append_left (by simpa using hbs), Array.getElem?_modify, if_neg (Ne.symm hbn)]
 have heq2 : (Sort.grow (Sort.putRow (Value.int .i64) (Sort.ahead w q) (m id).blk (m id).base ys.toArray) os).heap[(m id).blk]? = some (.cells (Sort.putCells (Value.int .i64) (m id).base ys.toArray C) e (lo, hi)) := by
  simp only [Sort.grow, Sort.putRow, Sort.mapBlock, Sort.ahead]
  rw [Array.getElem?_append_left (by simpa using hbl), Array.getElem?_modify, if_pos rfl, hb]
  rfl
 have hsz : (Sort.grow (Sort.putRow (Value.int .i64) (Sort.ahead w q) (m id).blk (m id).base ys.toArray) os).heap.size = w.heap.size + os.size := by
  simp [Sort.grow, Sort.putRow, Sort.mapBlock, Sort.ahead]
 refine ⟨by rw [hsz]; have := R.size; omega, fun b hb' => ?_, R.ext, fun i hi' => R.lt i (hsome i hi'), fun i hi' => R.new i (hsome i hi'), fun i o hio => ?_, fun i j hi' hj' => R.inj i j (hsome i hi') (hsome j hj'), R.os, R.output, ⟨R.tape.1, Nat.le_trans R.tape.2 (Nat.le_add_right _ _)⟩, R.prot.put hsome (fun b hb hn => heq b hb (fun e => hn id hne e.symm))⟩
 ·rw [heq b (by have := R.size; omega) (by have := R.new id hne; omega)]
  exact R.old b hb'
 ·by_cases hii : i = id
  ·subst hii
   rw [AHeap.own_put_eq] at hio
   injection hio with hio
   subst hio
   have hcs : (Sort.putCells (Value.int .i64) (m i).base ys.toArray C).size = C.size := by simp [Sort.putCells]
   have hget : ∀ k, (Sort.putCells (Value.int .i64) (m i).base ys.toArray C)[k]? = (C[k]?).map fun x => if (m i).base ≤ k ∧ k < (m i).base + ys.length then Value.int .i64 ys.toArray[k - (m i).base]! else x := fun k => by
    simp [Sort.putCells]
   refine ⟨_, e, lo, hi, heq2, by rw [hcs]; exact hs, by rw [hccl, hcs]; exact hlc, ⟨by simp [hccl, hcs]; omega, fun k v v' hk hk' => ?_⟩, fun u hu => ?_, fun j hj => hf j (by rw [hcs] at hj; exact hj)⟩
   ·rw [List.getElem?_take] at hk'
    split at hk'
    ·rename_i hkc
     rw [List.getElem?_drop, Array.getElem?_toList, hget] at hk'
     by_cases hky : k < ys.length
     ·have hkk : (m i).base + k < C.size := by omega
      rw [Array.getElem?_eq_getElem hkk, Option.map_some, if_pos ⟨by omega, by omega⟩] at hk'
      rw [← hcc, List.getElem?_append_left (by rw [i64s_length]; exact hky)] at hk
      simp only [i64s, List.getElem?_map, List.getElem?_eq_getElem hky, Option.map_some, Option.some.injEq] at hk hk'
      subst hk hk'
      have : (m i).base + k - (m i).base = k := by omega
      rw [this, getElem!_pos _ k (by simpa using hky)]
      exact .flat rfl
     ·rw [← hcc, List.getElem?_append_right (by rw [i64s_length]; omega), i64s_length, List.getElem?_drop] at hk
      have e1 : ys.length + (k - ys.length) = k := by omega
      rw [e1] at hk
      refine hr.2 k v v' hk ?_
      rw [List.getElem?_take, if_pos (by omega), List.getElem?_drop, Array.getElem?_toList, ← hk']
      cases hC : C[(m i).base + k]? with
      | none => rfl
      | some x => rw [Option.map_some, if_neg (by omega)]
    ·cases hk'
   ·obtain ⟨k, hk⟩ := List.mem_iff_getElem?.1 hu
    rw [Array.getElem?_toList, hget] at hk
    cases hC : C[k]? with
    | none => rw [hC] at hk; cases hk
    | some x =>
     rw [hC, Option.map_some] at hk
     injection hk with hk
     split at hk
     ·subst hk; rfl
     ·subst hk; exact hone _ (List.mem_of_getElem? (by rw [Array.getElem?_toList]; exact hC))
  ·rw [AHeap.own_put_ne _ _ _ _ hii] at hio
   have hin : h.own i ≠ none := by rw [hio]; simp
   exact Rel.mono_obj (R.own i o hio) (Nat.le_refl _) (Agree.refl _ _) (heq _ (R.blk_lt hin) (hother i hin hii))
theorem Rel.holds (R : Rel W0 m h w) {id : Nat} {c : List Value} {xs : List Int} (ho : h.own id = some (.cells c)) (hx : c.take xs.length = i64s xs) : Sort.Holds (Value.int .i64) w (m id).blk (m id).base xs.toArray := by
 intro j hj
 have hj' : j < xs.length := by simpa using hj
 have hg : c[j]? = some (.int .i64 xs[j]) := by
  have := congrArg (·[j]?) hx
  simp only [List.getElem?_take, if_pos hj', i64s, List.getElem?_map, List.getElem?_eq_getElem hj', Option.map_some] at this
  exact this
 obtain ⟨v', h1, h2⟩ := R.cell_own ho hg
 rw [vr_int h2] at h1
 refine ⟨?_, R.frozen ho (List.getElem?_eq_some_iff.1 hg).1⟩
 rw [h1, getElem!_pos _ j hj]; rfl
theorem vr_slice {n : Nat} {m : CMap} {id len cap : Nat} {v' : Value} (hl : len ≤ cap) (h0 : 0 < len) (h : VR n m (.slice (some ⟨id, 0, none⟩) len cap) v') :
  ∃ cap', v' = .slice (some ⟨(m id).blk, (m id).base, none⟩) len cap' ∧ len ≤ cap' ∧ ∀ k, k ≤ len → VR n m (.slice (some ⟨id, 0, none⟩) k cap) (.slice (some ⟨(m id).blk, (m id).base, none⟩) k cap') := by
 cases h with
 | flat h => simp [Fw.flat] at h
 | slice h hc => exact ⟨cap, by simp, hl, fun k _ => by simpa using VR.slice (m := m) (off := 0) (len := k) h hc⟩
 | @buf _ _ _ k cap' a' h hl' ha =>
  rcases ha with ⟨rfl, ha⟩ | ha
  ·exact ⟨cap', by simp, hl', fun j hj => by simpa using VR.buf (m := m) (off := 0) (len := j) (k := k) (cap' := cap') h (by omega) (.inl ⟨rfl, by simpa using ha⟩)⟩
  ·omega
 | empty => omega
theorem vr_zero {n : Nat} {m : CMap} {a : Option Addr} {cap : Nat} {v' : Value} (h : VR n m (.slice a 0 cap) v') : ∃ a' cap', v' = .slice a' 0 cap' := by
 cases h with
 | flat h => exact ⟨_, _, rfl⟩
 | slice => exact ⟨_, _, rfl⟩
 | buf => exact ⟨_, _, rfl⟩
 | esl => exact ⟨_, _, rfl⟩
 | empty => exact ⟨_, _, rfl⟩
theorem AC.ofRow {f : FuncId} {id len cap k : Nat} {c : List Value} {xs ys : List Int} {out : Value} (ho : h.own id = some (.cells c)) (hx : c.take len = i64s xs) (hxl : xs.length = len) (hyl : ys.length = len) (hcl : len ≤ c.length) (hl : len ≤ cap) (h0 : 0 < len) (hk : k ≤ len)
  (hout : out = .tuple #[] ∨ out = .slice (some ⟨id, 0, none⟩) k cap)
  (hC : ∀ (blk off cap' : Nat) (w : World), Sort.Holds (Value.int .i64) w blk off xs.toArray → blk < w.heap.size → len ≤ cap' →
   Calls P f #[.slice (some ⟨blk, off, none⟩) len cap'] w fun e w' => (∃ v, e = .returned v ∧ (out = .tuple #[] ∧ v = .tuple #[] ∨ out ≠ .tuple #[] ∧ v = .slice (some ⟨blk, off, none⟩) k cap')) ∧ ∃ q os, w' = Sort.grow (Sort.putRow (Value.int .i64) (Sort.ahead w q) blk off ys.toArray) os) :
  AC P W0 f [.slice (some ⟨id, 0, none⟩) len cap] h fun x h' => x = out ∧ h' = h.put id (.cells (i64s ys ++ c.drop len)) := by
 intro ex m w args' R va
 obtain ⟨v0, hv0, hvr⟩ := va.get (i := 0) rfl
 have hargs : args' = [v0] := by
  have hl1 := va.1
  match args', hl1 with
  | [x], _ => simp at hv0; rw [hv0]
 obtain ⟨cap', rfl, hc', hsh⟩ := vr_slice hl h0 hvr
 rw [hargs]
 have hne : h.own id ≠ none := by rw [ho]; simp
 refine (hC (m id).blk (m id).base cap' w (R.holds ho (by rw [hxl]; exact hx)) (R.blk_lt hne) hc').mono ?_
 rintro e w' ⟨⟨v, rfl, hv⟩, q, os, rfl⟩
 have R' := R.row (ys := ys) ho (by omega) q os
 rw [hyl] at R'
 refine ⟨out, v, m, _, rfl, R', Agree.refl _ _, Nat.le_refl _, ?_, rfl, rfl⟩
 rcases hv with ⟨h1, rfl⟩ | ⟨h1, rfl⟩
 ·rw [h1]; exact .tuple rfl (fun i v v' e => by simp at e)
 ·rcases hout with h2 | h2
  ·exact absurd h2 h1
  ·rw [h2]; exact hsh k hk
end Go.Fw
namespace Go.Fw
open Go.Proofs
variable {P : Program} {W0 : Base} {m : CMap} {h : AHeap} {w : World}
theorem Rel.rowV (R : Rel W0 m h w) {id : Nat} {c : List Value} {ys : List Value} (hfl : ∀ y ∈ ys, flat y = true ∧ y.oneCell' = true) (ho : h.own id = some (.cells c)) (hl : ys.length ≤ c.length) (q : Nat) (os : Array Obj) :
  Rel W0 m (h.put id (.cells (ys ++ c.drop ys.length))) (Sort.grow (Sort.putRow (fun v : Value => v) (Sort.ahead w q) (m id).blk (m id).base ys.toArray) os) := by
 have hne : h.own id ≠ none := by rw [ho]; simp
 obtain ⟨C, e, lo, hi, hb, hs, hlc, hr, hone, hf⟩ := R.own id _ ho
 have hbl : (m id).blk < w.heap.size := (Array.getElem?_eq_some_iff.1 hb).1
 generalize hcc : ys ++ c.drop ys.length = cc
 have hccl : cc.length = c.length := by rw [← hcc]; simp; omega
 have hsome : ∀ i, (h.put id (.cells cc)).own i ≠ none → h.own i ≠ none := by
  intro i hi'
  by_cases hii : i = id
  ·subst hii; exact hne
  ·rwa [AHeap.own_put_ne _ _ _ _ hii] at hi'
 have hother : ∀ i, h.own i ≠ none → i ≠ id → (m i).blk ≠ (m id).blk := fun i hi' hii hbe => hii (R.inj i id hi' hne hbe)
 have heq : ∀ b, b < w.heap.size → b ≠ (m id).blk → (Sort.grow (Sort.putRow (fun v : Value => v) (Sort.ahead w q) (m id).blk (m id).base ys.toArray) os).heap[b]? = w.heap[b]? := fun b hbs hbn => by
  simp only [Sort.grow, Sort.putRow, Sort.mapBlock, Sort.ahead]
  rw [Array.getElem?_append_left (by simpa using hbs), Array.getElem?_modify, if_neg (Ne.symm hbn)]
 have heq2 : (Sort.grow (Sort.putRow (fun v : Value => v) (Sort.ahead w q) (m id).blk (m id).base ys.toArray) os).heap[(m id).blk]? = some (.cells (Sort.putCells (fun v : Value => v) (m id).base ys.toArray C) e (lo, hi)) := by
  simp only [Sort.grow, Sort.putRow, Sort.mapBlock, Sort.ahead]
  rw [Array.getElem?_append_left (by simpa using hbl), Array.getElem?_modify, if_pos rfl, hb]
  rfl
 have hsz : (Sort.grow (Sort.putRow (fun v : Value => v) (Sort.ahead w q) (m id).blk (m id).base ys.toArray) os).heap.size = w.heap.size + os.size := by
  simp [Sort.grow, Sort.putRow, Sort.mapBlock, Sort.ahead]
 refine ⟨by rw [hsz]; have := R.size; omega, fun b hb' => ?_, R.ext, fun i hi' => R.lt i (hsome i hi'), fun i hi' => R.new i (hsome i hi'), fun i o hio => ?_, fun i j hi' hj' => R.inj i j (hsome i hi') (hsome j hj'), R.os, R.output, ⟨R.tape.1, Nat.le_trans R.tape.2 (Nat.le_add_right _ _)⟩, R.prot.put hsome (fun b hb hn => heq b hb (fun e => hn id hne e.symm))⟩
 ·rw [heq b (by have := R.size; omega) (by have := R.new id hne; omega)]
  exact R.old b hb'
 ·by_cases hii : i = id
  ·subst hii
   rw [AHeap.own_put_eq] at hio
   injection hio with hio
   subst hio
   have hcs : (Sort.putCells (fun v : Value => v) (m i).base ys.toArray C).size = C.size := by simp [Sort.putCells]
   have hget : ∀ k, (Sort.putCells (fun v : Value => v) (m i).base ys.toArray C)[k]? = (C[k]?).map fun x => if (m i).base ≤ k ∧ k < (m i).base + ys.length then ys.toArray[k - (m i).base]! else x := fun k => by
    simp [Sort.putCells]
   refine ⟨_, e, lo, hi, heq2, by rw [hcs]; exact hs, by rw [hccl, hcs]; exact hlc, ⟨by simp [hccl, hcs]; omega, fun k v v' hk hk' => ?_⟩, fun u hu => ?_, fun j hj => hf j (by rw [hcs] at hj; exact hj)⟩
   ·rw [List.getElem?_take] at hk'
    split at hk'
    ·rename_i hkc
     rw [List.getElem?_drop, Array.getElem?_toList, hget] at hk'
     by_cases hky : k < ys.length
     ·have hkk : (m i).base + k < C.size := by omega
      rw [Array.getElem?_eq_getElem hkk, Option.map_some, if_pos ⟨by omega, by omega⟩] at hk'
      rw [← hcc, List.getElem?_append_left (by exact hky)] at hk
      simp only [List.getElem?_eq_getElem hky, Option.some.injEq] at hk hk'
      subst hk hk'
      have : (m i).base + k - (m i).base = k := by omega
      rw [this, getElem!_pos _ k (by simpa using hky)]
      simp only [List.getElem_toArray]
      exact .flat (hfl _ (List.getElem_mem hky)).1
     ·rw [← hcc, List.getElem?_append_right (by omega), List.getElem?_drop] at hk
      have e1 : ys.length + (k - ys.length) = k := by omega
      rw [e1] at hk
      refine hr.2 k v v' hk ?_
      rw [List.getElem?_take, if_pos (by omega), List.getElem?_drop, Array.getElem?_toList, ← hk']
      cases hC : C[(m i).base + k]? with
      | none => rfl
      | some x => rw [Option.map_some, if_neg (by omega)]
    ·cases hk'
   ·obtain ⟨k, hk⟩ := List.mem_iff_getElem?.1 hu
    rw [Array.getElem?_toList, hget] at hk
    cases hC : C[k]? with
    | none => rw [hC] at hk; cases hk
    | some x =>
     rw [hC, Option.map_some] at hk
     injection hk with hk
     split at hk
     ·rename_i hr'
      subst hk
      have hky : k - (m i).base < ys.length := by omega
      rw [getElem!_pos _ _ (by simpa using hky)]
      simp only [List.getElem_toArray]
      exact (hfl _ (List.getElem_mem hky)).2
     ·subst hk; exact hone _ (List.mem_of_getElem? (by rw [Array.getElem?_toList]; exact hC))
  ·rw [AHeap.own_put_ne _ _ _ _ hii] at hio
   have hin : h.own i ≠ none := by rw [hio]; simp
   exact Rel.mono_obj (R.own i o hio) (Nat.le_refl _) (Agree.refl _ _) (heq _ (R.blk_lt hin) (hother i hin hii))
theorem vr_flat {n : Nat} {m : CMap} {v v' : Value} (hv : flat v = true) (h : VR n m v v') : v' = v := by
 cases h with
 | flat _ => rfl
 | ptr _ => cases hv
 | eptr => cases hv
 | slice _ _ => cases hv
 | buf _ _ _ => cases hv
 | esl _ => cases hv
 | empty => cases hv
 | map _ => cases hv
 | func => cases hv
 | iface _ => cases hv
 | agg => cases hv
 | tuple => cases hv
theorem Rel.holdsV (R : Rel W0 m h w) {id : Nat} {c xs : List Value} (hfl : ∀ y ∈ xs, flat y = true) (ho : h.own id = some (.cells c)) (hx : c.take xs.length = xs) : Sort.Holds (fun v : Value => v) w (m id).blk (m id).base xs.toArray := by
 intro j hj
 have hj' : j < xs.length := by simpa using hj
 have hg : c[j]? = some xs[j] := by
  have := congrArg (·[j]?) hx
  simp only [List.getElem?_take, if_pos hj', List.getElem?_eq_getElem hj'] at this
  exact this
 obtain ⟨v', h1, h2⟩ := R.cell_own ho hg
 rw [vr_flat (hfl _ (List.getElem_mem hj')) h2] at h1
 refine ⟨?_, R.frozen ho (List.getElem?_eq_some_iff.1 hg).1⟩
 rw [h1, getElem!_pos _ j hj]; rfl
theorem vr_func {n : Nat} {m : CMap} {f : Fn} {v' : Value} (h : VR n m (.func f #[] #[]) v') : v' = .func f #[] #[] := by
 cases h with
 | flat h => cases h
 | @func _ _ a' _ b' ha hb _ _ =>
  have h1 : a' = #[] := Array.eq_empty_of_size_eq_zero (by simpa using ha.symm)
  have h2 : b' = #[] := Array.eq_empty_of_size_eq_zero (by simpa using hb.symm)
  rw [h1, h2]
theorem AC.ofRowK {f : FuncId} {g : Fn} {k id len cap : Nat} {c xs ys : List Value} (ho : h.own id = some (.cells c)) (hx : c.take (len * k) = xs) (hxl : xs.length = len * k) (hyl : ys.length = len * k) (hcl : len * k ≤ c.length) (hl : len ≤ cap) (h0 : 0 < len)
  (hfx : ∀ y ∈ xs, flat y = true) (hfy : ∀ y ∈ ys, flat y = true ∧ y.oneCell' = true)
  (hC : ∀ (blk off cap' : Nat) (w : World), Sort.Holds (fun v : Value => v) w blk off xs.toArray → blk < w.heap.size → len ≤ cap' →
   Calls P f #[.slice (some ⟨blk, off, none⟩) len cap', .func g #[] #[]] w fun e w' => e = .returned (.tuple #[]) ∧ ∃ q os, w' = Sort.grow (Sort.putRow (fun v : Value => v) (Sort.ahead w q) blk off ys.toArray) os) :
  AC P W0 f [.slice (some ⟨id, 0, none⟩) len cap, .func g #[] #[]] h fun x h' => x = .tuple #[] ∧ h' = h.put id (.cells (ys ++ c.drop (len * k))) := by
 intro ex m w args' R va
 obtain ⟨v0, hv0, hvr⟩ := va.get (i := 0) rfl
 obtain ⟨v1, hv1, hvr1⟩ := va.get (i := 1) rfl
 have hargs : args' = [v0, v1] := by
  have hl1 := va.1
  match args', hl1 with
  | [x, y], _ => simp at hv0 hv1; rw [hv0, hv1]
 obtain ⟨cap', rfl, hc', hsh⟩ := vr_slice hl h0 hvr
 have := vr_func hvr1
 subst this
 rw [hargs]
 have hne : h.own id ≠ none := by rw [ho]; simp
 refine (hC (m id).blk (m id).base cap' w (R.holdsV hfx ho (by rw [hxl]; exact hx)) (R.blk_lt hne) hc').mono ?_
 rintro e w' ⟨rfl, q, os, rfl⟩
 have R' := R.rowV hfy ho (by omega) q os
 rw [hyl] at R'
 exact ⟨.tuple #[], .tuple #[], m, _, rfl, R', Agree.refl _ _, Nat.le_refl _, .tuple rfl (fun i v v' e => by simp at e), rfl, rfl⟩
theorem AC.ofNoneF {f : FuncId} {g : Fn} {a : Option Addr} {cap : Nat} (hC : ∀ (a' : Option Addr) (cap' : Nat) (w : World), Calls P f #[.slice a' 0 cap', .func g #[] #[]] w fun e w' => e = .returned (.tuple #[]) ∧ w' = w) :
  AC P W0 f [.slice a 0 cap, .func g #[] #[]] h fun x h' => x = .tuple #[] ∧ h' = h := by
 intro ex m w args' R va
 obtain ⟨v0, hv0, hvr⟩ := va.get (i := 0) rfl
 obtain ⟨v1, hv1, hvr1⟩ := va.get (i := 1) rfl
 have hargs : args' = [v0, v1] := by
  have hl1 := va.1
  match args', hl1 with
  | [x, y], _ => simp at hv0 hv1; rw [hv0, hv1]
 obtain ⟨a', cap', rfl⟩ := vr_zero hvr
 have := vr_func hvr1
 subst this
 rw [hargs]
 refine (hC a' cap' w).mono ?_
 rintro e w' ⟨rfl, rfl⟩
 exact ⟨.tuple #[], .tuple #[], m, _, rfl, R, Agree.refl _ _, Nat.le_refl _, .tuple rfl (fun i v v' e => by simp at e), rfl, rfl⟩
theorem Rel.grown {W w' : World} {m : CMap} {h : AHeap} (R : Rel (Base.of W) m h w') : ∃ q os, w' = Sort.grow (W.drewN q) os := by
 refine ⟨w'.drawn - W.drawn, w'.heap.extract W.heap.size w'.heap.size, ?_⟩
 have h1 : W.heap.size ≤ w'.heap.size := R.size
 have hh : w'.heap = W.heap ++ w'.heap.extract W.heap.size w'.heap.size := by
  apply Array.ext_getElem?
  intro i
  by_cases hi : i < W.heap.size
  ·rw [Array.getElem?_append_left hi]; exact R.old i hi
  ·rw [Array.getElem?_append_right (by omega), Array.getElem?_extract]
   by_cases hj : i < w'.heap.size
   ·rw [if_pos (by omega)]; congr 1; omega
   ·rw [if_neg (by omega), Array.getElem?_eq_none (by omega)]
 have h2 : W.drawn ≤ w'.drawn := R.tape.2
 have h3 : w'.drawn = W.drawn + (w'.drawn - W.drawn) := by omega
 have h4 : w'.tape = W.tape := R.tape.1
 have h5 : w'.os = W.os := R.os
 have h6 : w'.output = W.output := R.output
 have : ∀ a b : World, a.heap = b.heap → a.tape = b.tape → a.drawn = b.drawn → a.os = b.os → a.output = b.output → a = b := by
  intro a b e1 e2 e3 e4 e5
  cases a; cases b; simp at e1 e2 e3 e4 e5; subst e1 e2 e3 e4 e5; rfl
 exact this _ _ hh h4 h3 h5 h6
theorem AC.grown {f : FuncId} {args args' : List Value} {x : Int} (W : World) (ha : AC P (Base.of W) f args (ext0 W) fun v _ => v = .int .i64 x) (hv : ∀ m, VRs 0 m args args') :
  Calls P f args'.toArray W fun e w' => e = .returned (.int .i64 x) ∧ ∃ q os, w' = Sort.grow (W.drewN q) os := by
 refine (ha [] (fun _ => ⟨0, 0, 0⟩) W args' (Rel.start W _) (hv _)).mono ?_
 rintro e w' ⟨v, v', m', h', rfl, R, _, _, hvr, rfl⟩
 rw [vr_int hvr]
 exact ⟨rfl, R.grown⟩
end Go.Fw
