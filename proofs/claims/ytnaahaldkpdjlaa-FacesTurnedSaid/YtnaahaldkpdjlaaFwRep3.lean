/- A text of the proof. -/
import Derived.Test.YtnaahaldkpdjlaaFwRep
import Derived.Test.YtnaahaldkpdjlaaFwRules
import Derived.ProofKit
import Derived.Deep.Slices
import Derived.OpenShut
set_option linter.unusedSimpArgs false
set_option linter.unusedVariables false
namespace Go.Fw
variable {P : Program} {h h' : AHeap}
def rem (l : List Nat) (h : AHeap) : AHeap := l.foldr (fun i g => g.kill i) h
theorem rem_ext (l : List Nat) : (rem l h).ext = h.ext := by
 induction l with
 | nil => rfl
 | cons a l ih => exact ih
theorem rem_own (l : List Nat) (i : Nat) : (rem l h).own i = if i ∈ l then none else h.own i := by
 induction l with
 | nil => simp [rem]
 | cons a l ih =>
  show ((rem l h).kill a).own i = _
  rw [own_kill, ih]
  by_cases e : i = a
  ·simp [e]
  ·simp [e]
theorem rem_some {l : List Nat} {i : Nat} {o : AObj} : (rem l h).own i = some o ↔ h.own i = some o ∧ i ∉ l := by
 rw [rem_own]; split <;> simp_all
theorem rem_le (l : List Nat) (h : AHeap) : Le (rem l h) h := ⟨(rem_ext l).symm, fun i o hi => (rem_some.1 hi).1⟩
theorem Le.rem {l l' : List Nat} (he : h'.ext = h.ext) (hk : ∀ i o, h.own i = some o → i ∉ l → h'.own i = some o ∧ i ∉ l') : Le (Fw.rem l h) (Fw.rem l' h') :=
 ⟨by rw [rem_ext, rem_ext, he], fun i o hi => by
  obtain ⟨h1, h2⟩ := rem_some.1 hi
  exact rem_some.2 (hk i o h1 h2)⟩
theorem Le.of_none {g : AHeap} {l : List Nat} (e : Le g h) (hn : ∀ i ∈ l, g.own i = Option.none) : Le g (Fw.rem l h) :=
 ⟨by rw [rem_ext]; exact e.ext, fun i o hi => rem_some.2 ⟨e.own _ _ hi, fun hm => by rw [hn i hm] at hi; cases hi⟩⟩
theorem Le.mono_rem {l : List Nat} (e : Le h h') : Le (Fw.rem l h) (Fw.rem l h') := Le.rem e.ext fun i o hi hn => ⟨e.own _ _ hi, hn⟩
def bl (v : Value) : List Nat := (blk v).toList
theorem mem_bl {v : Value} {i : Nat} : i ∈ bl v ↔ blk v = some i := by simp [bl]
theorem GS.to_rem {k n : Nat} {v : Value} {cs : List Value} {l : List Nat} (g : GS k h v n cs) (hb : ∀ b, blk v = some b → b ∉ l) : GS k (rem l h) v n cs := by
 obtain ⟨hl, g | ⟨id, c, cap, rfl, ho, r⟩⟩ := g
 ·exact ⟨hl, .inl g⟩
 ·exact ⟨hl, .inr ⟨id, c, cap, rfl, rem_some.2 ⟨ho, hb id rfl⟩, r⟩⟩
theorem GS.blk_own {k n : Nat} {v : Value} {cs : List Value} (g : GS k h v n cs) {b : Nat} (hb : blk v = some b) : h.own b ≠ none := by
 obtain ⟨hl, ⟨rfl, _⟩ | ⟨id, c, cap, rfl, ho, r⟩⟩ := g
 ·cases hb
 ·injection hb with hb; subst hb; rw [ho]; simp
def cu (v : Value) : Prop := v = .slice none 0 0 ∨ ∃ a n c, v = .slice a n c ∧ UNK ≤ c
theorem aadd_aadd (a : Addr) (i j : Nat) : aadd (aadd a i) j = aadd a (i + j) := by simp [aadd, Nat.add_assoc]
theorem RS.part {a : Addr} {n cap cap' lo hi : Nat} {vs : List Value} (r : RS h (.slice (some a) n cap) vs) (h1 : lo ≤ hi) (h2 : hi ≤ n) (hn : vs.length = n) : RS h (.slice (some (aadd a lo)) (hi - lo) cap') ((vs.drop lo).take (hi - lo)) := by
 have hl : ((vs.drop lo).take (hi - lo)).length = hi - lo := by simp; omega
 refine ⟨⟨_, cap', by rw [hl], by simp⟩, fun i x hx => ?_⟩
 rw [elemAddr_mk, aadd_aadd]
 rw [List.getElem?_take] at hx
 split at hx
 ·rw [List.getElem?_drop] at hx; have := r.get (lo + i) x hx; rwa [elemAddr_mk] at this
 ·cases hx
theorem RS.none' {a : Option Addr} {n cap cap' : Nat} {a' : Option Addr} (hn : n = 0) : RS h (.slice a' n cap') [] := by
 subst hn; exact ⟨⟨a', cap', rfl, by simp⟩, fun i x hx => by simp at hx⟩
end Go.Fw
namespace Go.Fw
open Go.ChangeShapes Go.WideShapes Go.RowKit
def ext0 (W : World) : AHeap := ⟨fun b off => (W.cell? ⟨b, off, none⟩).bind tag, 0, .leaf⟩
theorem ext0_own (W : World) (i : Nat) : (ext0 W).own i = none := by simp [ext0, AHeap.own, Trie.get]
theorem Rel.start (W : World) (m : CMap) : Rel (Base.of W) m (ext0 W) W :=
 ⟨Nat.le_refl _, fun _ _ => rfl, fun _ _ => rfl, fun i hi => absurd (ext0_own W i) hi, fun i hi => absurd (ext0_own W i) hi, fun i o hi => by (rw [ext0_own] at hi; cases hi), fun i j hi => absurd (ext0_own W i) hi, rfl, rfl, ⟨rfl, Nat.le_refl _⟩, ⟨fun _ h => (nomatch h), Nat.zero_le _, .nil, fun _ _ h => (nomatch h), fun _ _ h => (nomatch h), fun _ _ _ h => (nomatch h)⟩⟩
theorem WF.start (W : World) : WF (ext0 W) := fun i hi => absurd (ext0_own W i) hi
theorem Rel.below {W w' : World} {m : CMap} {h : AHeap} (R : Rel (Base.of W) m h w') : Below W.heap.size W w' := ⟨R.os, R.tape.1, R.output, R.size, R.old⟩
section
variable {H : Type} {enc : TypeId × Value → H} {P : Program} {W : World}
def Rd {α : Type} (enc : TypeId × Value → H) (P : Program) (W : World) (t : TypeId) (R : AHeap → Value → α → Prop) : Prop :=
 ∀ fuel cs x, DataW.trod enc P W 0 (fun _ => true) true fuel t cs = some x → ∃ v' v a, cs = [v'] ∧ tag v' = some v ∧ R (ext0 W) v a
theorem rd_u8 {t : TypeId} (ht : P.underlying t = some (.int .u8)) : Rd enc P W t isB := by
 intro fuel cs x h
 obtain ⟨n, rfl, _, hw⟩ := DataW.trod_int ht h
 refine ⟨_, .int .u8 n, n, rfl, rfl, rfl, ?_⟩
 simp [Lit.wf, IntKind.min, IntKind.max, IntKind.signed, IntKind.bits] at hw
 omega
theorem addr_add_of {a : Addr} (h : a.spot = none) (i : Nat) : a.add i = ⟨a.block, a.off + i, none⟩ := by
 obtain ⟨b, off, sp⟩ := a
 simp only at h
 subst h
 unfold Addr.add
 split
 ·rename_i h; subst h; rfl
 ·rfl
theorem rd_slice {α : Type} {R : AHeap → Value → α → Prop} {t e : TypeId} (ht : P.underlying t = some (.slice e)) (he : P.cellsOf e = 1) (hr : Rd enc P W e R) : Rd enc P W t (RL R) := by
 intro fuel cs x h
 rcases Go.Deep.open_slice1 ht he h with ⟨rfl, _⟩ | ⟨a, len, cap, m, n, V, D, Pl, rfl, hb, hl, hm, hmm, _, hx⟩
 ·exact ⟨_, .slice none 0 0, [], rfl, rfl, RL.nil⟩
 ·simp only [if_true] at hmm
  have hmm2 := hmm.symm
  subst hmm2
  have hU : cap < UNK := Nat.lt_of_le_of_lt hm (by decide)
  by_cases h0 : cap = 0
  ·subst h0
   have : len = 0 := by omega
   subst this
   refine ⟨_, .slice (some ⟨a.block, a.off, some 0⟩) 0 0, [], rfl, ?_, [], ⟨⟨_, 0, rfl, by simp⟩, by simp⟩, rfl, by simp⟩
   obtain ⟨b, off, sp⟩ := a
   cases sp with
   | none => simp only [tag]; rw [if_pos (by decide)]
   | some k => rfl
  ·have hsp : a.spot = none := by
    have := (hx 0 (by omega)).1
    rw [show a.add 0 = a from rfl] at this
    simp only [World.cell?] at this
    split at this
    ·split at this
     ·cases this
     ·rename_i hs; simpa using hs
    ·cases this
   have key : ∀ k, k ≤ len → ∃ (vs : List Value) (xs : List α), vs.length = k ∧ xs.length = k ∧ (∀ (i : Nat) u, vs[i]? = some u → tag (V i) = some u) ∧ ∀ (i : Nat) u y, vs[i]? = some u → xs[i]? = some y → R (ext0 W) u y := by
    intro k
    induction k with
    | zero => intro _; exact ⟨[], [], rfl, rfl, by simp, by simp⟩
    | succ k ih =>
     intro hk
     obtain ⟨vs, xs, h1, h2, h3, h4⟩ := ih (by omega)
     obtain ⟨v', v, y, e1, e2, e3⟩ := hr _ _ _ (hx k (by omega)).2
     injection e1 with e1
     subst e1
     refine ⟨vs ++ [v], xs ++ [y], by simp [h1], by simp [h2], fun i u hi => ?_, fun i u z hi hz => ?_⟩
     ·by_cases hik : i < k
      ·rw [List.getElem?_append_left (by omega)] at hi; exact h3 i u hi
      ·rw [List.getElem?_append_right (by omega)] at hi
       have : i = k := by
        have := (List.getElem?_eq_some_iff.1 hi).1
        simp at this; omega
       subst this
       simp [h1] at hi; subst hi; exact e2
     ·by_cases hik : i < k
      ·rw [List.getElem?_append_left (by omega)] at hi
       rw [List.getElem?_append_left (by omega)] at hz
       exact h4 i u z hi hz
      ·rw [List.getElem?_append_right (by omega)] at hi hz
       have : i = k := by
        have := (List.getElem?_eq_some_iff.1 hi).1
        simp at this; omega
       subst this
       simp [h1] at hi; simp [h2] at hz; subst hi hz; exact e3
   obtain ⟨vs, xs, h1, h2, h3, h4⟩ := key len (Nat.le_refl _)
   refine ⟨_, .slice (some ⟨a.block, a.off, some 0⟩) len cap, xs, rfl, ?_, vs, ⟨⟨_, cap, by rw [h1], by simp⟩, fun i u hi => ?_⟩, by omega, fun i y u hy hu => h4 i u y hu hy⟩
   ·obtain ⟨b, off, sp⟩ := a
    simp only at hsp
    subst hsp
    simp only [tag]
    rw [if_pos hU]
   ·have hil : i < len := by have := (List.getElem?_eq_some_iff.1 hi).1; omega
    have hc := (hx i (by omega)).1
    rw [addr_add_of hsp] at hc
    have ht := h3 i u hi
    rw [elemAddr_mk]
    simp only [aadd, AHeap.read, ext0, hc, Option.bind_some]
    exact ht
end
end Go.Fw
namespace Go.Fw
open Go.ChangeShapes Go.WideShapes Go.RowKit
section
variable {H : Type} {enc : TypeId × Value → H} {P : Program} {W : World}
def RdK (enc : TypeId × Value → H) (P : Program) (W : World) (t : TypeId) (k : Nat) (Q : List Value → Prop) : Prop :=
 ∀ fuel cs x, DataW.trod enc P W 0 (fun _ => true) true fuel t cs = some x → ∃ us : List Value, us.length = k ∧ cs.length = k ∧ (∀ (i : Nat) u v', us[i]? = some u → cs[i]? = some v' → tag v' = some u) ∧ Q us
theorem rd_sliceK {t e : TypeId} {k : Nat} {Q : List Value → Prop} (ht : P.underlying t = some (.slice e)) (he : P.cellsOf e = k) (hk : 0 < k) (hr : RdK enc P W e k Q) :
  ∀ fuel cs x, DataW.trod enc P W 0 (fun _ => true) true fuel t cs = some x → ∃ v' v n C, cs = [v'] ∧ tag v' = some v ∧ CS k (ext0 W) v n C ∧ ∀ i, i < n → Q ((C.drop (i * k)).take k) := by
 intro fuel cs x h
 rcases Go.Deep.open_slice ht h with ⟨rfl, _⟩ | ⟨a, len, cap, m, n, D, Pl, rfl, hb, hl, hm, hmm, _, hx⟩
 ·exact ⟨_, .slice none 0 0, 0, [], rfl, rfl, CS.nil k _, fun i hi => absurd hi (by omega)⟩
 ·simp only [if_true] at hmm
  have hmm2 := hmm.symm
  subst hmm2
  rw [he] at hx
  have hU : cap < UNK := Nat.lt_of_le_of_lt hm (by decide)
  by_cases h0 : cap = 0
  ·subst h0
   have : len = 0 := by omega
   subst this
   refine ⟨_, .slice (some ⟨a.block, a.off, some 0⟩) 0 0, 0, [], rfl, ?_, ⟨⟨_, 0, rfl, by simp⟩, by simp, by simp⟩, fun i hi => absurd hi (by omega)⟩
   obtain ⟨b, off, sp⟩ := a
   cases sp with
   | none => simp only [tag]; rw [if_pos (by decide)]
   | some k => rfl
  ·have hsp : a.spot = none := by
    obtain ⟨cs', h1, h2⟩ := hx 0 (by omega)
    obtain ⟨us, _, hl2, _⟩ := hr _ _ _ h2
    obtain ⟨_, hlen, hcell⟩ := World.cells?_some h1
    have hc := hcell 0 hk
    rw [show (a.add (0 * k)).add 0 = a from by simp [Addr.add]] at hc
    cases hcs : cs'[0]? with
    | none => rw [List.getElem?_eq_none_iff] at hcs; omega
    | some q =>
     rw [hcs] at hc
     simp only [World.cell?] at hc
     split at hc
     ·split at hc
      ·cases hc
      ·rename_i hs; simpa using hs
     ·cases hc
   have key : ∀ j, j ≤ len → ∃ C : List Value, C.length = j * k ∧ (∀ (i : Nat) u, C[i]? = some u → (ext0 W).read ⟨a.block, a.off + i, some 0⟩ = some u) ∧ ∀ i, i < j → Q ((C.drop (i * k)).take k) := by
    intro j
    induction j with
    | zero => intro _; exact ⟨[], by simp, by simp, fun i hi => absurd hi (by omega)⟩
    | succ j ih =>
     intro hj
     obtain ⟨C, h1, h2, h3⟩ := ih (by omega)
     obtain ⟨cs', hc, ht⟩ := hx j (by omega)
     obtain ⟨us, l1, l2, l3, q⟩ := hr _ _ _ ht
     obtain ⟨_, hlen, hcell⟩ := World.cells?_some hc
     refine ⟨C ++ us, by simp [h1, l1, Nat.succ_mul], fun i u hi => ?_, fun i hi => ?_⟩
     ·by_cases hik : i < j * k
      ·rw [List.getElem?_append_left (by omega)] at hi; exact h2 i u hi
      ·rw [List.getElem?_append_right (by omega), h1] at hi
       have hlt : i - j * k < k := by
        have := (List.getElem?_eq_some_iff.1 hi).1; omega
       have hc1 := hcell (i - j * k) (by omega)
       have hsome : cs'[i - j * k]? = some cs'[i - j * k] := List.getElem?_eq_getElem (by omega)
       have htag := l3 _ u _ hi hsome
       rw [hsome, addr_add_of hsp, addr_add_of rfl] at hc1
       simp only at hc1
       rw [show a.off + j * k + (i - j * k) = a.off + i by omega] at hc1
       simp only [AHeap.read, ext0, hc1, Option.bind_some]
       exact htag
     ·by_cases hij : i < j
      ·have hik : i * k + k ≤ j * k := by rw [← Nat.succ_mul]; exact Nat.mul_le_mul_right _ hij
       rw [List.drop_append_of_le_length (by omega), List.take_append_of_le_length (by simp; omega)]
       exact h3 i hij
      ·obtain rfl : i = j := by omega
       rw [List.drop_append, show (C.drop (i * k)) = [] from List.drop_eq_nil_of_le (by omega), h1]
       simp only [Nat.sub_self, List.drop_zero, List.nil_append]
       rw [List.take_of_length_le (by omega)]
       exact q
   obtain ⟨C, h1, h2, h3⟩ := key len (Nat.le_refl _)
   refine ⟨_, .slice (some ⟨a.block, a.off, some 0⟩) len cap, len, C, rfl, ?_, ⟨⟨_, cap, rfl, by simp⟩, h1, fun i u hi => ?_⟩, h3⟩
   ·obtain ⟨b, off, sp⟩ := a
    simp only at hsp
    subst hsp
    simp only [tag]
    rw [if_pos hU]
   ·rw [elemAddr_mk]
    exact h2 i u hi
theorem rd_pair {t e : TypeId} (ht : P.underlying t = some (.array 2 e)) (he : P.underlying e = some (.int .i64)) (hc : P.cellsOf e = 1) (hc2 : P.cellsOf t = 2) :
  RdK enc P W t 2 (fun us => ∃ a b, us = [.int .i64 a, .int .i64 b]) := by
 intro fuel cs x h
 obtain ⟨xs, m, _, _, hl, hxs, hx⟩ := DataW.trod_array ht h
 rw [hc2] at hl
 match cs, hl, xs, hxs with
 | [c0, c1], _, [x0, x1], _ =>
  have h0 := hx 0 (by omega)
  have h1 := hx 1 (by omega)
  simp [hc] at h0 h1
  obtain ⟨a, ea, _, _⟩ := DataW.trod_int he h0
  obtain ⟨b, eb, _, _⟩ := DataW.trod_int he h1
  injection ea with ea
  injection eb with eb
  subst ea eb
  refine ⟨[.int .i64 a, .int .i64 b], rfl, rfl, fun i u v' hu hv => ?_, a, b, rfl⟩
  match i with
  | 0 => simp at hu hv; subst hu hv; rfl
  | 1 => simp at hu hv; subst hu hv; rfl
  | i + 2 => simp at hu
end
end Go.Fw
