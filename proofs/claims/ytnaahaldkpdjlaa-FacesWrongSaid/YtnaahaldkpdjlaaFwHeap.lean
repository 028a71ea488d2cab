/- A text of the proof. -/
import Derived.Laws.AppendOwn
set_option linter.unusedSimpArgs false
set_option linter.unusedVariables false
namespace Go.Fw
inductive Trie (α : Type) where
 | leaf
 | node (v : Option α) (l r : Trie α)
def Trie.get {α : Type} : Trie α → Nat → Option α
 | .leaf, _ => none
 | .node v l r, n => bif n == 0 then v else bif n % 2 == 1 then l.get (n / 2) else r.get (n / 2 - 1)
def Trie.put {α : Type} : Nat → Trie α → Nat → Option α → Trie α
 | 0, t, _, _ => t
 | f + 1, .leaf, n, x => bif n == 0 then .node x .leaf .leaf else bif n % 2 == 1 then .node none (Trie.put f .leaf (n / 2) x) .leaf else .node none .leaf (Trie.put f .leaf (n / 2 - 1) x)
 | f + 1, .node v l r, n, x => bif n == 0 then .node x l r else bif n % 2 == 1 then .node v (Trie.put f l (n / 2) x) r else .node v l (Trie.put f r (n / 2 - 1) x)
def Trie.set {α : Type} (t : Trie α) (n : Nat) (x : α) : Trie α := Trie.put (n + 1) t n (some x)
def Trie.del {α : Type} (t : Trie α) (n : Nat) : Trie α := Trie.put (n + 1) t n none
theorem Trie.get_put {α : Type} : ∀ (f : Nat) (t : Trie α) (n j : Nat) (x : Option α), n < f → (Trie.put f t n x).get j = if j = n then x else t.get j
 | 0, _, n, _, _, h => absurd h (by omega)
 | f + 1, t, n, j, x, h => by
  by_cases hn : n = 0
  ·subst hn
   cases t with
   | leaf => by_cases hj : j = 0 <;> simp [Trie.put, Trie.get, hj, cond_eq_ite]
   | node v l r => by_cases hj : j = 0 <;> simp [Trie.put, Trie.get, hj, cond_eq_ite]
  ·by_cases ho : n % 2 = 1
   ·have ih := fun t j => Trie.get_put f t (n / 2) j x (by omega)
    cases t with
    | leaf =>
     simp only [Trie.put, cond_eq_ite, beq_iff_eq, hn, ho, if_true, if_false, Trie.get, ih]
     by_cases hj : j = 0
     ·have : ¬ j = n := by omega
      simp [hj, Ne.symm hn]
     ·by_cases hj1 : j % 2 = 1
      ·have : (j / 2 = n / 2) ↔ j = n := by omega
       simp [hj, hj1, this]
      ·have : ¬ j = n := by omega
       simp [hj, hj1, this]
    | node v l r =>
     simp only [Trie.put, cond_eq_ite, beq_iff_eq, hn, ho, if_true, if_false, Trie.get, ih]
     by_cases hj : j = 0
     ·have : ¬ j = n := by omega
      simp [hj, Ne.symm hn]
     ·by_cases hj1 : j % 2 = 1
      ·have : (j / 2 = n / 2) ↔ j = n := by omega
       simp [hj, hj1, this]
      ·have : ¬ j = n := by omega
       simp [hj, hj1, this]
   ·have ih := fun t j => Trie.get_put f t (n / 2 - 1) j x (by omega)
    cases t with
    | leaf =>
     simp only [Trie.put, cond_eq_ite, beq_iff_eq, hn, ho, if_false, Trie.get, ih]
     by_cases hj : j = 0
     ·have : ¬ j = n := by omega
      simp [hj, Ne.symm hn]
     ·by_cases hj1 : j % 2 = 1
      ·have : ¬ j = n := by omega
       simp [hj, hj1, this]
      ·have : (j / 2 - 1 = n / 2 - 1) ↔ j = n := by omega
       simp [hj, hj1, this]
    | node v l r =>
     simp only [Trie.put, cond_eq_ite, beq_iff_eq, hn, ho, if_false, Trie.get, ih]
     by_cases hj : j = 0
     ·have : ¬ j = n := by omega
      simp [hj, Ne.symm hn]
     ·by_cases hj1 : j % 2 = 1
      ·have : ¬ j = n := by omega
       simp [hj, hj1, this]
      ·have : (j / 2 - 1 = n / 2 - 1) ↔ j = n := by omega
       simp [hj, hj1, this]
theorem Trie.get_set {α : Type} (t : Trie α) (n j : Nat) (x : α) : (t.set n x).get j = if j = n then some x else t.get j := Trie.get_put _ t n j _ (by omega)
theorem Trie.get_set_eq {α : Type} (t : Trie α) (n : Nat) (x : α) : (t.set n x).get n = some x := by rw [Trie.get_set, if_pos rfl]
theorem Trie.get_set_ne {α : Type} (t : Trie α) (n j : Nat) (x : α) (h : j ≠ n) : (t.set n x).get j = t.get j := by rw [Trie.get_set, if_neg h]
theorem Trie.get_del {α : Type} (t : Trie α) (n j : Nat) : (t.del n).get j = if j = n then none else t.get j := Trie.get_put _ t n j _ (by omega)
theorem Trie.get_del_eq {α : Type} (t : Trie α) (n : Nat) : (t.del n).get n = none := by rw [Trie.get_del, if_pos rfl]
theorem Trie.get_del_ne {α : Type} (t : Trie α) (n j : Nat) (h : j ≠ n) : (t.del n).get j = t.get j := by rw [Trie.get_del, if_neg h]
inductive AObj where
 | cells (c : List Value)
 | map (es : List (Value × Value))
def UNK : Nat := 2 ^ 100
structure AHeap where
 ext : Nat → Nat → Option Value
 next : Nat
 t : Trie AObj
namespace AHeap
def own (h : AHeap) (i : Nat) : Option AObj := h.t.get i
def put (h : AHeap) (i : Nat) (o : AObj) : AHeap := { h with t := h.t.set i o }
def kill (h : AHeap) (i : Nat) : AHeap := { h with t := h.t.del i }
def alloc (h : AHeap) (o : AObj) : AHeap := { h with next := h.next + 1, t := h.t.set h.next o }
def read (h : AHeap) (a : Addr) : Option Value :=
  match a.spot with
  | none => match h.own a.block with
    | some (.cells c) => c[a.off]?
    | _ => none
  | some _ => h.ext a.block a.off
theorem own_put_eq (h : AHeap) (i : Nat) (o : AObj) : (h.put i o).own i = some o := Trie.get_set_eq _ _ _
theorem own_put_ne (h : AHeap) (i j : Nat) (o : AObj) (n : j ≠ i) : (h.put i o).own j = h.own j := Trie.get_set_ne _ _ _ _ n
theorem own_kill_eq (h : AHeap) (i : Nat) : (h.kill i).own i = none := Trie.get_del_eq _ _
theorem own_kill_ne (h : AHeap) (i j : Nat) (n : j ≠ i) : (h.kill i).own j = h.own j := Trie.get_del_ne _ _ _ n
theorem own_alloc_eq (h : AHeap) (o : AObj) : (h.alloc o).own h.next = some o := Trie.get_set_eq _ _ _
theorem own_alloc_ne (h : AHeap) (j : Nat) (o : AObj) (n : j ≠ h.next) : (h.alloc o).own j = h.own j := Trie.get_set_ne _ _ _ _ n
end AHeap
structure Loc where
 blk : Nat
 base : Nat
 lim : Nat
abbrev CMap := Nat → Loc
def flat : Value → Bool
 | .bool _ | .int _ _ | .string _ | .pointer none | .map none | .nilFunc | .nilIface => true
 | .slice none l c => l == 0 && c == 0
 | _ => false
inductive VR (n : Nat) (m : CMap) : Value → Value → Prop
  | flat {v : Value} (h : flat v = true) : VR n m v v
  | ptr {id off : Nat} (h : id < n) : VR n m (.pointer (some ⟨id, off, none⟩)) (.pointer (some ⟨(m id).blk, (m id).base + off, none⟩))
  | eptr {b off : Nat} : VR n m (.pointer (some ⟨b, off, some 0⟩)) (.pointer (some ⟨b, off, none⟩))
  | slice {id off len cap : Nat} (h : id < n) (hc : cap < UNK) : VR n m (.slice (some ⟨id, off, none⟩) len cap) (.slice (some ⟨(m id).blk, (m id).base + off, none⟩) len cap)
  | buf {id off len k cap' : Nat} {a' : Addr} (h : id < n) (hl : len ≤ cap') (ha : (a' = ⟨(m id).blk, (m id).base + off, none⟩ ∧ (m id).base + off + cap' * k ≤ (m id).lim) ∨ cap' = 0) :
      VR n m (.slice (some ⟨id, off, none⟩) len (UNK + k)) (.slice (some a') len cap')
  | esl {b off len cap : Nat} (hc : cap < UNK) : VR n m (.slice (some ⟨b, off, some 0⟩) len cap) (.slice (some ⟨b, off, none⟩) len cap)
  | empty {a a' : Addr} : VR n m (.slice (some a) 0 0) (.slice (some a') 0 0)
  | map {id : Nat} (h : id < n) : VR n m (.map (some id)) (.map (some (m id).blk))
  | func {f : Fn} {a a' b b' : Array Value} (ha : a.size = a'.size) (hb : b.size = b'.size)
      (h1 : ∀ (i : Nat) (v v' : Value), a[i]? = some v → a'[i]? = some v' → VR n m v v') (h2 : ∀ (i : Nat) (v v' : Value), b[i]? = some v → b'[i]? = some v' → VR n m v v') :
      VR n m (.func f a b) (.func f a' b')
  | iface {t : TypeId} {v v' : Value} (h : VR n m v v') : VR n m (.iface t v) (.iface t v')
  | agg {a a' : Array Value} (ha : a.size = a'.size) (h : ∀ (i : Nat) (v v' : Value), a[i]? = some v → a'[i]? = some v' → VR n m v v') : VR n m (.agg a) (.agg a')
  | tuple {a a' : Array Value} (ha : a.size = a'.size) (h : ∀ (i : Nat) (v v' : Value), a[i]? = some v → a'[i]? = some v' → VR n m v v') : VR n m (.tuple a) (.tuple a')
def Agree (n : Nat) (m m' : CMap) : Prop := ∀ i, i < n → m' i = m i
theorem Agree.refl (n : Nat) (m : CMap) : Agree n m m := fun _ _ => rfl
theorem Agree.trans {n n' : Nat} {m m' m'' : CMap} (h : Agree n m m') (h' : Agree n' m' m'') (hn : n ≤ n') : Agree n m m'' :=
 fun i hi => (h' i (by omega)).trans (h i hi)
theorem VR.mono {n n' : Nat} {m m' : CMap} {v v' : Value} (h : VR n m v v') (hn : n ≤ n') (hm : Agree n m m') : VR n' m' v v' := by
 induction h with
 | flat h => exact .flat h
 | ptr h => rw [← hm _ h]; exact .ptr (by omega)
 | eptr => exact .eptr
 | slice h hc => rw [← hm _ h]; exact .slice (by omega) hc
 | buf h hl ha => exact .buf (by omega) hl (by rw [hm _ h]; exact ha)
 | esl hc => exact .esl hc
 | empty => exact .empty
 | map h => rw [← hm _ h]; exact .map (by omega)
 | func ha hb h1 h2 i1 i2 => exact .func ha hb (fun i v v' e e' => i1 i v v' e e') (fun i v v' e e' => i2 i v v' e e')
 | iface _ ih => exact .iface ih
 | agg ha h ih => exact .agg ha (fun i v v' e e' => ih i v v' e e')
 | tuple ha h ih => exact .tuple ha (fun i v v' e e' => ih i v v' e e')
def tag : Value → Option Value
 | .pointer (some ⟨b, off, none⟩) => some (.pointer (some ⟨b, off, some 0⟩))
 | .slice (some ⟨b, off, none⟩) len cap => if cap < UNK then some (.slice (some ⟨b, off, some 0⟩) len cap) else none
 | .slice (some ⟨b, off, some _⟩) 0 0 => some (.slice (some ⟨b, off, some 0⟩) 0 0)
 | v => if flat v then some v else none
theorem VR.of_tag {n : Nat} {m : CMap} {v v' : Value} (h : tag v' = some v) : VR n m v v' := by
 unfold tag at h
 split at h
 ·injection h with h; subst h; exact .eptr
 ·split at h
  ·injection h with h; subst h; exact .esl (by assumption)
  ·cases h
 ·injection h with h; subst h; exact .empty
 ·split at h
  ·injection h with h; subst h; exact .flat (by assumption)
  ·cases h
def VRs (n : Nat) (m : CMap) (l l' : List Value) : Prop := l.length = l'.length ∧ ∀ (i : Nat) (v v' : Value), l[i]? = some v → l'[i]? = some v' → VR n m v v'
theorem VRs.mono {n n' : Nat} {m m' : CMap} {v v' : List Value} (h : VRs n m v v') (hn : n ≤ n') (hm : Agree n m m') : VRs n' m' v v' :=
 ⟨h.1, fun i a a' e e' => (h.2 i a a' e e').mono hn hm⟩
theorem VRs.nil (n : Nat) (m : CMap) : VRs n m [] [] := ⟨rfl, fun i v v' h => by simp at h⟩
theorem VRs.cons {n : Nat} {m : CMap} {v v' : Value} {l l' : List Value} (h : VR n m v v') (hl : VRs n m l l') : VRs n m (v :: l) (v' :: l') := by
 refine ⟨by simp [hl.1], fun i a a' e e' => ?_⟩
 cases i with
 | zero => simp at e e'; subst e; subst e'; exact h
 | succ i => exact hl.2 i a a' (by simpa using e) (by simpa using e')
theorem VRs.append {n : Nat} {m : CMap} {a a' b b' : List Value} (h : VRs n m a a') (h2 : VRs n m b b') : VRs n m (a ++ b) (a' ++ b') := by
 refine ⟨by simp [h.1, h2.1], fun i v v' e e' => ?_⟩
 by_cases hi : i < a.length
 ·rw [List.getElem?_append_left hi] at e
  rw [List.getElem?_append_left (by rw [← h.1]; exact hi)] at e'
  exact h.2 i v v' e e'
 ·rw [List.getElem?_append_right (by omega)] at e
  rw [List.getElem?_append_right (by have := h.1; omega)] at e'
  exact h2.2 (i - a.length) v v' e (by rw [h.1]; exact e')
theorem VRs.take {n : Nat} {m : CMap} {a a' : List Value} (h : VRs n m a a') (k : Nat) : VRs n m (a.take k) (a'.take k) := by
 refine ⟨by simp [h.1], fun i v v' e e' => ?_⟩
 rw [List.getElem?_take] at e e'
 split at e
 ·rename_i hik; rw [if_pos hik] at e'; exact h.2 i v v' e e'
 ·cases e
theorem VRs.drop {n : Nat} {m : CMap} {a a' : List Value} (h : VRs n m a a') (k : Nat) : VRs n m (a.drop k) (a'.drop k) := by
 refine ⟨by simp [h.1], fun i v v' e e' => ?_⟩
 rw [List.getElem?_drop] at e e'
 exact h.2 (k + i) v v' e e'
theorem VRs.set {n : Nat} {m : CMap} {a a' : List Value} (h : VRs n m a a') (k : Nat) {x x' : Value} (hx : VR n m x x') : VRs n m (a.set k x) (a'.set k x') := by
 refine ⟨by simp [h.1], fun i v v' e e' => ?_⟩
 rw [List.getElem?_set] at e e'
 by_cases hk : k = i
 ·subst hk
  simp only [if_true] at e e'
  split at e
  ·rename_i hl; rw [if_pos (by rw [← h.1]; exact hl)] at e'; injection e with e; injection e' with e'; subst e; subst e'; exact hx
  ·cases e
 ·rw [if_neg hk] at e e'
  exact h.2 i v v' e e'
theorem VRs.get {n : Nat} {m : CMap} {a a' : List Value} (h : VRs n m a a') {i : Nat} {v : Value} (e : a[i]? = some v) : ∃ v', a'[i]? = some v' ∧ VR n m v v' := by
 have hi : i < a.length := (List.getElem?_eq_some_iff.1 e).1
 have hi' : i < a'.length := by rw [← h.1]; exact hi
 exact ⟨a'[i], List.getElem?_eq_getElem hi', h.2 i v _ e (List.getElem?_eq_getElem hi')⟩
theorem VR.agg_list {n : Nat} {m : CMap} {a a' : Array Value} (h : VRs n m a.toList a'.toList) : VR n m (.agg a) (.agg a') :=
 .agg (by simpa using h.1) (fun i v v' e e' => h.2 i v v' (by simpa using e) (by simpa using e'))
theorem VR.tuple_list {n : Nat} {m : CMap} {a a' : Array Value} (h : VRs n m a.toList a'.toList) : VR n m (.tuple a) (.tuple a') :=
 .tuple (by simpa using h.1) (fun i v v' e e' => h.2 i v v' (by simpa using e) (by simpa using e'))
def ORel (n : Nat) (m : CMap) (w : World) (loc : Loc) : AObj → Prop
  | .cells c => ∃ (C : Array Value) (e : TypeId) (lo hi : Nat), w.heap[loc.blk]? = some (.cells C e (lo, hi)) ∧ C.size = loc.lim ∧ loc.base + c.length ≤ C.size ∧
      VRs n m c ((C.toList.drop loc.base).take c.length) ∧ (∀ v ∈ C.toList, v.oneCell' = true) ∧ ∀ i, i < C.size → ((lo ≤ i && i < hi) = false ∧ lo ≤ hi)
  | .map es => ∃ (E : Array MapEntry) (clock : Nat), w.heap[loc.blk]? = some (.map E clock) ∧
      VRs n m (es.map (·.1)) (E.toList.map (·.key)) ∧ VRs n m (es.map (·.2)) (E.toList.map (·.val))
structure Base extends World where
 rw : List (Nat × Obj)
 n0 : Nat
 m0 : CMap
def Base.add (W0 : Base) (ex : List (Nat × Obj)) : Base := { W0 with rw := ex ++ W0.rw }
def Base.of (W : World) : Base := { W with rw := [], n0 := 0, m0 := fun _ => ⟨0, 0, 0⟩ }
structure Prot (W0 : Base) (m : CMap) (h : AHeap) (w : World) : Prop where
 agree : Agree W0.n0 W0.m0 m
 next : W0.n0 ≤ h.next
 dist : (W0.rw.map (·.1)).Nodup
 hi : ∀ b o, (b, o) ∈ W0.rw → W0.heap.size ≤ b
 held : ∀ b o, (b, o) ∈ W0.rw → w.heap[b]? = some o
 apart : ∀ b o i, (b, o) ∈ W0.rw → h.own i ≠ none → (m i).blk ≠ b
theorem Prot.put {W0 : Base} {m : CMap} {h h' : AHeap} {w w' : World} (p : Prot W0 m h w) (hs : ∀ i, h'.own i ≠ none → h.own i ≠ none) (hw : ∀ b, b < w.heap.size → (∀ i, h.own i ≠ none → (m i).blk ≠ b) → w'.heap[b]? = w.heap[b]?) (hn : h.next ≤ h'.next := by exact Nat.le_refl _) : Prot W0 m h' w' :=
 ⟨p.agree, Nat.le_trans p.next hn, p.dist, p.hi, fun b o hb => (hw b (Array.getElem?_eq_some_iff.1 (p.held b o hb)).1 (fun i hi => p.apart b o i hb hi)).trans (p.held b o hb), fun b o i hb hi => p.apart b o i hb (hs i hi)⟩
theorem Prot.lt {W0 : Base} {m : CMap} {h : AHeap} {w : World} (p : Prot W0 m h w) {b : Nat} {o : Obj} (hb : (b, o) ∈ W0.rw) : b < w.heap.size := (Array.getElem?_eq_some_iff.1 (p.held b o hb)).1
structure Rel (W0 : Base) (m : CMap) (h : AHeap) (w : World) : Prop where
 size : W0.heap.size ≤ w.heap.size
 old : ∀ b, b < W0.heap.size → w.heap[b]? = W0.heap[b]?
 ext : ∀ b off, h.ext b off = (W0.cell? ⟨b, off, none⟩).bind tag
 lt : ∀ i, h.own i ≠ none → i < h.next
 new : ∀ i, h.own i ≠ none → W0.heap.size ≤ (m i).blk
 own : ∀ i o, h.own i = some o → ORel h.next m w (m i) o
 inj : ∀ i j, h.own i ≠ none → h.own j ≠ none → (m i).blk = (m j).blk → i = j
 os : w.os = W0.os
 output : w.output = W0.output
 tape : w.tape = W0.tape ∧ W0.drawn ≤ w.drawn
 prot : Prot W0 m h w
end Go.Fw
