/- A text of the proof. -/
import Derived.Test.YtnaahaldkpdjlaaFwVC
set_option linter.unusedSimpArgs false
set_option linter.unusedVariables false
namespace Go.Fw
variable {P : Program} {h h' : AHeap}
structure Ex (h h' : AHeap) : Prop where
 next : h.next ≤ h'.next
 ext : h'.ext = h.ext
 own : ∀ i, i < h.next → h'.own i = h.own i
theorem Ex.refl (h : AHeap) : Ex h h := ⟨Nat.le_refl _, rfl, fun _ _ => rfl⟩
theorem Ex.trans {h1 h2 h3 : AHeap} (a : Ex h1 h2) (b : Ex h2 h3) : Ex h1 h3 :=
 ⟨Nat.le_trans a.next b.next, b.ext.trans a.ext, fun i hi => (b.own i (Nat.lt_of_lt_of_le hi a.next)).trans (a.own i hi)⟩
theorem Ex.alloc {h0 : AHeap} (a : Ex h0 h) (o : AObj) : Ex h0 (h.alloc o) :=
 ⟨Nat.le_succ_of_le a.next, a.ext, fun i hi => by rw [AHeap.own_alloc_ne _ _ _ (by have := a.next; omega)]; exact a.own i hi⟩
theorem Ex.put {h0 : AHeap} (a : Ex h0 h) {id : Nat} (o : AObj) (hid : h0.next ≤ id) : Ex h0 (h.put id o) :=
 ⟨a.next, a.ext, fun i hi => by rw [AHeap.own_put_ne _ _ _ _ (by omega)]; exact a.own i hi⟩
theorem Ex.old {h0 : AHeap} (a : Ex h0 h) (hw : WF h0) {i : Nat} {o : AObj} (ho : h0.own i = some o) : h.own i = some o := by
 rw [a.own i (hw i (by rw [ho]; simp))]; exact ho
theorem Ex.read {h0 : AHeap} (a : Ex h0 h) (hw : WF h0) {ad : Addr} {x : Value} (hr : h0.read ad = some x) : h.read ad = some x := by
 obtain ⟨b, off, sp⟩ := ad
 cases sp with
 | none =>
  simp only [AHeap.read] at hr ⊢
  split at hr
  ·rename_i c ho; rw [a.old hw ho]; exact hr
  ·cases hr
 | some k => simp only [AHeap.read] at hr ⊢; rw [a.ext]; exact hr
theorem WF.alloc (hw : WF h) (o : AObj) : WF (h.alloc o) := by
 intro i hi
 by_cases e : i = h.next
 ·subst e; exact Nat.lt_succ_self _
 ·rw [AHeap.own_alloc_ne _ _ _ e] at hi; exact Nat.lt_succ_of_lt (hw i hi)
theorem WF.put (hw : WF h) {id : Nat} (o : AObj) (hid : id < h.next) : WF (h.put id o) := by
 intro i hi
 by_cases e : i = id
 ·subst e; exact hid
 ·rw [AHeap.own_put_ne _ _ _ _ e] at hi; exact hw i hi
theorem WF.kill (hw : WF h) (id : Nat) : WF (h.kill id) := by
 intro i hi
 by_cases e : i = id
 ·subst e; rw [AHeap.own_kill_eq] at hi; exact absurd rfl hi
 ·rw [AHeap.own_kill_ne _ _ _ e] at hi; exact hw i hi
theorem WF.lt (hw : WF h) {i : Nat} {o : AObj} (ho : h.own i = some o) : i < h.next := hw i (by rw [ho]; simp)
theorem next_alloc (o : AObj) : (h.alloc o).next = h.next + 1 := rfl
theorem own_alloc (j : Nat) (o : AObj) : (h.alloc o).own j = if j = h.next then some o else h.own j := by
 split
 ·rename_i e; subst e; exact AHeap.own_alloc_eq _ _
 ·rename_i e; exact AHeap.own_alloc_ne _ _ _ e
theorem own_put (i j : Nat) (o : AObj) : (h.put i o).own j = if j = i then some o else h.own j := by
 split
 ·rename_i e; subst e; exact AHeap.own_put_eq _ _ _
 ·rename_i e; exact AHeap.own_put_ne _ _ _ _ e
theorem own_kill (i j : Nat) : (h.kill i).own j = if j = i then none else h.own j := by
 split
 ·rename_i e; subst e; exact AHeap.own_kill_eq _ _
 ·rename_i e; exact AHeap.own_kill_ne _ _ _ e
theorem read_own {id off : Nat} {c : List Value} (ho : h.own id = some (.cells c)) : h.read ⟨id, off, none⟩ = c[off]? := by simp [AHeap.read, ho]
structure Le (g h : AHeap) : Prop where
 ext : h.ext = g.ext
 own : ∀ i o, g.own i = some o → h.own i = some o
theorem Le.refl (h : AHeap) : Le h h := ⟨rfl, fun _ _ h => h⟩
theorem Le.trans {h1 h2 h3 : AHeap} (a : Le h1 h2) (b : Le h2 h3) : Le h1 h3 := ⟨b.ext.trans a.ext, fun i o h => b.own i o (a.own i o h)⟩
theorem Ex.le (e : Ex h h') (hw : WF h) : Le h h' := ⟨e.ext, fun _ _ ho => e.old hw ho⟩
theorem Le.put {g : AHeap} (a : Le g h) {id : Nat} (o : AObj) (hid : g.own id = none) : Le g (h.put id o) :=
 ⟨a.ext, fun i o' hi => by
  rw [own_put]; split
  ·rename_i e; subst e; rw [hid] at hi; cases hi
  ·exact a.own i o' hi⟩
theorem Le.kill {g : AHeap} (a : Le g h) {id : Nat} (hid : g.own id = none) : Le g (h.kill id) :=
 ⟨a.ext, fun i o' hi => by
  rw [own_kill]; split
  ·rename_i e; subst e; rw [hid] at hi; cases hi
  ·exact a.own i o' hi⟩
theorem Le.next {g : AHeap} (a : Le g h) (hw : WF h) {i : Nat} (hi : h.next ≤ i) : g.own i = none := by
 cases hg : g.own i with
 | none => rfl
 | some o => exact absurd (hw.lt (a.own i o hg)) (by omega)
theorem Le.alloc {g : AHeap} (a : Le g h) (hw : WF h) (o : AObj) : Le g (h.alloc o) :=
 ⟨a.ext, fun i o' hi => by
  rw [own_alloc]; split
  ·rename_i e; subst e; rw [a.next hw (Nat.le_refl _)] at hi; cases hi
  ·exact a.own i o' hi⟩
theorem Le.killed (h : AHeap) (id : Nat) : Le (h.kill id) h := ⟨rfl, fun i o' hi => by
  rw [own_kill] at hi; split at hi
  ·cases hi
  ·exact hi⟩
theorem Le.none {g : AHeap} (a : Le g h) {i : Nat} (hi : h.own i = none) : g.own i = none := by
 cases hg : g.own i with
 | none => rfl
 | some o => rw [a.own i o hg] at hi; cases hi
theorem Le.read {g : AHeap} (a : Le g h) {ad : Addr} {x : Value} (hr : g.read ad = some x) : h.read ad = some x := by
 obtain ⟨b, off, sp⟩ := ad
 cases sp with
 | none =>
  simp only [AHeap.read] at hr ⊢
  split at hr
  ·rename_i c ho; rw [a.own _ _ ho]; exact hr
  ·cases hr
 | some k => simp only [AHeap.read] at hr ⊢; rw [a.ext]; exact hr
def elemAddr (v : Value) (k : Nat) : Addr := match v with | .slice (some a) _ _ => aadd a k | _ => default
theorem elemAddr_mk (a : Addr) (n c k : Nat) : elemAddr (.slice (some a) n c) k = aadd a k := rfl
def isSl (v : Value) (n : Nat) : Prop := ∃ a c, v = .slice a n c ∧ (0 < n → a.isSome = true)
structure RS (h : AHeap) (v : Value) (vs : List Value) : Prop where
 sl : isSl v vs.length
 get : ∀ i x, vs[i]? = some x → h.read (elemAddr v i) = some x
theorem RS.le {v : Value} {vs : List Value} (hv : RS h v vs) (e : Le h h') : RS h' v vs := ⟨hv.sl, fun i x hx => e.read (hv.get i x hx)⟩
theorem RS.nil (h : AHeap) : RS h (.slice none 0 0) [] := ⟨⟨none, 0, rfl, by simp⟩, fun i x hx => by simp at hx⟩
theorem RS.own {id off n c : Nat} {cs : List Value} (ho : h.own id = some (.cells cs)) (hn : off + n ≤ cs.length) : RS h (.slice (some ⟨id, off, none⟩) n c) ((cs.drop off).take n) := by
 have hl : ((cs.drop off).take n).length = n := by simp; omega
 refine ⟨⟨_, c, by rw [hl], by simp⟩, fun i x hx => ?_⟩
 rw [elemAddr_mk, aadd, read_own ho]
 rw [List.getElem?_take] at hx
 split at hx
 ·rw [List.getElem?_drop] at hx; exact hx
 ·cases hx
theorem RS.whole {id n c : Nat} {cs : List Value} (ho : h.own id = some (.cells cs)) (hn : cs.length = n) : RS h (.slice (some ⟨id, 0, none⟩) n c) cs := by
 have := RS.own (c := c) (off := 0) (n := n) ho (by omega)
 simpa [List.take_of_length_le, hn] using this
theorem RS.len {v : Value} {vs : List Value} (hv : RS h v vs) {t e : TypeId} (hu : P.underlying t = some (.slice e)) (h' : AHeap) : aLen P h' t v = some (.int .i64 vs.length) := by
 obtain ⟨a, c, rfl, _⟩ := hv.sl; simp [aLen, hu]
theorem RS.addr {v : Value} {vs : List Value} (hv : RS h v vs) {t e : TypeId} {d : TypeDesc} (hu : P.underlying t = some (.slice e)) (hd : P.underlying e = some d) (hs : tsize P e = 1) {k : IntKind} (i : Nat) (hi : i < vs.length) :
  aIndexAddr P t v (.int k i) = some (.pointer (some (elemAddr v i))) := by
 obtain ⟨a, c, rfl, hs'⟩ := hv.sl
 obtain ⟨a, rfl⟩ := Option.isSome_iff_exists.1 (hs' (by omega))
 have h1 : (i : Int) < (vs.length : Int) := by omega
 simp [aIndexAddr, hu, h1, hd, elemAddr, hs]
theorem aload_flat {e : TypeId} {d : TypeDesc} (hu : P.underlying e = some d) (hd : isAggD d = false) (a : Addr) : aload P h e a = h.read a := by
 simp [aload, hu, hd]
theorem RS.load {v : Value} {vs : List Value} (hv : RS h v vs) {e : TypeId} {d : TypeDesc} (hu : P.underlying e = some d) (hd : isAggD d = false) (i : Nat) (hi : i < vs.length) :
  aload P h e (elemAddr v i) = some vs[i] := by
 rw [aload_flat hu hd]; exact hv.get i _ (List.getElem?_eq_getElem hi)
def RL {α : Type} (R : AHeap → Value → α → Prop) (h : AHeap) (v : Value) (xs : List α) : Prop :=
 ∃ vs : List Value, RS h v vs ∧ vs.length = xs.length ∧ ∀ (i : Nat) (x : α) (u : Value), xs[i]? = some x → vs[i]? = some u → R h u x
def isI (_ : AHeap) (v : Value) (n : Int) : Prop := v = .int .i64 n
def Stays {α : Type} (R : AHeap → Value → α → Prop) : Prop := ∀ h h' v x, R h v x → Le h h' → R h' v x
theorem Stays.isI : Stays Fw.isI := fun _ _ _ _ r _ => r
theorem Stays.RL {α : Type} {R : AHeap → Value → α → Prop} (s : Stays R) : Stays (Fw.RL R) :=
 fun h h' v x ⟨vs, r, hl, hr⟩ e => ⟨vs, r.le e, hl, fun i x u hx hu => s h h' u x (hr i x u hx hu) e⟩
section RL
variable {α : Type} {R : AHeap → Value → α → Prop} {v : Value} {xs : List α}
theorem RL.sl (hv : RL R h v xs) : isSl v xs.length := by obtain ⟨vs, r, hl, _⟩ := hv; rw [← hl]; exact r.sl
theorem RL.len (hv : RL R h v xs) {t e : TypeId} (hu : P.underlying t = some (.slice e)) (h' : AHeap) : aLen P h' t v = some (.int .i64 xs.length) := by
 obtain ⟨vs, r, hl, _⟩ := hv; rw [r.len hu, hl]
theorem RL.addr (hv : RL R h v xs) {t e : TypeId} {d : TypeDesc} (hu : P.underlying t = some (.slice e)) (hd : P.underlying e = some d) (hs : tsize P e = 1) {k : IntKind} (i : Nat) (hi : i < xs.length) :
  aIndexAddr P t v (.int k i) = some (.pointer (some (elemAddr v i))) := by
 obtain ⟨vs, r, hl, _⟩ := hv; exact r.addr hu hd hs i (by omega)
theorem RL.load (hv : RL R h v xs) {e : TypeId} {d : TypeDesc} (hu : P.underlying e = some d) (hd : isAggD d = false) (i : Nat) (hi : i < xs.length) :
  ∃ u, aload P h e (elemAddr v i) = some u ∧ R h u xs[i] := by
 obtain ⟨vs, r, hl, hr⟩ := hv
 exact ⟨_, r.load hu hd i (by omega), hr i _ _ (List.getElem?_eq_getElem hi) (List.getElem?_eq_getElem (by omega))⟩
theorem RL.loadI {xs : List Int} (hv : RL isI h v xs) {e : TypeId} {d : TypeDesc} (hu : P.underlying e = some d) (hd : isAggD d = false) (i : Nat) (hi : i < xs.length) :
  aload P h e (elemAddr v i) = some (.int .i64 xs[i]) := by obtain ⟨u, h1, h2⟩ := hv.load hu hd i hi; rw [h1, h2]
theorem RL.nil : RL R h (.slice none 0 0) [] := ⟨[], RS.nil h, rfl, fun i x u hx => by simp at hx⟩
end RL
theorem RL.ofI {v : Value} {xs : List Int} (r : RS h v (xs.map (Value.int .i64))) : RL isI h v xs :=
 ⟨_, r, by simp, fun i x u hx hu => by rw [List.getElem?_map, hx] at hu; simp at hu; exact hu.symm⟩
theorem RL.cellsI {v : Value} {xs : List Int} (r : RL isI h v xs) : RS h v (xs.map (Value.int .i64)) := by
 obtain ⟨vs, r, hl, hr⟩ := r
 have : vs = xs.map (Value.int .i64) := by
  apply List.ext_getElem
  ·simp [hl]
  ·intro i h1 h2
   have hx : i < xs.length := by omega
   have := hr i xs[i] vs[i] (List.getElem?_eq_getElem hx) (List.getElem?_eq_getElem h1)
   unfold isI at this
   simp [this]
 subst this; exact r
theorem awrap_succ (k : Nat) (hk : k < 4611686018427387904) : awrap .i64 ((k : Int) + 1) = ((k + 1 : Nat) : Int) := by
 rw [awrap_i64 _ (by omega) (by omega)]; omega
theorem readN_own {id : Nat} {c : List Value} (ho : h.own id = some (.cells c)) : ∀ (n off : Nat), off + n ≤ c.length → readN h ⟨id, off, none⟩ n = some ((c.drop off).take n)
 | 0, off, _ => by simp [readN]
 | n + 1, off, hn => by
  have hlt : off < c.length := by omega
  have ih := readN_own ho n (off + 1) (by omega)
  simp only [readN, read_own ho, List.getElem?_eq_getElem hlt, aadd]
  rw [ih]
  conv => rhs; rw [List.drop_eq_getElem_cons hlt, List.take_succ_cons]
theorem aload_own {t : TypeId} {d : TypeDesc} {k id off : Nat} {c : List Value} (hu : P.underlying t = some d) (hd : isAggD d = true) (hs : tsize P t = k) (ho : h.own id = some (.cells c)) (hk : off + k ≤ c.length) :
  aload P h t ⟨id, off, none⟩ = some (.agg ((c.drop off).take k).toArray) := by
 simp only [aload, hu, hd, cond_true, hs, readN_own ho k off hk]
theorem aload_one {t : TypeId} {d : TypeDesc} {id off : Nat} {c : List Value} (hu : P.underlying t = some d) (hd : isAggD d = false) (ho : h.own id = some (.cells c)) : aload P h t ⟨id, off, none⟩ = c[off]? := by
 rw [aload_flat hu hd, read_own ho]
theorem awrap_u8 (x : Int) : awrap .u8 x = x % 256 := by rw [awrap_eq]; simp [IntKind.wrap, IntKind.bits, IntKind.signed]
theorem awrap_in (x : Int) (h1 : 0 ≤ x) (h2 : x ≤ 4611686018427387904) : awrap .i64 x = x := awrap_i64 x (by omega) (by omega)
theorem isSl.one {v : Value} {n : Nat} (hv : isSl v n) : v.oneCell' = true := by obtain ⟨a, c, rfl, _⟩ := hv; rfl
theorem RL.one {α : Type} {R : AHeap → Value → α → Prop} {v : Value} {xs : List α} (hv : RL R h v xs) : v.oneCell' = true := hv.sl.one
theorem RL.le {α : Type} {R : AHeap → Value → α → Prop} (s : Stays R) {v : Value} {xs : List α} (hv : RL R h v xs) (e : Le h h') : RL R h' v xs := (Stays.RL s) _ _ _ _ hv e
theorem RL.ex {α : Type} {R : AHeap → Value → α → Prop} (s : Stays R) {v : Value} {xs : List α} (hv : RL R h v xs) (hw : WF h) (e : Ex h h') : RL R h' v xs := hv.le s (e.le hw)
theorem aStore1 {t : TypeId} {d : TypeDesc} {id off : Nat} {c : List Value} {x : Value} (hu : P.underlying t = some d) (hs : tsize P t = 1) (ho : h.own id = some (.cells c)) (hoff : off < c.length) (hx : x.cells = #[x]) (h1 : x.oneCell' = true) :
  aStore P h t (.pointer (some ⟨id, off, none⟩)) x = some (h.put id (.cells (c.set off x))) := by
 have : off + 1 ≤ c.length := hoff
 simp [aStore, ho, hx, hs, hu, this, h1, putCells]
end Go.Fw
namespace Go.Fw
variable {P : Program} {h h' : AHeap}
structure CS (k : Nat) (h : AHeap) (v : Value) (n : Nat) (cs : List Value) : Prop where
 sl : isSl v n
 len : cs.length = n * k
 get : ∀ i x, cs[i]? = some x → h.read (elemAddr v i) = some x
theorem CS.le {k n : Nat} {v : Value} {cs : List Value} (c : CS k h v n cs) (e : Le h h') : CS k h' v n cs := ⟨c.sl, c.len, fun i x hx => e.read (c.get i x hx)⟩
theorem RS.cs {v : Value} {vs : List Value} (r : RS h v vs) : CS 1 h v vs.length vs := ⟨r.sl, by simp, r.get⟩
theorem CS.rs {v : Value} {n : Nat} {vs : List Value} (r : CS 1 h v n vs) : RS h v vs := by
 have : vs.length = n := by simpa using r.len
 subst this; exact ⟨r.sl, r.get⟩
theorem CS.nil (k : Nat) (h : AHeap) : CS k h (.slice none 0 0) 0 [] := ⟨⟨none, 0, rfl, by simp⟩, by simp, fun i x hx => by simp at hx⟩
theorem readN_get : ∀ (cs : List Value) (a : Addr), (∀ i x, cs[i]? = some x → h.read (aadd a i) = some x) → readN h a cs.length = some cs
 | [], _, _ => rfl
 | c :: cs, a, hg => by
  have h0 := hg 0 c rfl
  have ih := readN_get cs (aadd a 1) fun i x hx => by
   have := hg (i + 1) x (by simpa using hx)
   simpa [aadd, Nat.add_assoc, Nat.add_comm, Nat.add_left_comm] using this
  simp only [List.length_cons, readN]
  rw [show h.read a = some c by simpa [aadd] using h0, ih]
theorem CS.readN {k n : Nat} {a : Addr} {cap : Nat} {cs : List Value} (c : CS k h (.slice (some a) n cap) n cs) : readN h a (n * k) = some cs := by
 rw [← c.len]; exact readN_get cs a fun i x hx => c.get i x hx
theorem CS.src {k n : Nat} {v : Value} {cs : List Value} {e : TypeId} (hk : tsize P e = k) (c : CS k h v n cs) : srcCells P h e v = some (n, cs) := by
 obtain ⟨a, cap, rfl, hs⟩ := c.sl
 cases a with
 | none =>
  have hn : n = 0 := by cases n with | zero => rfl | succ n => simp at hs
  subst hn
  have : cs = [] := by simpa using c.len
  subst this; simp [srcCells]
 | some a => simp [srcCells, hk, c.readN]
theorem CS.first {k n : Nat} {v : Value} {cs : List Value} (c : CS k h v n cs) (hn : n ≠ 0) (m : Nat) (hm : m ≤ n) : firstN h k m v = some (cs.take (m * k)) := by
 obtain ⟨a, cap, rfl, hs⟩ := c.sl
 obtain ⟨a, rfl⟩ := Option.isSome_iff_exists.1 (hs (by omega))
 have hle : m * k ≤ n * k := Nat.mul_le_mul_right _ hm
 have hl : (cs.take (m * k)).length = m * k := by rw [List.length_take, c.len]; omega
 simp only [firstN, hm, if_true]
 conv => lhs; rw [← hl]
 refine readN_get _ _ fun i x hx => c.get i x ?_
 rw [List.getElem?_take] at hx
 split at hx
 ·exact hx
 ·cases hx
def blk : Value → Option Nat
 | .slice (some ⟨b, _, none⟩) _ _ => some b
 | _ => none
def Apart (g : AHeap) (v : Value) : Prop := ∀ b, blk v = some b → g.own b = none
def GS (k : Nat) (h : AHeap) (v : Value) (n : Nat) (cs : List Value) : Prop :=
 cs.length = n * k ∧ ((v = .slice none 0 0 ∧ n = 0) ∨
  ∃ id c cap, v = .slice (some ⟨id, 0, none⟩) n cap ∧ h.own id = some (.cells c) ∧ c.take (n * k) = cs ∧ (cap = UNK + k ∨ cap = n ∧ n < 1000000000000))
theorem GS.nil (k : Nat) (h : AHeap) : GS k h (.slice none 0 0) 0 [] := ⟨by simp, .inl ⟨rfl, rfl⟩⟩
theorem GS.full {k n id : Nat} {c : List Value} (ho : h.own id = some (.cells c)) (hl : c.length = n * k) (hn : n < 1000000000000) : GS k h (.slice (some ⟨id, 0, none⟩) n n) n c :=
 ⟨hl, .inr ⟨id, c, n, rfl, ho, by rw [← hl, List.take_length], .inr ⟨rfl, hn⟩⟩⟩
theorem GS.le {k n : Nat} {v : Value} {cs : List Value} (g : GS k h v n cs) (e : Le h h') : GS k h' v n cs := by
 obtain ⟨hl, g | ⟨id, c, cap, rfl, ho, r⟩⟩ := g
 ·exact ⟨hl, .inl g⟩
 ·exact ⟨hl, .inr ⟨id, c, cap, rfl, e.own _ _ ho, r⟩⟩
theorem GS.cs {k n : Nat} {v : Value} {cs : List Value} (g : GS k h v n cs) : CS k h v n cs := by
 obtain ⟨hl, ⟨rfl, rfl⟩ | ⟨id, c, cap, rfl, ho, rfl, hc⟩⟩ := g
 ·have : cs = [] := by simpa using hl
  subst this; exact .nil k h
 ·refine ⟨⟨_, cap, rfl, by simp⟩, hl, fun i x hx => ?_⟩
  rw [elemAddr_mk, aadd, read_own ho, Nat.zero_add]
  rw [List.getElem?_take] at hx
  split at hx
  ·exact hx
  ·cases hx
def apT (P : Program) (t xt : TypeId) (k : Nat) : Bool :=
  match P.underlying t, P.underlying xt with
  | some (.slice e), some dx => match azero P e with
    | some z => z.cells.size == tsize P e && z.cells.toList.all (·.oneCell') && (P.underlying e).isSome && notIntD dx && tsize P e == k && decide (P.bytesOf e ≤ 100000)
    | none => false
  | _, _ => false
theorem GS.append {t xt : TypeId} {k n n' : Nat} {v x : Value} {cs news : List Value} (ht : apT P t xt k = true) (g : GS k h v n cs) (hs : ∀ e, tsize P e = k → srcCells P h e x = some (n', news))
  (hc1 : cs.all (·.oneCell') = true) (h1 : news.all (·.oneCell') = true) (hnl : news.length = n' * k) (hb : n + n' ≤ 1000000000) :
  ∃ v' h', aAppend P h t xt v x = some (v', h') ∧ GS k h' v' (n + n') (cs ++ news) ∧ (∀ f, WF h → Le f h → Apart f v → Le f h' ∧ Apart f v') := by
 unfold apT at ht
 split at ht
 ·rename_i e dx hu hx
  split at ht
  ·rename_i z hz
   simp only [Bool.and_eq_true, beq_iff_eq, decide_eq_true_eq] at ht
   obtain ⟨⟨⟨⟨⟨hz1, hz2⟩, hd⟩, hni⟩, hk⟩, hby⟩ := ht
   have hs := hs e hk
   have b1 : (n + n') * P.bytesOf e ≤ 140737488355328 := Nat.le_trans (Nat.mul_le_mul hb hby) (by decide)
   have b2 : n + n' ≤ 140737488355328 := by omega
   have hall : z.cells.size = tsize P e ∧ z.cells.toList.all (·.oneCell') ∧ (P.underlying e).isSome ∧ notIntD dx ∧ news.all (·.oneCell') ∧ (n + n') * P.bytesOf e ≤ 140737488355328 ∧ n + n' ≤ 140737488355328 ∧ news.length = n' * tsize P e :=
    ⟨hz1, hz2, hd, hni, h1, b1, b2, by rw [hk]; exact hnl⟩
   have hlen : (cs ++ news).length = (n + n') * k := by rw [List.length_append, g.1, hnl, Nat.add_mul]
   by_cases h0 : n' = 0
   ·subst h0
    have hnn : news = [] := by simpa using hnl
    subst hnn
    refine ⟨v, h, ?_, by simpa using g, fun f _ e a => ⟨e, a⟩⟩
    obtain ⟨hl, ⟨rfl, rfl⟩ | ⟨id, c, cap, rfl, ho, ht, hc⟩⟩ := g
    ·simp [aAppend, hu, hx, hz, hs, hall]
    ·have : n ≤ cap := by
      rcases hc with rfl | ⟨rfl, _⟩
      ·have : (1000000000 : Nat) ≤ UNK := by decide
       omega
      ·exact Nat.le_refl _
     simp only [aAppend, hu, hx, hz, hs]
     rw [if_pos hall, if_pos trivial, if_pos this]
   ·obtain ⟨hl, ⟨rfl, rfl⟩ | ⟨id, c, cap, rfl, ho, htk, hc⟩⟩ := g
    ·have hcs : cs = [] := by simpa using hl
     subst hcs
     refine ⟨_, _, ?_, ⟨hlen, .inr ⟨h.next, news, UNK + k, by rfl, AHeap.own_alloc_eq _ _, by simp [← hnl, List.take_length], .inl rfl⟩⟩, fun f hw e a => ⟨e.alloc hw _, ?_⟩⟩
     ·have hno : ¬ UNK ≤ 0 := by decide
      have hno2 : ¬ (0 + n' ≤ 0) := by omega
      simp only [aAppend, hu, hx, hz, hs]
      rw [if_pos hall, if_neg h0, if_neg hno, if_neg hno2]
      simp [oldCells, hk]
     ·intro b hb; simp [blk] at hb; subst hb; exact e.next hw (Nat.le_refl _)
    ·have hrd : Fw.readN h ⟨id, 0, none⟩ (n * k) = some cs := by
      have : n * k ≤ c.length := by have := hl; rw [← htk, List.length_take] at this; omega
      rw [readN_own ho (n * k) 0 (by omega)]; simp [htk]
     rcases hc with rfl | ⟨rfl, hcn⟩
     ·refine ⟨_, (h.kill id).alloc (.cells (cs ++ news)), ?_, ⟨hlen, .inr ⟨h.next, cs ++ news, UNK + k, by rfl, by exact AHeap.own_alloc_eq _ _, by rw [← hlen, List.take_length], .inl rfl⟩⟩, fun f hw e a => ⟨(e.kill (a _ rfl)).alloc (hw.kill _) _, ?_⟩⟩
      ·simp only [aAppend, hu, hx, hz, hs]
       rw [if_pos hall, if_neg h0, if_pos (Nat.le_add_right _ _), if_pos (by rw [hk])]
       simp only [hk, hrd, ho, hc1, if_true]
      ·intro b hb; simp [blk] at hb; subst hb; exact e.next hw (Nat.le_refl _)
     ·have hno : ¬ UNK ≤ cap := Nat.not_le.2 (Nat.lt_of_lt_of_le hcn (by decide))
      refine ⟨_, _, ?_, ⟨hlen, .inr ⟨h.next, cs ++ news, UNK + k, by rfl, AHeap.own_alloc_eq _ _, by rw [← hlen, List.take_length], .inl rfl⟩⟩, fun f hw e a => ⟨e.alloc hw _, ?_⟩⟩
      ·simp only [aAppend, hu, hx, hz, hs]
       rw [if_pos hall, if_neg h0, if_neg hno, if_neg (by omega : ¬ cap + n' ≤ cap)]
       simp only [oldCells, hk, hrd, hc1, if_true]
      ·intro b hb; simp [blk] at hb; subst hb; exact e.next hw (Nat.le_refl _)
  ·cases ht
 ·cases ht
theorem all_rep {v : Value} (hv : v.oneCell' = true) (n : Nat) : (List.replicate n v).all (·.oneCell') = true := by
 rw [List.all_eq_true]; intro x hx; rw [List.eq_of_mem_replicate hx]; exact hv
theorem aMakeSlice1 {t e : TypeId} {z : Value} {d : TypeDesc} (h : AHeap) (hu : P.underlying t = some (.slice e)) (hz : azero P e = some z) (hc : z.cells = #[z]) (hf : flat z = true) (h1 : z.oneCell' = true) (hs : tsize P e = 1) (hd : P.underlying e = some d) (hb : (P.bytesOf e).ble 1000 = true) (n : Nat) (hn : n ≤ 1000000) :
  aMakeSlice P h t (.int .i64 n) (.int .i64 n) = some (.slice (some ⟨h.next, 0, none⟩) n n, h.alloc (.cells (List.replicate n z))) := by
 have b1 : (P.bytesOf e : Int) * n ≤ 140737488355328 := by
  have : P.bytesOf e * n ≤ 1000 * 1000000 := Nat.mul_le_mul (Nat.le_of_ble_eq_true hb) hn
  have h2 : ((P.bytesOf e * n : Nat) : Int) ≤ 1000000000 := by omega
  rw [Int.natCast_mul] at h2; omega
 have b2 : (n : Int) ≤ 140737488355328 := by omega
 simp [aMakeSlice, hu, hz, hc, hf, hs, hd, b1, b2, aNewRow, zrow_one, h1]
theorem aCopy_own {t e : TypeId} {d : TypeDesc} {k n id off dl dc : Nat} {c cs : List Value} {v : Value} (hu : P.underlying t = some (.slice e)) (hd : P.underlying e = some d) (hk : tsize P e = k) (ho : h.own id = some (.cells c)) (hv : CS k h v n cs) (hc1 : cs.all (·.oneCell') = true)
  (m : Nat) (hm : min n dl = m) (h0 : m ≠ 0) (hb : off + m * k ≤ c.length) :
  aCopy P h t (.slice (some ⟨id, off, none⟩) dl dc) v = some (.int .i64 m, h.put id (.cells (c.take off ++ cs.take (m * k) ++ c.drop (off + m * k)))) := by
 have hn : n ≠ 0 := by omega
 have hmn : m ≤ n := by omega
 have hlen : aLenOf v = some n := by obtain ⟨a, cap, rfl, _⟩ := hv.sl; rfl
 have hf := hv.first hn m hmn
 have hle : m * k ≤ n * k := Nat.mul_le_mul_right _ hmn
 have hl : (cs.take (m * k)).length = m * k := by rw [List.length_take, hv.len]; omega
 have h1 : (cs.take (m * k)).all (·.oneCell') = true := by
  rw [List.all_eq_true] at hc1 ⊢; intro x hx; exact hc1 x (List.mem_of_mem_take hx)
 have hcond : off + (cs.take (m * k)).length ≤ c.length ∧ (cs.take (m * k)).all (·.oneCell') ∧ m ≠ 0 := ⟨by rw [hl]; exact hb, h1, h0⟩
 simp only [aCopy, hu, hlen, hd, Option.isSome_some, if_true, hm, hk]
 rw [if_neg (fun e => h0 e.1)]
 simp only [hf, ho]
 rw [if_pos hcond, putCells_eq _ _ _ hcond.1, hl]
theorem aCopy_zero {t e : TypeId} {d : TypeDesc} {dl dc n : Nat} {a : Option Addr} {v : Value} (hu : P.underlying t = some (.slice e)) (hd : P.underlying e = some d) (hk : tsize P e ≠ 0) (hv : isSl v n) (hm : min n dl = 0) :
  aCopy P h t (.slice a dl dc) v = some (.int .i64 (0 : Nat), h) := by
 obtain ⟨a, cap, rfl, _⟩ := hv
 simp [aCopy, hu, aLenOf, hd, hm, hk]
theorem aSlice_lo {t e : TypeId} {d : TypeDesc} {n cap : Nat} {a : Option Addr} (hu : P.underlying t = some (.slice e)) (hd : P.underlying e = some d) (hk : tsize P e = 1) {k : IntKind} (i : Nat) (hi : i ≤ n) (hn : n < cap ∨ i < n) (hc : n ≤ cap) (hs : cap < UNK) :
  aSlice P t (.slice a n cap) (some (.int k i)) none none = some (.slice (a.map (fun a => aadd a i)) (n - i) (cap - i)) := by
 have h1 : ¬ UNK ≤ cap := by omega
 have h2 : (0 : Int) ≤ i := by omega
 have h3 : (i : Int) ≤ n := by omega
 have h4 : ¬ (cap = i) := by omega
 simp [aSlice, hu, h1, hc, hd, aBounds, aBound, h2, h3, h4, hk]
theorem aSlice_hi {t e : TypeId} {d : TypeDesc} {n cap : Nat} {a : Addr} (hu : P.underlying t = some (.slice e)) (hd : P.underlying e = some d) {k : IntKind} (i : Nat) (hi : i ≤ cap) (hc : n ≤ cap) (hs : cap < UNK) :
  aSlice P t (.slice (some a) n cap) none (some (.int k i)) none = some (.slice (some a) i cap) := by
 have h1 : ¬ UNK ≤ cap := by omega
 have h2 : (0 : Int) ≤ i := by omega
 have h3 : (i : Int) ≤ cap := by omega
 simp [aSlice, hu, h1, hc, hd, aBounds, aBound, h2, h3, aadd]
theorem CS.own {k id off n cap : Nat} {c : List Value} (ho : h.own id = some (.cells c)) (hn : off + n * k ≤ c.length) : CS k h (.slice (some ⟨id, off, none⟩) n cap) n ((c.drop off).take (n * k)) := by
 have hl : ((c.drop off).take (n * k)).length = n * k := by simp; omega
 refine ⟨⟨_, cap, rfl, by simp⟩, hl, fun i x hx => ?_⟩
 rw [elemAddr_mk, aadd, read_own ho]
 rw [List.getElem?_take] at hx
 split at hx
 ·rw [List.getElem?_drop] at hx; exact hx
 ·cases hx
theorem aIdx {t e : TypeId} {d : TypeDesc} {a : Addr} {n cap : Nat} (hu : P.underlying t = some (.slice e)) (hd : P.underlying e = some d) (hs : tsize P e = 1) {k : IntKind} (i : Nat) (hi : i < n) :
  aIndexAddr P t (.slice (some a) n cap) (.int k i) = some (.pointer (some (aadd a i))) := by
 have h1 : (i : Int) < (n : Int) := by omega
 simp [aIndexAddr, hu, h1, hd, hs]
theorem keep_own {v v' : Value} (hf : ∀ f, WF h → Le f h → Apart f v → Le f h' ∧ Apart f v') (hw : WF h) {a : Nat} {o : AObj} (ho : h.own a = some o) (hb : blk v ≠ some a) : h'.own a = some o ∧ blk v' ≠ some a := by
 cases hv : blk v with
 | none =>
  obtain ⟨h1, h2⟩ := hf h hw (Le.refl h) (fun b hb => by rw [hv] at hb; cases hb)
  exact ⟨h1.own _ _ ho, fun e => by have := h2 a e; rw [ho] at this; cases this⟩
 | some b =>
  have hba : a ≠ b := by intro e; subst e; exact hb hv
  obtain ⟨h1, h2⟩ := hf (h.kill b) hw (Le.killed h b) (fun c hc => by rw [hv] at hc; injection hc with hc; subst hc; exact AHeap.own_kill_eq _ _)
  have : (h.kill b).own a = some o := by rw [AHeap.own_kill_ne _ _ _ hba]; exact ho
  exact ⟨h1.own _ _ this, fun e => by have h3 := h2 a e; rw [this] at h3; cases h3⟩
theorem GS.push {t : TypeId} {n id : Nat} {v x : Value} {cs : List Value} (ht : apT P t t 1 = true) (g : GS 1 h v n cs) (ho : h.own id = some (.cells [x])) (hc1 : cs.all (·.oneCell') = true) (h1 : x.oneCell' = true) (hb : n + 1 ≤ 1000000000) :
  ∃ v' h', aAppend P h t t v (.slice (some ⟨id, 0, none⟩) 1 1) = some (v', h') ∧ GS 1 h' v' (n + 1) (cs ++ [x]) ∧ (∀ f, WF h → Le f h → Apart f v → Le f h' ∧ Apart f v') :=
 g.append ht (fun e he => (CS.own (k := 1) (off := 0) (n := 1) (cap := 1) ho (by simp)).src he) hc1 (by simp [h1]) (by simp) hb
theorem RL.load' {α : Type} {R : AHeap → Value → α → Prop} {g : AHeap} {v : Value} {xs : List α} (hv : RL R g v xs) {e : TypeId} {d : TypeDesc} (hu : P.underlying e = some d) (hd : isAggD d = false) (i : Nat) (hi : i < xs.length) :
  ∃ u, (∀ h, Le g h → aload P h e (elemAddr v i) = some u) ∧ R g u xs[i] := by
 obtain ⟨u, h1, h2⟩ := hv.load (P := P) hu hd i hi
 refine ⟨u, fun h hl => ?_, h2⟩
 rw [aload_flat hu hd] at h1 ⊢
 exact hl.read h1
end Go.Fw
