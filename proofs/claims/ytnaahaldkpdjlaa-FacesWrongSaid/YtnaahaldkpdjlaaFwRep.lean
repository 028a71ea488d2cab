/- A text of the proof. -/
import Derived.Test.YtnaahaldkpdjlaaFwVC
set_option linter.unusedSimpArgs false
set_option linter.unusedVariables false
namespace Go.Fw
variable {P : Program} {h h' : AHeap}
structure Ex (h h' : AHeap) : Prop where
 next : h.next ≤ h'.next
 ext : h'.ext = h.ext
 own : ∀ i, i < h.next → h'.own i = h.own i
theorem Ex.refl (h : AHeap) : Ex h h := ⟨Nat.le_refl _, rfl, fun _ _ => rfl⟩
theorem Ex.trans {h1 h2 h3 : AHeap} (a : Ex h1 h2) (b : Ex h2 h3) : Ex h1 h3 :=
 ⟨Nat.le_trans a.next b.next, b.ext.trans a.ext, fun i hi => (b.own i (Nat.lt_of_lt_of_le hi a.next)).trans (a.own i hi)⟩
theorem Ex.alloc {h0 : AHeap} (a : Ex h0 h) (o : AObj) : Ex h0 (h.alloc o) :=
 ⟨Nat.le_succ_of_le a.next, a.ext, fun i hi => by rw [AHeap.own_alloc_ne _ _ _ (by have := a.next; omega)]; exact a.own i hi⟩
theorem Ex.put {h0 : AHeap} (a : Ex h0 h) {id : Nat} (o : AObj) (hid : h0.next ≤ id) : Ex h0 (h.put id o) :=
 ⟨a.next, a.ext, fun i hi => by rw [AHeap.own_put_ne _ _ _ _ (by omega)]; exact a.own i hi⟩
theorem Ex.old {h0 : AHeap} (a : Ex h0 h) (hw : WF h0) {i : Nat} {o : AObj} (ho : h0.own i = some o) : h.own i = some o := by
 rw [a.own i (hw i (by rw [ho]; simp))]; exact ho
theorem Ex.read {h0 : AHeap} (a : Ex h0 h) (hw : WF h0) {ad : Addr} {x : Value} (hr : h0.read ad = some x) : h.read ad = some x := by
 obtain ⟨b, off, sp⟩ := ad
 cases sp with
 | none =>
  simp only [AHeap.read] at hr ⊢
  split at hr
  ·rename_i c ho; rw [a.old hw ho]; exact hr
  ·cases hr
 | some k => simp only [AHeap.read] at hr ⊢; rw [a.ext]; exact hr
theorem WF.alloc (hw : WF h) (o : AObj) : WF (h.alloc o) := by
 intro i hi
 by_cases e : i = h.next
 ·subst e; exact Nat.lt_succ_self _
 ·rw [AHeap.own_alloc_ne _ _ _ e] at hi; exact Nat.lt_succ_of_lt (hw i hi)
theorem WF.put (hw : WF h) {id : Nat} (o : AObj) (hid : id < h.next) : WF (h.put id o) := by
 intro i hi
 by_cases e : i = id
 ·subst e; exact hid
 ·rw [AHeap.own_put_ne _ _ _ _ e] at hi; exact hw i hi
theorem WF.kill (hw : WF h) (id : Nat) : WF (h.kill id) := by
 intro i hi
 by_cases e : i = id
 ·subst e; rw [AHeap.own_kill_eq] at hi; exact absurd rfl hi
 ·rw [AHeap.own_kill_ne _ _ _ e] at hi; exact hw i hi
theorem WF.lt (hw : WF h) {i : Nat} {o : AObj} (ho : h.own i = some o) : i < h.next := hw i (by rw [ho]; simp)
theorem next_alloc (o : AObj) : (h.alloc o).next = h.next + 1 := rfl
theorem own_alloc (j : Nat) (o : AObj) : (h.alloc o).own j = if j = h.next then some o else h.own j := by
 split
 ·rename_i e; subst e; exact AHeap.own_alloc_eq _ _
 ·rename_i e; exact AHeap.own_alloc_ne _ _ _ e
theorem own_put (i j : Nat) (o : AObj) : (h.put i o).own j = if j = i then some o else h.own j := by
 split
 ·rename_i e; subst e; exact AHeap.own_put_eq _ _ _
 ·rename_i e; exact AHeap.own_put_ne _ _ _ _ e
theorem own_kill (i j : Nat) : (h.kill i).own j = if j = i then none else h.own j := by
 split
 ·rename_i e; subst e; exact AHeap.own_kill_eq _ _
 ·rename_i e; exact AHeap.own_kill_ne _ _ _ e
theorem read_own {id off : Nat} {c : List Value} (ho : h.own id = some (.cells c)) : h.read ⟨id, off, none⟩ = c[off]? := by simp [AHeap.read, ho]
structure Le (g h : AHeap) : Prop where
 ext : h.ext = g.ext
 own : ∀ i o, g.own i = some o → h.own i = some o
theorem Le.refl (h : AHeap) : Le h h := ⟨rfl, fun _ _ h => h⟩
theorem Le.trans {h1 h2 h3 : AHeap} (a : Le h1 h2) (b : Le h2 h3) : Le h1 h3 := ⟨b.ext.trans a.ext, fun i o h => b.own i o (a.own i o h)⟩
theorem Ex.le (e : Ex h h') (hw : WF h) : Le h h' := ⟨e.ext, fun _ _ ho => e.old hw ho⟩
theorem Le.put {g : AHeap} (a : Le g h) {id : Nat} (o : AObj) (hid : g.own id = none) : Le g (h.put id o) :=
 ⟨a.ext, fun i o' hi => by
  rw [own_put]; split
  ·rename_i e; subst e; rw [hid] at hi; cases hi
  ·exact a.own i o' hi⟩
theorem Le.kill {g : AHeap} (a : Le g h) {id : Nat} (hid : g.own id = none) : Le g (h.kill id) :=
 ⟨a.ext, fun i o' hi => by
  rw [own_kill]; split
  ·rename_i e; subst e; rw [hid] at hi; cases hi
  ·exact a.own i o' hi⟩
theorem Le.next {g : AHeap} (a : Le g h) (hw : WF h) {i : Nat} (hi : h.next ≤ i) : g.own i = none := by
 cases hg : g.own i with
 | none => rfl
 | some o => exact absurd (hw.lt (a.own i o hg)) (by omega)
theorem Le.alloc {g : AHeap} (a : Le g h) (hw : WF h) (o : AObj) : Le g (h.alloc o) :=
 ⟨a.ext, fun i o' hi => by
  rw [own_alloc]; split
  ·rename_i e; subst e; rw [a.next hw (Nat.le_refl _)] at hi; cases hi
  ·exact a.own i o' hi⟩
theorem Le.killed (h : AHeap) (id : Nat) : Le (h.kill id) h := ⟨rfl, fun i o' hi => by
  rw [own_kill] at hi; split at hi
  ·cases hi
  ·exact hi⟩
theorem Le.none {g : AHeap} (a : Le g h) {i : Nat} (hi : h.own i = none) : g.own i = none := by
 cases hg : g.own i with
 | none => rfl
 | some o => rw [a.own i o hg] at hi; cases hi
theorem Le.read {g : AHeap} (a : Le g h) {ad : Addr} {x : Value} (hr : g.read ad = some x) : h.read ad = some x := by
 obtain ⟨b, off, sp⟩ := ad
 cases sp with
 | none =>
  simp only [AHeap.read] at hr ⊢
  split at hr
  ·rename_i c ho; rw [a.own _ _ ho]; exact hr
  ·cases hr
 | some k => simp only [AHeap.read] at hr ⊢; rw [a.ext]; exact hr
def elemAddr (v : Value) (k : Nat) : Addr := match v with | .slice (some a) _ _ => aadd a k | _ => default
theorem elemAddr_mk (a : Addr) (n c k : Nat) : elemAddr (.slice (some a) n c) k = aadd a k := rfl
def isSl (v : Value) (n : Nat) : Prop := ∃ a c, v = .slice a n c ∧ (0 < n → a.isSome = true)
structure RS (h : AHeap) (v : Value) (vs : List Value) : Prop where
 sl : isSl v vs.length
 get : ∀ i x, vs[i]? = some x → h.read (elemAddr v i) = some x
theorem RS.le {v : Value} {vs : List Value} (hv : RS h v vs) (e : Le h h') : RS h' v vs := ⟨hv.sl, fun i x hx => e.read (hv.get i x hx)⟩
theorem RS.nil (h : AHeap) : RS h (.slice none 0 0) [] := ⟨⟨none, 0, rfl, by simp⟩, fun i x hx => by simp at hx⟩
theorem RS.own {id off n c : Nat} {cs : List Value} (ho : h.own id = some (.cells cs)) (hn : off + n ≤ cs.length) : RS h (.slice (some ⟨id, off, none⟩) n c) ((cs.drop off).take n) := by
 have hl : ((cs.drop off).take n).length = n := by simp; omega
 refine ⟨⟨_, c, by rw [hl], by simp⟩, fun i x hx => ?_⟩
 rw [elemAddr_mk, aadd, read_own ho]
 rw [List.getElem?_take] at hx
 split at hx
 ·rw [List.getElem?_drop] at hx; exact hx
 ·cases hx
theorem RS.whole {id n c : Nat} {cs : List Value} (ho : h.own id = some (.cells cs)) (hn : cs.length = n) : RS h (.slice (some ⟨id, 0, none⟩) n c) cs := by
 have := RS.own (c := c) (off := 0) (n := n) ho (by omega)
 simpa [List.take_of_length_le, hn] using this
theorem RS.len {v : Value} {vs : List Value} (hv : RS h v vs) {t e : TypeId} (hu : P.underlying t = some (.slice e)) (h' : AHeap) : aLen P h' t v = some (.int .i64 vs.length) := by
 obtain ⟨a, c, rfl, _⟩ := hv.sl; simp [aLen, hu]
theorem RS.addr {v : Value} {vs : List Value} (hv : RS h v vs) {t e : TypeId} {d : TypeDesc} (hu : P.underlying t = some (.slice e)) (hd : P.underlying e = some d) (hs : tsize P e = 1) {k : IntKind} (i : Nat) (hi : i < vs.length) :
  aIndexAddr P t v (.int k i) = some (.pointer (some (elemAddr v i))) := by
 obtain ⟨a, c, rfl, hs'⟩ := hv.sl
 obtain ⟨a, rfl⟩ := Option.isSome_iff_exists.1 (hs' (by omega))
 have h1 : (i : Int) < (vs.length : Int) := by omega
 simp [aIndexAddr, hu, h1, hd, elemAddr, hs]
theorem aload_flat {e : TypeId} {d : TypeDesc} (hu : P.underlying e = some d) (hd : isAggD d = false) (a : Addr) : aload P h e a = h.read a := by
 simp [aload, hu, hd]
theorem RS.load {v : Value} {vs : List Value} (hv : RS h v vs) {e : TypeId} {d : TypeDesc} (hu : P.underlying e = some d) (hd : isAggD d = false) (i : Nat) (hi : i < vs.length) :
  aload P h e (elemAddr v i) = some vs[i] := by
 rw [aload_flat hu hd]; exact hv.get i _ (List.getElem?_eq_getElem hi)
def RL {α : Type} (R : AHeap → Value → α → Prop) (h : AHeap) (v : Value) (xs : List α) : Prop :=
 ∃ vs : List Value, RS h v vs ∧ vs.length = xs.length ∧ ∀ (i : Nat) (x : α) (u : Value), xs[i]? = some x → vs[i]? = some u → R h u x
def isI (_ : AHeap) (v : Value) (n : Int) : Prop := v = .int .i64 n
def Stays {α : Type} (R : AHeap → Value → α → Prop) : Prop := ∀ h h' v x, R h v x → Le h h' → R h' v x
theorem Stays.isI : Stays Fw.isI := fun _ _ _ _ r _ => r
theorem Stays.RL {α : Type} {R : AHeap → Value → α → Prop} (s : Stays R) : Stays (Fw.RL R) :=
 fun h h' v x ⟨vs, r, hl, hr⟩ e => ⟨vs, r.le e, hl, fun i x u hx hu => s h h' u x (hr i x u hx hu) e⟩
section RL
variable {α : Type} {R : AHeap → Value → α → Prop} {v : Value} {xs : List α}
theorem RL.sl (hv : RL R h v xs) : isSl v xs.length := by obtain ⟨vs, r, hl, _⟩ := hv; rw [← hl]; exact r.sl
theorem RL.len (hv : RL R h v xs) {t e : TypeId} (hu : P.underlying t = some (.slice e)) (h' : AHeap) : aLen P h' t v = some (.int .i64 xs.length) := by
 obtain ⟨vs, r, hl, _⟩ := hv; rw [r.len hu, hl]
theorem RL.addr (hv : RL R h v xs) {t e : TypeId} {d : TypeDesc} (hu : P.underlying t = some (.slice e)) (hd : P.underlying e = some d) (hs : tsize P e = 1) {k : IntKind} (i : Nat) (hi : i < xs.length) :
  aIndexAddr P t v (.int k i) = some (.pointer (some (elemAddr v i))) := by
 obtain ⟨vs, r, hl, _⟩ := hv; exact r.addr hu hd hs i (by omega)
theorem RL.load (hv : RL R h v xs) {e : TypeId} {d : TypeDesc} (hu : P.underlying e = some d) (hd : isAggD d = false) (i : Nat) (hi : i < xs.length) :
  ∃ u, aload P h e (elemAddr v i) = some u ∧ R h u xs[i] := by
 obtain ⟨vs, r, hl, hr⟩ := hv
 exact ⟨_, r.load hu hd i (by omega), hr i _ _ (List.getElem?_eq_getElem hi) (List.getElem?_eq_getElem (by omega))⟩
theorem RL.loadI {xs : List Int} (hv : RL isI h v xs) {e : TypeId} {d : TypeDesc} (hu : P.underlying e = some d) (hd : isAggD d = false) (i : Nat) (hi : i < xs.length) :
  aload P h e (elemAddr v i) = some (.int .i64 xs[i]) := by obtain ⟨u, h1, h2⟩ := hv.load hu hd i hi; rw [h1, h2]
theorem RL.nil : RL R h (.slice none 0 0) [] := ⟨[], RS.nil h, rfl, fun i x u hx => by simp at hx⟩
end RL
theorem RL.ofI {v : Value} {xs : List Int} (r : RS h v (xs.map (Value.int .i64))) : RL isI h v xs :=
 ⟨_, r, by simp, fun i x u hx hu => by rw [List.getElem?_map, hx] at hu; simp at hu; exact hu.symm⟩
theorem RL.cellsI {v : Value} {xs : List Int} (r : RL isI h v xs) : RS h v (xs.map (Value.int .i64)) := by
 obtain ⟨vs, r, hl, hr⟩ := r
 have : vs = xs.map (Value.int .i64) := by
  apply List.ext_getElem
  ·simp [hl]
  ·intro i h1 h2
   have hx : i < xs.length := by omega
   have := hr i xs[i] vs[i] (List.getElem?_eq_getElem hx) (List.getElem?_eq_getElem h1)
   unfold isI at this
   simp [this]
 subst this; exact r
theorem awrap_succ (k : Nat) (hk : k < 4611686018427387904) : awrap .i64 ((k : Int) + 1) = ((k + 1 : Nat) : Int) := by
 rw [awrap_i64 _ (by omega) (by omega)]; omega
theorem readN_own {id : Nat} {c : List Value} (ho : h.own id = some (.cells c)) : ∀ (n off : Nat), off + n ≤ c.length → readN h ⟨id, off, none⟩ n = some ((c.drop off).take n)
 | 0, off, _ => by simp [readN]
 | n + 1, off, hn => by
  have hlt : off < c.length := by omega
  have ih := readN_own ho n (off + 1) (by omega)
  simp only [readN, read_own ho, List.getElem?_eq_getElem hlt, aadd]
  rw [ih]
  conv => rhs; rw [List.drop_eq_getElem_cons hlt, List.take_succ_cons]
theorem aload_own {t : TypeId} {d : TypeDesc} {k id off : Nat} {c : List Value} (hu : P.underlying t = some d) (hd : isAggD d = true) (hs : tsize P t = k) (ho : h.own id = some (.cells c)) (hk : off + k ≤ c.length) :
  aload P h t ⟨id, off, none⟩ = some (.agg ((c.drop off).take k).toArray) := by
 simp only [aload, hu, hd, cond_true, hs, readN_own ho k off hk]
theorem aload_one {t : TypeId} {d : TypeDesc} {id off : Nat} {c : List Value} (hu : P.underlying t = some d) (hd : isAggD d = false) (ho : h.own id = some (.cells c)) : aload P h t ⟨id, off, none⟩ = c[off]? := by
 rw [aload_flat hu hd, read_own ho]
theorem awrap_u8 (x : Int) : awrap .u8 x = x % 256 := by rw [awrap_eq]; simp [IntKind.wrap, IntKind.bits, IntKind.signed]
theorem awrap_in (x : Int) (h1 : 0 ≤ x) (h2 : x ≤ 4611686018427387904) : awrap .i64 x = x := awrap_i64 x (by omega) (by omega)
theorem isSl.one {v : Value} {n : Nat} (hv : isSl v n) : v.oneCell' = true := by obtain ⟨a, c, rfl, _⟩ := hv; rfl
theorem RL.one {α : Type} {R : AHeap → Value → α → Prop} {v : Value} {xs : List α} (hv : RL R h v xs) : v.oneCell' = true := hv.sl.one
theorem RL.le {α : Type} {R : AHeap → Value → α → Prop} (s : Stays R) {v : Value} {xs : List α} (hv : RL R h v xs) (e : Le h h') : RL R h' v xs := (Stays.RL s) _ _ _ _ hv e
theorem RL.ex {α : Type} {R : AHeap → Value → α → Prop} (s : Stays R) {v : Value} {xs : List α} (hv : RL R h v xs) (hw : WF h) (e : Ex h h') : RL R h' v xs := hv.le s (e.le hw)
theorem aStore1 {t : TypeId} {d : TypeDesc} {id off : Nat} {c : List Value} {x : Value} (hu : P.underlying t = some d) (hs : tsize P t = 1) (ho : h.own id = some (.cells c)) (hoff : off < c.length) (hx : x.cells = #[x]) (h1 : x.oneCell' = true) :
  aStore P h t (.pointer (some ⟨id, off, none⟩)) x = some (h.put id (.cells (c.set off x))) := by
 have : off + 1 ≤ c.length := hoff
 simp [aStore, ho, hx, hs, hu, this, h1, putCells]
end Go.Fw
