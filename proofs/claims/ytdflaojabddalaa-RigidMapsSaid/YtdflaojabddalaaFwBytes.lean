/- One of the texts of the layer and the walks: it proves what its theorems say of the functions of the seat, with no condition beyond theirs. -/
import Derived.Test.YtdflaojabddalaaFwRep
import Derived.Lib.Bytealg
set_option linter.unusedSimpArgs false
set_option linter.unusedVariables false
/- Texts and lists of bytes. -/
namespace Go.Fw

theorem toList_loop (b : ByteArray) : ∀ (n i : Nat) (r : List UInt8), b.size - i = n → ByteArray.toList.loop b i r = r.reverse ++ b.data.toList.drop i := by
  intro n
  induction n with
  | zero =>
    intro i r h
    have hi : ¬ i < b.size := by omega
    unfold ByteArray.toList.loop
    rw [if_neg hi, List.drop_of_length_le (by simp; have : b.size = b.data.size := rfl; omega)]; simp
  | succ n ih =>
    intro i r h
    have hi : i < b.size := by omega
    have hi2 : i < b.data.toList.length := by simp; exact hi
    unfold ByteArray.toList.loop
    rw [if_pos hi, ih (i + 1) _ (by omega), List.drop_eq_getElem_cons hi2]
    simp [ByteArray.get!, hi, getElem!_pos]

theorem toList_eq (b : ByteArray) : b.toList = b.data.toList := by
  unfold ByteArray.toList
  rw [toList_loop b _ 0 [] rfl]; simp

theorem bytesOfInts_toList (xs : List Int) : (bytesOfInts xs).toList = xs.map fun n => UInt8.ofNat n.toNat := by
  rw [toList_eq]; simp [bytesOfInts]

theorem bytes_inj : ∀ {xs ys : List Int}, (∀ x ∈ xs, 0 ≤ x ∧ x < 256) → (∀ y ∈ ys, 0 ≤ y ∧ y < 256) → (xs.map fun n : Int => UInt8.ofNat n.toNat) = (ys.map fun n : Int => UInt8.ofNat n.toNat) → xs = ys
  | [], [], _, _, _ => rfl
  | [], y :: ys, _, _, h => by simp at h
  | x :: xs, [], _, _, h => by simp at h
  | x :: xs, y :: ys, hx, hy, h => by
    simp only [List.map_cons, List.cons.injEq] at h
    have h1 := hx x (by simp)
    have h2 := hy y (by simp)
    have e : x = y := by
      have := congrArg UInt8.toNat h.1
      simp at this; omega
    rw [e, bytes_inj (fun z hz => hx z (by simp [hz])) (fun z hz => hy z (by simp [hz])) h.2]

theorem allU8_map : ∀ xs : List Int, allU8 (xs.map (Value.int .u8)) = some xs
  | [] => rfl
  | x :: xs => by simp [allU8, allU8_map xs]

/- a slice of bytes as a text -/
theorem RL.text {P : Program} {h : AHeap} {v : Value} {xs : List Int} (r : RL isB h v xs) {s e d : TypeId} (hs : P.underlying s = some (.slice e)) (he : P.underlying e = some (.int .u8)) (hk : tsize P e = 1) (hd : P.underlying d = some .string) :
    aConvert P h s d v = some (.string (bytesOfInts xs), h) := by
  obtain ⟨rs, hb⟩ := r.cellsB
  have hc := rs.cs
  obtain ⟨a, cap, rfl, hsm⟩ := rs.sl
  simp only [List.length_map] at *
  cases a with
  | none =>
    have : xs = [] := by cases xs with | nil => rfl | cons x xs => simp at hsm
    subst this
    simp [aConvert, hs, he, hd]; rfl
  | some a =>
    have := hc.readN
    rw [Nat.mul_one] at this
    simp [aConvert, hs, he, hd, this, allU8_map]

end Go.Fw
/- bytealg.Compare on slices of bytes. -/
namespace Go.Fw
variable {W0 : World} {m : CMap} {h : AHeap} {w : World}

def u8s (xs : List Int) : List UInt8 := xs.map fun n => n.toNat.toUInt8

theorem run_loadBytes {P : Program} (w : World) : ∀ (xs : List Int) (a : Addr) (acc : ByteArray), (∀ j x, xs[j]? = some x → w.cell? (a.add j) = some (.int .u8 x)) →
    (Extern.Bytes.loadBytes a xs.length acc).run P w = .ok ⟨acc.data ++ (u8s xs).toArray⟩ w
  | [], a, acc, _ => by simp [Extern.Bytes.loadBytes, u8s]
  | x :: xs, a, acc, hc => by
    have h0 : w.cell? a = some (.int .u8 x) := by simpa [Addr.add] using hc 0 x rfl
    have hl : (Go.load a).run P w = .ok (.int .u8 x) w := by rw [run_load]; simp [h0]
    have ih := run_loadBytes (P := P) w xs (a.add 1) (acc.push x.toNat.toUInt8) fun j y hy => by
      have e : (a.add 1).add j = a.add (j + 1) := by
        unfold Addr.add
        by_cases hj : j = 0
        · subst hj; simp
        · simp [hj]; omega
      rw [e]; exact hc (j + 1) y (by simpa using hy)
    simp only [List.length_cons, Extern.Bytes.loadBytes, Sem.run_bind, hl, Result.andThen_ok, ih]
    congr 2
    simp [u8s, ByteArray.push]

theorem run_bytesOf {P : Program} (R : Rel W0 m h w) {v v' : Value} {xs : List Int} (r : RL isB h v xs) (hv : VR h.next m v v') : (Extern.Bytes.bytesOf v').run P w = .ok ⟨(u8s xs).toArray⟩ w := by
  obtain ⟨rs, hb⟩ := r.cellsB
  have hc := rs.cs
  obtain ⟨a, cap, rfl, hsm⟩ := rs.sl
  simp only [List.length_map] at *
  cases a with
  | none =>
    have : xs = [] := by cases xs with | nil => rfl | cons x xs => simp at hsm
    subst this
    obtain ⟨rfl, _, _⟩ := hv.nil_inv
    simp [Extern.Bytes.bytesOf, u8s]; rfl
  | some a =>
    have hrd := hc.readN
    rw [Nat.mul_one] at hrd
    obtain ⟨a', cap', rfl, ha⟩ := hv.readable
    rcases ha with ha | h0
    · obtain ⟨l', h1, h2⟩ := R.readN xs.length ha hrd
      have : l' = xs.map (Value.int .u8) := VRs.flat_eq h1 (fun v hv v' hr => by
        simp at hv; obtain ⟨x, _, rfl⟩ := hv
        exact hr.int_inv)
      subst this
      have := run_loadBytes (P := P) w xs a' .empty fun j x hx => h2 j _ (by rw [List.getElem?_map, hx]; rfl)
      simp only [Extern.Bytes.bytesOf, this]
      congr 2
      simp
    · have : xs = [] := List.eq_nil_of_length_eq_zero h0
      subst this
      simp [Extern.Bytes.bytesOf, Extern.Bytes.loadBytes, u8s]; rfl

theorem run_compare {P : Program} (R : Rel W0 m h w) {a b a' b' : Value} {xs ys : List Int} (ha : RL isB h a xs) (hb : RL isB h b ys) (va : VR h.next m a a') (vb : VR h.next m b b') :
    (Extern.BytealgCompare.compare #[a', b']).run P w = .ok (.int .i64 (Lib.compareBytes (u8s xs) (u8s ys))) w := by
  change Sem.run P (do pure (goInt (Extern.BytealgCompare.cmp (← Extern.Bytes.bytesOf a') (← Extern.Bytes.bytesOf b')))) w = _
  simp only [Sem.run_bind, run_bytesOf R ha va, run_bytesOf R hb vb, Sem.run_pure, Result.andThen]
  rw [Lib.cmp_eq]
  rfl

end Go.Fw
/- Less, of rows of bytes. -/
namespace Go.Fw

def ltL : List Int → List Int → Prop
  | _, [] => False
  | [], _ :: _ => True
  | a :: x, b :: y => a < b ∨ (a = b ∧ ltL x y)

theorem ltL_nil : ∀ {x : List Int}, ¬ ltL x []
  | [] => id
  | _ :: _ => id

def okB (xs : List Int) : Prop := ∀ x ∈ xs, 0 ≤ x ∧ x < 256
theorem okB.cons {a : Int} {x : List Int} (h : okB (a :: x)) : (0 ≤ a ∧ a < 256) ∧ okB x := ⟨h a (by simp), fun y hy => h y (by simp [hy])⟩
theorem okB.append {x y : List Int} (h : okB x) (h' : okB y) : okB (x ++ y) := fun a ha => by
  rcases List.mem_append.1 ha with e | e
  · exact h a e
  · exact h' a e

theorem u8_lt {a b : Int} (ha : 0 ≤ a ∧ a < 256) (hb : 0 ≤ b ∧ b < 256) : a.toNat.toUInt8 < b.toNat.toUInt8 ↔ a < b := by
  rw [UInt8.lt_iff_toNat_lt]
  simp only [Nat.toUInt8, UInt8.toNat_ofNat']
  omega

theorem cmp_lt : ∀ {xs ys : List Int}, okB xs → okB ys → (ltL xs ys ∧ Lib.compareBytes (u8s xs) (u8s ys) = -1) ∨ (xs = ys ∧ Lib.compareBytes (u8s xs) (u8s ys) = 0) ∨ (ltL ys xs ∧ Lib.compareBytes (u8s xs) (u8s ys) = 1)
  | [], [], _, _ => .inr (.inl ⟨rfl, rfl⟩)
  | [], b :: y, _, _ => .inl ⟨trivial, rfl⟩
  | a :: x, [], _, _ => .inr (.inr ⟨trivial, rfl⟩)
  | a :: x, b :: y, hx, hy => by
    obtain ⟨ha, hx'⟩ := hx.cons
    obtain ⟨hb, hy'⟩ := hy.cons
    have e : Lib.compareBytes (u8s (a :: x)) (u8s (b :: y)) = if a < b then -1 else if b < a then 1 else Lib.compareBytes (u8s x) (u8s y) := by
      have h1 := u8_lt ha hb
      have h2 := u8_lt hb ha
      simp only [u8s, List.map_cons, Lib.compareBytes, h1, h2]
    rw [e]
    by_cases h1 : a < b
    · exact .inl ⟨.inl h1, by simp [h1]⟩
    · by_cases h2 : b < a
      · exact .inr (.inr ⟨.inl h2, by simp [h1, h2]⟩)
      · have hab : a = b := by omega
        subst hab
        simp only [h1, if_false]
        rcases cmp_lt hx' hy' with ⟨h, e⟩ | ⟨h, e⟩ | ⟨h, e⟩
        · exact .inl ⟨.inr ⟨rfl, h⟩, e⟩
        · exact .inr (.inl ⟨by rw [h], e⟩)
        · exact .inr (.inr ⟨.inr ⟨rfl, h⟩, e⟩)

theorem ltL_irrefl : ∀ x : List Int, ¬ ltL x x
  | [] => id
  | a :: x => fun h => by
    rcases h with h | ⟨_, h⟩
    · omega
    · exact ltL_irrefl x h
theorem ltL_trans : ∀ {x y z : List Int}, ltL x y → ltL y z → ltL x z
  | _, _, [], _, h => absurd h ltL_nil
  | _, [], _ :: _, h, _ => absurd h ltL_nil
  | [], _ :: _, _ :: _, _, _ => trivial
  | a :: x, b :: y, c :: z, h1, h2 => by
    rcases h1 with h1 | ⟨h1, h1'⟩ <;> rcases h2 with h2 | ⟨h2, h2'⟩
    · exact .inl (by omega)
    · exact .inl (by omega)
    · exact .inl (by omega)
    · exact .inr ⟨by omega, ltL_trans h1' h2'⟩
theorem ltL_asymm {x y : List Int} (h : ltL x y) (h' : ltL y x) : False := ltL_irrefl x (ltL_trans h h')
theorem ltL_total : ∀ (x y : List Int), ltL x y ∨ x = y ∨ ltL y x
  | [], [] => .inr (.inl rfl)
  | [], _ :: _ => .inl trivial
  | _ :: _, [] => .inr (.inr trivial)
  | a :: x, b :: y => by
    by_cases h1 : a < b
    · exact .inl (.inl h1)
    by_cases h2 : b < a
    · exact .inr (.inr (.inl h2))
    have : a = b := by omega
    subst this
    rcases ltL_total x y with h | h | h
    · exact .inl (.inr ⟨rfl, h⟩)
    · exact .inr (.inl (by rw [h]))
    · exact .inr (.inr (.inr ⟨rfl, h⟩))
theorem ltL_app : ∀ (c x y : List Int), ltL (c ++ x) (c ++ y) ↔ ltL x y
  | [], _, _ => Iff.rfl
  | a :: c, x, y => by
    have := ltL_app c x y
    simp [ltL, this]

/- all that begins so is less, or greater -/
def Below (c l : List Int) : Prop := ∀ e, ltL (c ++ e) l
def Above (c l : List Int) : Prop := ∀ e, ltL l (c ++ e)

theorem Below.append {c l : List Int} (b : Below c l) (x : List Int) : Below (c ++ x) l := fun e => by rw [List.append_assoc]; exact b _
theorem Above.append {c l : List Int} (b : Above c l) (x : List Int) : Above (c ++ x) l := fun e => by rw [List.append_assoc]; exact b _

theorem below_of_lt : ∀ {b s t : List Int}, ltL b s → s.length ≤ b.length → ∀ e, ltL (b ++ e) (s ++ t)
  | _, [], _, h, _, _ => absurd h ltL_nil
  | [], _ :: _, _, _, hl, _ => by simp at hl
  | a :: x, c :: y, t, h, hl, e => by
    rcases h with h | ⟨h, h'⟩
    · exact .inl h
    · exact .inr ⟨h, below_of_lt h' (by simpa using hl) e⟩
theorem above_of_lt : ∀ {b s t : List Int}, ltL s b → (t = [] ∨ s.length = b.length) → ∀ e, ltL (s ++ t) (b ++ e)
  | [], _, _, h, _, _ => absurd h ltL_nil
  | a :: x, [], t, _, hl, e => by
    have : t = [] := by simpa using hl
    subst this; trivial
  | a :: x, c :: y, t, h, hl, e => by
    rcases h with h | ⟨h, h'⟩
    · exact .inl h
    · exact .inr ⟨h, above_of_lt h' (by simpa using hl) e⟩

/- what is known of a code so far, beside a least one -/
def HeldOK (L : Option (List Int)) (C : List Int) : Bool → Prop
  | true => ∃ l, L = some l ∧ ∃ t, l = C ++ t
  | false => L = none ∨ ∃ l, L = some l ∧ Below C l

/- one more piece, compared -/
theorem held_step {l C xs : List Int} (hl : okB l) (hx : okB xs) (hp : ∃ t, l = C ++ t) :
    let s := (l.drop C.length).take (min l.length (C.length + xs.length) - C.length)
    let c := Lib.compareBytes (u8s xs) (u8s s)
    (c = 0 ∧ HeldOK (some l) (C ++ xs) true) ∨ (c = -1 ∧ HeldOK (some l) (C ++ xs) false) ∨ (c = 1 ∧ Above (C ++ xs) l) := by
  obtain ⟨t, rfl⟩ := hp
  have e1 : (C ++ t).drop C.length = t := by simp
  have e2 : min (C ++ t).length (C.length + xs.length) - C.length = min t.length xs.length := by simp
  simp only [e1, e2]
  have ht : okB t := fun x hx => hl x (by simp [hx])
  have hs : okB (t.take (min t.length xs.length)) := fun x hx => ht x (List.mem_of_mem_take hx)
  have hsl : (t.take (min t.length xs.length)).length = min t.length xs.length := by simp
  have hsplit : t = t.take (min t.length xs.length) ++ t.drop (min t.length xs.length) := (List.take_append_drop _ _).symm
  generalize hS : t.take (min t.length xs.length) = s at *
  generalize hT : t.drop (min t.length xs.length) = t' at *
  rcases cmp_lt hx hs with ⟨h, e⟩ | ⟨h, e⟩ | ⟨h, e⟩
  · refine .inr (.inl ⟨e, .inr ⟨_, rfl, fun e' => ?_⟩⟩)
    rw [List.append_assoc, ltL_app, hsplit]
    exact below_of_lt h (by omega) e'
  · refine .inl ⟨e, _, rfl, t', ?_⟩
    rw [hsplit, h, List.append_assoc]
  · refine .inr (.inr ⟨e, fun e' => ?_⟩)
    rw [List.append_assoc, ltL_app, hsplit]
    refine above_of_lt h ?_ e'
    by_cases hc : xs.length ≤ t.length
    · right; omega
    · left
      rw [← hT]
      exact List.drop_eq_nil_of_le (by omega)
end Go.Fw
