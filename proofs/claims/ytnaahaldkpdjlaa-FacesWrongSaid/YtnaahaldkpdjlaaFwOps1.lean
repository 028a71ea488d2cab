/- A text of the proof. -/
import Derived.Test.YtnaahaldkpdjlaaFwMem
import Derived.Laws.StructEq
set_option linter.unusedSimpArgs false
set_option linter.unusedVariables false
namespace Go.Fw
variable {W0 : Base} {m : CMap} {h : AHeap} {w : World}
def awrap (k : IntKind) (n : Int) : Int :=
 match k with
 | .i64 => if -9223372036854775808 ≤ n ∧ n ≤ 9223372036854775807 then n else IntKind.wrap .i64 n
 | .u8 => if 0 ≤ n ∧ n ≤ 255 then n else IntKind.wrap .u8 n
 | .u64 => if 0 ≤ n ∧ n ≤ 18446744073709551615 then n else IntKind.wrap .u64 n
 | k => k.wrap n
theorem awrap_eq (k : IntKind) (n : Int) : awrap k n = k.wrap n := by
 unfold awrap
 split
 ·split
  ·rename_i hn; simp [IntKind.wrap, IntKind.bits, IntKind.signed]; omega
  ·rfl
 ·split
  ·rename_i hn; simp [IntKind.wrap, IntKind.bits, IntKind.signed]; omega
  ·rfl
 ·split
  ·rename_i hn; simp [IntKind.wrap, IntKind.bits, IntKind.signed]; omega
  ·rfl
 ·rfl
theorem awrap_i64 (n : Int) (h1 : -9223372036854775808 ≤ n) (h2 : n ≤ 9223372036854775807) : awrap .i64 n = n := by simp [awrap, h1, h2]
def aInt (op : BinOp) (k : IntKind) (a b : Int) : Option Value :=
 match op with
 | .add => some (.int k (awrap k (a + b)))
 | .sub => some (.int k (awrap k (a - b)))
 | .mul => some (.int k (awrap k (a * b)))
 | .quo => if b = 0 then none else some (.int k (awrap k (a.tdiv b)))
 | .rem => if b = 0 then none else some (.int k (a.tmod b))
 | .and => some (.int k (k.wrap (BitVec.ofInt k.bits a &&& BitVec.ofInt k.bits b).toNat))
 | .or => some (.int k (k.wrap (BitVec.ofInt k.bits a ||| BitVec.ofInt k.bits b).toNat))
 | .xor => some (.int k (k.wrap (BitVec.ofInt k.bits a ^^^ BitVec.ofInt k.bits b).toNat))
 | .andNot => some (.int k (k.wrap (BitVec.ofInt k.bits a &&& ~~~BitVec.ofInt k.bits b).toNat))
 | .eql => some (.bool (a == b))
 | .neq => some (.bool (a != b))
 | .lss => some (.bool (a < b))
 | .leq => some (.bool (a ≤ b))
 | .gtr => some (.bool (b < a))
 | .geq => some (.bool (b ≤ a))
 | _ => none
def aShift (op : BinOp) (k : IntKind) (a b : Int) : Option Value :=
 if b < 0 then none else
 match op with
 | .shl => some (.int k (awrap k (a * 2 ^ min b.toNat k.bits)))
 | .shr => some (.int k (a.fdiv (2 ^ min b.toNat k.bits)))
 | _ => none
def aStr (op : BinOp) (a b : ByteArray) : Option Value :=
 match op with
 | .add => if ((a.size + b.size : Nat) : Int) > 9223372036854775807 then none else some (.string (a ++ b))
 | .eql => some (.bool (a.toList == b.toList))
 | .neq => some (.bool (!(a.toList == b.toList)))
 | .lss => some (.bool (Op.bytesLess a.toList b.toList))
 | .leq => some (.bool (Op.bytesLess a.toList b.toList || a.toList == b.toList))
 | .gtr => some (.bool (!(Op.bytesLess a.toList b.toList || a.toList == b.toList)))
 | .geq => some (.bool (!Op.bytesLess a.toList b.toList))
 | _ => none
def allInts : List Value → Option (List (IntKind × Int))
 | [] => some []
 | .int k n :: r => match allInts r with | some l => some ((k, n) :: l) | none => none
 | _ => none
def fieldsI (P : Program) : List Field → Nat → Bool
 | [], _ => true
 | f :: fs, i => f.name != "_" && f.offset == i && (match P.underlying f.type with | some (.int _) => true | _ => false) && fieldsI P fs (i + 1)
def aEq (P : Program) (t : TypeId) (x y : Value) : Option Bool :=
 match P.underlying t, x, y with
 | some .bool, .bool a, .bool b => some (a == b)
 | some (.slice _), .slice a _ _, .slice none _ _ => some a.isNone
 | some (.pointer _), .pointer a, .pointer none => some a.isNone
 | some (.map _ _), .map a, .map none => some a.isNone
 | some (.func _ _ _), .nilFunc, .nilFunc => some true
 | some (.func _ _ _), .func _ _ _, .nilFunc => some false
 | some (.array len e), .agg xs, .agg ys =>
  match P.underlying e, allInts xs.toList, allInts ys.toList with
  | some (.int _), some a, some b =>
   if tsize P e = 1 ∧ xs.size = len ∧ ys.size = len ∧ a.map (·.1) = b.map (·.1) then some (a == b) else none
  | _, _, _ => none
 | some (.struct fs), .agg xs, .agg ys =>
  match allInts xs.toList, allInts ys.toList with
  | some a, some b =>
   if fieldsI P fs.toList 0 = true ∧ P.stoodInHeld t = false ∧ xs.size = fs.size ∧ ys.size = fs.size ∧ a.map (·.1) = b.map (·.1) then some (a == b) else none
  | _, _ => none
 | _, _, _ => none
def abin (P : Program) (op : BinOp) (t : TypeId) (x y : Value) : Option Value :=
 match op, x, y with
 | .shl, .int k a, .int _ b => aShift .shl k a b
 | .shr, .int k a, .int _ b => aShift .shr k a b
 | op, .int k a, .int k' b => if k = k' then aInt op k a b else none
 | op, .string a, .string b => aStr op a b
 | .eql, x, y => match aEq P t x y with | some b => some (.bool b) | none => none
 | .neq, x, y => match aEq P t x y with | some b => some (.bool (!b)) | none => none
 | _, _, _ => none
theorem aShift_run (P : Program) (op : BinOp) (k : IntKind) (a : Int) (yk : IntKind) (b : Int) {v : Value} (e : aShift op k a b = some v) (w : World) :
  (Op.shift op k a yk b).run P w = .ok v w := by
 unfold aShift at e
 split at e
 ·cases e
 ·rename_i hb
  cases op <;> simp at e <;> subst e <;> simp [Op.shift, hb, awrap_eq]
theorem aShl_run (P : Program) (k : IntKind) (a : Int) (yk : IntKind) (b : Int) (t : TypeId) {v : Value} (e : aShift .shl k a b = some v) (w : World) :
  (binOp .shl t (.int k a) (.int yk b)).run P w = .ok v w := aShift_run P .shl k a yk b e w
theorem aShr_run (P : Program) (k : IntKind) (a : Int) (yk : IntKind) (b : Int) (t : TypeId) {v : Value} (e : aShift .shr k a b = some v) (w : World) :
  (binOp .shr t (.int k a) (.int yk b)).run P w = .ok v w := aShift_run P .shr k a yk b e w
theorem aInt_run (P : Program) (op : BinOp) (k : IntKind) (a b : Int) (t : TypeId) {v : Value} (e : aInt op k a b = some v) (w : World) :
    (binOp op t (.int k a) (.int k b)).run P w = .ok v w := by
  cases op <;> simp only [aInt] at e
  all_goals first
    | cases e; done
    | (injection e with e; subst e; simp [binOp, Op.intArith, Op.intBits, Op.intCmp, awrap_eq])
    | (split at e
       · cases e
       · rename_i hb; injection e with e; subst e; simp [binOp, Op.intDiv, hb, awrap_eq])
theorem aStr_run (P : Program) (op : BinOp) (a b : ByteArray) (t : TypeId) {v : Value} (e : aStr op a b = some v) (w : World) :
    (binOp op t (.string a) (.string b)).run P w = .ok v w := by
  cases op <;> simp only [aStr] at e
  all_goals first
    | cases e; done
    | (injection e with e; subst e; simp [binOp, Op.stringOp])
    | (split at e
       · cases e
       · rename_i hb; injection e with e; subst e
         have : ¬ ((a.size + b.size : Nat) : Int) > IntKind.i64.max := by simp [IntKind.max, IntKind.signed, IntKind.bits]; omega
         simp only [binOp, Op.stringOp, this, if_false, Sem.run_pure])
theorem allInts_spec : ∀ (l : List Value) (a : List (IntKind × Int)), allInts l = some a → l = a.map (fun p => Value.int p.1 p.2)
 | [], a, h => by simp [allInts] at h; subst h; rfl
 | v :: l, a, h => by
  cases v <;> simp only [allInts] at h <;> try cases h
  rename_i k n
  split at h
  ·rename_i r hr
   injection h with h; subst h
   simp [allInts_spec l r hr]
  ·cases h
theorem arr_eq_run (P : Program) (d : Nat) (t e : TypeId) (len : Nat) (k' : IntKind) (ht : P.underlying t = some (.array len e)) (he : P.underlying e = some (.int k')) (hs : tsize P e = 1)
  (a b : List (IntKind × Int)) (ha : a.length = len) (hb : b.length = len) (hk : a.map (·.1) = b.map (·.1)) (w : World) :
  (Op.equalIn (d + 2) t (.agg (a.map (fun p => Value.int p.1 p.2)).toArray) (.agg (b.map (fun p => Value.int p.1 p.2)).toArray)).run P w = .ok (a == b) w := by
 unfold Op.equalIn
 simp only [Sem.run_bind, run_underlying ht, Result.andThen_ok, run_sizeOf_of he, hs, Std.Legacy.Range.forIn_eq_forIn_range', Std.Legacy.Range.size]
 have key : ∀ (n s : Nat), s + n = len → (forIn (m := Sem) (List.range' s n) ((none : Option Bool), PUnit.unit) fun i __s => do
   let __do_lift ← part e (a.map (fun p => Value.int p.1 p.2)).toArray (i * 1)
   let __do_lift_1 ← part e (b.map (fun p => Value.int p.1 p.2)).toArray (i * 1)
   let __do_lift ← Op.equalIn (d + 1) e __do_lift __do_lift_1
   if (!__do_lift) = true then pure (ForInStep.done (some false, PUnit.unit)) else pure (ForInStep.yield (none, PUnit.unit))).run P w
   = .ok (if a.drop s == b.drop s then (none, PUnit.unit) else (some false, PUnit.unit)) w := by
  intro n
  induction n with
  | zero =>
   intro s hsn
   have h1 : a.drop s = [] := List.drop_eq_nil_of_le (by omega)
   have h2 : b.drop s = [] := List.drop_eq_nil_of_le (by omega)
   simp [h1, h2]
  | succ n ih =>
   intro s hsn
   have la : s < a.length := by omega
   have lb : s < b.length := by omega
   have hkind : a[s].1 = b[s].1 := by
    have := congrArg (fun l => l[s]?) hk
    simpa [List.getElem?_map, List.getElem?_eq_getElem la, List.getElem?_eq_getElem lb] using this
   have hpa : ∀ w, (part e (a.map (fun p => Value.int p.1 p.2)).toArray s).run P w = .ok (.int a[s].1 a[s].2) w := by
    intro w; simp [part, run_isAgg_of he, isAggD, la]
   have hpb : ∀ w, (part e (b.map (fun p => Value.int p.1 p.2)).toArray s).run P w = .ok (.int b[s].1 b[s].2) w := by
    intro w; simp [part, run_isAgg_of he, isAggD, lb]
   have heq : ∀ w, (Op.equalIn (d + 1) e (.int a[s].1 a[s].2) (.int b[s].1 b[s].2)).run P w = .ok (a[s].2 == b[s].2) w := by
    intro w; rw [hkind]; exact run_equalIn_int w d e _ k' _ _ he
   have hda : a.drop s = a[s] :: a.drop (s + 1) := (List.drop_eq_getElem_cons la)
   have hdb : b.drop s = b[s] :: b.drop (s + 1) := (List.drop_eq_getElem_cons lb)
   have hpair : (a[s] == b[s]) = (a[s].2 == b[s].2) := by
    have : ∀ p q : IntKind × Int, p.1 = q.1 → (p == q) = (p.2 == q.2) := by
     intro p q hpq
     rw [Bool.eq_iff_iff]; simp [Prod.ext_iff, hpq]
    exact this _ _ hkind
   simp only [List.range'_succ, List.forIn_cons, Sem.run_bind, Nat.mul_one, hpa, hpb, heq, Result.andThen_ok]
   cases hv : a[s].2 == b[s].2 with
   | false =>
    have hne : (a.drop s == b.drop s) = false := by rw [hda, hdb, List.cons_beq_cons, hpair, hv]; rfl
    simp [hne]
   | true =>
    have hne : (a.drop s == b.drop s) = (a.drop (s + 1) == b.drop (s + 1)) := by rw [hda, hdb, List.cons_beq_cons, hpair, hv]; rfl
    have := ih (s + 1) (by omega)
    simp only [Nat.mul_one] at this
    simp only [Bool.not_true, Bool.false_eq_true, if_false, Sem.run_pure, Result.andThen_ok, hne]
    exact this
 have hk0 := key len 0 (by omega)
 simp only [List.drop_zero] at hk0
 rw [show ((len - 0 + 1 - 1) / 1) = len from by omega]
 rw [hk0]
 cases a == b <;> simp
theorem eqGuardType_arr (P : Program) (t e : TypeId) (len : Nat) (k' : IntKind) (ht : P.underlying t = some (.array len e)) (he : P.underlying e = some (.int k')) : P.eqGuardType P.depth t = false := by
 have : ∃ d, P.depth = d + 2 := ⟨_, rfl⟩
 obtain ⟨d, hd⟩ := this
 rw [hd]
 simp [Program.eqGuardType, ht, he]
theorem fieldsI_run (P : Program) (d : Nat) (a b : List (IntKind × Int)) (hk : a.map (·.1) = b.map (·.1)) : ∀ (fs : List Field) (s : Nat), fieldsI P fs s = true → s + fs.length = a.length → ∀ w,
  (Op.eqFields (d + 1) (a.map (fun p => Value.int p.1 p.2)).toArray (b.map (fun p => Value.int p.1 p.2)).toArray fs).run P w = .ok (a.drop s == b.drop s) w
 | [], s, _, hl, w => by
  have hb : a.length = b.length := by have := congrArg List.length hk; simpa using this
  have h1 : a.drop s = [] := List.drop_eq_nil_of_le (by simp at hl; omega)
  have h2 : b.drop s = [] := List.drop_eq_nil_of_le (by simp at hl; omega)
  simp [Op.eqFields, h1, h2]
 | f :: fs, s, hf, hl, w => by
  have hb : a.length = b.length := by have := congrArg List.length hk; simpa using this
  have la : s < a.length := by simp at hl; omega
  have lb : s < b.length := by omega
  simp only [fieldsI, Bool.and_eq_true, bne_iff_ne, ne_eq, beq_iff_eq] at hf
  obtain ⟨⟨⟨hn, ho⟩, hu⟩, hr⟩ := hf
  split at hu
  ·rename_i k' he
   have hkind : a[s].1 = b[s].1 := by
    have := congrArg (fun l => l[s]?) hk
    simpa [List.getElem?_map, List.getElem?_eq_getElem la, List.getElem?_eq_getElem lb] using this
   have hpa : ∀ w, (part f.type (a.map (fun p => Value.int p.1 p.2)).toArray s).run P w = .ok (.int a[s].1 a[s].2) w := by
    intro w; simp [part, run_isAgg_of he, isAggD, la]
   have hpb : ∀ w, (part f.type (b.map (fun p => Value.int p.1 p.2)).toArray s).run P w = .ok (.int b[s].1 b[s].2) w := by
    intro w; simp [part, run_isAgg_of he, isAggD, lb]
   have heq : ∀ w, (Op.equalIn (d + 1) f.type (.int a[s].1 a[s].2) (.int b[s].1 b[s].2)).run P w = .ok (a[s].2 == b[s].2) w := by
    intro w; rw [hkind]; exact run_equalIn_int w d f.type _ k' _ _ he
   have hda : a.drop s = a[s] :: a.drop (s + 1) := (List.drop_eq_getElem_cons la)
   have hdb : b.drop s = b[s] :: b.drop (s + 1) := (List.drop_eq_getElem_cons lb)
   have hpair : (a[s] == b[s]) = (a[s].2 == b[s].2) := by
    have : ∀ p q : IntKind × Int, p.1 = q.1 → (p == q) = (p.2 == q.2) := by
     intro p q hpq
     rw [Bool.eq_iff_iff]; simp [Prod.ext_iff, hpq]
    exact this _ _ hkind
   have ih := fieldsI_run P d a b hk fs (s + 1) hr (by simp at hl ⊢; omega)
   simp only [Op.eqFields, hn, ne_eq, not_false_eq_true, if_true, Sem.run_bind, ho, hpa, hpb, heq, Result.andThen_ok, ih]
   cases hv : a[s].2 == b[s].2 with
   | false =>
    have hne : (a.drop s == b.drop s) = false := by rw [hda, hdb, List.cons_beq_cons, hpair, hv]; rfl
    simp [hne]
   | true =>
    have hne : (a.drop s == b.drop s) = (a.drop (s + 1) == b.drop (s + 1)) := by rw [hda, hdb, List.cons_beq_cons, hpair, hv]; rfl
    simp [hne, ih]
  ·cases hu
theorem struct_eq_run (P : Program) (d : Nat) (t : TypeId) (fs : Array Field) (ht : P.underlying t = some (.struct fs)) (hf : fieldsI P fs.toList 0 = true) (hp : P.stoodInHeld t = false)
  (a b : List (IntKind × Int)) (ha : a.length = fs.size) (hk : a.map (·.1) = b.map (·.1)) (w : World) :
  (Op.equalIn (d + 2) t (.agg (a.map (fun p => Value.int p.1 p.2)).toArray) (.agg (b.map (fun p => Value.int p.1 p.2)).toArray)).run P w = .ok (a == b) w := by
 have hfo : P.fieldsOf t = fs := by simp [Program.fieldsOf, ht]
 rw [run_equalIn_struct w (d + 1) t _ _ (by rw [hfo]; exact ht) hp, hfo]
 have := fieldsI_run P d a b hk fs.toList 0 hf (by simp [ha]) w
 simpa using this
theorem eqGuardType_struct (P : Program) (t : TypeId) (fs : Array Field) (ht : P.underlying t = some (.struct fs)) (hf : fieldsI P fs.toList 0 = true) : P.eqGuardType P.depth t = false := by
 have : ∃ d, P.depth = d + 2 := ⟨_, rfl⟩
 obtain ⟨d, hd⟩ := this
 rw [hd]
 simp only [Program.eqGuardType, ht]
 rw [← Array.any_toList]
 have key : ∀ (l : List Field) (i : Nat), fieldsI P l i = true → (l.any fun f => f.name != "_" && Program.eqGuardType P (d + 1) f.type) = false := by
  intro l
  induction l with
  | nil => intro i _; rfl
  | cons f l ih =>
   intro i h
   simp only [fieldsI, Bool.and_eq_true] at h
   obtain ⟨⟨_, hu⟩, hr⟩ := h
   split at hu
   ·rename_i k he
    have hh : Program.eqGuardType P (d + 1) f.type = false := by simp only [Program.eqGuardType, he]
    rw [List.any_cons, ih _ hr, hh]; simp
   ·cases hu
 exact key _ 0 hf
theorem equal_succ (t : TypeId) (x y : Value) : Op.equal t x y = Op.equalIn (9998 + 1 + 1) t x y := rfl
theorem aEq_run (P : Program) (t : TypeId) (x y : Value) {r : Bool} (e : aEq P t x y = some r) (w : World) : (Op.equal t x y).run P w = .ok r w := by
 unfold aEq at e
 split at e <;> (try cases e)
 ·rename_i hu; exact run_equal_bool w t _ _ hu
 ·rename_i a _ _ _ _ hu; rw [equal_succ]; unfold Op.equalIn; cases a <;> simp only [Sem.run_bind, run_underlying hu, Result.andThen_ok, Sem.run_pure] <;> rfl
 ·rename_i a hu; rw [equal_succ]; unfold Op.equalIn; cases a <;> simp only [Sem.run_bind, run_underlying hu, Result.andThen_ok, Sem.run_pure] <;> rfl
 ·rename_i a hu; rw [equal_succ]; unfold Op.equalIn; cases a <;> simp only [Sem.run_bind, run_underlying hu, Result.andThen_ok, Sem.run_pure] <;> rfl
 ·rename_i hu; rw [equal_succ]; unfold Op.equalIn; simp only [Sem.run_bind, run_underlying hu, Result.andThen_ok, Sem.run_pure]
 ·rename_i hu; rw [equal_succ]; unfold Op.equalIn; simp only [Sem.run_bind, run_underlying hu, Result.andThen_ok, Sem.run_pure]
 ·rename_i len el xs ys hu
  split at e
  ·rename_i k a b he ha hb
   split at e
   ·rename_i hc
    obtain ⟨h1, h2, h3, h4⟩ := hc
    injection e with e; subst e
    have hxs := allInts_spec _ _ ha
    have hys := allInts_spec _ _ hb
    have ex : xs = (a.map (fun p => Value.int p.1 p.2)).toArray := by rw [← hxs]
    have ey : ys = (b.map (fun p => Value.int p.1 p.2)).toArray := by rw [← hys]
    subst ex; subst ey
    exact arr_eq_run P 9998 t el len k hu he h1 a b (by simpa using h2) (by simpa using h3) h4 w
   ·cases e
  ·cases e
 ·rename_i fs xs ys hu
  split at e
  ·rename_i a b ha hb
   split at e
   ·rename_i hc
    obtain ⟨h1, h2, h3, _, h4⟩ := hc
    injection e with e; subst e
    have hxs := allInts_spec _ _ ha
    have hys := allInts_spec _ _ hb
    have ex : xs = (a.map (fun p => Value.int p.1 p.2)).toArray := by rw [← hxs]
    have ey : ys = (b.map (fun p => Value.int p.1 p.2)).toArray := by rw [← hys]
    subst ex; subst ey
    exact struct_eq_run P 9998 t fs hu h1 h2 a b (by simpa using h3) h4 w
   ·cases e
  ·cases e
theorem aEq_rel {n : Nat} {m : CMap} {P : Program} {t : TypeId} {x y x' y' : Value} {r : Bool} (hx : VR n m x x') (hy : VR n m y y') (e : aEq P t x y = some r) : aEq P t x' y' = some r := by
 have hints : ∀ {n : Nat} {m : CMap} (l l' : List Value), VRs n m l l' → ∀ a, allInts l = some a → allInts l' = some a := by
  intro n m l
  induction l with
  | nil => intro l' h a ha; have : l' = [] := List.eq_nil_of_length_eq_zero (by rw [← h.1]; rfl); subst this; exact ha
  | cons v l ih =>
   intro l' h a ha
   cases l' with
   | nil => simp [VRs] at h
   | cons v' l' =>
    have hv : VR n m v v' := h.2 0 v v' rfl rfl
    have hl : VRs n m l l' := by simpa using h.drop 1
    cases v <;> simp only [allInts] at ha <;> try cases ha
    split at ha
    ·rename_i r hr
     cases hv
     simp only [allInts, ih l' hl r hr]; exact ha
    ·cases ha
 unfold aEq at e
 split at e
 ·cases hx; cases hy; rename_i h1 h2 h3; simp_all [aEq]
 ·rename_i hu; cases hy with | flat hf => cases hx <;> simp_all [aEq]
 ·rename_i hu; cases hy with | flat hf => cases hx <;> simp_all [aEq]
 ·rename_i hu; cases hy with | flat hf => cases hx <;> simp_all [aEq]
 ·rename_i hu; cases hx; cases hy; simp_all [aEq]
 ·rename_i hu; cases hy; cases hx <;> simp_all [aEq]
 ·rename_i len el xs ys hu
  split at e
  ·rename_i k a b he ha hb
   split at e
   ·rename_i hc
    cases hx with
    | flat hf => simp [Fw.flat] at hf
    | agg hsx hx =>
     cases hy with
     | flat hf => simp [Fw.flat] at hf
     | agg hsy hy =>
      rename_i xs' ys'
      have ha' := hints xs.toList xs'.toList ⟨by simpa using hsx, fun i v v' e e' => hx i v v' (by simpa using e) (by simpa using e')⟩ a ha
      have hb' := hints ys.toList ys'.toList ⟨by simpa using hsy, fun i v v' e e' => hy i v v' (by simpa using e) (by simpa using e')⟩ b hb
      simp only [aEq, hu, he, ha', hb', ← hsx, ← hsy, hc, and_self, if_true]
      exact e
   ·cases e
  ·cases e
 ·rename_i fs xs ys hu
  split at e
  ·rename_i a b ha hb
   split at e
   ·rename_i hc
    cases hx with
    | flat hf => simp [Fw.flat] at hf
    | agg hsx hx =>
     cases hy with
     | flat hf => simp [Fw.flat] at hf
     | agg hsy hy =>
      rename_i xs' ys'
      have ha' := hints xs.toList xs'.toList ⟨by simpa using hsx, fun i v v' e e' => hx i v v' (by simpa using e) (by simpa using e')⟩ a ha
      have hb' := hints ys.toList ys'.toList ⟨by simpa using hsy, fun i v v' e e' => hy i v v' (by simpa using e) (by simpa using e')⟩ b hb
      simp only [aEq, hu, ha', hb', ← hsx, ← hsy, hc, and_self, if_true]
      exact e
   ·cases e
  ·cases e
 ·cases e
theorem eqGuard_run (P : Program) (op : BinOp) (t : TypeId) (x y : Operand) (a b : Value) (w : World) (hne : ¬ (a = .nilIface ∧ b = .nilIface)) (hagg : ∀ xs ys, a = .agg xs → b = .agg ys → P.eqGuardType P.depth t = false) :
  (eqGuard op t x y a b).run P w = .ok () w := by
 by_cases hop : (!(op matches .eql | .neq)) = true
 ·cases op <;> first | (simp [eqGuard]; done) | (exact absurd hop (by simp))
 ·cases a with
  | nilIface => cases b <;> first | (exact absurd ⟨rfl, rfl⟩ hne) | (cases op <;> simp [eqGuard])
  | agg xs =>
   cases b with
   | agg ys => exact run_eqGuard_agg w op t x y xs ys (hagg xs ys rfl rfl)
   | _ => cases op <;> simp [eqGuard]
  | _ => cases op <;> simp [eqGuard]
def guardFree : Value → Bool
 | .nilIface => false
 | _ => true
def abinG (P : Program) (op : BinOp) (t : TypeId) (x y : Value) : Option Value := bif guardFree x then abin P op t x y else none
theorem abin_rel {n : Nat} {m : CMap} {P : Program} {op : BinOp} {t : TypeId} {x y x' y' v : Value} (hx : VR n m x x') (hy : VR n m y y') (e : abin P op t x y = some v) :
    flat v = true ∧ (∀ w, (binOp op t x' y').run P w = .ok v w) := by
  unfold abin at e
  split at e
  · cases hx; cases hy
    refine ⟨?_, fun w => ?_⟩; rotate_left
    · exact aShl_run P _ _ _ _ t e w
    unfold aShift at e; split at e
    · cases e
    · simp at e; subst e; rfl
  · cases hx; cases hy
    refine ⟨?_, fun w => ?_⟩; rotate_left
    · exact aShr_run P _ _ _ _ t e w
    unfold aShift at e; split at e
    · cases e
    · simp at e; subst e; rfl
  · split at e
    · rename_i k a k' b _ _ hk
      subst hk
      cases hx; cases hy
      refine ⟨?_, fun w => aInt_run P _ _ _ _ t e w⟩
      cases op <;> simp only [aInt] at e
      all_goals first
        | cases e; done
        | (injection e with e; subst e; rfl)
        | (split at e
           · cases e
           · injection e with e; subst e; rfl)
    · cases e
  · cases hx; cases hy
    refine ⟨?_, fun w => aStr_run P _ _ _ t e w⟩
    cases op <;> simp only [aStr] at e
    all_goals first
      | cases e; done
      | (injection e with e; subst e; rfl)
      | (split at e
         · cases e
         · injection e with e; subst e; rfl)
  · split at e
    · rename_i b hb
      injection e with e; subst e
      refine ⟨rfl, fun w => ?_⟩
      have h1 := aEq_run P t x' y' (aEq_rel hx hy hb) w
      have h2 := aEq_rel hx hy hb
      have : binOp .eql t x' y' = (do pure (.bool (← Op.equal t x' y'))) := by
        unfold aEq at h2
        split at h2 <;> first | rfl | cases h2
      rw [this]; simp [h1]
    · cases e
  · split at e
    · rename_i b hb
      injection e with e; subst e
      refine ⟨rfl, fun w => ?_⟩
      have h1 := aEq_run P t x' y' (aEq_rel hx hy hb) w
      have h2 := aEq_rel hx hy hb
      have : binOp .neq t x' y' = (do pure (.bool (!(← Op.equal t x' y')))) := by
        unfold aEq at h2
        split at h2 <;> first | rfl | cases h2
      rw [this]; simp [h1]
    · cases e
  · cases e
end Go.Fw
