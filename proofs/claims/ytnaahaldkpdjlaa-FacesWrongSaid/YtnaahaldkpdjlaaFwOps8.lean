/- A text of the proof. -/
import Derived.Test.YtnaahaldkpdjlaaFwOps7
set_option linter.unusedSimpArgs false
set_option linter.unusedVariables false
namespace Go.Fw
variable {W0 : Base} {m : CMap} {h : AHeap} {w : World}
def keyArr (P : Program) (kt : TypeId) (x : Value) : Bool :=
  match P.underlying kt, x with
  | some (.array len e), .agg xs => match P.underlying e, allInts xs.toList with
    | some (.int _), some _ => tsize P e == 1 && xs.size == len
    | _, _ => false
  | _, _ => false
def afind (P : Program) (kt : TypeId) (key : Value) : List (Value × Value) → Nat → Option (Option (Nat × Value))
  | [], _ => some none
  | (k, v) :: r, i => match aEq P kt key k with
    | some true => some (some (i, v))
    | some false => afind P kt key r (i + 1)
    | none => none
def aLookupA (P : Program) (h : AHeap) (t : TypeId) (x i : Value) (ok : Bool) : Option Value :=
 match P.underlying t, x with
 | some (.map kt et), .map (some r) =>
  if keyArr P kt i then
   match h.own r, azero P et with
   | some (.map es), some z0 =>
    match afind P kt i es 0 with
    | some (some (_, v)) => some (bif ok then .tuple #[v, .bool true] else v)
    | some none => if flat z0 then some (bif ok then .tuple #[z0, .bool false] else z0) else none
    | none => none
   | _, _ => none
  else none
 | _, _ => none
def aMapSetA (P : Program) (h : AHeap) (t : TypeId) (x i v : Value) : Option AHeap :=
 match P.underlying t, x with
 | some (.map kt _), .map (some r) =>
  if keyArr P kt i then
   match h.own r with
   | some (.map es) =>
    match afind P kt i es 0 with
    | some (some (j, _)) => some (h.put r (.map (es.set j (i, v))))
    | some none => some (h.put r (.map (es ++ [(i, v)])))
    | none => none
   | _ => none
  else none
 | _, _ => none
theorem ints_rel {n : Nat} {m : CMap} : ∀ {l l' : List Value} {a : List (IntKind × Int)}, VRs n m l l' → allInts l = some a → l' = l
 | [], l', a, h, _ => by
  have : l' = [] := List.eq_nil_of_length_eq_zero (by rw [← h.1]; rfl)
  rw [this]
 | v :: l, [], a, h, ha => by simp [VRs] at h
 | v :: l, v' :: l', a, h, ha => by
  have hv : VR n m v v' := h.2 0 v v' rfl rfl
  have hl : VRs n m l l' := by simpa using h.drop 1
  cases v <;> simp only [allInts] at ha <;> try cases ha
  split at ha
  ·rename_i r hr
   have := hv.int_inv
   subst this
   rw [ints_rel hl hr]
  ·cases ha
theorem keyArr_inv {P : Program} {kt : TypeId} {x : Value} (hk : keyArr P kt x = true) :
  ∃ len e k xs a, P.underlying kt = some (.array len e) ∧ x = .agg xs ∧ P.underlying e = some (.int k) ∧ allInts xs.toList = some a ∧ tsize P e = 1 ∧ xs.size = len := by
 unfold keyArr at hk
 split at hk
 ·rename_i len e xs hu
  split at hk
  ·rename_i k a he ha
   simp only [Bool.and_eq_true, beq_iff_eq] at hk
   exact ⟨len, e, k, xs, a, hu, rfl, he, ha, hk.1, hk.2⟩
  ·cases hk
 ·cases hk
theorem VR.agg_inv' {n : Nat} {m : CMap} {xs : Array Value} {v' : Value} (h : VR n m (.agg xs) v') : ∃ xs', v' = .agg xs' ∧ VRs n m xs.toList xs'.toList := by
 cases h with
 | flat hf => simp [Fw.flat] at hf
 | agg ha h => exact ⟨_, rfl, by simpa using ha, fun i v v' e e' => h i v v' (by simpa using e) (by simpa using e')⟩
theorem keyArr_eq {P : Program} {kt : TypeId} {x x' : Value} {n : Nat} {m : CMap} (hk : keyArr P kt x = true) (hx : VR n m x x') : x' = x := by
 obtain ⟨len, e, k, xs, a, _, rfl, _, ha, _⟩ := keyArr_inv hk
 obtain ⟨xs', rfl, hr⟩ := hx.agg_inv'
 have := ints_rel hr ha
 rw [Array.toList_inj] at this
 rw [this]
theorem forIn_unit {P : Program} (f : Nat → Sem (ForInStep PUnit)) : ∀ (n s : Nat) (w : World), (∀ i w, s ≤ i → i < s + n → (f i).run P w = .ok (.yield PUnit.unit) w) → (forIn (m := Sem) (List.range' s n) PUnit.unit fun i _ => f i).run P w = .ok PUnit.unit w
 | 0, s, w, _ => by simp
 | n + 1, s, w, hf => by
  rw [List.range'_succ]
  simp only [List.forIn_cons, Sem.run_bind, hf s w (Nat.le_refl _) (by omega), Result.andThen_ok]
  exact forIn_unit f n (s + 1) w fun i w h1 h2 => hf i w (by omega) (by omega)
theorem allInts_at : ∀ {l : List Value} {a : List (IntKind × Int)}, allInts l = some a → ∀ i, i < l.length → ∃ k z, l[i]? = some (.int k z)
 | [], _, _, i, hi => absurd hi (by simp)
 | v :: l, a, ha, i, hi => by
  cases v <;> simp only [allInts] at ha <;> try cases ha
  split at ha
  ·rename_i k z _ r hr
   cases i with
   | zero => exact ⟨_, _, rfl⟩
   | succ i => simpa using allInts_at hr i (by simpa using hi)
  ·cases ha
theorem checkKey_arr {P : Program} {kt : TypeId} {x : Value} (hk : keyArr P kt x = true) (b : Bool) (n : Nat) (w : World) : (Instr.checkKey b (n + 2) kt x).run P w = .ok () w := by
 obtain ⟨len, e, k, xs, a, hu, rfl, he, ha, hs, hl⟩ := keyArr_inv hk
 unfold Instr.checkKey
 rw [Sem.run_bind, run_underlying hu]
 simp only [Result.andThen_ok, Std.Legacy.Range.forIn_eq_forIn_range', Std.Legacy.Range.size]
 rw [Sem.run_bind, forIn_unit (P := P) _ _ 0 w fun i w h1 h2 => ?_]
 ·simp
 ·have hil : i < xs.toList.length := by simp; omega
  obtain ⟨k', z, hi⟩ := allInts_at ha i hil
  have hpa : ∀ w, (part e xs i).run P w = .ok (.int k' z) w := fun w => by
   have : xs[i]? = some (.int k' z) := by simpa using hi
   simp [part, run_isAgg_of he, isAggD, this]
  simp only [Sem.run_bind, run_sizeOf_of he, hs, Nat.mul_one, hpa, checkKey_int he, Result.andThen_ok, Sem.run_pure]
theorem afind_rel {P : Program} {n : Nat} {m : CMap} {kt : TypeId} {key : Value} (hkey : VR n m key key) : ∀ (es : List (Value × Value)) (E : List MapEntry) (i : Nat) (w : World), VRs n m (es.map (·.1)) (E.map (·.key)) → VRs n m (es.map (·.2)) (E.map (·.val)) → ∀ r, afind P kt key es i = some r →
  (r = none ∧ (Instr.findAsking kt key E i).run P w = .ok none w) ∨ ∃ j v v', r = some (j, v) ∧ (Instr.findAsking kt key E i).run P w = .ok (some (j, v')) w ∧ VR n m v v' ∧ i ≤ j ∧ ∃ k' k2, (es[j - i]?).map (·.1) = some k' ∧ (E[j - i]?).map (·.key) = some k2 ∧ VR n m k' k2 ∧ aEq P kt key k' = some true
 | [], E, i, w, hk, hv, r, e => by
  have : E = [] := by
   have := hk.1; simp at this; exact List.eq_nil_of_length_eq_zero this.symm
  subst this
  simp [afind] at e; subst e
  exact .inl ⟨rfl, by simp [Instr.findAsking]⟩
 | (a, v) :: es, [], i, w, hk, hv, r, e => by simp [VRs] at hk
 | (a, v) :: es, en :: E, i, w, hk, hv, r, e => by
  have h1 : VR n m a en.key := hk.2 0 _ _ rfl rfl
  have h2 : VR n m v en.val := hv.2 0 _ _ rfl rfl
  have hk' : VRs n m (es.map (·.1)) (E.map (·.key)) := by simpa using hk.drop 1
  have hv' : VRs n m (es.map (·.2)) (E.map (·.val)) := by simpa using hv.drop 1
  simp only [afind] at e
  split at e
  ·rename_i ha
   injection e with e; subst e
   have := aEq_run P kt key en.key (aEq_rel hkey h1 ha) w
   refine .inr ⟨i, v, en.val, rfl, ?_, h2, Nat.le_refl _, a, en.key, by simp, by simp, h1, ha⟩
   unfold Instr.findAsking
   simp only [Sem.run_bind, this, Result.andThen_ok, if_true, Sem.run_pure]
  ·rename_i ha
   have := aEq_run P kt key en.key (aEq_rel hkey h1 ha) w
   have hs : (Instr.findAsking kt key (en :: E) i).run P w = (Instr.findAsking kt key E (i + 1)).run P w := by
    conv => lhs; unfold Instr.findAsking
    simp only [Sem.run_bind, this, Result.andThen_ok, Bool.false_eq_true, if_false]
   rcases afind_rel hkey es E (i + 1) w hk' hv' r e with ⟨q1, q2⟩ | ⟨j, u, u', q1, q2, q3, q4, k', k2, q5, q6, q7⟩
   ·exact .inl ⟨q1, hs.trans q2⟩
   ·refine .inr ⟨j, u, u', q1, hs.trans q2, q3, by omega, k', k2, ?_, ?_, q7⟩
    ·rw [show j - i = (j - (i + 1)) + 1 by omega]; simpa using q5
    ·rw [show j - i = (j - (i + 1)) + 1 by omega]; simpa using q6
  ·cases e
theorem findKey_arr {P : Program} {kt : TypeId} {key : Value} (hk : keyArr P kt key = true) (E : List MapEntry) (w : World) : (Instr.findKey kt key E).run P w = (Instr.findAsking kt key E).run P w := by
 obtain ⟨len, e, k, xs, a, hu, rfl, he, ha, hs, hl⟩ := keyArr_inv hk
 unfold Instr.findKey
 rw [Sem.run_bind, run_underlying hu]
 simp only [Result.andThen_ok]
 cases E with
 | nil => simp [Instr.findNow, Instr.findAsking]
 | cons en E => simp [Instr.findNow, Instr.sameNow]
theorem allInts_flat {n : Nat} {m : CMap} : ∀ {l : List Value} {a : List (IntKind × Int)}, allInts l = some a → VRs n m l l
 | [], _, _ => .nil _ _
 | v :: l, a, ha => by
  cases v <;> simp only [allInts] at ha <;> try cases ha
  split at ha
  ·rename_i r hr
   exact .cons (.flat rfl) (allInts_flat hr)
  ·cases ha
theorem keyArr_self {P : Program} {kt : TypeId} {x : Value} {n : Nat} {m : CMap} (hk : keyArr P kt x = true) : VR n m x x := by
 obtain ⟨len, e, k, xs, a, _, rfl, _, ha, _⟩ := keyArr_inv hk
 exact VR.agg_list (allInts_flat ha)
theorem aLookupA_rel {P : Program} (R : Rel W0 m h w) {t : TypeId} {x i x' i' v : Value} {ok : Bool} (hx : VR h.next m x x') (hi : VR h.next m i i') (e : aLookupA P h t x i ok = some v) :
  ∃ v', (Instr.lookup t x' i' ok).run P w = .ok v' w ∧ VR h.next m v v' := by
 unfold aLookupA at e
 split at e
 ·rename_i kt et r hu
  split at e
  ·rename_i hka
   split at e
   ·rename_i es z0 ho hz
    have := keyArr_eq hka hi
    subst this
    cases hx with
    | flat hf => simp [Fw.flat] at hf
    | map hr =>
     obtain ⟨E, clock, _, h1, h2, h3⟩ := R.getMap (P := P) ho
     have hrun : (Instr.lookup t (.map (some (m r).blk)) i' ok).run P w = ((do
       let (v, o) ← match ← Instr.findAsking kt i' E.toList with
        | some (_, v) => pure (v, true)
        | none => pure (← zeroValue et, false)
       pure (if ok then .tuple #[v, .bool o] else v) : Sem Value)).run P w := by
      unfold Instr.lookup
      simp only [Sem.run_bind, run_underlying hu, Result.andThen_ok, h1, Sem.run_pure]
      rw [checkKey_arr hka]
      simp only [Result.andThen_ok, findKey_arr hka]
      rfl
     split at e
     ·rename_i j u hf
      injection e with e; subst e
      rcases afind_rel (keyArr_self hka) es E.toList 0 w h2 h3 _ hf with ⟨q, _⟩ | ⟨j', u1, u', q1, q2, q3, _⟩
      ·cases q
      ·injection q1 with q1; simp only [Prod.mk.injEq] at q1; obtain ⟨rfl, rfl⟩ := q1
       refine ⟨if ok then .tuple #[u', .bool true] else u', ?_, ?_⟩
       ·rw [hrun]
        simp only [Sem.run_bind, q2, Result.andThen_ok, Sem.run_pure]
       ·cases ok
        ·exact q3
        ·exact .tuple_list (.cons q3 (.cons (.flat rfl) (.nil _ _)))
     ·rename_i hf
      split at e
      ·rename_i hfl
       injection e with e; subst e
       rcases afind_rel (keyArr_self hka) es E.toList 0 w h2 h3 _ hf with ⟨_, q⟩ | ⟨j', u1, u', q1, _⟩
       ·refine ⟨if ok then .tuple #[z0, .bool false] else z0, ?_, ?_⟩
        ·rw [hrun]
         simp only [Sem.run_bind, q, Result.andThen_ok, Sem.run_pure, run_zero_of hz]
        ·cases ok
         ·exact .flat hfl
         ·exact .tuple_list (.cons (.flat hfl) (.cons (.flat rfl) (.nil _ _)))
       ·cases q1
      ·cases e
     ·cases e
   ·cases e
  ·cases e
 ·cases e
theorem allInts_inj : ∀ {l l' : List Value} {a : List (IntKind × Int)}, allInts l = some a → allInts l' = some a → l = l'
 | [], [], _, _, _ => rfl
 | [], v :: l', a, h, h' => by
  simp only [allInts, Option.some.injEq] at h; subst h
  cases v <;> simp only [allInts] at h' <;> try cases h'
  split at h' <;> simp at h'
 | v :: l, [], a, h, h' => by
  simp only [allInts, Option.some.injEq] at h'; subst h'
  cases v <;> simp only [allInts] at h <;> try cases h
  split at h <;> simp at h
 | v :: l, v' :: l', a, h, h' => by
  cases v <;> simp only [allInts] at h <;> try cases h
  cases v' <;> simp only [allInts] at h' <;> try cases h'
  split at h
  ·rename_i r hr
   split at h'
   ·rename_i r' hr'
    injection h with h; injection h' with h'
    subst h
    injection h' with h1 h2
    injection h1 with h3 h4
    subst h2 h3 h4
    rw [allInts_inj hr hr']
   ·cases h'
  ·cases h
theorem aEq_key {P : Program} {kt : TypeId} {key k' : Value} (hk : keyArr P kt key = true) (e : aEq P kt key k' = some true) : k' = key := by
 obtain ⟨len, el, k, xs, a, hu, rfl, he, ha, hs, hl⟩ := keyArr_inv hk
 cases k' <;> simp only [aEq, hu] at e <;> try cases e
 rename_i ys
 simp only [he, ha] at e
 split at e
 ·rename_i b' a' b h1 h2 h3
  injection h1 with h1
  injection h2 with h2
  subst h2
  split at e
  ·injection e with e
   have : a = b := by simpa using e
   subst this
   have := allInts_inj ha h3
   rw [Array.toList_inj] at this
   rw [this]
  ·cases e
 ·cases e
theorem sameBits_ints : ∀ {l : List Value} {a : List (IntKind × Int)}, allInts l = some a → ∀ n, ((l.zip l).all fun (x, y) => Instr.sameBits n x y) = true
 | [], _, _, _ => rfl
 | v :: l, a, ha, n => by
  cases v <;> simp only [allInts] at ha <;> try cases ha
  split at ha
  ·rename_i k z _ r hr
   have := sameBits_ints hr n
   have hv : Instr.sameBits n (.int k z) (.int k z) = true := by cases n <;> simp [Instr.sameBits]
   simp only [List.zip_cons_cons, List.all_cons, hv, this, Bool.and_self]
  ·cases ha
theorem keyThatStays_arr {P : Program} {kt : TypeId} {key : Value} (hk : keyArr P kt key = true) (w : World) : (Instr.keyThatStays key key).run P w = .ok key w := by
 obtain ⟨len, el, k, xs, a, hu, rfl, he, ha, hs, hl⟩ := keyArr_inv hk
 have : Instr.sameBits 10000 (.agg xs) (.agg xs) = true := by
  have := sameBits_ints ha 9999
  show (xs.size == xs.size && _) = true
  rw [this]; simp
 unfold Instr.keyThatStays
 rw [if_pos this]; simp
theorem aMapSetA_ok {P : Program} (R : Rel W0 m h w) {t : TypeId} {x i v x' i' v' : Value} {h' : AHeap} (hx : VR h.next m x x') (hi : VR h.next m i i') (hv : VR h.next m v v') (e : aMapSetA P h t x i v = some h') :
  ∃ w', (Instr.mapUpdate t x' i' v').run P w = .ok () w' ∧ Rel W0 m h' w' ∧ h'.next = h.next := by
 unfold aMapSetA at e
 split at e
 ·rename_i kt et r hu
  split at e
  ·rename_i hka
   split at e
   ·rename_i es ho
    have := keyArr_eq hka hi
    subst this
    cases hx with
    | flat hf => simp [Fw.flat] at hf
    | map hr =>
     obtain ⟨E, clock, hb, h1, h2, h3⟩ := R.getMap (P := P) ho
     split at e
     ·rename_i j u hf
      injection e with e; subst e
      rcases afind_rel (keyArr_self hka) es E.toList 0 w h2 h3 _ hf with ⟨q, _⟩ | ⟨j', u1, u', q1, q2, q3, _, k', k2, q5, q6, q7, q8⟩
      ·cases q
      ·injection q1 with q1; simp only [Prod.mk.injEq] at q1; obtain ⟨rfl, rfl⟩ := q1
       rw [Nat.sub_zero] at q5 q6
       obtain rfl := aEq_key hka q8
       obtain rfl := keyArr_eq hka q7
       have hjl : j < es.length := by
        cases hj : es[j]? with
        | none => rw [hj] at q5; cases q5
        | some y => exact (List.getElem?_eq_some_iff.1 hj).1
       have hlen : E.toList.length = es.length := by have := h2.1; simpa using this.symm
       have hjE : j < E.size := by rw [← Array.length_toList, hlen]; exact hjl
       have hgd : ((E[j]?).map (·.key)).getD k2 = k2 := by
        have : (E[j]?).map (·.key) = some k2 := by simpa using q6
        rw [this]; rfl
       refine ⟨_, ?_, R.setMap (E' := E.modify j fun en => { en with key := k2, val := v' }) (clock' := clock) ho hb ?_ ?_, rfl⟩
       ·unfold Instr.mapUpdate
        simp only [Sem.run_bind, run_underlying hu, Result.andThen_ok, h1]
        rw [checkKey_arr hka]
        simp only [Result.andThen_ok, findKey_arr hka, q2, hgd]
        rw [Sem.run_bind, keyThatStays_arr hka]
        simp only [Result.andThen_ok]
        exact run_setObj_map _ hb
       ·have := h2.set j (x := k2) (x' := k2) (keyArr_self hka)
        refine (?_ : VRs _ _ _ _)
        have e1 : (es.set j (k2, v)).map (·.1) = (es.map (·.1)).set j k2 := by rw [List.map_set]
        have e2 : ((E.modify j fun en => { en with key := k2, val := v' }).toList.map (·.key)) = (E.toList.map (·.key)).set j k2 := by
         apply List.ext_getElem?
         intro q
         rw [List.getElem?_map, Array.getElem?_toList, Array.getElem?_modify, List.getElem?_set]
         by_cases hq : j = q
         ·subst hq; rw [Array.getElem?_eq_getElem hjE]; simp [hjE]
         ·simp [hq]
        rw [e1, e2]; exact this
       ·have := h3.set j (x := v) (x' := v') hv
        have e1 : (es.set j (k2, v)).map (·.2) = (es.map (·.2)).set j v := by rw [List.map_set]
        have e2 : ((E.modify j fun en => { en with key := k2, val := v' }).toList.map (·.val)) = (E.toList.map (·.val)).set j v' := by
         apply List.ext_getElem?
         intro q
         rw [List.getElem?_map, Array.getElem?_toList, Array.getElem?_modify, List.getElem?_set]
         by_cases hq : j = q
         ·subst hq; rw [Array.getElem?_eq_getElem hjE]; simp [hjE]
         ·simp [hq]
        rw [e1, e2]; exact this
     ·rename_i hf
      injection e with e; subst e
      rcases afind_rel (keyArr_self hka) es E.toList 0 w h2 h3 _ hf with ⟨_, q⟩ | ⟨j', u1, u', q1, _⟩
      ·refine ⟨_, ?_, R.setMap (E' := E.push { key := i', val := v', born := clock }) (clock' := clock + 1) ho hb ?_ ?_, rfl⟩
       ·unfold Instr.mapUpdate
        simp only [Sem.run_bind, run_underlying hu, Result.andThen_ok, h1]
        rw [checkKey_arr hka]
        simp only [Result.andThen_ok, findKey_arr hka, q]
        exact run_setObj_map _ hb
       ·have := h2.append (VRs.cons (keyArr_self (P := P) hka) (.nil _ _))
        simpa using this
       ·have := h3.append (VRs.cons hv (.nil _ _))
        simpa using this
      ·cases q1
     ·cases e
   ·cases e
  ·cases e
 ·cases e
def bLookup (P : Program) (h : AHeap) (t : TypeId) (x i : Value) (ok : Bool) : Option Value :=
 match aLookup P h t x i ok with
 | some v => some v
 | none => aLookupA P h t x i ok
def bMapSet (P : Program) (h : AHeap) (t : TypeId) (x i v : Value) : Option AHeap :=
 match aMapSet P h t x i v with
 | some v => some v
 | none => aMapSetA P h t x i v
theorem bLookup_rel {P : Program} (R : Rel W0 m h w) {t : TypeId} {x i x' i' v : Value} {ok : Bool} (hx : VR h.next m x x') (hi : VR h.next m i i') (e : bLookup P h t x i ok = some v) :
  ∃ v', (Instr.lookup t x' i' ok).run P w = .ok v' w ∧ VR h.next m v v' := by
 unfold bLookup at e
 split at e
 ·rename_i hu; injection e with e; subst e; exact aLookup_rel R hx hi hu
 ·exact aLookupA_rel R hx hi e
theorem bMapSet_ok {P : Program} (R : Rel W0 m h w) {t : TypeId} {x i v x' i' v' : Value} {h' : AHeap} (hx : VR h.next m x x') (hi : VR h.next m i i') (hv : VR h.next m v v') (e : bMapSet P h t x i v = some h') :
  ∃ w', (Instr.mapUpdate t x' i' v').run P w = .ok () w' ∧ Rel W0 m h' w' ∧ h'.next = h.next := by
 unfold bMapSet at e
 split at e
 ·rename_i hu; injection e with e; subst e; exact aMapSet_ok R hx hi hv hu
 ·exact aMapSetA_ok R hx hi hv e
end Go.Fw
namespace Go.Fw
variable {W0 : Base} {m : CMap} {h : AHeap} {w : World}
def aDelete (P : Program) (h : AHeap) (t : TypeId) (x i : Value) : Option (Value × AHeap) :=
 match P.underlying t, x, i with
 | some (.map kt _), .map (some r), .int k z =>
  match P.underlying kt, h.own r with
  | some (.int _), some (.map es) =>
   match mfind k z es 0 with
   | some (some (j, _)) => some (.tuple #[], h.put r (.map (es.eraseIdx j)))
   | some none => some (.tuple #[], h.put r (.map es))
   | none => none
  | _, _ => none
 | _, _, _ => none
theorem map_erase {α β : Type} (f : α → β) : ∀ (l : List α) (j : Nat), (l.eraseIdx j).map f = (l.map f).eraseIdx j
 | [], _ => rfl
 | _ :: _, 0 => rfl
 | a :: l, j + 1 => by simp [List.eraseIdx, map_erase f l j]
theorem VRs.eraseIdx {n : Nat} {m : CMap} {l l' : List Value} (h : VRs n m l l') (j : Nat) : VRs n m (l.eraseIdx j) (l'.eraseIdx j) := by
 refine ⟨?_, fun i v v' e e' => ?_⟩
 ·rw [List.length_eraseIdx, List.length_eraseIdx, h.1]
 ·rw [List.getElem?_eraseIdx] at e e'
  split at e
  ·rename_i hi; rw [if_pos hi] at e'; exact h.2 i v v' e e'
  ·rename_i hi; rw [if_neg hi] at e'; exact h.2 (i + 1) v v' e e'
theorem aDelete_ok {P : Program} (R : Rel W0 m h w) {t : TypeId} {ats : Array TypeId} (hat : ats[0]? = some t) {ty : TypeId} {x i x' i' v : Value} {h' : AHeap} (hx : VR h.next m x x') (hi : VR h.next m i i') (e : aDelete P h t x i = some (v, h')) :
  OK P W0 m h w (Builtin.delete_ ats ty #[x', i']) v h' := by
 unfold aDelete at e
 split at e
 ·rename_i kt et r k z hu
  split at e
  ·rename_i kk es hk ho
   have := hi.int_inv
   subst this
   cases hx with
   | flat hf => simp [Fw.flat] at hf
   | map hr =>
    obtain ⟨E, clock, hb, h1, h2, h3⟩ := R.getMap (P := P) ho
    split at e
    ·rename_i j u hf
     injection e with e; simp only [Prod.mk.injEq] at e; obtain ⟨rfl, rfl⟩ := e
     rcases mfind_rel (kk := kk) es E.toList 0 h2 h3 _ hf with ⟨q, _⟩ | ⟨j', u1, u', q1, q2, q3, _, q5⟩
     ·cases q
     ·injection q1 with q1; simp only [Prod.mk.injEq] at q1; obtain ⟨rfl, rfl⟩ := q1
      have hE : (E.eraseIdxIfInBounds j).toList = E.toList.eraseIdx j := by
       rw [Array.toList_eraseIdxIfInBounds]
      refine ⟨m, .tuple #[], _, ?_, R.setMap (E' := E.eraseIdxIfInBounds j) (clock' := clock) ho hb ?_ ?_, .refl _ _, Nat.le_refl _, .tuple_list (.nil _ _)⟩
      ·unfold Builtin.delete_
       simp only [hat, List.getElem?_toArray, List.getElem?_cons_zero, List.getElem?_cons_succ, Sem.run_bind, run_underlying hu, Result.andThen_ok, h1]
       rw [checkKey_int hk]
       simp only [Result.andThen_ok, Instr.findKey, Sem.run_bind, run_underlying hk, q2, Sem.run_pure]
       rw [run_setObj_map _ hb]
       rfl
      ·rw [hE, map_erase, map_erase]; exact h2.eraseIdx j
      ·rw [hE, map_erase, map_erase]; exact h3.eraseIdx j
    ·rename_i hf
     injection e with e; simp only [Prod.mk.injEq] at e; obtain ⟨rfl, rfl⟩ := e
     rcases mfind_rel (kk := kk) es E.toList 0 h2 h3 _ hf with ⟨_, q⟩ | ⟨j', u1, u', q1, _⟩
     ·refine ⟨m, .tuple #[], _, ?_, R.setMap (E' := E) (clock' := clock) ho hb h2 h3, .refl _ _, Nat.le_refl _, .tuple_list (.nil _ _)⟩
      unfold Builtin.delete_
      simp only [hat, List.getElem?_toArray, List.getElem?_cons_zero, List.getElem?_cons_succ, Sem.run_bind, run_underlying hu, Result.andThen_ok, h1]
      rw [checkKey_int hk]
      simp only [Result.andThen_ok, Instr.findKey, Sem.run_bind, run_underlying hk, q, Sem.run_pure]
      rw [run_setObj_map _ hb]
      rfl
     ·cases q1
    ·cases e
  ·cases e
 ·cases e
end Go.Fw
