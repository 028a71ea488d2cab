/- A text of the proof. -/
import Derived.Test.YtnaahaldkpdjlaaFwOps6
set_option linter.unusedSimpArgs false
set_option linter.unusedVariables false
namespace Go.Fw
variable {W0 : Base} {m : CMap} {h : AHeap} {w : World}
def mfind (k : IntKind) (z : Int) : List (Value × Value) → Nat → Option (Option (Nat × Value))
 | [], _ => some none
 | (.int k' z', v) :: r, i => if k = k' then (if z = z' then some (some (i, v)) else mfind k z r (i + 1)) else none
 | _ :: _, _ => none
theorem mfind_rel {n : Nat} {m : CMap} {kk k : IntKind} {z : Int} : ∀ (es : List (Value × Value)) (E : List MapEntry) (i : Nat), VRs n m (es.map (·.1)) (E.map (·.key)) → VRs n m (es.map (·.2)) (E.map (·.val)) → ∀ r, mfind k z es i = some r →
  (r = none ∧ Instr.findNow (.int kk) (.int k z) E i = some none) ∨ ∃ j v v', r = some (j, v) ∧ Instr.findNow (.int kk) (.int k z) E i = some (some (j, v')) ∧ VR n m v v' ∧ i ≤ j ∧ (es[j - i]?).map (·.1) = some (.int k z)
 | [], E, i, hk, hv, r, e => by
  have : E = [] := by
   have := hk.1; simp at this; exact List.eq_nil_of_length_eq_zero this.symm
  subst this
  simp [mfind] at e; subst e
  exact .inl ⟨rfl, rfl⟩
 | (a, v) :: es, [], i, hk, hv, r, e => by simp [VRs] at hk
 | (a, v) :: es, en :: E, i, hk, hv, r, e => by
  cases a <;> simp only [mfind] at e <;> try cases e
  rename_i k' z'
  have h1 : VR n m (.int k' z') en.key := hk.2 0 _ _ rfl rfl
  have h2 : VR n m v en.val := hv.2 0 _ _ rfl rfl
  have e1 := h1.int_inv
  split at e
  ·rename_i hkk
   subst hkk
   split at e
   ·rename_i hz
    subst hz
    injection e with e; subst e
    refine .inr ⟨i, v, en.val, rfl, ?_, h2, Nat.le_refl _, by simp⟩
    simp [Instr.findNow, Instr.sameNow, e1]
   ·rename_i hz
    have hk' : VRs n m (es.map (·.1)) (E.map (·.key)) := by simpa using hk.drop 1
    have hv' : VRs n m (es.map (·.2)) (E.map (·.val)) := by simpa using hv.drop 1
    have hzb : (z == z') = false := by simpa using hz
    have hs : Instr.findNow (.int kk) (.int k z) (en :: E) i = Instr.findNow (.int kk) (.int k z) E (i + 1) := by
     simp [Instr.findNow, Instr.sameNow, e1, hzb]
    rcases mfind_rel es E (i + 1) hk' hv' r e with ⟨q1, q2⟩ | ⟨j, u, u', q1, q2, q3, q4, q5⟩
    ·exact .inl ⟨q1, hs.trans q2⟩
    ·refine .inr ⟨j, u, u', q1, hs.trans q2, q3, by omega, ?_⟩
     rw [show j - i = (j - (i + 1)) + 1 by omega]
     simpa using q5
  ·cases e
def aLookup (P : Program) (h : AHeap) (t : TypeId) (x i : Value) (ok : Bool) : Option Value :=
 match P.underlying t, x, i with
 | some (.map kt et), .map (some r), .int k z =>
  match P.underlying kt, h.own r, azero P et with
  | some (.int _), some (.map es), some z0 =>
   if flat z0 then
    match mfind k z es 0 with
    | some (some (_, v)) => some (bif ok then .tuple #[v, .bool true] else v)
    | some none => some (bif ok then .tuple #[z0, .bool false] else z0)
    | none => none
   else none
  | _, _, _ => none
 | _, _, _ => none
theorem checkKey_int {P : Program} {kt : TypeId} {kk k : IntKind} {z : Int} (hu : P.underlying kt = some (.int kk)) (b : Bool) (n : Nat) (w : World) : (Instr.checkKey b (n + 1) kt (.int k z)).run P w = .ok () w := by
 unfold Instr.checkKey
 rw [Sem.run_bind, run_underlying hu]
 simp
theorem aLookup_rel {P : Program} (R : Rel W0 m h w) {t : TypeId} {x i x' i' v : Value} {ok : Bool} (hx : VR h.next m x x') (hi : VR h.next m i i') (e : aLookup P h t x i ok = some v) :
  ∃ v', (Instr.lookup t x' i' ok).run P w = .ok v' w ∧ VR h.next m v v' := by
 unfold aLookup at e
 split at e
 ·rename_i kt et r k z hu
  split at e
  ·rename_i kk es z0 hk ho hz
   split at e
   ·rename_i hfl
    have := hi.int_inv
    subst this
    cases hx with
    | flat hf => simp [Fw.flat] at hf
    | map hr =>
     obtain ⟨E, clock, _, h1, h2, h3⟩ := R.getMap (P := P) ho
     have hrun : (Instr.lookup t (.map (some (m r).blk)) (.int k z) ok).run P w = ((do
       let (v, o) ← match ← Instr.findKey kt (.int k z) E.toList with
        | some (_, v) => pure (v, true)
        | none => pure (← zeroValue et, false)
       pure (if ok then .tuple #[v, .bool o] else v) : Sem Value)).run P w := by
      unfold Instr.lookup
      simp only [Sem.run_bind, run_underlying hu, Result.andThen_ok, h1, Sem.run_pure]
      rw [checkKey_int hk]
      rfl
     split at e
     ·rename_i j u hf
      injection e with e; subst e
      rcases mfind_rel (kk := kk) es E.toList 0 h2 h3 _ hf with ⟨q, _⟩ | ⟨j', u1, u', q1, q2, q3, _⟩
      ·cases q
      ·injection q1 with q1; simp only [Prod.mk.injEq] at q1; obtain ⟨rfl, rfl⟩ := q1
       refine ⟨if ok then .tuple #[u', .bool true] else u', ?_, ?_⟩
       ·rw [hrun]
        simp only [Instr.findKey, Sem.run_bind, run_underlying hk, Result.andThen_ok, q2, Sem.run_pure]
       ·cases ok
        ·exact q3
        ·exact .tuple_list (.cons q3 (.cons (.flat rfl) (.nil _ _)))
     ·rename_i hf
      injection e with e; subst e
      rcases mfind_rel (kk := kk) es E.toList 0 h2 h3 _ hf with ⟨_, q⟩ | ⟨j', u1, u', q1, _⟩
      ·refine ⟨if ok then .tuple #[z0, .bool false] else z0, ?_, ?_⟩
       ·rw [hrun]
        simp only [Instr.findKey, Sem.run_bind, run_underlying hk, Result.andThen_ok, q, Sem.run_pure, run_zero_of hz]
       ·cases ok
        ·exact .flat hfl
        ·exact .tuple_list (.cons (.flat hfl) (.cons (.flat rfl) (.nil _ _)))
      ·cases q1
     ·cases e
   ·cases e
  ·cases e
 ·cases e
def aMapSet (P : Program) (h : AHeap) (t : TypeId) (x i v : Value) : Option AHeap :=
 match P.underlying t, x, i with
 | some (.map kt _), .map (some r), .int k z =>
  match P.underlying kt, h.own r with
  | some (.int _), some (.map es) =>
   match mfind k z es 0 with
   | some (some (j, _)) => some (h.put r (.map (es.set j (.int k z, v))))
   | some none => some (h.put r (.map (es ++ [(.int k z, v)])))
   | none => none
  | _, _ => none
 | _, _, _ => none
theorem Rel.setMap (R : Rel W0 m h w) {r : Nat} {es es' : List (Value × Value)} {E E' : Array MapEntry} {clock clock' : Nat} (ho : h.own r = some (.map es)) (hb : w.heap[(m r).blk]? = some (.map E clock))
  (hk : VRs h.next m (es'.map (·.1)) (E'.toList.map (·.key))) (hv : VRs h.next m (es'.map (·.2)) (E'.toList.map (·.val))) :
  Rel W0 m (h.put r (.map es')) { w with heap := w.heap.setIfInBounds (m r).blk (.map E' clock') } := by
 have hne : h.own r ≠ none := by rw [ho]; simp
 have hsome : ∀ i, (h.put r (.map es')).own i ≠ none → h.own i ≠ none := by
  intro i hi'
  by_cases hii : i = r
  ·subst hii; exact hne
  ·rwa [AHeap.own_put_ne _ _ _ _ hii] at hi'
 have hlt : (m r).blk < w.heap.size := (Array.getElem?_eq_some_iff.1 hb).1
 have hoth : ∀ b, b ≠ (m r).blk → (w.heap.setIfInBounds (m r).blk (.map E' clock'))[b]? = w.heap[b]? := fun b hbn => by
  rw [Array.getElem?_setIfInBounds]; simp [Ne.symm hbn]
 refine ⟨by simpa using R.size, fun b hb' => ?_, R.ext, fun i hi' => R.lt i (hsome i hi'), fun i hi' => R.new i (hsome i hi'), fun i o hio => ?_, fun i j hi' hj' => R.inj i j (hsome i hi') (hsome j hj'), R.os, R.output, R.tape, R.prot.put hsome (fun b _ hb => hoth b (fun e => hb r hne e.symm))⟩
 ·rw [hoth b (by have := R.new r hne; omega)]; exact R.old b hb'
 ·by_cases hii : i = r
  ·subst hii
   rw [AHeap.own_put_eq] at hio
   injection hio with hio; subst hio
   exact ⟨E', clock', by rw [Array.getElem?_setIfInBounds]; simp [hlt], hk, hv⟩
  ·rw [AHeap.own_put_ne _ _ _ _ hii] at hio
   exact Rel.mono_obj (R.own i o hio) (Nat.le_refl _) (Agree.refl _ _) (hoth _ (fun e => hii (R.inj i r (by rw [hio]; simp) hne e)))
theorem run_setObj_map {P : Program} {w : World} {r : Nat} {es : Array MapEntry} {clock : Nat} (o : Obj) (hb : w.heap[r]? = some (.map es clock)) : (setObj r o).run P w = .ok () { w with heap := w.heap.setIfInBounds r o } := by
 simp [setObj, Sem.run, hb]
theorem aMapSet_ok {P : Program} (R : Rel W0 m h w) {t : TypeId} {x i v x' i' v' : Value} {h' : AHeap} (hx : VR h.next m x x') (hi : VR h.next m i i') (hv : VR h.next m v v') (e : aMapSet P h t x i v = some h') :
  ∃ w', (Instr.mapUpdate t x' i' v').run P w = .ok () w' ∧ Rel W0 m h' w' ∧ h'.next = h.next := by
 unfold aMapSet at e
 split at e
 ·rename_i kt et r k z hu
  split at e
  ·rename_i kk es hk ho
   have := hi.int_inv
   subst this
   cases hx with
   | flat hf => simp [Fw.flat] at hf
   | map hr =>
    obtain ⟨E, clock, hb, h1, h2, h3⟩ := R.getMap (P := P) ho
    split at e
    ·rename_i j u hf
     injection e with e; subst e
     rcases mfind_rel (kk := kk) es E.toList 0 h2 h3 _ hf with ⟨q, _⟩ | ⟨j', u1, u', q1, q2, q3, _, q5⟩
     ·cases q
     ·injection q1 with q1; simp only [Prod.mk.injEq] at q1; obtain ⟨rfl, rfl⟩ := q1
      rw [Nat.sub_zero] at q5
      have hjl : j < es.length := by
       cases hj : es[j]? with
       | none => rw [hj] at q5; cases q5
       | some y => exact (List.getElem?_eq_some_iff.1 hj).1
      have hlen : E.toList.length = es.length := by have := h2.1; simpa using this.symm
      have hjE : j < E.size := by rw [← Array.length_toList, hlen]; exact hjl
      have hold : E[j].key = .int k z := by
       have e1 : es[j].1 = .int k z := by
        rw [List.getElem?_eq_getElem hjl] at q5; simpa using q5
       have := h2.2 j (.int k z) E[j].key (by rw [List.getElem?_map, List.getElem?_eq_getElem hjl]; simp [e1]) (by rw [List.getElem?_map, List.getElem?_eq_getElem (by simpa using hjE)]; simp)
       exact this.int_inv
      have hgd : ((E[j]?).map (·.key)).getD (.int k z) = .int k z := by rw [Array.getElem?_eq_getElem hjE]; simp [hold]
      refine ⟨_, ?_, R.setMap (E' := E.modify j fun en => { en with key := .int k z, val := v' }) (clock' := clock) ho hb ?_ ?_, rfl⟩
      ·unfold Instr.mapUpdate
       simp only [Sem.run_bind, run_underlying hu, Result.andThen_ok, h1]
       rw [checkKey_int hk]
       simp only [Result.andThen_ok, Instr.findKey, Sem.run_bind, run_underlying hk, q2, Sem.run_pure, hgd]
       have hkt : (Instr.keyThatStays (.int k z) (.int k z)).run P w = .ok (.int k z) w := by
        simp [Instr.keyThatStays, Instr.sameBits]
       rw [hkt]
       simp only [Result.andThen_ok]
       exact run_setObj_map _ hb
      ·have := h2.set j (x := .int k z) (x' := .int k z) (.flat rfl)
       refine (?_ : VRs _ _ _ _)
       have e1 : (es.set j (.int k z, v)).map (·.1) = (es.map (·.1)).set j (.int k z) := by rw [List.map_set]
       have e2 : ((E.modify j fun en => { en with key := .int k z, val := v' }).toList.map (·.key)) = (E.toList.map (·.key)).set j (.int k z) := by
        apply List.ext_getElem?
        intro q
        rw [List.getElem?_map, Array.getElem?_toList, Array.getElem?_modify, List.getElem?_set]
        by_cases hq : j = q
        ·subst hq; rw [Array.getElem?_eq_getElem hjE]; simp [hjE]
        ·simp [hq]
       rw [e1, e2]; exact this
      ·have := h3.set j (x := v) (x' := v') hv
       have e1 : (es.set j (.int k z, v)).map (·.2) = (es.map (·.2)).set j v := by rw [List.map_set]
       have e2 : ((E.modify j fun en => { en with key := .int k z, val := v' }).toList.map (·.val)) = (E.toList.map (·.val)).set j v' := by
        apply List.ext_getElem?
        intro q
        rw [List.getElem?_map, Array.getElem?_toList, Array.getElem?_modify, List.getElem?_set]
        by_cases hq : j = q
        ·subst hq; rw [Array.getElem?_eq_getElem hjE]; simp [hjE]
        ·simp [hq]
       rw [e1, e2]; exact this
    ·rename_i hf
     injection e with e; subst e
     rcases mfind_rel (kk := kk) es E.toList 0 h2 h3 _ hf with ⟨_, q⟩ | ⟨j', u1, u', q1, _⟩
     ·refine ⟨_, ?_, R.setMap (E' := E.push { key := .int k z, val := v', born := clock }) (clock' := clock + 1) ho hb ?_ ?_, rfl⟩
      ·unfold Instr.mapUpdate
       simp only [Sem.run_bind, run_underlying hu, Result.andThen_ok, h1]
       rw [checkKey_int hk]
       simp only [Result.andThen_ok, Instr.findKey, Sem.run_bind, run_underlying hk, q, Sem.run_pure]
       exact run_setObj_map _ hb
      ·have := h2.append (VRs.cons (.flat (v := .int k z) rfl) (.nil _ _))
       simpa using this
      ·have := h3.append (VRs.cons hv (.nil _ _))
       simpa using this
     ·cases q1
    ·cases e
  ·cases e
 ·cases e
end Go.Fw
