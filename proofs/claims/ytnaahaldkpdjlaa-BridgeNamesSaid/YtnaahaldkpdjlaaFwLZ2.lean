/- A text of the proof. -/
import Derived.Test.YtnaahaldkpdjlaaFwLW1
import Derived.Test.YtnaahaldkpdjlaaFwLB3
set_option linter.unusedSimpArgs false
set_option linter.unusedVariables false
namespace Go.Fw
set_option maxRecDepth 10000
instance adjDec (es : List Pr) (u w : Nat) : Decidable (adj es u w) := by unfold adj; infer_instance
def nxtF (n : Nat) (es : List Pr) (o : List Nat) (v : Nat) : Option Nat := (List.range n).find? fun w => decide (adj es v w) && !o.contains w
def lastF (n : Nat) (es : List Pr) (o : List Nat) : List Nat → Option (Nat × Nat)
  | [] => none
  | v :: r => match nxtF n es o v with
    | some w => some (v, w)
    | none => lastF n es o r
def walkS (n : Nat) (es : List Pr) (st : List Nat × List Int) : List Nat × List Int :=
 match lastF n es st.1 st.1.reverse with
 | some (v, w) => (st.1 ++ [w], st.2.set w (v : Int))
 | none => st
def walkN (n : Nat) (es : List Pr) : Nat → List Nat × List Int → List Nat × List Int
 | 0, st => st
 | k + 1, st => walkN n es k (walkS n es st)
def walkF (n : Nat) (es : List Pr) (s : Nat) : List Nat × List Int := walkN n es n ([s], List.replicate n (-1))
theorem nxtF_some {n : Nat} {es : List Pr} {o : List Nat} {v w : Nat} (hr : InR n es) (h : nxtF n es o v = some w) : adj es v w ∧ w ∉ o ∧ ∀ y, adj es v y → y ∉ o → w ≤ y := by
 unfold nxtF at h
 have h1 := List.find?_some h
 simp only [Bool.and_eq_true, decide_eq_true_eq, Bool.not_eq_true', List.contains_eq_mem, decide_eq_false_iff_not] at h1
 refine ⟨h1.1, h1.2, fun y hy ho => ?_⟩
 rw [List.find?_range_eq_some] at h
 rcases Nat.lt_or_ge y w with hlt | hge
 ·have := h.2.2 y hlt
  simp [hy, ho] at this
 ·exact hge
theorem nxtF_none {n : Nat} {es : List Pr} {o : List Nat} {v : Nat} (hr : InR n es) (h : nxtF n es o v = none) : Full es o v := by
 intro y hy
 unfold nxtF at h
 rw [List.find?_eq_none] at h
 have := h y (List.mem_range.2 (hy.lt hr).2)
 simpa [hy] using this
theorem lastF_none {n : Nat} {es : List Pr} {o : List Nat} (hr : InR n es) : ∀ {l : List Nat}, lastF n es o l = none → ∀ x ∈ l, Full es o x
 | [], _, x, hx => by simp at hx
 | v :: r, h, x, hx => by
  simp only [lastF] at h
  split at h
  ·cases h
  ·rename_i hn
   rcases List.mem_cons.1 hx with rfl | hx
   ·exact nxtF_none hr hn
   ·exact lastF_none hr h x hx
theorem lastF_some {n : Nat} {es : List Pr} {o : List Nat} (hr : InR n es) : ∀ {l : List Nat} {v w : Nat}, lastF n es o l = some (v, w) → ∃ i, l[i]? = some v ∧ nxtF n es o v = some w ∧ ∀ (j x : Nat), j < i → l[j]? = some x → Full es o x
 | [], v, w, h => by cases h
 | u :: r, v, w, h => by
  simp only [lastF] at h
  split at h
  ·rename_i w' hn
   injection h with h; injection h with h1 h2; subst h1 h2
   exact ⟨0, rfl, hn, by omega⟩
  ·rename_i hn
   obtain ⟨i, h1, h2, h3⟩ := lastF_some hr h
   refine ⟨i + 1, by simpa using h1, h2, fun j x hj hx => ?_⟩
   cases j with
   | zero => simp at hx; subst hx; exact nxtF_none hr hn
   | succ j => exact h3 j x (by omega) (by simpa using hx)
theorem Dfs.ndlt {n : Nat} {es : List Pr} {s : Nat} {o : List Nat} {up : List Int} (hr : InR n es) (hs : s < n) (d : Dfs n es s o up) : o.Nodup ∧ ∀ x ∈ o, x < n := by
 induction d with
 | start => simp [hs]
 | @step o up k v w d hk ha hw hm hf ih =>
  refine ⟨?_, fun x hx => ?_⟩
  ·rw [List.nodup_append]
   exact ⟨ih.1, by simp, fun a hm' b hb e => by rw [List.mem_singleton] at hb; subst hb; subst e; exact hw hm'⟩
  ·rw [List.mem_append, List.mem_singleton] at hx
   rcases hx with hx | rfl
   ·exact ih.2 x hx
   ·exact (ha.lt hr).2
theorem Dfs.boundF {n : Nat} {es : List Pr} {s : Nat} {o : List Nat} {up : List Int} (hr : InR n es) (hs : s < n) (d : Dfs n es s o up) : o.length ≤ n := by
 have := (d.ndlt hr hs).1.length_le_of_subset (l₂ := List.range n) fun v hv => List.mem_range.2 ((d.ndlt hr hs).2 v hv)
 simpa using this
theorem walkN_fin {n : Nat} {es : List Pr} {s : Nat} (hr : InR n es) (hs : s < n) : ∀ (k : Nat) {o : List Nat} {up : List Int}, Dfs n es s o up → n < o.length + k → DfsFin n es s (walkN n es k (o, up)).1 (walkN n es k (o, up)).2
 | 0, o, up, d, h => by have := d.boundF hr hs; omega
 | k + 1, o, up, d, h => by
  simp only [walkN, walkS]
  split
  ·rename_i v w hl
   obtain ⟨i, h1, h2, h3⟩ := lastF_some hr hl
   obtain ⟨q1, q2, q3⟩ := nxtF_some hr h2
   have hi : i < o.length := by have := (List.getElem?_eq_some_iff.1 h1).1; simpa using this
   refine walkN_fin hr hs k (.step (k := o.length - 1 - i) d ?_ q1 q2 q3 fun j x hj hx => ?_) (by simp; omega)
   ·rw [List.getElem?_reverse hi] at h1; exact h1
   ·have hjl := (List.getElem?_eq_some_iff.1 hx).1
    refine h3 (o.length - 1 - j) x (by omega) ?_
    rw [List.getElem?_reverse (by omega)]
    have : o.length - 1 - (o.length - 1 - j) = j := by omega
    rw [this]; exact hx
  ·rename_i hl
   have hf : ∀ x ∈ o, Full es o x := fun x hx => lastF_none hr hl x (List.mem_reverse.2 hx)
   have : ∀ k, walkN n es k (o, up) = (o, up) := by
    intro k
    induction k with
    | zero => rfl
    | succ k ih => simp only [walkN, walkS]; rw [hl]; exact ih
   rw [this]
   exact ⟨d, hf⟩
theorem walkF_fin {n : Nat} {es : List Pr} {s : Nat} (hr : InR n es) (hs : s < n) : DfsFin n es s (walkF n es s).1 (walkF n es s).2 := walkN_fin hr hs n .start (by simp)
end Go.Fw
namespace Go.Fw
open Go.Proofs
set_option maxHeartbeats 8000000
set_option maxRecDepth 10000
abbrev Lw := Int × Int × Int
def cellsL (p : Lw) : List Value := [.int .i64 p.1, .int .i64 p.2.1, .int .i64 p.2.2]
def valL (p : Lw) : Value := .agg #[.int .i64 p.1, .int .i64 p.2.1, .int .i64 p.2.2]
def flatL (ps : List Lw) : List Value := ps.flatMap cellsL
theorem flatL_length (ps : List Lw) : (flatL ps).length = ps.length * 3 := by
 induction ps with
 | nil => rfl
 | cons p ps ih => simp [flatL, cellsL] at ih ⊢; omega
theorem flatL_get : ∀ (ps : List Lw) (i : Nat) (p : Lw), ps[i]? = some p → (flatL ps)[i * 3]? = some (.int .i64 p.1) ∧ (flatL ps)[i * 3 + 1]? = some (.int .i64 p.2.1) ∧ (flatL ps)[i * 3 + 2]? = some (.int .i64 p.2.2)
 | [], i, p, h => by simp at h
 | q :: ps, 0, p, h => by simp at h; subst h; simp [flatL, cellsL]
 | q :: ps, i + 1, p, h => by
  have := flatL_get ps i p (by simpa using h)
  have e : flatL (q :: ps) = .int .i64 q.1 :: .int .i64 q.2.1 :: .int .i64 q.2.2 :: flatL ps := rfl
  rw [e, show (i + 1) * 3 = (i * 3 + 2) + 1 by omega]
  simpa using this
section
variable {h : AHeap} {L n : Nat} {ls : List Lw}
theorem fl2 (a : Addr) : aField Try.prog 93 (.pointer (some a)) 2 = some (.pointer (some (aadd a 2))) := rfl
end
end Go.Fw
namespace Go.Fw
open Go.Proofs
set_option maxRecDepth 10000
def getL (ls : List Lw) (v : Nat) : Lw := ls.getD v (0, 0, 0)
def putA (up : List Int) : List Nat → List Lw × List Nat → List Lw × List Nat
 | [], st => st
 | v :: r, (ls, o) => putA up r (ls.set v (((o.length + 1 : Nat) : Int), up.getD v 0, ((o.length + 1 : Nat) : Int)), o ++ [v])
def fromA (n : Nat) (es : List Pr) (i : Nat) (st : List Lw × List Nat) : List Lw × List Nat :=
 if (getL st.1 i).1 = 0 then putA (walkF n es i).2 (walkF n es i).1 st else st
def metM (n : Nat) (es : List Pr) : Nat → List Lw × List Nat
 | 0 => (List.replicate n (0, 0, 0), [])
 | i + 1 => fromA n es i (metM n es i)
def edgeB (ls : List Lw) (e : Pr) : List Lw :=
 let a := e.1.toNat
 let b := e.2.toNat
 if (getL ls a).2.1 = e.2 ∨ (getL ls b).2.1 = e.1 then ls
 else
  let l1 := ls.set a ((getL ls a).1, (getL ls a).2.1, min (getL ls a).2.2 (getL ls b).1)
  l1.set b ((getL l1 b).1, (getL l1 b).2.1, min (getL l1 b).2.2 (getL l1 a).1)
def upC (ls : List Lw) (v : Nat) : List Lw :=
 let u := (getL ls v).2.1
 if 0 ≤ u then ls.set u.toNat ((getL ls u.toNat).1, (getL ls u.toNat).2.1, min (getL ls u.toNat).2.2 (getL ls v).2.2) else ls
def lowM (n : Nat) (es : List Pr) : List Lw × List Nat := ((metM n es n).2.reverse.foldl upC (es.foldl edgeB (metM n es n).1), (metM n es n).2)
structure LowI (n : Nat) (ls : List Lw) (o : List Nat) : Prop where
 len : ls.length = n
 up : ∀ v, v < n → (getL ls v).2.1 < (n : Int)
 lt : ∀ v ∈ o, v < n
 nd : o.Nodup
 num : ∀ v, v < n → ((getL ls v).1 = 0 ↔ v ∉ o)
theorem getL_set (ls : List Lw) (v : Nat) (q : Lw) (u : Nat) : getL (ls.set v q) u = if v = u ∧ v < ls.length then q else getL ls u := by
 simp only [getL, List.getD_eq_getElem?_getD, List.getElem?_set]
 by_cases e : v = u
 ·subst e
  by_cases h : v < ls.length
  ·simp [h]
  ·simp [h]
 ·simp [e]
theorem Dfs.upR {n : Nat} {es : List Pr} {s : Nat} {o : List Nat} {up : List Int} (hr : InR n es) (hs : s < n) (d : Dfs n es s o up) : ∀ v, up.getD v 0 < (n : Int) := by
 induction d with
 | start =>
  intro v
  simp only [List.getD_eq_getElem?_getD, List.getElem?_replicate]
  split <;> simp <;> omega
 | @step o up k v w d hk ha hw hm hf ih =>
  intro x
  simp only [List.getD_eq_getElem?_getD, List.getElem?_set]
  have := ih x
  simp only [List.getD_eq_getElem?_getD] at this
  split
  ·split
   ·have := (ha.lt hr).1; simp; omega
   ·simp; omega
  ·exact this
theorem putA_I {n : Nat} {up : List Int} (hup : ∀ v, up.getD v 0 < (n : Int)) : ∀ (l : List Nat) {ls : List Lw} {o : List Nat}, LowI n ls o → l.Nodup → (∀ v ∈ l, v < n ∧ v ∉ o) →
  LowI n (putA up l (ls, o)).1 (putA up l (ls, o)).2 ∧ (putA up l (ls, o)).2 = o ++ l
 | [], ls, o, I, _, _ => ⟨I, by simp [putA]⟩
 | v :: r, ls, o, I, hn, hl => by
  rw [List.nodup_cons] at hn
  have hv := hl v (by simp)
  have I' : LowI n (ls.set v (((o.length + 1 : Nat) : Int), up.getD v 0, ((o.length + 1 : Nat) : Int))) (o ++ [v]) := by
   refine ⟨by simp [I.len], fun u hu => ?_, fun u hu => ?_, ?_, fun u hu => ?_⟩
   ·rw [getL_set]; split
    ·exact hup v
    ·exact I.up u hu
   ·rw [List.mem_append, List.mem_singleton] at hu
    rcases hu with hu | rfl
    ·exact I.lt u hu
    ·exact hv.1
   ·rw [List.nodup_append]
    exact ⟨I.nd, by simp, fun a ha b hb e => by rw [List.mem_singleton] at hb; subst hb; subst e; exact hv.2 ha⟩
   ·rw [getL_set, List.mem_append, List.mem_singleton]
    by_cases e : v = u
    ·subst e; simp [I.len, hu]; omega
    ·rw [if_neg (by simp [e]), I.num u hu]; simp [Ne.symm e]
  obtain ⟨q1, q2⟩ := putA_I hup r I' hn.2 fun u hu => ⟨(hl u (by simp [hu])).1, fun hm => by
   rw [List.mem_append, List.mem_singleton] at hm
   rcases hm with hm | rfl
   ·exact (hl u (by simp [hu])).2 hm
   ·exact hn.1 hu⟩
  exact ⟨q1, by rw [putA, q2]; simp⟩
theorem con_back {es : List Pr} {o : List Nat} (hc : ∀ u w, adj es u w → u ∈ o → w ∈ o) {i v : Nat} (h : Con es i v) : v ∈ o → i ∈ o := by
 induction h with
 | refl _ => exact id
 | step _ a _ ih => exact fun hv => ih (hc _ _ a.symm hv)
structure LowC (n : Nat) (es : List Pr) (ls : List Lw) (o : List Nat) : Prop extends LowI n ls o where
 cl : ∀ u w, adj es u w → u ∈ o → w ∈ o
theorem fromA_pre {n : Nat} {es : List Pr} (hr : InR n es) {ls : List Lw} {o : List Nat} (I : LowC n es ls o) {i : Nat} (hi : i < n) (h0 : (getL ls i).1 = 0) :
  (walkF n es i).1.Nodup ∧ ∀ v ∈ (walkF n es i).1, v < n ∧ v ∉ o := by
 have D := walkF_fin hr hi
 refine ⟨D.dfs.nodup, fun v hv => ⟨((D.mem v).1 hv).lt hr hi, fun hm => (I.num i hi).1 h0 (con_back I.cl ((D.mem v).1 hv) hm)⟩⟩
theorem fromA_C {n : Nat} {es : List Pr} (hr : InR n es) {ls : List Lw} {o : List Nat} (I : LowC n es ls o) {i : Nat} (hi : i < n) :
  LowC n es (fromA n es i (ls, o)).1 (fromA n es i (ls, o)).2 ∧ i ∈ (fromA n es i (ls, o)).2 ∧ ∀ v ∈ o, v ∈ (fromA n es i (ls, o)).2 := by
 unfold fromA
 split
 ·rename_i h0
  obtain ⟨p1, p2⟩ := fromA_pre hr I hi h0
  have D := walkF_fin hr hi
  obtain ⟨q1, q2⟩ := putA_I (D.dfs.upR hr hi) (walkF n es i).1 I.toLowI p1 p2
  rw [q2] at q1 ⊢
  refine ⟨⟨q1, fun u w ha hu => ?_⟩, List.mem_append_right _ ((D.mem i).2 (Con.refl es i)), fun v hv => List.mem_append_left _ hv⟩
  rw [List.mem_append] at hu ⊢
  rcases hu with hu | hu
  ·exact .inl (I.cl u w ha hu)
  ·exact .inr (D.full u hu w ha)
 ·rename_i h0
  refine ⟨I, ?_, fun v hv => hv⟩
  by_cases hm : i ∈ o
  ·exact hm
  ·exact absurd ((I.num i hi).2 hm) h0
theorem metM_C {n : Nat} {es : List Pr} (hr : InR n es) : ∀ i, i ≤ n → LowC n es (metM n es i).1 (metM n es i).2 ∧ ∀ v, v < i → v ∈ (metM n es i).2
 | 0, _ => ⟨⟨⟨by simp [metM], fun v hv => by simp [metM, getL, List.getD_eq_getElem?_getD, List.getElem?_replicate, hv]; omega, by simp [metM], by simp [metM], fun v hv => by simp [metM, getL, List.getD_eq_getElem?_getD, List.getElem?_replicate, hv]⟩, by simp [metM]⟩, by omega⟩
 | i + 1, hi => by
  obtain ⟨I, hm⟩ := metM_C hr i (by omega)
  obtain ⟨q1, q2, q3⟩ := fromA_C hr I (i := i) (by omega)
  refine ⟨q1, fun v hv => ?_⟩
  by_cases e : v = i
  ·subst e; exact q2
  ·exact q3 v (hm v (by omega))
theorem LowI.olen {n : Nat} {ls : List Lw} {o : List Nat} (I : LowI n ls o) : o.length ≤ n := by
 have := I.nd.length_le_of_subset (l₂ := List.range n) fun v hv => List.mem_range.2 (I.lt v hv)
 simpa using this
end Go.Fw
namespace Go.Fw
open Go.Proofs
attribute [local irreducible] KO4 KO3 KO2 KO1 KO KN KX KE VK KCond KDraw KCall KLoop
set_option maxHeartbeats 8000000
set_option maxRecDepth 10000
theorem amin_i (a b : Int) : aMin (.int .i64 a) [.int .i64 b] = some (.int .i64 (min a b)) := by
 have : (if b < a then b else a) = min a b := by split <;> omega
 simp only [aMin, if_true, this]
theorem bL (a b c : Int) : aBuild Try.prog 93 [(0, .int .i64 a), (1, .int .i64 b), (2, .int .i64 c)] = some (valL (a, b, c)) := by kernel_rfl
theorem edgeB_length (ls : List Lw) (e : Pr) : (edgeB ls e).length = ls.length := by simp only [edgeB]; split <;> simp
theorem set_keep (ls : List Lw) (a : Nat) (x : Int) (v : Nat) : (getL (ls.set a ((getL ls a).1, (getL ls a).2.1, x)) v).1 = (getL ls v).1 ∧ (getL (ls.set a ((getL ls a).1, (getL ls a).2.1, x)) v).2.1 = (getL ls v).2.1 := by
 rw [getL_set]; split
 ·rename_i h; rw [h.1]; exact ⟨rfl, rfl⟩
 ·exact ⟨rfl, rfl⟩
theorem edgeB_keep (ls : List Lw) (e : Pr) (v : Nat) : (getL (edgeB ls e) v).1 = (getL ls v).1 ∧ (getL (edgeB ls e) v).2.1 = (getL ls v).2.1 := by
 simp only [edgeB]
 split
 ·exact ⟨rfl, rfl⟩
 ·obtain ⟨a1, a2⟩ := set_keep ls e.1.toNat (min (getL ls e.1.toNat).2.2 (getL ls e.2.toNat).1) v
  obtain ⟨b1, b2⟩ := set_keep (ls.set e.1.toNat ((getL ls e.1.toNat).1, (getL ls e.1.toNat).2.1, min (getL ls e.1.toNat).2.2 (getL ls e.2.toNat).1)) e.2.toNat (min (getL (ls.set e.1.toNat ((getL ls e.1.toNat).1, (getL ls e.1.toNat).2.1, min (getL ls e.1.toNat).2.2 (getL ls e.2.toNat).1)) e.2.toNat).2.2 (getL (ls.set e.1.toNat ((getL ls e.1.toNat).1, (getL ls e.1.toNat).2.1, min (getL ls e.1.toNat).2.2 (getL ls e.2.toNat).1)) e.1.toNat).1) v
  exact ⟨b1.trans a1, b2.trans a2⟩
theorem edges_keep : ∀ (es : List Pr) (ls : List Lw) (v : Nat), (getL (es.foldl edgeB ls) v).1 = (getL ls v).1 ∧ (getL (es.foldl edgeB ls) v).2.1 = (getL ls v).2.1
 | [], ls, v => ⟨rfl, rfl⟩
 | e :: es, ls, v => by
  rw [List.foldl_cons]
  obtain ⟨a1, a2⟩ := edges_keep es (edgeB ls e) v
  obtain ⟨b1, b2⟩ := edgeB_keep ls e v
  exact ⟨a1.trans b1, a2.trans b2⟩
theorem upC_keep (ls : List Lw) (x v : Nat) : (getL (upC ls x) v).1 = (getL ls v).1 ∧ (getL (upC ls x) v).2.1 = (getL ls v).2.1 := by
 simp only [upC]
 split
 ·exact set_keep _ _ _ _
 ·exact ⟨rfl, rfl⟩
theorem ups_keep : ∀ (o : List Nat) (ls : List Lw) (v : Nat), (getL (o.foldl upC ls) v).1 = (getL ls v).1 ∧ (getL (o.foldl upC ls) v).2.1 = (getL ls v).2.1
 | [], ls, v => ⟨rfl, rfl⟩
 | e :: es, ls, v => by
  rw [List.foldl_cons]
  obtain ⟨a1, a2⟩ := ups_keep es (upC ls e) v
  obtain ⟨b1, b2⟩ := upC_keep ls e v
  exact ⟨a1.trans b1, a2.trans b2⟩
theorem upC_length (ls : List Lw) (v : Nat) : (upC ls v).length = ls.length := by simp only [upC]; split <;> simp
structure SeI (h1 hq : AHeap) (LV L n : Nat) (ov : Value) (ls : List Lw) (o : List Nat) : Prop where
 oV : hq.own LV = some (.cells [.slice (some ⟨L, 0, none⟩) n n])
 oL : hq.own L = some (.cells (flatL ls))
 go : GU hq ov (nat64 o)
 nb : blk ov ≠ some LV ∧ blk ov ≠ some L
 le : Le h1 hq
 nn : h1.own LV = none ∧ h1.own L = none ∧ LV ≠ L
 ao : Apart h1 ov
theorem SeI.put {h1 hq : AHeap} {LV L n : Nat} {ov : Value} {ls : List Lw} {o : List Nat} (S : SeI h1 hq LV L n ov ls o) (ls' : List Lw) : SeI h1 (hq.put L (.cells (flatL ls'))) LV L n ov ls' o :=
 ⟨by rw [AHeap.own_put_ne _ _ _ _ S.nn.2.2]; exact S.oV, AHeap.own_put_eq _ _ _, GT.put S.go _ S.nb.2, S.nb, S.le.put _ S.nn.2.1, S.nn, S.ao⟩
theorem SeI.kept {h1 hq hr : AHeap} {LV L n : Nat} {ov : Value} {ls : List Lw} {o : List Nat} (S : SeI h1 hq LV L n ov ls o) (e : Le hq hr) : SeI h1 hr LV L n ov ls o :=
 ⟨e.own _ _ S.oV, e.own _ _ S.oL, S.go.le e, S.nb, S.le.trans e, S.nn, S.ao⟩
end Go.Fw
