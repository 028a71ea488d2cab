/- A text of the proof. -/
import Derived.Test.YtnaahaldkpdjlaaFwLW4
import Derived.Test.YtnaahaldkpdjlaaFwLB14
import Derived.Test.YtnaahaldkpdjlaaFwLB10
import Derived.Test.YtnaahaldkpdjlaaFwLBR
import Derived.Test.YtnaahaldkpdjlaaFwLW3
import Derived.Test.YtnaahaldkpdjlaaFwLB2
set_option linter.unusedSimpArgs false
set_option linter.unusedVariables false
namespace Go.Fw
open Go.Proofs
set_option maxHeartbeats 8000000
set_option maxRecDepth 10000
structure FarI (n : Nat) (es : List Pr) (s : Nat) (L : List Int) (met : List Nat) (cl : Nat → Nat → Prop) : Prop where
 len : L.length = n
 val : ∀ (v : Nat) (x : Int), L[v]? = some x → x = -1 ∨ 0 ≤ x ∧ v ∈ met
 mm : ∀ v ∈ met, v < n ∧ Con es s v ∧ ∃ x : Int, L[v]? = some x ∧ 0 ≤ x
 nd : met.Nodup
 s0 : L[s]? = some 0
 ms : s ∈ met
 pre : ∀ (v : Nat) (x : Int), L[v]? = some x → 0 < x → ∃ w, adj es v w ∧ L[w]? = some (x - 1)
 zero : ∀ (v : Nat), L[v]? = some 0 → v = s
 cl : ∀ u w, cl u w → w ∈ met
 bd : ∀ (v : Nat) (x : Int), L[v]? = some x → x + 1 ≤ met.length
structure Far (n : Nat) (es : List Pr) (s : Nat) (L : List Int) : Prop where
 len : L.length = n
 pos : ∀ (v : Nat) (x : Int), L[v]? = some x → (0 ≤ x ↔ Con es s v)
 pre : ∀ (v : Nat) (x : Int), L[v]? = some x → 0 < x → ∃ w, adj es v w ∧ L[w]? = some (x - 1)
 zero : ∀ (v : Nat), L[v]? = some 0 → v = s
 bd : ∀ (v : Nat) (x : Int), L[v]? = some x → -1 ≤ x ∧ x + 1 ≤ n
theorem FarI.start {n : Nat} {es : List Pr} {s : Nat} (hs : s < n) (cl : Nat → Nat → Prop) (hcl : ∀ u w, ¬ cl u w) : FarI n es s ((List.replicate n (-1)).set s 0) [s] cl := by
 have gs : ∀ (v : Nat) (x : Int), ((List.replicate n (-1 : Int)).set s 0)[v]? = some x → v = s ∧ x = 0 ∨ x = -1 := by
  intro v x h
  rw [List.getElem?_set] at h
  split at h
  ·rename_i e; split at h
   ·injection h with h; exact .inl ⟨e.symm, h.symm⟩
   ·cases h
  ·rw [List.getElem?_replicate] at h
   split at h
   ·injection h with h; exact .inr h.symm
   ·cases h
 have h0 : ((List.replicate n (-1 : Int)).set s 0)[s]? = some 0 := by rw [List.getElem?_set]; simp [hs]
 refine ⟨by simp, fun v x h => ?_, fun v hv => ?_, by simp, h0, by simp, fun v x h hx => ?_, fun v h => ?_, fun u w h => absurd h (hcl u w), fun v x h => ?_⟩
 ·rcases gs v x h with ⟨rfl, rfl⟩ | rfl
  ·exact .inr ⟨Int.le_refl _, by simp⟩
  ·exact .inl rfl
 ·rw [List.mem_singleton] at hv; subst hv; exact ⟨hs, Con.refl es _, 0, h0, Int.le_refl _⟩
 ·rcases gs v x h with ⟨rfl, rfl⟩ | rfl <;> omega
 ·rcases gs v 0 h with ⟨rfl, _⟩ | e
  ·rfl
  ·omega
 ·rcases gs v x h with ⟨rfl, rfl⟩ | rfl <;> simp
theorem FarI.mono {n : Nat} {es : List Pr} {s : Nat} {L : List Int} {met : List Nat} {cl cl' : Nat → Nat → Prop} (t : FarI n es s L met cl) (h : ∀ u w, cl' u w → cl u w) : FarI n es s L met cl' :=
 { t with cl := fun u w hc => t.cl u w (h u w hc) }
end Go.Fw
namespace Go.Fw
open Go.Proofs
attribute [local irreducible] KO4 KO3 KO2 KO1 KO KN KX KE VK KCond KDraw KCall KLoop
set_option maxHeartbeats 8000000
set_option maxRecDepth 10000
theorem d2 : decide ((2 : Int) = 0) = false := by decide
end Go.Fw
namespace Go.Fw
open Go.Proofs
set_option maxHeartbeats 4000000
set_option maxRecDepth 10000
theorem build24 {n : Int} {v : Value} {k : Nat} (hv : isSl v k) : aBuild Try.prog 24 [(0, .int .i64 n), (1, v)] = some (.agg #[.int .i64 n, v]) := by
 obtain ⟨_, _, rfl, _⟩ := hv
 kernel_rfl
theorem alloc24 (h : AHeap) : aAlloc Try.prog h 24 = some (.pointer (some ⟨h.next, 0, none⟩), h.alloc (.cells [.int .i64 0, .slice none 0 0])) := rfl
theorem newG {h : AHeap} (hw : WF h) {n : Int} {ev : Value} {es : List Pr} (r : PR h ev es) : ∃ h1 h2, aAlloc Try.prog h 24 = some (.pointer (some ⟨h.next, 0, none⟩), h1) ∧ aStore Try.prog h1 24 (.pointer (some ⟨h.next, 0, none⟩)) (.agg #[.int .i64 n, ev]) = some h2 ∧ Le h h2 ∧ WF h2 ∧
  ∀ g, Le h2 g → aload Try.prog g 24 ⟨h.next, 0, none⟩ = some (.agg #[.int .i64 n, ev]) ∧ aload Try.prog g 3 ⟨h.next, 0, none⟩ = some (.int .i64 n) ∧ aload Try.prog g 22 ⟨h.next, 1, none⟩ = some ev := by
 obtain ⟨h1, e1, l1, w1, o1⟩ := alloc_f hw [.int .i64 0, .slice none 0 0]
 have nw : h.own h.next = none := (Le.refl h).next hw (Nat.le_refl _)
 have one := r.sl.one
 have ts24 : tsize Try.prog 24 = 2 := by kernel_rfl
 have hc : (Value.agg #[.int .i64 n, ev]).cells = #[.int .i64 n, ev] := rfl
 have h0 : (Value.int IntKind.i64 n).oneCell' = true := rfl
 have ho : (h1.put h.next (.cells [.int .i64 n, ev])).own h.next = some (.cells [.int .i64 n, ev]) := AHeap.own_put_eq _ _ _
 refine ⟨h1, h1.put h.next (.cells [.int .i64 n, ev]), by rw [alloc24, e1], ?_, l1.put _ nw, w1.put _ (w1.lt o1), fun g e => ⟨?_, aload_one Try.underlying3 rfl (e.own _ _ ho), aload_one Try.underlying22 rfl (e.own _ _ ho)⟩⟩
 ·simp [aStore, o1, hc, ts24, putCells, Try.underlying24, one, h0]
 ·rw [aload_own Try.underlying24 rfl ts24 (e.own _ _ ho) (by simp)]; rfl
theorem PR.made {h : AHeap} {id : Nat} {ps : List Pr} (ho : h.own id = some (.cells (flatP ps))) {k : Nat} (hk : ps.length = k) : PR h (.slice (some ⟨id, 0, none⟩) k k) ps := by
 have := CS.own (k := 2) (off := 0) (n := k) (cap := k) ho (by rw [flatP_length, hk]; omega)
 rw [List.drop_zero, List.take_of_length_le (by rw [flatP_length, hk]; exact Nat.le_refl _)] at this
 rw [PR, hk]; exact this
structure GX (h : AHeap) (X : Nat) (n : Int) (ev : Value) (ps : List Pr) : Prop where
 ox : h.own X = some (.cells [.int .i64 n, ev])
 gp : GP h ev ps
 ne : blk ev ≠ some X
theorem GX.new {h : AHeap} (hw : WF h) (n : Int) : ∃ h1 h2, aAlloc Try.prog h 24 = some (.pointer (some ⟨h.next, 0, none⟩), h1) ∧ aStore Try.prog h1 24 (.pointer (some ⟨h.next, 0, none⟩)) (.agg #[.int .i64 n, .slice none 0 0]) = some h2 ∧ Le h h2 ∧ WF h2 ∧ h.own h.next = none ∧ GX h2 h.next n (.slice none 0 0) [] := by
 obtain ⟨h1, e1, l1, w1, o1⟩ := alloc_f hw [.int .i64 0, .slice none 0 0]
 have nw : h.own h.next = none := (Le.refl h).next hw (Nat.le_refl _)
 have ts24 : tsize Try.prog 24 = 2 := by kernel_rfl
 have hc : (Value.agg #[.int .i64 n, .slice none 0 0]).cells = #[.int .i64 n, .slice none 0 0] := rfl
 have h0 : (Value.int IntKind.i64 n).oneCell' = true := rfl
 have h1' : (Value.slice none 0 0).oneCell' = true := rfl
 have ho : (h1.put h.next (.cells [.int .i64 n, .slice none 0 0])).own h.next = some (.cells [.int .i64 n, .slice none 0 0]) := AHeap.own_put_eq _ _ _
 refine ⟨h1, h1.put h.next (.cells [.int .i64 n, .slice none 0 0]), by rw [alloc24, e1], ?_, l1.put _ nw, w1.put _ (w1.lt o1), nw, ⟨ho, GP.nil _, by simp [blk]⟩⟩
 simp [aStore, o1, hc, ts24, putCells, Try.underlying24, h0, h1']
theorem GX.le {h h' : AHeap} {X : Nat} {n : Int} {ev : Value} {ps : List Pr} (g : GX h X n ev ps) (e : Le h h') : GX h' X n ev ps := ⟨e.own _ _ g.ox, g.gp.le e, g.ne⟩
theorem GX.put {h : AHeap} {X : Nat} {n : Int} {ev : Value} {ps : List Pr} (g : GX h X n ev ps) {id : Nat} (o : AObj) (h1 : X ≠ id) (h2 : blk ev ≠ some id) : GX (h.put id o) X n ev ps :=
 ⟨by rw [AHeap.own_put_ne _ _ _ _ h1]; exact g.ox, GS.put g.gp _ h2, g.ne⟩
end Go.Fw
namespace Go.Fw
open Go.Proofs
attribute [local irreducible] KO4 KO3 KO2 KO1 KO KN KX KE VK KCond KDraw KCall KLoop
set_option maxHeartbeats 8000000
set_option maxRecDepth 10000
theorem build42 (x y : Int) : aBuild Try.prog 61 [(0, .int .i64 x), (1, .int .i64 y)] = some (valP (x, y)) := by kernel_rfl
end Go.Fw
namespace Go.Fw
open Go.Proofs
set_option maxRecDepth 10000
section
variable {α : Type} [DecidableEq α]
def setK : List (α × Int) → α → Int → List (α × Int)
 | [], k, v => [(k, v)]
 | (a, b) :: r, k, v => if a = k then (k, v) :: r else (a, b) :: setK r k v
def lookK : List (α × Int) → α → Option Int
 | [], _ => none
 | (a, b) :: r, k => if a = k then some b else lookK r k
theorem lookK_set (l : List (α × Int)) (k k' : α) (v : Int) : lookK (setK l k v) k' = if k = k' then some v else lookK l k' := by
 induction l with
 | nil => simp [setK, lookK]
 | cons x r ih =>
  obtain ⟨a, b⟩ := x
  simp only [setK]
  by_cases h : a = k
  ·subst h; rw [if_pos rfl]; simp only [lookK]; split <;> simp_all
  ·rw [if_neg h]; simp only [lookK, ih]
   by_cases h2 : a = k'
   ·subst h2; simp [Ne.symm h]
   ·simp [h2]
theorem lookK_mem {l : List (α × Int)} {k : α} : lookK l k ≠ none ↔ k ∈ l.map (·.1) := by
 induction l with
 | nil => simp [lookK]
 | cons x r ih =>
  obtain ⟨a, b⟩ := x
  simp only [lookK, List.map_cons, List.mem_cons]
  by_cases h : a = k
  ·simp [h]
  ·rw [if_neg h, ih]; simp [Ne.symm h]
theorem setK_keys (l : List (α × Int)) (k k' : α) (v : Int) : k' ∈ (setK l k v).map (·.1) ↔ k' = k ∨ k' ∈ l.map (·.1) := by
 rw [← lookK_mem, lookK_set, ← lookK_mem]
 by_cases h : k = k'
 ·simp [h]
 ·simp [h, Ne.symm h]
theorem setK_at (l : List (α × Int)) (k : α) (v : Int) : (lookK l k = none ∧ setK l k v = l ++ [(k, v)]) ∨ ∃ (j : Nat) (b : Int), lookK l k = some b ∧ l[j]? = some (k, b) ∧ (∀ i, i < j → ∀ x, l[i]? = some x → x.1 ≠ k) ∧ setK l k v = l.set j (k, v) := by
 induction l with
 | nil => exact .inl ⟨rfl, rfl⟩
 | cons x r ih =>
  obtain ⟨a, b⟩ := x
  simp only [setK, lookK]
  by_cases h : a = k
  ·subst h
   rw [if_pos rfl, if_pos rfl]
   exact .inr ⟨0, b, rfl, rfl, by omega, rfl⟩
  ·rw [if_neg h, if_neg h]
   rcases ih with ⟨h1, h2⟩ | ⟨j, c, h1, h2, h3, h4⟩
   ·exact .inl ⟨h1, by rw [h2]; rfl⟩
   ·refine .inr ⟨j + 1, c, h1, by simpa using h2, fun i hi x hx => ?_, by rw [h4]; rfl⟩
    cases i with
    | zero => simp at hx; subst hx; exact h
    | succ i => exact h3 i (by omega) x (by simpa using hx)
end
def mapP (l : List (Pr × Int)) : List (Value × Value) := l.map fun x => (valP x.1, .int .i64 x.2)
theorem afind_mapP (k : Pr) : ∀ (l : List (Pr × Int)) (i : Nat), (lookK l k = none → afind Try.prog 61 (valP k) (mapP l) i = some none) ∧ ∀ (j : Nat) b, l[j]? = some (k, b) → (∀ q, q < j → ∀ x, l[q]? = some x → x.1 ≠ k) → afind Try.prog 61 (valP k) (mapP l) i = some (some (i + j, .int .i64 b))
 | [], i => ⟨fun _ => rfl, fun j b h => by simp at h⟩
 | (a, b) :: r, i => by
  obtain ⟨h1, h2⟩ := afind_mapP k r (i + 1)
  have un : afind Try.prog 61 (valP k) (mapP ((a, b) :: r)) i = match aEq Try.prog 61 (valP k) (valP a) with | some true => some (some (i, .int .i64 b)) | some false => afind Try.prog 61 (valP k) (mapP r) (i + 1) | none => none := rfl
  rw [un, eqP]
  constructor
  ·intro h
   simp only [lookK] at h
   by_cases e : a = k
   ·rw [if_pos e] at h; cases h
   ·rw [if_neg e] at h
    have : decide (k = a) = false := by simpa using Ne.symm e
    rw [this]; exact h1 h
  ·intro j c hj hlt
   cases j with
   | zero =>
    simp at hj
    obtain ⟨rfl, rfl⟩ := hj
    have : decide (a = a) = true := by simp
    rw [this]; rfl
   | succ j =>
    have e : a ≠ k := hlt 0 (by omega) (a, b) rfl
    have : decide (k = a) = false := by simpa using Ne.symm e
    rw [this]
    show afind Try.prog 61 (valP k) (mapP r) (i + 1) = _
    rw [h2 j c (by simpa using hj) fun q hq x hx => hlt (q + 1) (by omega) x (by simpa using hx)]
    congr 3; omega
theorem keyP (p : Pr) : keyArr Try.prog 61 (valP p) = true := by
 have : allInts [.int .i64 p.1, .int .i64 p.2] = some [(IntKind.i64, p.1), (IntKind.i64, p.2)] := rfl
 simp [keyArr, Try.underlying61, Try.underlying3, valP, this, ts3]
theorem lookP_none {h : AHeap} {x : Value} (p : Pr) (ok : Bool) : aLookup Try.prog h 70 x (valP p) ok = none := by
 simp only [aLookup, Try.underlying70, valP]
theorem setP_none {h : AHeap} {x v : Value} (p : Pr) : aMapSet Try.prog h 70 x (valP p) v = none := by
 simp only [aMapSet, Try.underlying70, valP]
theorem mapP_look {h : AHeap} {M : Nat} {l : List (Pr × Int)} (ho : h.own M = some (.map (mapP l))) (k : Pr) (ok : Bool) :
  aLookupA Try.prog h 70 (.map (some M)) (valP k) ok = some (bif ok then .tuple #[.int .i64 ((lookK l k).getD 0), .bool (lookK l k).isSome] else .int .i64 ((lookK l k).getD 0)) := by
 have hz : azero Try.prog 3 = some (.int .i64 0) := by kernel_rfl
 simp only [aLookupA, Try.underlying70, keyP, ho, hz, show flat (.int .i64 0) = true from rfl, if_true]
 rcases setK_at l k 0 with ⟨h1, _⟩ | ⟨j, b, h1, h2, h3, _⟩
 ·rw [(afind_mapP k l 0).1 h1, h1]; rfl
 ·rw [(afind_mapP k l 0).2 j b h2 h3, h1]; rfl
theorem mapP_set {h : AHeap} {M : Nat} {l : List (Pr × Int)} (ho : h.own M = some (.map (mapP l))) (k : Pr) (v : Int) : aMapSetA Try.prog h 70 (.map (some M)) (valP k) (.int .i64 v) = some (h.put M (.map (mapP (setK l k v)))) := by
 simp only [aMapSetA, Try.underlying70, keyP, ho, if_true]
 rcases setK_at l k v with ⟨h1, h4⟩ | ⟨j, b, h1, h2, h3, h4⟩
 ·rw [(afind_mapP k l 0).1 h1, h4]; simp [mapP]
 ·rw [(afind_mapP k l 0).2 j b h2 h3, h4]; simp [mapP, List.map_set]
end Go.Fw
namespace Go.Fw
set_option maxRecDepth 10000
instance adjDec (es : List Pr) (u w : Nat) : Decidable (adj es u w) := by unfold adj; infer_instance
def nxtF (n : Nat) (es : List Pr) (o : List Nat) (v : Nat) : Option Nat := (List.range n).find? fun w => decide (adj es v w) && !o.contains w
def lastF (n : Nat) (es : List Pr) (o : List Nat) : List Nat → Option (Nat × Nat)
  | [] => none
  | v :: r => match nxtF n es o v with
    | some w => some (v, w)
    | none => lastF n es o r
def walkS (n : Nat) (es : List Pr) (st : List Nat × List Int) : List Nat × List Int :=
 match lastF n es st.1 st.1.reverse with
 | some (v, w) => (st.1 ++ [w], st.2.set w (v : Int))
 | none => st
def walkN (n : Nat) (es : List Pr) : Nat → List Nat × List Int → List Nat × List Int
 | 0, st => st
 | k + 1, st => walkN n es k (walkS n es st)
def walkF (n : Nat) (es : List Pr) (s : Nat) : List Nat × List Int := walkN n es n ([s], List.replicate n (-1))
theorem nxtF_some {n : Nat} {es : List Pr} {o : List Nat} {v w : Nat} (hr : InR n es) (h : nxtF n es o v = some w) : adj es v w ∧ w ∉ o ∧ ∀ y, adj es v y → y ∉ o → w ≤ y := by
 unfold nxtF at h
 have h1 := List.find?_some h
 simp only [Bool.and_eq_true, decide_eq_true_eq, Bool.not_eq_true', List.contains_eq_mem, decide_eq_false_iff_not] at h1
 refine ⟨h1.1, h1.2, fun y hy ho => ?_⟩
 rw [List.find?_range_eq_some] at h
 rcases Nat.lt_or_ge y w with hlt | hge
 ·have := h.2.2 y hlt
  simp [hy, ho] at this
 ·exact hge
theorem nxtF_none {n : Nat} {es : List Pr} {o : List Nat} {v : Nat} (hr : InR n es) (h : nxtF n es o v = none) : Full es o v := by
 intro y hy
 unfold nxtF at h
 rw [List.find?_eq_none] at h
 have := h y (List.mem_range.2 (hy.lt hr).2)
 simpa [hy] using this
theorem lastF_none {n : Nat} {es : List Pr} {o : List Nat} (hr : InR n es) : ∀ {l : List Nat}, lastF n es o l = none → ∀ x ∈ l, Full es o x
 | [], _, x, hx => by simp at hx
 | v :: r, h, x, hx => by
  simp only [lastF] at h
  split at h
  ·cases h
  ·rename_i hn
   rcases List.mem_cons.1 hx with rfl | hx
   ·exact nxtF_none hr hn
   ·exact lastF_none hr h x hx
theorem lastF_some {n : Nat} {es : List Pr} {o : List Nat} (hr : InR n es) : ∀ {l : List Nat} {v w : Nat}, lastF n es o l = some (v, w) → ∃ i, l[i]? = some v ∧ nxtF n es o v = some w ∧ ∀ (j x : Nat), j < i → l[j]? = some x → Full es o x
 | [], v, w, h => by cases h
 | u :: r, v, w, h => by
  simp only [lastF] at h
  split at h
  ·rename_i w' hn
   injection h with h; injection h with h1 h2; subst h1 h2
   exact ⟨0, rfl, hn, by omega⟩
  ·rename_i hn
   obtain ⟨i, h1, h2, h3⟩ := lastF_some hr h
   refine ⟨i + 1, by simpa using h1, h2, fun j x hj hx => ?_⟩
   cases j with
   | zero => simp at hx; subst hx; exact nxtF_none hr hn
   | succ j => exact h3 j x (by omega) (by simpa using hx)
theorem Dfs.ndlt {n : Nat} {es : List Pr} {s : Nat} {o : List Nat} {up : List Int} (hr : InR n es) (hs : s < n) (d : Dfs n es s o up) : o.Nodup ∧ ∀ x ∈ o, x < n := by
 induction d with
 | start => simp [hs]
 | @step o up k v w d hk ha hw hm hf ih =>
  refine ⟨?_, fun x hx => ?_⟩
  ·rw [List.nodup_append]
   exact ⟨ih.1, by simp, fun a hm' b hb e => by rw [List.mem_singleton] at hb; subst hb; subst e; exact hw hm'⟩
  ·rw [List.mem_append, List.mem_singleton] at hx
   rcases hx with hx | rfl
   ·exact ih.2 x hx
   ·exact (ha.lt hr).2
theorem Dfs.boundF {n : Nat} {es : List Pr} {s : Nat} {o : List Nat} {up : List Int} (hr : InR n es) (hs : s < n) (d : Dfs n es s o up) : o.length ≤ n := by
 have := (d.ndlt hr hs).1.length_le_of_subset (l₂ := List.range n) fun v hv => List.mem_range.2 ((d.ndlt hr hs).2 v hv)
 simpa using this
theorem walkN_fin {n : Nat} {es : List Pr} {s : Nat} (hr : InR n es) (hs : s < n) : ∀ (k : Nat) {o : List Nat} {up : List Int}, Dfs n es s o up → n < o.length + k → DfsFin n es s (walkN n es k (o, up)).1 (walkN n es k (o, up)).2
 | 0, o, up, d, h => by have := d.boundF hr hs; omega
 | k + 1, o, up, d, h => by
  simp only [walkN, walkS]
  split
  ·rename_i v w hl
   obtain ⟨i, h1, h2, h3⟩ := lastF_some hr hl
   obtain ⟨q1, q2, q3⟩ := nxtF_some hr h2
   have hi : i < o.length := by have := (List.getElem?_eq_some_iff.1 h1).1; simpa using this
   refine walkN_fin hr hs k (.step (k := o.length - 1 - i) d ?_ q1 q2 q3 fun j x hj hx => ?_) (by simp; omega)
   ·rw [List.getElem?_reverse hi] at h1; exact h1
   ·have hjl := (List.getElem?_eq_some_iff.1 hx).1
    refine h3 (o.length - 1 - j) x (by omega) ?_
    rw [List.getElem?_reverse (by omega)]
    have : o.length - 1 - (o.length - 1 - j) = j := by omega
    rw [this]; exact hx
  ·rename_i hl
   have hf : ∀ x ∈ o, Full es o x := fun x hx => lastF_none hr hl x (List.mem_reverse.2 hx)
   have : ∀ k, walkN n es k (o, up) = (o, up) := by
    intro k
    induction k with
    | zero => rfl
    | succ k ih => simp only [walkN, walkS]; rw [hl]; exact ih
   rw [this]
   exact ⟨d, hf⟩
theorem walkF_fin {n : Nat} {es : List Pr} {s : Nat} (hr : InR n es) (hs : s < n) : DfsFin n es s (walkF n es s).1 (walkF n es s).2 := walkN_fin hr hs n .start (by simp)
end Go.Fw
namespace Go.Fw
open Go.Proofs
set_option maxHeartbeats 8000000
set_option maxRecDepth 10000
abbrev Lw := Int × Int × Int
def cellsL (p : Lw) : List Value := [.int .i64 p.1, .int .i64 p.2.1, .int .i64 p.2.2]
def valL (p : Lw) : Value := .agg #[.int .i64 p.1, .int .i64 p.2.1, .int .i64 p.2.2]
def flatL (ps : List Lw) : List Value := ps.flatMap cellsL
theorem flatL_length (ps : List Lw) : (flatL ps).length = ps.length * 3 := by
 induction ps with
 | nil => rfl
 | cons p ps ih => simp [flatL, cellsL] at ih ⊢; omega
theorem flatL_get : ∀ (ps : List Lw) (i : Nat) (p : Lw), ps[i]? = some p → (flatL ps)[i * 3]? = some (.int .i64 p.1) ∧ (flatL ps)[i * 3 + 1]? = some (.int .i64 p.2.1) ∧ (flatL ps)[i * 3 + 2]? = some (.int .i64 p.2.2)
 | [], i, p, h => by simp at h
 | q :: ps, 0, p, h => by simp at h; subst h; simp [flatL, cellsL]
 | q :: ps, i + 1, p, h => by
  have := flatL_get ps i p (by simpa using h)
  have e : flatL (q :: ps) = .int .i64 q.1 :: .int .i64 q.2.1 :: .int .i64 q.2.2 :: flatL ps := rfl
  rw [e, show (i + 1) * 3 = (i * 3 + 2) + 1 by omega]
  simpa using this
section
variable {h : AHeap} {L n : Nat} {ls : List Lw}
end
end Go.Fw
