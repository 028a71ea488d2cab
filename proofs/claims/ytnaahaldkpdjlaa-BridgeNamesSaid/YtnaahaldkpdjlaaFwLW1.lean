/- A text of the proof. -/
import Derived.Test.YtnaahaldkpdjlaaFwLB12
import Derived.Test.YtnaahaldkpdjlaaFwLB13
import Derived.Test.YtnaahaldkpdjlaaFwLB14
import Derived.Test.YtnaahaldkpdjlaaFwLB9
import Derived.Test.YtnaahaldkpdjlaaFwFrame
import Derived.Test.YtnaahaldkpdjlaaFwVC
import Derived.Scope
set_option linter.unusedSimpArgs false
set_option linter.unusedVariables false
namespace Go.Fw
set_option maxRecDepth 10000
theorem Asc.lt {es : List Pr} (a : Asc es) {i j : Nat} {p q : Pr} (hij : i < j) (hi : es[i]? = some p) (hj : es[j]? = some q) : p.1 < q.1 ∨ p.1 = q.1 ∧ p.2 < q.2 := (cmpP_lt p q).1 (a i j p q hij hi hj)
def Full (es : List Pr) (o : List Nat) (x : Nat) : Prop := ∀ y, adj es x y → y ∈ o
inductive Dfs (n : Nat) (es : List Pr) (from_ : Nat) : List Nat → List Int → Prop
 | start : Dfs n es from_ [from_] (List.replicate n (-1))
 | step {o : List Nat} {up : List Int} {k v w : Nat} : Dfs n es from_ o up → o[k]? = some v → adj es v w → w ∉ o → (∀ y, adj es v y → y ∉ o → w ≤ y) → (∀ (j x : Nat), k < j → o[j]? = some x → Full es o x) → Dfs n es from_ (o ++ [w]) (up.set w (v : Int))
structure DfsFin (n : Nat) (es : List Pr) (from_ : Nat) (o : List Nat) (up : List Int) : Prop where
 dfs : Dfs n es from_ o up
 full : ∀ x ∈ o, Full es o x
theorem Dfs.len {n : Nat} {es : List Pr} {s : Nat} {o : List Nat} {up : List Int} (d : Dfs n es s o up) : 1 ≤ o.length ∧ up.length = n := by
 induction d with
 | start => simp
 | step _ _ _ _ _ _ ih => simp [ih.2]
theorem Dfs.same {n : Nat} {es : List Pr} {s : Nat} {o : List Nat} {up : List Int} (d : Dfs n es s o up) : ∀ {o' : List Nat} {up' : List Int}, Dfs n es s o' up' → o.length = o'.length → o = o' ∧ up = up' := by
 induction d with
 | start =>
  intro o' up' d' hl
  cases d' with
  | start => exact ⟨rfl, rfl⟩
  | step d1 _ _ _ _ _ => have := d1.len.1; simp at hl; rw [hl] at this; simp at this
 | @step o up k v w d hk ha hw hm hf ih =>
  intro o' up' d' hl
  cases d' with
  | start => have := d.len.1; simp at hl; rw [hl] at this; simp at this
  | @step o1 up1 k1 v1 w1 d1 hk1 ha1 hw1 hm1 hf1 =>
   obtain ⟨rfl, rfl⟩ := ih d1 (by simpa using hl)
   have hkk : k = k1 := by
    rcases Nat.lt_trichotomy k k1 with h | h | h
    ·exact absurd (hf k1 v1 h hk1 w1 ha1) hw1
    ·exact h
    ·exact absurd (hf1 k v h hk w ha) hw
   subst hkk
   rw [hk] at hk1; injection hk1 with hk1; subst hk1
   have := hm w1 ha1 hw1
   have := hm1 w ha hw
   obtain rfl : w = w1 := by omega
   exact ⟨rfl, rfl⟩
theorem Dfs.peel {n : Nat} {es : List Pr} {s : Nat} {o : List Nat} {up : List Int} (d : Dfs n es s o up) : ∀ m, 1 ≤ m → m < o.length → ∃ o' up', Dfs n es s o' up' ∧ o'.length = m ∧ ∃ x ∈ o', ¬ Full es o' x := by
 induction d with
 | start => intro m h1 h2; simp at h2; omega
 | @step o up k v w d hk ha hw hm hf ih =>
  intro m h1 h2
  by_cases h : m < o.length
  ·exact ih m h1 h
  ·simp at h2
   exact ⟨o, up, d, by omega, v, List.mem_of_getElem? hk, fun f => hw (f w ha)⟩
theorem DfsFin.uniq {n : Nat} {es : List Pr} {s : Nat} {o o' : List Nat} {up up' : List Int} (a : DfsFin n es s o up) (b : DfsFin n es s o' up') : o = o' ∧ up = up' := by
 have key : ∀ {o o' : List Nat} {up up' : List Int}, DfsFin n es s o up → DfsFin n es s o' up' → ¬ o.length < o'.length := by
  intro o o' up up' a b h
  obtain ⟨o2, up2, d2, hl, x, hx, hf⟩ := b.dfs.peel o.length a.dfs.len.1 h
  obtain ⟨rfl, rfl⟩ := a.dfs.same d2 hl.symm
  exact hf (a.full x hx)
 have h1 := key a b
 have h2 := key b a
 exact a.dfs.same b.dfs (by omega)
structure DS (n : Nat) (es : List Pr) (s : Nat) (met : List Bool) (tried : List Nat) (o opn : List Nat) (up : List Int) : Prop where
 dfs : Dfs n es s o up
 metl : met.length = n
 mm : ∀ v, v < n → (met[v]? = some true ↔ v ∈ o)
 trl : tried.length = n
 tr : ∀ v t, tried[v]? = some t → t ≤ ((besM n es).getD v []).length ∧ ∀ x ∈ ((besM n es).getD v []).take t, x.toNat ∈ o
 sub : opn.Sublist o
 closed : ∀ v ∈ o, v ∉ opn → Full es o v
 lt : ∀ v ∈ o, v < n
 nodup : o.Nodup
theorem DS.start {n : Nat} {es : List Pr} {s : Nat} (hs : s < n) : DS n es s ((List.replicate n false).set s true) (List.replicate n 0) [s] [s] (List.replicate n (-1)) where
 dfs := .start
 metl := by simp
 mm v hv := by
  rw [List.getElem?_set, List.mem_singleton]
  by_cases e : s = v
  ·subst e; simp [hs]
  ·simp [e, hv, Ne.symm e]
 trl := by simp
 tr v t ht := by
  rw [List.getElem?_replicate] at ht
  split at ht
  ·injection ht with ht; subst ht; simp
  ·cases ht
 sub := List.Sublist.refl _
 closed v hv hn := absurd hv hn
 lt v hv := by rw [List.mem_singleton] at hv; omega
 nodup := by simp
theorem DS.last {n : Nat} {es : List Pr} {s : Nat} {met : List Bool} {tried o opn : List Nat} {up : List Int} {v : Nat} (d : DS n es s met tried o (opn ++ [v]) up) :
  ∃ k, o[k]? = some v ∧ ∀ (j x : Nat), k < j → o[j]? = some x → Full es o x := by
 obtain ⟨a, b, rfl, h1, h2⟩ := List.append_sublist_iff.1 d.sub
 have hv : v ∈ b := by simpa using h2
 obtain ⟨i, hi⟩ := List.mem_iff_getElem?.1 hv
 refine ⟨a.length + i, by rw [List.getElem?_append_right (by omega)]; simpa using hi, fun j x hj hx => ?_⟩
 have hxo : x ∈ a ++ b := List.mem_of_getElem? hx
 refine d.closed x hxo fun hxm => ?_
 rw [List.getElem?_append_right (by omega)] at hx
 have nd := d.nodup
 rw [List.nodup_append] at nd
 rw [List.mem_append, List.mem_singleton] at hxm
 rcases hxm with hxm | rfl
 ·exact nd.2.2 x (h1.subset hxm) x (List.mem_of_getElem? hx) rfl
 ·have : j - a.length = i := by
   have nb := nd.2.1
   exact (List.getElem?_inj (List.getElem?_eq_some_iff.1 hx).1 nb).1 (hx.trans hi.symm)
  omega
end Go.Fw
namespace Go.Fw
open Go.Proofs
set_option maxHeartbeats 4000000
set_option maxRecDepth 10000
theorem sorted_eq : ∀ (a b : List Int), a.Pairwise (· < ·) → b.Pairwise (· < ·) → (∀ x, x ∈ a ↔ x ∈ b) → a = b
 | [], [], _, _, _ => rfl
 | [], y :: b, _, _, h => by have := (h y).2 (by simp); simp at this
 | x :: a, [], _, _, h => by have := (h x).1 (by simp); simp at this
 | x :: a, y :: b, ha, hb, h => by
  rw [List.pairwise_cons] at ha hb
  have e : x = y := by
   have h1 := (h x).1 (by simp)
   have h2 := (h y).2 (by simp)
   rw [List.mem_cons] at h1 h2
   rcases h1 with h1 | h1
   ·exact h1
   ·rcases h2 with h2 | h2
    ·exact h2.symm
    ·have := hb.1 x h1; have := ha.1 y h2; omega
  subst e
  rw [sorted_eq a b ha.2 hb.2 fun z => ?_]
  constructor
  ·intro hz
   have := (h z).1 (by simp [hz])
   rw [List.mem_cons] at this
   rcases this with rfl | h'
   ·have := ha.1 z hz; omega
   ·exact h'
  ·intro hz
   have := (h z).2 (by simp [hz])
   rw [List.mem_cons] at this
   rcases this with rfl | h'
   ·have := hb.1 z hz; omega
   ·exact h'
theorem compact_mem (l : List Int) (x : Int) : x ∈ Lib.compact l ↔ x ∈ l := by
 simp only [Lib.compact, Lib.compactUpTo, List.mem_map, List.mem_filter, List.mem_range]
 constructor
 ·rintro ⟨j, ⟨hj, _⟩, rfl⟩
  rw [getElem!_pos _ j (by simpa using hj)]
  simp
 ·intro hx
  obtain ⟨j, hj, rfl⟩ := List.mem_iff_getElem.1 hx
  clear hx
  induction j with
  | zero => exact ⟨0, ⟨hj, by simp [Lib.keeps]⟩, by rw [getElem!_pos _ 0 (by simpa using hj)]; simp⟩
  | succ j ih =>
   by_cases c : l[j + 1] = l[j]
   ·rw [c]; exact ih (by omega)
   ·refine ⟨j + 1, ⟨hj, ?_⟩, by rw [getElem!_pos _ (j + 1) (by simpa using hj)]; simp⟩
    simp only [Lib.keeps, decide_eq_true_eq, Nat.add_sub_cancel]
    right
    rw [getElem!_pos _ (j + 1) (by simpa using hj), getElem!_pos _ j (by simp; omega)]
    simpa using c
theorem compact_lt {l : List Int} (h : l.Pairwise (· ≤ ·)) : (Lib.compact l).Pairwise (· < ·) := by
 simp only [Lib.compact, Lib.compactUpTo]
 rw [List.pairwise_map]
 have h1 : ((List.range l.length).filter (Lib.keeps l.toArray)).Pairwise (· < ·) := List.Pairwise.filter _ List.pairwise_lt_range
 refine List.Pairwise.imp_of_mem ?_ h1
 intro i j hi hj hij
 rw [List.mem_filter, List.mem_range] at hi hj
 obtain ⟨hj1, hj2⟩ := hj
 simp only [Lib.keeps, decide_eq_true_eq] at hj2
 rw [getElem!_pos _ i (by simp; omega), getElem!_pos _ j (by simpa using hj1)] at *
 rcases hj2 with h0 | h0
 ·omega
 ·rw [getElem!_pos _ (j - 1) (by simp; omega)] at h0
  rw [List.pairwise_iff_getElem] at h
  simp only [List.getElem_toArray] at *
  have h2 := h (j - 1) j (by omega) hj1 (by omega)
  by_cases e : i = j - 1
  ·subst e; omega
  ·have := h i (j - 1) (by omega) (by omega) (by omega); omega
theorem sortI_mem (l : List Int) (x : Int) : x ∈ sortI l ↔ x ∈ l := by simp [sortI]
theorem sortI_le (l : List Int) : (sortI l).Pairwise (· ≤ ·) := by
 have := List.pairwise_mergeSort (le := fun x y : Int => decide (x ≤ y)) (fun a b c h1 h2 => by simp at *; omega) (fun a b => by simp; omega) l
 simpa [sortI] using this
end Go.Fw
namespace Go.Fw
open Go.Proofs
attribute [local irreducible] KO4 KO3 KO2 KO1 KO KN KX KE VK KCond KDraw KCall KLoop
set_option maxHeartbeats 8000000
set_option maxRecDepth 10000
def GU (h : AHeap) (v : Value) (xs : List Int) : Prop := GT 1 h v xs.length (I64 xs)
theorem GU.le {h h' : AHeap} {v : Value} {xs : List Int} (g : GU h v xs) (e : Le h h') : GU h' v xs := GT.le g e
theorem GU.rl {h : AHeap} {v : Value} {xs : List Int} (g : GU h v xs) : RL isI h v xs := RL.ofI (GT.cs g).rs
theorem GU.kept {h h' : AHeap} {v : Value} {xs : List Int} (g : GU h v xs) (hk : ∀ b o, blk v = some b → h.own b = some o → h'.own b = some o) : GU h' v xs := GT.kept g hk
def Bo (l : List Bool) : List Value := l.map Value.bool
theorem Bo_set (l : List Bool) (i : Nat) (b : Bool) : (Bo l).set i (.bool b) = Bo (l.set i b) := by simp [Bo, List.map_set]
end Go.Fw
namespace Go.Fw
open Go.Proofs
attribute [local irreducible] KO4 KO3 KO2 KO1 KO KN KX KE VK KCond KDraw KCall KLoop
set_option maxHeartbeats 8000000
set_option maxRecDepth 10000
structure WkP (n : Nat) (h hq : AHeap) (U M R : Nat) (ov wv : Value) (met : List Bool) (tried o opn : List Nat) (up : List Int) : Prop where
 oU : hq.own U = some (.cells (I64 up))
 oM : hq.own M = some (.cells (Bo met))
 oR : hq.own R = some (.cells (I64 (nat64 tried)))
 go : GI hq ov (nat64 o)
 gw : GU hq wv (nat64 opn)
 ap : ∀ b, blk ov = some b → blk wv ≠ some b
 oo : blk ov ≠ some U ∧ blk ov ≠ some M ∧ blk ov ≠ some R
 ww : blk wv ≠ some U ∧ blk wv ≠ some M ∧ blk wv ≠ some R
 ne : U ≠ M ∧ U ≠ R ∧ M ≠ R
 le : Le h hq
 nn : h.own U = none ∧ h.own M = none ∧ h.own R = none
 ao : Apart h ov
 aw : Apart h wv
 lm : met.length = n
 lt : tried.length = n
 lu : up.length = n
structure WkH (n : Nat) (es : List Pr) (s : Nat) (h hq : AHeap) (U M R : Nat) (ov wv : Value) (met : List Bool) (tried o opn : List Nat) (up : List Int) : Prop extends WkP n h hq U M R ov wv met tried o opn up where
 ds : DS n es s met tried o opn up
end Go.Fw
namespace Go.Fw
set_option maxRecDepth 10000
abbrev offA : Nat → Bool := fun _ => false
abbrev Con (es : List Pr) : Nat → Nat → Prop := Cn offA es
theorem Con.refl (es : List Pr) (u : Nat) : Con es u u := Cn.refl rfl
theorem Con.lt {n : Nat} {es : List Pr} (hr : InR n es) {u w : Nat} (h : Con es u w) (hu : u < n) : w < n := by
 induction h with
 | refl _ => exact hu
 | step _ a _ _ => exact (a.lt hr).2
theorem Dfs.con {n : Nat} {es : List Pr} {s : Nat} {o : List Nat} {up : List Int} (d : Dfs n es s o up) : ∀ v ∈ o, Con es s v := by
 induction d with
 | start => intro v hv; rw [List.mem_singleton] at hv; subst hv; exact Con.refl es _
 | step d hk ha _ _ _ ih =>
  intro x hx
  rw [List.mem_append, List.mem_singleton] at hx
  rcases hx with hx | rfl
  ·exact ih x hx
  ·exact .step (ih _ (List.mem_of_getElem? hk)) ha rfl
theorem Dfs.head {n : Nat} {es : List Pr} {s : Nat} {o : List Nat} {up : List Int} (d : Dfs n es s o up) : o[0]? = some s := by
 induction d with
 | start => rfl
 | step d _ _ _ _ _ ih => rw [List.getElem?_append_left (by have := d.len.1; omega)]; exact ih
theorem Dfs.nodup {n : Nat} {es : List Pr} {s : Nat} {o : List Nat} {up : List Int} (d : Dfs n es s o up) : o.Nodup := by
 induction d with
 | start => simp
 | step d _ _ hw _ _ ih =>
  rw [List.nodup_append]
  exact ⟨ih, by simp, fun a ha b hb e => by rw [List.mem_singleton] at hb; subst hb; subst e; exact hw ha⟩
theorem DfsFin.mem {n : Nat} {es : List Pr} {s : Nat} {o : List Nat} {up : List Int} (d : DfsFin n es s o up) (v : Nat) : v ∈ o ↔ Con es s v := by
 refine ⟨d.dfs.con v, fun h => ?_⟩
 induction h with
 | refl _ => exact List.mem_of_getElem? d.dfs.head
 | step _ a _ ih => exact d.full _ ih _ a
theorem range_asc (n : Nat) : (List.range n).Pairwise (· < ·) := by
 rw [List.pairwise_iff_getElem]; intro i j hi hj hij; simpa using hij
end Go.Fw
namespace Go.Fw
open Go.Proofs
set_option maxHeartbeats 8000000
set_option maxRecDepth 10000
structure FarI (n : Nat) (es : List Pr) (s : Nat) (L : List Int) (met : List Nat) (cl : Nat → Nat → Prop) : Prop where
 len : L.length = n
 val : ∀ (v : Nat) (x : Int), L[v]? = some x → x = -1 ∨ 0 ≤ x ∧ v ∈ met
 mm : ∀ v ∈ met, v < n ∧ Con es s v ∧ ∃ x : Int, L[v]? = some x ∧ 0 ≤ x
 nd : met.Nodup
 s0 : L[s]? = some 0
 ms : s ∈ met
 pre : ∀ (v : Nat) (x : Int), L[v]? = some x → 0 < x → ∃ w, adj es v w ∧ L[w]? = some (x - 1)
 zero : ∀ (v : Nat), L[v]? = some 0 → v = s
 cl : ∀ u w, cl u w → w ∈ met
 bd : ∀ (v : Nat) (x : Int), L[v]? = some x → x + 1 ≤ met.length
structure Far (n : Nat) (es : List Pr) (s : Nat) (L : List Int) : Prop where
 len : L.length = n
 pos : ∀ (v : Nat) (x : Int), L[v]? = some x → (0 ≤ x ↔ Con es s v)
 pre : ∀ (v : Nat) (x : Int), L[v]? = some x → 0 < x → ∃ w, adj es v w ∧ L[w]? = some (x - 1)
 zero : ∀ (v : Nat), L[v]? = some 0 → v = s
 bd : ∀ (v : Nat) (x : Int), L[v]? = some x → -1 ≤ x ∧ x + 1 ≤ n
theorem FarI.start {n : Nat} {es : List Pr} {s : Nat} (hs : s < n) (cl : Nat → Nat → Prop) (hcl : ∀ u w, ¬ cl u w) : FarI n es s ((List.replicate n (-1)).set s 0) [s] cl := by
 have gs : ∀ (v : Nat) (x : Int), ((List.replicate n (-1 : Int)).set s 0)[v]? = some x → v = s ∧ x = 0 ∨ x = -1 := by
  intro v x h
  rw [List.getElem?_set] at h
  split at h
  ·rename_i e; split at h
   ·injection h with h; exact .inl ⟨e.symm, h.symm⟩
   ·cases h
  ·rw [List.getElem?_replicate] at h
   split at h
   ·injection h with h; exact .inr h.symm
   ·cases h
 have h0 : ((List.replicate n (-1 : Int)).set s 0)[s]? = some 0 := by rw [List.getElem?_set]; simp [hs]
 refine ⟨by simp, fun v x h => ?_, fun v hv => ?_, by simp, h0, by simp, fun v x h hx => ?_, fun v h => ?_, fun u w h => absurd h (hcl u w), fun v x h => ?_⟩
 ·rcases gs v x h with ⟨rfl, rfl⟩ | rfl
  ·exact .inr ⟨Int.le_refl _, by simp⟩
  ·exact .inl rfl
 ·rw [List.mem_singleton] at hv; subst hv; exact ⟨hs, Con.refl es _, 0, h0, Int.le_refl _⟩
 ·rcases gs v x h with ⟨rfl, rfl⟩ | rfl <;> omega
 ·rcases gs v 0 h with ⟨rfl, _⟩ | e
  ·rfl
  ·omega
 ·rcases gs v x h with ⟨rfl, rfl⟩ | rfl <;> simp
theorem FarI.mono {n : Nat} {es : List Pr} {s : Nat} {L : List Int} {met : List Nat} {cl cl' : Nat → Nat → Prop} (t : FarI n es s L met cl) (h : ∀ u w, cl' u w → cl u w) : FarI n es s L met cl' :=
 { t with cl := fun u w hc => t.cl u w (h u w hc) }
end Go.Fw
namespace Go.Fw
open Go.Proofs
attribute [local irreducible] KO4 KO3 KO2 KO1 KO KN KX KE VK KCond KDraw KCall KLoop
set_option maxHeartbeats 8000000
set_option maxRecDepth 10000
theorem d2 : decide ((2 : Int) = 0) = false := by decide
end Go.Fw
namespace Go.Fw
open Go.Proofs
set_option maxHeartbeats 4000000
set_option maxRecDepth 10000
theorem build24 {n : Int} {v : Value} {k : Nat} (hv : isSl v k) : aBuild Try.prog 24 [(0, .int .i64 n), (1, v)] = some (.agg #[.int .i64 n, v]) := by
 obtain ⟨_, _, rfl, _⟩ := hv
 kernel_rfl
theorem alloc24 (h : AHeap) : aAlloc Try.prog h 24 = some (.pointer (some ⟨h.next, 0, none⟩), h.alloc (.cells [.int .i64 0, .slice none 0 0])) := rfl
theorem newG {h : AHeap} (hw : WF h) {n : Int} {ev : Value} {es : List Pr} (r : PR h ev es) : ∃ h1 h2, aAlloc Try.prog h 24 = some (.pointer (some ⟨h.next, 0, none⟩), h1) ∧ aStore Try.prog h1 24 (.pointer (some ⟨h.next, 0, none⟩)) (.agg #[.int .i64 n, ev]) = some h2 ∧ Le h h2 ∧ WF h2 ∧
  ∀ g, Le h2 g → aload Try.prog g 24 ⟨h.next, 0, none⟩ = some (.agg #[.int .i64 n, ev]) ∧ aload Try.prog g 3 ⟨h.next, 0, none⟩ = some (.int .i64 n) ∧ aload Try.prog g 22 ⟨h.next, 1, none⟩ = some ev := by
 obtain ⟨h1, e1, l1, w1, o1⟩ := alloc_f hw [.int .i64 0, .slice none 0 0]
 have nw : h.own h.next = none := (Le.refl h).next hw (Nat.le_refl _)
 have one := r.sl.one
 have ts24 : tsize Try.prog 24 = 2 := by kernel_rfl
 have hc : (Value.agg #[.int .i64 n, ev]).cells = #[.int .i64 n, ev] := rfl
 have h0 : (Value.int IntKind.i64 n).oneCell' = true := rfl
 have ho : (h1.put h.next (.cells [.int .i64 n, ev])).own h.next = some (.cells [.int .i64 n, ev]) := AHeap.own_put_eq _ _ _
 refine ⟨h1, h1.put h.next (.cells [.int .i64 n, ev]), by rw [alloc24, e1], ?_, l1.put _ nw, w1.put _ (w1.lt o1), fun g e => ⟨?_, aload_one Try.underlying3 rfl (e.own _ _ ho), aload_one Try.underlying22 rfl (e.own _ _ ho)⟩⟩
 ·simp [aStore, o1, hc, ts24, putCells, Try.underlying24, one, h0]
 ·rw [aload_own Try.underlying24 rfl ts24 (e.own _ _ ho) (by simp)]; rfl
theorem mkP8 (h : AHeap) (p0 p1 p2 p3 p4 p5 p6 p7 : Pr) : aBuildSlice Try.prog h 22 8 [(0, valP p0), (1, valP p1), (2, valP p2), (3, valP p3), (4, valP p4), (5, valP p5), (6, valP p6), (7, valP p7)] = some (.slice (some ⟨h.next, 0, none⟩) 8 8, h.alloc (.cells (flatP [p0, p1, p2, p3, p4, p5, p6, p7]))) := by kernel_rfl
theorem mkP4 (h : AHeap) (p0 p1 p2 p3 : Pr) : aBuildSlice Try.prog h 22 4 [(0, valP p0), (1, valP p1), (2, valP p2), (3, valP p3)] = some (.slice (some ⟨h.next, 0, none⟩) 4 4, h.alloc (.cells (flatP [p0, p1, p2, p3]))) := by kernel_rfl
theorem mkP2 (h : AHeap) (p0 p1 : Pr) : aBuildSlice Try.prog h 22 2 [(0, valP p0), (1, valP p1)] = some (.slice (some ⟨h.next, 0, none⟩) 2 2, h.alloc (.cells (flatP [p0, p1]))) := by kernel_rfl
theorem mkP1' (h : AHeap) (p0 : Pr) : aBuildSlice Try.prog h 22 1 [(0, valP p0)] = some (.slice (some ⟨h.next, 0, none⟩) 1 1, h.alloc (.cells (flatP [p0]))) := by kernel_rfl
theorem mkP3 (h : AHeap) (p0 p1 p2 : Pr) : aBuildSlice Try.prog h 22 3 [(0, valP p0), (1, valP p1), (2, valP p2)] = some (.slice (some ⟨h.next, 0, none⟩) 3 3, h.alloc (.cells (flatP [p0, p1, p2]))) := by kernel_rfl
theorem mkI3 (h : AHeap) (a b c : Int) : aBuildSlice Try.prog h 38 3 [(0, .int .i64 a), (1, .int .i64 b), (2, .int .i64 c)] = some (.slice (some ⟨h.next, 0, none⟩) 3 3, h.alloc (.cells [.int .i64 a, .int .i64 b, .int .i64 c])) := by kernel_rfl
theorem PR.made {h : AHeap} {id : Nat} {ps : List Pr} (ho : h.own id = some (.cells (flatP ps))) {k : Nat} (hk : ps.length = k) : PR h (.slice (some ⟨id, 0, none⟩) k k) ps := by
 have := CS.own (k := 2) (off := 0) (n := k) (cap := k) ho (by rw [flatP_length, hk]; omega)
 rw [List.drop_zero, List.take_of_length_le (by rw [flatP_length, hk]; exact Nat.le_refl _)] at this
 rw [PR, hk]; exact this
structure GX (h : AHeap) (X : Nat) (n : Int) (ev : Value) (ps : List Pr) : Prop where
 ox : h.own X = some (.cells [.int .i64 n, ev])
 gp : GP h ev ps
 ne : blk ev ≠ some X
theorem GX.new {h : AHeap} (hw : WF h) (n : Int) : ∃ h1 h2, aAlloc Try.prog h 24 = some (.pointer (some ⟨h.next, 0, none⟩), h1) ∧ aStore Try.prog h1 24 (.pointer (some ⟨h.next, 0, none⟩)) (.agg #[.int .i64 n, .slice none 0 0]) = some h2 ∧ Le h h2 ∧ WF h2 ∧ h.own h.next = none ∧ GX h2 h.next n (.slice none 0 0) [] := by
 obtain ⟨h1, e1, l1, w1, o1⟩ := alloc_f hw [.int .i64 0, .slice none 0 0]
 have nw : h.own h.next = none := (Le.refl h).next hw (Nat.le_refl _)
 have ts24 : tsize Try.prog 24 = 2 := by kernel_rfl
 have hc : (Value.agg #[.int .i64 n, .slice none 0 0]).cells = #[.int .i64 n, .slice none 0 0] := rfl
 have h0 : (Value.int IntKind.i64 n).oneCell' = true := rfl
 have h1' : (Value.slice none 0 0).oneCell' = true := rfl
 have ho : (h1.put h.next (.cells [.int .i64 n, .slice none 0 0])).own h.next = some (.cells [.int .i64 n, .slice none 0 0]) := AHeap.own_put_eq _ _ _
 refine ⟨h1, h1.put h.next (.cells [.int .i64 n, .slice none 0 0]), by rw [alloc24, e1], ?_, l1.put _ nw, w1.put _ (w1.lt o1), nw, ⟨ho, GP.nil _, by simp [blk]⟩⟩
 simp [aStore, o1, hc, ts24, putCells, Try.underlying24, h0, h1']
theorem GX.le {h h' : AHeap} {X : Nat} {n : Int} {ev : Value} {ps : List Pr} (g : GX h X n ev ps) (e : Le h h') : GX h' X n ev ps := ⟨e.own _ _ g.ox, g.gp.le e, g.ne⟩
theorem GX.put {h : AHeap} {X : Nat} {n : Int} {ev : Value} {ps : List Pr} (g : GX h X n ev ps) {id : Nat} (o : AObj) (h1 : X ≠ id) (h2 : blk ev ≠ some id) : GX (h.put id o) X n ev ps :=
 ⟨by rw [AHeap.own_put_ne _ _ _ _ h1]; exact g.ox, GS.put g.gp _ h2, g.ne⟩
end Go.Fw
namespace Go.Fw
open Go.Proofs
set_option maxRecDepth 10000
section
variable {α : Type} [DecidableEq α]
def setK : List (α × Int) → α → Int → List (α × Int)
 | [], k, v => [(k, v)]
 | (a, b) :: r, k, v => if a = k then (k, v) :: r else (a, b) :: setK r k v
def lookK : List (α × Int) → α → Option Int
 | [], _ => none
 | (a, b) :: r, k => if a = k then some b else lookK r k
theorem lookK_set (l : List (α × Int)) (k k' : α) (v : Int) : lookK (setK l k v) k' = if k = k' then some v else lookK l k' := by
 induction l with
 | nil => simp [setK, lookK]
 | cons x r ih =>
  obtain ⟨a, b⟩ := x
  simp only [setK]
  by_cases h : a = k
  ·subst h; rw [if_pos rfl]; simp only [lookK]; split <;> simp_all
  ·rw [if_neg h]; simp only [lookK, ih]
   by_cases h2 : a = k'
   ·subst h2; simp [Ne.symm h]
   ·simp [h2]
theorem lookK_mem {l : List (α × Int)} {k : α} : lookK l k ≠ none ↔ k ∈ l.map (·.1) := by
 induction l with
 | nil => simp [lookK]
 | cons x r ih =>
  obtain ⟨a, b⟩ := x
  simp only [lookK, List.map_cons, List.mem_cons]
  by_cases h : a = k
  ·simp [h]
  ·rw [if_neg h, ih]; simp [Ne.symm h]
theorem setK_keys (l : List (α × Int)) (k k' : α) (v : Int) : k' ∈ (setK l k v).map (·.1) ↔ k' = k ∨ k' ∈ l.map (·.1) := by
 rw [← lookK_mem, lookK_set, ← lookK_mem]
 by_cases h : k = k'
 ·simp [h]
 ·simp [h, Ne.symm h]
theorem setK_at (l : List (α × Int)) (k : α) (v : Int) : (lookK l k = none ∧ setK l k v = l ++ [(k, v)]) ∨ ∃ (j : Nat) (b : Int), lookK l k = some b ∧ l[j]? = some (k, b) ∧ (∀ i, i < j → ∀ x, l[i]? = some x → x.1 ≠ k) ∧ setK l k v = l.set j (k, v) := by
 induction l with
 | nil => exact .inl ⟨rfl, rfl⟩
 | cons x r ih =>
  obtain ⟨a, b⟩ := x
  simp only [setK, lookK]
  by_cases h : a = k
  ·subst h
   rw [if_pos rfl, if_pos rfl]
   exact .inr ⟨0, b, rfl, rfl, by omega, rfl⟩
  ·rw [if_neg h, if_neg h]
   rcases ih with ⟨h1, h2⟩ | ⟨j, c, h1, h2, h3, h4⟩
   ·exact .inl ⟨h1, by rw [h2]; rfl⟩
   ·refine .inr ⟨j + 1, c, h1, by simpa using h2, fun i hi x hx => ?_, by rw [h4]; rfl⟩
    cases i with
    | zero => simp at hx; subst hx; exact h
    | succ i => exact h3 i (by omega) x (by simpa using hx)
end
def mapP (l : List (Pr × Int)) : List (Value × Value) := l.map fun x => (valP x.1, .int .i64 x.2)
theorem afind_mapP (k : Pr) : ∀ (l : List (Pr × Int)) (i : Nat), (lookK l k = none → afind Try.prog 61 (valP k) (mapP l) i = some none) ∧ ∀ (j : Nat) b, l[j]? = some (k, b) → (∀ q, q < j → ∀ x, l[q]? = some x → x.1 ≠ k) → afind Try.prog 61 (valP k) (mapP l) i = some (some (i + j, .int .i64 b))
 | [], i => ⟨fun _ => rfl, fun j b h => by simp at h⟩
 | (a, b) :: r, i => by
  obtain ⟨h1, h2⟩ := afind_mapP k r (i + 1)
  have un : afind Try.prog 61 (valP k) (mapP ((a, b) :: r)) i = match aEq Try.prog 61 (valP k) (valP a) with | some true => some (some (i, .int .i64 b)) | some false => afind Try.prog 61 (valP k) (mapP r) (i + 1) | none => none := rfl
  rw [un, eqP]
  constructor
  ·intro h
   simp only [lookK] at h
   by_cases e : a = k
   ·rw [if_pos e] at h; cases h
   ·rw [if_neg e] at h
    have : decide (k = a) = false := by simpa using Ne.symm e
    rw [this]; exact h1 h
  ·intro j c hj hlt
   cases j with
   | zero =>
    simp at hj
    obtain ⟨rfl, rfl⟩ := hj
    have : decide (a = a) = true := by simp
    rw [this]; rfl
   | succ j =>
    have e : a ≠ k := hlt 0 (by omega) (a, b) rfl
    have : decide (k = a) = false := by simpa using Ne.symm e
    rw [this]
    show afind Try.prog 61 (valP k) (mapP r) (i + 1) = _
    rw [h2 j c (by simpa using hj) fun q hq x hx => hlt (q + 1) (by omega) x (by simpa using hx)]
    congr 3; omega
theorem keyP (p : Pr) : keyArr Try.prog 61 (valP p) = true := by
 have : allInts [.int .i64 p.1, .int .i64 p.2] = some [(IntKind.i64, p.1), (IntKind.i64, p.2)] := rfl
 simp [keyArr, Try.underlying61, Try.underlying3, valP, this, ts3]
theorem lookP_none {h : AHeap} {x : Value} (p : Pr) (ok : Bool) : aLookup Try.prog h 70 x (valP p) ok = none := by
 simp only [aLookup, Try.underlying70, valP]
theorem setP_none {h : AHeap} {x v : Value} (p : Pr) : aMapSet Try.prog h 70 x (valP p) v = none := by
 simp only [aMapSet, Try.underlying70, valP]
theorem mapP_look {h : AHeap} {M : Nat} {l : List (Pr × Int)} (ho : h.own M = some (.map (mapP l))) (k : Pr) (ok : Bool) :
  aLookupA Try.prog h 70 (.map (some M)) (valP k) ok = some (bif ok then .tuple #[.int .i64 ((lookK l k).getD 0), .bool (lookK l k).isSome] else .int .i64 ((lookK l k).getD 0)) := by
 have hz : azero Try.prog 3 = some (.int .i64 0) := by kernel_rfl
 simp only [aLookupA, Try.underlying70, keyP, ho, hz, show flat (.int .i64 0) = true from rfl, if_true]
 rcases setK_at l k 0 with ⟨h1, _⟩ | ⟨j, b, h1, h2, h3, _⟩
 ·rw [(afind_mapP k l 0).1 h1, h1]; rfl
 ·rw [(afind_mapP k l 0).2 j b h2 h3, h1]; rfl
theorem mapP_set {h : AHeap} {M : Nat} {l : List (Pr × Int)} (ho : h.own M = some (.map (mapP l))) (k : Pr) (v : Int) : aMapSetA Try.prog h 70 (.map (some M)) (valP k) (.int .i64 v) = some (h.put M (.map (mapP (setK l k v)))) := by
 simp only [aMapSetA, Try.underlying70, keyP, ho, if_true]
 rcases setK_at l k v with ⟨h1, h4⟩ | ⟨j, b, h1, h2, h3, h4⟩
 ·rw [(afind_mapP k l 0).1 h1, h4]; simp [mapP]
 ·rw [(afind_mapP k l 0).2 j b h2 h3, h4]; simp [mapP, List.map_set]
end Go.Fw
