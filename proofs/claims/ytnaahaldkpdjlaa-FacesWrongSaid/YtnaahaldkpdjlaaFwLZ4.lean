/- A text of the proof. -/
import Derived.Test.YtnaahaldkpdjlaaFwLW8
import Derived.Test.YtnaahaldkpdjlaaFwLB10
import Derived.Test.YtnaahaldkpdjlaaFwRow
import Derived.Shelf.SlLaysF0
import Derived.Shelf.SlSortCmp.NoneTotal
import Derived.Test.YtnaahaldkpdjlaaFwLB14
set_option linter.unusedSimpArgs false
set_option linter.unusedVariables false
namespace Go.Fw
open Go.Proofs
set_option maxRecDepth 10000
def getL (ls : List Lw) (v : Nat) : Lw := ls.getD v (0, 0, 0)
def putA (up : List Int) : List Nat → List Lw × List Nat → List Lw × List Nat
 | [], st => st
 | v :: r, (ls, o) => putA up r (ls.set v (((o.length + 1 : Nat) : Int), up.getD v 0, ((o.length + 1 : Nat) : Int)), o ++ [v])
def fromA (n : Nat) (es : List Pr) (i : Nat) (st : List Lw × List Nat) : List Lw × List Nat :=
 if (getL st.1 i).1 = 0 then putA (walkF n es i).2 (walkF n es i).1 st else st
def metM (n : Nat) (es : List Pr) : Nat → List Lw × List Nat
 | 0 => (List.replicate n (0, 0, 0), [])
 | i + 1 => fromA n es i (metM n es i)
def edgeB (ls : List Lw) (e : Pr) : List Lw :=
 let a := e.1.toNat
 let b := e.2.toNat
 if (getL ls a).2.1 = e.2 ∨ (getL ls b).2.1 = e.1 then ls
 else
  let l1 := ls.set a ((getL ls a).1, (getL ls a).2.1, min (getL ls a).2.2 (getL ls b).1)
  l1.set b ((getL l1 b).1, (getL l1 b).2.1, min (getL l1 b).2.2 (getL l1 a).1)
def upC (ls : List Lw) (v : Nat) : List Lw :=
 let u := (getL ls v).2.1
 if 0 ≤ u then ls.set u.toNat ((getL ls u.toNat).1, (getL ls u.toNat).2.1, min (getL ls u.toNat).2.2 (getL ls v).2.2) else ls
def lowM (n : Nat) (es : List Pr) : List Lw × List Nat := ((metM n es n).2.reverse.foldl upC (es.foldl edgeB (metM n es n).1), (metM n es n).2)
structure LowI (n : Nat) (ls : List Lw) (o : List Nat) : Prop where
 len : ls.length = n
 up : ∀ v, v < n → (getL ls v).2.1 < (n : Int)
 lt : ∀ v ∈ o, v < n
 nd : o.Nodup
 num : ∀ v, v < n → ((getL ls v).1 = 0 ↔ v ∉ o)
theorem getL_set (ls : List Lw) (v : Nat) (q : Lw) (u : Nat) : getL (ls.set v q) u = if v = u ∧ v < ls.length then q else getL ls u := by
 simp only [getL, List.getD_eq_getElem?_getD, List.getElem?_set]
 by_cases e : v = u
 ·subst e
  by_cases h : v < ls.length
  ·simp [h]
  ·simp [h]
 ·simp [e]
theorem Dfs.upR {n : Nat} {es : List Pr} {s : Nat} {o : List Nat} {up : List Int} (hr : InR n es) (hs : s < n) (d : Dfs n es s o up) : ∀ v, up.getD v 0 < (n : Int) := by
 induction d with
 | start =>
  intro v
  simp only [List.getD_eq_getElem?_getD, List.getElem?_replicate]
  split <;> simp <;> omega
 | @step o up k v w d hk ha hw hm hf ih =>
  intro x
  simp only [List.getD_eq_getElem?_getD, List.getElem?_set]
  have := ih x
  simp only [List.getD_eq_getElem?_getD] at this
  split
  ·split
   ·have := (ha.lt hr).1; simp; omega
   ·simp; omega
  ·exact this
theorem putA_I {n : Nat} {up : List Int} (hup : ∀ v, up.getD v 0 < (n : Int)) : ∀ (l : List Nat) {ls : List Lw} {o : List Nat}, LowI n ls o → l.Nodup → (∀ v ∈ l, v < n ∧ v ∉ o) →
  LowI n (putA up l (ls, o)).1 (putA up l (ls, o)).2 ∧ (putA up l (ls, o)).2 = o ++ l
 | [], ls, o, I, _, _ => ⟨I, by simp [putA]⟩
 | v :: r, ls, o, I, hn, hl => by
  rw [List.nodup_cons] at hn
  have hv := hl v (by simp)
  have I' : LowI n (ls.set v (((o.length + 1 : Nat) : Int), up.getD v 0, ((o.length + 1 : Nat) : Int))) (o ++ [v]) := by
   refine ⟨by simp [I.len], fun u hu => ?_, fun u hu => ?_, ?_, fun u hu => ?_⟩
   ·rw [getL_set]; split
    ·exact hup v
    ·exact I.up u hu
   ·rw [List.mem_append, List.mem_singleton] at hu
    rcases hu with hu | rfl
    ·exact I.lt u hu
    ·exact hv.1
   ·rw [List.nodup_append]
    exact ⟨I.nd, by simp, fun a ha b hb e => by rw [List.mem_singleton] at hb; subst hb; subst e; exact hv.2 ha⟩
   ·rw [getL_set, List.mem_append, List.mem_singleton]
    by_cases e : v = u
    ·subst e; simp [I.len, hu]; omega
    ·rw [if_neg (by simp [e]), I.num u hu]; simp [Ne.symm e]
  obtain ⟨q1, q2⟩ := putA_I hup r I' hn.2 fun u hu => ⟨(hl u (by simp [hu])).1, fun hm => by
   rw [List.mem_append, List.mem_singleton] at hm
   rcases hm with hm | rfl
   ·exact (hl u (by simp [hu])).2 hm
   ·exact hn.1 hu⟩
  exact ⟨q1, by rw [putA, q2]; simp⟩
theorem con_back {es : List Pr} {o : List Nat} (hc : ∀ u w, adj es u w → u ∈ o → w ∈ o) {i v : Nat} (h : Con es i v) : v ∈ o → i ∈ o := by
 induction h with
 | refl _ => exact id
 | step _ a _ ih => exact fun hv => ih (hc _ _ a.symm hv)
structure LowC (n : Nat) (es : List Pr) (ls : List Lw) (o : List Nat) : Prop extends LowI n ls o where
 cl : ∀ u w, adj es u w → u ∈ o → w ∈ o
theorem fromA_pre {n : Nat} {es : List Pr} (hr : InR n es) {ls : List Lw} {o : List Nat} (I : LowC n es ls o) {i : Nat} (hi : i < n) (h0 : (getL ls i).1 = 0) :
  (walkF n es i).1.Nodup ∧ ∀ v ∈ (walkF n es i).1, v < n ∧ v ∉ o := by
 have D := walkF_fin hr hi
 refine ⟨D.dfs.nodup, fun v hv => ⟨((D.mem v).1 hv).lt hr hi, fun hm => (I.num i hi).1 h0 (con_back I.cl ((D.mem v).1 hv) hm)⟩⟩
theorem fromA_C {n : Nat} {es : List Pr} (hr : InR n es) {ls : List Lw} {o : List Nat} (I : LowC n es ls o) {i : Nat} (hi : i < n) :
  LowC n es (fromA n es i (ls, o)).1 (fromA n es i (ls, o)).2 ∧ i ∈ (fromA n es i (ls, o)).2 ∧ ∀ v ∈ o, v ∈ (fromA n es i (ls, o)).2 := by
 unfold fromA
 split
 ·rename_i h0
  obtain ⟨p1, p2⟩ := fromA_pre hr I hi h0
  have D := walkF_fin hr hi
  obtain ⟨q1, q2⟩ := putA_I (D.dfs.upR hr hi) (walkF n es i).1 I.toLowI p1 p2
  rw [q2] at q1 ⊢
  refine ⟨⟨q1, fun u w ha hu => ?_⟩, List.mem_append_right _ ((D.mem i).2 (Con.refl es i)), fun v hv => List.mem_append_left _ hv⟩
  rw [List.mem_append] at hu ⊢
  rcases hu with hu | hu
  ·exact .inl (I.cl u w ha hu)
  ·exact .inr (D.full u hu w ha)
 ·rename_i h0
  refine ⟨I, ?_, fun v hv => hv⟩
  by_cases hm : i ∈ o
  ·exact hm
  ·exact absurd ((I.num i hi).2 hm) h0
theorem metM_C {n : Nat} {es : List Pr} (hr : InR n es) : ∀ i, i ≤ n → LowC n es (metM n es i).1 (metM n es i).2 ∧ ∀ v, v < i → v ∈ (metM n es i).2
 | 0, _ => ⟨⟨⟨by simp [metM], fun v hv => by simp [metM, getL, List.getD_eq_getElem?_getD, List.getElem?_replicate, hv]; omega, by simp [metM], by simp [metM], fun v hv => by simp [metM, getL, List.getD_eq_getElem?_getD, List.getElem?_replicate, hv]⟩, by simp [metM]⟩, by omega⟩
 | i + 1, hi => by
  obtain ⟨I, hm⟩ := metM_C hr i (by omega)
  obtain ⟨q1, q2, q3⟩ := fromA_C hr I (i := i) (by omega)
  refine ⟨q1, fun v hv => ?_⟩
  by_cases e : v = i
  ·subst e; exact q2
  ·exact q3 v (hm v (by omega))
theorem LowI.olen {n : Nat} {ls : List Lw} {o : List Nat} (I : LowI n ls o) : o.length ≤ n := by
 have := I.nd.length_le_of_subset (l₂ := List.range n) fun v hv => List.mem_range.2 (I.lt v hv)
 simpa using this
end Go.Fw
namespace Go.Fw
open Go.Proofs
attribute [local irreducible] KO4 KO3 KO2 KO1 KO KN KX KE VK KCond KDraw KCall KLoop
set_option maxHeartbeats 8000000
set_option maxRecDepth 10000
theorem amin_i (a b : Int) : aMin (.int .i64 a) [.int .i64 b] = some (.int .i64 (min a b)) := by
 have : (if b < a then b else a) = min a b := by split <;> omega
 simp only [aMin, if_true, this]
theorem bL (a b c : Int) : aBuild Try.prog 93 [(0, .int .i64 a), (1, .int .i64 b), (2, .int .i64 c)] = some (valL (a, b, c)) := by kernel_rfl
theorem edgeB_length (ls : List Lw) (e : Pr) : (edgeB ls e).length = ls.length := by simp only [edgeB]; split <;> simp
theorem set_keep (ls : List Lw) (a : Nat) (x : Int) (v : Nat) : (getL (ls.set a ((getL ls a).1, (getL ls a).2.1, x)) v).1 = (getL ls v).1 ∧ (getL (ls.set a ((getL ls a).1, (getL ls a).2.1, x)) v).2.1 = (getL ls v).2.1 := by
 rw [getL_set]; split
 ·rename_i h; rw [h.1]; exact ⟨rfl, rfl⟩
 ·exact ⟨rfl, rfl⟩
theorem edgeB_keep (ls : List Lw) (e : Pr) (v : Nat) : (getL (edgeB ls e) v).1 = (getL ls v).1 ∧ (getL (edgeB ls e) v).2.1 = (getL ls v).2.1 := by
 simp only [edgeB]
 split
 ·exact ⟨rfl, rfl⟩
 ·obtain ⟨a1, a2⟩ := set_keep ls e.1.toNat (min (getL ls e.1.toNat).2.2 (getL ls e.2.toNat).1) v
  obtain ⟨b1, b2⟩ := set_keep (ls.set e.1.toNat ((getL ls e.1.toNat).1, (getL ls e.1.toNat).2.1, min (getL ls e.1.toNat).2.2 (getL ls e.2.toNat).1)) e.2.toNat (min (getL (ls.set e.1.toNat ((getL ls e.1.toNat).1, (getL ls e.1.toNat).2.1, min (getL ls e.1.toNat).2.2 (getL ls e.2.toNat).1)) e.2.toNat).2.2 (getL (ls.set e.1.toNat ((getL ls e.1.toNat).1, (getL ls e.1.toNat).2.1, min (getL ls e.1.toNat).2.2 (getL ls e.2.toNat).1)) e.1.toNat).1) v
  exact ⟨b1.trans a1, b2.trans a2⟩
theorem edges_keep : ∀ (es : List Pr) (ls : List Lw) (v : Nat), (getL (es.foldl edgeB ls) v).1 = (getL ls v).1 ∧ (getL (es.foldl edgeB ls) v).2.1 = (getL ls v).2.1
 | [], ls, v => ⟨rfl, rfl⟩
 | e :: es, ls, v => by
  rw [List.foldl_cons]
  obtain ⟨a1, a2⟩ := edges_keep es (edgeB ls e) v
  obtain ⟨b1, b2⟩ := edgeB_keep ls e v
  exact ⟨a1.trans b1, a2.trans b2⟩
theorem upC_keep (ls : List Lw) (x v : Nat) : (getL (upC ls x) v).1 = (getL ls v).1 ∧ (getL (upC ls x) v).2.1 = (getL ls v).2.1 := by
 simp only [upC]
 split
 ·exact set_keep _ _ _ _
 ·exact ⟨rfl, rfl⟩
theorem ups_keep : ∀ (o : List Nat) (ls : List Lw) (v : Nat), (getL (o.foldl upC ls) v).1 = (getL ls v).1 ∧ (getL (o.foldl upC ls) v).2.1 = (getL ls v).2.1
 | [], ls, v => ⟨rfl, rfl⟩
 | e :: es, ls, v => by
  rw [List.foldl_cons]
  obtain ⟨a1, a2⟩ := ups_keep es (upC ls e) v
  obtain ⟨b1, b2⟩ := upC_keep ls e v
  exact ⟨a1.trans b1, a2.trans b2⟩
theorem upC_length (ls : List Lw) (v : Nat) : (upC ls v).length = ls.length := by simp only [upC]; split <;> simp
structure SeI (h1 hq : AHeap) (LV L n : Nat) (ov : Value) (ls : List Lw) (o : List Nat) : Prop where
 oV : hq.own LV = some (.cells [.slice (some ⟨L, 0, none⟩) n n])
 oL : hq.own L = some (.cells (flatL ls))
 go : GU hq ov (nat64 o)
 nb : blk ov ≠ some LV ∧ blk ov ≠ some L
 le : Le h1 hq
 nn : h1.own LV = none ∧ h1.own L = none ∧ LV ≠ L
 ao : Apart h1 ov
theorem SeI.put {h1 hq : AHeap} {LV L n : Nat} {ov : Value} {ls : List Lw} {o : List Nat} (S : SeI h1 hq LV L n ov ls o) (ls' : List Lw) : SeI h1 (hq.put L (.cells (flatL ls'))) LV L n ov ls' o :=
 ⟨by rw [AHeap.own_put_ne _ _ _ _ S.nn.2.2]; exact S.oV, AHeap.own_put_eq _ _ _, GT.put S.go _ S.nb.2, S.nb, S.le.put _ S.nn.2.1, S.nn, S.ao⟩
theorem SeI.kept {h1 hq hr : AHeap} {LV L n : Nat} {ov : Value} {ls : List Lw} {o : List Nat} (S : SeI h1 hq LV L n ov ls o) (e : Le hq hr) : SeI h1 hr LV L n ov ls o :=
 ⟨e.own _ _ S.oV, e.own _ _ S.oL, S.go.le e, S.nb, S.le.trans e, S.nn, S.ao⟩
end Go.Fw
namespace Go.Proofs
open Go.Shelf
def Try.sortP_ren : Go.Shelf.Ren := ⟨fun | 6 => 98 | 15 => 70 | 14 => 119 | 28 => 108 | 29 => 109 | 20 => 130 | 21 => 131 | 22 => 132 | 23 => 133 | 24 => 134 | 25 => 135 | 26 => 136 | 27 => 137 | 46 => 139 | 47 => 121 | 48 => 122 | 49 => 140 | 50 => 141 | 57 => 142 | n => n, fun | 22 => 22 | 24 => 61 | 25 => 121 | 3 => 3 | 39 => 108 | 0 => 0 | 53 => 152 | 55 => 154 | 4 => 4 | 46 => 145 | 45 => 144 | 50 => 71 | 5 => 5 | 9 => 9 | 66 => 162 | 70 => 166 | 76 => 179 | 77 => 180 | n => n, fun | n => n⟩
theorem Try.sortP : Go.Proofs.SlLaysF0.n6 Try.prog Try.sortP_ren := {
 mixed := by kernel_rfl
 f6 := ⟨Try.f98.name, by decide, Try.func98.trans (congrArg some (by kernel_rfl))⟩
 f14 := ⟨Try.f119.name, by decide, Try.func119.trans (congrArg some (by kernel_rfl))⟩
 f15 := Try.func70.trans (congrArg some (by kernel_rfl))
 f20 := ⟨Try.f130.name, by decide, Try.func130.trans (congrArg some (by kernel_rfl))⟩
 f21 := ⟨Try.f131.name, by decide, Try.func131.trans (congrArg some (by kernel_rfl))⟩
 f22 := ⟨Try.f132.name, by decide, Try.func132.trans (congrArg some (by kernel_rfl))⟩
 f23 := ⟨Try.f133.name, by decide, Try.func133.trans (congrArg some (by kernel_rfl))⟩
 f24 := ⟨Try.f134.name, by decide, Try.func134.trans (congrArg some (by kernel_rfl))⟩
 f25 := ⟨Try.f135.name, by decide, Try.func135.trans (congrArg some (by kernel_rfl))⟩
 f26 := ⟨Try.f136.name, by decide, Try.func136.trans (congrArg some (by kernel_rfl))⟩
 f27 := ⟨Try.f137.name, by decide, Try.func137.trans (congrArg some (by kernel_rfl))⟩
 f28 := Try.func108.trans (congrArg some (by kernel_rfl))
 f29 := Try.func109.trans (congrArg some (by kernel_rfl))
 f46 := ⟨Try.f139.name, by decide, Try.func139.trans (congrArg some (by kernel_rfl))⟩
 f47 := Try.func121.trans (congrArg some (by kernel_rfl))
 f48 := Try.func122.trans (congrArg some (by kernel_rfl))
 f49 := ⟨Try.f140.name, by decide, Try.func140.trans (congrArg some (by kernel_rfl))⟩
 f50 := ⟨Try.f141.name, by decide, Try.func141.trans (congrArg some (by kernel_rfl))⟩
 f57 := ⟨Try.f142.name, by decide, Try.func142.trans (congrArg some (by kernel_rfl))⟩
 t0 := Try.underlying0
 a0 := Try.isAgg0
 z0 := Try.sizeOf0
 v0 := Try.zeroValue0
 t3 := Try.underlying3
 a3 := Try.isAgg3
 z3 := Try.sizeOf3
 v3 := Try.zeroValue3
 t4 := Try.underlying4
 a4 := Try.isAgg4
 z4 := Try.sizeOf4
 v4 := Try.zeroValue4
 t5 := Try.underlying5
 a5 := Try.isAgg5
 z5 := Try.sizeOf5
 v5 := Try.zeroValue5
 t9 := Try.underlying9
 a9 := Try.isAgg9
 z9 := Try.sizeOf9
 v9 := Try.zeroValue9
 t22 := Try.underlying22
 a22 := Try.isAgg22
 z22 := Try.sizeOf22
 v22 := Try.zeroValue22
 t25 := Try.underlying121
 a25 := Try.isAgg121
 z25 := Try.sizeOf121
 v25 := Try.zeroValue121
 t39 := Try.underlying108
 a39 := Try.isAgg108
 z39 := Try.sizeOf108
 v39 := Try.zeroValue108
 t45 := Try.underlying144
 a45 := Try.isAgg144
 z45 := Try.sizeOf144
 v45 := Try.zeroValue144
 t46 := Try.underlying145
 a46 := Try.isAgg145
 z46 := Try.sizeOf145
 v46 := Try.zeroValue145
 t50 := Try.underlying71
 a50 := Try.isAgg71
 z50 := Try.sizeOf71
 v50 := Try.zeroValue71
 t53 := Try.underlying152
 a53 := Try.isAgg152
 z53 := Try.sizeOf152
 v53 := Try.zeroValue152
 t55 := Try.underlying154
 a55 := Try.isAgg154
 z55 := Try.sizeOf154
 v55 := Try.zeroValue154
 t66 := Try.underlying162
 a66 := Try.isAgg162
 z66 := Try.sizeOf162
 v66 := Try.zeroValue162
 t70 := Try.underlying166
 a70 := Try.isAgg166
 z70 := Try.sizeOf166
 v70 := Try.zeroValue166
 t76 := Try.underlying179
 a76 := Try.isAgg179
 z76 := Try.sizeOf179
 v76 := Try.zeroValue179
 t77 := Try.underlying180
 a77 := Try.isAgg180
 z77 := Try.sizeOf180
 v77 := Try.zeroValue180 }
end Go.Proofs
namespace Go.Fw
open Go.Proofs
set_option maxHeartbeats 4000000
set_option maxRecDepth 10000
def ltP (p q : Pr) : Bool := decide (cmpP p q < 0)
def sortP (ps : List Pr) : List Pr := ps.mergeSort fun x y => !ltP y x
theorem ltP_iff (p q : Pr) : ltP p q = true ↔ p.1 < q.1 ∨ p.1 = q.1 ∧ p.2 < q.2 := by
 unfold ltP; rw [decide_eq_true_eq, cmpP_lt]
theorem sortP_length (ps : List Pr) : (sortP ps).length = ps.length := by simp [sortP]
theorem sortP_mem (ps : List Pr) (p : Pr) : p ∈ sortP ps ↔ p ∈ ps := by simp [sortP]
theorem sortP_perm (ps : List Pr) : (sortP ps).Perm ps := List.mergeSort_perm _ _
theorem ltP_false (p q : Pr) : ltP p q = false ↔ q.1 < p.1 ∨ q.1 = p.1 ∧ q.2 ≤ p.2 := by
 rw [← Bool.not_eq_true, ltP_iff]; omega
theorem sortP_le (ps : List Pr) : (sortP ps).Pairwise fun x y => x.1 < y.1 ∨ x.1 = y.1 ∧ x.2 ≤ y.2 := by
 have := List.pairwise_mergeSort (le := fun x y : Pr => !ltP y x) (fun a b c h1 h2 => by
  simp only [Bool.not_eq_true', ltP_false] at *; omega) (fun a b => by
  rw [Bool.or_eq_true]; simp only [Bool.not_eq_true', ltP_false]; omega) ps
 exact this.imp fun h => by simpa [ltP_false] using h
theorem flatK_P (ps : List Pr) : Go.Sort.flatK cellsP 2 ps.toArray = (flatP ps).toArray := by
 apply Array.ext
 ·simp [flatP_length]
 ·intro i h1 h2
  have hl : i < ps.length * 2 := by simpa using h1
  have hi : i / 2 < ps.length := by omega
  obtain ⟨g0, g1⟩ := flatP_get ps (i / 2) _ (getElem?_of hi)
  simp only [Go.Sort.flatK, Array.getElem_map, Array.getElem_range]
  rw [getElem!_pos _ (i / 2) (by simpa using hi)]
  simp only [List.getElem_toArray]
  rcases Nat.mod_two_eq_zero_or_one i with h | h
  ·rw [h]
   have e : i / 2 * 2 = i := by omega
   rw [e, List.getElem?_eq_getElem (by rw [flatP_length]; exact hl)] at g0
   injection g0 with g0; rw [g0]; rfl
  ·rw [h]
   have e : i / 2 * 2 + 1 = i := by omega
   rw [e, List.getElem?_eq_getElem (by rw [flatP_length]; exact hl)] at g1
   injection g1 with g1; rw [g1]; rfl
theorem flatP_flat (ps : List Pr) : ∀ y ∈ flatP ps, flat y = true ∧ y.oneCell' = true := by
 intro y hy
 rw [flatP, List.mem_flatMap] at hy
 obtain ⟨p, _, hx⟩ := hy
 simp [cellsP] at hx
 rcases hx with rfl | rfl <;> exact ⟨rfl, rfl⟩
theorem swoP : Go.Sort.SWO (Go.Proofs.ltOf cmpP) := by
 have e : ∀ p q, Go.Proofs.ltOf cmpP p q = ltP p q := fun _ _ => rfl
 refine ⟨fun x => ?_, fun x y z h1 h2 => ?_, fun x y z h1 h2 => ?_⟩
 ·rw [e, ltP_false]; omega
 ·rw [e, ltP_iff] at *; omega
 ·rw [e, ltP_false] at *; omega
theorem GP.cases {h : AHeap} {v : Value} {ps : List Pr} (g : GP h v ps) (hn : ps.length ≤ 100000) : (∃ a cap, v = .slice a 0 cap ∧ ps = []) ∨ ∃ id c cap, v = .slice (some ⟨id, 0, none⟩) ps.length cap ∧ h.own id = some (.cells c) ∧ c.take (ps.length * 2) = flatP ps ∧ (cap = UNK + 2 ∨ cap = ps.length ∧ ps.length < 1000000000000) ∧ 0 < ps.length ∧ ps.length ≤ cap ∧ ps.length * 2 ≤ c.length := by
 obtain ⟨hl, ⟨rfl, h0⟩ | ⟨id, c, cap, rfl, ho, ht, hc⟩⟩ := g
 ·exact .inl ⟨none, 0, rfl, List.length_eq_zero_iff.1 h0⟩
 ·by_cases h0 : ps.length = 0
  ·rw [h0]; exact .inl ⟨_, _, rfl, List.length_eq_zero_iff.1 h0⟩
  ·have hcl : ps.length * 2 ≤ c.length := by have := congrArg List.length ht; rw [List.length_take, hl] at this; omega
   refine .inr ⟨id, c, cap, rfl, ho, ht, hc, by omega, ?_, hcl⟩
   rcases hc with rfl | ⟨rfl, _⟩
   ·have : (100000 : Nat) ≤ UNK := by decide
    omega
   ·exact Nat.le_refl _
theorem valP_vrs (m : CMap) (p q : Pr) : VRs 0 m [valP p, valP q] [valP p, valP q] := by
 have one : ∀ p : Pr, VR 0 m (valP p) (valP p) := fun p => .agg rfl fun i v v' h h' => by
  rw [h] at h'; injection h' with h'; subst h'
  have : v ∈ [Value.int .i64 p.1, .int .i64 p.2] := by
   have := Array.mem_of_getElem? h; simpa using this
  simp at this
  rcases this with rfl | rfl <;> exact .flat rfl
 exact .cons (one p) (.cons (one q) (.nil _ _))
theorem SortFunc_any (W0 : Base) {h : AHeap} {v : Value} {ps : List Pr} (g : GP h v ps) (hn : ps.length ≤ 100000) (cmpf : FuncId)
  (eg : ∀ args w, (callFunc cmpf args).run Try.prog w = .ok (.enter cmpf args) w)
  (hc : ∀ (W : World) (p q : Pr), AC Try.prog (Base.of W) cmpf [valP p, valP q] (ext0 W) fun v _ => v = .int .i64 (cmpP p q)) :
  AC Try.prog W0 98 [v, .func (.func cmpf) #[] #[]] h fun x h' => x = .tuple #[] ∧ GP h' v (sortP ps) ∧ ∀ f, Le f h → Apart f v → Le f h' := by
 rcases g.cases hn with ⟨a, cap, rfl, rfl⟩ | ⟨id, c, cap, rfl, ho, ht, hcc, h0, hlc, hcl⟩
 ·refine (AC.ofNoneF fun a' cap' w => AnyF.slices_SortFunc_none { Try.sortP with } a' cap' (.func (.func cmpf) #[] #[]) w).mono ?_
  rintro x h' ⟨rfl, rfl⟩; exact ⟨rfl, by simpa [sortP] using g, fun f lf _ => lf⟩
 ·have key := fun (blk off cap' : Nat) (w : World) hH hb (hcap : ps.length ≤ cap') =>
   AnyQ.slices_SortFunc_total (α := Pr) Try.sortP 2 Try.isAgg61 Try.sizeOf61 cellsP (fun _ => rfl) (fun x v hv => (flatP_flat [x] v (by simpa [flatP] using hv)).2) cmpP swoP cmpf #[] blk off cap' ps.toArray w eg
    (fun m os dk _ x y => AC.grown (args := [valP x, valP y]) _ (hc _ x y) (fun m => valP_vrs m x y)) hH hb (by simp; omega)
    (fun x y h1 h2 => by
     have h1 : ltP x y = false := h1
     have h2 : ltP y x = false := h2
     rw [ltP_false] at h1 h2
     exact Prod.ext (by omega) (by omega))
  refine (AC.ofRowK (k := 2) (xs := flatP ps) (ys := flatP (sortP ps)) ho ht (flatP_length _) (by rw [flatP_length, sortP_length]) hcl hlc h0 (fun y hy => (flatP_flat ps y hy).1) (flatP_flat _) fun blk off cap' w hH hb hcap => ?_).mono ?_
  ·have hH' : Go.Sort.HoldsK cellsP 2 w blk off ps.toArray := by
    unfold Go.Sort.HoldsK; rw [flatK_P]; exact hH
   refine (key blk off cap' w hH' hb hcap).mono ?_
   rintro e w' ⟨rfl, n, os, rfl⟩
   refine ⟨rfl, n, os, ?_⟩
   unfold Go.Proofs.sortWorldK Go.Sort.putRowK
   rw [flatK_P]
   rfl
  ·rintro x h' ⟨rfl, rfl⟩
   refine ⟨rfl, ?_, fun f lf af => lf.put _ (af id rfl)⟩
   rw [GP, sortP_length]
   refine ⟨by rw [flatP_length, sortP_length], .inr ⟨id, _, cap, rfl, AHeap.own_put_eq _ _ _, ?_, hcc⟩⟩
   have hl : (flatP (sortP ps)).length = ps.length * 2 := by rw [flatP_length, sortP_length]
   rw [List.take_append_of_le_length (by omega), List.take_of_length_le (by omega)]
end Go.Fw
namespace Go.Fw
open Go.Proofs
set_option maxHeartbeats 8000000
set_option maxRecDepth 10000
structure LowR (n : Nat) (ls : List Lw) (o : List Nat) : Prop where
 len : ls.length = n
 lt : ∀ v ∈ o, v < n
 olen : o.length ≤ n
 up : ∀ v, v < n → (getL ls v).2.1 < (n : Int)
def LR (h : AHeap) (v : Value) (ls : List Lw) : Prop := CS 3 h v ls.length (flatL ls)
theorem LR.le {h h' : AHeap} {v : Value} {ls : List Lw} (r : LR h v ls) (e : Le h h') : LR h' v ls := CS.le r e
theorem LR.own {h : AHeap} {L n cap : Nat} {ls : List Lw} (ho : h.own L = some (.cells (flatL ls))) (hl : ls.length = n) : LR h (.slice (some ⟨L, 0, none⟩) n cap) ls := by
 subst hl
 have := CS.own (k := 3) (off := 0) (n := ls.length) (cap := cap) ho (by rw [flatL_length]; omega)
 rw [List.drop_zero, List.take_of_length_le (by rw [flatL_length]; omega)] at this
 exact this
def brB (ls : List Lw) (v : Nat) : Option Pr := if 0 ≤ (getL ls v).2.1 ∧ (getL ls v).2.2 = (getL ls v).1 then some (min (getL ls v).2.1 (v : Int), max (getL ls v).2.1 (v : Int)) else none
def bridgesM (n : Nat) (es : List Pr) : List Pr := sortP ((lowM n es).2.filterMap (brB (lowM n es).1))
theorem amax_i (a b : Int) : aMax (.int .i64 a) [.int .i64 b] = some (.int .i64 (max a b)) := by
 have : (if b > a then b else a) = max a b := by split <;> omega
 simp only [aMax, if_true, this]
theorem bP2 (a b : Int) : aBuild Try.prog 61 [(0, .int .i64 a), (1, .int .i64 b)] = some (valP (a, b)) := by kernel_rfl
end Go.Fw
namespace Go.Fw
open Go.Proofs
attribute [local irreducible] KO4 KO3 KO2 KO1 KO KN KX KE VK KCond KDraw KCall KLoop
set_option maxHeartbeats 8000000
set_option maxRecDepth 10000
def cntS (ls : List Lw) (c : List Int) (v : Nat) : List Int :=
 if 0 ≤ (getL ls v).2.1 ∧ (getL ls (getL ls v).2.1.toNat).1 ≤ (getL ls v).2.2 then c.set (getL ls v).2.1.toNat (c.getD (getL ls v).2.1.toNat 0 + 1) else c
def cntM (ls : List Lw) (o : List Nat) (n : Nat) : List Int := o.foldl (cntS ls) (List.replicate n 0)
def isCut (ls : List Lw) (c : List Int) (v : Nat) : Bool := decide (c.getD v 0 > 1) || (decide (c.getD v 0 = 1) && decide ((getL ls v).2.1 ≥ 0))
def cutsM (n : Nat) (es : List Pr) : List Nat := (List.range n).filter (isCut (lowM n es).1 (cntM (lowM n es).1 (lowM n es).2 n))
theorem mkI0 (h : AHeap) : aBuildSlice Try.prog h 38 0 [] = some (.slice (some ⟨h.next, 0, none⟩) 0 0, h.alloc (.cells [])) := rfl
end Go.Fw
namespace Go.Fw
open Go.Proofs
attribute [local irreducible] KO4 KO3 KO2 KO1 KO KN KX KE VK KCond KDraw KCall KLoop
set_option maxHeartbeats 8000000
set_option maxRecDepth 10000
def lowE (ls : List Lw) (p : Pr) : Nat := if (getL ls p.1.toNat).1 > (getL ls p.2.toNat).1 then p.1.toNat else p.2.toNat
def hdS (ls : List Lw) (H : List Int) (v : Nat) : List Int :=
 if 0 ≤ (getL ls v).2.1 ∧ (getL ls v).2.2 < (getL ls (getL ls v).2.1.toNat).1 then (H.set v (v : Int)).set v ((H.set v (v : Int)).getD (getL ls v).2.1.toNat 0) else H.set v (v : Int)
def hdM (ls : List Lw) (o : List Nat) (n : Nat) : List Int := o.foldl (hdS ls) (List.replicate n 0)
theorem hdS_length (ls : List Lw) (c : List Int) (v : Nat) : (hdS ls c v).length = c.length := by unfold hdS; split <;> simp
theorem hdF_length (ls : List Lw) : ∀ (o : List Nat) (c : List Int), (o.foldl (hdS ls) c).length = c.length
 | [], c => rfl
 | v :: o, c => by rw [List.foldl_cons, hdF_length ls o, hdS_length]
def keyE (n : Nat) (es : List Pr) (p : Pr) : Int := (hdM (lowM n es).1 (lowM n es).2 n).getD (lowE (lowM n es).1 p) 0
def blocksM (n : Nat) (es : List Pr) : List (List Pr) := (grpsM (fun p _ => keyE n es p) es [] es.length).map (·.2)
theorem Stays.PR : Stays PR := fun _ _ _ _ r e => PR.le r e
end Go.Fw
