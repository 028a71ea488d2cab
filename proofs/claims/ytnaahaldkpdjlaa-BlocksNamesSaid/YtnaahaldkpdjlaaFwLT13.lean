/- A text of the proof. -/
import Derived.Test.YtnaahaldkpdjlaaFwLT7
import Derived.Test.YtnaahaldkpdjlaaFwLT5
import Derived.Test.YtnaahaldkpdjlaaFwLW4
set_option linter.unusedSimpArgs false
set_option linter.unusedVariables false
namespace Go.Fw
open Go.Proofs
namespace Fo
variable {n : Nat} {es : List Pr} {num : Nat → Nat} {up : Nat → Option Nat} {hd : Nat → Nat}
theorem up_last {a b : Nat} (h : Anc up a b) (ne : a ≠ b) : up b ≠ none := by
 obtain ⟨c, hc, _⟩ := h.last ne; rw [hc]; simp
def beg (n : Nat) (up : Nat → Option Nat) (hd : Nat → Nat) : List Nat := (List.range n).filter fun c => decide (up c ≠ none ∧ hd c = c)
theorem mem_beg {c : Nat} : c ∈ beg n up hd ↔ c < n ∧ up c ≠ none ∧ hd c = c := by simp [beg]
theorem beg_nd : (beg n up hd).Nodup := List.nodup_range.sublist List.filter_sublist
def begAt (n : Nat) (up : Nat → Option Nat) (hd : Nat → Nat) (v : Nat) : List Nat := (beg n up hd).filter fun c => decide (up c = some v)
theorem heads_at (F : Fo n es num up) (H : HeadS n es num up hd) {v : Nat} (hv : v < n) (c : Nat) : (∃ a, adj es v a ∧ hd (lower num v a) = c) ↔ c ∈ begAt n up hd v ∨ (up v ≠ none ∧ c = hd v) := by
 rw [begAt, List.mem_filter, mem_beg, decide_eq_true_eq]
 constructor
 ·rintro ⟨a, ha, rfl⟩
  have hne := F.num_ne ha
  have han := (ha.lt F.rng).2
  unfold lower
  by_cases q : num a < num v
  ·rw [if_pos q]
   exact .inr ⟨up_last (F.anc a v ha.symm q) (fun e => by subst e; omega), rfl⟩
  ·rw [if_neg q]
   obtain ⟨c, hc, hca⟩ := (F.anc v a ha (by omega)).child (fun e => by subst e; omega)
   have hcn := (F.num_le hca han).1
   rw [F.hd_sub H hc hca ha]
   by_cases hb : Bey es num up v c
   ·obtain ⟨w, hw, hwne, _⟩ := F.bey_up hcn hc hb
    exact .inr ⟨up_last hw hwne, H.on c v hcn hc hb⟩
   ·have := H.new c v hcn hc hb
    rw [this]; exact .inl ⟨⟨hcn, by rw [hc]; simp, this⟩, hc⟩
 ·rintro (⟨⟨hcn, _, hh⟩, hc⟩ | ⟨hu, rfl⟩)
  ·obtain ⟨h1, h2⟩ := F.upa c v hcn hc
   exact ⟨c, h1, by unfold lower; rw [if_neg (by omega)]; exact hh⟩
  ·obtain ⟨u, hu⟩ := Option.ne_none_iff_exists'.1 hu
   obtain ⟨h1, h2⟩ := F.upa v u hv hu
   exact ⟨u, h1.symm, by unfold lower; rw [if_pos h2]⟩
theorem hd_notAt (F : Fo n es num up) (H : HeadS n es num up hd) {v : Nat} (hv : v < n) : hd v ∉ begAt n up hd v := by
 intro h
 rw [begAt, List.mem_filter, mem_beg, decide_eq_true_eq] at h
 have h1 := (F.hd_anc H (num v) v (Nat.le_refl _) hv).1
 have h2 := (F.upa _ v h.1.1 h.2).2
 rcases (F.num_le h1 hv).2 with e | e
 ·rw [e] at h2; omega
 ·omega
end Fo
open Classical in
theorem incN_eq {n : Nat} {es : List Pr} {num : Nat → Nat} {up : Nat → Option Nat} (S : SearchS n es (lowM n es).1 (lowM n es).2 num up) {v : Nat} (hv : v < n) :
  incN n es v = (Fo.begAt n up (hdN n es) v).length + (if up v = none then 0 else 1) := by
 have F := S.fo
 have H := (hdN_S S).1
 have hr := F.rng
 have hmem : ∀ k : Int, k ∈ keysAt n es v ↔ ∃ c : Nat, k = (c : Int) ∧ (c ∈ Fo.begAt n up (hdN n es) v ∨ (up v ≠ none ∧ c = hdN n es v)) := by
  intro k
  rw [keysAt_mem hr]
  constructor
  ·rintro ⟨a, ha, rfl⟩
   exact ⟨_, key_pair S ha, (F.heads_at H hv _).1 ⟨a, ha, rfl⟩⟩
  ·rintro ⟨c, rfl, h⟩
   obtain ⟨a, ha, hc⟩ := (F.heads_at H hv c).2 h
   exact ⟨a, ha, by rw [key_pair S ha, hc]⟩
 have nd1 : (Fo.begAt n up (hdN n es) v).Nodup := Fo.beg_nd.sublist List.filter_sublist
 rw [incN_keys]
 by_cases hu : up v = none
 ·rw [if_pos hu]
  have : (keysAt n es v).Perm (nat64 (Fo.begAt n up (hdN n es) v)) := (List.perm_ext_iff_of_nodup (keysAt_nd n es v) (by rw [nat64, List.Nodup, List.pairwise_map]; exact nd1.imp fun h e => h (by omega))).2 fun k => by
   rw [hmem, nat64, List.mem_map]
   constructor
   ·rintro ⟨c, rfl, h | h⟩
    ·exact ⟨c, h, rfl⟩
    ·exact absurd hu h.1
   ·rintro ⟨c, h, rfl⟩; exact ⟨c, rfl, .inl h⟩
  rw [this.length_eq, nat64_length]; rfl
 ·rw [if_neg hu]
  have nd2 : (hdN n es v :: Fo.begAt n up (hdN n es) v).Nodup := List.nodup_cons.2 ⟨F.hd_notAt H hv, nd1⟩
  have : (keysAt n es v).Perm (nat64 (hdN n es v :: Fo.begAt n up (hdN n es) v)) := (List.perm_ext_iff_of_nodup (keysAt_nd n es v) (by rw [nat64, List.Nodup, List.pairwise_map]; exact nd2.imp fun h e => h (by omega))).2 fun k => by
   rw [hmem, nat64, List.mem_map]
   constructor
   ·rintro ⟨c, rfl, h | h⟩
    ·exact ⟨c, List.mem_cons_of_mem _ h, rfl⟩
    ·exact ⟨c, by rw [h.2]; exact List.mem_cons_self, rfl⟩
   ·rintro ⟨c, h, rfl⟩
    rcases List.mem_cons.1 h with h | h
    ·exact ⟨c, rfl, .inr ⟨hu, h⟩⟩
    ·exact ⟨c, rfl, .inl h⟩
  rw [this.length_eq, nat64_length, List.length_cons]
theorem blocks_count {n : Nat} {es : List Pr} {num : Nat → Nat} {up : Nat → Option Nat} (S : SearchS n es (lowM n es).1 (lowM n es).2 num up) : (blocksM n es).length = (Fo.beg n up (hdN n es)).length := by
 have F := S.fo
 have H := (hdN_S S).1
 have hr := F.rng
 obtain ⟨nk, mk⟩ := fk_ok (keyE n es) _ es rfl
 have : (fkM (keyE n es) es).Perm (nat64 (Fo.beg n up (hdN n es))) := (List.perm_ext_iff_of_nodup nk (by rw [nat64, List.Nodup, List.pairwise_map]; exact Fo.beg_nd.imp fun h e => h (by omega))).2 fun k => by
  rw [mk, nat64, List.mem_map]
  constructor
  ·rintro ⟨p, hp, rfl⟩
   obtain ⟨a, c, rfl, hac, hcn, hadj⟩ := ends hr hp
   have hpa : ((a : Int), (c : Int)) = pairOf a c := by rw [pairOf_of, Prod.mk.injEq]; omega
   have hk := key_pair S hadj
   have hne := F.num_ne hadj
   have han := (hadj.lt hr).1
   have hln : Fo.lower num a c < n := by unfold Fo.lower; split <;> omega
   have hup : up (hdN n es (Fo.lower num a c)) ≠ none := by
    have key := fun x y hxy hlt => F.link H (fun _ _ => ()) (fun _ _ => rfl) (fun _ _ _ _ _ _ => rfl) (num x) x y (Nat.le_refl _) hxy hlt
    unfold Fo.lower
    split
    ·obtain ⟨u, hu, _⟩ := key a c hadj (by assumption); rw [hu]; simp
    ·obtain ⟨u, hu, _⟩ := key c a hadj.symm (by omega); rw [hu]; simp
   have hha := F.hd_anc H _ (Fo.lower num a c) (Nat.le_refl _) hln
   rw [hpa, hk]
   exact ⟨_, Fo.mem_beg.2 ⟨(F.num_le hha.1 hln).1, hup, hha.2⟩, rfl⟩
  ·rintro ⟨c, hc, rfl⟩
   obtain ⟨hcn, hu, hh⟩ := Fo.mem_beg.1 hc
   obtain ⟨u, hu⟩ := Option.ne_none_iff_exists'.1 hu
   obtain ⟨h1, h2⟩ := F.upa c u hcn hu
   refine ⟨pairOf c u, pairOf_mem hr h1.symm, ?_⟩
   rw [key_pair S h1.symm]
   unfold Fo.lower; rw [if_pos h2, hh]
 rw [blocksM_eq, List.length_map, this.length_eq, nat64_length]
end Go.Fw
namespace Go.Fw
open Go.Proofs
theorem sum_add (f g : Nat → Nat) : ∀ l : List Nat, (l.map fun x => f x + g x).sum = (l.map f).sum + (l.map g).sum
 | [] => rfl
 | x :: l => by simp only [List.map_cons, List.sum_cons, sum_add f g l]; omega
theorem sum_one (u : Nat) : ∀ n, ((List.range n).map fun v => if u = v then 1 else 0).sum = if u < n then 1 else 0
 | 0 => rfl
 | n + 1 => by
  rw [List.range_succ, List.map_append, List.sum_append, sum_one u n]
  simp only [List.map_cons, List.map_nil, List.sum_cons, List.sum_nil]
  by_cases h : u < n
  ·rw [if_pos h, if_neg (by omega), if_pos (by omega)]; rfl
  ·by_cases e : u = n
   ·rw [if_neg h, if_pos e, if_pos (by omega)]; rfl
   ·rw [if_neg h, if_neg e, if_neg (by omega)]; rfl
theorem sum_zero : ∀ n, ((List.range n).map fun _ => 0).sum = 0
 | 0 => rfl
 | n + 1 => by rw [List.range_succ, List.map_append, List.sum_append, sum_zero n]; rfl
theorem sum_fib (n : Nat) (up : Nat → Option Nat) : ∀ (l : List Nat), (∀ c ∈ l, ∃ u, up c = some u ∧ u < n) → ((List.range n).map fun v => (l.filter fun c => decide (up c = some v)).length).sum = l.length
 | [], _ => by
  simp only [List.filter_nil, List.length_nil]
  exact sum_zero n
 | c :: l, h => by
  obtain ⟨u, hu, hn⟩ := h c (by simp)
  have ih := sum_fib n up l fun d hd => h d (by simp [hd])
  have e : (fun v => ((c :: l).filter fun c => decide (up c = some v)).length) = fun v => (l.filter fun c => decide (up c = some v)).length + (if u = v then 1 else 0) := by
   funext v
   rw [List.filter_cons]
   by_cases k : u = v
   ·subst k; rw [if_pos (by simp [hu]), if_pos rfl, List.length_cons]
   ·rw [if_neg (by simp [hu, k]), if_neg k]; rfl
  rw [e, sum_add, ih, sum_one, if_pos hn, List.length_cons]
theorem sum_ind (p : Nat → Prop) [DecidablePred p] : ∀ l : List Nat, (l.map fun v => if p v then 0 else 1).sum = (l.filter fun v => decide (¬ p v)).length
 | [] => rfl
 | x :: l => by
  rw [List.map_cons, List.sum_cons, sum_ind p l, List.filter_cons]
  by_cases h : p x
  ·rw [if_pos h, if_neg (by simp [h])]; omega
  ·rw [if_neg h, if_pos (by simp [h]), List.length_cons]; omega
theorem sum_more (inc : Nat → Nat) : ∀ l : List Nat, (l.map inc).sum + (l.filter fun v => decide (1 < inc v)).length = ((l.filter fun v => decide (1 < inc v)).map inc).sum + (l.filter fun v => decide (0 < inc v)).length
 | [] => rfl
 | x :: l => by
  have ih := sum_more inc l
  rw [List.map_cons, List.sum_cons, List.filter_cons, List.filter_cons]
  by_cases h : 1 < inc x
  ·rw [if_pos (by simp [h]), if_pos (by simp; omega), List.map_cons, List.sum_cons, List.length_cons, List.length_cons]; omega
  ·rw [if_neg (by simp; omega)]
   by_cases h0 : 0 < inc x
   ·rw [if_pos (by simp [h0]), List.length_cons]; omega
   ·rw [if_neg (by simp; omega)]; omega
theorem choice_le {A B : List Nat} {R : Nat → Nat → Prop} (na : A.Nodup) (h : ∀ a ∈ A, ∃ b ∈ B, R a b) (inj : ∀ a ∈ A, ∀ a' ∈ A, ∀ b, R a b → R a' b → a = a') : A.length ≤ B.length := by
 classical
 let f : Nat → Nat := fun a => if h : ∃ b ∈ B, R a b then Classical.choose h else 0
 have hf : ∀ a ∈ A, f a ∈ B ∧ R a (f a) := fun a ha => by
  have := Classical.choose_spec (h a ha)
  simp only [f, dif_pos (h a ha)]; exact this
 have nd : (A.map f).Nodup := by
  rw [List.Nodup, List.pairwise_map]
  refine (List.nodup_iff_pairwise_ne.1 na).imp_of_mem ?_
  intro a a' ha ha' hne e
  exact hne (inj a ha a' ha' (f a) (hf a ha).2 (e ▸ (hf a' ha').2))
 have := nd.length_le_of_subset (l₂ := B) (fun x hx => by
  obtain ⟨a, ha, rfl⟩ := List.mem_map.1 hx
  exact (hf a ha).1)
 simpa using this
namespace Fo
variable {n : Nat} {es : List Pr} {num : Nat → Nat} {up : Nat → Option Nat}
theorem root_ex (F : Fo n es num up) : ∀ (k v : Nat), num v ≤ k → v < n → ∃ r, r < n ∧ up r = none ∧ Anc up r v ∧ Con es r v := by
 intro k
 induction k with
 | zero =>
  intro v hk hv
  cases hu : up v with
  | none => exact ⟨v, hv, hu, .refl v, Con.refl _ _⟩
  | some u => have := (F.upa v u hv hu).2; omega
 | succ k ih =>
  intro v hk hv
  cases hu : up v with
  | none => exact ⟨v, hv, hu, .refl v, Con.refl _ _⟩
  | some u =>
   obtain ⟨h1, h2⟩ := F.upa v u hv hu
   obtain ⟨r, hr, h3, h4, h5⟩ := ih u (by omega) (h1.lt F.rng).1
   exact ⟨r, hr, h3, h4.step hu, .step h5 h1 rfl⟩
theorem root_con (F : Fo n es num up) {r u v : Nat} (hr : up r = none) (h : Anc up r u) (c : Con es u v) : Anc up r v := by
 induction c with
 | refl _ => exact h
 | @step w x _ a _ ih =>
  have ne := F.num_ne a
  by_cases q : num w < num x
  ·exact ih.trans (F.anc w x a q)
  ·have hx := F.anc x w a.symm (by omega)
   rcases ih.chain hx with k | k
   ·exact k
   ·by_cases e : x = r
    ·subst e; exact .refl _
    ·exact absurd hr (up_last k e)
theorem root_uniq (F : Fo n es num up) {r s : Nat} (hr : up r = none) (hs : up s = none) (c : Con es r s) : r = s := by
 have h := F.root_con hr (.refl r) c
 exact Classical.byContradiction fun e => up_last h e hs
end Fo
open Classical in
theorem inc_pos {n : Nat} {es : List Pr} (hr : InR n es) {v : Nat} : 0 < incN n es v ↔ ∃ a, adj es v a := by
 rw [incN_keys, List.length_pos_iff_exists_mem]
 constructor
 ·rintro ⟨k, hk⟩; obtain ⟨a, ha, _⟩ := (keysAt_mem hr).1 hk; exact ⟨a, ha⟩
 ·rintro ⟨a, ha⟩; exact ⟨_, (keysAt_mem hr).2 ⟨a, ha, rfl⟩⟩
theorem con_first {es : List Pr} {u v : Nat} (h : Con es u v) (ne : u ≠ v) : (∃ a, adj es u a) ∧ ∃ a, adj es v a := by
 constructor
 ·induction h with
  | refl _ => exact absurd rfl ne
  | @step w x c a _ ih =>
   by_cases e : u = w
   ·subst e; exact ⟨x, a⟩
   ·exact ih e
 ·cases h with
  | refl _ => exact absurd rfl ne
  | @step w _ c a _ => exact ⟨w, a.symm⟩
open Classical in
theorem forest_zero {n : Nat} {es : List Pr} (hr : InR n es) :
  (blocksM n es).length + (cutsM n es).length = ((cutsM n es).map (incN n es)).sum + ((heads n es).filter fun h => decide (0 < incN n es h)).length := by
 obtain ⟨num, up, S⟩ := lowM_S hr
 have F := S.fo
 have hC : cutsM n es = (List.range n).filter fun v => decide (1 < incN n es v) := by
  rw [cutsM]
  refine List.filter_congr fun v hv => ?_
  rw [List.mem_range] at hv
  rw [Bool.eq_iff_iff, decide_eq_true_eq, inc_cut hr]
  exact isCut_iff hr hv
 have h1 := sum_more (incN n es) (List.range n)
 rw [← hC] at h1
 have h2 : ((List.range n).map (incN n es)).sum = (Fo.beg n up (hdN n es)).length + ((List.range n).filter fun v => decide (¬ up v = none)).length := by
  have e : (List.range n).map (incN n es) = (List.range n).map fun v => (Fo.begAt n up (hdN n es) v).length + (if up v = none then 0 else 1) :=
   List.map_congr_left fun v hv => incN_eq S (List.mem_range.1 hv)
  rw [e, sum_add, sum_ind (fun v => up v = none)]
  congr 1
  exact sum_fib n up _ fun c hc => by
   obtain ⟨hcn, hu, _⟩ := Fo.mem_beg.1 hc
   obtain ⟨u, hu⟩ := Option.ne_none_iff_exists'.1 hu
   exact ⟨u, hu, ((F.upa c u hcn hu).1.lt hr).1⟩
 have h3 := split_len (fun v => decide (¬ up v = none)) ((List.range n).filter fun v => decide (0 < incN n es v))
 rw [List.filter_filter, List.filter_filter] at h3
 have e1 : (List.range n).filter (fun v => decide (¬ up v = none) && decide (0 < incN n es v)) = (List.range n).filter fun v => decide (¬ up v = none) := by
  refine List.filter_congr fun v hv => ?_
  rw [List.mem_range] at hv
  by_cases q : up v = none
  ·simp [q]
  ·obtain ⟨u, hu⟩ := Option.ne_none_iff_exists'.1 q
   have : 0 < incN n es v := (inc_pos hr).2 ⟨u, (F.upa v u hv hu).1.symm⟩
   simp [this]
 rw [e1] at h3
 have e2 : ((List.range n).filter fun v => (!decide (¬ up v = none)) && decide (0 < incN n es v)).length = ((heads n es).filter fun h => decide (0 < incN n es h)).length := by
  have mA : ∀ v, v ∈ ((List.range n).filter fun v => (!decide (¬ up v = none)) && decide (0 < incN n es v)) ↔ v < n ∧ up v = none ∧ 0 < incN n es v := fun v => by simp
  have mB : ∀ v, v ∈ ((heads n es).filter fun h => decide (0 < incN n es h)) ↔ v ∈ heads n es ∧ 0 < incN n es v := fun v => by simp
  have move : ∀ {a b : Nat}, Con es a b → 0 < incN n es a → 0 < incN n es b := fun {a b} c h => by
   by_cases e : a = b
   ·subst e; exact h
   ·exact (inc_pos hr).2 (con_first c e).2
  refine Nat.le_antisymm ?_ ?_
  ·refine choice_le (R := fun a b => Con es a b) (List.nodup_range.sublist List.filter_sublist) (fun a ha => ?_) (fun a ha a' ha' b h1 h2 => ?_)
   ·obtain ⟨k1, k2, k3⟩ := (mA a).1 ha
    obtain ⟨h, hh, hc⟩ := head_ex hr a k1
    exact ⟨h, (mB h).2 ⟨hh, move hc.symm k3⟩, hc.symm⟩
   ·exact F.root_uniq ((mA a).1 ha).2.1 ((mA a').1 ha').2.1 (h1.trans h2.symm)
  ·refine choice_le (R := fun a b => Con es a b) ((heads_nodup n es).sublist List.filter_sublist) (fun a ha => ?_) (fun a ha a' ha' b h1 h2 => ?_)
   ·obtain ⟨k1, k3⟩ := (mB a).1 ha
    obtain ⟨r, hrn, k4, k5, hc⟩ := F.root_ex (num a) a (Nat.le_refl _) (mem_heads.1 k1).1
    exact ⟨r, (mA r).2 ⟨hrn, k4, move hc.symm k3⟩, hc.symm⟩
   ·exact heads_uniq ((mB a).1 ha).1 ((mB a').1 ha').1 (h1.trans h2.symm)
 rw [e2] at h3
 have h4 := blocks_count S
 omega
end Go.Fw
namespace Go.Fw
open Go.Proofs
set_option maxHeartbeats 16000000
set_option maxRecDepth 10000
theorem blocksM_len' (n : Nat) (es : List Pr) : (blocksM n es).length ≤ es.length ∧ ∀ p ∈ blocksM n es, p.length ≤ es.length := by
 obtain ⟨_, _, h3, h4, _⟩ := grpsM_ok (fun p _ => keyE n es p) es [] es.length
 refine ⟨by rw [blocksM, List.length_map]; exact h4, fun p hp => ?_⟩
 rw [blocksM, List.mem_map] at hp
 obtain ⟨g, hg, rfl⟩ := hp
 exact h3 g hg
end Go.Fw
