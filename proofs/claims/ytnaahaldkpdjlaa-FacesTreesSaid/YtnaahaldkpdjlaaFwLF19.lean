/- A text of the proof. -/
import Derived.Test.YtnaahaldkpdjlaaFwLF13
set_option linter.unusedSimpArgs false
set_option linter.unusedVariables false
namespace Go.Fw
set_option maxHeartbeats 4000000
set_option maxRecDepth 10000
attribute [local instance] Classical.propDecidable
theorem sum_indP {P : Nat → Prop} : ∀ (hs : List Nat), hs.Nodup → (∃ a ∈ hs, P a) → (∀ a ∈ hs, ∀ b ∈ hs, P a → P b → a = b) → (hs.map fun a => if P a then 1 else 0).sum = 1
 | [], _, h, _ => by obtain ⟨a, ha, _⟩ := h; cases ha
 | x :: hs, nd, h, u => by
  rw [List.nodup_cons] at nd
  rw [List.map_cons, List.sum_cons]
  by_cases c : P x
  ·have z : ∀ a ∈ hs, ¬ P a := fun a ha hp => nd.1 (by rw [u x List.mem_cons_self a (List.mem_cons_of_mem _ ha) c hp]; exact ha)
   have : ∀ l : List Nat, (∀ a ∈ l, ¬ P a) → (l.map fun a => if P a then 1 else 0).sum = 0 := by
    intro l
    induction l with
    | nil => intro _; rfl
    | cons y l ih => intro hl; rw [List.map_cons, List.sum_cons, if_neg (hl y List.mem_cons_self), ih fun a ha => hl a (List.mem_cons_of_mem _ ha)]
   rw [if_pos c, this hs z]
  ·rw [if_neg c, sum_indP hs nd.2 ?_ fun a ha b hb => u a (List.mem_cons_of_mem _ ha) b (List.mem_cons_of_mem _ hb)]
   obtain ⟨a, ha, hp⟩ := h
   rcases List.mem_cons.1 ha with rfl | ha
   ·exact absurd hp c
   ·exact ⟨a, ha, hp⟩
theorem sum_addP (f g : Nat → Nat) : ∀ l : List Nat, (l.map fun a => f a + g a).sum = (l.map f).sum + (l.map g).sum
 | [] => rfl
 | x :: l => by simp only [List.map_cons, List.sum_cons, sum_addP f g l]; omega
theorem sum_cnt {α : Type} {P : Nat → α → Prop} {hs : List Nat} (nd : hs.Nodup) : ∀ (l : List α), (∀ e ∈ l, ∃ a ∈ hs, P a e) → (∀ e ∈ l, ∀ a ∈ hs, ∀ b ∈ hs, P a e → P b e → a = b) → (hs.map fun a => cntK P l a).sum = l.length
 | [], _, _ => by
  have : ∀ l : List Nat, (l.map fun a => cntK P ([] : List α) a).sum = 0 := by
   intro l
   induction l with
   | nil => rfl
   | cons x l ih => rw [List.map_cons, List.sum_cons, ih]; rfl
  exact this hs
 | e :: l, h, u => by
  have ih := sum_cnt nd l (fun x hx => h x (List.mem_cons_of_mem _ hx)) fun x hx => u x (List.mem_cons_of_mem _ hx)
  have e1 : ∀ a, cntK P (e :: l) a = (if P a e then 1 else 0) + cntK P l a := fun a => by
   unfold cntK
   by_cases c : P a e
   ·rw [List.filter_cons_of_pos (by simpa using c), if_pos c, List.length_cons]; omega
   ·rw [List.filter_cons_of_neg (by simpa using c), if_neg c]; omega
  simp only [e1]
  rw [sum_addP, ih, sum_indP (P := fun a => P a e) hs nd (h e List.mem_cons_self) (u e List.mem_cons_self), List.length_cons]; omega
theorem sum_tight (f g : Nat → Nat) : ∀ l : List Nat, (∀ a ∈ l, f a ≤ g a) → (l.map g).sum ≤ (l.map f).sum → ∀ a ∈ l, f a = g a
 | [], _, _, a, h => by cases h
 | x :: l, h, hs, a, ha => by
  have hx := h x List.mem_cons_self
  have hl : ∀ a ∈ l, f a ≤ g a := fun a ha => h a (List.mem_cons_of_mem _ ha)
  have le : ∀ l : List Nat, (∀ a ∈ l, f a ≤ g a) → (l.map f).sum ≤ (l.map g).sum := by
   intro l
   induction l with
   | nil => intro _; exact Nat.le_refl _
   | cons y l ih =>
    intro hl
    have := ih fun a ha => hl a (List.mem_cons_of_mem _ ha)
    have := hl y List.mem_cons_self
    simp only [List.map_cons, List.sum_cons]; omega
  have := le l hl
  simp only [List.map_cons, List.sum_cons] at hs
  rcases List.mem_cons.1 ha with rfl | ha
  ·omega
  ·exact sum_tight f g l hl (by omega) a ha
theorem sum_oneP (l : List Nat) (f : Nat → Nat) : (l.map fun a => f a + 1).sum = (l.map f).sum + l.length := by
 rw [sum_addP f (fun _ => 1)]
 congr 1
 induction l with
 | nil => rfl
 | cons x l ih => rw [List.map_cons, List.sum_cons, ih, List.length_cons]; omega
theorem sum_filter (l : List Nat) (p : Nat → Prop) [DecidablePred p] : (l.map fun a => if p a then 1 else 0).sum = (l.filter fun a => decide (p a)).length := by
 induction l with
 | nil => rfl
 | cons x l ih =>
  rw [List.map_cons, List.sum_cons, ih]
  by_cases c : p x
  ·rw [if_pos c, List.filter_cons_of_pos (by simpa using c), List.length_cons]; omega
  ·rw [if_neg c, List.filter_cons_of_neg (by simpa using c)]; omega
section
variable {n : Nat} {es : List Pr} {rs : List (List Int)}
theorem head_one (hr : InR n es) {v : Nat} (hv : v < n) : (∃ a ∈ heads n es, Con es a v) ∧ ∀ a ∈ heads n es, ∀ b ∈ heads n es, Con es a v → Con es b v → a = b :=
 ⟨head_ex hr v hv, fun _ ha _ hb h1 h2 => heads_uniq ha hb (h1.trans h2.symm)⟩
theorem sum_verts (hr : InR n es) : ((heads n es).map fun a => (compL n es a).length).sum = n := by
 have := sum_cnt (P := fun a v => Con es a v) (heads_nodup n es) (List.range n) (fun v hv => (head_one hr (List.mem_range.1 hv)).1) fun v hv => (head_one hr (List.mem_range.1 hv)).2
 rw [List.length_range] at this
 unfold cntK at this
 unfold compL
 exact this
theorem sum_edges (hr : InR n es) : ((heads n es).map fun a => edK es es a).sum = es.length := by
 have hv : ∀ e ∈ es, e.1.toNat < n := fun e he => by have := hr e he; omega
 unfold edK
 exact sum_cnt (heads_nodup n es) es (fun e he => (head_one hr (hv e he)).1) fun e he => (head_one hr (hv e he)).2
theorem sum_faces (hr : InR n es) (ha : Asc es) (G : RotG n es rs) : ((heads n es).map fun a => faK es (facesM n rs) a).sum = (facesM n rs).length := by
 have hv : ∀ f ∈ facesM n rs, (f.headD 0).toNat < n := fun f hf => by obtain ⟨_, v, hv, e⟩ := faces_at hr ha G hf; rw [e]; simpa using hv
 unfold faK
 exact sum_cnt (heads_nodup n es) (facesM n rs) (fun e he => (head_one hr (hv e he)).1) fun e he => (head_one hr (hv e he)).2
theorem ed_pos (hr : InR n es) {a : Nat} (han : a < n) : 0 < edK es es a ↔ 1 < (compL n es a).length := by
 have nd : (compL n es a).Nodup := by unfold compL; exact List.nodup_range.sublist List.filter_sublist
 constructor
 ·intro h
  unfold edK cntK at h
  obtain ⟨e, he⟩ := List.exists_mem_of_length_pos h
  rw [List.mem_filter, decide_eq_true_eq] at he
  have h1 := hr e he.1
  have h2 : Con es a e.2.toNat := he.2.step (.inl (by rw [Int.toNat_of_nonneg (by omega), Int.toNat_of_nonneg (by omega)]; exact he.1)) rfl
  have := sub_len (A := [e.1.toNat, e.2.toNat]) (B := compL n es a) (by simp; omega) fun x hx => by
   simp only [List.mem_cons, List.not_mem_nil, or_false] at hx
   rcases hx with rfl | rfl
   ·exact mem_compL.2 ⟨by omega, he.2⟩
   ·exact mem_compL.2 ⟨by omega, h2⟩
  simp only [List.length_cons, List.length_nil] at this; omega
 ·intro h
  have : ∃ v ∈ compL n es a, v ≠ a := Classical.byContradiction fun hc => by
   have hall : ∀ v ∈ compL n es a, v = a := fun v hv => Classical.byContradiction fun q => hc ⟨v, hv, q⟩
   have := one_len nd (mem_compL.2 ⟨han, Con.refl es a⟩) hall
   omega
  obtain ⟨v, hv, hne⟩ := this
  obtain ⟨w, hw⟩ := (con_first (mem_compL.1 hv).2 (Ne.symm hne)).1
  unfold edK cntK
  have : ∃ e ∈ es, Con es a e.1.toNat := by
   rcases hw with hw | hw
   ·exact ⟨_, hw, by simpa using Con.refl es a⟩
   ·exact ⟨_, hw, by simpa using con_adj (.inr hw)⟩
  obtain ⟨e, he, hc⟩ := this
  exact List.length_pos_of_mem (List.mem_filter.2 ⟨he, by simpa using hc⟩)
theorem face_pos (hr : InR n es) (ha : Asc es) (G : RotG n es rs) {a : Nat} (h : 0 < edK es es a) : 0 < faK es (facesM n rs) a := by
 have R := G.isRot hr ha
 unfold edK cntK at h
 obtain ⟨e, he⟩ := List.exists_mem_of_length_pos h
 rw [List.mem_filter, decide_eq_true_eq] at he
 have h1 := hr e he.1
 have hd : (e.1.toNat, e.2.toNat) ∈ dl n (rotN rs) := (mem_dl R).2 ((G.mem hr).2 (.inl (by
  simp only
  rw [Int.toNat_of_nonneg (by omega), Int.toNat_of_nonneg (by omega)]; exact he.1)))
 obtain ⟨d, hdm, k, hk⟩ := hd_ex R hd
 have hc : ∀ k, Con es a (it (fph (rotN rs)) k (e.1.toNat, e.2.toNat)).1 := fun k => by
  induction k with
  | zero => exact he.2
  | succ k ih =>
   have hm := (mem_dl R).1 ((phi_pm R).it_mem hd k)
   exact ih.step ((G.mem hr).1 hm) rfl
 unfold faK cntK facesM
 refine List.length_pos_of_mem (a := nat64 (faceF (rotN rs) d)) (List.mem_filter.2 ⟨List.mem_map.2 ⟨_, List.mem_map.2 ⟨d, hdm, rfl⟩, rfl⟩, ?_⟩)
 rw [decide_eq_true_eq]
 show Con es a ((nat64 (faceF (rotN rs) d)).headD 0).toNat
 rw [(faceF_head R ((mem_dl R).2 ((mem_hdsF R).1 hdm).1)).1, Int.toNat_natCast, ← hk]
 exact hc k
theorem tree_parts (hr : InR n es) (ha : Asc es) (G : RotG n es rs) (hc : es.length + (heads n es).length = n) :
  PlaneM n es rs ∧ (facesM n rs).length = ((heads n es).filter fun a => decide (1 < (compL n es a).length)).length := by
 have one : ∀ a ∈ heads n es, 0 < (compL n es a).length := fun a ham => List.length_pos_of_mem (mem_compL.2 ⟨(mem_heads.1 ham).1, Con.refl es a⟩)
 have le : ∀ a ∈ heads n es, (compL n es a).length ≤ edK es es a + 1 := fun a ham => by
  by_cases h : 0 < edK es es a
  ·obtain ⟨g, hg⟩ := part_euler hr ha G ham h
   have := face_pos hr ha G h
   omega
  ·have : ¬ 1 < (compL n es a).length := fun q => h ((ed_pos hr (mem_heads.1 ham).1).2 q)
   omega
 have eq := sum_tight (fun a => (compL n es a).length) (fun a => edK es es a + 1) (heads n es) le (by rw [sum_oneP, sum_edges hr, sum_verts hr]; omega)
 have fa : ∀ a ∈ heads n es, faK es (facesM n rs) a = if 1 < (compL n es a).length then 1 else 0 := fun a ham => by
  have e : (compL n es a).length = edK es es a + 1 := eq a ham
  by_cases h : 0 < edK es es a
  ·obtain ⟨g, hg⟩ := part_euler hr ha G ham h
   have := face_pos hr ha G h
   rw [if_pos ((ed_pos hr (mem_heads.1 ham).1).1 h)]
   omega
  ·rw [if_neg (fun q => h ((ed_pos hr (mem_heads.1 ham).1).2 q))]
   unfold faK cntK
   rw [List.length_eq_zero_iff, List.filter_eq_nil_iff]
   intro f hf
   rw [decide_eq_true_eq]
   intro hcon0
   have hcon : Con es a (f.headD 0).toNat := hcon0
   have R := G.isRot hr ha
   unfold facesM at hf
   obtain ⟨q, hq, rfl⟩ := List.mem_map.1 hf
   obtain ⟨d, hd, rfl⟩ := List.mem_map.1 hq
   have hd1 := (mem_hdsF R).1 hd
   rw [(faceF_head R ((mem_dl R).2 hd1.1)).1, Int.toNat_natCast] at hcon
   have had := (G.mem hr).1 hd1.1
   have hcon2 : Con es a d.2 := hcon.step had rfl
   have hne : d.1 ≠ d.2 := fun e => R.ir d.1 (by have := hd1.1; rw [← e] at this; exact this)
   apply h
   rw [ed_pos hr (mem_heads.1 ham).1]
   have hl1 := had.lt hr
   have := sub_len (A := [d.1, d.2]) (B := compL n es a) (by simp [hne]) fun x hx => by
    simp only [List.mem_cons, List.not_mem_nil, or_false] at hx
    rcases hx with rfl | rfl
    ·exact mem_compL.2 ⟨hl1.1, hcon⟩
    ·exact mem_compL.2 ⟨hl1.2, hcon2⟩
   simp only [List.length_cons, List.length_nil] at this; omega
 refine ⟨fun a ham h => ?_, ?_⟩
 ·have e : (compL n es a).length = edK es es a + 1 := eq a ham
  rw [fa a ham, if_pos ((ed_pos hr (mem_heads.1 ham).1).1 h)]; omega
 ·rw [← sum_faces hr ha G, ← sum_filter (heads n es) (fun a => 1 < (compL n es a).length)]
  congr 1
  exact List.map_congr_left fa
theorem faces_sum (R : IsRot n (rotN rs)) : ((facesM n rs).map List.length).sum = (dl n (rotN rs)).length := by
 have p := phi_pm R
 have e : ((facesM n rs).map List.length).sum = ((hdsF n (rotN rs)).flatMap fun d => orbL (fph (rotN rs)) d).length := by
  unfold facesM facesF
  rw [List.map_map, List.map_map, List.length_flatMap]
  congr 1
  refine List.map_congr_left fun d _ => ?_
  simp only [Function.comp, nat64_length, faceF, List.length_map]
 rw [e]
 refine (perm_of_mem ?_ (dl_nodup R) fun d => ?_).length_eq
 ·rw [List.nodup_iff_pairwise_ne, List.pairwise_flatMap]
  refine ⟨fun d hd => (List.nodup_iff_pairwise_ne).1 (orbL_nodup p ((mem_dl R).2 ((mem_hdsF R).1 hd).1)), ?_⟩
  have nd : (hdsF n (rotN rs)).Nodup := (ddl_nodup n (rotN rs)).sublist List.filter_sublist
  rw [List.nodup_iff_pairwise_ne] at nd
  refine List.Pairwise.imp_of_mem (fun {d q} hd hq hne => ?_) nd
  intro x hx y hy exy
  subst exy
  have h1 := (mem_dl R).2 ((mem_hdsF R).1 hd).1
  have h2 := (mem_dl R).2 ((mem_hdsF R).1 hq).1
  have o1 := (mem_orbL p h1).1 hx
  have o2 := (mem_orbL p h2).1 hy
  exact hne (hd_uniq R hd hq (o1.trans (p.orb_symm h2 o2)))
 ·rw [List.mem_flatMap]
  constructor
  ·rintro ⟨q, hq, hm⟩
   have h2 := (mem_dl R).2 ((mem_hdsF R).1 hq).1
   exact p.orb_mem h2 ((mem_orbL p h2).1 hm)
  ·intro hd
   obtain ⟨q, hq, ho⟩ := hd_ex R hd
   have h2 := (mem_dl R).2 ((mem_hdsF R).1 hq).1
   exact ⟨q, hq, (mem_orbL p h2).2 (p.orb_symm hd ho)⟩
end
end Go.Fw
