/- One of the texts of the layer and the walks: it proves what its theorems say of the functions of the seat, with no condition beyond theirs. -/
import Derived.Test.YtmgcmoifdnkaoaaFwLT9
set_option linter.unusedSimpArgs false
set_option linter.unusedVariables false
namespace Go.Fw
open Go.Proofs
theorem adj_irr {n : Nat} {es : List Pr} (hr : InR n es) {a : Nat} (h : adj es a a) : False := by
  rcases h with h | h <;> have := (hr _ h).2.1 <;> simp at this
theorem woV_sub {es : List Pr} {v a b : Nat} (h : Con (woV es v) a b) : Con es a b := by
  induction h with
  | refl _ => exact Con.refl _ _
  | step _ a _ ih => exact .step ih (woV_adj.1 a).1 rfl
theorem woV_iso {es : List Pr} {v x : Nat} (h : Con (woV es v) v x) : x = v := by
  induction h with
  | refl _ => rfl
  | step _ a _ ih => subst ih; exact absurd rfl (woV_adj.1 a).2.1
theorem woV_reach {es : List Pr} {v x : Nat} (h : Con es v x) (hx : x ≠ v) : ∃ a, adj es v a ∧ Con (woV es v) a x := by
  induction h with
  | refl _ => exact absurd rfl hx
  | @step w x c a _ ih =>
    by_cases e : w = v
    · subst e; exact ⟨x, a, Con.refl _ _⟩
    · obtain ⟨b, hb, hc⟩ := ih e
      exact ⟨b, hb, .step hc (woV_adj.2 ⟨a, e, hx⟩) rfl⟩
theorem woV_far {es : List Pr} {v u x : Nat} (h : Con es u x) (hx : ¬ Con es v x) : Con (woV es v) u x := by
  induction h with
  | refl _ => exact Con.refl _ _
  | @step w x c a o ih =>
    have hw : ¬ Con es v w := fun k => hx (.step k a o)
    exact .step (ih hw) (woV_adj.2 ⟨a, fun e => hw (e ▸ Con.refl _ _), fun e => hx (e ▸ Con.refl _ _)⟩) rfl
theorem split_len {α : Type} (p : α → Bool) : ∀ (l : List α), l.length = (l.filter p).length + (l.filter fun x => !p x).length
  | [] => rfl
  | x :: l => by
    have := split_len p l
    cases h : p x <;> simp [List.filter_cons, h, this] <;> omega
theorem one_len {l : List Nat} (nd : l.Nodup) {x : Nat} (hx : x ∈ l) (h : ∀ y ∈ l, y = x) : l.length = 1 := by
  cases l with
  | nil => cases hx
  | cons a l =>
    cases l with
    | nil => rfl
    | cons b l =>
      have h1 := h a (by simp)
      have h2 := h b (by simp)
      rw [h1, h2] at nd
      simp at nd
theorem three_len {l : List Nat} (nd : l.Nodup) {v : Nat} (hv : v ∈ l) : 2 < l.length ↔ ∃ x y, x ∈ l ∧ y ∈ l ∧ x ≠ y ∧ x ≠ v ∧ y ≠ v := by
  have h1 := List.length_erase_of_mem hv
  have hp := List.length_pos_of_mem hv
  have nd1 : (l.erase v).Nodup := nd.sublist List.erase_sublist
  have m1 : ∀ x, x ∈ l.erase v ↔ x ≠ v ∧ x ∈ l := fun x => nd.mem_erase_iff
  constructor
  · intro h
    match hl : l.erase v with
    | [] => rw [hl] at h1; simp at h1; omega
    | [_] => rw [hl] at h1; simp at h1; omega
    | x :: y :: r =>
      have hx := (m1 x).1 (by rw [hl]; simp)
      have hy := (m1 y).1 (by rw [hl]; simp)
      rw [hl] at nd1
      have : x ≠ y := by simp at nd1; exact nd1.1.1
      exact ⟨x, y, hx.2, hy.2, this, hx.1, hy.1⟩
  · rintro ⟨x, y, hx, hy, hxy, hxv, hyv⟩
    have hx1 := (m1 x).2 ⟨hxv, hx⟩
    have hy1 := (m1 y).2 ⟨hyv, hy⟩
    have h2 := List.length_erase_of_mem hx1
    have hy2 : y ∈ (l.erase v).erase x := nd1.mem_erase_iff.2 ⟨hxy.symm, hy1⟩
    have h3 := List.length_pos_of_mem hy2
    omega
open Classical in
theorem cut_more {n : Nat} {es : List Pr} (hr : InR n es) {v : Nat} (hv : v < n) : (heads n es).length + 1 < (heads n (woV es v)).length ↔ Fo.Cut2 es v := by
  have hr' : InR n (woV es v) := fun q hq => hr q (List.mem_filter.1 hq).1
  have e1 := split_len (fun x => decide (Con es v x)) (heads n es)
  have e2 := split_len (fun x => decide (Con es v x)) (heads n (woV es v))
  have e3 : (heads n es).filter (fun x => !decide (Con es v x)) = (heads n (woV es v)).filter (fun x => !decide (Con es v x)) := by
    unfold heads
    rw [List.filter_filter, List.filter_filter]
    refine List.filter_congr fun x hx => ?_
    by_cases c : Con es v x
    · simp [c]
    · have : (∀ u, u < x → ¬ Con es u x) ↔ (∀ u, u < x → ¬ Con (woV es v) u x) := ⟨fun h u hu k => h u hu (woV_sub k), fun h u hu k => h u hu (woV_far k c)⟩
      simp only [this]
  obtain ⟨h0, hh0, hc0⟩ := head_ex hr v hv
  have e4 : ((heads n es).filter fun x => decide (Con es v x)).length = 1 :=
    one_len ((heads_nodup n es).sublist List.filter_sublist) (x := h0) (List.mem_filter.2 ⟨hh0, decide_eq_true hc0.symm⟩) fun y hy => by
      obtain ⟨k1, k2⟩ := List.mem_filter.1 hy
      exact heads_uniq k1 hh0 ((of_decide_eq_true k2).symm.trans hc0.symm)
  have hvm : v ∈ (heads n (woV es v)).filter fun x => decide (Con es v x) :=
    List.mem_filter.2 ⟨mem_heads.2 ⟨hv, fun u hu k => by have := woV_iso k.symm; omega⟩, decide_eq_true (Con.refl _ _)⟩
  have e5 := three_len ((heads_nodup n (woV es v)).sublist (List.filter_sublist (p := fun x => decide (Con es v x)))) hvm
  rw [← e3] at e2
  have : (heads n es).length + 1 < (heads n (woV es v)).length ↔ 2 < ((heads n (woV es v)).filter fun x => decide (Con es v x)).length := by omega
  rw [this, e5]
  constructor
  · rintro ⟨x, y, hx, hy, hxy, hxv, hyv⟩
    obtain ⟨k1, k2⟩ := List.mem_filter.1 hx
    obtain ⟨k3, k4⟩ := List.mem_filter.1 hy
    obtain ⟨a, ha, hac⟩ := woV_reach (of_decide_eq_true k2) hxv
    obtain ⟨b, hb, hbc⟩ := woV_reach (of_decide_eq_true k4) hyv
    refine ⟨a, b, ha, hb, fun c => hxy ?_⟩
    have hav : a ≠ v := by simpa [wo] using c.off1
    exact heads_uniq k1 k3 (hac.symm.trans (((woV_con hav).2 c).trans hbc))
  · rintro ⟨a, b, ha, hb, hn⟩
    have hav : a ≠ v := fun e => by subst e; exact adj_irr hr ha
    have hbv : b ≠ v := fun e => by subst e; exact adj_irr hr hb
    obtain ⟨x, hx, hxa⟩ := head_ex hr' a (ha.lt hr).2
    obtain ⟨y, hy, hyb⟩ := head_ex hr' b (hb.lt hr).2
    refine ⟨x, y, List.mem_filter.2 ⟨hx, decide_eq_true ((con_adj ha).trans (woV_sub hxa).symm)⟩, List.mem_filter.2 ⟨hy, decide_eq_true ((con_adj hb).trans (woV_sub hyb).symm)⟩, ?_, ?_, ?_⟩
    · rintro rfl; exact hn ((woV_con hav).1 (hxa.symm.trans hyb))
    · rintro rfl; exact hav (woV_iso hxa)
    · rintro rfl; exact hbv (woV_iso hyb)
end Go.Fw
namespace Go.Fw
open Go.Proofs
def otherM (p : Pr) (v : Int) : Int := if p.1 = v then p.2 else if p.2 = v then p.1 else -1
theorem pairOf_inj {v a b : Nat} (h : pairOf v a = pairOf v b) : a = b := by
  rw [pairOf_of, pairOf_of, Prod.mk.injEq] at h; omega
theorem pairOf_mem {n : Nat} {es : List Pr} (hr : InR n es) {a b : Nat} (h : adj es a b) : pairOf a b ∈ es := adj_mem' hr h
theorem other_spec {n : Nat} {es : List Pr} (hr : InR n es) {p : Pr} (hp : p ∈ es) (v : Nat) :
    (∃ a : Nat, a < n ∧ otherM p (v : Int) = (a : Int) ∧ adj es v a ∧ p = pairOf v a) ∨ (otherM p (v : Int) = -1 ∧ ∀ a, p ≠ pairOf v a) := by
  obtain ⟨a, c, rfl, hac, hcn, hadj⟩ := ends hr hp
  unfold otherM
  by_cases h1 : a = v
  · subst h1
    exact .inl ⟨c, hcn, by rw [if_pos rfl], hadj, by rw [pairOf_of, Prod.mk.injEq]; omega⟩
  · by_cases h2 : c = v
    · subst h2
      exact .inl ⟨a, by omega, by rw [if_neg (by simp only; omega), if_pos rfl], hadj.symm, by rw [pairOf_of, Prod.mk.injEq]; omega⟩
    · refine .inr ⟨by rw [if_neg (by simp only; omega), if_neg (by simp only; omega)], fun b e => ?_⟩
      rw [pairOf_of, Prod.mk.injEq] at e; omega
def LK (es : List Pr) (v : Nat) (p q : Pr) : Prop := ∃ a b, adj es v a ∧ adj es v b ∧ p = pairOf v a ∧ q = pairOf v b ∧ Cn (wo v) es a b
theorem LK.symm {es : List Pr} {v : Nat} {p q : Pr} (h : LK es v p q) : LK es v q p := by
  obtain ⟨a, b, h1, h2, h3, h4, h5⟩ := h; exact ⟨b, a, h2, h1, h4, h3, h5.symm⟩
theorem LK.key {n : Nat} {es : List Pr} (hr : InR n es) {v : Nat} {p q : Pr} (h : LK es v p q) : keyE n es p = keyE n es q := by
  obtain ⟨a, b, h1, h2, rfl, rfl, h5⟩ := h; exact (key_iff hr h1 h2).2 h5
def oneF (f : Pr → Int) (a b : Int) (p : Pr) : Int := if f p = a then b else f p
structure OF (n : Nat) (es : List Pr) (f : Pr → Int) (v i k : Nat) : Prop where
  snd : ∀ p ∈ es, ∀ q ∈ es, f p = f q → keyE n es p = keyE n es q
  vs : ∀ v' < v, ∀ p ∈ es, ∀ q ∈ es, LK es v' p q → f p = f q
  is : ∀ (i' k' : Nat) p q, i' < i → k' < i' → es[i']? = some p → es[k']? = some q → LK es v p q → f p = f q
  ks : ∀ (k' : Nat) p q, k' < k → es[i]? = some p → es[k']? = some q → LK es v p q → f p = f q
theorem OF.start {n : Nat} {es : List Pr} {f : Pr → Int} (h : ∀ p ∈ es, ∀ q ∈ es, f p = f q → p = q) : OF n es f 0 0 0 :=
  ⟨fun p hp q hq e => by rw [h p hp q hq e], fun v' hv => by omega, fun i' k' p q h1 => by omega, fun k' p q h1 => by omega⟩
theorem OF.nextV {n : Nat} {es : List Pr} {f : Pr → Int} {v i : Nat} (o : OF n es f v i 0) (hi : es.length ≤ i) : OF n es f (v + 1) 0 0 := by
  refine ⟨o.snd, fun v' hv' p hp q hq l => ?_, fun i' k' p q h1 => by omega, fun k' p q h1 => by omega⟩
  by_cases e : v' = v
  · subst e
    obtain ⟨x, hx⟩ := List.getElem?_of_mem hp
    obtain ⟨y, hy⟩ := List.getElem?_of_mem hq
    have lx := (List.getElem?_eq_some_iff.1 hx).1
    have ly := (List.getElem?_eq_some_iff.1 hy).1
    rcases Nat.lt_trichotomy x y with h | h | h
    · exact (o.is y x q p (by omega) h hy hx l.symm).symm
    · subst h; rw [hx] at hy; injection hy with hy; rw [hy]
    · exact o.is x y p q (by omega) h hx hy l
  · exact o.vs v' (by omega) p hp q hq l
theorem OF.nextI {n : Nat} {es : List Pr} {f : Pr → Int} {v i k : Nat} (o : OF n es f v i k) (hk : i ≤ k) : OF n es f v (i + 1) 0 := by
  refine ⟨o.snd, o.vs, fun i' k' p q h1 h2 hp hq l => ?_, fun k' p q h1 => by omega⟩
  by_cases e : i' = i
  · subst e; exact o.ks k' p q (by omega) hp hq l
  · exact o.is i' k' p q (by omega) h2 hp hq l
theorem OF.skipI {n : Nat} {es : List Pr} {f : Pr → Int} {v i : Nat} (o : OF n es f v i 0) {p : Pr} (hp : es[i]? = some p) (h : ∀ a, p ≠ pairOf v a) : OF n es f v (i + 1) 0 := by
  refine ⟨o.snd, o.vs, fun i' k' p' q h1 h2 hp' hq l => ?_, fun k' p q h1 => by omega⟩
  by_cases e : i' = i
  · subst e; rw [hp] at hp'; injection hp' with hp'; subst hp'
    obtain ⟨a, b, _, _, h3, _⟩ := l
    exact absurd h3 (h a)
  · exact o.is i' k' p' q (by omega) h2 hp' hq l
theorem OF.skipK {n : Nat} {es : List Pr} {f : Pr → Int} {v i k : Nat} (o : OF n es f v i k) {p q : Pr} (hp : es[i]? = some p) (hq : es[k]? = some q) (h : ¬ LK es v p q) : OF n es f v i (k + 1) := by
  refine ⟨o.snd, o.vs, o.is, fun k' p' q' h1 hp' hq' l => ?_⟩
  by_cases e : k' = k
  · subst e; rw [hp] at hp'; rw [hq] at hq'; injection hp' with hp'; injection hq' with hq'; subst hp'; subst hq'; exact absurd l h
  · exact o.ks k' p' q' (by omega) hp' hq' l
theorem oneF_eq {f : Pr → Int} {a b : Int} {p q : Pr} (h : f p = f q) : oneF f a b p = oneF f a b q := by unfold oneF; rw [h]
theorem OF.link {n : Nat} {es : List Pr} (hr : InR n es) {f : Pr → Int} {v i k : Nat} (o : OF n es f v i k) {p q : Pr} (hp : es[i]? = some p) (hq : es[k]? = some q) (h : LK es v p q) : OF n es (oneF f (f p) (f q)) v i (k + 1) := by
  have hpe := List.mem_of_getElem? hp
  have hqe := List.mem_of_getElem? hq
  have hk := h.key hr
  refine ⟨fun x hx y hy e => ?_, fun v' hv' x hx y hy l => oneF_eq (o.vs v' hv' x hx y hy l), fun i' k' x y h1 h2 hx hy l => oneF_eq (o.is i' k' x y h1 h2 hx hy l), fun k' p' q' h1 hp' hq' l => ?_⟩
  · unfold oneF at e
    split at e
    · rename_i h1
      have kx := o.snd x hx p hpe h1
      split at e
      · rename_i h2
        rw [kx, o.snd y hy p hpe h2]
      · rw [kx, hk]; exact o.snd q hqe y hy e
    · split at e
      · rename_i h2
        rw [o.snd y hy p hpe h2, hk]; exact o.snd x hx q hqe e
      · exact o.snd x hx y hy e
  · by_cases e : k' = k
    · subst e; rw [hp] at hp'; rw [hq] at hq'; injection hp' with hp'; injection hq' with hq'; subst hp'; subst hq'
      unfold oneF; rw [if_pos rfl]; split <;> rfl
    · exact oneF_eq (o.ks k' p' q' (by omega) hp' hq' l)
theorem OF.fin {n : Nat} {es : List Pr} (hr : InR n es) {f : Pr → Int} {v : Nat} (o : OF n es f v 0 0) (hv : n ≤ v) {p q : Pr} (hp : p ∈ es) (hq : q ∈ es) : f p = f q ↔ keyE n es p = keyE n es q := by
  refine ⟨o.snd p hp q hq, fun h => ?_⟩
  refine key_link hr f (fun v' a b ha hb hc => ?_) hp hq h
  exact o.vs v' (by have := (ha.lt hr).1; omega) _ (pairOf_mem hr ha) _ (pairOf_mem hr hb) ⟨a, b, ha, hb, rfl, rfl, hc⟩
theorem fk_reps {es : List Pr} {f g : Pr → Int} (h : ∀ p ∈ es, ∀ q ∈ es, f p = f q ↔ g p = g q) : ∀ (k : Nat), ∃ reps : List Pr, (∀ r ∈ reps, r ∈ es) ∧ fkM f (es.take k) = reps.map f ∧ fkM g (es.take k) = reps.map g := by
  intro k
  induction k with
  | zero => exact ⟨[], by simp, rfl, rfl⟩
  | succ k ih =>
    obtain ⟨reps, h1, h2, h3⟩ := ih
    by_cases hk : k < es.length
    · have hm := List.getElem_mem hk
      rw [List.take_succ_eq_append_getElem hk, fkM_snoc, fkM_snoc, h2, h3]
      generalize es[k] = p at *
      have e : f p ∈ reps.map f ↔ g p ∈ reps.map g := by
        rw [List.mem_map, List.mem_map]
        exact ⟨fun ⟨r, hr, e⟩ => ⟨r, hr, (h r (h1 r hr) p hm).1 e⟩, fun ⟨r, hr, e⟩ => ⟨r, hr, (h r (h1 r hr) p hm).2 e⟩⟩
      unfold fkS
      by_cases c : f p ∈ reps.map f
      · rw [if_pos c, if_pos (e.1 c)]; exact ⟨reps, h1, rfl, rfl⟩
      · rw [if_neg c, if_neg (fun k => c (e.2 k))]
        refine ⟨reps ++ [p], fun r hr => ?_, by simp, by simp⟩
        rw [List.mem_append, List.mem_singleton] at hr
        rcases hr with hr | rfl
        · exact h1 r hr
        · exact hm
    · rw [List.take_of_length_le (by omega)] at *
      exact ⟨reps, h1, h2, h3⟩
def rowsF (f : Pr → Int) (es : List Pr) (k : Nat) : List (List Pr) := (fkM f (es.take k)).map fun x => es.filter fun p => decide (f p = x)
theorem rowsF_blocks {n : Nat} {es : List Pr} {f : Pr → Int} (h : ∀ p ∈ es, ∀ q ∈ es, f p = f q ↔ keyE n es p = keyE n es q) : rowsF f es es.length = blocksM n es := by
  obtain ⟨reps, h1, h2, h3⟩ := fk_reps h es.length
  rw [blocksM_eq, rowsF, h2]
  rw [List.take_length] at h3
  rw [h3, List.map_map, List.map_map]
  refine List.map_congr_left fun r hr => ?_
  refine List.filter_congr fun p hp => ?_
  rw [Bool.eq_iff_iff, decide_eq_true_eq, decide_eq_true_eq]
  exact h p hp r (h1 r hr)
theorem rowsF_old {f : Pr → Int} {es : List Pr} {i : Nat} (hi : i < es.length) (h : f es[i] ∈ (es.map f).take i) : rowsF f es (i + 1) = rowsF f es i := by
  unfold rowsF
  rw [List.take_succ_eq_append_getElem hi, fkM_snoc, fkS, if_pos]
  rw [((fk_ok f _ (es.take i) rfl).2 _)]
  rw [← List.map_take, List.mem_map] at h
  exact h
theorem rowsF_new {f : Pr → Int} {es : List Pr} {i : Nat} (hi : i < es.length) (h : f es[i] ∉ (es.map f).take i) : rowsF f es (i + 1) = rowsF f es i ++ [(es.drop i).filter fun p => decide (f p = f es[i])] := by
  unfold rowsF
  rw [List.take_succ_eq_append_getElem hi, fkM_snoc, fkS, if_neg]
  · rw [List.map_append, List.map_cons, List.map_nil]
    congr 2
    generalize f es[i] = y at *
    conv => lhs; rw [← List.take_append_drop i es]
    rw [List.filter_append]
    have : (es.take i).filter (fun p => decide (f p = y)) = [] := by
      rw [List.filter_eq_nil_iff]
      intro p hp e
      rw [decide_eq_true_eq] at e
      exact h (by rw [← List.map_take, List.mem_map]; exact ⟨p, hp, e⟩)
    rw [this, List.nil_append]
  · rw [((fk_ok f _ (es.take i) rfl).2 _)]
    rw [← List.map_take, List.mem_map] at h
    exact h
end Go.Fw
