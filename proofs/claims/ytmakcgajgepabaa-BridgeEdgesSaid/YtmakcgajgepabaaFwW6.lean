/- One of the texts of the layer and the walks: it proves what its theorems say of the functions of the seat, with no condition beyond theirs. -/
import Derived.Test.YtmakcgajgepabaaFwW4
import Derived.Test.YtmakcgajgepabaaFwB18
set_option linter.unusedSimpArgs false
set_option linter.unusedVariables false
namespace Go.Fw
set_option maxRecDepth 10000
theorem keys_add (gs : List Gr) (f k : Int) (p : Pr) : k ∈ keysG (addG gs f p) ↔ k ∈ keysG gs ∨ k = f := by
  induction gs with
  | nil => simp [addG, keysG]
  | cons g gs ih =>
    obtain ⟨a, l⟩ := g
    simp only [addG]
    split
    · rename_i h; subst h
      simp only [keysG, List.map_cons, List.mem_cons]
      constructor
      · intro h; exact .inl h
      · rintro (h | h)
        · exact h
        · exact .inl h
    · simp only [keysG, List.map_cons, List.mem_cons] at ih ⊢
      rw [ih, or_assoc]
theorem keys_mem (fr : Pr → Nat → Int) (es web : List Pr) (k : Int) (i : Nat) : k ∈ keysG (grpsM fr es web i) ↔ ∃ (j : Nat) (p : Pr), j < i ∧ es[j]? = some p ∧ p ∉ web ∧ fr p j = k := by
  induction i with
  | zero => simp [grpsM, keysG]
  | succ i ih =>
    cases hp : es[i]? with
    | none =>
      have : grpsM fr es web (i + 1) = grpsM fr es web i := by simp [grpsM, hp]
      rw [this, ih]
      constructor
      · rintro ⟨j, p, h1, h2⟩; exact ⟨j, p, by omega, h2⟩
      · rintro ⟨j, p, h1, h2, h3⟩
        refine ⟨j, p, ?_, h2, h3⟩
        by_cases e : j = i
        · subst e; rw [hp] at h2; cases h2
        · omega
    | some q =>
      by_cases c : q ∈ web
      · rw [grpsM_in hp c, ih]
        constructor
        · rintro ⟨j, p, h1, h2⟩; exact ⟨j, p, by omega, h2⟩
        · rintro ⟨j, p, h1, h2, h3, h4⟩
          refine ⟨j, p, ?_, h2, h3, h4⟩
          by_cases e : j = i
          · subst e; rw [hp] at h2; injection h2 with h2; subst h2; exact absurd c h3
          · omega
      · rw [grpsM_out hp c, keys_add, ih]
        constructor
        · rintro (⟨j, p, h1, h2⟩ | rfl)
          · exact ⟨j, p, by omega, h2⟩
          · exact ⟨i, q, by omega, hp, c, rfl⟩
        · rintro ⟨j, p, h1, h2, h3, h4⟩
          by_cases e : j = i
          · subst e; rw [hp] at h2; injection h2 with h2; subst h2; exact .inr h4.symm
          · exact .inl ⟨j, p, by omega, h2, h3, h4⟩
theorem grps_all (fr : Pr → Nat → Int) (es web : List Pr) (h : ∀ p ∈ es, p ∈ web) (i : Nat) : grpsM fr es web i = [] := by
  have := keys_mem fr es web
  cases hg : grpsM fr es web i with
  | nil => rfl
  | cons g gs =>
    obtain ⟨j, p, _, h1, h2, _⟩ := (this g.1 i).1 (by rw [hg]; simp [keysG])
    exact absurd (h p (List.mem_of_getElem? h1)) h2
theorem frags_all (n : Nat) (es : List Pr) (L : List Int) : FragsM n es es L = [] := by rw [FragsM, grps_all _ _ _ fun p h => h]; rfl
theorem on_nil (n : Nat) : (fun u => (onM n []).getD u false) = offA := by
  funext u
  simp only [onM, List.getD_eq_getElem?_getD, List.getElem?_map, offA]
  cases (List.range n)[u]? with
  | none => rfl
  | some v => simp [onW]
theorem feet_nil (l : List Pr) : feetM offA l = [] := by
  have : ftL offA l = [] := by simp [ftL, ftP, offA]
  have e : sortI [] = [] := by simp [sortI]
  rw [feetM, this, e]; rfl
theorem frags_none_feet (n : Nat) (es : List Pr) (L : List Int) : ∀ f ∈ FragsM n es [] L, f.feet = [] := by
  intro f hf
  rw [FragsM, List.mem_map] at hf
  obtain ⟨g, _, rfl⟩ := hf
  rw [on_nil]; exact feet_nil _
theorem con_edge {es : List Pr} {u w : Nat} (h : Con es u w) (hne : u ≠ w) : ∃ x, adj es u x := by
  have : ∀ w, Con es u w → w = u ∨ ∃ x, adj es u x := by
    intro w h
    induction h with
    | refl _ => exact .inl rfl
    | step _ a _ ih =>
      rcases ih with rfl | ih
      · exact .inr ⟨_, a⟩
      · exact .inr ih
  rcases this w h with h | h
  · exact absurd h.symm hne
  · exact h
theorem head_ex {n : Nat} {es : List Pr} (hr : InR n es) (v : Nat) (hv : v < n) : ∃ u ∈ heads n es, Con es u v := by
  induction v using Nat.strongRecOn with
  | ind v ih =>
    by_cases h : ∃ u, u < v ∧ Con es u v
    · obtain ⟨u, hu, hc⟩ := h
      obtain ⟨w, hw, hcw⟩ := ih u hu (by omega)
      exact ⟨w, hw, Cn.trans hcw hc⟩
    · exact ⟨v, mem_heads.2 ⟨hv, fun u hu hc => h ⟨u, hu, hc⟩⟩, Con.refl es v⟩
theorem head_uniq {n : Nat} {es : List Pr} {u v : Nat} (hu : u ∈ heads n es) (hv : v ∈ heads n es) (h : Con es u v) : u = v := by
  rw [mem_heads] at hu hv
  rcases Nat.lt_trichotomy u v with c | c | c
  · exact absurd h (hv.2 u c)
  · exact c
  · exact absurd h.symm (hu.2 v c)
theorem frags_none_len {n : Nat} {es : List Pr} {L : List Int} (hr : InR n es) (hT : TogM n (fun u => (onM n []).getD u false) es L) :
    (FragsM n es [] L).length = ((partsN n es n).filter fun c => decide (c.length > 1)).length := by
  rw [on_nil] at hT
  have e1 : (FragsM n es [] L).length = (keysG (grpsM (fragM n offA L) es [] es.length)).length := by rw [FragsM, on_nil]; simp [keysG]
  have e2 : ((partsN n es n).filter fun c => decide (c.length > 1)).length = ((heads n es).filter fun v => decide ((compL n es v).length > 1)).length := by
    rw [partsN, List.filter_map, List.length_map]; rfl
  rw [e1, e2]
  have nd := (grpsM_ok (fragM n offA L) es [] es.length).1
  have hfr : ∀ (p : Pr) (i : Nat), fragM n offA L p i = L.getD p.1.toNat 0 := fun p i => by simp [fragM, offA]
  have lab : ∀ u w, u < n → w < n → (L.getD u 0 = L.getD w 0 ↔ Con es u w) := fun u w hu hw => by
    refine Iff.trans ?_ (hT.same u w hu hw rfl rfl)
    obtain ⟨k, _, h1, _⟩ := hT.off u hu rfl
    obtain ⟨k', _, h2, _⟩ := hT.off w hw rfl
    rw [List.getD_eq_getElem?_getD, List.getD_eq_getElem?_getD, h1, h2]; simp
  have hH : ((heads n es).filter fun v => decide ((compL n es v).length > 1)).Nodup := ((List.nodup_range (n := n)).filter _).filter _
  have hM : (((heads n es).filter fun v => decide ((compL n es v).length > 1)).map fun v => L.getD v 0).Nodup := by
    rw [List.nodup_iff_pairwise_ne, List.pairwise_map]
    refine List.Pairwise.imp_of_mem ?_ (List.nodup_iff_pairwise_ne.1 hH)
    intro a b ha hb hab e
    have ha := (List.mem_filter.1 ha).1
    have hb := (List.mem_filter.1 hb).1
    exact hab (head_uniq ha hb ((lab a b (mem_heads.1 ha).1 (mem_heads.1 hb).1).1 e))
  have hmem : ∀ k, k ∈ keysG (grpsM (fragM n offA L) es [] es.length) ↔ k ∈ ((heads n es).filter fun v => decide ((compL n es v).length > 1)).map fun v => L.getD v 0 := by
    intro k
    rw [keys_mem, List.mem_map]
    constructor
    · rintro ⟨j, p, hj, hp, _, rfl⟩
      rw [hfr]
      obtain ⟨p1, p2, p3⟩ := hr p (List.mem_of_getElem? hp)
      obtain ⟨u, hu, hc⟩ := head_ex hr p.1.toNat (by omega)
      refine ⟨u, List.mem_filter.2 ⟨hu, ?_⟩, (lab _ _ (mem_heads.1 hu).1 (by omega)).2 hc⟩
      have ha : adj es p.1.toNat p.2.toNat := by
        have e1 : ((p.1.toNat : Nat) : Int) = p.1 := by omega
        have e2 : ((p.2.toNat : Nat) : Int) = p.2 := by omega
        left; rw [e1, e2]; exact List.mem_of_getElem? hp
      have m1 : p.1.toNat ∈ compL n es u := mem_compL.2 ⟨by omega, hc⟩
      have m2 : p.2.toNat ∈ compL n es u := mem_compL.2 ⟨by omega, .step hc ha rfl⟩
      have : ([p.1.toNat, p.2.toNat] : List Nat).length ≤ (compL n es u).length := by
        refine List.Nodup.length_le_of_subset ?_ fun x hx => ?_
        · simp; omega
        · simp at hx; rcases hx with rfl | rfl
          · exact m1
          · exact m2
      simp at this ⊢; omega
    · rintro ⟨v, hv, rfl⟩
      obtain ⟨hv, hl⟩ := List.mem_filter.1 hv
      have hl : (compL n es v).length > 1 := by simpa using hl
      have hvn := (mem_heads.1 hv).1
      have : ∃ w ∈ compL n es v, w ≠ v := by
        apply Classical.byContradiction
        intro hno
        have : compL n es v ⊆ [v] := fun w hw => by
          rw [List.mem_singleton]; exact Classical.byContradiction fun h => hno ⟨w, hw, h⟩
        have nd2 : (compL n es v).Nodup := (List.nodup_range (n := n)).filter _
        have := nd2.length_le_of_subset this
        simp at this; omega
      obtain ⟨w, hw, hne⟩ := this
      obtain ⟨x, hx⟩ := con_edge (mem_compL.1 hw).2 (Ne.symm hne)
      rcases hx with hx | hx
      · obtain ⟨j, hj⟩ := List.mem_iff_getElem?.1 hx
        exact ⟨j, _, (List.getElem?_eq_some_iff.1 hj).1, hj, by simp, by rw [hfr]; simp⟩
      · obtain ⟨j, hj⟩ := List.mem_iff_getElem?.1 hx
        refine ⟨j, _, (List.getElem?_eq_some_iff.1 hj).1, hj, by simp, ?_⟩
        rw [hfr]
        have := hr _ hx
        simp only at this
        rw [Int.toNat_natCast]
        exact (lab _ _ (by omega) hvn).2 (con_adj (.inl hx))
  have l1 := nd.length_le_of_subset (fun k hk => (hmem k).1 hk)
  have l2 := hM.length_le_of_subset (fun k hk => (hmem k).2 hk)
  rw [List.length_map] at l1 l2
  omega
end Go.Fw
