/- One of the texts of the layer and the walks: it proves what its theorems say of the functions of the seat, with no condition beyond theirs. -/
import Derived.Test.YtmakcgajgepabaaFwX3
set_option linter.unusedSimpArgs false
set_option linter.unusedVariables false
namespace Go.Fw
set_option maxRecDepth 10000
theorem cmp_self (p : Pr) : cmpP p p = 0 := (cmpP_eq p p).2 rfl
theorem heads_add (gs : List Gr) (f : Int) (p : Pr) (hne : ∀ g ∈ gs, g.2 ≠ []) : (addG gs f p).map (fun g => g.2.head?) = gs.map (fun g => g.2.head?) ∨ (addG gs f p).map (fun g => g.2.head?) = gs.map (fun g => g.2.head?) ++ [some p] := by
  induction gs with
  | nil => right; rfl
  | cons g gs ih =>
    obtain ⟨k, l⟩ := g
    simp only [addG]
    split
    · left
      have := hne (k, l) (by simp)
      cases l with
      | nil => exact absurd rfl this
      | cons a l => rfl
    · rcases ih fun g hg => hne g (by simp [hg]) with h | h
      · left; simp only [List.map_cons, h]
      · right; simp only [List.map_cons, h, List.cons_append]
theorem heads_sub (fr : Pr → Nat → Int) (es web : List Pr) : ∀ i, ((grpsM fr es web i).map (fun g => g.2.head?)).Sublist ((es.take i).map some)
  | 0 => by simp [grpsM]
  | i + 1 => by
    have ih := heads_sub fr es web i
    have hne := (grpsM_ok fr es web i).2.1
    cases hp : es[i]? with
    | none =>
      have : grpsM fr es web (i + 1) = grpsM fr es web i := by simp [grpsM, hp]
      rw [this, List.take_of_length_le (by rw [List.getElem?_eq_none_iff] at hp; omega)]
      exact ih.trans ((List.take_sublist _ _).map _)
    | some p =>
      have ht : es.take (i + 1) = es.take i ++ [p] := by rw [List.take_add_one, hp]; rfl
      rw [ht, List.map_append]
      by_cases c : p ∈ web
      · rw [grpsM_in hp c]; exact ih.trans (List.sublist_append_left _ _)
      · rw [grpsM_out hp c]
        rcases heads_add (grpsM fr es web i) (fr p i) p hne with h | h
        · rw [h]; exact ih.trans (List.sublist_append_left _ _)
        · rw [h]; exact ih.append (List.Sublist.refl _)
theorem frags_rise {n : Nat} {es web : List Pr} {L : List Int} (ha : Asc es) {i : Nat} {f f' : FM} (h1 : (FragsM n es web L)[i]? = some f) (h2 : (FragsM n es web L)[i + 1]? = some f') {p q : Pr} (hp : f.edges[0]? = some p) (hq : f'.edges[0]? = some q) : cmpP p q < 0 := by
  have hs := (heads_sub (fragM n (onF n web) L) es web es.length).trans ((List.take_sublist _ _).map some)
  rw [FragsM, List.getElem?_map, Option.map_eq_some_iff] at h1 h2
  obtain ⟨g1, hg1, rfl⟩ := h1
  obtain ⟨g2, hg2, rfl⟩ := h2
  have hpw := (asc_pairwise.1 ha)
  have hpw2 : (es.map some).Pairwise fun (x y : Option Pr) => ∀ p q, x = some p → y = some q → cmpP p q < 0 := by
    rw [List.pairwise_map]; exact hpw.imp fun h p q e1 e2 => by injection e1 with e1; injection e2 with e2; subst e1 e2; exact h
  have := hpw2.sublist hs
  rw [List.pairwise_iff_getElem] at this
  have l1 := (List.getElem?_eq_some_iff.1 hg1)
  have l2 := (List.getElem?_eq_some_iff.1 hg2)
  have := this i (i + 1) (by simp; exact l1.1) (by simp; exact l2.1) (by omega) p q (by simp [l1.2]; rw [List.head?_eq_getElem?]; exact hp) (by simp [l2.2]; rw [List.head?_eq_getElem?]; exact hq)
  exact this
theorem frag_alone {n : Nat} {es web : List Pr} {L : List Int} (hR : InR n es) (ha : Asc es) (hT : TogM n (onF n web) es L) {k : Int} {f : FM} (hf : FragIs n es web L k f) {p : Pr} (hp : p ∈ f.edges) (h1 : onF n web p.1.toNat = true) (h2 : onF n web p.2.toNat = true) : f.edges.length ≤ 1 := by
  obtain ⟨i, hi, _, hk⟩ := (hf.mem p).1 hp
  have e1 : fragM n (onF n web) L p i = (n : Int) + i := by rw [fragM, if_neg (by rw [h1]; decide), if_neg (by rw [h2]; decide)]
  have all : ∀ q ∈ f.edges, q = p := by
    intro q hq
    obtain ⟨j, hj, _, hkj⟩ := (hf.mem q).1 hq
    rcases key_cases (L := L) (web := web) hR (List.mem_of_getElem? hj) j with ⟨x, hx, qx, ox⟩ | hkey
    · have := key_off hR hT (List.mem_of_getElem? hj) j hx qx ox
      obtain ⟨k1, hk1, l1, _⟩ := hT.off x hx ox
      rw [hkj, ← hk, e1, List.getD_eq_getElem?_getD, l1] at this
      simp only [Option.getD_some] at this; omega
    · have : i = j := by rw [hkj, ← hk, e1] at hkey; omega
      subst this
      rw [hi] at hj; injection hj with hj; exact hj.symm
  have nd : f.edges.Nodup := by
    have := (asc_pairwise.1 (ha.sub hf.sub))
    rw [List.nodup_iff_pairwise_ne]
    exact this.imp fun h e => by rw [e, cmp_self] at h; omega
  have := nd.length_le_of_subset (l₂ := [p]) fun q hq => by rw [List.mem_singleton]; exact all q hq
  simpa using this
theorem edges_nodup {es : List Pr} (ha : Asc es) : es.Nodup := by
  rw [List.nodup_iff_pairwise_ne]
  exact (asc_pairwise.1 ha).imp fun h e => by rw [e, cmp_self] at h; omega
theorem key_at {n : Nat} {es web : List Pr} {L : List Int} (hR : InR n es) (hT : TogM n (onF n web) es L) {k : Int} {f : FM} (hf : FragIs n es web L k f) {p : Pr} (hp : p ∈ f.edges) {v : Nat} (hv : v < n) (ov : onF n web v = false) (pv : endB p v = true) : L.getD v 0 = k := by
  obtain ⟨i, hi, _, hk⟩ := (hf.mem p).1 hp
  rw [← hk, key_off hR hT (List.mem_of_getElem? hi) i hv pv ov]
theorem mem_ftL {on : Nat → Bool} {l : List Pr} {x : Int} : x ∈ ftL on l ↔ ∃ p ∈ l, (x = p.1 ∨ x = p.2) ∧ on x.toNat = true := by
  simp only [ftL, List.mem_flatMap, ftP, List.mem_filter, List.mem_cons, List.not_mem_nil, or_false]
theorem frag_feet {n : Nat} {es web : List Pr} {L : List Int} (hR : InR n es) {k : Int} {f : FM} (hf : FragIs n es web L k f) : f.feet.Pairwise (· < ·) ∧ ∀ x, x ∈ f.feet ↔ x ∈ ftL (onF n web) f.edges := by
  constructor
  · rw [hf.feet, nat64, List.pairwise_map, rfeet]
    exact ((range_asc n).filter _).imp fun h => by omega
  · intro x
    rw [hf.feet, mem_rfeet, mem_ftL]
    constructor
    · rintro ⟨v, hv, rfl, h1, h2⟩
      obtain ⟨p, hp, hpv⟩ := onE_ex.1 h2
      rw [endB_iff] at hpv
      refine ⟨p, hp, by omega, ?_⟩
      rw [Int.toNat_natCast, onF, onM_getD hv]; exact h1
    · rintro ⟨p, hp, hx, ho⟩
      have hr := hR p (hf.sub.subset hp)
      have hx0 : ((x.toNat : Nat) : Int) = x := by omega
      have hxn : x.toNat < n := by omega
      rw [onF, onM_getD hxn, hx0] at ho
      refine ⟨x.toNat, hxn, hx0.symm, by rw [hx0]; exact ho, onE_ex.2 ⟨p, hp, by rw [endB_iff]; omega⟩⟩
def innB (n : Nat) (web : List Pr) (p : Pr) : Bool := !onF n web p.1.toNat && !onF n web p.2.toNat
theorem frag_inner {n : Nat} {es web : List Pr} {L : List Int} (hR : InR n es) (hT : TogM n (onF n web) es L) {k : Int} {f : FM} (hf : FragIs n es web L k f) :
    ∀ u w : Nat, (u : Int) ∈ ftL (fun u => !onF n web u) f.edges → (w : Int) ∈ ftL (fun u => !onF n web u) f.edges → Con (f.edges.filter (innB n web)) u w := by
  intro u w hu hw
  rw [mem_ftL] at hu hw
  obtain ⟨p, hp, pu, ou⟩ := hu
  obtain ⟨q, hq, qw, ow⟩ := hw
  rw [Int.toNat_natCast] at ou ow
  have ou : onF n web u = false := by simpa using ou
  have ow : onF n web w = false := by simpa using ow
  have hpr := hR p (hf.sub.subset hp)
  have hqr := hR q (hf.sub.subset hq)
  have hun : u < n := by omega
  have hwn : w < n := by omega
  have ku := key_at hR hT hf hp hun ou (by rw [endB_iff]; omega)
  have kw := key_at hR hT hf hq hwn ow (by rw [endB_iff]; omega)
  have hc := (lab_iff hT hun hwn ou ow).1 (by rw [ku, kw])
  refine frag_off hR hT hf hun ou ku _ (fun r hr h => List.mem_filter.2 ⟨hr, ?_⟩) (fun r hr => hR r (hf.sub.subset (List.mem_filter.1 hr).1)) w hc
  have hrr := hR r (hf.sub.subset hr)
  have h1 := h r.1.toNat (by rw [endB_iff]; omega)
  have h2 := h r.2.toNat (by rw [endB_iff]; omega)
  show (!_ && !_) = true
  rw [h1, h2]; rfl
theorem web_count {es web : List Pr} (ha : Asc es) (hw : WebOK es web) (hs : web.Nodup) {ks : List Pr} (nd : ks.Nodup) (hk : ∀ p, p ∈ ks ↔ p ∈ es ∧ p ∉ web) : ks.length + web.length = es.length := by
  have n1 : (ks ++ web).Nodup := by
    rw [List.nodup_append]
    exact ⟨nd, hs, fun a ha' b hb e => by subst e; exact ((hk a).1 ha').2 hb⟩
  have l1 := n1.length_le_of_subset (l₂ := es) fun p hp => by
    rcases List.mem_append.1 hp with h | h
    · exact ((hk p).1 h).1
    · exact hw.mem p h
  have l2 := (edges_nodup ha).length_le_of_subset (l₂ := ks ++ web) fun p hp => by
    by_cases c : p ∈ web
    · exact List.mem_append_right _ c
    · exact List.mem_append_left _ ((hk p).2 ⟨hp, c⟩)
  rw [List.length_append] at l1 l2
  omega
end Go.Fw
