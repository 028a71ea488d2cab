/- One of the texts of the layer and the walks: it proves what its theorems say of the functions of the seat, with no condition beyond theirs. -/
import Derived.Test.YtmakcgajgepabaaFwW6
import Derived.Test.YtmakcgajgepabaaFwB25
set_option linter.unusedSimpArgs false
set_option linter.unusedVariables false
namespace Go.Fw
set_option maxRecDepth 10000
theorem asc_pairwise {l : List Pr} : Asc l ↔ l.Pairwise fun p q => cmpP p q < 0 := by
  rw [List.pairwise_iff_getElem]
  constructor
  · intro a i j hi hj hij; exact a i j _ _ hij (List.getElem?_eq_getElem hi) (List.getElem?_eq_getElem hj)
  · intro a i j p q hij hp hq
    obtain ⟨h1, rfl⟩ := List.getElem?_eq_some_iff.1 hp
    obtain ⟨h2, rfl⟩ := List.getElem?_eq_some_iff.1 hq
    exact a i j h1 h2 hij
theorem Asc.sub {l l' : List Pr} (a : Asc l') (h : l.Sublist l') : Asc l := asc_pairwise.2 ((asc_pairwise.1 a).sublist h)
theorem sel_sub (es : List Pr) (S : List Bool) : ∀ i, (selM es S i).Sublist (es.take i)
  | 0 => by simp [selM]
  | i + 1 => by
    have ih := sel_sub es S i
    simp only [selM]
    cases hp : es[i]? with
    | none => simp only []; rw [List.take_of_length_le (by rw [List.getElem?_eq_none_iff] at hp; omega)]; exact ih.trans (List.take_sublist _ _)
    | some p =>
      have : es.take (i + 1) = es.take i ++ [p] := by rw [List.take_add_one, hp]; rfl
      simp only [this]
      split
      · exact ih.append (List.Sublist.refl _)
      · exact ih.trans (List.sublist_append_left _ _)
theorem sel_web {es : List Pr} (ha : Asc es) (S : List Bool) (i : Nat) : WebOK es (selM es S i) := by
  have hs := (sel_sub es S i).trans (List.take_sublist _ _)
  have ha' := ha.sub hs
  exact ⟨fun i p q hi hq => ha' i (i + 1) p q (by omega) hi hq, fun p hp => hs.subset hp⟩
theorem right_sub {n : Nat} {es l : List Pr} (hr : RightG ⟨(n : Int), es⟩) (h : l.Sublist es) : RightG ⟨(n : Int), l⟩ := by
  refine ⟨hr.n0, hr.n1, Nat.le_trans (by simpa using h.length_le) hr.len, fun i hi p hp => ⟨hr.inR p (h.subset (List.mem_of_getElem? hp)), fun q hi0 hq => ?_⟩⟩
  exact (hr.asc.sub h) (i - 1) i q p (by omega) hq hp
structure FragIs (n : Nat) (es web : List Pr) (L : List Int) (k : Int) (f : FM) : Prop where
  edges : f.edges = fullU (fragM n (onF n web) L) es web k es.length
  feet : f.feet = nat64 (rfeet web f.edges n)
  ne : f.edges ≠ []
theorem full_sub (fr : Pr → Nat → Int) (es web : List Pr) (k : Int) : ∀ i, (fullU fr es web k i).Sublist (es.take i)
  | 0 => by simp [fullU]
  | i + 1 => by
    have ih := full_sub fr es web k i
    simp only [fullU]
    cases hp : es[i]? with
    | none => simp only []; rw [List.take_of_length_le (by rw [List.getElem?_eq_none_iff] at hp; omega)]; exact ih.trans (List.take_sublist _ _)
    | some p =>
      have : es.take (i + 1) = es.take i ++ [p] := by rw [List.take_add_one, hp]; rfl
      simp only [this]
      split
      · exact ih.trans (List.sublist_append_left _ _)
      · split
        · exact ih.append (List.Sublist.refl _)
        · exact ih.trans (List.sublist_append_left _ _)
theorem FragIs.sub {n : Nat} {es web : List Pr} {L : List Int} {k : Int} {f : FM} (h : FragIs n es web L k f) : f.edges.Sublist es := by
  rw [h.edges]; exact (full_sub _ _ _ _ _).trans (List.take_sublist _ _)
theorem FragIs.mem {n : Nat} {es web : List Pr} {L : List Int} {k : Int} {f : FM} (h : FragIs n es web L k f) (q : Pr) : q ∈ f.edges ↔ ∃ j, es[j]? = some q ∧ q ∉ web ∧ fragM n (onF n web) L q j = k := by
  rw [h.edges, full_mem]
  constructor
  · rintro ⟨j, _, h⟩; exact ⟨j, h⟩
  · rintro ⟨j, h1, h2⟩; exact ⟨j, (List.getElem?_eq_some_iff.1 h1).1, h1, h2⟩
theorem frags_is {n : Nat} {es web : List Pr} {L : List Int} (hR : InR n es) : ∃ ks : List Int, ks.Nodup ∧ ks.length = (FragsM n es web L).length ∧ (∀ (i : Nat) f, (FragsM n es web L)[i]? = some f → ∃ k, ks[i]? = some k ∧ FragIs n es web L k f) ∧
    ∀ (j : Nat) (p : Pr), es[j]? = some p → p ∉ web → fragM n (onF n web) L p j ∈ ks := by
  obtain ⟨nd, hne, _, _, _⟩ := grpsM_ok (fragM n (onF n web) L) es web es.length
  refine ⟨keysG (grpsM (fragM n (onF n web) L) es web es.length), nd, by rw [frags_r hR, FragsR]; simp [keysG], fun i f hf => ?_, fun j p hj hp => (keys_mem _ _ _ _ _).2 ⟨j, p, (List.getElem?_eq_some_iff.1 hj).1, hj, hp, rfl⟩⟩
  have hf0 := hf
  rw [frags_r hR, FragsR, List.getElem?_map, Option.map_eq_some_iff] at hf
  obtain ⟨g, hg, rfl⟩ := hf
  have hk : (keysG (grpsM (fragM n (onF n web) L) es web es.length))[i]? = some g.1 := by rw [keysG, List.getElem?_map, hg]; rfl
  refine ⟨g.1, hk, ?_, rfl, hne g (List.mem_of_getElem? hg)⟩
  have h1 := grps_map (fun l => l) (grpsM (fragM n (onF n web) L) es web es.length) nd
  have h2 : (List.map (fun g : Gr => g.2) (grpsM (fragM n (onF n web) L) es web es.length))[i]? = some g.2 := by rw [List.getElem?_map, hg]; rfl
  rw [h1, List.getElem?_map, hk] at h2
  simp only [Option.map_some, Option.some.injEq] at h2
  rw [← h2, lst_full]
theorem mem_rfeet {web l : List Pr} {n : Nat} {x : Int} : x ∈ nat64 (rfeet web l n) ↔ ∃ v : Nat, v < n ∧ x = (v : Int) ∧ onE web (v : Int) = true ∧ onE l (v : Int) = true := by
  simp only [nat64, rfeet, List.mem_map, List.mem_filter, List.mem_range, Bool.and_eq_true]
  constructor
  · rintro ⟨v, ⟨h1, h2, h3⟩, rfl⟩; exact ⟨v, h1, rfl, h2, h3⟩
  · rintro ⟨v, h1, rfl, h2, h3⟩; exact ⟨v, ⟨h1, h2, h3⟩, rfl⟩
theorem onE_ex {ps : List Pr} {v : Int} : onE ps v = true ↔ ∃ p ∈ ps, endB p v = true := by simp [onE]
theorem off_web {n : Nat} {web : List Pr} {x : Nat} (hx : x < n) (ho : onF n web x = false) {q : Pr} (hq : endB q x = true) : q ∉ web := by
  intro hm
  rw [onF, onM_getD hx] at ho
  have : onE web (x : Int) = true := onE_ex.2 ⟨q, hm, hq⟩
  rw [this] at ho; cases ho
def wayE (n : Nat) (web : List Pr) (a b : Int) (l : List Pr) : List Pr :=
  l.filter fun e => (!onF n web e.1.toNat || decide (e.1 = a) || decide (e.1 = b)) && (!onF n web e.2.toNat || decide (e.2 = a) || decide (e.2 = b))
theorem mem_wayE {n : Nat} {web l : List Pr} {a b : Int} {e : Pr} : e ∈ wayE n web a b l ↔ e ∈ l ∧ (onF n web e.1.toNat = false ∨ e.1 = a ∨ e.1 = b) ∧ (onF n web e.2.toNat = false ∨ e.2 = a ∨ e.2 = b) := by
  simp [wayE, or_assoc]
theorem edge_adj {n : Nat} {es : List Pr} (hR : InR n es) {p : Pr} (hp : p ∈ es) {x y : Nat} (hx : endB p x = true) (hy : endB p y = true) (hne : x ≠ y) : adj es x y := by
  rcases end_adj hR hp hx hy with h | h
  · exact absurd h hne
  · exact h
theorem lab_iff {n : Nat} {on : Nat → Bool} {es : List Pr} {L : List Int} (hT : TogM n on es L) {u w : Nat} (hu : u < n) (hw : w < n) (ou : on u = false) (ow : on w = false) : L.getD u 0 = L.getD w 0 ↔ Cn on es u w := by
  rw [← hT.same u w hu hw ou ow]
  obtain ⟨k, _, h1, _⟩ := hT.off u hu ou
  obtain ⟨k', _, h2, _⟩ := hT.off w hw ow
  rw [List.getD_eq_getElem?_getD, List.getD_eq_getElem?_getD, h1, h2]; simp
theorem end_two {r : Pr} {x y c : Nat} (hx : endB r x = true) (hy : endB r y = true) (hne : x ≠ y) (hc : endB r c = true) : c = x ∨ c = y := by
  rw [endB_iff] at hx hy hc
  omega
theorem frag_off {n : Nat} {es web : List Pr} {L : List Int} (hR : InR n es) (hT : TogM n (onF n web) es L) {k : Int} {f : FM} (hf : FragIs n es web L k f) {y : Nat} (hy : y < n) (oy : onF n web y = false) (hk : L.getD y 0 = k) (l : List Pr)
    (hl : ∀ r ∈ f.edges, (∀ c : Nat, endB r c = true → onF n web c = false) → r ∈ l) (hln : InR n l) : ∀ z, Cn (onF n web) es y z → Con l y z := by
  intro z hz
  induction hz with
  | refl _ => exact Con.refl _ _
  | @step w z c ad o ih =>
    have hwz := ad.lt hR
    obtain ⟨m, r, hm, r1, r2⟩ := adj_edge hR ad
    have ow := c.off2
    have hrf : r ∈ f.edges := by
      refine (hf.mem r).2 ⟨m, hm, off_web hwz.1 ow r1, ?_⟩
      rw [key_off hR hT (List.mem_of_getElem? hm) m hwz.1 r1 ow, ← hk]
      exact ((lab_iff hT hy hwz.1 oy ow).2 c).symm
    by_cases e : w = z
    · subst e; exact ih
    · refine .step ih (edge_adj hln (hl r hrf fun c hc => ?_) r1 r2 e) rfl
      rcases end_two r1 r2 e hc with rfl | rfl
      · exact ow
      · exact o
theorem frag_way {n : Nat} {es web : List Pr} {L : List Int} (hR : InR n es) (hT : TogM n (onF n web) es L) {k : Int} {f : FM} (hf : FragIs n es web L k f) {a b : Nat} (hfa : (a : Int) ∈ f.feet) (hfb : (b : Int) ∈ f.feet) (hab : a ≠ b) :
    Con (wayE n web a b f.edges) b a := by
  rw [hf.feet, mem_rfeet] at hfa hfb
  obtain ⟨a', han, e, wa, ea⟩ := hfa
  obtain rfl : a = a' := by omega
  clear e
  obtain ⟨b', hbn, e, wb, eb⟩ := hfb
  obtain rfl : b = b' := by omega
  clear e
  obtain ⟨p, hp, pa⟩ := onE_ex.1 ea
  obtain ⟨q, hq, qb⟩ := onE_ex.1 eb
  have hRf : InR n f.edges := fun r hr => hR r (hf.sub.subset hr)
  have onA : ∀ {c : Nat}, c < n → onE web (c : Int) = true → onF n web c = true := fun hc h => by rw [onF, onM_getD hc]; exact h
  have oa := onA han wa
  have ob := onA hbn wb
  have inW : ∀ r ∈ f.edges, (∀ c : Nat, endB r c = true → onF n web c = false ∨ c = a ∨ c = b) → r ∈ wayE n web a b f.edges := fun r hr hc => by
    obtain ⟨r1, r2, r3⟩ := hRf r hr
    have c1 := hc r.1.toNat (by rw [endB_iff]; omega)
    have c2 := hc r.2.toNat (by rw [endB_iff]; omega)
    refine mem_wayE.2 ⟨hr, ?_, ?_⟩
    · rcases c1 with h | h | h
      · exact .inl h
      · exact .inr (.inl (by omega))
      · exact .inr (.inr (by omega))
    · rcases c2 with h | h | h
      · exact .inl h
      · exact .inr (.inl (by omega))
      · exact .inr (.inr (by omega))
  obtain ⟨i, hi, pw, pk⟩ := (hf.mem p).1 hp
  obtain ⟨j, hj, qw, qk⟩ := (hf.mem q).1 hq
  have hWR : InR n (wayE n web a b f.edges) := fun r hr => hRf r (mem_wayE.1 hr).1
  have small : ∀ {r : Pr} {m x : Nat}, es[m]? = some r → x < n → endB r x = true → onF n web x = false → fragM n (onF n web) L r m < n := fun hm hx rx ox => by
    rw [key_off hR hT (List.mem_of_getElem? hm) _ hx rx ox]
    obtain ⟨k1, h1, h2, _⟩ := hT.off _ hx ox
    rw [List.getD_eq_getElem?_getD, h2]; simp only [Option.getD_some]; omega
  rcases key_cases (L := L) (web := web) hR (List.mem_of_getElem? hi) i with ⟨x, hx, px, ox⟩ | hkey
  · rcases key_cases (L := L) (web := web) hR (List.mem_of_getElem? hj) j with ⟨y, hy, qy, oy⟩ | hkey2
    · have hax : a ≠ x := fun e => by rw [e, ox] at oa; cases oa
      have hby : b ≠ y := fun e => by rw [e, oy] at ob; cases ob
      have pin := inW p hp fun c hc => by
        rcases end_two pa px hax hc with rfl | rfl
        · exact .inr (.inl rfl)
        · exact .inl ox
      have qin := inW q hq fun c hc => by
        rcases end_two qb qy hby hc with rfl | rfl
        · exact .inr (.inr rfl)
        · exact .inl oy
      have lx := key_off hR hT (List.mem_of_getElem? hi) i hx px ox
      have ly := key_off hR hT (List.mem_of_getElem? hj) j hy qy oy
      rw [pk] at lx
      rw [qk] at ly
      have hc : Cn (onF n web) es y x := (lab_iff hT hy hx oy ox).1 (by rw [← lx, ← ly])
      have hW := frag_off hR hT hf hy oy ly.symm (wayE n web a b f.edges) (fun r hr h => inW r hr fun c hc => .inl (h c hc)) hWR x hc
      exact Cn.trans (.step (.refl rfl) (edge_adj hWR qin qb qy hby) rfl) (.step hW (edge_adj hWR pin px pa (Ne.symm hax)) rfl)
    · have := small hi hx px ox
      rw [pk, ← qk, hkey2] at this; omega
  · rcases key_cases (L := L) (web := web) hR (List.mem_of_getElem? hj) j with ⟨y, hy, qy, oy⟩ | hkey2
    · have := small hj hy qy oy
      rw [qk, ← pk, hkey] at this; omega
    · have : i = j := by rw [← pk, hkey] at qk; omega
      subst this
      rw [hi] at hj; injection hj with hj; subst hj
      have pin := inW p hp fun c hc => by
        rcases end_two pa qb hab hc with rfl | rfl
        · exact .inr (.inl rfl)
        · exact .inr (.inr rfl)
      exact con_adj (edge_adj hWR pin qb pa (Ne.symm hab))
end Go.Fw
