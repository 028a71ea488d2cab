/- One of the texts of the layer and the walks: it proves what its theorems say of the functions of the seat, with no condition beyond theirs. -/
import Derived.Test.YtdflaojabddalaaFwRg14
set_option linter.unusedSimpArgs false
set_option linter.unusedVariables false
namespace Go.Fw
open Go.Proofs
set_option maxHeartbeats 400000

/- the walk, without the program -/
def dg (S : SkinM) (u : Nat) : Nat := (S.rot.getD u []).length
def nb (S : SkinM) (u p : Nat) : Nat := ((S.rot.getD u []).getD p 0).toNat
def atM (mir : Bool) (e j n : Nat) : Nat := if mir then (e + n - j) % n else (e + j) % n
def plM (S : SkinM) (x u : Nat) : Nat := (placeM (S.rot.getD x []) u).toNat
def colV (S : SkinM) (u : Nat) : List Int := S.vert.getD u []
def colD (S : SkinM) (u p : Nat) : List Int := (S.dart.getD u []).getD p []

structure Ws where
  ord : List Nat
  ent : List Nat
  words : List (List Int)

def visit (s : Ws) (x e : Nat) : Ws := if x ∈ s.ord then s else ⟨s.ord ++ [x], s.ent ++ [e], s.words⟩
def nxt (S : SkinM) (mir : Bool) (u e j : Nat) (s : Ws) : Ws :=
  let p := atM mir e j (dg S u)
  let x := nb S u p
  let s1 := visit s x (plM S x u)
  ⟨s1.ord, s1.ent, s1.words ++ [num4 (s1.ord.idxOf x), colD S u p]⟩
def innM (S : SkinM) (mir : Bool) (u e : Nat) : Nat → Ws → Ws
  | 0, s => s
  | j + 1, s => nxt S mir u e j (innM S mir u e j s)
def headM (S : SkinM) (u : Nat) (s : Ws) : Ws := ⟨s.ord, s.ent, s.words ++ [colV S u, num4 (dg S u)]⟩
def outM (S : SkinM) (mir : Bool) (v i : Nat) : Nat → Ws
  | 0 => ⟨[v], [i], []⟩
  | k + 1 =>
    let s := outM S mir v i k
    innM S mir (s.ord.getD k 0) (s.ent.getD k 0) (dg S (s.ord.getD k 0)) (headM S (s.ord.getD k 0) s)
def bytesM (ws : List (List Int)) : List Int := ws.flatMap wordB
def finM (S : SkinM) (mir : Bool) (v i : Nat) : Ws := outM S mir v i S.rot.length
def codeM (S : SkinM) (mir : Bool) (v i : Nat) : List Int := num4 (wordsM S) ++ bytesM (finM S mir v i).words

/- what begins so -/
def Pre (s t : Ws) : Prop := s.ord <+: t.ord ∧ s.ent <+: t.ent ∧ s.words <+: t.words
theorem Pre.refl (s : Ws) : Pre s s := ⟨List.prefix_refl _, List.prefix_refl _, List.prefix_refl _⟩
theorem Pre.trans {s t u : Ws} (a : Pre s t) (b : Pre t u) : Pre s u := ⟨a.1.trans b.1, a.2.1.trans b.2.1, a.2.2.trans b.2.2⟩
theorem visit_pre (s : Ws) (x e : Nat) : Pre s (visit s x e) := by
  unfold visit; split
  · exact .refl s
  · exact ⟨List.prefix_append _ _, List.prefix_append _ _, List.prefix_refl _⟩
theorem nxt_pre (S : SkinM) (mir : Bool) (u e j : Nat) (s : Ws) : Pre s (nxt S mir u e j s) := by
  have h := visit_pre s (nb S u (atM mir e j (dg S u))) (plM S (nb S u (atM mir e j (dg S u))) u)
  exact ⟨h.1, h.2.1, h.2.2.trans (List.prefix_append _ _)⟩
theorem innM_pre (S : SkinM) (mir : Bool) (u e : Nat) (s : Ws) : ∀ j, Pre s (innM S mir u e j s)
  | 0 => .refl s
  | j + 1 => (innM_pre S mir u e s j).trans (nxt_pre S mir u e j _)
theorem innM_le (S : SkinM) (mir : Bool) (u e : Nat) (s : Ws) {j k : Nat} (h : j ≤ k) : Pre (innM S mir u e j s) (innM S mir u e k s) := by
  induction k with
  | zero => have : j = 0 := by omega
            subst this; exact .refl _
  | succ k ih =>
    by_cases e' : j = k + 1
    · subst e'; exact .refl _
    · exact (ih (by omega)).trans (nxt_pre S mir u e k _)
theorem headM_pre (S : SkinM) (u : Nat) (s : Ws) : Pre s (headM S u s) := ⟨List.prefix_refl _, List.prefix_refl _, List.prefix_append _ _⟩
theorem outM_le (S : SkinM) (mir : Bool) (v i : Nat) {j k : Nat} (h : j ≤ k) : Pre (outM S mir v i j) (outM S mir v i k) := by
  induction k with
  | zero => have : j = 0 := by omega
            subst this; exact .refl _
  | succ k ih =>
    by_cases e' : j = k + 1
    · subst e'; exact .refl _
    · exact (ih (by omega)).trans ((headM_pre S _ _).trans (innM_pre S mir _ _ _ _))
theorem Pre.bytes {s t : Ws} (p : Pre s t) : ∃ r, bytesM t.words = bytesM s.words ++ r := by
  obtain ⟨w, hw⟩ := p.2.2
  exact ⟨bytesM w, by rw [← hw]; simp [bytesM]⟩

/- what is right of a state -/
structure StOK (S : SkinM) (s : Ws) : Prop where
  nd : s.ord.Nodup
  lt : ∀ x ∈ s.ord, x < S.rot.length
  len : s.ent.length = s.ord.length
  ent : ∀ (q u e : Nat), s.ord[q]? = some u → s.ent[q]? = some e → e < dg S u ∨ dg S u = 0 ∧ e = 0

theorem placeFrom_eq (x : Int) : ∀ (l : List Int) (i : Nat), placeFrom i l x = if x ∈ l then ((i + l.idxOf x : Nat) : Int) else -1
  | [], i => by simp [placeFrom]
  | a :: l, i => by
    have ih := placeFrom_eq x l (i + 1)
    rw [placeFrom]
    by_cases h : a = x
    · subst h; simp
    · rw [if_neg h, ih]
      have h' : ¬ x = a := fun e => h e.symm
      simp only [List.mem_cons, h', false_or, List.idxOf_cons]
      split
      · have : (a == x) = false := by simpa using h
        simp only [this, cond_false]; omega
      · rfl
theorem placeM_eq (l : List Int) (x : Int) : placeM l x = if x ∈ l then (l.idxOf x : Int) else -1 := by
  have := placeFrom_eq x l 0
  simpa [placeM] using this
theorem placeM_lt (l : List Int) (x : Int) (h : 0 ≤ placeM l x) : (placeM l x).toNat < l.length ∧ l[(placeM l x).toNat]? = some x ∧ x ∈ l := by
  rw [placeM_eq] at *
  split at h
  · rename_i hm
    rw [if_pos hm]
    have hlt : l.idxOf x < l.length := List.idxOf_lt_length_of_mem hm
    refine ⟨by simpa using hlt, ?_, hm⟩
    rw [Int.toNat_natCast, List.getElem?_eq_getElem hlt]
    congr 1
    exact List.getElem_idxOf hlt
  · omega

theorem getD_of {α : Type} {l : List α} {i : Nat} {d : α} (h : i < l.length) : l.getD i d = l[i] := by simp [List.getD, h]

theorem nb_ok {S : SkinM} (hr : RightS S) {u p : Nat} (hu : u < S.rot.length) (hp : p < dg S u) : nb S u p < S.rot.length ∧ nb S u p ≠ u ∧ ((S.rot.getD u []).getD p 0) = (nb S u p : Nat) ∧ 0 ≤ placeM (S.rot.getD (nb S u p) []) u ∧ plM S (nb S u p) u < dg S (nb S u p) ∧ nb S (nb S u p) (plM S (nb S u p) u) = u := by
  have h1 : S.rot.getD u [] = S.rot[u] := getD_of hu
  have hp' : p < S.rot[u].length := by rw [dg, h1] at hp; exact hp
  have h2 : S.rot[u].getD p 0 = S.rot[u][p] := getD_of hp'
  have m := hr.mutl u _ (getElem?_of hu) p _ (getElem?_of hp')
  obtain ⟨m1, m2, m3, m4, m5⟩ := m
  have e : nb S u p = S.rot[u][p].toNat := by simp only [nb, h1, h2]
  have e2 : ((nb S u p : Nat) : Int) = S.rot[u][p] := by rw [e]; omega
  have hlt : nb S u p < S.rot.length := by omega
  have h3 : S.rot.getD (nb S u p) [] = S.rot[nb S u p] := getD_of hlt
  have m6 := m5 _ (by rw [← e]; exact getElem?_of hlt)
  rw [h1, h2, ← h3] at *
  obtain ⟨q1, q2, _⟩ := placeM_lt _ _ m6
  refine ⟨hlt, by omega, e2.symm, m6, q1, ?_⟩
  simp only [nb, plM] at q2 ⊢
  rw [List.getD_eq_getElem?_getD (l := S.rot.getD ((S.rot.getD u []).getD p 0).toNat []), q2]
  simp
theorem StOK.visit {S : SkinM} {s : Ws} (k : StOK S s) {x e : Nat} (hx : x < S.rot.length) (he : e < dg S x) : StOK S (visit s x e) := by
  unfold Fw.visit; split
  · exact k
  · rename_i hn
    refine ⟨?_, ?_, by simp [k.len], ?_⟩
    · rw [List.nodup_append]; exact ⟨k.nd, by simp, fun a ha b hb => by simp at hb; subst hb; intro e; subst e; exact hn ha⟩
    · intro y hy; simp at hy; rcases hy with hy | rfl
      · exact k.lt y hy
      · exact hx
    · intro q u e' hq he'
      by_cases hlt : q < s.ord.length
      · rw [List.getElem?_append_left hlt] at hq
        rw [List.getElem?_append_left (by rw [k.len]; exact hlt)] at he'
        exact k.ent q u e' hq he'
      · have hq' : q = s.ord.length := by
          have := (List.getElem?_eq_some_iff.1 hq).1
          simp at this; omega
        subst hq'
        rw [List.getElem?_append_right (Nat.le_refl _)] at hq
        rw [List.getElem?_append_right (by rw [k.len]; exact Nat.le_refl _)] at he'
        simp [k.len] at hq he'
        subst hq he'; exact .inl he
theorem StOK.nxt {S : SkinM} (hr : RightS S) {s : Ws} (k : StOK S s) {mir : Bool} {u e j : Nat} (hu : u < S.rot.length) (hj : j < dg S u) : StOK S (nxt S mir u e j s) := by
  have hp : atM mir e j (dg S u) < dg S u := by unfold atM; split <;> exact Nat.mod_lt _ (by omega)
  obtain ⟨h1, h2, h3, h4, h5, h6⟩ := nb_ok hr hu hp
  have := k.visit h1 h5
  exact ⟨this.nd, this.lt, this.len, this.ent⟩
theorem StOK.innM {S : SkinM} (hr : RightS S) {s : Ws} (k : StOK S s) {mir : Bool} {u e : Nat} (hu : u < S.rot.length) : ∀ j, j ≤ dg S u → StOK S (innM S mir u e j s)
  | 0, _ => k
  | j + 1, hj => (StOK.innM hr k hu j (by omega)).nxt hr hu (by omega)
theorem StOK.head {S : SkinM} {s : Ws} (k : StOK S s) (u : Nat) : StOK S (headM S u s) := ⟨k.nd, k.lt, k.len, k.ent⟩

theorem atM_lt (mir : Bool) (e j : Nat) {n : Nat} (hn : 0 < n) : atM mir e j n < n := by unfold atM; split <;> exact Nat.mod_lt _ hn
theorem atM_val {mir : Bool} {e j n : Nat} (he : e < n) (hj : j < n) : atM mir e j n = if mir then (if j ≤ e then e - j else e + n - j) else (if e + j < n then e + j else e + j - n) := by
  have key : ∀ a : Nat, a < 2 * n → a % n = if a < n then a else a - n := by
    intro a ha
    split
    · exact Nat.mod_eq_of_lt ‹_›
    · rw [Nat.mod_eq_sub_mod (by omega), Nat.mod_eq_of_lt (by omega)]
  unfold atM
  cases mir
  · simp only [Bool.false_eq_true, if_false]; rw [key _ (by omega)]
  · simp only [if_true]; rw [key _ (by omega)]
    by_cases h : j ≤ e
    · rw [if_neg (by omega), if_pos h]; omega
    · rw [if_pos (by omega), if_neg h]
theorem atM_onto (mir : Bool) {e p n : Nat} (he : e < n) (hp : p < n) : ∃ j, j < n ∧ atM mir e j n = p := by
  cases mir
  · refine ⟨if e ≤ p then p - e else p + n - e, by split <;> omega, ?_⟩
    rw [atM_val he (by split <;> omega)]
    simp only [Bool.false_eq_true, if_false]
    split <;> split <;> omega
  · refine ⟨if p ≤ e then e - p else e + n - p, by split <;> omega, ?_⟩
    rw [atM_val he (by split <;> omega)]
    simp only [if_true]
    split <;> split <;> omega
theorem atM_inj (mir : Bool) {e j k n : Nat} (he : e < n) (hj : j < n) (hk : k < n) (h : atM mir e j n = atM mir e k n) : j = k := by
  rw [atM_val he hj, atM_val he hk] at h
  cases mir
  · simp only [Bool.false_eq_true, if_false] at h
    split at h <;> split at h <;> omega
  · simp only [if_true] at h
    split at h <;> split at h <;> omega

theorem visit_mem (s : Ws) (x e : Nat) : x ∈ (visit s x e).ord := by
  unfold visit; split
  · assumption
  · simp
theorem nxt_mem (S : SkinM) (mir : Bool) (u e j : Nat) (s : Ws) : nb S u (atM mir e j (dg S u)) ∈ (nxt S mir u e j s).ord := visit_mem _ _ _
theorem innM_mem (S : SkinM) (mir : Bool) (u e : Nat) (s : Ws) {j k : Nat} (h : j < k) : nb S u (atM mir e j (dg S u)) ∈ (innM S mir u e k s).ord :=
  (innM_le S mir u e s (show j + 1 ≤ k from h)).1.subset (nxt_mem S mir u e j _)

/- all vertices that hang together with one of a closed list are in it -/
theorem closed_all {S : SkinM} (hr : RightS S) {L : List Nat} (hl : ∀ x ∈ L, x < S.rot.length) (hne : L ≠ []) (hc : ∀ u ∈ L, ∀ p, p < dg S u → nb S u p ∈ L) : ∀ x, x < S.rot.length → x ∈ L := by
  have back : ∀ {a : Nat}, Reach S.rot a → a < S.rot.length → a ∈ L → 0 ∈ L := by
    intro a ha
    induction ha with
    | zero => exact fun _ h => h
    | @step a c w hra hc' hw ih =>
      intro hwl hwL
      have hal : a < S.rot.length := (List.getElem?_eq_some_iff.1 hc').1
      obtain ⟨p, hp⟩ := List.mem_iff_getElem?.1 hw
      have m := hr.mutl a c hc' p w hp
      obtain ⟨q1, q2, q3⟩ := placeM_lt (S.rot[w]) a (m.2.2.2.2 _ (by rw [Int.toNat_natCast]; exact getElem?_of hwl))
      have hg : S.rot.getD w [] = S.rot[w] := getD_of hwl
      have hd : (placeM S.rot[w] a).toNat < dg S w := by rw [dg, hg]; exact q1
      have := hc w hwL _ hd
      have e : nb S w (placeM S.rot[w] a).toNat = a := by
        rw [nb, hg, List.getD_eq_getElem?_getD, q2]; simp
      rw [e] at this
      exact ih hal this
  have fwd : ∀ {a : Nat}, Reach S.rot a → 0 ∈ L → a ∈ L := by
    intro a ha h0
    induction ha with
    | zero => exact h0
    | @step a c w hra hc' hw ih =>
      have hal : a < S.rot.length := (List.getElem?_eq_some_iff.1 hc').1
      obtain ⟨p, hp⟩ := List.mem_iff_getElem?.1 hw
      have hg : S.rot.getD a [] = c := by rw [List.getD_eq_getElem?_getD, hc']; rfl
      have hpl : p < dg S a := by rw [dg, hg]; exact (List.getElem?_eq_some_iff.1 hp).1
      have := hc a ih p hpl
      have e : nb S a p = w := by rw [nb, hg, List.getD_eq_getElem?_getD, hp]; simp
      rwa [e] at this
  cases L with
  | nil => exact absurd rfl hne
  | cons a L =>
    have ha := hl a (by simp)
    have h0 := back (hr.joined a ha) ha (by simp)
    exact fun x hx => fwd (hr.joined x hx) h0

theorem StOK.le {S : SkinM} {s : Ws} (k : StOK S s) : s.ord.length ≤ S.rot.length := (nodup_le _ _ k.nd k.lt).1
theorem mem_count : ∀ (n : Nat) (L : List Nat), L.Nodup → (∀ a, a < n → a ∈ L) → n ≤ L.length := by
  intro n
  induction n with
  | zero => intros; omega
  | succ n ih =>
    intro L hd hL
    have hm := hL n (Nat.lt_succ_self n)
    have := ih (L.erase n) (hd.erase n) fun a ha => (hd.mem_erase_iff).2 ⟨by omega, hL a (by omega)⟩
    rw [List.length_erase_of_mem hm] at this
    have := List.length_pos_of_mem hm
    omega

/- before k all have been looked round -/
structure OutOK (S : SkinM) (s : Ws) (k : Nat) : Prop extends StOK S s where
  ne : s.ord ≠ []
  kle : k ≤ s.ord.length
  cl : ∀ (q u : Nat), q < k → s.ord[q]? = some u → ∀ p, p < dg S u → nb S u p ∈ s.ord

theorem OutOK.done {S : SkinM} (hr : RightS S) {s : Ws} {k : Nat} (o : OutOK S s k) (hk : k = s.ord.length) : k = S.rot.length ∧ ∀ x, x < S.rot.length → x ∈ s.ord := by
  have hall := closed_all hr o.lt o.ne fun u hu p hp => by
    obtain ⟨q, hq⟩ := List.mem_iff_getElem?.1 hu
    exact o.cl q u (by rw [hk]; exact (List.getElem?_eq_some_iff.1 hq).1) hq p hp
  have := mem_count _ _ o.nd hall
  have := o.toStOK.le
  exact ⟨by omega, hall⟩

theorem out_ok {S : SkinM} (hr : RightS S) {mir : Bool} {v i : Nat} (hv : v < S.rot.length) (hi : i < dg S v ∨ dg S v = 0 ∧ i = 0) : ∀ k, k ≤ S.rot.length → OutOK S (outM S mir v i k) k
  | 0, _ => by
    refine ⟨⟨by simp [outM], by simp [outM, hv], rfl, ?_⟩, by simp [outM], Nat.zero_le _, by omega⟩
    intro q u e hq he
    have : q = 0 := by have := (List.getElem?_eq_some_iff.1 hq).1; simp [outM] at this; omega
    subst this
    simp [outM] at hq he
    subst hq he; exact hi
  | k + 1, hk => by
    have ih := out_ok hr hv hi (mir := mir) k (by omega)
    have hlt : k < (outM S mir v i k).ord.length := by
      rcases Nat.lt_or_eq_of_le ih.kle with h | h
      · exact h
      · have := (ih.done hr h).1; omega
    have hltE : k < (outM S mir v i k).ent.length := by rw [ih.len]; exact hlt
    have eu : (outM S mir v i k).ord.getD k 0 = (outM S mir v i k).ord[k] := getD_of hlt
    have ee : (outM S mir v i k).ent.getD k 0 = (outM S mir v i k).ent[k] := getD_of hltE
    have hu := ih.lt _ (List.getElem_mem hlt)
    have he := ih.ent k _ _ (getElem?_of hlt) (getElem?_of hltE)
    have hpre : Pre (outM S mir v i k) (outM S mir v i (k + 1)) := outM_le S mir v i (Nat.le_succ k)
    have hok : StOK S (outM S mir v i (k + 1)) := by
      show StOK S (innM S mir _ _ _ _)
      rw [eu, ee]
      exact (ih.toStOK.head _).innM hr hu _ (Nat.le_refl _)
    refine ⟨hok, ?_, ?_, ?_⟩
    · intro e
      have := hpre.1.length_le
      rw [e] at this
      simp at this
      exact ih.ne this
    · exact Nat.le_trans hlt hpre.1.length_le
    · intro q u hq hu' p hp
      by_cases e : q = k
      · subst e
        have : u = (outM S mir v i q).ord[q] := by
          have h1 := List.IsPrefix.getElem hpre.1 hlt
          rw [getElem?_of (Nat.lt_of_lt_of_le hlt hpre.1.length_le)] at hu'
          injection hu' with hu'
          rw [← hu', h1]
        subst this
        have he' : (outM S mir v i q).ent[q] < dg S (outM S mir v i q).ord[q] := by
          rcases he with he | ⟨he, _⟩
          · exact he
          · omega
        obtain ⟨j, hj, hjp⟩ := atM_onto mir he' hp
        have := innM_mem S mir (outM S mir v i q).ord[q] (outM S mir v i q).ent[q] (headM S (outM S mir v i q).ord[q] (outM S mir v i q)) hj
        rw [hjp] at this
        show _ ∈ (innM S mir _ _ _ _).ord
        rw [eu, ee]
        exact this
      · have hql : q < (outM S mir v i k).ord.length := by omega
        have h1 := List.IsPrefix.getElem hpre.1 hql
        rw [getElem?_of (Nat.lt_of_lt_of_le hql hpre.1.length_le)] at hu'
        injection hu' with hu'
        exact hpre.1.subset (ih.cl q u (by omega) (by rw [getElem?_of hql, h1, hu']) p hp)
end Go.Fw
namespace Go.Fw
open Go.Proofs
set_option maxHeartbeats 400000

def ints (l : List Nat) : List Int := l.map (fun x : Nat => (x : Int))
theorem mem_ints {l : List Nat} {x : Nat} : (x : Int) ∈ ints l ↔ x ∈ l := by
  simp only [ints, List.mem_map]
  constructor
  · rintro ⟨y, hy, e⟩; have : y = x := by omega
    subst this; exact hy
  · exact fun h => ⟨x, h, rfl⟩
theorem idxOf_ints : ∀ (l : List Nat) (x : Nat), (ints l).idxOf (x : Int) = l.idxOf x
  | [], _ => rfl
  | a :: l, x => by
    have ih := idxOf_ints l x
    simp only [ints, List.map_cons, List.idxOf_cons] at *
    rw [ih]
    by_cases h : a = x
    · subst h; simp
    · have h1 : (a == x) = false := by simpa using h
      have h2 : ((a : Int) == (x : Int)) = false := by simp; omega
      rw [h1, h2]
theorem place_ints (l : List Nat) (x : Nat) : placeM (ints l) x = if x ∈ l then (l.idxOf x : Int) else -1 := by
  rw [placeM_eq, idxOf_ints]; simp only [mem_ints]

def calledM (n : Nat) (ord : List Nat) : List Int := rowM n (ints ord)
def enteredM (n : Nat) (s : Ws) : List Int := (List.range n).map fun x => if x ∈ s.ord then ((s.ent.getD (s.ord.idxOf x) 0 : Nat) : Int) else 0
theorem calledM_length (n : Nat) (l : List Nat) : (calledM n l).length = n := rowM_length _ _
theorem enteredM_length (n : Nat) (s : Ws) : (enteredM n s).length = n := by simp [enteredM]
theorem calledM_get {n x : Nat} (l : List Nat) (hx : x < n) : (calledM n l)[x]? = some (if x ∈ l then (l.idxOf x : Int) else -1) := by
  simp [calledM, rowM, hx, place_ints]
theorem enteredM_get {n x : Nat} (s : Ws) (hx : x < n) : (enteredM n s)[x]? = some (if x ∈ s.ord then ((s.ent.getD (s.ord.idxOf x) 0 : Nat) : Int) else 0) := by
  simp [enteredM, hx]
theorem calledM_push {n x : Nat} {l : List Nat} (hx : x < n) (hn : x ∉ l) : calledM n (l ++ [x]) = (calledM n l).set x l.length := by
  apply List.ext_getElem?
  intro i
  by_cases hi : i < n
  · rw [calledM_get _ hi, List.getElem?_set]
    by_cases e : x = i
    · subst e
      have hx' : x < (calledM n l).length := by rw [calledM_length]; exact hi
      simp [hn, List.idxOf_append, hx']
    · rw [if_neg e, calledM_get _ hi]
      have e' : ¬ i = x := fun h => e h.symm
      simp only [List.mem_append, List.mem_singleton, e', or_false]
      split
      · rename_i hm; rw [List.idxOf_append, if_pos hm]
      · rfl
  · rw [List.getElem?_eq_none (by rw [calledM_length]; omega), List.getElem?_eq_none (by rw [List.length_set, calledM_length]; omega)]
theorem enteredM_push {n x e : Nat} {s : Ws} (hx : x < n) (hn : x ∉ s.ord) (hl : s.ent.length = s.ord.length) : enteredM n (visit s x e) = (enteredM n s).set x (e : Nat) := by
  apply List.ext_getElem?
  intro i
  by_cases hi : i < n
  · rw [enteredM_get _ hi, List.getElem?_set]
    simp only [visit, hn, if_false]
    by_cases e : x = i
    · subst e
      have hx' : x < (enteredM n s).length := by rw [enteredM_length]; exact hi
      simp [hx', hn, List.idxOf_append, List.getD_eq_getElem?_getD, ← hl]
    · rw [if_neg e, enteredM_get _ hi]
      have e' : ¬ i = x := fun h => e h.symm
      simp only [List.mem_append, List.mem_singleton, e', or_false]
      split
      · rename_i hm
        rw [List.idxOf_append, if_pos hm]
        have := List.idxOf_lt_length_of_mem hm
        rw [List.getD_eq_getElem?_getD, List.getElem?_append_left (by rw [hl]; exact this), ← List.getD_eq_getElem?_getD]
      · rfl
  · rw [List.getElem?_eq_none (by rw [enteredM_length]; omega), List.getElem?_eq_none (by rw [List.length_set, enteredM_length]; omega)]
theorem enteredM_at {n k : Nat} {s : Ws} (hd : s.ord.Nodup) (hk : k < s.ord.length) (hl : s.ent.length = s.ord.length) (hx : s.ord[k] < n) : (enteredM n s)[s.ord[k]]? = some ((s.ent.getD k 0 : Nat) : Int) := by
  rw [enteredM_get s hx, if_pos (List.getElem_mem hk)]
  rw [hd.idxOf_getElem]
theorem calledM_one {n v : Nat} (hv : v < n) : calledM n [v] = (List.replicate n (-1 : Int)).set v 0 := by
  have h := calledM_push (l := []) hv (by simp)
  simp only [List.nil_append, List.length_nil] at h
  rw [h]; simp [calledM, ints, rowM_nil]
theorem enteredM_one {n v i : Nat} (hv : v < n) : enteredM n ⟨[v], [i], []⟩ = (List.replicate n (0 : Int)).set v (i : Nat) := by
  have h := enteredM_push (s := ⟨[], [], []⟩) (e := i) hv (by simp) rfl
  simp only [visit, List.not_mem_nil, if_false, List.nil_append] at h
  rw [h]
  congr 1
  apply List.ext_getElem
  · simp [enteredM]
  · intro i h1 h2; simp [enteredM]

/- how many bytes -/
theorem wordB_length (xs : List Int) : (wordB xs).length = 4 + xs.length := by simp [wordB, num4_length]
theorem bytes_snoc (ws : List (List Int)) (a b : List Int) : bytesM (ws ++ [a, b]) = bytesM ws ++ (wordB a ++ wordB b) := by simp [bytesM]
theorem colV_le {S : SkinM} (h : SmallM S) (u : Nat) : (colV S u).length ≤ 40 := by
  unfold colV
  by_cases hu : u < S.vert.length
  · rw [getD_of hu]; exact h.verts _ (List.getElem_mem _)
  · simp [List.getD_eq_getElem?_getD, List.getElem?_eq_none (Nat.le_of_not_lt hu)]
theorem colD_le {S : SkinM} (h : SmallM S) (u p : Nat) : (colD S u p).length ≤ 40 := by
  unfold colD
  by_cases hu : u < S.dart.length
  · rw [getD_of hu]
    by_cases hp : p < S.dart[u].length
    · rw [getD_of hp]; exact h.colors _ (List.getElem_mem hu) _ (List.getElem_mem _)
    · simp [List.getD_eq_getElem?_getD, List.getElem?_eq_none (Nat.le_of_not_lt hp)]
  · simp [List.getD_eq_getElem?_getD, List.getElem?_eq_none (Nat.le_of_not_lt hu)]
theorem dg_le {S : SkinM} (h : SmallM S) (u : Nat) : dg S u ≤ 14 := by
  unfold dg
  by_cases hu : u < S.rot.length
  · rw [getD_of hu]; exact h.rots _ (List.getElem_mem _)
  · simp [List.getD_eq_getElem?_getD, List.getElem?_eq_none (Nat.le_of_not_lt hu)]
theorem nxt_bytes (S : SkinM) (mir : Bool) (u e j : Nat) (s : Ws) : ∃ c, bytesM (nxt S mir u e j s).words = bytesM s.words ++ (countB c ++ wordB (colD S u (atM mir e j (dg S u)))) := by
  refine ⟨((visit s (nb S u (atM mir e j (dg S u))) (plM S (nb S u (atM mir e j (dg S u))) u)).ord.idxOf (nb S u (atM mir e j (dg S u))) : Nat), ?_⟩
  simp only [nxt]
  rw [bytes_snoc]
  have : (visit s (nb S u (atM mir e j (dg S u))) (plM S (nb S u (atM mir e j (dg S u))) u)).words = s.words := by
    unfold visit; split <;> rfl
  rw [this]; rfl
theorem inn_len {S : SkinM} (h : SmallM S) (mir : Bool) (u e : Nat) (s : Ws) : ∀ j, (bytesM (innM S mir u e j s).words).length ≤ (bytesM s.words).length + 52 * j
  | 0 => Nat.le_refl _
  | j + 1 => by
    have ih := inn_len h mir u e s j
    obtain ⟨c, hc⟩ := nxt_bytes S mir u e j (innM S mir u e j s)
    have := colD_le h u (atM mir e j (dg S u))
    simp only [innM, hc, List.length_append, wordB_length, countB, num4_length]
    omega
theorem head_len {S : SkinM} (h : SmallM S) (u : Nat) (s : Ws) : (bytesM (headM S u s).words).length ≤ (bytesM s.words).length + 52 := by
  have := colV_le h u
  simp only [headM, bytes_snoc, List.length_append, wordB_length, num4_length]
  omega
theorem out_len {S : SkinM} (h : SmallM S) (mir : Bool) (v i : Nat) : ∀ k, (bytesM (outM S mir v i k).words).length ≤ 1000 * k
  | 0 => by simp [outM, bytesM]
  | k + 1 => by
    have ih := out_len h mir v i k
    have h1 := inn_len h mir ((outM S mir v i k).ord.getD k 0) ((outM S mir v i k).ent.getD k 0) (headM S ((outM S mir v i k).ord.getD k 0) (outM S mir v i k)) (dg S ((outM S mir v i k).ord.getD k 0))
    have h2 := head_len h ((outM S mir v i k).ord.getD k 0) (outM S mir v i k)
    have h3 := dg_le h ((outM S mir v i k).ord.getD k 0)
    simp only [outM]
    omega
end Go.Fw
namespace Go.Fw
open Go.Proofs
set_option maxHeartbeats 400000
set_option maxRecDepth 10000

def I64 (l : List Int) : List Value := l.map (Value.int .i64)
theorem I64_length (l : List Int) : (I64 l).length = l.length := by simp [I64]
theorem I64_one (l : List Int) : (I64 l).all (·.oneCell') = true := by simp [I64]; intros; rfl

/- a box for one cell -/
theorem box1 {P : Program} {h : AHeap} (hw : WF h) {t : TypeId} {d : TypeDesc} {z x : Value} (hu : P.underlying t = some d) (hz : azero P t = some z) (hc : z.cells = #[z]) (hf : flat z = true) (h1 : z.oneCell' = true) (hs : tsize P t = 1) (hx : x.cells = #[x]) (hx1 : x.oneCell' = true) :
    ∃ ha hb, aAlloc P h t = some (.pointer (some ⟨h.next, 0, none⟩), ha) ∧ aStore P ha t (.pointer (some ⟨h.next, 0, none⟩)) x = some hb ∧ hb.own h.next = some (.cells [x]) ∧ Le h hb ∧ WF hb ∧ h.own h.next = none := by
  have hn : h.own h.next = none := (Le.refl h).next hw (Nat.le_refl _)
  refine ⟨h.alloc (.cells [z]), (h.alloc (.cells [z])).put h.next (.cells [x]), by simp [aAlloc, hz, hc, hf, aNewRow, h1], ?_, AHeap.own_put_eq _ _ _, ((Le.refl h).alloc hw _).put _ hn, (hw.alloc _).put _ (Nat.lt_succ_self _), hn⟩
  have := aStore1 (P := P) (h := h.alloc (.cells [z])) (t := t) (x := x) hu hs (AHeap.own_alloc_eq _ _) (off := 0) (by simp) hx hx1
  simpa using this

theorem GS.put {k n : Nat} {h : AHeap} {v : Value} {cs : List Value} (g : GS k h v n cs) {id : Nat} (o : AObj) (hb : blk v ≠ some id) : GS k (h.put id o) v n cs := by
  obtain ⟨hl, q | ⟨i, c, cap, rfl, ho, rr⟩⟩ := g
  · exact ⟨hl, .inl q⟩
  · exact ⟨hl, .inr ⟨i, c, cap, rfl, by rw [AHeap.own_put_ne _ _ _ _ (fun e => hb (by rw [← e]; rfl))]; exact ho, rr⟩⟩
theorem WkS.put {h : AHeap} {a hd id : Nat} {r ve d pl cs : Value} {wd : Int} {C : List Int} {held : Bool} (w : WkS h a hd r ve d pl wd cs C held) (o : AObj) (hn : id ∉ sp a hd cs) : WkS (h.put id o) a hd r ve d pl wd cs C held := by
  rw [mem_sp] at hn
  exact ⟨by rw [AHeap.own_put_ne _ _ _ _ (fun e => hn (.inl e.symm))]; exact w.ow, by rw [AHeap.own_put_ne _ _ _ _ (fun e => hn (.inr (.inl e.symm)))]; exact w.ohd, w.gs.put _ (fun e => hn (.inr (.inr e))), w.cu, w.na, w.nhd, w.ne, w.one⟩

/- what holds while the walk is on -/
structure WI (G h : AHeap) (a hd c1 c2 n : Nat) (r ve d pl : Value) (wd : Int) (ov cs : Value) (s : Ws) (C : List Int) (held : Bool) : Prop where
  wk : WkS h a hd r ve d pl wd cs C held
  le : Le G (rem (sp a hd cs) h)
  o1 : h.own c1 = some (.cells (I64 (calledM n s.ord)))
  o2 : h.own c2 = some (.cells (I64 (enteredM n s)))
  go : GS 1 h ov s.ord.length (I64 (ints s.ord))
  n1 : c1 ∉ sp a hd cs
  n2 : c2 ∉ sp a hd cs
  n12 : c1 ≠ c2
  nb : ∀ b, blk ov = some b → b ≠ c1 ∧ b ≠ c2 ∧ b ∉ sp a hd cs
  g1 : G.own c1 = none
  g2 : G.own c2 = none
  ga : Apart G ov

section WI
variable {G h h' : AHeap} {a hd c1 c2 n : Nat} {r ve d pl ov cs : Value} {wd : Int} {s : Ws} {C : List Int} {held : Bool}

theorem WI.note (w : WI G h a hd c1 c2 n r ve d pl wd ov cs s C held) {cs' : Value} {C' : List Int} {held' : Bool} (k : WkS h' a hd r ve d pl wd cs' C' held') (e : Le (rem (sp a hd cs) h) (rem (sp a hd cs') h')) : WI G h' a hd c1 c2 n r ve d pl wd ov cs' s C' held' := by
  obtain ⟨p1, q1⟩ := e.rem_own w.o1 w.n1
  obtain ⟨p2, q2⟩ := e.rem_own w.o2 w.n2
  have g := (w.go.to_rem (l := sp a hd cs) fun b hb => (w.nb b hb).2.2).le e
  exact ⟨k, w.le.trans e, p1, p2, g.le (rem_le _ _), q1, q2, w.n12, fun b hb => ⟨(w.nb b hb).1, (w.nb b hb).2.1, g.rem_blk hb⟩, w.g1, w.g2, w.ga⟩
theorem WI.up (w : WI G h a hd c1 c2 n r ve d pl wd ov cs s C held) (e : Le h h') : WI G h' a hd c1 c2 n r ve d pl wd ov cs s C held :=
  ⟨w.wk.le e, w.le.trans e.mono_rem, e.own _ _ w.o1, e.own _ _ w.o2, w.go.le e, w.n1, w.n2, w.n12, w.nb, w.g1, w.g2, w.ga⟩
theorem WI.words (w : WI G h a hd c1 c2 n r ve d pl wd ov cs s C held) (ws : List (List Int)) : WI G h a hd c1 c2 n r ve d pl wd ov cs ⟨s.ord, s.ent, ws⟩ C held :=
  ⟨w.wk, w.le, w.o1, w.o2, w.go, w.n1, w.n2, w.n12, w.nb, w.g1, w.g2, w.ga⟩

theorem ne_of_own {i j : Nat} {o : AObj} (hi : G.own i = none) (hj : G.own j = some o) : j ≠ i := fun e => by rw [e, hi] at hj; cases hj

theorem WI.visit (w : WI G h a hd c1 c2 n r ve d pl wd ov cs s C held) (hwf : WF h) {x e : Nat} (hx : x < n) (hn : x ∉ s.ord) (hl : s.ent.length = s.ord.length) (hb : s.ord.length ≤ 1000000) :
    ∃ h1 h2 h3 h4 ov', aStore Try.prog h 3 (.pointer (some ⟨c1, x, none⟩)) (.int .i64 s.ord.length) = some h1 ∧ aStore Try.prog h1 3 (.pointer (some ⟨c2, x, none⟩)) (.int .i64 e) = some h2 ∧
      aBuildSlice Try.prog h2 31 1 [(0, .int .i64 x)] = some (.slice (some ⟨h.next, 0, none⟩) 1 1, h3) ∧ aAppend Try.prog h3 31 31 ov (.slice (some ⟨h.next, 0, none⟩) 1 1) = some (ov', h4) ∧
      WI G h4 a hd c1 c2 n r ve d pl wd ov' cs (Fw.visit s x e) C held ∧ (∀ b, blk ov = some b → True) ∧ (∀ i o, i ≠ c1 → i ≠ c2 → h.own i = some o → h2.own i = some o) := by
  have st1 := aStore1 (P := Try.prog) (t := 3) (x := .int .i64 s.ord.length) Try.underlying3 (by kernel_rfl) w.o1 (off := x) (by rw [I64_length, calledM_length]; exact hx) rfl rfl
  have e1 : (I64 (calledM n s.ord)).set x (.int .i64 s.ord.length) = I64 (calledM n (s.ord ++ [x])) := by rw [calledM_push hx hn, I64, I64, List.map_set]
  rw [e1] at st1
  have o2' : (h.put c1 (.cells (I64 (calledM n (s.ord ++ [x]))))).own c2 = some (.cells (I64 (enteredM n s))) := by rw [AHeap.own_put_ne _ _ _ _ (Ne.symm w.n12)]; exact w.o2
  have st2 := aStore1 (P := Try.prog) (t := 3) (x := .int .i64 e) Try.underlying3 (by kernel_rfl) o2' (off := x) (by rw [I64_length, enteredM_length]; exact hx) rfl rfl
  have e2 : (I64 (enteredM n s)).set x (.int .i64 e) = I64 (enteredM n (Fw.visit s x e)) := by rw [enteredM_push hx hn hl, I64, I64, List.map_set]
  rw [e2] at st2
  generalize hh2 : (h.put c1 (.cells (I64 (calledM n (s.ord ++ [x]))))).put c2 (.cells (I64 (enteredM n (Fw.visit s x e)))) = h2 at *
  have k1 : h2.own c1 = some (.cells (I64 (calledM n (s.ord ++ [x])))) := by rw [← hh2, AHeap.own_put_ne _ _ _ _ w.n12]; exact AHeap.own_put_eq _ _ _
  have k2 : h2.own c2 = some (.cells (I64 (enteredM n (Fw.visit s x e)))) := by rw [← hh2]; exact AHeap.own_put_eq _ _ _
  have kk : ∀ i o, i ≠ c1 → i ≠ c2 → h.own i = some o → h2.own i = some o := fun i o i1 i2 ho => by rw [← hh2, AHeap.own_put_ne _ _ _ _ i2, AHeap.own_put_ne _ _ _ _ i1]; exact ho
  have kw : WkS h2 a hd r ve d pl wd cs C held := by rw [← hh2]; exact (w.wk.put _ w.n1).put _ w.n2
  have kg : GS 1 h2 ov s.ord.length (I64 (ints s.ord)) := by
    rw [← hh2]
    exact (w.go.put _ (fun e => (w.nb _ e).1 rfl)).put _ (fun e => (w.nb _ e).2.1 rfl)
  have kn : h2.next = h.next := by rw [← hh2]; rfl
  have kf : WF h2 := by rw [← hh2]; exact (hwf.put _ (hwf.lt w.o1)).put _ (by show c2 < h.next; exact hwf.lt w.o2)
  have kl : Le G (rem (sp a hd cs) h2) := ⟨by rw [rem_ext, ← hh2]; exact (rem_ext (h := h) (sp a hd cs)).symm.trans w.le.ext, fun i o hi => by
    obtain ⟨q1, q2⟩ := rem_some.1 (w.le.own _ _ hi)
    exact rem_some.2 ⟨kk i o (ne_of_own w.g1 hi) (ne_of_own w.g2 hi) q1, q2⟩⟩
  have hbs : aBuildSlice Try.prog h2 31 1 [(0, .int .i64 x)] = some (.slice (some ⟨h2.next, 0, none⟩) 1 1, h2.alloc (.cells [.int .i64 x])) := rfl
  have hle3 : Le h2 (h2.alloc (.cells [.int .i64 x])) := (Le.refl h2).alloc kf _
  have ho3 : (h2.alloc (.cells [.int .i64 x])).own h2.next = some (.cells [.int .i64 x]) := AHeap.own_alloc_eq _ _
  have kf3 := kf.alloc (.cells [.int .i64 x])
  generalize h2.alloc (.cells [.int .i64 x]) = h3 at *
  obtain ⟨ov', h4, ea, g4, hf⟩ := GS.push (P := Try.prog) (t := 31) (by kernel_rfl) (kg.le hle3) ho3 (I64_one _) rfl (by omega)
  rw [kn] at hbs ea
  refine ⟨_, h2, h3, h4, ov', st1, st2, hbs, ea, ?_, fun _ _ => trivial, kk⟩
  have keep : ∀ {i : Nat} {o : AObj}, h2.own i = some o → blk ov ≠ some i → h4.own i = some o ∧ blk ov' ≠ some i := fun ho hb => keep_own hf kf3 (hle3.own _ _ ho) hb
  obtain ⟨m1, m1'⟩ := keep k1 (fun e => (w.nb _ e).1 rfl)
  obtain ⟨m2, m2'⟩ := keep k2 (fun e => (w.nb _ e).2.1 rfl)
  obtain ⟨m3, m3'⟩ := keep kw.ow (fun e => (w.nb _ e).2.2 (mem_sp.2 (.inl rfl)))
  obtain ⟨m4, m4'⟩ := keep kw.ohd (fun e => (w.nb _ e).2.2 (mem_sp.2 (.inr (.inl rfl))))
  obtain ⟨q1, q2⟩ := hf G kf3 ((kl.trans (rem_le _ _)).trans hle3) w.ga
  have hcsb : ∀ b, blk cs = some b → blk ov' ≠ some b := fun b hb => by
    have := kw.gs.1.blk_own hb
    obtain ⟨o, ho⟩ := Option.ne_none_iff_exists'.1 this
    exact (keep ho (fun e => (w.nb _ e).2.2 (mem_sp.2 (.inr (.inr hb))))).2
  have hgs : GB h4 cs C := ⟨by
    obtain ⟨hl, q | ⟨i, c, cap, rfl, ho, rr⟩⟩ := kw.gs.1
    · exact ⟨hl, .inl q⟩
    · exact ⟨hl, .inr ⟨i, c, cap, rfl, (keep ho (fun e => (w.nb _ e).2.2 (mem_sp.2 (.inr (.inr rfl))))).1, rr⟩⟩, kw.gs.2⟩
  have hv : (Fw.visit s x e).ord = s.ord ++ [x] := by simp [Fw.visit, hn]
  refine ⟨⟨m3, m4, hgs, kw.cu, kw.na, kw.nhd, kw.ne, kw.one⟩, ?_, by rw [hv]; exact m1, m2, ?_, w.n1, w.n2, w.n12, ?_, w.g1, w.g2, q2⟩
  · exact q1.of_none fun i hi => by
      cases hg : G.own i with
      | none => rfl
      | some o => exact absurd hi (rem_some.1 (w.le.own _ _ hg)).2
  · rw [hv]
    have : I64 (ints (s.ord ++ [x])) = I64 (ints s.ord) ++ [.int .i64 x] := by simp [I64, ints]
    rw [this]; simpa using g4
  · intro b hb
    refine ⟨fun e => m1' (by rw [hb, e]), fun e => m2' (by rw [hb, e]), fun e => ?_⟩
    rcases mem_sp.1 e with e | e | e
    · exact m3' (by rw [hb, e])
    · exact m4' (by rw [hb, e])
    · exact hcsb b e hb

/- the end: what is told is stored -/
structure Wkr (h : AHeap) (a : Nat) (r ve d pl : Value) (wd : Int) (cs : Value) : Prop where
  ow : h.own a = some (.cells [r, ve, d, pl, .int .i64 wd, cs])
  gs : ∃ C, GB h cs C
  cu : cu cs
  na : blk cs ≠ some a
def spa (a : Nat) (cs : Value) : List Nat := a :: bl cs
theorem spa_sp {a hd i : Nat} {cs : Value} (h : i ∈ spa a cs) : i ∈ sp a hd cs := by
  simp only [spa, sp, List.mem_cons] at *
  rcases h with h | h; exact .inl h; exact .inr (.inr h)

theorem walk_end {h0 : AHeap} {cs0 x0 y0 cv ov' : Value} {w : Nat} (wi : WI G h a hd c1 c2 n r ve d pl wd ov cs s C held) (F : Le (rem (spa a cs0) h0) G) (owG : G.own w = some (.cells [x0, y0])) (fw : (rem (spa a cs0) h0).own w = none) {n1 n2 : Nat} (hx : isSl cv n1) (hy : isSl ov' n2) :
    ∃ h', aStore Try.prog h 36 (.pointer (some ⟨w, 0, none⟩)) (.agg #[cv, ov']) = some h' ∧ aload Try.prog h' 36 ⟨w, 0, none⟩ = some (.agg #[cv, ov']) ∧ Wkr h' a r ve d pl wd cs ∧ Le (rem (spa a cs0) h0) (rem (spa a cs) h') ∧
      ∀ k v n c, GS k h v n c → (∀ b, blk v = some b → b ≠ w ∧ b ∉ spa a cs) → GS k (rem (spa a cs) h') v n c := by
  obtain ⟨ow, hwn⟩ := rem_some.1 (wi.le.own _ _ owG)
  refine ⟨h.put w (.cells [cv, ov']), ?_, ?_, ?_, ?_, ?_⟩
  · have h1 := hx.one
    have h2 := hy.one
    simp [aStore, ow, Value.cells, tsize, putCells, h1, h2]
    rfl
  · rw [aload_own Try.underlying36 rfl (by kernel_rfl : tsize Try.prog 36 = 2) (AHeap.own_put_eq _ _ _) (by simp)]; rfl
  · have q := wi.wk.put (.cells [cv, ov']) hwn
    exact ⟨q.ow, ⟨_, q.gs⟩, q.cu, q.na⟩
  · have e1 := (F.trans wi.le).trans (Le.sub_rem (l := sp a hd cs) (l' := spa a cs) fun i hi => spa_sp hi)
    refine ⟨(rem_ext (h := h.put w (.cells [cv, ov'])) _).trans ((rem_ext (h := h) (spa a cs)).symm.trans e1.ext), fun i o hi => ?_⟩
    obtain ⟨q1, q2⟩ := rem_some.1 (e1.own _ _ hi)
    refine rem_some.2 ⟨?_, q2⟩
    rw [AHeap.own_put_ne _ _ _ _ (fun e => by rw [e, fw] at hi; cases hi)]; exact q1
  · intro k v n c g hb
    exact (g.put _ (fun e => (hb w e).1 rfl)).to_rem fun b hb' => (hb b hb').2
end WI
end Go.Fw
