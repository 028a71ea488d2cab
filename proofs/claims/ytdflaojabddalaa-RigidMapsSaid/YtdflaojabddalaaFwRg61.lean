/- One of the texts of the layer and the walks: it proves what its theorems say of the functions of the seat, with no condition beyond theirs. -/
import Derived.Test.YtdflaojabddalaaFwRg60
set_option linter.unusedSimpArgs false
set_option linter.unusedVariables false
namespace Go.Fw
open Go.Proofs
set_option maxHeartbeats 1000000

theorem idx_prefix {l l' : List Nat} {a : Nat} (h : l <+: l') (ha : a ∈ l) : l'.idxOf a = l.idxOf a := by
  obtain ⟨t, rfl⟩ := h
  rw [List.idxOf_append, if_pos ha]

/- the words of one vertex -/
def blkW (S : SkinM) (x : List Nat) (m : Bool) (u e : Nat) : List (List Int) :=
  colV S u :: num4 (dg S u) :: (List.range (dg S u)).flatMap fun t => [num4 ((x.idxOf (nb S u (atM m e t (dg S u))) : Nat) : Int), colD S u (atM m e t (dg S u))]

theorem innM_words {S : SkinM} {m : Bool} {u e : Nat} {s : Ws} {x : List Nat} : ∀ j, (innM S m u e j s).ord <+: x → (innM S m u e j s).words = s.words ++ (List.range j).flatMap fun t => [num4 ((x.idxOf (nb S u (atM m e t (dg S u))) : Nat) : Int), colD S u (atM m e t (dg S u))]
  | 0, _ => by simp [innM]
  | j + 1, h => by
    have ih := innM_words j ((innM_le S m u e s (Nat.le_succ j)).1.trans h)
    rw [List.range_succ, List.flatMap_append, ← List.append_assoc, ← ih]
    simp only [innM, nxt, visit_words, List.flatMap_cons, List.flatMap_nil, List.append_nil]
    rw [idx_prefix (l := (visit (innM S m u e j s) (nb S u (atM m e j (dg S u))) (plM S (nb S u (atM m e j (dg S u))) u)).ord) h (visit_mem _ _ _)]

theorem outM_words {S : SkinM} (hr : RightS S) {m : Bool} {v i : Nat} (hv : v < S.rot.length) (hi : i < dg S v ∨ dg S v = 0 ∧ i = 0) : ∀ q, q ≤ S.rot.length →
    (outM S m v i q).words = (List.range q).flatMap fun p => blkW S (finM S m v i).ord m ((finM S m v i).ord.getD p 0) ((finM S m v i).ent.getD p 0)
  | 0, _ => rfl
  | q + 1, hq => by
    have ih := outM_words hr hv hi (m := m) q (by omega)
    have ok := out_ok hr hv hi (mir := m) q (by omega)
    have hlt : q < (outM S m v i q).ord.length := by
      rcases Nat.lt_or_eq_of_le ok.kle with h | h
      · exact h
      · have := (ok.done hr h).1; omega
    have hpre := outM_le S m v i (show q ≤ S.rot.length by omega)
    have eu : (finM S m v i).ord.getD q 0 = (outM S m v i q).ord.getD q 0 := by
      obtain ⟨t, ht⟩ := hpre.1
      unfold finM
      rw [← ht, List.getD_eq_getElem?_getD, List.getD_eq_getElem?_getD, List.getElem?_append_left hlt]
    have ee : (finM S m v i).ent.getD q 0 = (outM S m v i q).ent.getD q 0 := by
      obtain ⟨t, ht⟩ := hpre.2.1
      unfold finM
      rw [← ht, List.getD_eq_getElem?_getD, List.getD_eq_getElem?_getD, List.getElem?_append_left (by rw [ok.len]; exact hlt)]
    rw [List.range_succ, List.flatMap_append, ← ih]
    simp only [List.flatMap_cons, List.flatMap_nil, List.append_nil, eu, ee]
    have h1 := (outM_le S m v i hq).1
    have h2 := innM_words (S := S) (m := m) (u := (outM S m v i q).ord.getD q 0) (e := (outM S m v i q).ent.getD q 0) (s := headM S ((outM S m v i q).ord.getD q 0) (outM S m v i q)) (x := (finM S m v i).ord) _ h1
    show (innM S m _ _ _ _).words = _
    rw [h2]
    simp [headM, blkW]

theorem blocks_inj {F G : Nat → List (List Int)} {dF dG : Nat → Nat} (hF : ∀ p, ∃ a r, F p = a :: num4 (dF p) :: r ∧ r.length = 2 * dF p ∧ dF p < 1000000) (hG : ∀ p, ∃ a r, G p = a :: num4 (dG p) :: r ∧ r.length = 2 * dG p ∧ dG p < 1000000) :
    ∀ (n n' s : Nat), (List.range' s n).flatMap F = (List.range' s n').flatMap G → n = n' ∧ ∀ p, s ≤ p → p < s + n → F p = G p
  | 0, 0, s, _ => ⟨rfl, fun p h1 h2 => by omega⟩
  | 0, n' + 1, s, h => by
    obtain ⟨a, r, e, _⟩ := hG s
    rw [List.range'_succ, List.flatMap_cons, e] at h
    simp at h
  | n + 1, 0, s, h => by
    obtain ⟨a, r, e, _⟩ := hF s
    rw [List.range'_succ, List.flatMap_cons, e] at h
    simp at h
  | n + 1, n' + 1, s, h => by
    obtain ⟨a, r, e, hr, hd⟩ := hF s
    obtain ⟨a', r', e', hr', hd'⟩ := hG s
    rw [List.range'_succ, List.flatMap_cons, List.range'_succ, List.flatMap_cons] at h
    have hl : (F s).length = (G s).length := by
      rw [e, e'] at h
      simp only [List.cons_append, List.cons.injEq] at h
      have := num4_inj (by omega) (by omega) (by omega) (by omega) h.2.1
      rw [e, e']
      simp only [List.length_cons, hr, hr']
      omega
    obtain ⟨h1, h2⟩ := List.append_inj h hl
    obtain ⟨q1, q2⟩ := blocks_inj hF hG n n' (s + 1) h2
    refine ⟨by omega, fun p p1 p2 => ?_⟩
    by_cases hp : p = s
    · subst hp; exact h1
    · exact q2 p (by omega) (by omega)
theorem pairs_inj {A B A' B' : Nat → List Int} : ∀ (n s : Nat), ((List.range' s n).flatMap fun t => [A t, B t]) = ((List.range' s n).flatMap fun t => [A' t, B' t]) → ∀ p, s ≤ p → p < s + n → A p = A' p ∧ B p = B' p
  | 0, s, _, p, h1, h2 => by omega
  | n + 1, s, h, p, h1, h2 => by
    rw [List.range'_succ, List.flatMap_cons, List.flatMap_cons] at h
    simp only [List.cons_append, List.nil_append, List.cons.injEq] at h
    by_cases hp : p = s
    · subst hp; exact ⟨h.1, h.2.1⟩
    · exact pairs_inj n (s + 1) h.2.2 p (by omega) (by omega)

theorem pair_len {A B : Nat → List Int} : ∀ n, ((List.range n).flatMap fun t => [A t, B t]).length = 2 * n
  | 0 => rfl
  | n + 1 => by rw [List.range_succ, List.flatMap_append, List.length_append, pair_len n]; simp; omega
theorem blkW_form {S : SkinM} (h : SmallM S) (x : List Nat) (m : Bool) (u e : Nat) : ∃ a r, blkW S x m u e = a :: num4 (dg S u) :: r ∧ r.length = 2 * dg S u ∧ dg S u < 1000000 :=
  ⟨_, _, rfl, pair_len _, by have := dg_le h u; omega⟩

theorem atM_solve (ab : Bool) {e e' n : Nat} (he : e < n) (he' : e' < n) : ∃ b, b < n ∧ atM ab b e n = e' := by
  cases ab
  · refine ⟨if e ≤ e' then e' - e else e' + n - e, by split <;> omega, ?_⟩
    rw [atM_val (by split <;> omega) he]
    simp only [Bool.false_eq_true, if_false]
    split <;> split <;> omega
  · refine ⟨if e' + e < n then e' + e else e' + e - n, by split <;> omega, ?_⟩
    rw [atM_val (by split <;> omega) he]
    simp only [if_true]
    split <;> split <;> omega

/- the other way: from equal codes to a map -/
theorem maps_forth {S T : SkinM} (hr : RightS S) (hT : RightS T) (hm : SmallM S) (hm' : SmallM T) {m m' : Bool} {v i w k : Nat} (hv : v < S.rot.length) (hi : i < dg S v ∨ dg S v = 0 ∧ i = 0) (hw : w < T.rot.length) (hk : k < dg T w ∨ dg T w = 0 ∧ k = 0)
    (hc : codeM S m v i = codeM T m' w k) : dg S v = dg T w ∧ KeepsM S T (finM S m v i).ord (finM T m' w k).ord (m != m') := by
  have hwd := codes_words (outM_small hm m v i _) (outM_small hm' m' w k _) hc
  have w1 := outM_words hr hv hi (m := m) _ (Nat.le_refl _)
  have w2 := outM_words hT hw hk (m := m') _ (Nat.le_refl _)
  have hfl := w1.symm.trans (hwd.trans w2)
  rw [List.range_eq_range', List.range_eq_range'] at hfl
  obtain ⟨hn, hblk⟩ := blocks_inj (fun p => blkW_form hm (finM S m v i).ord m ((finM S m v i).ord.getD p 0) ((finM S m v i).ent.getD p 0)) (fun p => blkW_form hm' (finM T m' w k).ord m' ((finM T m' w k).ord.getD p 0) ((finM T m' w k).ent.getD p 0)) _ _ 0 hfl
  have ox := fin_ord hr hv hi (mir := m)
  have oy := fin_ord hT hw hk (mir := m')
  have stx := (out_ok hr hv hi (mir := m) S.rot.length (Nat.le_refl _)).toStOK
  have sty := (out_ok hT hw hk (mir := m') T.rot.length (Nat.le_refl _)).toStOK
  have zx := fin_zero (S := S) (mir := m) (v := v) (i := i)
  have zy := fin_zero (S := T) (mir := m') (v := w) (i := k)
  have enx := stx.ent
  have eny := sty.ent
  have elx := stx.len
  have ely := sty.len
  change ∀ (q u e : Nat), (finM S m v i).ord[q]? = some u → (finM S m v i).ent[q]? = some e → _ at enx
  change ∀ (q u e : Nat), (finM T m' w k).ord[q]? = some u → (finM T m' w k).ent[q]? = some e → _ at eny
  change (finM S m v i).ent.length = (finM S m v i).ord.length at elx
  change (finM T m' w k).ent.length = (finM T m' w k).ord.length at ely
  clear w1 w2 hfl hwd hc stx sty
  generalize (finM S m v i).ord = x at *
  generalize (finM T m' w k).ord = y at *
  generalize (finM S m v i).ent = ex at *
  generalize (finM T m' w k).ent = ey at *
  have lx := ox.len
  have ly := oy.len
  have hl : x.length = y.length := by omega
  -- what the words of the q-th vertex say
  have key : ∀ q (hq : q < x.length), colV S x[q] = colV T (y[q]'(by omega)) ∧ dg S x[q] = dg T (y[q]'(by omega)) ∧ ∀ t, t < dg S x[q] → x.idxOf (nb S x[q] (atM m (ex[q]'(by omega)) t (dg S x[q]))) = y.idxOf (nb T (y[q]'(by omega)) (atM m' (ey[q]'(by omega)) t (dg S x[q]))) ∧ colD S x[q] (atM m (ex[q]'(by omega)) t (dg S x[q])) = colD T (y[q]'(by omega)) (atM m' (ey[q]'(by omega)) t (dg S x[q])) := by
    intro q hq
    have hqy : q < y.length := by omega
    have hb := hblk q (Nat.zero_le _) (by omega)
    rw [getD_of hq, getD_of hqy, getD_of (show q < ex.length by omega), getD_of (show q < ey.length by omega)] at hb
    simp only [blkW, List.cons.injEq] at hb
    obtain ⟨h1, h2, h3⟩ := hb
    have d1 := dg_le hm x[q]
    have d2 := dg_le hm' (y[q]'hqy)
    have h2 : dg S x[q] = dg T (y[q]'hqy) := by have := num4_inj (by omega) (by omega) (by omega) (by omega) h2; omega
    rw [← h2, List.range_eq_range'] at h3
    refine ⟨h1, h2, fun t ht => ?_⟩
    obtain ⟨a1, a2⟩ := pairs_inj _ 0 h3 t (Nat.zero_le _) (by omega)
    refine ⟨?_, a2⟩
    have b1 : x.idxOf (nb S x[q] (atM m (ex[q]'(by omega)) t (dg S x[q]))) ≤ x.length := List.idxOf_le_length
    have b2 : y.idxOf (nb T (y[q]'hqy) (atM m' (ey[q]'(by omega)) t (dg S x[q]))) ≤ y.length := List.idxOf_le_length
    have c1 := hm.rot
    have c2 := hm'.rot
    have := num4_inj (by omega) (by omega) (by omega) (by omega) a1
    omega
  have hx0 : 0 < x.length := by have := hr.pos; omega
  have ev : x[0] = v := by rw [getElem?_of hx0] at zx; injection zx
  have ew : y[0]'(by omega) = w := by rw [getElem?_of (by omega)] at zy; injection zy
  have hto : toM x y v = w := by
    have := to_at ox hl hx0
    rw [ev, ew] at this; exact this
  refine ⟨by have := (key 0 hx0).2.1; rwa [ev, ew] at this, hl, lx, ly, fun a ha => ?_⟩
  obtain ⟨q, hq, rfl, -⟩ := ox.get ha
  have hqy : q < y.length := by omega
  have hta := to_at ox hl hq
  obtain ⟨k1, k2, k3⟩ := key q hq
  have hua := ox.lt _ (List.getElem_mem hq)
  have hub := oy.lt _ (List.getElem_mem hqy)
  refine ⟨by rw [hta]; exact k1, by rw [hta]; exact k2, ?_⟩
  rw [hta]
  by_cases h0 : dg S x[q] = 0
  · exact .inl h0
  right
  have he : (ex[q]'(by omega)) < dg S x[q] := by
    rcases enx q _ _ (getElem?_of hq) (getElem?_of (by omega)) with h | ⟨h, _⟩
    · exact h
    · exact absurd h h0
  have he' : (ey[q]'(by omega)) < dg S x[q] := by
    rcases eny q _ _ (getElem?_of hqy) (getElem?_of (by omega)) with h | ⟨h, _⟩
    · rw [k2]; exact h
    · exact absurd (k2.trans h) h0
  obtain ⟨b, hb, hbe⟩ := atM_solve (m != m') he he'
  have hmm : (m != (m != m')) = m' := by cases m <;> cases m' <;> rfl
  refine ⟨b, hb, fun i hi => ?_⟩
  obtain ⟨t, ht, rfl⟩ := atM_onto m he hi
  have hcomp := atM_comp m (m != m') hb he ht
  rw [hmm, hbe] at hcomp
  rw [← hcomp]
  obtain ⟨t1, t2⟩ := k3 t ht
  refine ⟨?_, t2.symm⟩
  have hn1 := (nb_ok hT hub (p := atM m' (ey[q]'(by omega)) t (dg S x[q])) (by rw [← k2]; exact atM_lt _ _ _ (by omega))).1
  have hmem := oy.mem hn1
  rw [toM, t1, getD_of (List.idxOf_lt_length_of_mem hmem), List.getElem_idxOf]
end Go.Fw
