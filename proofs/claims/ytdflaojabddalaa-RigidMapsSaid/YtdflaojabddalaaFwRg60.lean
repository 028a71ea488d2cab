/- One of the texts of the layer and the walks: it proves what its theorems say of the functions of the seat, with no condition beyond theirs. -/
import Derived.Test.YtdflaojabddalaaFwRg50
set_option linter.unusedSimpArgs false
set_option linter.unusedVariables false
namespace Go.Fw
open Go.Proofs
set_option maxHeartbeats 1000000

def toM (x y : List Nat) (z : Nat) : Nat := y.getD (x.idxOf z) 0
/- the map of one order to the other one keeps colours, darts and circles at a vertex -/
def KeepAt (S T : SkinM) (x y : List Nat) (ab : Bool) (v : Nat) : Prop :=
  colV S v = colV T (toM x y v) ∧ dg S v = dg T (toM x y v) ∧ (dg S v = 0 ∨ ∃ at', at' < dg S v ∧
    ∀ i, i < dg S v → nb T (toM x y v) (atM ab at' i (dg S v)) = toM x y (nb S v i) ∧ colD T (toM x y v) (atM ab at' i (dg S v)) = colD S v i)
def KeepsM (S T : SkinM) (x y : List Nat) (ab : Bool) : Prop :=
  x.length = y.length ∧ x.length = S.rot.length ∧ y.length = T.rot.length ∧ ∀ v, v < S.rot.length → KeepAt S T x y ab v

/- an order that meets all vertices, each once -/
structure OrdOK (n : Nat) (x : List Nat) : Prop where
  nd : x.Nodup
  lt : ∀ a ∈ x, a < n
  len : x.length = n
theorem OrdOK.mem {n : Nat} {x : List Nat} (o : OrdOK n x) {a : Nat} (h : a < n) : a ∈ x := (nodup_le n x o.nd o.lt).2 o.len a h
theorem OrdOK.idx {n : Nat} {x : List Nat} (o : OrdOK n x) {q : Nat} (h : q < x.length) : x.idxOf x[q] = q := o.nd.idxOf_getElem q h
theorem OrdOK.get {n : Nat} {x : List Nat} (o : OrdOK n x) {a : Nat} (h : a < n) : ∃ q, ∃ hq : q < x.length, x[q] = a ∧ x.idxOf a = q := by
  have hm := o.mem h
  exact ⟨x.idxOf a, List.idxOf_lt_length_of_mem hm, List.getElem_idxOf _, rfl⟩
theorem to_at {n : Nat} {x y : List Nat} (o : OrdOK n x) (hl : x.length = y.length) {q : Nat} (h : q < x.length) : toM x y x[q] = y[q]'(by omega) := by
  rw [toM, o.idx h, getD_of (by omega)]

theorem fin_ord {S : SkinM} (hr : RightS S) {mir : Bool} {v i : Nat} (hv : v < S.rot.length) (hi : i < dg S v ∨ dg S v = 0 ∧ i = 0) : OrdOK S.rot.length (finM S mir v i).ord := by
  have ok := out_ok hr hv hi (mir := mir) S.rot.length (Nat.le_refl _)
  have h1 := ok.kle
  have h2 := ok.toStOK.le
  exact ⟨ok.nd, ok.lt, by unfold finM; omega⟩
theorem fin_zero {S : SkinM} {mir : Bool} {v i : Nat} : (finM S mir v i).ord[0]? = some v := by
  have h := (outM_le S mir v i (Nat.zero_le S.rot.length)).1
  obtain ⟨t, ht⟩ := h
  unfold finM
  rw [← ht]; simp [outM]
theorem atM_zero (mir : Bool) {i n : Nat} (h : i < n) : atM mir i 0 n = i := by
  rw [atM_val h (by omega)]; cases mir <;> simp; omega
theorem fin_one {S : SkinM} (hr : RightS S) {mir : Bool} {v i : Nat} (hv : v < S.rot.length) (hi : i < dg S v) : (finM S mir v i).ord[1]? = some (nb S v i) := by
  have hp := hr.pos
  have h := (outM_le S mir v i (show 1 ≤ S.rot.length from hp)).1
  have h2 : (Fw.nxt S mir v i 0 (headM S v ⟨[v], [i], []⟩)).ord <+: (outM S mir v i 1).ord := by
    show _ <+: (innM S mir v i (dg S v) (headM S v ⟨[v], [i], []⟩)).ord
    exact (innM_le S mir v i _ (show 1 ≤ dg S v by omega)).1
  obtain ⟨h1, h3, _⟩ := nb_ok hr hv hi
  have h4 : (Fw.nxt S mir v i 0 (headM S v ⟨[v], [i], []⟩)).ord = [v, nb S v i] := by
    simp only [Fw.nxt, atM_zero mir hi, Fw.visit, headM]
    rw [if_neg (by simpa using h3)]; rfl
  obtain ⟨t, ht⟩ := h2.trans h
  unfold finM
  rw [← ht, h4]; rfl

/- the one way: from a map to equal codes -/
theorem maps_back {S T : SkinM} (hr : RightS S) (hT : RightS T) {m m' : Bool} {v i w k : Nat} (hv : v < S.rot.length) (hi : i < dg S v ∨ dg S v = 0 ∧ i = 0) (hw : w < T.rot.length) (hk : k < dg T w ∨ dg T w = 0 ∧ k = 0)
    (hd : dg S v = dg T w) (K : KeepsM S T (finM S m v i).ord (finM T m' w k).ord (m != m')) : codeM S m v i = codeM T m' w k := by
  have ox := fin_ord hr hv hi (mir := m)
  have oy := fin_ord hT hw hk (mir := m')
  have zx := fin_zero (S := S) (mir := m) (v := v) (i := i)
  have zy := fin_zero (S := T) (mir := m') (v := w) (i := k)
  have ex : ∀ h : i < dg S v, (finM S m v i).ord[1]? = some (nb S v i) := fun h => fin_one hr hv h
  have ey : ∀ h : k < dg T w, (finM T m' w k).ord[1]? = some (nb T w k) := fun h => fin_one hT hw h
  obtain ⟨k1, k2, k3, k4⟩ := K
  generalize hX : (finM S m v i).ord = x at *
  generalize hY : (finM T m' w k).ord = y at *
  have hlen : T.rot.length = S.rot.length := by omega
  have hlt : ∀ a, a < S.rot.length → toM x y a < S.rot.length := fun a ha => by
    obtain ⟨q, hq, e1, e2⟩ := ox.get ha
    rw [toM, e2, getD_of (by omega)]
    have := oy.lt _ (List.getElem_mem (l := y) (show q < y.length by omega)); omega
  have hinj : ∀ a b, a < S.rot.length → b < S.rot.length → toM x y a = toM x y b → a = b := fun a b ha hb e => by
    obtain ⟨q, hq, e1, e2⟩ := ox.get ha
    obtain ⟨p, hp, e3, e4⟩ := ox.get hb
    rw [toM, toM, e2, e4, getD_of (by omega), getD_of (by omega)] at e
    have h1 := oy.idx (show q < y.length by omega)
    have h2 := oy.idx (show p < y.length by omega)
    rw [e, h2] at h1
    subst h1; rw [← e1, ← e3]
  have hch : ∃ b : Nat → Nat, ∀ a, a < S.rot.length → 0 < dg S a → b a < dg S a ∧ ∀ i, i < dg S a → nb T (toM x y a) (atM (m != m') (b a) i (dg S a)) = toM x y (nb S a i) ∧ colD T (toM x y a) (atM (m != m') (b a) i (dg S a)) = colD S a i := by
    refine ⟨fun a => if h : a < S.rot.length ∧ 0 < dg S a then Classical.choose ((k4 a h.1).2.2.resolve_left (by omega)) else 0, fun a ha hd => ?_⟩
    simp only [ha, hd, and_self, dif_pos]
    exact Classical.choose_spec ((k4 a ha).2.2.resolve_left (by omega))
  obtain ⟨b, hb⟩ := hch
  have I : IsoS S T (toM x y) b (m != m') := ⟨hlen, hlt, hinj, fun a ha => (k4 a ha).1.symm, fun a ha => (k4 a ha).2.1.symm, fun a ha hd => (hb a ha hd).1, fun a p ha hp => ((hb a ha (by omega)).2 p hp).1, fun a p ha hp => ((hb a ha (by omega)).2 p hp).2⟩
  have hc := (I.code hr hT (mir := m) hv hi).1
  have hm : (m != (m != m')) = m' := by cases m <;> cases m' <;> rfl
  have hx0 : 0 < x.length := by have := hr.pos; omega
  have ev : x[0] = v := by rw [getElem?_of hx0] at zx; injection zx
  have ew : y[0]'(by omega) = w := by rw [getElem?_of (by omega)] at zy; injection zy
  have hto : toM x y v = w := by
    have := to_at ox k1 hx0
    rw [ev, ew] at this; exact this
  have hge : ge S b (m != m') v i = k := by
    unfold ge
    by_cases h0 : dg S v = 0
    · rw [if_pos h0]; omega
    · rw [if_neg h0]
      have hi' : i < dg S v := by omega
      have hk' : k < dg T w := by omega
      have q1 := ((hb v hv (by omega)).2 i hi').1
      rw [hto] at q1
      have x1 := ex hi'
      have y1 := ey hk'
      have hx1 := (List.getElem?_eq_some_iff.1 x1).1
      have hx2 := (List.getElem?_eq_some_iff.1 x1).2
      have hy2 := (List.getElem?_eq_some_iff.1 y1).2
      have := to_at ox k1 hx1
      rw [hx2, hy2] at this
      rw [this] at q1
      exact nb_inj hT hw (by rw [← hd]; exact atM_lt _ _ _ (by omega)) hk' q1
  rw [hm, hto, hge] at hc
  exact hc.symm

/- words are told apart -/
theorem num4_inj {a b : Int} (ha : 0 ≤ a) (hb : 0 ≤ b) (ha2 : a < 4294967296) (hb2 : b < 4294967296) (h : num4 a = num4 b) : a = b := by
  simp only [num4, List.cons.injEq, and_true] at h
  omega
theorem words_inj : ∀ (ws vs : List (List Int)), (∀ w ∈ ws, w.length < 1000000) → (∀ w ∈ vs, w.length < 1000000) → bytesM ws = bytesM vs → ws = vs
  | [], [], _, _, _ => rfl
  | [], v :: vs, _, _, h => by simp [bytesM, wordB, num4] at h
  | w :: ws, [], _, _, h => by simp [bytesM, wordB, num4] at h
  | w :: ws, v :: vs, hw, hv, h => by
    simp only [bytesM, List.flatMap_cons, wordB, List.append_assoc] at h
    have h1 := List.append_inj h rfl
    have hl : w.length = v.length := by
      have a1 := hw w (by simp)
      have a2 := hv v (by simp)
      have := num4_inj (by omega) (by omega) (by omega) (by omega) h1.1
      omega
    have h2 := List.append_inj h1.2 hl
    rw [h2.1, words_inj ws vs (fun x hx => hw x (by simp [hx])) (fun x hx => hv x (by simp [hx])) h2.2]
theorem codes_words {S T : SkinM} {m m' : Bool} {v i w k : Nat} (h1 : ∀ x ∈ (finM S m v i).words, x.length < 1000000) (h2 : ∀ x ∈ (finM T m' w k).words, x.length < 1000000) (h : codeM S m v i = codeM T m' w k) : (finM S m v i).words = (finM T m' w k).words := by
  unfold codeM at h
  exact words_inj _ _ h1 h2 (List.append_inj h rfl).2

theorem visit_words (s : Ws) (x e : Nat) : (visit s x e).words = s.words := by unfold visit; split <;> rfl
theorem innM_small {S : SkinM} (h : SmallM S) (mir : Bool) (u e : Nat) {s : Ws} (hs : ∀ x ∈ s.words, x.length < 1000000) : ∀ j, ∀ x ∈ (innM S mir u e j s).words, x.length < 1000000
  | 0 => hs
  | j + 1 => fun x hx => by
    simp only [innM, nxt, visit_words, List.mem_append, List.mem_cons, List.not_mem_nil, or_false] at hx
    rcases hx with hx | rfl | rfl
    · exact innM_small h mir u e hs j x hx
    · simp [num4]
    · have := colD_le h u (atM mir e j (dg S u)); omega
theorem outM_small {S : SkinM} (h : SmallM S) (mir : Bool) (v i : Nat) : ∀ k, ∀ x ∈ (outM S mir v i k).words, x.length < 1000000
  | 0 => by simp [outM]
  | k + 1 => innM_small h mir _ _ (fun x hx => by
      simp only [headM, List.mem_append, List.mem_cons, List.not_mem_nil, or_false] at hx
      rcases hx with hx | rfl | rfl
      · exact outM_small h mir v i k x hx
      · have := colV_le h ((outM S mir v i k).ord.getD k 0); omega
      · simp [num4]) _
end Go.Fw
