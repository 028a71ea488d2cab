/- One of the texts of the layer and the walks: it proves what its theorems say of the functions of the seat, with no condition beyond theirs. -/
import Derived.Test.YtdflaojabddalaaFwRg28
set_option linter.unusedSimpArgs false
set_option linter.unusedVariables false
namespace Go.Fw
open Go.Proofs
set_option maxHeartbeats 1000000

/- the place of a dart's image -/
def ge (S : SkinM) (b : Nat → Nat) (ab : Bool) (u e : Nat) : Nat := if dg S u = 0 then 0 else atM ab (b u) e (dg S u)

/- one skin goes to another one -/
structure IsoS (S T : SkinM) (f b : Nat → Nat) (ab : Bool) : Prop where
  len : T.rot.length = S.rot.length
  lt : ∀ v, v < S.rot.length → f v < S.rot.length
  inj : ∀ v w, v < S.rot.length → w < S.rot.length → f v = f w → v = w
  col : ∀ v, v < S.rot.length → colV T (f v) = colV S v
  deg : ∀ v, v < S.rot.length → dg T (f v) = dg S v
  blt : ∀ v, v < S.rot.length → 0 < dg S v → b v < dg S v
  nb : ∀ v p, v < S.rot.length → p < dg S v → nb T (f v) (atM ab (b v) p (dg S v)) = f (nb S v p)
  cold : ∀ v p, v < S.rot.length → p < dg S v → colD T (f v) (atM ab (b v) p (dg S v)) = colD S v p

theorem atM_comp (m ab : Bool) {b e j n : Nat} (hb : b < n) (he : e < n) (hj : j < n) : atM (m != ab) (atM ab b e n) j n = atM ab b (atM m e j n) n := by
  have hn : 0 < n := by omega
  have h1 : atM ab b e n < n := atM_lt ab b e hn
  have h2 : atM m e j n < n := atM_lt m e j hn
  rw [atM_val h1 hj, atM_val hb h2]
  rw [atM_val hb he, atM_val he hj]
  cases m <;> cases ab <;> simp only [bne_self_eq_false, Bool.bne_true, Bool.bne_false, Bool.not_true, Bool.not_false, Bool.false_eq_true, if_true, if_false] <;> (repeat' split) <;> omega

theorem plM_nb {S : SkinM} (hr : RightS S) {u p : Nat} (hu : u < S.rot.length) (hp : p < dg S u) : plM S u (nb S u p) = p := by
  have h1 : S.rot.getD u [] = S.rot[u] := getD_of hu
  have hp' : p < S.rot[u].length := by rw [dg, h1] at hp; exact hp
  have h2 : S.rot[u].getD p 0 = S.rot[u][p] := getD_of hp'
  have m := hr.mutl u _ (getElem?_of hu) p _ (getElem?_of hp')
  obtain ⟨m1, m2, m3, m4, m5⟩ := m
  have e2 : ((nb S u p : Nat) : Int) = S.rot[u][p] := by simp only [nb, h1, h2]; omega
  unfold plM
  rw [h1, e2, m4]; rfl
theorem nb_inj {S : SkinM} (hr : RightS S) {u p q : Nat} (hu : u < S.rot.length) (hp : p < dg S u) (hq : q < dg S u) (h : nb S u p = nb S u q) : p = q := by
  rw [← plM_nb hr hu hp, h, plM_nb hr hu hq]

section
variable {S T : SkinM} {f b : Nat → Nat} {ab : Bool}

theorem IsoS.ge_lt (I : IsoS S T f b ab) {u e : Nat} (hu : u < S.rot.length) (he : e < dg S u ∨ dg S u = 0 ∧ e = 0) : ge S b ab u e < dg T (f u) ∨ dg T (f u) = 0 ∧ ge S b ab u e = 0 := by
  unfold ge
  rw [I.deg u hu]
  rcases he with he | ⟨he, rfl⟩
  · rw [if_neg (by omega)]; exact .inl (atM_lt _ _ _ (by omega))
  · rw [if_pos he]; exact .inr ⟨he, rfl⟩

/- two states of walks -/
structure WRel (S : SkinM) (f b : Nat → Nat) (ab : Bool) (s t : Ws) : Prop where
  ord : t.ord = s.ord.map f
  len : t.ent.length = s.ent.length
  ent : ∀ (q u e : Nat), s.ord[q]? = some u → s.ent[q]? = some e → t.ent[q]? = some (ge S b ab u e)
  words : t.words = s.words

theorem IsoS.mem (I : IsoS S T f b ab) {l : List Nat} (hl : ∀ x ∈ l, x < S.rot.length) {x : Nat} (hx : x < S.rot.length) : f x ∈ l.map f ↔ x ∈ l := by
  rw [List.mem_map]
  constructor
  · rintro ⟨y, hy, e⟩
    rw [← I.inj y x (hl y hy) hx e]; exact hy
  · exact fun h => ⟨x, h, rfl⟩
theorem IsoS.idx (I : IsoS S T f b ab) : ∀ {l : List Nat} (_ : ∀ x ∈ l, x < S.rot.length) {x : Nat} (_ : x < S.rot.length), (l.map f).idxOf (f x) = l.idxOf x
  | [], _, _, _ => rfl
  | a :: l, hl, x, hx => by
    have ih := IsoS.idx I (l := l) (fun y hy => hl y (by simp [hy])) hx
    simp only [List.map_cons, List.idxOf_cons, ih]
    by_cases e : a = x
    · subst e; simp
    · have h1 : (a == x) = false := by simpa using e
      have h2 : (f a == f x) = false := by
        simp only [beq_eq_false_iff_ne, ne_eq]
        exact fun h => e (I.inj a x (hl a (by simp)) hx h)
      rw [h1, h2]

theorem WRel.visit (I : IsoS S T f b ab) {s t : Ws} (r : WRel S f b ab s t) (k : StOK S s) {x e : Nat} (hx : x < S.rot.length) (he : e < dg S x) : WRel S f b ab (Fw.visit s x e) (Fw.visit t (f x) (ge S b ab x e)) := by
  unfold Fw.visit
  have hm : f x ∈ t.ord ↔ x ∈ s.ord := by rw [r.ord]; exact I.mem k.lt hx
  by_cases h : x ∈ s.ord
  · rw [if_pos h, if_pos (hm.2 h)]; exact r
  · rw [if_neg h, if_neg (fun q => h (hm.1 q))]
    refine ⟨by simp [r.ord], by simp [r.len], fun q u e' hq he' => ?_, r.words⟩
    by_cases hlt : q < s.ord.length
    · rw [List.getElem?_append_left hlt] at hq
      rw [List.getElem?_append_left (by rw [k.len]; exact hlt)] at he'
      rw [List.getElem?_append_left (by rw [r.len, k.len]; exact hlt)]
      exact r.ent q u e' hq he'
    · have hq' : q = s.ord.length := by
        have := (List.getElem?_eq_some_iff.1 hq).1
        simp at this; omega
      subst hq'
      rw [List.getElem?_append_right (Nat.le_refl _)] at hq
      rw [List.getElem?_append_right (by rw [k.len]; exact Nat.le_refl _)] at he'
      rw [List.getElem?_append_right (by rw [r.len, k.len]; exact Nat.le_refl _)]
      simp [k.len] at hq he'
      subst hq he'
      simp [r.len, k.len]

theorem WRel.nxt (I : IsoS S T f b ab) (hr : RightS S) (hT : RightS T) {s t : Ws} (r : WRel S f b ab s t) (k : StOK S s) {mir : Bool} {u e j : Nat} (hu : u < S.rot.length) (he : e < dg S u) (hj : j < dg S u) :
    WRel S f b ab (Fw.nxt S mir u e j s) (Fw.nxt T (mir != ab) (f u) (ge S b ab u e) j t) := by
  have hd : ¬ dg S u = 0 := by omega
  have hbu := I.blt u hu (by omega)
  have hp : atM mir e j (dg S u) < dg S u := atM_lt _ _ _ (by omega)
  have hge : ge S b ab u e = atM ab (b u) e (dg S u) := by unfold ge; rw [if_neg hd]
  have hat : atM (mir != ab) (ge S b ab u e) j (dg T (f u)) = atM ab (b u) (atM mir e j (dg S u)) (dg S u) := by
    rw [hge, I.deg u hu, atM_comp mir ab hbu he hj]
  obtain ⟨h1, h2, h3, h4, h5, h6⟩ := nb_ok hr hu hp
  have hnb := I.nb u _ hu hp
  have hcd := I.cold u _ hu hp
  have hpl : plM T (f (Fw.nb S u (atM mir e j (dg S u)))) (f u) = ge S b ab (Fw.nb S u (atM mir e j (dg S u))) (plM S (Fw.nb S u (atM mir e j (dg S u))) u) := by
    generalize hxd : Fw.nb S u (atM mir e j (dg S u)) = x at *
    have hx := I.nb x _ h1 h5
    rw [h6] at hx
    have hgx : ge S b ab x (plM S x u) = atM ab (b x) (plM S x u) (dg S x) := by unfold ge; rw [if_neg (by omega)]
    rw [← hx, hgx]
    refine plM_nb hT (by rw [I.len]; exact I.lt x h1) ?_
    rw [I.deg x h1]
    exact atM_lt _ _ _ (by omega)
  have hv := WRel.visit I r k h1 h5
  have kv := k.visit h1 h5
  refine ⟨?_, ?_, ?_, ?_⟩
  · simp only [Fw.nxt, hat, hnb, hpl]; exact hv.ord
  · simp only [Fw.nxt, hat, hnb, hpl]; exact hv.len
  · simp only [Fw.nxt, hat, hnb, hpl]; exact hv.ent
  · simp only [Fw.nxt, hat, hnb, hpl, hcd]
    rw [hv.words, hv.ord, I.idx kv.lt h1]

theorem WRel.inn (I : IsoS S T f b ab) (hr : RightS S) (hT : RightS T) {s t : Ws} (r : WRel S f b ab s t) (k : StOK S s) {mir : Bool} {u e : Nat} (hu : u < S.rot.length) : ∀ j, j ≤ dg S u → (0 < j → e < dg S u) → WRel S f b ab (innM S mir u e j s) (innM T (mir != ab) (f u) (ge S b ab u e) j t)
  | 0, _, _ => r
  | j + 1, hj, he => (WRel.inn I hr hT r k hu j (by omega) (fun _ => he (by omega))).nxt I hr hT (k.innM hr hu j (by omega)) hu (he (by omega)) (by omega)
theorem WRel.head (I : IsoS S T f b ab) {s t : Ws} (r : WRel S f b ab s t) {u : Nat} (hu : u < S.rot.length) : WRel S f b ab (headM S u s) (headM T (f u) t) :=
  ⟨r.ord, r.len, r.ent, by simp only [headM, r.words, I.col u hu, I.deg u hu]⟩

theorem WRel.out (I : IsoS S T f b ab) (hr : RightS S) (hT : RightS T) {mir : Bool} {v i : Nat} (hv : v < S.rot.length) (hi : i < dg S v ∨ dg S v = 0 ∧ i = 0) : ∀ k, k ≤ S.rot.length → WRel S f b ab (outM S mir v i k) (outM T (mir != ab) (f v) (ge S b ab v i) k)
  | 0, _ => ⟨rfl, rfl, fun q u e hq he => by
      have : q = 0 := by have := (List.getElem?_eq_some_iff.1 hq).1; simp [outM] at this; omega
      subst this
      simp [outM] at hq he
      subst hq he; rfl, rfl⟩
  | k + 1, hk => by
    have ih := WRel.out I hr hT (mir := mir) hv hi k (by omega)
    have ok := out_ok hr hv hi (mir := mir) k (by omega)
    have hlt : k < (outM S mir v i k).ord.length := by
      rcases Nat.lt_or_eq_of_le ok.kle with h | h
      · exact h
      · have := (ok.done hr h).1; omega
    have hltE : k < (outM S mir v i k).ent.length := by rw [ok.len]; exact hlt
    have eu : (outM S mir v i k).ord.getD k 0 = (outM S mir v i k).ord[k] := getD_of hlt
    have ee : (outM S mir v i k).ent.getD k 0 = (outM S mir v i k).ent[k] := getD_of hltE
    have hu := ok.lt _ (List.getElem_mem hlt)
    have he := ok.ent k _ _ (getElem?_of hlt) (getElem?_of hltE)
    have eu' : (outM T (mir != ab) (f v) (ge S b ab v i) k).ord.getD k 0 = f (outM S mir v i k).ord[k] := by
      rw [ih.ord, List.getD_eq_getElem?_getD, List.getElem?_map, getElem?_of hlt]; rfl
    have ee' : (outM T (mir != ab) (f v) (ge S b ab v i) k).ent.getD k 0 = ge S b ab (outM S mir v i k).ord[k] (outM S mir v i k).ent[k] := by
      rw [List.getD_eq_getElem?_getD, ih.ent k _ _ (getElem?_of hlt) (getElem?_of hltE)]; rfl
    simp only [outM]
    rw [eu, ee, eu', ee', I.deg _ hu]
    exact (ih.head I hu).inn I hr hT (ok.toStOK.head _) hu _ (Nat.le_refl _) (fun h => by omega)

theorem IsoS.code (I : IsoS S T f b ab) (hr : RightS S) (hT : RightS T) {mir : Bool} {v i : Nat} (hv : v < S.rot.length) (hi : i < dg S v ∨ dg S v = 0 ∧ i = 0) :
    codeM T (mir != ab) (f v) (ge S b ab v i) = codeM S mir v i ∧ (finM T (mir != ab) (f v) (ge S b ab v i)).ord = (finM S mir v i).ord.map f := by
  have w := WRel.out I hr hT (mir := mir) hv hi S.rot.length (Nat.le_refl _)
  have h1 := fin_words_len hr hv hi (mir := mir)
  have h2 := fin_words_len hT (mir := mir != ab) (by rw [I.len]; exact I.lt v hv) (I.ge_lt hv hi)
  have e : (finM T (mir != ab) (f v) (ge S b ab v i)).words = (finM S mir v i).words := by
    unfold finM; rw [I.len]; exact w.words
  have e2 : (finM T (mir != ab) (f v) (ge S b ab v i)).ord = (finM S mir v i).ord.map f := by
    unfold finM; rw [I.len]; exact w.ord
  refine ⟨?_, e2⟩
  unfold codeM
  rw [← h1, ← h2, e]
end
end Go.Fw
