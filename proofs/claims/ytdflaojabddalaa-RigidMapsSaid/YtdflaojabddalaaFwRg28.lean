/- One of the texts of the layer and the walks: it proves what its theorems say of the functions of the seat, with no condition beyond theirs. -/
import Derived.Test.YtdflaojabddalaaFwRg27
set_option linter.unusedSimpArgs false
set_option linter.unusedVariables false
namespace Go.Fw
open Go.Proofs
set_option maxHeartbeats 2000000
set_option maxRecDepth 10000

theorem GS.kept {k n : Nat} {h h' : AHeap} {v : Value} {cs : List Value} (g : GS k h v n cs) (hk : ∀ b o, blk v = some b → h.own b = some o → h'.own b = some o) : GS k h' v n cs := by
  obtain ⟨hl, q | ⟨i, c, cap, rfl, ho, rr⟩⟩ := g
  · exact ⟨hl, .inl q⟩
  · exact ⟨hl, .inr ⟨i, c, cap, rfl, hk i _ rfl ho, rr⟩⟩

theorem nxt_words_len (S : SkinM) (mir : Bool) (u e j : Nat) (s : Ws) : (nxt S mir u e j s).words.length = s.words.length + 2 := by
  have : ∀ x ex, (visit s x ex).words = s.words := by intro x ex; unfold visit; split <;> rfl
  simp only [nxt, this, List.length_append]; rfl
theorem innM_words_len (S : SkinM) (mir : Bool) (u e : Nat) (s : Ws) : ∀ j, (innM S mir u e j s).words.length = s.words.length + 2 * j
  | 0 => rfl
  | j + 1 => by have := innM_words_len S mir u e s j; simp only [innM, nxt_words_len]; omega
theorem outM_words_len {S : SkinM} (hr : RightS S) {mir : Bool} {v i : Nat} (hv : v < S.rot.length) (hi : i < dg S v ∨ dg S v = 0 ∧ i = 0) : ∀ k, k ≤ S.rot.length → (outM S mir v i k).words.length = (((outM S mir v i k).ord.take k).map fun u => 2 + 2 * dg S u).sum
  | 0, _ => by simp [outM]
  | k + 1, hk => by
    have ih := outM_words_len hr hv hi (mir := mir) k (by omega)
    have ok := out_ok hr hv hi (mir := mir) k (by omega)
    have hlt : k < (outM S mir v i k).ord.length := by
      rcases Nat.lt_or_eq_of_le ok.kle with h | h
      · exact h
      · have := (ok.done hr h).1; omega
    have hpre := outM_le S mir v i (Nat.le_succ k)
    have h1 : (outM S mir v i (k + 1)).ord.take (k + 1) = (outM S mir v i k).ord.take (k + 1) := by
      obtain ⟨t, ht⟩ := hpre.1
      rw [← ht, List.take_append_of_le_length (by omega)]
    have eu : (outM S mir v i k).ord.getD k 0 = (outM S mir v i k).ord[k] := getD_of hlt
    rw [h1, List.take_succ_eq_append_getElem hlt, List.map_append, List.sum_append, ← ih]
    simp only [outM, innM_words_len, headM, List.length_append, eu]
    simp
    omega
theorem fin_words_len {S : SkinM} (hr : RightS S) {mir : Bool} {v i : Nat} (hv : v < S.rot.length) (hi : i < dg S v ∨ dg S v = 0 ∧ i = 0) : (finM S mir v i).words.length = wordsM S := by
  have ok := out_ok hr hv hi (mir := mir) S.rot.length (Nat.le_refl _)
  have hlen : S.rot.length = (outM S mir v i S.rot.length).ord.length := by
    have h1 := ok.kle
    have h2 := ok.toStOK.le
    omega
  have hall := (ok.done hr hlen).2
  have hp : (outM S mir v i S.rot.length).ord.Perm (List.range S.rot.length) := by
    rw [List.perm_ext_iff_of_nodup ok.nd List.nodup_range]
    intro a
    rw [List.mem_range]
    exact ⟨fun h => ok.lt a h, fun h => hall a h⟩
  rw [finM, outM_words_len hr hv hi _ (Nat.le_refl _), List.take_of_length_le (by omega)]
  have h1 := (hp.map fun u => 2 + 2 * dg S u).sum_nat
  rw [h1, wordsM]
  congr 1
  apply List.ext_getElem
  · simp
  · intro i h1 h2
    simp only [List.length_map, List.length_range] at h1
    simp [dg, h1]

def minOf (l : List Wd) (x : Wd) : Bool := l.all fun y => !decide (ltL y.1 x.1)
def leastM (l : List Wd) : List Wd := l.filter (minOf l)

theorem keep36 {h : AHeap} (hwf : WF h) {cv ov : Value} {n m : Nat} (h1 : isSl cv n) (h2 : isSl ov m) :
    ∃ ha hb, aAlloc Try.prog h 36 = some (.pointer (some ⟨h.next, 0, none⟩), ha) ∧ aStore Try.prog ha 36 (.pointer (some ⟨h.next, 0, none⟩)) (.agg #[cv, ov]) = some hb ∧ hb.own h.next = some (.cells [cv, ov]) ∧ Le h hb ∧ WF hb := by
  obtain ⟨ha, e1, le1, wf1, o1⟩ := alloc_f hwf [.slice none 0 0, .slice none 0 0]
  have nw : h.own h.next = none := (Le.refl h).next hwf (Nat.le_refl _)
  exact ⟨ha, _, by rw [alloc36, e1], store36 o1 h1 h2, AHeap.own_put_eq _ _ _, le1.put _ nw, wf1.put _ (wf1.lt o1)⟩

theorem WalkP.ok {S : SkinM} {mir : Bool} {v i : Int} {x : Value} {h' : AHeap} (w : WalkP S mir v i x h') (hr : RightS S) (hd : isDartM S.rot v i = true) : ∃ cv ov, x = .tuple #[.agg #[cv, ov], .int .i64 0] ∧ ElR h' (cv, ov) (codeW S mir v.toNat i.toNat) := by
  obtain ⟨cv, ov, e, rfl, ⟨-, -, rfl, a, b⟩ | ⟨hn, -⟩⟩ := w
  · exact ⟨cv, ov, rfl, a, b⟩
  · exact absurd ⟨hr, hd⟩ hn

def pairW (S : SkinM) (v i : Nat) : List Wd := [codeW S false v i, codeW S true v i]
def allI (S : SkinM) (v : Nat) (l : List Wd) : Nat → List Wd
  | 0 => l
  | i + 1 => allI S v l i ++ pairW S v i
def allV (S : SkinM) : Nat → List Wd
  | 0 => []
  | v + 1 => allI S v (allV S v) (max 1 (dg S v))
theorem allI_length (S : SkinM) (v : Nat) (l : List Wd) : ∀ i, (allI S v l i).length = l.length + 2 * i
  | 0 => rfl
  | i + 1 => by have := allI_length S v l i; simp only [allI, List.length_append, pairW, List.length_cons, List.length_nil]; omega
theorem allV_length {S : SkinM} (h : SmallM S) : ∀ v, (allV S v).length ≤ 30 * v
  | 0 => by simp [allV]
  | v + 1 => by have h1 := allV_length h v; have h2 := allI_length S v (allV S v) (max 1 (dg S v)); have := dg_le h v; simp only [allV]; omega

theorem minOf_iff {l : List Wd} {x : Wd} : minOf l x = true ↔ ∀ y ∈ l, ¬ ltL y.1 x.1 := by
  simp [minOf]
theorem least_exists : ∀ {l : List Wd}, l ≠ [] → ∃ x ∈ l, ∀ y ∈ l, ¬ ltL y.1 x.1
  | [], h => absurd rfl h
  | a :: l, _ => by
    by_cases hl : l = []
    · subst hl; exact ⟨a, by simp, fun y hy => by simp at hy; subst hy; exact ltL_irrefl _⟩
    · obtain ⟨x, hx, hmin⟩ := least_exists hl
      by_cases h : ltL a.1 x.1
      · refine ⟨a, by simp, fun y hy => ?_⟩
        rcases List.mem_cons.1 hy with rfl | hy
        · exact ltL_irrefl _
        · exact fun h' => hmin y hy (ltL_trans h' h)
      · refine ⟨x, by simp [hx], fun y hy => ?_⟩
        rcases List.mem_cons.1 hy with rfl | hy
        · exact h
        · exact hmin y hy
theorem step_least (l : List Wd) (x : Wd) : stepT (leastM l) x = leastM (l ++ [x]) := by
  have hsplit : leastM (l ++ [x]) = (l.filter (minOf (l ++ [x]))) ++ (if minOf (l ++ [x]) x then [x] else []) := by
    rw [leastM, List.filter_append]; congr 1
    cases h : minOf (l ++ [x]) x <;> simp [h]
  have hp : ∀ y, minOf (l ++ [x]) y = (minOf l y && !decide (ltL x.1 y.1)) := by intro y; simp [minOf]
  cases hL : leastM l with
  | nil =>
    have : l = [] := by
      by_cases h : l = []
      · exact h
      · obtain ⟨y, hy, hm⟩ := least_exists h
        have : y ∈ leastM l := List.mem_filter.2 ⟨hy, minOf_iff.2 hm⟩
        rw [hL] at this; cases this
    subst this
    have hx : minOf [x] x = true := minOf_iff.2 (by simpa using ltL_irrefl _)
    simp [stepT, leastM, hx]
  | cons y ys =>
    have hy : y ∈ leastM l := by rw [hL]; simp
    have hymem := (List.mem_filter.1 hy).1
    have hymin := minOf_iff.1 (List.mem_filter.1 hy).2
    have heq : ∀ z, minOf l z = true → z ∈ l → z.1 = y.1 := fun z hz hzl => by
      rcases ltL_total z.1 y.1 with h | h | h
      · exact absurd h (hymin z hzl)
      · exact h
      · exact absurd h (minOf_iff.1 hz y hymem)
    rw [hsplit]
    simp only [stepT]
    by_cases h1 : ltL y.1 x.1
    · have hx : minOf (l ++ [x]) x = false := by
        rw [Bool.eq_false_iff]; intro h
        exact minOf_iff.1 h y (by simp [hymem]) h1
      rw [if_pos h1, hx, ← hL]
      simp only [Bool.false_eq_true, if_false, List.append_nil, leastM]
      apply List.filter_congr
      intro z hz
      rw [hp]
      cases hm : minOf l z with
      | false => rfl
      | true =>
        have := heq z hm hz
        rw [this, decide_eq_false (fun h => ltL_asymm h h1)]; rfl
    · rw [if_neg h1]
      have hx : minOf (l ++ [x]) x = true := by
        rw [hp, decide_eq_false (ltL_irrefl _), Bool.not_false, Bool.and_true]
        refine minOf_iff.2 fun z hz h => ?_
        rcases ltL_total x.1 y.1 with h2 | h2 | h2
        · exact hymin z hz (ltL_trans h h2)
        · rw [h2] at h; exact hymin z hz h
        · exact h1 h2
      rw [hx, if_pos rfl]
      by_cases h2 : x.1 = y.1
      · rw [if_pos h2, ← hL, leastM]
        congr 1
        apply List.filter_congr
        intro z hz
        rw [hp]
        cases hm : minOf l z with
        | false => rfl
        | true =>
          have := heq z hm hz
          rw [this, h2, decide_eq_false (ltL_irrefl _)]; rfl
      · rw [if_neg h2]
        have h3 : ltL x.1 y.1 := by
          rcases ltL_total x.1 y.1 with h | h | h
          · exact h
          · exact absurd h h2
          · exact absurd h h1
        have : l.filter (minOf (l ++ [x])) = [] := by
          rw [List.filter_eq_nil_iff]
          intro z hz
          rw [hp]
          cases hm : minOf l z with
          | false => simp
          | true =>
            have := heq z hm hz
            rw [this, decide_eq_true h3]; simp
        rw [this]; rfl

theorem lT_least (S : SkinM) (v i : Nat) (l : List Wd) : lT S v i (leastM l) 2 = leastM (l ++ pairW S v i) := by
  simp only [lT]
  rw [step_least, step_least, pairW]
  simp [List.append_assoc]
theorem lT_nil (S : SkinM) (v i : Nat) : lT S v i [] 2 = leastM [codeW S false v i, codeW S true v i] := lT_least S v i []
theorem bestI_least (S : SkinM) (v : Nat) (l : List Wd) : ∀ i, bestI S v (leastM l) i = leastM (allI S v l i)
  | 0 => rfl
  | i + 1 => by rw [bestI, bestI_least S v l i, lT_least, allI]
theorem bestV_least (S : SkinM) : ∀ v, bestV S v = leastM (allV S v)
  | 0 => rfl
  | v + 1 => by rw [bestV, bestV_least S v, bestI_least, allV]

theorem codeW_ord {S : SkinM} (hr : RightS S) (hm : SmallM S) {mir : Bool} {v i : Nat} (hv : v < S.rot.length) (hi : i < dg S v ∨ dg S v = 0 ∧ i = 0) : (codeW S mir v i).2.length ≤ 1000 := by
  have := (out_ok hr hv hi (mir := mir) S.rot.length (Nat.le_refl _)).toStOK.le
  have := hm.rot
  show (outM S mir v i S.rot.length).ord.length ≤ 1000
  omega

theorem leastM_length (l : List Wd) : (leastM l).length ≤ l.length := List.length_filter_le _ _
end Go.Fw
