/- A text of the proof. -/
import Derived.Test.YtnaahaldkpdjlaaFwRep3
set_option linter.unusedSimpArgs false
set_option linter.unusedVariables false
namespace Go.Fw
variable {P : Program} {h h' : AHeap}
def GT (k : Nat) (h : AHeap) (v : Value) (n : Nat) (cs : List Value) : Prop :=
 cs.length = n * k ∧ ((v = .slice none 0 0 ∧ n = 0) ∨
  ∃ id c cap, v = .slice (some ⟨id, 0, none⟩) n cap ∧ h.own id = some (.cells c) ∧ c.take (n * k) = cs ∧ (cap = UNK + k ∨ (n ≤ cap ∧ cap < 1000000000000 ∧ cap * k ≤ c.length)))
theorem GS.gt {k n : Nat} {v : Value} {cs : List Value} (g : GS k h v n cs) : GT k h v n cs := by
 obtain ⟨hl, g | ⟨id, c, cap, rfl, ho, ht, r⟩⟩ := g
 ·exact ⟨hl, .inl g⟩
 ·refine ⟨hl, .inr ⟨id, c, cap, rfl, ho, ht, ?_⟩⟩
  rcases r with r | ⟨rfl, r⟩
  ·exact .inl r
  ·refine .inr ⟨Nat.le_refl _, r, ?_⟩
   rw [← hl, ← ht, List.length_take]; omega
theorem GT.le {k n : Nat} {v : Value} {cs : List Value} (g : GT k h v n cs) (e : Le h h') : GT k h' v n cs := by
 obtain ⟨hl, g | ⟨id, c, cap, rfl, ho, r⟩⟩ := g
 ·exact ⟨hl, .inl g⟩
 ·exact ⟨hl, .inr ⟨id, c, cap, rfl, e.own _ _ ho, r⟩⟩
theorem GT.kept {k n : Nat} {v : Value} {cs : List Value} (g : GT k h v n cs) (hk : ∀ b o, blk v = some b → h.own b = some o → h'.own b = some o) : GT k h' v n cs := by
 obtain ⟨hl, q | ⟨i, c, cap, rfl, ho, rr⟩⟩ := g
 ·exact ⟨hl, .inl q⟩
 ·exact ⟨hl, .inr ⟨i, c, cap, rfl, hk i _ rfl ho, rr⟩⟩
theorem GT.put {k n : Nat} {v : Value} {cs : List Value} (g : GT k h v n cs) {id : Nat} (o : AObj) (hb : blk v ≠ some id) : GT k (h.put id o) v n cs :=
 g.kept fun b o' hv ho => by rw [AHeap.own_put_ne _ _ _ _ (fun e => hb (by rw [← e]; exact hv))]; exact ho
theorem GT.cs {k n : Nat} {v : Value} {cs : List Value} (g : GT k h v n cs) : CS k h v n cs := by
 obtain ⟨hl, ⟨rfl, rfl⟩ | ⟨id, c, cap, rfl, ho, rfl, hc⟩⟩ := g
 ·have : cs = [] := by simpa using hl
  subst this; exact .nil k h
 ·refine ⟨⟨_, cap, rfl, by simp⟩, hl, fun i x hx => ?_⟩
  rw [elemAddr_mk, aadd, read_own ho, Nat.zero_add]
  rw [List.getElem?_take] at hx
  split at hx
  ·exact hx
  ·cases hx
theorem GT.blk_own {k n : Nat} {v : Value} {cs : List Value} (g : GT k h v n cs) {b : Nat} (hb : blk v = some b) : ∃ c, h.own b = some (.cells c) := by
 obtain ⟨hl, ⟨rfl, rfl⟩ | ⟨i, c, cap, rfl, ho, rr⟩⟩ := g
 ·cases hb
 ·injection hb with hb; subst hb; exact ⟨c, ho⟩
theorem GT.append {t xt : TypeId} {k n n' : Nat} {v x : Value} {cs news : List Value} (ht : apT P t xt k = true) (g : GT k h v n cs) (hs : ∀ e, tsize P e = k → srcCells P h e x = some (n', news))
  (hc1 : cs.all (·.oneCell') = true) (h1 : news.all (·.oneCell') = true) (hnl : news.length = n' * k) (hb : n + n' ≤ 1000000000) :
  ∃ v' h', aAppend P h t xt v x = some (v', h') ∧ GT k h' v' (n + n') (cs ++ news) ∧ (∀ f, WF h → Le f h → Apart f v → Le f h' ∧ Apart f v') := by
 obtain ⟨hl, ⟨rfl, rfl⟩ | ⟨id, c, cap, rfl, ho, htk, hc⟩⟩ := g
 ·have hcs : cs = [] := by simpa using hl
  subst hcs
  obtain ⟨v', h', e1, e2, e3⟩ := GS.append ht (GS.nil k h) hs hc1 h1 hnl hb
  exact ⟨v', h', e1, e2.gt, e3⟩
 ·rcases hc with rfl | ⟨hc0, hc2, hc3⟩
  ·obtain ⟨v', h', e1, e2, e3⟩ := GS.append ht ⟨hl, .inr ⟨id, c, _, rfl, ho, htk, .inl rfl⟩⟩ hs hc1 h1 hnl hb
   exact ⟨v', h', e1, e2.gt, e3⟩
  ·unfold apT at ht
   split at ht
   ·rename_i e dx hu hx
    split at ht
    ·rename_i z hz
     simp only [Bool.and_eq_true, beq_iff_eq, decide_eq_true_eq] at ht
     obtain ⟨⟨⟨⟨⟨hz1, hz2⟩, hd⟩, hni⟩, hk⟩, hby⟩ := ht
     have hs := hs e hk
     have b1 : (n + n') * P.bytesOf e ≤ 140737488355328 := Nat.le_trans (Nat.mul_le_mul hb hby) (by decide)
     have b2 : n + n' ≤ 140737488355328 := by omega
     have hall : z.cells.size = tsize P e ∧ z.cells.toList.all (·.oneCell') ∧ (P.underlying e).isSome ∧ notIntD dx ∧ news.all (·.oneCell') ∧ (n + n') * P.bytesOf e ≤ 140737488355328 ∧ n + n' ≤ 140737488355328 ∧ news.length = n' * tsize P e :=
      ⟨hz1, hz2, hd, hni, h1, b1, b2, by rw [hk]; exact hnl⟩
     have hlen : (cs ++ news).length = (n + n') * k := by rw [List.length_append, hl, hnl, Nat.add_mul]
     have hno : ¬ UNK ≤ cap := Nat.not_le.2 (Nat.lt_of_lt_of_le hc2 (by decide))
     have hrd : Fw.readN h ⟨id, 0, none⟩ (n * k) = some cs := by
      have : n * k ≤ c.length := by have := hl; rw [← htk, List.length_take] at this; omega
      rw [readN_own ho (n * k) 0 (by omega)]; simp [htk]
     by_cases h0 : n' = 0
     ·subst h0
      have hnn : news = [] := by simpa using hnl
      subst hnn
      refine ⟨_, h, ?_, ⟨by simpa using hl, .inr ⟨id, c, cap, rfl, ho, by simpa using htk, .inr ⟨hc0, hc2, hc3⟩⟩⟩, fun f _ e a => ⟨e, a⟩⟩
      simp only [aAppend, hu, hx, hz, hs]
      rw [if_pos hall, if_pos trivial, if_pos hc0]; rfl
     ·by_cases hf : n + n' ≤ cap
      ·have hroom : n * k + news.length ≤ c.length := by
        rw [hnl, ← Nat.add_mul]; exact Nat.le_trans (Nat.mul_le_mul_right _ hf) hc3
       refine ⟨.slice (some ⟨id, 0, none⟩) (n + n') cap, h.put id (.cells (putCells c (n * k) news)), ?_, ⟨hlen, .inr ⟨id, _, cap, rfl, AHeap.own_put_eq _ _ _, ?_, .inr ⟨hf, hc2, by rw [putCells_length]; exact hc3⟩⟩⟩, fun f _ e a => ⟨e.put _ (a _ rfl), a⟩⟩
       ·simp only [aAppend, hu, hx, hz, hs]
        rw [if_pos hall, if_neg h0, if_neg hno, if_pos hf]
        simp only [ho, hk, Nat.zero_add, hroom, if_true]
       ·rw [putCells_eq _ _ _ hroom]
        rw [List.take_append_of_le_length (by simp [hnl]; rw [Nat.add_mul]; omega)]
        rw [List.take_of_length_le (by simp [hnl]; rw [Nat.add_mul]; omega), htk]
      ·refine ⟨_, _, ?_, ⟨hlen, .inr ⟨h.next, cs ++ news, UNK + k, rfl, AHeap.own_alloc_eq _ _, by rw [← hlen, List.take_length], .inl rfl⟩⟩, fun f hw e a => ⟨e.alloc hw _, ?_⟩⟩
       ·simp only [aAppend, hu, hx, hz, hs]
        rw [if_pos hall, if_neg h0, if_neg hno, if_neg hf]
        simp only [oldCells, hk, hrd, hc1, if_true]
       ·intro b hb; simp [blk] at hb; subst hb; exact e.next hw (Nat.le_refl _)
    ·cases ht
   ·cases ht
theorem GT.push {t : TypeId} {n id : Nat} {v x : Value} {cs : List Value} (ht : apT P t t 1 = true) (g : GT 1 h v n cs) (ho : h.own id = some (.cells [x])) (hc1 : cs.all (·.oneCell') = true) (h1 : x.oneCell' = true) (hb : n + 1 ≤ 1000000000) :
  ∃ v' h', aAppend P h t t v (.slice (some ⟨id, 0, none⟩) 1 1) = some (v', h') ∧ GT 1 h' v' (n + 1) (cs ++ [x]) ∧ (∀ f, WF h → Le f h → Apart f v → Le f h' ∧ Apart f v') :=
 GT.append ht g (fun e he => CS.src he (CS.own (k := 1) (off := 0) (n := 1) (cap := 1) ho (by simp))) hc1 (by simpa using h1) (by simp) hb
theorem GT.cut {k n : Nat} {v : Value} {cs : List Value} {t e : TypeId} {d : TypeDesc} (hu : P.underlying t = some (.slice e)) (hd : P.underlying e = some d) (hs : tsize P e = k) (g : GT k h v n cs) (m : Nat) (hm : m ≤ n) :
  ∃ v', aSlice P t v none (some (.int .i64 m)) none = some v' ∧ GT k h v' m (cs.take (m * k)) ∧ blk v' = blk v := by
 obtain ⟨hl, ⟨rfl, rfl⟩ | ⟨id, c, cap, rfl, ho, ht, hc⟩⟩ := g
 ·obtain rfl : m = 0 := by omega
  refine ⟨.slice none 0 0, ?_, ⟨by simp, .inl ⟨rfl, rfl⟩⟩, rfl⟩
  have : ¬ UNK ≤ 0 := by decide
  simp [aSlice, hu, hd, this, aBounds, aBound]
 ·have h2 : (0 : Int) ≤ m := by omega
  have hmk : m * k ≤ n * k := Nat.mul_le_mul_right _ hm
  have hck : cs.take (m * k) = c.take (m * k) := by rw [← ht, List.take_take, Nat.min_eq_left hmk]
  have hlk : (cs.take (m * k)).length = m * k := by rw [List.length_take, hl]; omega
  rcases hc with rfl | ⟨hc0, hc2, hc3⟩
  ·have h3 : (m : Int) ≤ n := by omega
   refine ⟨.slice (some ⟨id, 0, none⟩) m (UNK + k), ?_, ⟨hlk, .inr ⟨id, c, _, rfl, ho, hck.symm, .inl rfl⟩⟩, rfl⟩
   simp [aSlice, hu, hd, hs, aBounds, aBound, aadd, h2, h3]
  ·have h1 : ¬ UNK ≤ cap := Nat.not_le.2 (Nat.lt_of_lt_of_le hc2 (by decide))
   have h3 : (m : Int) ≤ cap := by omega
   refine ⟨.slice (some ⟨id, 0, none⟩) m cap, ?_, ⟨hlk, .inr ⟨id, c, _, rfl, ho, hck.symm, .inr ⟨by omega, hc2, hc3⟩⟩⟩, rfl⟩
   simp [aSlice, hu, h1, hc0, hd, aBounds, aBound, h2, h3, aadd]
end Go.Fw
namespace Go.Fw
variable {P : Program} {h h' : AHeap}
def GRL {α : Type} (R : AHeap → Value → α → Prop) (h : AHeap) (v : Value) (xs : List α) : Prop :=
 ∃ us : List Value, GS 1 h v us.length us ∧ us.length = xs.length ∧ us.all (·.oneCell') = true ∧ ∀ (i : Nat) x u, xs[i]? = some x → us[i]? = some u → R (rem (bl v) h) u x
section
variable {α : Type} {R : AHeap → Value → α → Prop} {v : Value} {xs : List α}
theorem GRL.rl (s : Stays R) (g : GRL R h v xs) : RL R h v xs := by
 obtain ⟨us, g1, g2, _, g4⟩ := g
 exact ⟨us, g1.cs.rs, g2, fun i x u hx hu => s _ _ _ _ (g4 i x u hx hu) (rem_le _ _)⟩
theorem GRL.le (s : Stays R) (g : GRL R h v xs) (e : Le h h') : GRL R h' v xs := by
 obtain ⟨us, g1, g2, g3, g4⟩ := g
 exact ⟨us, g1.le e, g2, g3, fun i x u hx hu => s _ _ _ _ (g4 i x u hx hu) e.mono_rem⟩
theorem GRL.empty (R : AHeap → Value → α → Prop) {id : Nat} (ho : h.own id = some (.cells [])) : GRL R h (.slice (some ⟨id, 0, none⟩) 0 0) [] := ⟨[], GS.full ho rfl (by decide), rfl, rfl, fun i x u hx => by simp at hx⟩
theorem GRL.push (s : Stays R) {t : TypeId} (ht : apT P t t 1 = true) (g : GRL R h v xs) (hwf : WF h) {u : Value} {x : α} (hu : R (rem (bl v) h) u x) (u1 : u.oneCell' = true) (hn : xs.length ≤ 100000000) :
  ∃ h4 v' h5, h.alloc (.cells [u]) = h4 ∧ aAppend P h4 t t v (.slice (some ⟨h.next, 0, none⟩) 1 1) = some (v', h5) ∧ GRL R h5 v' (xs ++ [x]) ∧ Le h h4 ∧ WF h4 ∧
   (∀ f, Le f h → Apart f v → Le f h5 ∧ Apart f v') ∧ (∀ b o, h.own b = some o → blk v ≠ some b → h5.own b = some o ∧ blk v' ≠ some b) := by
 obtain ⟨us, g1, g2, g3, g4⟩ := g
 have l4 : Le h (h.alloc (.cells [u])) := (Le.refl h).alloc hwf _
 have w4 : WF (h.alloc (.cells [u])) := hwf.alloc _
 have o4 : (h.alloc (.cells [u])).own h.next = some (.cells [u]) := AHeap.own_alloc_eq _ _
 obtain ⟨v', h5, e5, g5, hf⟩ := GS.push (P := P) ht (g1.le l4) o4 g3 u1 (by omega)
 refine ⟨_, v', h5, rfl, e5, ⟨us ++ [u], ?_, by simp [g2], by simpa [u1] using g3, fun i y w hy hw => ?_⟩, l4, w4, fun f lf af => hf f w4 (lf.trans l4) af, fun b o ho hb => keep_own hf w4 (l4.own _ _ ho) hb⟩
 ·rw [List.length_append]; exact g5
 ·have hrem : Apart (rem (bl v) h) v := fun b hb => by rw [rem_own, if_pos (mem_bl.2 hb)]
  obtain ⟨l5, a5⟩ := hf _ w4 ((rem_le (bl v) h).trans l4) hrem
  have le : Le (rem (bl v) h) (rem (bl v') h5) := l5.of_none fun i hi => a5 i (mem_bl.1 hi)
  by_cases hi : i < us.length
  ·rw [List.getElem?_append_left hi] at hw
   rw [List.getElem?_append_left (by omega)] at hy
   exact s _ _ _ _ (g4 i y w hy hw) le
  ·have e : i = us.length := by
    have := (List.getElem?_eq_some_iff.1 hw).1
    simp at this; omega
   subst e
   rw [List.getElem?_append_right (by omega)] at hw
   rw [List.getElem?_append_right (by omega), g2] at hy
   simp at hw hy
   subst hw hy
   exact s _ _ _ _ hu le
def RMR (l : List Nat) (R : AHeap → Value → α → Prop) : AHeap → Value → α → Prop := fun h u x => R (rem l h) u x
theorem RMR.stays (s : Stays R) (l : List Nat) : Stays (RMR l R) := fun _ _ _ _ r e => s _ _ _ _ r e.mono_rem
theorem rem_comm (l l' : List Nat) (h : AHeap) : Le (rem l (rem l' h)) (rem l' (rem l h)) :=
 ⟨by simp [rem_ext], fun i o hi => by
  obtain ⟨h1, h2⟩ := rem_some.1 hi
  obtain ⟨h3, h4⟩ := rem_some.1 h1
  exact rem_some.2 ⟨rem_some.2 ⟨h3, h2⟩, h4⟩⟩
theorem GRL.remI (s : Stays R) {l : List Nat} (g : GRL R (rem l h) v xs) : GRL (RMR l R) h v xs := by
 obtain ⟨us, g1, g2, g3, g4⟩ := g
 exact ⟨us, g1.le (rem_le _ _), g2, g3, fun i x u hx hu => s _ _ _ _ (g4 i x u hx hu) (rem_comm _ _ _)⟩
theorem GRL.remE (s : Stays R) {l : List Nat} (g : GRL (RMR l R) h v xs) (hb : ∀ b, blk v = some b → b ∉ l) : GRL R (rem l h) v xs := by
 obtain ⟨us, g1, g2, g3, g4⟩ := g
 exact ⟨us, g1.to_rem hb, g2, g3, fun i x u hx hu => s _ _ _ _ (g4 i x u hx hu) (rem_comm _ _ _)⟩
theorem GRL.push_rem (s : Stays R) {l : List Nat} {t : TypeId} (ht : apT P t t 1 = true) (g : GRL R (rem l h) v xs) (hwf : WF h) {u : Value} {x : α} (hu : R (rem l (rem (bl v) h)) u x) (u1 : u.oneCell' = true) (hn : xs.length ≤ 100000000)
  (hb : ∀ b, blk v = some b → b ∉ l) (hl : ∀ b ∈ l, h.own b ≠ none) :
  ∃ h4 v' h5, h.alloc (.cells [u]) = h4 ∧ aAppend P h4 t t v (.slice (some ⟨h.next, 0, none⟩) 1 1) = some (v', h5) ∧ GRL R (rem l h5) v' (xs ++ [x]) ∧ Le h h4 ∧ WF h4 ∧
   (∀ f, Le f h → Apart f v → Le f h5 ∧ Apart f v') ∧ (∀ b o, h.own b = some o → blk v ≠ some b → h5.own b = some o ∧ blk v' ≠ some b) := by
 obtain ⟨h4, v', h5, e4, e5, g5, l4, w4, f5, k5⟩ := GRL.push (RMR.stays s l) ht (g.remI s) hwf (u := u) (x := x) hu u1 hn
 refine ⟨h4, v', h5, e4, e5, g5.remE s fun b hb' hm => ?_, l4, w4, f5, k5⟩
 cases ho : h.own b with
 | none => exact hl b hm ho
 | some o => exact (k5 b o ho fun hc => hb b hc hm).2 hb'
end
end Go.Fw
