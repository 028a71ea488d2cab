/- A text of the proof. -/
import Derived.Test.YtnaahaldkpdjlaaFwRep3
import Derived.Test.YtnaahaldkpdjlaaFwRow
import Derived.Test.YtnaahaldkpdjlaaFwRep2
import Derived.Test.YtnaahaldkpdjlaaFwOps7
import Derived.KernelRfl
import Derived.Test.YtnaahaldkpdjlaaProg
set_option linter.unusedSimpArgs false
set_option linter.unusedVariables false
namespace Go.Fw
variable {P : Program} {h h' : AHeap}
def GT (k : Nat) (h : AHeap) (v : Value) (n : Nat) (cs : List Value) : Prop :=
 cs.length = n * k ∧ ((v = .slice none 0 0 ∧ n = 0) ∨
  ∃ id c cap, v = .slice (some ⟨id, 0, none⟩) n cap ∧ h.own id = some (.cells c) ∧ c.take (n * k) = cs ∧ (cap = UNK + k ∨ (n ≤ cap ∧ cap < 1000000000000 ∧ cap * k ≤ c.length)))
theorem GS.gt {k n : Nat} {v : Value} {cs : List Value} (g : GS k h v n cs) : GT k h v n cs := by
 obtain ⟨hl, g | ⟨id, c, cap, rfl, ho, ht, r⟩⟩ := g
 ·exact ⟨hl, .inl g⟩
 ·refine ⟨hl, .inr ⟨id, c, cap, rfl, ho, ht, ?_⟩⟩
  rcases r with r | ⟨rfl, r⟩
  ·exact .inl r
  ·refine .inr ⟨Nat.le_refl _, r, ?_⟩
   rw [← hl, ← ht, List.length_take]; omega
theorem GT.le {k n : Nat} {v : Value} {cs : List Value} (g : GT k h v n cs) (e : Le h h') : GT k h' v n cs := by
 obtain ⟨hl, g | ⟨id, c, cap, rfl, ho, r⟩⟩ := g
 ·exact ⟨hl, .inl g⟩
 ·exact ⟨hl, .inr ⟨id, c, cap, rfl, e.own _ _ ho, r⟩⟩
theorem GT.kept {k n : Nat} {v : Value} {cs : List Value} (g : GT k h v n cs) (hk : ∀ b o, blk v = some b → h.own b = some o → h'.own b = some o) : GT k h' v n cs := by
 obtain ⟨hl, q | ⟨i, c, cap, rfl, ho, rr⟩⟩ := g
 ·exact ⟨hl, .inl q⟩
 ·exact ⟨hl, .inr ⟨i, c, cap, rfl, hk i _ rfl ho, rr⟩⟩
theorem GT.put {k n : Nat} {v : Value} {cs : List Value} (g : GT k h v n cs) {id : Nat} (o : AObj) (hb : blk v ≠ some id) : GT k (h.put id o) v n cs :=
 g.kept fun b o' hv ho => by rw [AHeap.own_put_ne _ _ _ _ (fun e => hb (by rw [← e]; exact hv))]; exact ho
theorem GT.cs {k n : Nat} {v : Value} {cs : List Value} (g : GT k h v n cs) : CS k h v n cs := by
 obtain ⟨hl, ⟨rfl, rfl⟩ | ⟨id, c, cap, rfl, ho, rfl, hc⟩⟩ := g
 ·have : cs = [] := by simpa using hl
  subst this; exact .nil k h
 ·refine ⟨⟨_, cap, rfl, by simp⟩, hl, fun i x hx => ?_⟩
  rw [elemAddr_mk, aadd, read_own ho, Nat.zero_add]
  rw [List.getElem?_take] at hx
  split at hx
  ·exact hx
  ·cases hx
theorem GT.blk_own {k n : Nat} {v : Value} {cs : List Value} (g : GT k h v n cs) {b : Nat} (hb : blk v = some b) : ∃ c, h.own b = some (.cells c) := by
 obtain ⟨hl, ⟨rfl, rfl⟩ | ⟨i, c, cap, rfl, ho, rr⟩⟩ := g
 ·cases hb
 ·injection hb with hb; subst hb; exact ⟨c, ho⟩
theorem GT.append {t xt : TypeId} {k n n' : Nat} {v x : Value} {cs news : List Value} (ht : apT P t xt k = true) (g : GT k h v n cs) (hs : ∀ e, tsize P e = k → srcCells P h e x = some (n', news))
  (hc1 : cs.all (·.oneCell') = true) (h1 : news.all (·.oneCell') = true) (hnl : news.length = n' * k) (hb : n + n' ≤ 1000000000) :
  ∃ v' h', aAppend P h t xt v x = some (v', h') ∧ GT k h' v' (n + n') (cs ++ news) ∧ (∀ f, WF h → Le f h → Apart f v → Le f h' ∧ Apart f v') := by
 obtain ⟨hl, ⟨rfl, rfl⟩ | ⟨id, c, cap, rfl, ho, htk, hc⟩⟩ := g
 ·have hcs : cs = [] := by simpa using hl
  subst hcs
  obtain ⟨v', h', e1, e2, e3⟩ := GS.append ht (GS.nil k h) hs hc1 h1 hnl hb
  exact ⟨v', h', e1, e2.gt, e3⟩
 ·rcases hc with rfl | ⟨hc0, hc2, hc3⟩
  ·obtain ⟨v', h', e1, e2, e3⟩ := GS.append ht ⟨hl, .inr ⟨id, c, _, rfl, ho, htk, .inl rfl⟩⟩ hs hc1 h1 hnl hb
   exact ⟨v', h', e1, e2.gt, e3⟩
  ·unfold apT at ht
   split at ht
   ·rename_i e dx hu hx
    split at ht
    ·rename_i z hz
     simp only [Bool.and_eq_true, beq_iff_eq, decide_eq_true_eq] at ht
     obtain ⟨⟨⟨⟨⟨hz1, hz2⟩, hd⟩, hni⟩, hk⟩, hby⟩ := ht
     have hs := hs e hk
     have b1 : (n + n') * P.bytesOf e ≤ 140737488355328 := Nat.le_trans (Nat.mul_le_mul hb hby) (by decide)
     have b2 : n + n' ≤ 140737488355328 := by omega
     have hall : z.cells.size = tsize P e ∧ z.cells.toList.all (·.oneCell') ∧ (P.underlying e).isSome ∧ notIntD dx ∧ news.all (·.oneCell') ∧ (n + n') * P.bytesOf e ≤ 140737488355328 ∧ n + n' ≤ 140737488355328 ∧ news.length = n' * tsize P e :=
      ⟨hz1, hz2, hd, hni, h1, b1, b2, by rw [hk]; exact hnl⟩
     have hlen : (cs ++ news).length = (n + n') * k := by rw [List.length_append, hl, hnl, Nat.add_mul]
     have hno : ¬ UNK ≤ cap := Nat.not_le.2 (Nat.lt_of_lt_of_le hc2 (by decide))
     have hrd : Fw.readN h ⟨id, 0, none⟩ (n * k) = some cs := by
      have : n * k ≤ c.length := by have := hl; rw [← htk, List.length_take] at this; omega
      rw [readN_own ho (n * k) 0 (by omega)]; simp [htk]
     by_cases h0 : n' = 0
     ·subst h0
      have hnn : news = [] := by simpa using hnl
      subst hnn
      refine ⟨_, h, ?_, ⟨by simpa using hl, .inr ⟨id, c, cap, rfl, ho, by simpa using htk, .inr ⟨hc0, hc2, hc3⟩⟩⟩, fun f _ e a => ⟨e, a⟩⟩
      simp only [aAppend, hu, hx, hz, hs]
      rw [if_pos hall, if_pos trivial, if_pos hc0]; rfl
     ·by_cases hf : n + n' ≤ cap
      ·have hroom : n * k + news.length ≤ c.length := by
        rw [hnl, ← Nat.add_mul]; exact Nat.le_trans (Nat.mul_le_mul_right _ hf) hc3
       refine ⟨.slice (some ⟨id, 0, none⟩) (n + n') cap, h.put id (.cells (putCells c (n * k) news)), ?_, ⟨hlen, .inr ⟨id, _, cap, rfl, AHeap.own_put_eq _ _ _, ?_, .inr ⟨hf, hc2, by rw [putCells_length]; exact hc3⟩⟩⟩, fun f _ e a => ⟨e.put _ (a _ rfl), a⟩⟩
       ·simp only [aAppend, hu, hx, hz, hs]
        rw [if_pos hall, if_neg h0, if_neg hno, if_pos hf]
        simp only [ho, hk, Nat.zero_add, hroom, if_true]
       ·rw [putCells_eq _ _ _ hroom]
        rw [List.take_append_of_le_length (by simp [hnl]; rw [Nat.add_mul]; omega)]
        rw [List.take_of_length_le (by simp [hnl]; rw [Nat.add_mul]; omega), htk]
      ·refine ⟨_, _, ?_, ⟨hlen, .inr ⟨h.next, cs ++ news, UNK + k, rfl, AHeap.own_alloc_eq _ _, by rw [← hlen, List.take_length], .inl rfl⟩⟩, fun f hw e a => ⟨e.alloc hw _, ?_⟩⟩
       ·simp only [aAppend, hu, hx, hz, hs]
        rw [if_pos hall, if_neg h0, if_neg hno, if_neg hf]
        simp only [oldCells, hk, hrd, hc1, if_true]
       ·intro b hb; simp [blk] at hb; subst hb; exact e.next hw (Nat.le_refl _)
    ·cases ht
   ·cases ht
theorem GT.push {t : TypeId} {n id : Nat} {v x : Value} {cs : List Value} (ht : apT P t t 1 = true) (g : GT 1 h v n cs) (ho : h.own id = some (.cells [x])) (hc1 : cs.all (·.oneCell') = true) (h1 : x.oneCell' = true) (hb : n + 1 ≤ 1000000000) :
  ∃ v' h', aAppend P h t t v (.slice (some ⟨id, 0, none⟩) 1 1) = some (v', h') ∧ GT 1 h' v' (n + 1) (cs ++ [x]) ∧ (∀ f, WF h → Le f h → Apart f v → Le f h' ∧ Apart f v') :=
 GT.append ht g (fun e he => CS.src he (CS.own (k := 1) (off := 0) (n := 1) (cap := 1) ho (by simp))) hc1 (by simpa using h1) (by simp) hb
theorem GT.cut {k n : Nat} {v : Value} {cs : List Value} {t e : TypeId} {d : TypeDesc} (hu : P.underlying t = some (.slice e)) (hd : P.underlying e = some d) (hs : tsize P e = k) (g : GT k h v n cs) (m : Nat) (hm : m ≤ n) :
  ∃ v', aSlice P t v none (some (.int .i64 m)) none = some v' ∧ GT k h v' m (cs.take (m * k)) ∧ blk v' = blk v := by
 obtain ⟨hl, ⟨rfl, rfl⟩ | ⟨id, c, cap, rfl, ho, ht, hc⟩⟩ := g
 ·obtain rfl : m = 0 := by omega
  refine ⟨.slice none 0 0, ?_, ⟨by simp, .inl ⟨rfl, rfl⟩⟩, rfl⟩
  have : ¬ UNK ≤ 0 := by decide
  simp [aSlice, hu, hd, this, aBounds, aBound]
 ·have h2 : (0 : Int) ≤ m := by omega
  have hmk : m * k ≤ n * k := Nat.mul_le_mul_right _ hm
  have hck : cs.take (m * k) = c.take (m * k) := by rw [← ht, List.take_take, Nat.min_eq_left hmk]
  have hlk : (cs.take (m * k)).length = m * k := by rw [List.length_take, hl]; omega
  rcases hc with rfl | ⟨hc0, hc2, hc3⟩
  ·have h3 : (m : Int) ≤ n := by omega
   refine ⟨.slice (some ⟨id, 0, none⟩) m (UNK + k), ?_, ⟨hlk, .inr ⟨id, c, _, rfl, ho, hck.symm, .inl rfl⟩⟩, rfl⟩
   simp [aSlice, hu, hd, hs, aBounds, aBound, aadd, h2, h3]
  ·have h1 : ¬ UNK ≤ cap := Nat.not_le.2 (Nat.lt_of_lt_of_le hc2 (by decide))
   have h3 : (m : Int) ≤ cap := by omega
   refine ⟨.slice (some ⟨id, 0, none⟩) m cap, ?_, ⟨hlk, .inr ⟨id, c, _, rfl, ho, hck.symm, .inr ⟨by omega, hc2, hc3⟩⟩⟩, rfl⟩
   simp [aSlice, hu, h1, hc0, hd, aBounds, aBound, h2, h3, aadd]
end Go.Fw
namespace Go.Fw
variable {P : Program} {h h' : AHeap}
def GRL {α : Type} (R : AHeap → Value → α → Prop) (h : AHeap) (v : Value) (xs : List α) : Prop :=
 ∃ us : List Value, GS 1 h v us.length us ∧ us.length = xs.length ∧ us.all (·.oneCell') = true ∧ ∀ (i : Nat) x u, xs[i]? = some x → us[i]? = some u → R (rem (bl v) h) u x
section
variable {α : Type} {R : AHeap → Value → α → Prop} {v : Value} {xs : List α}
theorem GRL.rl (s : Stays R) (g : GRL R h v xs) : RL R h v xs := by
 obtain ⟨us, g1, g2, _, g4⟩ := g
 exact ⟨us, g1.cs.rs, g2, fun i x u hx hu => s _ _ _ _ (g4 i x u hx hu) (rem_le _ _)⟩
theorem GRL.le (s : Stays R) (g : GRL R h v xs) (e : Le h h') : GRL R h' v xs := by
 obtain ⟨us, g1, g2, g3, g4⟩ := g
 exact ⟨us, g1.le e, g2, g3, fun i x u hx hu => s _ _ _ _ (g4 i x u hx hu) e.mono_rem⟩
theorem GRL.nil (R : AHeap → Value → α → Prop) (h : AHeap) : GRL R h (.slice none 0 0) [] := ⟨[], GS.nil 1 h, rfl, rfl, fun i x u hx => by simp at hx⟩
theorem GRL.empty (R : AHeap → Value → α → Prop) {id : Nat} (ho : h.own id = some (.cells [])) : GRL R h (.slice (some ⟨id, 0, none⟩) 0 0) [] := ⟨[], GS.full ho rfl (by decide), rfl, rfl, fun i x u hx => by simp at hx⟩
theorem GRL.push (s : Stays R) {t : TypeId} (ht : apT P t t 1 = true) (g : GRL R h v xs) (hwf : WF h) {u : Value} {x : α} (hu : R (rem (bl v) h) u x) (u1 : u.oneCell' = true) (hn : xs.length ≤ 100000000) :
  ∃ h4 v' h5, h.alloc (.cells [u]) = h4 ∧ aAppend P h4 t t v (.slice (some ⟨h.next, 0, none⟩) 1 1) = some (v', h5) ∧ GRL R h5 v' (xs ++ [x]) ∧ Le h h4 ∧ WF h4 ∧
   (∀ f, Le f h → Apart f v → Le f h5 ∧ Apart f v') ∧ (∀ b o, h.own b = some o → blk v ≠ some b → h5.own b = some o ∧ blk v' ≠ some b) := by
 obtain ⟨us, g1, g2, g3, g4⟩ := g
 have l4 : Le h (h.alloc (.cells [u])) := (Le.refl h).alloc hwf _
 have w4 : WF (h.alloc (.cells [u])) := hwf.alloc _
 have o4 : (h.alloc (.cells [u])).own h.next = some (.cells [u]) := AHeap.own_alloc_eq _ _
 obtain ⟨v', h5, e5, g5, hf⟩ := GS.push (P := P) ht (g1.le l4) o4 g3 u1 (by omega)
 refine ⟨_, v', h5, rfl, e5, ⟨us ++ [u], ?_, by simp [g2], by simpa [u1] using g3, fun i y w hy hw => ?_⟩, l4, w4, fun f lf af => hf f w4 (lf.trans l4) af, fun b o ho hb => keep_own hf w4 (l4.own _ _ ho) hb⟩
 ·rw [List.length_append]; exact g5
 ·have hrem : Apart (rem (bl v) h) v := fun b hb => by rw [rem_own, if_pos (mem_bl.2 hb)]
  obtain ⟨l5, a5⟩ := hf _ w4 ((rem_le (bl v) h).trans l4) hrem
  have le : Le (rem (bl v) h) (rem (bl v') h5) := l5.of_none fun i hi => a5 i (mem_bl.1 hi)
  by_cases hi : i < us.length
  ·rw [List.getElem?_append_left hi] at hw
   rw [List.getElem?_append_left (by omega)] at hy
   exact s _ _ _ _ (g4 i y w hy hw) le
  ·have e : i = us.length := by
    have := (List.getElem?_eq_some_iff.1 hw).1
    simp at this; omega
   subst e
   rw [List.getElem?_append_right (by omega)] at hw
   rw [List.getElem?_append_right (by omega), g2] at hy
   simp at hw hy
   subst hw hy
   exact s _ _ _ _ hu le
def RMR (l : List Nat) (R : AHeap → Value → α → Prop) : AHeap → Value → α → Prop := fun h u x => R (rem l h) u x
theorem RMR.stays (s : Stays R) (l : List Nat) : Stays (RMR l R) := fun _ _ _ _ r e => s _ _ _ _ r e.mono_rem
theorem rem_comm (l l' : List Nat) (h : AHeap) : Le (rem l (rem l' h)) (rem l' (rem l h)) :=
 ⟨by simp [rem_ext], fun i o hi => by
  obtain ⟨h1, h2⟩ := rem_some.1 hi
  obtain ⟨h3, h4⟩ := rem_some.1 h1
  exact rem_some.2 ⟨rem_some.2 ⟨h3, h2⟩, h4⟩⟩
theorem GRL.remI (s : Stays R) {l : List Nat} (g : GRL R (rem l h) v xs) : GRL (RMR l R) h v xs := by
 obtain ⟨us, g1, g2, g3, g4⟩ := g
 exact ⟨us, g1.le (rem_le _ _), g2, g3, fun i x u hx hu => s _ _ _ _ (g4 i x u hx hu) (rem_comm _ _ _)⟩
theorem GRL.remE (s : Stays R) {l : List Nat} (g : GRL (RMR l R) h v xs) (hb : ∀ b, blk v = some b → b ∉ l) : GRL R (rem l h) v xs := by
 obtain ⟨us, g1, g2, g3, g4⟩ := g
 exact ⟨us, g1.to_rem hb, g2, g3, fun i x u hx hu => s _ _ _ _ (g4 i x u hx hu) (rem_comm _ _ _)⟩
theorem GRL.push_rem (s : Stays R) {l : List Nat} {t : TypeId} (ht : apT P t t 1 = true) (g : GRL R (rem l h) v xs) (hwf : WF h) {u : Value} {x : α} (hu : R (rem l (rem (bl v) h)) u x) (u1 : u.oneCell' = true) (hn : xs.length ≤ 100000000)
  (hb : ∀ b, blk v = some b → b ∉ l) (hl : ∀ b ∈ l, h.own b ≠ none) :
  ∃ h4 v' h5, h.alloc (.cells [u]) = h4 ∧ aAppend P h4 t t v (.slice (some ⟨h.next, 0, none⟩) 1 1) = some (v', h5) ∧ GRL R (rem l h5) v' (xs ++ [x]) ∧ Le h h4 ∧ WF h4 ∧
   (∀ f, Le f h → Apart f v → Le f h5 ∧ Apart f v') ∧ (∀ b o, h.own b = some o → blk v ≠ some b → h5.own b = some o ∧ blk v' ≠ some b) := by
 obtain ⟨h4, v', h5, e4, e5, g5, l4, w4, f5, k5⟩ := GRL.push (RMR.stays s l) ht (g.remI s) hwf (u := u) (x := x) hu u1 hn
 refine ⟨h4, v', h5, e4, e5, g5.remE s fun b hb' hm => ?_, l4, w4, f5, k5⟩
 cases ho : h.own b with
 | none => exact hl b hm ho
 | some o => exact (k5 b o ho fun hc => hb b hc hm).2 hb'
end
end Go.Fw
namespace Go.Fw
open Go.Proofs
set_option maxHeartbeats 1000000
set_option maxRecDepth 10000
theorem mixed : Try.prog.follows .mixedOrders = true := by kernel_rfl
theorem getElem?_of {α : Type} {l : List α} {i : Nat} (h : i < l.length) : l[i]? = some l[i] := List.getElem?_eq_getElem h
theorem getD_of {α : Type} {l : List α} {i : Nat} {d : α} (h : i < l.length) : l.getD i d = l[i] := by simp [List.getD, h]
def BoolIs (p : Prop) (v : Value) : Prop := ∃ b : Bool, v = .bool b ∧ (b = true ↔ p)
theorem BoolIs.t {p : Prop} (h : p) : BoolIs p (.bool true) := ⟨true, rfl, by simp [h]⟩
theorem BoolIs.f {p : Prop} (h : ¬ p) : BoolIs p (.bool false) := ⟨false, rfl, by simp [h]⟩
theorem lt_t {i n : Nat} (h : decide ((i : Int) < (n : Int)) = true) : i < n := by have := of_decide_eq_true h; omega
theorem lt_f {i n : Nat} (h : decide ((i : Int) < (n : Int)) = false) : n ≤ i := by have := of_decide_eq_false h; omega
theorem alloc_f {h : AHeap} (hw : WF h) (c : List Value) : ∃ h', h.alloc (.cells c) = h' ∧ Le h h' ∧ WF h' ∧ h'.own h.next = some (.cells c) := ⟨_, rfl, (Le.refl h).alloc hw _, hw.alloc _, AHeap.own_alloc_eq _ _⟩
theorem byOne2 {ι κ : Type} {F : ι → κ → Prop} {A : Prop} (Φ : ι → κ → Prop) (h1 : (∀ x y, F x y → Φ x y) → A) (h2 : ∀ x y, F x y → Φ x y) : A := h1 h2
theorem KN.gen2 {P : Program} {W0 : Base} {N : Nat} {ks : List Kt} {R : Exit → AFrame → AHeap → Prop} {fr : AFrame} {h : AHeap} (q : ∀ fr' h', fr' = fr → h' = h → KN P W0 N ks R fr' h') : KN P W0 N ks R fr h := q fr h rfl rfl
theorem GS.kept {k n : Nat} {h h' : AHeap} {v : Value} {cs : List Value} (g : GS k h v n cs) (hk : ∀ b o, blk v = some b → h.own b = some o → h'.own b = some o) : GS k h' v n cs := by
 obtain ⟨hl, q | ⟨i, c, cap, rfl, ho, rr⟩⟩ := g
 ·exact ⟨hl, .inl q⟩
 ·exact ⟨hl, .inr ⟨i, c, cap, rfl, hk i _ rfl ho, rr⟩⟩
theorem GS.put {k n : Nat} {h : AHeap} {v : Value} {cs : List Value} (g : GS k h v n cs) {id : Nat} (o : AObj) (hb : blk v ≠ some id) : GS k (h.put id o) v n cs :=
 g.kept fun b o' hv ho => by rw [AHeap.own_put_ne _ _ _ _ (fun e => hb (by rw [← e]; exact hv))]; exact ho
abbrev Pr := Int × Int
def cellsP (p : Pr) : List Value := [.int .i64 p.1, .int .i64 p.2]
def valP (p : Pr) : Value := .agg #[.int .i64 p.1, .int .i64 p.2]
def flatP (ps : List Pr) : List Value := ps.flatMap cellsP
theorem flatP_length (ps : List Pr) : (flatP ps).length = ps.length * 2 := by
 induction ps with
 | nil => rfl
 | cons p ps ih => simp [flatP, cellsP] at ih ⊢; omega
theorem flatP_one (ps : List Pr) : (flatP ps).all (·.oneCell') = true := by
 rw [List.all_eq_true]; intro x hx; rw [flatP, List.mem_flatMap] at hx
 obtain ⟨p, _, hx⟩ := hx
 simp [cellsP] at hx
 rcases hx with rfl | rfl <;> rfl
theorem flatP_append (a b : List Pr) : flatP (a ++ b) = flatP a ++ flatP b := by simp [flatP]
theorem flatP_get : ∀ (ps : List Pr) (i : Nat) (p : Pr), ps[i]? = some p → (flatP ps)[i * 2]? = some (.int .i64 p.1) ∧ (flatP ps)[i * 2 + 1]? = some (.int .i64 p.2)
 | [], i, p, h => by simp at h
 | q :: ps, 0, p, h => by simp at h; subst h; simp [flatP, cellsP]
 | q :: ps, i + 1, p, h => by
  have := flatP_get ps i p (by simpa using h)
  have e : flatP (q :: ps) = .int .i64 q.1 :: .int .i64 q.2 :: flatP ps := rfl
  rw [e, show (i + 1) * 2 = (i * 2 + 1) + 1 by omega]
  simpa using this
def PR (h : AHeap) (v : Value) (ps : List Pr) : Prop := CS 2 h v ps.length (flatP ps)
def pAddr (v : Value) (i : Nat) : Addr := elemAddr v (i * 2)
theorem PR.le {h h' : AHeap} {v : Value} {ps : List Pr} (r : PR h v ps) (e : Le h h') : PR h' v ps := CS.le r e
theorem PR.nil (h : AHeap) : PR h (.slice none 0 0) [] := CS.nil 2 h
theorem ts42 : tsize Try.prog 61 = 2 := by kernel_rfl
theorem ts3 : tsize Try.prog 3 = 1 := by kernel_rfl
theorem PR.len {h : AHeap} {v : Value} {ps : List Pr} (r : PR h v ps) (g : AHeap) : aLen Try.prog g 22 v = some (.int .i64 ps.length) := by
 obtain ⟨a, c, rfl, _⟩ := r.sl; simp [aLen, Try.underlying22]
theorem PR.addr {h : AHeap} {v : Value} {ps : List Pr} (r : PR h v ps) {k : IntKind} (i : Nat) (hi : i < ps.length) : aIndexAddr Try.prog 22 v (.int k i) = some (.pointer (some (pAddr v i))) := by
 obtain ⟨a, c, rfl, hs⟩ := r.sl
 obtain ⟨a, rfl⟩ := Option.isSome_iff_exists.1 (hs (by omega))
 have h1 : (i : Int) < (ps.length : Int) := by omega
 simp [aIndexAddr, Try.underlying22, Try.underlying61, h1, pAddr, elemAddr, ts42]
theorem pa0 (a : Addr) : aIndexAddr Try.prog 61 (.pointer (some a)) (.int .i64 0) = some (.pointer (some (aadd a 0))) := by
 simp [aIndexAddr, Try.underlying61, Try.underlying3]
theorem pa1 (a : Addr) : aIndexAddr Try.prog 61 (.pointer (some a)) (.int .i64 1) = some (.pointer (some (aadd a 1))) := by
 simp [aIndexAddr, Try.underlying61, Try.underlying3, ts3]
theorem PR.get {h : AHeap} {v : Value} {ps : List Pr} (r : PR h v ps) {i : Nat} {p : Pr} (hp : ps[i]? = some p) :
  h.read (aadd (pAddr v i) 0) = some (.int .i64 p.1) ∧ h.read (aadd (pAddr v i) 1) = some (.int .i64 p.2) := by
 obtain ⟨f1, f2⟩ := flatP_get ps i p hp
 have g1 := CS.get r _ _ f1
 have g2 := CS.get r _ _ f2
 obtain ⟨a, c, rfl, hs⟩ := r.sl
 have hi := (List.getElem?_eq_some_iff.1 hp).1
 obtain ⟨a, rfl⟩ := Option.isSome_iff_exists.1 (hs (by omega))
 simp only [pAddr, elemAddr_mk, aadd] at *
 exact ⟨by simpa using g1, by simpa [Nat.add_assoc] using g2⟩
theorem PR.load {h : AHeap} {v : Value} {ps : List Pr} (r : PR h v ps) {i : Nat} {p : Pr} (hp : ps[i]? = some p) : aload Try.prog h 61 (pAddr v i) = some (valP p) := by
 obtain ⟨g1, g2⟩ := r.get hp
 have hrd : readN h (pAddr v i) 2 = some [.int .i64 p.1, .int .i64 p.2] := by
  refine readN_get [.int .i64 p.1, .int .i64 p.2] _ fun j x hx => ?_
  match j with
  | 0 => simp at hx; subst hx; exact g1
  | 1 => simp at hx; subst hx; exact g2
  | j + 2 => simp at hx
 have hd : isAggD (.array 2 3) = true := rfl
 simp only [aload, Try.underlying61, hd, cond_true, ts42, hrd, valP]
theorem alloc42 (h : AHeap) : aAlloc Try.prog h 61 = some (.pointer (some ⟨h.next, 0, none⟩), h.alloc (.cells [.int .i64 0, .int .i64 0])) := rfl
theorem store42 {h : AHeap} {w : Nat} {x y : Value} {p : Pr} (ho : h.own w = some (.cells [x, y])) : aStore Try.prog h 61 (.pointer (some ⟨w, 0, none⟩)) (valP p) = some (h.put w (.cells (cellsP p))) := by
 simp [aStore, ho, valP, Value.cells, ts42, putCells, cellsP, Try.underlying61]
 exact ⟨rfl, rfl⟩
theorem box42 (h : AHeap) (p : Pr) : aBox h (valP p) = some (.pointer (some ⟨h.next, 0, none⟩), h.alloc (.cells (cellsP p))) := rfl
theorem own0 {h : AHeap} {w : Nat} {p : Pr} (ho : h.own w = some (.cells (cellsP p))) : aload Try.prog h 3 ⟨w, 0, none⟩ = some (.int .i64 p.1) := by rw [aload_one Try.underlying3 rfl ho]; rfl
theorem own1 {h : AHeap} {w : Nat} {p : Pr} (ho : h.own w = some (.cells (cellsP p))) : aload Try.prog h 3 ⟨w, 1, none⟩ = some (.int .i64 p.2) := by rw [aload_one Try.underlying3 rfl ho]; rfl
theorem own42 {h : AHeap} {w : Nat} {p : Pr} (ho : h.own w = some (.cells (cellsP p))) : aload Try.prog h 61 ⟨w, 0, none⟩ = some (valP p) := by
 rw [aload_own Try.underlying61 rfl ts42 ho (by simp [cellsP])]; rfl
theorem new42 {h : AHeap} (hw : WF h) (p : Pr) : ∃ h1 h2, aAlloc Try.prog h 61 = some (.pointer (some ⟨h.next, 0, none⟩), h1) ∧ aStore Try.prog h1 61 (.pointer (some ⟨h.next, 0, none⟩)) (valP p) = some h2 ∧ Le h h2 ∧ WF h2 ∧ h2.own h.next = some (.cells (cellsP p)) := by
 obtain ⟨h1, e1, l1, w1, o1⟩ := alloc_f hw [.int .i64 0, .int .i64 0]
 have nw : h.own h.next = none := (Le.refl h).next hw (Nat.le_refl _)
 exact ⟨h1, _, by rw [alloc42, e1], store42 o1, l1.put _ nw, w1.put _ (w1.lt o1), AHeap.own_put_eq _ _ _⟩
structure GM where
 n : Int
 es : List Pr
structure GR (h : AHeap) (v : Value) (G : GM) : Prop where
 ex : ∃ ev, v = .agg #[.int .i64 G.n, ev] ∧ PR h ev G.es
theorem GR.le {h h' : AHeap} {v : Value} {G : GM} (r : GR h v G) (e : Le h h') : GR h' v G := by
 obtain ⟨ev, e1, e2⟩ := r.ex; exact ⟨ev, e1, e2.le e⟩
theorem fg0 (a : Addr) : aField Try.prog 24 (.pointer (some a)) 0 = some (.pointer (some (aadd a 0))) := rfl
theorem fg1 (a : Addr) : aField Try.prog 24 (.pointer (some a)) 1 = some (.pointer (some (aadd a 1))) := rfl
theorem boxG {h : AHeap} (hwf : WF h) {n : Int} {ev : Value} {es : List Pr} (r : PR h ev es) :
  ∃ h1, aBox h (.agg #[.int .i64 n, ev]) = some (.pointer (some ⟨h.next, 0, none⟩), h1) ∧ Le h h1 ∧ WF h1 ∧ h1.own h.next = some (.cells [.int .i64 n, ev]) ∧
   ∀ g, Le h1 g → aload Try.prog g 24 ⟨h.next, 0, none⟩ = some (.agg #[.int .i64 n, ev]) ∧ aload Try.prog g 3 ⟨h.next, 0, none⟩ = some (.int .i64 n) ∧ aload Try.prog g 22 ⟨h.next, 1, none⟩ = some ev := by
 obtain ⟨h1, e1, l1, w1, o1⟩ := alloc_f hwf [.int .i64 n, ev]
 have h2 := r.sl.one
 refine ⟨h1, ?_, l1, w1, o1, fun g e => ⟨?_, aload_one Try.underlying3 rfl (e.own _ _ o1), aload_one Try.underlying22 rfl (e.own _ _ o1)⟩⟩
 ·rw [← e1]
  obtain ⟨_, _, rfl, _⟩ := r.sl
  rfl
 ·rw [aload_own Try.underlying24 rfl (by kernel_rfl : tsize Try.prog 24 = 2) (e.own _ _ o1) (by simp)]; rfl
theorem isSl.cells {v : Value} {n : Nat} (h : isSl v n) : v.cells = #[v] := by obtain ⟨a, c, rfl, _⟩ := h; rfl
end Go.Fw
