/- A text of the proof. -/
import Derived.Test.YtnaahaldkpdjlaaFwRep3
import Derived.Test.YtnaahaldkpdjlaaFwRow
import Derived.Test.YtnaahaldkpdjlaaFwVC
import Derived.Test.YtnaahaldkpdjlaaFwRep
import Derived.Test.YtnaahaldkpdjlaaFwRep2
import Derived.Test.YtnaahaldkpdjlaaFwOps7
import Derived.KernelRfl
import Derived.Test.YtnaahaldkpdjlaaProg
set_option linter.unusedSimpArgs false
set_option linter.unusedVariables false
namespace Go.Fw
variable {P : Program} {W0 : Base} {h : AHeap}
theorem Le.to_kill {f : AHeap} {R : Nat} (l : Le f h) (hn : f.own R = Option.none) : Le f (h.kill R) :=
 ⟨l.ext, fun i o hi => by
  by_cases e : i = R
  ·subst e; rw [hn] at hi; cases hi
  ·rw [AHeap.own_kill_ne _ _ _ e]; exact l.own i o hi⟩
end Go.Fw
set_option linter.defProp false
namespace Go.Fw
def kA := @cond_true
def kB := @cond_false
def kC := @Trie.get_set
def kD := @List.getElem?_toArray
def kE := @List.append_eq
def kF := @List.cons_append
def kG := @List.nil_append
def kH := @List.getElem?_cons_zero
def kI := @List.getElem?_cons_succ
def kJ := @Option.bind_some
def kK := @beq_self_eq_true
def kL := @List.filter_nil
def kM := @List.filter_cons
def kN := @List.contains_cons
def kO := @List.contains_nil
def kS1 := And.intro @beq_dec (And.intro @fst_mk (And.intro @snd_mk (And.intro @VK_skip (And.intro @VK_ret (And.intro @VK_exit (And.intro @VK_seq (And.intro @VK_block (And.intro @VK_region (And.intro @VK_draw (And.intro @VK_cond (And.intro @KCond_true (And.intro @KCond_false (And.intro @VK_loop (And.intro @KN_nil (And.intro @KN_seq (And.intro @KN_blk (And.intro @KX_ret_nil (And.intro @KX_ret_seq (And.intro @KX_ret_blk (And.intro @KX_exit_nil (And.intro @KX_exit_seq (And.intro @KX_exit_blk (And.intro @KE_normal (And.intro @KE_ret (And.intro @KE_exit (And.intro @KO_nil (And.intro @KO_cons (And.intro @KO_app_cons (And.intro @KO_app_nil (And.intro @KO1_true (And.intro @KO1_false (And.intro @KO2_true (And.intro @KO2_false (And.intro @KO3_some (And.intro @KO4_some (And.intro @loopQ_ret (And.intro @loopQ_exit (And.intro @Nat.one_ne_zero (And.intro @Nat.zero_ne_one (And.intro @Bool.not_true (And.intro @Bool.not_false (And.intro @awrap_u8 (And.intro @Bool.true_beq (And.intro @Bool.false_beq (And.intro @beq_true (And.intro @beq_false (And.intro @decide_true (And.intro @decide_false (And.intro @Bool.not_not (And.intro @Bool.and_true (And.intro @Bool.true_and (And.intro @Bool.and_false (@Bool.false_and)))))))))))))))))))))))))))))))))))))))))))))))))))))
def kJ1 := And.intro @beq_dec (And.intro @fst_mk (And.intro @snd_mk (And.intro @VK_skip (And.intro @VK_ret (And.intro @VK_exit (And.intro @VK_seq (And.intro @VK_block (And.intro @VK_region (And.intro @VK_draw (And.intro @VK_cond (And.intro @KCond_true (And.intro @KCond_false (And.intro @VK_loop (And.intro @KN_nil (And.intro @KN_blk (And.intro @KX_ret_nil (And.intro @KX_ret_seq (And.intro @KX_ret_blk (And.intro @KX_exit_nil (And.intro @KX_exit_seq (And.intro @KX_exit_blk (And.intro @KE_normal (And.intro @KE_ret (And.intro @KE_exit (And.intro @KO_nil (And.intro @KO_cons (And.intro @KO_app_cons (And.intro @KO_app_nil (And.intro @KO1_true (And.intro @KO1_false (And.intro @KO2_true (And.intro @KO2_false (And.intro @KO3_some (And.intro @KO4_some (And.intro @loopQ_ret (And.intro @loopQ_exit (And.intro @Nat.one_ne_zero (And.intro @Nat.zero_ne_one (And.intro @Bool.not_true (And.intro @Bool.not_false (And.intro @awrap_u8 (And.intro @Bool.true_beq (And.intro @Bool.false_beq (And.intro @beq_true (And.intro @beq_false (And.intro @decide_true (And.intro @decide_false (And.intro @Bool.not_not (And.intro @Bool.and_true (And.intro @Bool.true_and (And.intro @Bool.and_false (@Bool.false_and))))))))))))))))))))))))))))))))))))))))))))))))))))
def kD1 := And.intro @Bool.or_self (And.intro @Bool.false_eq_true (And.intro @KD_done (And.intro @KD_no (And.intro @KD_fl (And.intro @KF1_some (And.intro @KF2_true (And.intro @KF2_false (And.intro @KF3_some (And.intro @KF4_some (And.intro @KD_ch (And.intro @KG1_some (And.intro @KG2_true (And.intro @KG2_false (And.intro @KG3_true (And.intro @KG3_false (And.intro @KG4_some (And.intro @KG5_some (And.intro @Holds_eq (And.intro @H1_some (And.intro @H2_true (And.intro @H2_false (And.intro @H3_some (And.intro @HD_some (And.intro @HD_none (And.intro @Bool.or_false (And.intro @Bool.false_or (And.intro @Bool.true_or (And.intro @Bool.or_true (And.intro @true_and (@and_true))))))))))))))))))))))))))))))
end Go.Fw
namespace Go.Fw
variable {P : Program} {h h' : AHeap}
def GT (k : Nat) (h : AHeap) (v : Value) (n : Nat) (cs : List Value) : Prop :=
 cs.length = n * k ∧ ((v = .slice none 0 0 ∧ n = 0) ∨
  ∃ id c cap, v = .slice (some ⟨id, 0, none⟩) n cap ∧ h.own id = some (.cells c) ∧ c.take (n * k) = cs ∧ (cap = UNK + k ∨ (n ≤ cap ∧ cap < 1000000000000 ∧ cap * k ≤ c.length)))
theorem GS.gt {k n : Nat} {v : Value} {cs : List Value} (g : GS k h v n cs) : GT k h v n cs := by
 obtain ⟨hl, g | ⟨id, c, cap, rfl, ho, ht, r⟩⟩ := g
 ·exact ⟨hl, .inl g⟩
 ·refine ⟨hl, .inr ⟨id, c, cap, rfl, ho, ht, ?_⟩⟩
  rcases r with r | ⟨rfl, r⟩
  ·exact .inl r
  ·refine .inr ⟨Nat.le_refl _, r, ?_⟩
   rw [← hl, ← ht, List.length_take]; omega
theorem GT.le {k n : Nat} {v : Value} {cs : List Value} (g : GT k h v n cs) (e : Le h h') : GT k h' v n cs := by
 obtain ⟨hl, g | ⟨id, c, cap, rfl, ho, r⟩⟩ := g
 ·exact ⟨hl, .inl g⟩
 ·exact ⟨hl, .inr ⟨id, c, cap, rfl, e.own _ _ ho, r⟩⟩
theorem GT.kept {k n : Nat} {v : Value} {cs : List Value} (g : GT k h v n cs) (hk : ∀ b o, blk v = some b → h.own b = some o → h'.own b = some o) : GT k h' v n cs := by
 obtain ⟨hl, q | ⟨i, c, cap, rfl, ho, rr⟩⟩ := g
 ·exact ⟨hl, .inl q⟩
 ·exact ⟨hl, .inr ⟨i, c, cap, rfl, hk i _ rfl ho, rr⟩⟩
theorem GT.put {k n : Nat} {v : Value} {cs : List Value} (g : GT k h v n cs) {id : Nat} (o : AObj) (hb : blk v ≠ some id) : GT k (h.put id o) v n cs :=
 g.kept fun b o' hv ho => by rw [AHeap.own_put_ne _ _ _ _ (fun e => hb (by rw [← e]; exact hv))]; exact ho
theorem GT.cs {k n : Nat} {v : Value} {cs : List Value} (g : GT k h v n cs) : CS k h v n cs := by
 obtain ⟨hl, ⟨rfl, rfl⟩ | ⟨id, c, cap, rfl, ho, rfl, hc⟩⟩ := g
 ·have : cs = [] := by simpa using hl
  subst this; exact .nil k h
 ·refine ⟨⟨_, cap, rfl, by simp⟩, hl, fun i x hx => ?_⟩
  rw [elemAddr_mk, aadd, read_own ho, Nat.zero_add]
  rw [List.getElem?_take] at hx
  split at hx
  ·exact hx
  ·cases hx
theorem GT.blk_own {k n : Nat} {v : Value} {cs : List Value} (g : GT k h v n cs) {b : Nat} (hb : blk v = some b) : ∃ c, h.own b = some (.cells c) := by
 obtain ⟨hl, ⟨rfl, rfl⟩ | ⟨i, c, cap, rfl, ho, rr⟩⟩ := g
 ·cases hb
 ·injection hb with hb; subst hb; exact ⟨c, ho⟩
theorem GT.append {t xt : TypeId} {k n n' : Nat} {v x : Value} {cs news : List Value} (ht : apT P t xt k = true) (g : GT k h v n cs) (hs : ∀ e, tsize P e = k → srcCells P h e x = some (n', news))
  (hc1 : cs.all (·.oneCell') = true) (h1 : news.all (·.oneCell') = true) (hnl : news.length = n' * k) (hb : n + n' ≤ 1000000000) :
  ∃ v' h', aAppend P h t xt v x = some (v', h') ∧ GT k h' v' (n + n') (cs ++ news) ∧ (∀ f, WF h → Le f h → Apart f v → Le f h' ∧ Apart f v') := by
 obtain ⟨hl, ⟨rfl, rfl⟩ | ⟨id, c, cap, rfl, ho, htk, hc⟩⟩ := g
 ·have hcs : cs = [] := by simpa using hl
  subst hcs
  obtain ⟨v', h', e1, e2, e3⟩ := GS.append ht (GS.nil k h) hs hc1 h1 hnl hb
  exact ⟨v', h', e1, e2.gt, e3⟩
 ·rcases hc with rfl | ⟨hc0, hc2, hc3⟩
  ·obtain ⟨v', h', e1, e2, e3⟩ := GS.append ht ⟨hl, .inr ⟨id, c, _, rfl, ho, htk, .inl rfl⟩⟩ hs hc1 h1 hnl hb
   exact ⟨v', h', e1, e2.gt, e3⟩
  ·unfold apT at ht
   split at ht
   ·rename_i e dx hu hx
    split at ht
    ·rename_i z hz
     simp only [Bool.and_eq_true, beq_iff_eq, decide_eq_true_eq] at ht
     obtain ⟨⟨⟨⟨⟨hz1, hz2⟩, hd⟩, hni⟩, hk⟩, hby⟩ := ht
     have hs := hs e hk
     have b1 : (n + n') * P.bytesOf e ≤ 140737488355328 := Nat.le_trans (Nat.mul_le_mul hb hby) (by decide)
     have b2 : n + n' ≤ 140737488355328 := by omega
     have hall : z.cells.size = tsize P e ∧ z.cells.toList.all (·.oneCell') ∧ (P.underlying e).isSome ∧ notIntD dx ∧ news.all (·.oneCell') ∧ (n + n') * P.bytesOf e ≤ 140737488355328 ∧ n + n' ≤ 140737488355328 ∧ news.length = n' * tsize P e :=
      ⟨hz1, hz2, hd, hni, h1, b1, b2, by rw [hk]; exact hnl⟩
     have hlen : (cs ++ news).length = (n + n') * k := by rw [List.length_append, hl, hnl, Nat.add_mul]
     have hno : ¬ UNK ≤ cap := Nat.not_le.2 (Nat.lt_of_lt_of_le hc2 (by decide))
     have hrd : Fw.readN h ⟨id, 0, none⟩ (n * k) = some cs := by
      have : n * k ≤ c.length := by have := hl; rw [← htk, List.length_take] at this; omega
      rw [readN_own ho (n * k) 0 (by omega)]; simp [htk]
     by_cases h0 : n' = 0
     ·subst h0
      have hnn : news = [] := by simpa using hnl
      subst hnn
      refine ⟨_, h, ?_, ⟨by simpa using hl, .inr ⟨id, c, cap, rfl, ho, by simpa using htk, .inr ⟨hc0, hc2, hc3⟩⟩⟩, fun f _ e a => ⟨e, a⟩⟩
      simp only [aAppend, hu, hx, hz, hs]
      rw [if_pos hall, if_pos trivial, if_pos hc0]; rfl
     ·by_cases hf : n + n' ≤ cap
      ·have hroom : n * k + news.length ≤ c.length := by
        rw [hnl, ← Nat.add_mul]; exact Nat.le_trans (Nat.mul_le_mul_right _ hf) hc3
       refine ⟨.slice (some ⟨id, 0, none⟩) (n + n') cap, h.put id (.cells (putCells c (n * k) news)), ?_, ⟨hlen, .inr ⟨id, _, cap, rfl, AHeap.own_put_eq _ _ _, ?_, .inr ⟨hf, hc2, by rw [putCells_length]; exact hc3⟩⟩⟩, fun f _ e a => ⟨e.put _ (a _ rfl), a⟩⟩
       ·simp only [aAppend, hu, hx, hz, hs]
        rw [if_pos hall, if_neg h0, if_neg hno, if_pos hf]
        simp only [ho, hk, Nat.zero_add, hroom, if_true]
       ·rw [putCells_eq _ _ _ hroom]
        rw [List.take_append_of_le_length (by simp [hnl]; rw [Nat.add_mul]; omega)]
        rw [List.take_of_length_le (by simp [hnl]; rw [Nat.add_mul]; omega), htk]
      ·refine ⟨_, _, ?_, ⟨hlen, .inr ⟨h.next, cs ++ news, UNK + k, rfl, AHeap.own_alloc_eq _ _, by rw [← hlen, List.take_length], .inl rfl⟩⟩, fun f hw e a => ⟨e.alloc hw _, ?_⟩⟩
       ·simp only [aAppend, hu, hx, hz, hs]
        rw [if_pos hall, if_neg h0, if_neg hno, if_neg hf]
        simp only [oldCells, hk, hrd, hc1, if_true]
       ·intro b hb; simp [blk] at hb; subst hb; exact e.next hw (Nat.le_refl _)
    ·cases ht
   ·cases ht
end Go.Fw
namespace Go.Fw
variable {P : Program} {h h' : AHeap}
def GRL {α : Type} (R : AHeap → Value → α → Prop) (h : AHeap) (v : Value) (xs : List α) : Prop :=
 ∃ us : List Value, GS 1 h v us.length us ∧ us.length = xs.length ∧ us.all (·.oneCell') = true ∧ ∀ (i : Nat) x u, xs[i]? = some x → us[i]? = some u → R (rem (bl v) h) u x
section
variable {α : Type} {R : AHeap → Value → α → Prop} {v : Value} {xs : List α}
theorem GRL.rl (s : Stays R) (g : GRL R h v xs) : RL R h v xs := by
 obtain ⟨us, g1, g2, _, g4⟩ := g
 exact ⟨us, g1.cs.rs, g2, fun i x u hx hu => s _ _ _ _ (g4 i x u hx hu) (rem_le _ _)⟩
theorem GRL.le (s : Stays R) (g : GRL R h v xs) (e : Le h h') : GRL R h' v xs := by
 obtain ⟨us, g1, g2, g3, g4⟩ := g
 exact ⟨us, g1.le e, g2, g3, fun i x u hx hu => s _ _ _ _ (g4 i x u hx hu) e.mono_rem⟩
theorem GRL.mono (s : Stays R) (g : GRL R h v xs) (e : Le (rem (bl v) h) (rem (bl v) h')) (hk : ∀ b o, blk v = some b → h.own b = some o → h'.own b = some o) : GRL R h' v xs := by
 obtain ⟨us, g1, g2, g3, g4⟩ := g
 refine ⟨us, ?_, g2, g3, fun i x u hx hu => s _ _ _ _ (g4 i x u hx hu) e⟩
 obtain ⟨hl, q | ⟨i, c, cap, rfl, ho, rr⟩⟩ := g1
 ·exact ⟨hl, .inl q⟩
 ·exact ⟨hl, .inr ⟨i, c, cap, rfl, hk i _ rfl ho, rr⟩⟩
theorem GRL.nil (R : AHeap → Value → α → Prop) (h : AHeap) : GRL R h (.slice none 0 0) [] := ⟨[], GS.nil 1 h, rfl, rfl, fun i x u hx => by simp at hx⟩
end
end Go.Fw
namespace Go.Fw
open Go.Proofs
set_option maxHeartbeats 1000000
set_option maxRecDepth 10000
theorem mixed : Try.prog.follows .mixedOrders = true := by kernel_rfl
theorem getElem?_of {α : Type} {l : List α} {i : Nat} (h : i < l.length) : l[i]? = some l[i] := List.getElem?_eq_getElem h
theorem getD_of {α : Type} {l : List α} {i : Nat} {d : α} (h : i < l.length) : l.getD i d = l[i] := by simp [List.getD, h]
def BoolIs (p : Prop) (v : Value) : Prop := ∃ b : Bool, v = .bool b ∧ (b = true ↔ p)
theorem BoolIs.t {p : Prop} (h : p) : BoolIs p (.bool true) := ⟨true, rfl, by simp [h]⟩
theorem BoolIs.f {p : Prop} (h : ¬ p) : BoolIs p (.bool false) := ⟨false, rfl, by simp [h]⟩
theorem lt_t {i n : Nat} (h : decide ((i : Int) < (n : Int)) = true) : i < n := by have := of_decide_eq_true h; omega
theorem lt_f {i n : Nat} (h : decide ((i : Int) < (n : Int)) = false) : n ≤ i := by have := of_decide_eq_false h; omega
theorem alloc_f {h : AHeap} (hw : WF h) (c : List Value) : ∃ h', h.alloc (.cells c) = h' ∧ Le h h' ∧ WF h' ∧ h'.own h.next = some (.cells c) := ⟨_, rfl, (Le.refl h).alloc hw _, hw.alloc _, AHeap.own_alloc_eq _ _⟩
theorem byOne2 {ι κ : Type} {F : ι → κ → Prop} {A : Prop} (Φ : ι → κ → Prop) (h1 : (∀ x y, F x y → Φ x y) → A) (h2 : ∀ x y, F x y → Φ x y) : A := h1 h2
theorem KN.gen2 {P : Program} {W0 : Base} {N : Nat} {ks : List Kt} {R : Exit → AFrame → AHeap → Prop} {fr : AFrame} {h : AHeap} (q : ∀ fr' h', fr' = fr → h' = h → KN P W0 N ks R fr' h') : KN P W0 N ks R fr h := q fr h rfl rfl
theorem GS.kept {k n : Nat} {h h' : AHeap} {v : Value} {cs : List Value} (g : GS k h v n cs) (hk : ∀ b o, blk v = some b → h.own b = some o → h'.own b = some o) : GS k h' v n cs := by
 obtain ⟨hl, q | ⟨i, c, cap, rfl, ho, rr⟩⟩ := g
 ·exact ⟨hl, .inl q⟩
 ·exact ⟨hl, .inr ⟨i, c, cap, rfl, hk i _ rfl ho, rr⟩⟩
theorem GS.put {k n : Nat} {h : AHeap} {v : Value} {cs : List Value} (g : GS k h v n cs) {id : Nat} (o : AObj) (hb : blk v ≠ some id) : GS k (h.put id o) v n cs :=
 g.kept fun b o' hv ho => by rw [AHeap.own_put_ne _ _ _ _ (fun e => hb (by rw [← e]; exact hv))]; exact ho
abbrev Pr := Int × Int
def cellsP (p : Pr) : List Value := [.int .i64 p.1, .int .i64 p.2]
def valP (p : Pr) : Value := .agg #[.int .i64 p.1, .int .i64 p.2]
def flatP (ps : List Pr) : List Value := ps.flatMap cellsP
theorem flatP_length (ps : List Pr) : (flatP ps).length = ps.length * 2 := by
 induction ps with
 | nil => rfl
 | cons p ps ih => simp [flatP, cellsP] at ih ⊢; omega
theorem flatP_one (ps : List Pr) : (flatP ps).all (·.oneCell') = true := by
 rw [List.all_eq_true]; intro x hx; rw [flatP, List.mem_flatMap] at hx
 obtain ⟨p, _, hx⟩ := hx
 simp [cellsP] at hx
 rcases hx with rfl | rfl <;> rfl
theorem flatP_append (a b : List Pr) : flatP (a ++ b) = flatP a ++ flatP b := by simp [flatP]
theorem flatP_get : ∀ (ps : List Pr) (i : Nat) (p : Pr), ps[i]? = some p → (flatP ps)[i * 2]? = some (.int .i64 p.1) ∧ (flatP ps)[i * 2 + 1]? = some (.int .i64 p.2)
 | [], i, p, h => by simp at h
 | q :: ps, 0, p, h => by simp at h; subst h; simp [flatP, cellsP]
 | q :: ps, i + 1, p, h => by
  have := flatP_get ps i p (by simpa using h)
  have e : flatP (q :: ps) = .int .i64 q.1 :: .int .i64 q.2 :: flatP ps := rfl
  rw [e, show (i + 1) * 2 = (i * 2 + 1) + 1 by omega]
  simpa using this
def PR (h : AHeap) (v : Value) (ps : List Pr) : Prop := CS 2 h v ps.length (flatP ps)
def pAddr (v : Value) (i : Nat) : Addr := elemAddr v (i * 2)
theorem PR.le {h h' : AHeap} {v : Value} {ps : List Pr} (r : PR h v ps) (e : Le h h') : PR h' v ps := CS.le r e
theorem PR.nil (h : AHeap) : PR h (.slice none 0 0) [] := CS.nil 2 h
theorem ts42 : tsize Try.prog 61 = 2 := by kernel_rfl
theorem ts3 : tsize Try.prog 3 = 1 := by kernel_rfl
theorem PR.len {h : AHeap} {v : Value} {ps : List Pr} (r : PR h v ps) (g : AHeap) : aLen Try.prog g 22 v = some (.int .i64 ps.length) := by
 obtain ⟨a, c, rfl, _⟩ := r.sl; simp [aLen, Try.underlying22]
theorem PR.addr {h : AHeap} {v : Value} {ps : List Pr} (r : PR h v ps) {k : IntKind} (i : Nat) (hi : i < ps.length) : aIndexAddr Try.prog 22 v (.int k i) = some (.pointer (some (pAddr v i))) := by
 obtain ⟨a, c, rfl, hs⟩ := r.sl
 obtain ⟨a, rfl⟩ := Option.isSome_iff_exists.1 (hs (by omega))
 have h1 : (i : Int) < (ps.length : Int) := by omega
 simp [aIndexAddr, Try.underlying22, Try.underlying61, h1, pAddr, elemAddr, ts42]
theorem pa0 (a : Addr) : aIndexAddr Try.prog 61 (.pointer (some a)) (.int .i64 0) = some (.pointer (some (aadd a 0))) := by
 simp [aIndexAddr, Try.underlying61, Try.underlying3]
theorem pa1 (a : Addr) : aIndexAddr Try.prog 61 (.pointer (some a)) (.int .i64 1) = some (.pointer (some (aadd a 1))) := by
 simp [aIndexAddr, Try.underlying61, Try.underlying3, ts3]
theorem PR.get {h : AHeap} {v : Value} {ps : List Pr} (r : PR h v ps) {i : Nat} {p : Pr} (hp : ps[i]? = some p) :
  h.read (aadd (pAddr v i) 0) = some (.int .i64 p.1) ∧ h.read (aadd (pAddr v i) 1) = some (.int .i64 p.2) := by
 obtain ⟨f1, f2⟩ := flatP_get ps i p hp
 have g1 := CS.get r _ _ f1
 have g2 := CS.get r _ _ f2
 obtain ⟨a, c, rfl, hs⟩ := r.sl
 have hi := (List.getElem?_eq_some_iff.1 hp).1
 obtain ⟨a, rfl⟩ := Option.isSome_iff_exists.1 (hs (by omega))
 simp only [pAddr, elemAddr_mk, aadd] at *
 exact ⟨by simpa using g1, by simpa [Nat.add_assoc] using g2⟩
theorem PR.load {h : AHeap} {v : Value} {ps : List Pr} (r : PR h v ps) {i : Nat} {p : Pr} (hp : ps[i]? = some p) : aload Try.prog h 61 (pAddr v i) = some (valP p) := by
 obtain ⟨g1, g2⟩ := r.get hp
 have hrd : readN h (pAddr v i) 2 = some [.int .i64 p.1, .int .i64 p.2] := by
  refine readN_get [.int .i64 p.1, .int .i64 p.2] _ fun j x hx => ?_
  match j with
  | 0 => simp at hx; subst hx; exact g1
  | 1 => simp at hx; subst hx; exact g2
  | j + 2 => simp at hx
 have hd : isAggD (.array 2 3) = true := rfl
 simp only [aload, Try.underlying61, hd, cond_true, ts42, hrd, valP]
theorem alloc42 (h : AHeap) : aAlloc Try.prog h 61 = some (.pointer (some ⟨h.next, 0, none⟩), h.alloc (.cells [.int .i64 0, .int .i64 0])) := rfl
theorem store42 {h : AHeap} {w : Nat} {x y : Value} {p : Pr} (ho : h.own w = some (.cells [x, y])) : aStore Try.prog h 61 (.pointer (some ⟨w, 0, none⟩)) (valP p) = some (h.put w (.cells (cellsP p))) := by
 simp [aStore, ho, valP, Value.cells, ts42, putCells, cellsP, Try.underlying61]
 exact ⟨rfl, rfl⟩
theorem box42 (h : AHeap) (p : Pr) : aBox h (valP p) = some (.pointer (some ⟨h.next, 0, none⟩), h.alloc (.cells (cellsP p))) := rfl
theorem own0 {h : AHeap} {w : Nat} {p : Pr} (ho : h.own w = some (.cells (cellsP p))) : aload Try.prog h 3 ⟨w, 0, none⟩ = some (.int .i64 p.1) := by rw [aload_one Try.underlying3 rfl ho]; rfl
theorem own1 {h : AHeap} {w : Nat} {p : Pr} (ho : h.own w = some (.cells (cellsP p))) : aload Try.prog h 3 ⟨w, 1, none⟩ = some (.int .i64 p.2) := by rw [aload_one Try.underlying3 rfl ho]; rfl
theorem own42 {h : AHeap} {w : Nat} {p : Pr} (ho : h.own w = some (.cells (cellsP p))) : aload Try.prog h 61 ⟨w, 0, none⟩ = some (valP p) := by
 rw [aload_own Try.underlying61 rfl ts42 ho (by simp [cellsP])]; rfl
theorem new42 {h : AHeap} (hw : WF h) (p : Pr) : ∃ h1 h2, aAlloc Try.prog h 61 = some (.pointer (some ⟨h.next, 0, none⟩), h1) ∧ aStore Try.prog h1 61 (.pointer (some ⟨h.next, 0, none⟩)) (valP p) = some h2 ∧ Le h h2 ∧ WF h2 ∧ h2.own h.next = some (.cells (cellsP p)) := by
 obtain ⟨h1, e1, l1, w1, o1⟩ := alloc_f hw [.int .i64 0, .int .i64 0]
 have nw : h.own h.next = none := (Le.refl h).next hw (Nat.le_refl _)
 exact ⟨h1, _, by rw [alloc42, e1], store42 o1, l1.put _ nw, w1.put _ (w1.lt o1), AHeap.own_put_eq _ _ _⟩
structure GM where
 n : Int
 es : List Pr
structure GR (h : AHeap) (v : Value) (G : GM) : Prop where
 ex : ∃ ev, v = .agg #[.int .i64 G.n, ev] ∧ PR h ev G.es
theorem GR.le {h h' : AHeap} {v : Value} {G : GM} (r : GR h v G) (e : Le h h') : GR h' v G := by
 obtain ⟨ev, e1, e2⟩ := r.ex; exact ⟨ev, e1, e2.le e⟩
theorem fg0 (a : Addr) : aField Try.prog 24 (.pointer (some a)) 0 = some (.pointer (some (aadd a 0))) := rfl
theorem fg1 (a : Addr) : aField Try.prog 24 (.pointer (some a)) 1 = some (.pointer (some (aadd a 1))) := rfl
theorem boxG {h : AHeap} (hwf : WF h) {n : Int} {ev : Value} {es : List Pr} (r : PR h ev es) :
  ∃ h1, aBox h (.agg #[.int .i64 n, ev]) = some (.pointer (some ⟨h.next, 0, none⟩), h1) ∧ Le h h1 ∧ WF h1 ∧ h1.own h.next = some (.cells [.int .i64 n, ev]) ∧
   ∀ g, Le h1 g → aload Try.prog g 24 ⟨h.next, 0, none⟩ = some (.agg #[.int .i64 n, ev]) ∧ aload Try.prog g 3 ⟨h.next, 0, none⟩ = some (.int .i64 n) ∧ aload Try.prog g 22 ⟨h.next, 1, none⟩ = some ev := by
 obtain ⟨h1, e1, l1, w1, o1⟩ := alloc_f hwf [.int .i64 n, ev]
 have h2 := r.sl.one
 refine ⟨h1, ?_, l1, w1, o1, fun g e => ⟨?_, aload_one Try.underlying3 rfl (e.own _ _ o1), aload_one Try.underlying22 rfl (e.own _ _ o1)⟩⟩
 ·rw [← e1]
  obtain ⟨_, _, rfl, _⟩ := r.sl
  rfl
 ·rw [aload_own Try.underlying24 rfl (by kernel_rfl : tsize Try.prog 24 = 2) (e.own _ _ o1) (by simp)]; rfl
theorem isSl.cells {v : Value} {n : Nat} (h : isSl v n) : v.cells = #[v] := by obtain ⟨a, c, rfl, _⟩ := h; rfl
end Go.Fw
