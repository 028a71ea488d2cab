/- A text of the proof. -/
import Derived.Test.YtnaahaldkpdjlaaFwLF35
set_option linter.unusedSimpArgs false
set_option linter.unusedVariables false
namespace Go.Fw
open Go.Proofs
set_option maxHeartbeats 16000000
set_option maxRecDepth 10000
attribute [local instance] Classical.propDecidable
theorem CopyP.setRow {h0 h h5 : AHeap} {x : Value} {us : List Value} {rs : List (List Int)} (C : CopyP h0 h x us rs) {v : Nat} {u cv : Value} {r' : List Int} (hu : us[v]? = some u) (g5 : GI h5 cv r') (w5 : WF h5)
  (f5 : ∀ f, Le f h → Apart f u → Le f h5 ∧ Apart f cv) (k5 : ∀ b o, h.own b = some o → blk u ≠ some b → h5.own b = some o ∧ blk cv ≠ some b) :
  ∃ h6, aStore Try.prog h5 38 (.pointer (some (elemAddr x v))) cv = some h6 ∧ CopyP h0 h6 x (us.set v cv) (rs.set v r') ∧ WF h6 ∧ (∀ b o, ¬ InC x us b → h.own b = some o → h6.own b = some o ∧ ¬ InC x (us.set v cv) b) := by
 have hvl : v < us.length := (List.getElem?_eq_some_iff.1 hu).1
 obtain ⟨hl, ⟨rfl, hn⟩ | ⟨X, c, cap, rfl, oX, ht, hc⟩⟩ := C.sl
 ·omega
 have nuX : blk u ≠ some X := fun e => C.nx v u X hu e rfl
 obtain ⟨oX5, ncX⟩ := k5 X _ oX nuX
 have hcl : us.length ≤ c.length := by
  have := congrArg List.length ht
  rw [List.length_take] at this; omega
 have st := aStore1 (P := Try.prog) (t := 38) (x := cv) Try.underlying38 (by kernel_rfl) oX5 (off := v) (by omega) (by obtain ⟨_, _, rfl, _⟩ := g5.rl.sl; rfl) g5.rl.sl.one
 have ea : elemAddr (.slice (some ⟨X, 0, none⟩) us.length cap) v = ⟨X, v, none⟩ := by simp [elemAddr, aadd]
 rw [ea]
 have hoth : ∀ (i : Nat) a b, i ≠ v → us[i]? = some a → blk a = some b → blk u ≠ some b ∧ b ≠ X := fun i a b hi ha hb => ⟨C.dis i v a u b hi ha hu hb, fun e => C.nx i a b ha hb (by rw [e]; rfl)⟩
 have hgi : ∀ (i : Nat) a r, i ≠ v → us[i]? = some a → rs[i]? = some r → GI (h5.put X (.cells (c.set v cv))) a r := fun i a r hi ha hr => GS.kept (C.gs i a r ha hr) fun b o hb ho => by
  obtain ⟨h1, h2⟩ := hoth i a b hi ha hb
  rw [AHeap.own_put_ne _ _ _ _ h2]
  exact (k5 b o ho h1).1
 refine ⟨_, st, ⟨?_, ?_, by simp [C.len], fun i a r ha hr => ?_, fun i a b ha hb => ?_, fun i j a a' b hij ha ha' hb => ?_, C.ax, fun i a ha => ?_, ?_⟩, w5.put _ (w5.lt oX5), fun b o hb ho => ?_⟩
 ·rw [List.length_set]
  refine ⟨by simp, .inr ⟨X, _, cap, rfl, AHeap.own_put_eq _ _ _, ?_, hc⟩⟩
  rw [List.take_set, ht]
 ·rw [List.all_eq_true]
  intro a ha
  rcases List.mem_or_eq_of_mem_set ha with h | rfl
  ·exact List.all_eq_true.1 C.one a h
  ·exact g5.rl.sl.one
 ·rw [List.getElem?_set] at ha hr
  by_cases e : v = i
  ·subst e
   rw [if_pos rfl, if_pos hvl] at ha
   rw [if_pos rfl, if_pos (by rw [← C.len]; exact hvl)] at hr
   injection ha with ha; injection hr with hr; subst ha hr
   exact GS.put g5 _ ncX
  ·rw [if_neg e] at ha hr
   exact hgi i a r (Ne.symm e) ha hr
 ·rw [List.getElem?_set] at ha
  by_cases e : v = i
  ·subst e
   rw [if_pos rfl, if_pos hvl] at ha
   injection ha with ha; subst ha
   intro q; injection q with q; subst q; exact ncX hb
  ·rw [if_neg e] at ha; exact C.nx i a b ha hb
 ·rw [List.getElem?_set] at ha ha'
  have old : ∀ (i : Nat) a b, i ≠ v → us[i]? = some a → blk a = some b → blk cv ≠ some b := fun i a b hi ha hb => by
   obtain ⟨h1, _⟩ := hoth i a b hi ha hb
   have hil : i < rs.length := by rw [← C.len]; exact (List.getElem?_eq_some_iff.1 ha).1
   obtain ⟨o, ho⟩ := Option.ne_none_iff_exists'.1 (GS.blk_own (C.gs i a _ ha (getElem?_of hil)) hb)
   exact (k5 b o ho h1).2
  by_cases e : v = i
  ·subst e
   rw [if_pos rfl, if_pos hvl] at ha
   injection ha with ha; subst ha
   rw [if_neg hij] at ha'
   exact fun hb' => old j a' b (Ne.symm hij) ha' hb' hb
  ·rw [if_neg e] at ha
   by_cases e' : v = j
   ·subst e'
    rw [if_pos rfl, if_pos hvl] at ha'
    injection ha' with ha'; subst ha'
    exact old i a b (Ne.symm e) ha hb
   ·rw [if_neg e'] at ha'
    exact C.dis i j a a' b hij ha ha' hb
 ·rw [List.getElem?_set] at ha
  by_cases e : v = i
  ·subst e
   rw [if_pos rfl, if_pos hvl] at ha
   injection ha with ha; subst ha
   exact (f5 h0 C.le (C.au _ u hu)).2
  ·rw [if_neg e] at ha; exact C.au i a ha
 ·exact (f5 h0 C.le (C.au v u hu)).1.put _ (C.ax X rfl)
 ·have hbX : b ≠ X := fun e => hb (.inl (by rw [e]; rfl))
  obtain ⟨q1, q2⟩ := k5 b o ho fun e => hb (.inr ⟨v, u, hu, e⟩)
  refine ⟨by rw [AHeap.own_put_ne _ _ _ _ hbX]; exact q1, ?_⟩
  rintro (e | ⟨i, a, ha, e⟩)
  ·exact hb (.inl e)
  ·rw [List.getElem?_set] at ha
   by_cases c : v = i
   ·subst c
    rw [if_pos rfl, if_pos hvl] at ha
    injection ha with ha; subst ha
    exact q2 e
   ·rw [if_neg c] at ha; exact hb (.inr ⟨i, a, ha, e⟩)
theorem CopyP.putRow {h0 h h6 : AHeap} {x : Value} {us : List Value} {rs : List (List Int)} (C : CopyP h0 h x us rs) {v : Nat} {u : Value} {r' : List Int} (hu : us[v]? = some u) (g6 : GI h6 u r')
  (f6 : ∀ f, Le f h → Apart f u → Le f h6) (k6 : ∀ b o, h.own b = some o → blk u ≠ some b → h6.own b = some o) :
  CopyP h0 h6 x us (rs.set v r') ∧ (∀ b o, ¬ InC x us b → h.own b = some o → h6.own b = some o) := by
 refine ⟨⟨GS.kept C.sl fun b o hb ho => k6 b o ho fun e => C.nx v u b hu e hb, C.one, by rw [List.length_set]; exact C.len, fun i a r ha hr => ?_, C.nx, C.dis, C.ax, C.au, f6 h0 C.le (C.au v u hu)⟩, fun b o hb ho => k6 b o ho fun e => hb (.inr ⟨v, u, hu, e⟩)⟩
 rw [List.getElem?_set] at hr
 by_cases e : v = i
 ·subst e
  rw [hu] at ha; injection ha with ha; subst ha
  split at hr
  ·split at hr
   ·injection hr with hr; subst hr; exact g6
   ·cases hr
  ·rename_i q; exact absurd rfl q
 ·rw [if_neg e] at hr
  exact GS.kept (C.gs i a r ha hr) fun b o hb ho => k6 b o ho fun q => C.dis i v a u b (Ne.symm e) ha hu hb q
theorem GI.lo3 {h : AHeap} {v : Value} {xs : List Int} (g : GI h v xs) {i : Nat} (hi : i < xs.length) (hU : xs.length ≤ 100000) : ∃ v', aSlice Try.prog 38 v none (some (.int .i64 i)) (some (.int .i64 i)) = some v' ∧ GI h v' (xs.take i) ∧ ∀ b, blk v' = some b → blk v = some b := by
 obtain ⟨hl, ⟨rfl, hn⟩ | ⟨id, c, cap, rfl, ho, ht, hc⟩⟩ := g
 ·omega
 ·have n1 : (0 : Int) ≤ i := by omega
  have n2 : (i : Int) ≤ xs.length := by omega
  have ts : tsize Try.prog 3 = 1 := by kernel_rfl
  have a0 : aadd ⟨id, 0, none⟩ 0 = ⟨id, 0, none⟩ := rfl
  have gt : GI h (.slice (some ⟨id, 0, none⟩) i i) (xs.take i) := by
   have hlt : (xs.take i).length = i := by rw [List.length_take]; omega
   unfold GI
   rw [hlt]
   refine ⟨by rw [I64_length, hlt, Nat.mul_one], .inr ⟨id, c, i, rfl, ho, ?_, .inr ⟨rfl, Nat.lt_of_le_of_lt (show i ≤ 100000 by omega) (by decide)⟩⟩⟩
   have : I64 (xs.take i) = (I64 xs).take i := by simp [I64]
   rw [this, ← ht, List.take_take, Nat.mul_one, Nat.mul_one, Nat.min_eq_left (by omega)]
  rcases hc with rfl | ⟨rfl, hn⟩
  ·by_cases h0 : i = 0
   ·subst h0
    refine ⟨.slice (some ⟨id, 0, none⟩) 0 0, ?_, gt, fun b hb => hb⟩
    simp [aSlice, Try.underlying38, Try.underlying3, ts, aBounds, aBound]
   ·refine ⟨.slice (some ⟨id, 0, none⟩) i i, ?_, gt, fun b hb => hb⟩
    have iU : i < UNK := Nat.lt_of_le_of_lt (show i ≤ 100000 by omega) (by decide)
    simp [aSlice, Try.underlying38, Try.underlying3, ts, aBounds, aBound, n1, n2, h0, iU, aadd]
  ·have hno : ¬ UNK ≤ xs.length := Nat.not_le.2 (Nat.lt_of_lt_of_le hn (by decide))
   refine ⟨.slice (some ⟨id, 0, none⟩) i i, ?_, gt, fun b hb => hb⟩
   simp [aSlice, Try.underlying38, Try.underlying3, aBounds, aBound, n1, n2, hno, a0]
section
variable {n : Nat} {es : List Pr} {rs : List (List Int)} {v : Nat} {i : Nat}
theorem set_getD {rs : List (List Int)} {v : Nat} (hv : v < rs.length) (r' : List Int) (w : Nat) : (rs.set v r').getD w [] = if w = v then r' else rs.getD w [] := by
 rw [List.getD_eq_getElem?_getD, List.getD_eq_getElem?_getD, List.getElem?_set]
 by_cases c : w = v
 ·subst c; rw [if_pos rfl, if_pos rfl, if_pos hv]; rfl
 ·rw [if_neg (Ne.symm c), if_neg c]
theorem RotG.bad {m : Nat} {es' : List Pr} {ts : List (List Int)} (hr' : RightG ⟨(m : Int), es'⟩) (G' : RotG m es' ts) {v : Nat} (hv : v < m) : (ts.getD v []).Nodup ∧ (v : Int) ∉ ts.getD v [] ∧ ∀ w : Nat, (w : Int) ∈ ts.getD v [] ↔ adj es' v w := by
 have hi := hr'.inR
 refine ⟨(G'.perm v hv).nodup_iff.2 (List.nodup_iff_pairwise_ne.2 ((besM_asc es' hi hr'.asc v).imp fun h => by omega)), fun h => ?_, fun w => ?_⟩
 ·have := (besM_mem hi v v).1 ((G'.perm v hv).mem_iff.1 h)
  rcases this with h | h <;> have := hi _ h <;> simp only at this <;> omega
 ·rw [(G'.perm v hv).mem_iff, besM_mem hi]
theorem bad_twice (hv : v < rs.length) {r : List Int} (hi : i < r.length) {m : Nat} {es' : List Pr} (hr' : RightG ⟨(m : Int), es'⟩) (hm : v < m) : ¬ RotG m es' (rs.set v (r ++ [r[i]])) := fun G' => by
 have h := (G'.bad hr' hm).1
 rw [set_getD hv, if_pos rfl, List.nodup_append] at h
 exact h.2.2 _ (List.getElem_mem hi) _ (List.mem_singleton.2 rfl) rfl
theorem bad_other (hv : v < rs.length) {r : List Int} (hi : i < r.length) {m : Nat} {es' : List Pr} (hr' : RightG ⟨(m : Int), es'⟩) (hm : v < m) : ¬ RotG m es' (rs.set v (r.set i (v : Int))) := fun G' => by
 have h := (G'.bad hr' hm).2.1
 rw [set_getD hv, if_pos rfl] at h
 exact h (List.mem_of_getElem? (i := i) (by rw [List.getElem?_set_self hi]))
theorem bad_less (hr : RightG ⟨(n : Int), es⟩) (G : RotG n es rs) (hv : v < n) {r : List Int} (hrv : rs.getD v [] = r) (hi : i < r.length) {es' : List Pr} (hr' : RightG ⟨(n : Int), es'⟩) : ¬ RotG n es' (rs.set v (r.take i ++ r.drop (i + 1))) := fun G' => by
 have hvl : v < rs.length := by rw [G.len]; exact hv
 obtain ⟨nd, nv, hadj⟩ := G.bad hr hv
 rw [hrv] at nd nv hadj
 obtain ⟨-, w, hw, hwn, -⟩ := G.nat hr.inR (v := v) (x := r[i]) (by rw [hrv]; exact List.getElem_mem hi)
 have hwr : (w : Int) ∈ r := by rw [← hw]; exact List.getElem_mem hi
 have hwv : w ≠ v := fun e => nv (by rw [← e]; exact hwr)
 have h1 : (v : Int) ∈ rs.getD w [] := ((G.bad hr hwn).2.2 v).2 ((hadj w).1 hwr).symm
 have h2 : (v : Int) ∈ (rs.set v (r.take i ++ r.drop (i + 1))).getD w [] := by rw [set_getD hvl, if_neg hwv]; exact h1
 have h3 := ((G'.bad hr' hv).2.2 w).2 (((G'.bad hr' hwn).2.2 v).1 h2).symm
 rw [set_getD hvl, if_pos rfl] at h3
 have e : r = r.take i ++ r[i] :: r.drop (i + 1) := by rw [List.getElem_cons_drop]; exact (List.take_append_drop i r).symm
 rw [e, List.nodup_append] at nd
 have n2 := List.nodup_cons.1 nd.2.1
 rw [← hw] at h3
 rcases List.mem_append.1 h3 with h | h
 ·exact nd.2.2 _ h _ List.mem_cons_self rfl
 ·exact n2.1 h
end
end Go.Fw
