/- A text of the proof. -/
import Derived.Test.YtmgcmoifdnkaoaaFwLC15
import Derived.Test.YtmgcmoifdnkaoaaFwLB8
import Derived.Test.YtmgcmoifdnkaoaaFwLC13
import Derived.Test.YtmgcmoifdnkaoaaFwLC5
set_option linter.unusedSimpArgs false
set_option linter.unusedVariables false
namespace Go.Fw
open Go.Proofs Go.ChangeShapes Go.WideShapes Go.RowKit Go.ChangeAt
open Go.Proofs.Ytmgcmoifdnkaoaa
set_option maxRecDepth 100000
theorem rd_sliceG {H : Type} {enc : TypeId × Value → H} {P : Program} {W : World} {G G' : DataW H → Prop} {α : Type} {R : AHeap → Value → α → Prop} {t e : TypeId} (ht : P.underlying t = some (.slice e)) (he : P.cellsOf e = 1) (hG : ∀ (len : Nat) (D : Nat → DataW H) (sp : List (DataW H)), G' (.slice ((List.range len).map D) sp) → ∀ i, i < len → G (D i))
  (hr : ∀ fuel cs x, DataW.trod enc P W 0 (fun _ => true) true fuel e cs = some x → G x.1 → ∃ v' v a, cs = [v'] ∧ tag v' = some v ∧ R (ext0 W) v a) :
  ∀ fuel cs x, DataW.trod enc P W 0 (fun _ => true) true fuel t cs = some x → G' x.1 → ∃ v' v a, cs = [v'] ∧ tag v' = some v ∧ RL R (ext0 W) v a := by
 intro fuel cs x h gg
 rcases Go.Deep.open_slice1 ht he h with ⟨rfl, _⟩ | ⟨a, len, cap, m, n, V, D, Pl, rfl, hb, hl, hm, hmm, rfl, hx⟩
 ·exact ⟨_, .slice none 0 0, [], rfl, rfl, RL.nil⟩
 ·simp only [if_true] at hmm
  have hmm2 := hmm.symm
  subst hmm2
  have hU : cap < UNK := Nat.lt_of_le_of_lt hm (by decide)
  by_cases h0 : cap = 0
  ·subst h0
   have : len = 0 := by omega
   subst this
   refine ⟨_, .slice (some ⟨a.block, a.off, some 0⟩) 0 0, [], rfl, ?_, [], ⟨⟨_, 0, rfl, by simp⟩, by simp⟩, rfl, by simp⟩
   obtain ⟨b, off, sp⟩ := a
   cases sp with
   | none => simp only [tag]; rw [if_pos (by decide)]
   | some k => rfl
  ·have hsp : a.spot = none := by
    have := (hx 0 (by omega)).1
    rw [show a.add 0 = a from rfl] at this
    simp only [World.cell?] at this
    split at this
    ·split at this
     ·cases this
     ·rename_i hs; simpa using hs
    ·cases this
   have key : ∀ k, k ≤ len → ∃ (vs : List Value) (xs : List α), vs.length = k ∧ xs.length = k ∧ (∀ (i : Nat) u, vs[i]? = some u → tag (V i) = some u) ∧ ∀ (i : Nat) u y, vs[i]? = some u → xs[i]? = some y → R (ext0 W) u y := by
    intro k
    induction k with
    | zero => intro _; exact ⟨[], [], rfl, rfl, by simp, by simp⟩
    | succ k ih =>
     intro hk
     obtain ⟨vs, xs, h1, h2, h3, h4⟩ := ih (by omega)
     obtain ⟨v', v, y, e1, e2, e3⟩ := hr _ _ _ (hx k (by omega)).2 (hG _ _ _ gg k (by omega))
     injection e1 with e1
     subst e1
     refine ⟨vs ++ [v], xs ++ [y], by simp [h1], by simp [h2], fun i u hi => ?_, fun i u z hi hz => ?_⟩
     ·by_cases hik : i < k
      ·rw [List.getElem?_append_left (by omega)] at hi; exact h3 i u hi
      ·rw [List.getElem?_append_right (by omega)] at hi
       have : i = k := by
        have := (List.getElem?_eq_some_iff.1 hi).1
        simp at this; omega
       subst this
       simp [h1] at hi; subst hi; exact e2
     ·by_cases hik : i < k
      ·rw [List.getElem?_append_left (by omega)] at hi
       rw [List.getElem?_append_left (by omega)] at hz
       exact h4 i u z hi hz
      ·rw [List.getElem?_append_right (by omega)] at hi hz
       have : i = k := by
        have := (List.getElem?_eq_some_iff.1 hi).1
        simp at this; omega
       subst this
       simp [h1] at hi; simp [h2] at hz; subst hi hz; exact e3
   obtain ⟨vs, xs, h1, h2, h3, h4⟩ := key len (Nat.le_refl _)
   refine ⟨_, .slice (some ⟨a.block, a.off, some 0⟩) len cap, xs, rfl, ?_, vs, ⟨⟨_, cap, by rw [h1], by simp⟩, fun i u hi => ?_⟩, by omega, fun i y u hy hu => h4 i u y hu hy⟩
   ·obtain ⟨b, off, sp⟩ := a
    simp only at hsp
    subst hsp
    simp only [tag]
    rw [if_pos hU]
   ·have hil : i < len := by have := (List.getElem?_eq_some_iff.1 hi).1; omega
    have hc := (hx i (by omega)).1
    rw [addr_add_of hsp] at hc
    have ht := h3 i u hi
    rw [elemAddr_mk]
    simp only [aadd, AHeap.read, ext0, hc, Option.bind_some]
    exact ht
section
variable {H : Type} {enc : TypeId × Value → H} {W : World}
def Wt (P : Program) (t : TypeId) (d : DataW H) : Prop := (DataW.weights P t d).all (· ≤ reachBytes) = true
theorem weightsAll_mem {P : Program} {e : TypeId} : ∀ {l : List (DataW H)} {d : DataW H}, d ∈ l → ∀ {p : Nat → Bool}, (DataW.weightsAll P e l).all p = true → (DataW.weights P e d).all p = true
 | [], _, h, _, _ => by cases h
 | x :: r, d, h, p, ha => by
  rw [DataW.weightsAll, List.all_append, Bool.and_eq_true] at ha
  rcases List.mem_cons.1 h with rfl | h
  ·exact ha.1
  ·exact weightsAll_mem h ha.2
theorem Wt.slice {P : Program} {t e : TypeId} (ht : P.underlying t = some (.slice e)) {l sp : List (DataW H)} (h : Wt P t (.slice l sp)) : l.length * P.bytesOf e ≤ reachBytes ∧ ∀ d ∈ l, Wt P e d := by
 unfold Wt at h
 rw [DataW.weights, ht] at h
 simp only [List.all_cons, List.all_append, Bool.and_eq_true, decide_eq_true_eq] at h
 obtain ⟨h1, h2, -⟩ := h
 exact ⟨Nat.le_trans (Nat.mul_le_mul_right _ (Nat.le_add_right _ _)) h1, fun d hd => weightsAll_mem hd h2⟩
theorem Wt.len {P : Program} {t e : TypeId} (ht : P.underlying t = some (.slice e)) {fuel : Nat} {v' : Value} {x : DataW H × List MemPlace} (h : DataW.trod enc P W 0 (fun _ => true) true fuel t [v'] = some x) (hw : Wt P t x.1)
    {b : Option Addr} {n c : Nat} (t0 : tag v' = some (.slice b n c)) : n * P.bytesOf e ≤ reachBytes := by
  rcases Go.Deep.open_slice ht h with ⟨e0, _⟩ | ⟨a', len, cap, m, k, D, Pl, e0, _, hl, hcap, hm, rfl, _⟩
  · injection e0 with e0; subst e0
    simp only [tag] at t0
    injection t0 with t0; injection t0 with _ t0 _; subst t0
    rw [Nat.zero_mul]; exact Nat.zero_le _
  · injection e0 with e0; subst e0
    have hn : n = len := by
      obtain ⟨bl, off, sp⟩ := a'
      cases sp with
      | none => simp only [tag] at t0; split at t0 <;> simp at t0; exact t0.2.1.symm
      | some k =>
        cases len with
        | zero => cases cap with
          | zero => simp only [tag] at t0; injection t0 with t0; injection t0 with _ t0 _; exact t0.symm
          | succ cap => simp [tag, flat] at t0
        | succ len => simp [tag, flat] at t0
    have := (Wt.slice ht hw).1
    rw [List.length_map, List.length_range] at this
    rw [hn]; exact this
theorem bytes45 : Try.prog.bytesOf 45 = 16 := by kernel_rfl
theorem bytes22 : Try.prog.bytesOf 22 = 24 := by kernel_rfl
theorem bytes3 : Try.prog.bytesOf 3 = 8 := by kernel_rfl
def PRB (h : AHeap) (v : Value) (p : List Pr) : Prop := PR h v p ∧ p.length ≤ 8796093022208
theorem rd_pairsW {fuel : Nat} {cs : List Value} {x : DataW H × List MemPlace} (h : DataW.trod enc Try.prog W 0 (fun _ => true) true fuel 22 cs = some x) (hw : Wt Try.prog 22 x.1) : ∃ v' v ps, cs = [v'] ∧ tag v' = some v ∧ PRB (ext0 W) v ps := by
 obtain ⟨v', v, ps, rfl, t0, q0⟩ := rd_pairs h
 obtain ⟨a, c, hv, _⟩ := q0.sl
 subst hv
 have := Wt.len Try.underlying22 h hw t0
 rw [bytes45] at this
 have r : reachBytes = 0x7ffffffff000 := rfl
 exact ⟨_, _, ps, rfl, t0, q0, by omega⟩
theorem rd_listsW {fuel : Nat} {cs : List Value} {x : DataW H × List MemPlace} (h : DataW.trod enc Try.prog W 0 (fun _ => true) true fuel 38 cs = some x) (hw : Wt Try.prog 38 x.1) :
  ∃ v' v ps, cs = [v'] ∧ tag v' = some v ∧ RL PR (ext0 W) v ps ∧ (∀ p ∈ ps, p.length ≤ 8796093022208) ∧ ps.length ≤ 100000000000000 := by
 obtain ⟨v', v, ps, rfl, t0, q0⟩ := rd_sliceG (R := PRB) (G := Wt Try.prog 22) (G' := Wt Try.prog 38) Try.underlying38 (by kernel_rfl) (fun len D sp g i hi => (Wt.slice Try.underlying38 g).2 _ (List.mem_map.2 ⟨i, List.mem_range.2 hi, rfl⟩)) (fun _ _ _ h g => rd_pairsW h g) _ _ _ h hw
 obtain ⟨vs, r, hl, hx⟩ := q0
 obtain ⟨a, c, hv, _⟩ := r.sl
 subst hv
 have := Wt.len Try.underlying38 h hw t0
 rw [bytes22] at this
 have rr : reachBytes = 0x7ffffffff000 := rfl
 refine ⟨_, _, ps, rfl, t0, ⟨vs, r, hl, fun i y u hy hu => (hx i y u hy hu).1⟩, fun p hp => ?_, by omega⟩
 obtain ⟨i, hi⟩ := List.getElem?_of_mem hp
 have hlt : i < vs.length := by have := (List.getElem?_eq_some_iff.1 hi).1; omega
 exact (hx i p vs[i] hi (List.getElem?_eq_getElem hlt)).2
theorem rd_intsW {fuel : Nat} {cs : List Value} {x : DataW H × List MemPlace} (h : DataW.trod enc Try.prog W 0 (fun _ => true) true fuel 35 cs = some x) (hw : Wt Try.prog 35 x.1) :
  ∃ v' v ps, cs = [v'] ∧ tag v' = some v ∧ RL isI (ext0 W) v ps ∧ ps.length ≤ 100000000000000 := by
 obtain ⟨v', v, ps, rfl, t0, q0⟩ := rd_slice Try.underlying35 (by kernel_rfl) (rd_i64 Try.underlying3) _ _ _ h
 have q1 := q0
 obtain ⟨vs, r, hl, hx⟩ := q0
 obtain ⟨a, c, hv, _⟩ := r.sl
 subst hv
 have := Wt.len Try.underlying35 h hw t0
 rw [bytes3] at this
 have rr : reachBytes = 0x7ffffffff000 := rfl
 exact ⟨_, _, ps, rfl, t0, q1, by omega⟩
structure TB (T : TM) : Prop where
 bs : T.bs.length ≤ 100000000000000
 b : ∀ p ∈ T.bs, p.length ≤ 8796093022208
 cs : T.cs.length ≤ 100000000000000
 ls : T.ls.length ≤ 8796093022208
theorem open_tree {v : Value} {d : DataW H} {ps : List MemPlace} {b0 : Nat} (hval : Value.okWide Try.prog W .any b0 66 v) (h : DataW.Trod enc Try.prog W 0 (fun _ => true) true 66 v d ps) (hw : Wt Try.prog 66 d) (m : CMap) :
  ∃ u T, VR 0 m u v ∧ TR (ext0 W) u T ∧ TB T := by
 obtain ⟨fuel, h⟩ := h
 simp only [Value.okWide, Try.underlying66] at hval
 obtain ⟨cs, rfl, hsz, _⟩ := hval
 have c66 : Try.prog.cellsOf 66 = 3 := by kernel_rfl
 have c38 : Try.prog.cellsOf 38 = 1 := by kernel_rfl
 have c35 : Try.prog.cellsOf 35 = 1 := by kernel_rfl
 have c22 : Try.prog.cellsOf 22 = 1 := by kernel_rfl
 obtain ⟨l⟩ := cs
 rw [c66] at hsz
 match l, hsz with
 | [x, y, z], _ =>
  obtain ⟨y0, y1, y2, n, hd, -, h0, h1, h2⟩ := Go.Deep.trod_struct3 Try.underlying66 h
  injection hd with hd _
  subst hd
  unfold Wt at hw
  rw [DataW.weights, Try.underlying66] at hw
  simp only [List.map_cons, List.map_nil, DataW.weightsEach, List.all_append, Bool.and_eq_true, List.all_nil, and_true] at hw
  obtain ⟨g0, g1, g2⟩ := hw
  simp only [c38, c35, c22, Value.cells, List.drop_zero, List.drop_succ_cons, List.take_succ_cons, List.take_zero, List.drop_nil, List.take_nil] at h0 h1 h2
  obtain ⟨v0, w0, V0, e0, t0, q0, a0, b0⟩ := rd_listsW h0 g0
  obtain ⟨v1, w1, V1, e1, t1, q1, a1⟩ := rd_intsW h1 g1
  obtain ⟨v2, w2, V2, e2, t2, q2, a2⟩ := rd_pairsW h2 g2
  injection e0 with e0; injection e1 with e1; injection e2 with e2
  subst e0 e1 e2
  refine ⟨_, ⟨V0, V1, V2⟩, ?_, ⟨w0, w1, w2, rfl, q0, q1, q2⟩, b0, a0, a1, a2⟩
  refine .agg (by simp) fun i a b ha hb => ?_
  match i with
  | 0 => simp at ha hb; subst ha hb; exact VR.of_tag t0
  | 1 => simp at ha hb; subst ha hb; exact VR.of_tag t1
  | 2 => simp at ha hb; subst ha hb; exact VR.of_tag t2
  | i + 3 => simp at ha
end
end Go.Fw
namespace Go.Fw
open Go.Proofs
attribute [local irreducible] KO4 KO3 KO2 KO1 KO KN KX KE VK KCond KDraw KCall KLoop
set_option maxHeartbeats 8000000
set_option maxRecDepth 10000
theorem GS.kill {k n T : Nat} {h : AHeap} {v : Value} {cs : List Value} (g : GS k h v n cs) (hb : blk v ≠ some T) : GS k (h.kill T) v n cs :=
 g.kept fun b o hv ho => by rw [AHeap.own_kill_ne _ _ _ (fun e => hb (by rw [← e]; exact hv))]; exact ho
theorem GS.old {k n T : Nat} {h : AHeap} {v : Value} {cs : List Value} (g : GS k h v n cs) (hT : h.own T = none) : blk v ≠ some T := by
 obtain ⟨_, ⟨rfl, _⟩ | ⟨id, c, cap, rfl, ho, _⟩⟩ := g
 ·intro e; cases e
 ·intro e; injection e with e; subst e; rw [hT] at ho; cases ho
theorem GS.isS {k n : Nat} {h : AHeap} {v : Value} {cs : List Value} (g : GS k h v n cs) : ∃ a m c, v = .slice a m c := by
 obtain ⟨a, c, rfl, _⟩ := (GS.cs g).sl; exact ⟨_, _, _, rfl⟩
def killv (v : Value) (h : AHeap) : AHeap := match blk v with | none => h | some b => h.kill b
theorem killv_le (v : Value) (h : AHeap) : Le (killv v h) h := by unfold killv; split; exact Le.refl _; exact Le.killed _ _
theorem killv_ap (v : Value) (h : AHeap) : Apart (killv v h) v := by
 intro b hb; unfold killv; rw [hb]; exact AHeap.own_kill_eq _ _
theorem killv_to {f h : AHeap} {v : Value} (l : Le f h) (a : Apart f v) : Le f (killv v h) := by
 unfold killv; split
 ·exact l
 ·rename_i b hb; exact l.to_kill (a b hb)
theorem killv_own {v : Value} {h : AHeap} {i : Nat} {o : AObj} (ho : h.own i = some o) (hb : blk v ≠ some i) : (killv v h).own i = some o := by
 unfold killv; split
 ·exact ho
 ·rename_i b e; rw [AHeap.own_kill_ne _ _ _ (fun c => hb (by rw [e, c]))]; exact ho
theorem killv_none {v : Value} {h : AHeap} {i : Nat} (ho : h.own i = none) : (killv v h).own i = none := by
 unfold killv; split
 ·exact ho
 ·rename_i b e
  by_cases c : i = b
  ·subst c; exact AHeap.own_kill_eq _ _
  ·rw [AHeap.own_kill_ne _ _ _ c]; exact ho
structure OnT (b h : AHeap) (T : Nat) (cv lv v : Value) (cs : List Int) (ls : List Pr) (rows : List (List Pr)) (g : AHeap) : Prop where
 oT : h.own T = some (.cells [v, cv, lv])
 bg : Le b g
 gh : Le g h
 gT : g.own T = none
 ga : Apart g v
 vT : blk v ≠ some T
 rc : RL isI g cv cs
 rl : PR g lv ls
 us : ∃ us, GS 1 h v rows.length us ∧ ∀ (i : Nat) u r, us[i]? = some u → rows[i]? = some r → PR g u r
theorem OnT.rb {b h g : AHeap} {T : Nat} {cv lv v : Value} {cs : List Int} {ls : List Pr} {rows : List (List Pr)} (O : OnT b h T cv lv v cs ls rows g) : RL PR h v rows := by
 obtain ⟨us, gs, hu⟩ := O.us
 exact ⟨us, (GS.cs gs).rs, by rw [gs.1, Nat.mul_one], fun i r u hr h' => (hu i u r h' hr).le O.gh⟩
theorem OnT.tr {b h g : AHeap} {T : Nat} {cv lv v : Value} {cs : List Int} {ls : List Pr} {rows : List (List Pr)} (O : OnT b h T cv lv v cs ls rows g) : TR h (.agg #[v, cv, lv]) ⟨rows, cs, ls⟩ :=
 ⟨v, cv, lv, rfl, O.rb, O.rc.le Stays.isI O.gh, O.rl.le O.gh⟩
theorem OnT.ld {b h g : AHeap} {T : Nat} {cv lv v : Value} {cs : List Int} {ls : List Pr} {rows : List (List Pr)} (O : OnT b h T cv lv v cs ls rows g) :
  ∀ h', Le h h' → aload Try.prog h' 66 ⟨T, 0, none⟩ = some (.agg #[v, cv, lv]) ∧ aload Try.prog h' 38 ⟨T, 0, none⟩ = some v := fun h' l =>
 have q := load66 (l.own _ _ O.oT) O.rb.isS O.rc.isS O.rl.isS
 ⟨q.1, q.2.1⟩
theorem mkL38 {h : AHeap} {x : Value} (hx : ∃ a m c, x = .slice a m c) : aBuildSlice Try.prog h 38 1 [(0, x)] = some (.slice (some ⟨h.next, 0, none⟩) 1 1, h.alloc (.cells [x])) := by
 obtain ⟨a, m, c, rfl⟩ := hx; rfl
theorem OnT.push {b h g : AHeap} {T : Nat} {cv lv v : Value} {cs : List Int} {ls : List Pr} {rows : List (List Pr)} (O : OnT b h T cv lv v cs ls rows g) {h2 : AHeap} {x : Value} {p : List Pr} (l2 : Le h h2) (w2 : WF h2)
  (gx : GP h2 x p) (ax : Apart h x) (hn : rows.length ≤ 1000) :
  ∃ h3 v' h4 g', aBuildSlice Try.prog h2 38 1 [(0, x)] = some (.slice (some ⟨h2.next, 0, none⟩) 1 1, h3) ∧ Le h2 h3 ∧ aAppend Try.prog h3 38 38 v (.slice (some ⟨h2.next, 0, none⟩) 1 1) = some (v', h4) ∧
   aStore Try.prog h4 38 (.pointer (some ⟨T, 0, none⟩)) v' = some (h4.put T (.cells [v', cv, lv])) ∧ WF (h4.put T (.cells [v', cv, lv])) ∧ OnT b (h4.put T (.cells [v', cv, lv])) T cv lv v' cs ls (rows ++ [p]) g' := by
 obtain ⟨us, gs, hu⟩ := O.us
 obtain ⟨h3, e3, l3, w3, o3⟩ := alloc_f w2 [x]
 have hul : us.length = rows.length := by rw [gs.1, Nat.mul_one]
 have one : us.all (·.oneCell') = true := by
  rw [List.all_eq_true]
  intro u hm
  obtain ⟨i, hi⟩ := List.getElem?_of_mem hm
  have hlt : i < rows.length := by have := (List.getElem?_eq_some_iff.1 hi).1; omega
  exact (hu i u rows[i] hi (getElem?_of hlt)).sl.one
 obtain ⟨v', h4, e4, g4, hf⟩ := (gs.le (l2.trans l3)).push (P := Try.prog) (t := 38) (by kernel_rfl) o3 one gx.pr.sl.one (by omega)
 have hvx : ∀ i, blk v = some i → blk x ≠ some i := fun i hi hx => by
  have hn := ax i hx
  exact gs.old hn hi
 have oT3 := (l2.trans l3).own _ _ O.oT
 have hxT : blk x ≠ some T := fun e => by have := ax T e; rw [O.oT] at this; cases this
 obtain ⟨oT4, vT'⟩ := keep_own hf w3 oT3 O.vT
 have gl : Le (killv v (h2.kill T)) h3 := ((killv_le _ _).trans (Le.killed _ _)).trans l3
 have gT' : (killv v (h2.kill T)).own T = none := killv_none (AHeap.own_kill_eq _ _)
 obtain ⟨gl4, ga4⟩ := hf _ w3 gl (killv_ap _ _)
 have gg : Le g (killv v (h2.kill T)) := killv_to ((O.gh.trans l2).to_kill O.gT) O.ga
 have gx' : PR (killv v (h2.kill T)) x p := by
  have := (GS.kill (T := T) gx hxT).kept (h' := killv v (h2.kill T)) fun i o hi ho => killv_own ho (fun e => hvx i e hi)
  exact GS.cs this
 have st := aStore1 (P := Try.prog) (t := 38) (x := v') Try.underlying38 (by kernel_rfl) oT4 (off := 0) (by simp) (by obtain ⟨a, m, k, rfl⟩ := g4.isS; rfl) (by exact (GS.cs g4).sl.one)
 refine ⟨h3, v', h4, killv v (h2.kill T), by rw [mkL38 gx.pr.isS, e3], l3, e4, st, (aAppend_wf w3 e4).put _ ((aAppend_wf w3 e4).lt oT4), ?_⟩
 refine ⟨AHeap.own_put_eq _ _ _, O.bg.trans gg, gl4.put _ gT', gT', ga4, vT', O.rc.le Stays.isI gg, O.rl.le gg, us ++ [x], ?_, fun i u r hi hr => ?_⟩
 ·rw [List.length_append]; exact g4.put _ vT'
 ·by_cases c : i < rows.length
  ·rw [List.getElem?_append_left (by omega)] at hi hr
   exact (hu i u r hi hr).le gg
  ·rw [List.getElem?_append_right (by omega)] at hi hr
   have : i = rows.length := by have := (List.getElem?_eq_some_iff.1 hr).1; simp at this; omega
   subst this
   rw [hul, Nat.sub_self] at hi
   rw [Nat.sub_self] at hr
   simp only [List.getElem?_cons_zero, Option.some.injEq] at hi hr
   subst hi hr; exact gx'
theorem OnT.start {b h : AHeap} {T : Nat} {cv lv : Value} {cs : List Int} {ls : List Pr} {x y z : Value} (w : WF h) (oT : h.own T = some (.cells [x, y, z])) (bT : b.own T = none) (l : Le b h) (gc : GI h cv cs) (nc : blk cv ≠ some T) (gl : GP h lv ls) (nl : blk lv ≠ some T) :
  aBuild Try.prog 66 [(1, cv), (2, lv)] = some (.agg #[.slice none 0 0, cv, lv]) ∧ aStore Try.prog h 66 (.pointer (some ⟨T, 0, none⟩)) (.agg #[.slice none 0 0, cv, lv]) = some (h.put T (.cells [.slice none 0 0, cv, lv])) ∧
   WF (h.put T (.cells [.slice none 0 0, cv, lv])) ∧ OnT b (h.put T (.cells [.slice none 0 0, cv, lv])) T cv lv (.slice none 0 0) cs ls [] (h.kill T) := by
 refine ⟨?_, store66 oT ⟨_, _, _, rfl, rfl⟩ (by obtain ⟨a, m, k, e⟩ := gc.isS; exact ⟨a, m, k, e, gc.rl.one⟩) (by obtain ⟨a, m, k, e⟩ := gl.isS; exact ⟨a, m, k, e, gl.pr.sl.one⟩), w.put _ (w.lt oT), ?_⟩
 ·obtain ⟨a1, b1, c1, rfl⟩ := gc.isS
  obtain ⟨a2, b2, c2, rfl⟩ := gl.isS
  kernel_rfl
 ·exact ⟨AHeap.own_put_eq _ _ _, l.to_kill bT, (Le.killed _ _).put _ (AHeap.own_kill_eq _ _), AHeap.own_kill_eq _ _, (fun i hi => by cases hi), (fun e => by cases e), GI.rl (GS.kill gc nc), GP.pr (GS.kill gl nl), [], GS.nil 1 _, fun i u r hi => by simp at hi⟩
theorem greatB (W0 : Base) (v : Value) (T : TM) (h : AHeap) (hv : TR h v T) (h1 : T.bs.length ≤ 100000000000000) (h2 : T.cs.length ≤ 100000000000000) : AC Try.prog W0 40 [v] h fun x h' => BoolIs (40 < T.bs.length + T.cs.length ∨ 100 < T.ls.length) x ∧ Le h h' := by
 obtain ⟨b1, c1, l1, rfl, p1, q1, r1⟩ := hv
 refine AC.vc (fn := Try.f40) (c := _) ⟨Try.func40, rfl, by decide⟩ Try.ntmps40 Try.results40 (by simp) fun hwf => ?_
 simp only [argFrame, argFrom, Nat.reduceAdd]
 obtain ⟨g1, e1, k1, w1, lA⟩ := boxT hwf p1 q1 r1
 generalize h.next = A at *
 have fA := lA g1 (Le.refl _)
 have lb := fun g => p1.len (P := Try.prog) Try.underlying38 g
 have lc := fun g => q1.len (P := Try.prog) Try.underlying35 g
 have ll := fun g => r1.len g
 have hw : awrap .i64 ((T.bs.length : Int) + (T.cs.length : Int)) = (T.bs.length : Int) + (T.cs.length : Int) := awrap_i64 _ (by omega) (by omega)
 by_cases c : (T.bs.length : Int) + (T.cs.length : Int) > 40
 ·have d : decide ((T.bs.length : Int) + (T.cs.length : Int) > 40) = true := decide_eq_true c
  simp only [kS1, bLookup, bMapSet, wantA, isCall, stepOp, evalO, evalL, evalP, evalM, putDst, flat, kA, kB, Nat.reduceLT, ↓reduceIte, kC, Nat.reduceEqDiff, aBuiltin, abinG, guardFree, abin, aInt, aUn, aNilCheck, retQ, retQ1, aresults, aresultL, aresult, mkF, undefV, reduceCtorEq, kD, kE, kF, kG, kH, kI, kJ, kK, aExtract, calleeOf, e1, tf0, tf1, tf2, aadd, Nat.zero_add, fA.2.1, fA.2.2.1, fA.2.2.2, lb, lc, hw, d]
  exact ⟨.t (by omega), k1⟩
 have d : decide ((T.bs.length : Int) + (T.cs.length : Int) > 40) = false := decide_eq_false c
 simp only [kS1, bLookup, bMapSet, wantA, isCall, stepOp, evalO, evalL, evalP, evalM, putDst, flat, kA, kB, Nat.reduceLT, ↓reduceIte, kC, Nat.reduceEqDiff, aBuiltin, abinG, guardFree, abin, aInt, aUn, aNilCheck, retQ, retQ1, aresults, aresultL, aresult, mkF, undefV, reduceCtorEq, kD, kE, kF, kG, kH, kI, kJ, kK, aExtract, calleeOf, e1, tf0, tf1, tf2, aadd, Nat.zero_add, fA.2.1, fA.2.2.1, fA.2.2.2, lb, lc, ll, hw, d]
 refine ⟨⟨_, rfl, ?_⟩, k1⟩
 rw [decide_eq_true_eq]; omega
end Go.Fw
