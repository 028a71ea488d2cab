/- One of the texts of the layer and the walks: it proves what its theorems say of the functions of the seat, with no condition beyond theirs. -/
import Derived.Test.YtdflaojabddalaaFwRg19
set_option linter.unusedSimpArgs false
set_option linter.unusedVariables false
namespace Go.Fw
open Go.Proofs
set_option maxHeartbeats 400000
set_option maxRecDepth 10000

abbrev Wd := List Int × List Nat

/- rows of what walks tell, in cells -/
def flat2 (vs : List (Value × Value)) : List Value := vs.flatMap fun p => [p.1, p.2]
theorem flat2_length (vs : List (Value × Value)) : (flat2 vs).length = vs.length * 2 := by
  induction vs with
  | nil => rfl
  | cons a l ih => simp only [flat2, List.flatMap_cons, List.length_append, List.length_cons, List.length_nil] at *; omega
theorem flat2_snoc (vs : List (Value × Value)) (p : Value × Value) : flat2 (vs ++ [p]) = flat2 vs ++ [p.1, p.2] := by simp [flat2]
theorem flat2_get : ∀ (vs : List (Value × Value)) (i : Nat) (p : Value × Value), vs[i]? = some p → (flat2 vs)[i * 2]? = some p.1 ∧ (flat2 vs)[i * 2 + 1]? = some p.2
  | [], i, p, h => by simp at h
  | q :: vs, 0, p, h => by simp at h; subst h; simp [flat2]
  | q :: vs, i + 1, p, h => by
    obtain ⟨h1, h2⟩ := flat2_get vs i p (by simpa using h)
    have e : flat2 (q :: vs) = q.1 :: q.2 :: flat2 vs := rfl
    rw [e, show (i + 1) * 2 = i * 2 + 1 + 1 by omega]
    exact ⟨h1, h2⟩

def ElR (h : AHeap) (p : Value × Value) (x : Wd) : Prop := GB h p.1 x.1 ∧ GS 1 h p.2 x.2.length (I64 (ints x.2))
theorem ElR.le {h h' : AHeap} {p : Value × Value} {x : Wd} (r : ElR h p x) (e : Le h h') : ElR h' p x := ⟨r.1.le e, r.2.le e⟩
def ElsR (h : AHeap) (vs : List (Value × Value)) (l : List Wd) : Prop := vs.length = l.length ∧ ∀ (i : Nat) p x, vs[i]? = some p → l[i]? = some x → ElR h p x
theorem ElsR.le {h h' : AHeap} {vs : List (Value × Value)} {l : List Wd} (r : ElsR h vs l) (e : Le h h') : ElsR h' vs l := ⟨r.1, fun i p x h1 h2 => (r.2 i p x h1 h2).le e⟩
theorem ElsR.snoc {h : AHeap} {vs : List (Value × Value)} {l : List Wd} {p : Value × Value} {x : Wd} (r : ElsR h vs l) (e : ElR h p x) : ElsR h (vs ++ [p]) (l ++ [x]) := by
  refine ⟨by simp [r.1], fun i q y h1 h2 => ?_⟩
  by_cases hi : i < vs.length
  · rw [List.getElem?_append_left hi] at h1
    rw [List.getElem?_append_left (by rw [← r.1]; exact hi)] at h2
    exact r.2 i q y h1 h2
  · have hi' : i = vs.length := by
      have := (List.getElem?_eq_some_iff.1 h1).1
      simp at this; omega
    subst hi'
    rw [List.getElem?_append_right (Nat.le_refl _)] at h1
    rw [List.getElem?_append_right (by rw [r.1]; exact Nat.le_refl _)] at h2
    simp [r.1] at h1 h2
    subst h1 h2; exact e

def xb (B a : Nat) (fv cs : Value) : List Nat := B :: (bl fv ++ spa a cs)
theorem mem_xb {B a i : Nat} {fv cs : Value} : i ∈ xb B a fv cs ↔ i = B ∨ blk fv = some i ∨ i ∈ spa a cs := by simp [xb, mem_bl]

/- the best walks so far, at B, and the walker -/
structure BS (h : AHeap) (B a : Nat) (r ve d pl : Value) (wd : Int) (cs fv : Value) (l : List Wd) : Prop where
  ob : h.own B = some (.cells [fv])
  wk : Wkr h a r ve d pl wd cs
  nB : B ∉ spa a cs
  dj : ∀ b, blk fv = some b → b ≠ B ∧ b ∉ spa a cs
  gs : ∃ vs, GS 2 h fv l.length (flat2 vs) ∧ ElsR (rem (xb B a fv cs) h) vs l

section BS
variable {h h' : AHeap} {B a : Nat} {r ve d pl cs fv : Value} {wd : Int} {l : List Wd}

theorem BS.up (b : BS h B a r ve d pl wd cs fv l) (e : Le h h') : BS h' B a r ve d pl wd cs fv l := by
  obtain ⟨vs, g, el⟩ := b.gs
  obtain ⟨C, hC⟩ := b.wk.gs
  exact ⟨e.own _ _ b.ob, ⟨e.own _ _ b.wk.ow, ⟨C, hC.le e⟩, b.wk.cu, b.wk.na⟩, b.nB, b.dj, vs, g.le e, el.le e.mono_rem⟩
theorem BS.owned (b : BS h B a r ve d pl wd cs fv l) {i : Nat} (hi : i ∈ xb B a fv cs) : h.own i ≠ none := by
  obtain ⟨vs, g, el⟩ := b.gs
  obtain ⟨C, hC⟩ := b.wk.gs
  rcases mem_xb.1 hi with rfl | e | e
  · rw [b.ob]; simp
  · exact g.blk_own e
  · simp only [spa, List.mem_cons, mem_bl] at e
    rcases e with rfl | e
    · rw [b.wk.ow]; simp
    · exact hC.1.blk_own e
theorem BS.walk (b : BS h B a r ve d pl wd cs fv l) {cs' : Value} (w : Wkr h' a r ve d pl wd cs') (e : Le (rem (spa a cs) h) (rem (spa a cs') h')) : BS h' B a r ve d pl wd cs' fv l ∧ Le (rem (xb B a fv cs) h) (rem (xb B a fv cs') h') := by
  obtain ⟨vs, g, el⟩ := b.gs
  obtain ⟨o1, n1⟩ := e.rem_own b.ob b.nB
  have gR := (g.to_rem (l := spa a cs) fun i hi => (b.dj i hi).2).le e
  have le : Le (rem (xb B a fv cs) h) (rem (xb B a fv cs') h') := Le.rem (by have := e.ext; rw [rem_ext, rem_ext] at this; exact this) fun i o ho hn => by
    rw [mem_xb] at hn
    obtain ⟨q1, q2⟩ := e.rem_own ho (fun hm => hn (.inr (.inr hm)))
    refine ⟨q1, fun hm => ?_⟩
    rcases mem_xb.1 hm with hm | hm | hm
    · exact hn (.inl hm)
    · exact hn (.inr (.inl hm))
    · exact q2 hm
  exact ⟨⟨o1, w, n1, fun i hi => ⟨(b.dj i hi).1, gR.rem_blk hi⟩, vs, gR.le (rem_le _ _), el.le le⟩, le⟩
theorem BS.put_nil (b : BS h B a r ve d pl wd cs fv l) : BS (h.put B (.cells [.slice none 0 0])) B a r ve d pl wd cs (.slice none 0 0) [] ∧ Le (rem (xb B a fv cs) h) (rem (xb B a (.slice none 0 0) cs) (h.put B (.cells [.slice none 0 0]))) := by
  obtain ⟨C, hC⟩ := b.wk.gs
  have hBa : B ≠ a := fun e => b.nB (by rw [e]; simp [spa])
  have hBc : blk cs ≠ some B := fun e => b.nB (by simp [spa, mem_bl, e])
  refine ⟨⟨AHeap.own_put_eq _ _ _, ⟨by rw [AHeap.own_put_ne _ _ _ _ (Ne.symm hBa)]; exact b.wk.ow, ⟨C, hC.put _ hBc⟩, b.wk.cu, b.wk.na⟩, b.nB, fun i hi => by (simp [blk] at hi), [], .nil 2 _, rfl, by simp⟩, ?_⟩
  refine Le.rem rfl fun i o ho hn => ?_
  rw [mem_xb] at hn
  refine ⟨by rw [AHeap.own_put_ne _ _ _ _ (fun e => hn (.inl e))]; exact ho, fun hm => ?_⟩
  rcases mem_xb.1 hm with hm | hm | hm
  · exact hn (.inl hm)
  · simp [blk] at hm
  · exact hn (.inr (.inr hm))

theorem BS.push (b : BS h B a r ve d pl wd cs fv l) (hwf : WF h) {cv ov : Value} {x : Wd} (hx : ElR (rem (xb B a fv cs) h) (cv, ov) x) (hl : l.length ≤ 1000000) :
    ∃ h1 fv' h2 h3, aBuildSlice Try.prog h 43 1 [(0, .agg #[cv, ov])] = some (.slice (some ⟨h.next, 0, none⟩) 1 1, h1) ∧ aAppend Try.prog h1 43 43 fv (.slice (some ⟨h.next, 0, none⟩) 1 1) = some (fv', h2) ∧
      aStore Try.prog h2 43 (.pointer (some ⟨B, 0, none⟩)) fv' = some h3 ∧ h1.own B = some (.cells [fv]) ∧ h2.own B = some (.cells [fv]) ∧ h3.own B = some (.cells [fv']) ∧
      (∀ i o, h.own i = some o → i ∉ xb B a fv cs → h1.own i = some o ∧ h2.own i = some o ∧ h3.own i = some o) ∧
      BS h3 B a r ve d pl wd cs fv' (l ++ [x]) ∧ Le (rem (xb B a fv cs) h) (rem (xb B a fv' cs) h3) := by
  obtain ⟨vs, g, el⟩ := b.gs
  have o1 := hx.1.1.cs.sl.one
  have o2 := hx.2.cs.sl.one
  have hbs : aBuildSlice Try.prog h 43 1 [(0, .agg #[cv, ov])] = some (.slice (some ⟨h.next, 0, none⟩) 1 1, h.alloc (.cells [cv, ov])) := by
    obtain ⟨ca, cc, hcv, _⟩ := hx.1.1.cs.sl
    obtain ⟨oa, oc, hov, _⟩ := hx.2.cs.sl
    simp only at hcv hov
    subst hcv hov
    kernel_rfl
  have le1 : Le h (h.alloc (.cells [cv, ov])) := (Le.refl h).alloc hwf _
  have oo1 : (h.alloc (.cells [cv, ov])).own h.next = some (.cells [cv, ov]) := AHeap.own_alloc_eq _ _
  have wf1 := hwf.alloc (.cells [cv, ov])
  have nn := (Le.refl h).next hwf (Nat.le_refl _)
  generalize h.alloc (.cells [cv, ov]) = h1 at *
  have hall : (flat2 vs).all (·.oneCell') = true := by
    rw [List.all_eq_true]
    intro y hy
    rw [flat2, List.mem_flatMap] at hy
    obtain ⟨p, hp, hy⟩ := hy
    obtain ⟨i, hi⟩ := List.mem_iff_getElem?.1 hp
    have hil := (List.getElem?_eq_some_iff.1 hi).1
    have e := el.2 i p _ hi (List.getElem?_eq_getElem (by rw [← el.1]; exact hil))
    simp only [List.mem_cons, List.not_mem_nil, or_false] at hy
    rcases hy with rfl | rfl
    · exact e.1.1.cs.sl.one
    · exact e.2.cs.sl.one
  obtain ⟨fv', h2, ea, g2, hf⟩ := (g.le le1).append (P := Try.prog) (t := 43) (xt := 43) (by kernel_rfl) (fun e he => (CS.own (k := 2) (off := 0) (n := 1) (cap := 1) oo1 (by simp)).src he) hall (by simp [o1, o2]) (by simp) (by omega)
  have keep : ∀ {i : Nat} {o : AObj}, h.own i = some o → blk fv ≠ some i → h2.own i = some o ∧ blk fv' ≠ some i := fun ho hb => keep_own hf wf1 (le1.own _ _ ho) hb
  have hfB : blk fv ≠ some B := fun e => (b.dj B e).1 rfl
  obtain ⟨ob2, nb2⟩ := keep b.ob hfB
  have st := aStore1 (P := Try.prog) (t := 43) (x := fv') Try.underlying43 (by kernel_rfl) ob2 (off := 0) (by simp) (by obtain ⟨_, _, rfl, _⟩ := g2.cs.sl; rfl) g2.cs.sl.one
  simp only [List.set_cons_zero] at st
  have hBa : B ≠ a := fun e => b.nB (by rw [e]; simp [spa])
  have hBc : blk cs ≠ some B := fun e => b.nB (by simp [spa, mem_bl, e])
  have hext : h2.ext = h.ext := ((hf (rem (bl fv) h) wf1 ((rem_le _ _).trans le1) (fun b hb => by rw [rem_own, if_pos (mem_bl.2 hb)])).1.ext).trans (rem_ext _)
  have hkk : ∀ i o, h.own i = some o → i ∉ xb B a fv cs → (h2.put B (.cells [fv'])).own i = some o ∧ i ∉ xb B a fv' cs := fun i o ho hn => by
    rw [mem_xb] at hn
    obtain ⟨q1, q2⟩ := keep ho (fun e => hn (.inr (.inl e)))
    refine ⟨by rw [AHeap.own_put_ne _ _ _ _ (fun e => hn (.inl e))]; exact q1, fun hm => ?_⟩
    rcases mem_xb.1 hm with hm | hm | hm
    · exact hn (.inl hm)
    · exact q2 hm
    · exact hn (.inr (.inr hm))
  have le3 : Le (rem (xb B a fv cs) h) (rem (xb B a fv' cs) (h2.put B (.cells [fv']))) := Le.rem hext hkk
  have spn : ∀ i, i ∈ spa a cs → blk fv ≠ some i := fun i hi e => (b.dj i e).2 hi
  obtain ⟨C, hC⟩ := b.wk.gs
  obtain ⟨ow2, nw2⟩ := keep b.wk.ow (spn a (by simp [spa]))
  have hcsk : ∀ i, blk cs = some i → blk fv' ≠ some i := fun i hi => by
    obtain ⟨o, ho⟩ := Option.ne_none_iff_exists'.1 (hC.1.blk_own hi)
    exact (keep ho (spn i (by simp [spa, mem_bl, hi]))).2
  have hC2 : GB h2 cs C := ⟨by
    obtain ⟨hl', q | ⟨i, c, cap, rfl, ho, rr⟩⟩ := hC.1
    · exact ⟨hl', .inl q⟩
    · exact ⟨hl', .inr ⟨i, c, cap, rfl, (keep ho (spn i (by simp [spa, bl, blk]))).1, rr⟩⟩, hC.2⟩
  have wk3 : Wkr (h2.put B (.cells [fv'])) a r ve d pl wd cs := ⟨by rw [AHeap.own_put_ne _ _ _ _ (Ne.symm hBa)]; exact ow2, ⟨C, hC2.put _ hBc⟩, b.wk.cu, b.wk.na⟩
  refine ⟨h1, fv', h2, _, hbs, ea, st, le1.own _ _ b.ob, ob2, AHeap.own_put_eq _ _ _, fun i o ho hn => ⟨le1.own _ _ ho, ?_, (hkk i o ho hn).1⟩, ⟨AHeap.own_put_eq _ _ _, wk3, b.nB, ?_, vs ++ [(cv, ov)], ?_, ?_⟩, le3⟩
  · rw [mem_xb] at hn
    exact (keep ho (fun e => hn (.inr (.inl e)))).1
  · intro i hi
    refine ⟨fun e => nb2 (by rw [hi, e]), fun hm => ?_⟩
    simp only [spa, List.mem_cons, mem_bl] at hm
    rcases hm with e | e
    · exact nw2 (by rw [hi, e])
    · exact hcsk i e hi
  · rw [flat2_snoc]
    have := g2.put (.cells [fv']) nb2
    simpa using this
  · exact (el.le le3).snoc (hx.le le3)
end BS
end Go.Fw
