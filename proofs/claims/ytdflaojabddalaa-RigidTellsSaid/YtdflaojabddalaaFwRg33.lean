/- One of the texts of the layer and the walks: it proves what its theorems say of the functions of the seat, with no condition beyond theirs. -/
import Derived.Test.YtdflaojabddalaaFwRg32
import Derived.Test.YtdflaojabddalaaFwRg27
set_option linter.unusedSimpArgs false
set_option linter.unusedVariables false
namespace Go.Fw
open Go.Proofs
set_option maxHeartbeats 1000000
set_option maxRecDepth 10000

/- the three rows that the document's walk gathers -/
def xw (ov ev wv : Value) : List Nat := bl ov ++ (bl ev ++ bl wv)
theorem mem_xw {ov ev wv : Value} {i : Nat} : i ∈ xw ov ev wv ↔ blk ov = some i ∨ blk ev = some i ∨ blk wv = some i := by simp [xw, mem_bl]

structure RW (hh h1 : AHeap) (ov ev wv : Value) (ord ent : List Nat) (words : List (List Int)) : Prop where
  go : GS 1 hh ov ord.length (I64 (ints ord))
  ge : GS 1 hh ev ent.length (I64 (ints ent))
  gw : ∃ us, GS 1 hh wv words.length us ∧ us.all (·.oneCell') = true ∧ ∀ (i : Nat) u x, us[i]? = some u → words[i]? = some x → RL isB (rem (xw ov ev wv) hh) u x
  d1 : ∀ b, blk ov = some b → blk ev ≠ some b ∧ blk wv ≠ some b
  d2 : ∀ b, blk ev = some b → blk wv ≠ some b
  le : Le h1 (rem (xw ov ev wv) hh)

section RW
variable {hh h' h1 : AHeap} {ov ev wv : Value} {ord ent : List Nat} {words : List (List Int)}

theorem RW.up (w : RW hh h1 ov ev wv ord ent words) (e : Le hh h') : RW h' h1 ov ev wv ord ent words := by
  obtain ⟨us, g, ho, hr⟩ := w.gw
  exact ⟨w.go.le e, w.ge.le e, ⟨us, g.le e, ho, fun i u x h1 h2 => (hr i u x h1 h2).le .isB e.mono_rem⟩, w.d1, w.d2, w.le.trans e.mono_rem⟩
theorem RW.owned (w : RW hh h1 ov ev wv ord ent words) {i : Nat} (hi : i ∈ xw ov ev wv) : hh.own i ≠ none := by
  obtain ⟨us, g, _, _⟩ := w.gw
  rcases mem_xw.1 hi with e | e | e
  · exact w.go.blk_own e
  · exact w.ge.blk_own e
  · exact g.blk_own e
/- what is new is apart from the three rows -/
theorem RW.new (w : RW hh h1 ov ev wv ord ent words) {q : Value} {xs : List Int} (e : Le hh h') (g : GB h' q xs) (a : Apart hh q) : RL isB (rem (xw ov ev wv) h') q xs :=
  GB.rl ⟨g.1.to_rem fun b hb hm => w.owned hm (a b hb), g.2⟩
theorem GS.kept {k n : Nat} {h h' : AHeap} {v : Value} {cs : List Value} (g : GS k h v n cs) (hk : ∀ b o, blk v = some b → h.own b = some o → h'.own b = some o) : GS k h' v n cs := by
  obtain ⟨hl, q | ⟨i, c, cap, rfl, ho, rr⟩⟩ := g
  · exact ⟨hl, .inl q⟩
  · exact ⟨hl, .inr ⟨i, c, cap, rfl, hk i _ rfl ho, rr⟩⟩

theorem RW.pushO (w : RW hh h1 ov ev wv ord ent words) (hwf : WF hh) (x : Nat) (hb : ord.length ≤ 1000000) :
    ∃ h2 ov' h3, aBuildSlice Try.prog hh 31 1 [(0, .int .i64 x)] = some (.slice (some ⟨hh.next, 0, none⟩) 1 1, h2) ∧ aAppend Try.prog h2 31 31 ov (.slice (some ⟨hh.next, 0, none⟩) 1 1) = some (ov', h3) ∧
      RW h3 h1 ov' ev wv (ord ++ [x]) ent words ∧ WF h3 := by
  obtain ⟨us, gw, ho1, hr⟩ := w.gw
  obtain ⟨h2, e2, le2, wf2, o2⟩ := alloc_f hwf [.int .i64 x]
  obtain ⟨ov', h3, e3, g3, hf⟩ := GS.push (P := Try.prog) (t := 31) (by kernel_rfl) (w.go.le le2) o2 (I64_one _) rfl (by omega)
  have keep : ∀ {i : Nat} {o : AObj}, hh.own i = some o → blk ov ≠ some i → h3.own i = some o ∧ blk ov' ≠ some i := fun ho hb => keep_own hf wf2 (le2.own _ _ ho) hb
  have hext : h3.ext = hh.ext := ((hf (rem (bl ov) hh) wf2 ((rem_le _ _).trans le2) (fun b hb => by rw [rem_own, if_pos (mem_bl.2 hb)])).1.ext).trans (rem_ext _)
  have ne1 : ∀ b, blk ev = some b → blk ov ≠ some b := fun b hb e => (w.d1 b e).1 hb
  have ne2 : ∀ b, blk wv = some b → blk ov ≠ some b := fun b hb e => (w.d1 b e).2 hb
  have leR : Le (rem (xw ov ev wv) hh) (rem (xw ov' ev wv) h3) := Le.rem hext fun i o ho hn => by
    rw [mem_xw] at hn
    obtain ⟨q1, q2⟩ := keep ho (fun e => hn (.inl e))
    refine ⟨q1, fun hm => ?_⟩
    rcases mem_xw.1 hm with e | e | e
    · exact q2 e
    · exact hn (.inr (.inl e))
    · exact hn (.inr (.inr e))
  refine ⟨h2, ov', h3, by rw [mk1, e2], e3, ⟨?_, w.ge.kept fun b o hb ho => (keep ho (ne1 b hb)).1, ⟨us, gw.kept fun b o hb ho => (keep ho (ne2 b hb)).1, ho1, fun i u y a1 a2 => (hr i u y a1 a2).le .isB leR⟩, fun b hb => ⟨fun e => ?_, fun e => ?_⟩, w.d2, w.le.trans leR⟩, aAppend_wf wf2 e3⟩
  · have : I64 (ints (ord ++ [x])) = I64 (ints ord) ++ [.int .i64 x] := by simp [I64, ints]
    rw [this]; simpa using g3
  · obtain ⟨o, ho⟩ := Option.ne_none_iff_exists'.1 (w.ge.blk_own e)
    exact (keep ho (ne1 b e)).2 hb
  · obtain ⟨o, ho⟩ := Option.ne_none_iff_exists'.1 (gw.blk_own e)
    exact (keep ho (ne2 b e)).2 hb

theorem RW.pushE (w : RW hh h1 ov ev wv ord ent words) (hwf : WF hh) (x : Nat) (hb : ent.length ≤ 1000000) :
    ∃ h2 ev' h3, aBuildSlice Try.prog hh 31 1 [(0, .int .i64 x)] = some (.slice (some ⟨hh.next, 0, none⟩) 1 1, h2) ∧ aAppend Try.prog h2 31 31 ev (.slice (some ⟨hh.next, 0, none⟩) 1 1) = some (ev', h3) ∧
      RW h3 h1 ov ev' wv ord (ent ++ [x]) words ∧ WF h3 := by
  obtain ⟨us, gw, ho1, hr⟩ := w.gw
  obtain ⟨h2, e2, le2, wf2, o2⟩ := alloc_f hwf [.int .i64 x]
  obtain ⟨ev', h3, e3, g3, hf⟩ := GS.push (P := Try.prog) (t := 31) (by kernel_rfl) (w.ge.le le2) o2 (I64_one _) rfl (by omega)
  have keep : ∀ {i : Nat} {o : AObj}, hh.own i = some o → blk ev ≠ some i → h3.own i = some o ∧ blk ev' ≠ some i := fun ho hb => keep_own hf wf2 (le2.own _ _ ho) hb
  have hext : h3.ext = hh.ext := ((hf (rem (bl ev) hh) wf2 ((rem_le _ _).trans le2) (fun b hb => by rw [rem_own, if_pos (mem_bl.2 hb)])).1.ext).trans (rem_ext _)
  have ne1 : ∀ b, blk ov = some b → blk ev ≠ some b := fun b hb e => (w.d1 b hb).1 e
  have ne2 : ∀ b, blk wv = some b → blk ev ≠ some b := fun b hb e => w.d2 b e hb
  have leR : Le (rem (xw ov ev wv) hh) (rem (xw ov ev' wv) h3) := Le.rem hext fun i o ho hn => by
    rw [mem_xw] at hn
    obtain ⟨q1, q2⟩ := keep ho (fun e => hn (.inr (.inl e)))
    refine ⟨q1, fun hm => ?_⟩
    rcases mem_xw.1 hm with e | e | e
    · exact hn (.inl e)
    · exact q2 e
    · exact hn (.inr (.inr e))
  refine ⟨h2, ev', h3, by rw [mk1, e2], e3, ⟨w.go.kept fun b o hb ho => (keep ho (ne1 b hb)).1, ?_, ⟨us, gw.kept fun b o hb ho => (keep ho (ne2 b hb)).1, ho1, fun i u y a1 a2 => (hr i u y a1 a2).le .isB leR⟩, fun b hb => ⟨fun e => ?_, (w.d1 b hb).2⟩, fun b hb e => ?_, w.le.trans leR⟩, aAppend_wf wf2 e3⟩
  · have : I64 (ints (ent ++ [x])) = I64 (ints ent) ++ [.int .i64 x] := by simp [I64, ints]
    rw [this]; simpa using g3
  · obtain ⟨o, ho⟩ := Option.ne_none_iff_exists'.1 (w.go.blk_own hb)
    exact (keep ho (ne1 b hb)).2 e
  · obtain ⟨o, ho⟩ := Option.ne_none_iff_exists'.1 (gw.blk_own e)
    exact (keep ho (ne2 b e)).2 hb

theorem RW.pushW (w : RW hh h1 ov ev wv ord ent words) (hwf : WF hh) {u q : Value} {a b : List Int} (hu : RL isB (rem (xw ov ev wv) hh) u a) (hq : RL isB (rem (xw ov ev wv) hh) q b) (hb : words.length ≤ 1000000) :
    ∃ h2 wv' h3, aBuildSlice Try.prog hh 24 2 [(0, u), (1, q)] = some (.slice (some ⟨hh.next, 0, none⟩) 2 2, h2) ∧ aAppend Try.prog h2 24 24 wv (.slice (some ⟨hh.next, 0, none⟩) 2 2) = some (wv', h3) ∧
      RW h3 h1 ov ev wv' ord ent (words ++ [a, b]) ∧ WF h3 ∧ Le hh h2 ∧ (∀ g, Le g hh → Apart g wv → Le g h3) := by
  obtain ⟨us, gw, ho1, hr⟩ := w.gw
  have hbs : aBuildSlice Try.prog hh 24 2 [(0, u), (1, q)] = some (.slice (some ⟨hh.next, 0, none⟩) 2 2, hh.alloc (.cells [u, q])) := by
    obtain ⟨_, _, rfl, _⟩ := hu.sl
    obtain ⟨_, _, rfl, _⟩ := hq.sl
    kernel_rfl
  obtain ⟨h2, e2, le2, wf2, o2⟩ := alloc_f hwf [u, q]
  obtain ⟨wv', h3, e3, g3, hf⟩ := (gw.le le2).append (P := Try.prog) (t := 24) (xt := 24) (by kernel_rfl) (fun e he => (CS.own (k := 1) (off := 0) (n := 2) (cap := 2) o2 (by simp)).src he) ho1 (by simp [hu.one, hq.one]) (by simp) (by omega)
  have keep : ∀ {i : Nat} {o : AObj}, hh.own i = some o → blk wv ≠ some i → h3.own i = some o ∧ blk wv' ≠ some i := fun ho hb => keep_own hf wf2 (le2.own _ _ ho) hb
  have hext : h3.ext = hh.ext := ((hf (rem (bl wv) hh) wf2 ((rem_le _ _).trans le2) (fun b hb => by rw [rem_own, if_pos (mem_bl.2 hb)])).1.ext).trans (rem_ext _)
  have ne1 : ∀ b, blk ov = some b → blk wv ≠ some b := fun b hb => (w.d1 b hb).2
  have ne2 : ∀ b, blk ev = some b → blk wv ≠ some b := w.d2
  have leR : Le (rem (xw ov ev wv) hh) (rem (xw ov ev wv') h3) := Le.rem hext fun i o ho hn => by
    rw [mem_xw] at hn
    obtain ⟨q1, q2⟩ := keep ho (fun e => hn (.inr (.inr e)))
    refine ⟨q1, fun hm => ?_⟩
    rcases mem_xw.1 hm with e | e | e
    · exact hn (.inl e)
    · exact hn (.inr (.inl e))
    · exact q2 e
  have husl : us.length = words.length := by simpa using gw.1
  refine ⟨h2, wv', h3, by rw [hbs, e2], e3, ⟨w.go.kept fun b o hb ho => (keep ho (ne1 b hb)).1, w.ge.kept fun b o hb ho => (keep ho (ne2 b hb)).1, ⟨us ++ [u, q], by simpa using g3, by simp [ho1, hu.one, hq.one], fun i x y h1 h2 => ?_⟩, fun b hb => ⟨(w.d1 b hb).1, fun e => ?_⟩, fun b hb e => ?_, w.le.trans leR⟩, aAppend_wf wf2 e3, le2, fun g e a => (hf g wf2 (e.trans le2) a).1⟩
  · by_cases hi : i < us.length
    · rw [List.getElem?_append_left hi] at h1
      rw [List.getElem?_append_left (by omega)] at h2
      exact (hr i x y h1 h2).le .isB leR
    · rw [List.getElem?_append_right (by omega)] at h1
      rw [List.getElem?_append_right (by omega), ← husl] at h2
      generalize i - us.length = j at h1 h2
      match j, h1, h2 with
      | 0, h1, h2 => simp at h1 h2; subst h1 h2; exact hu.le .isB leR
      | 1, h1, h2 => simp at h1 h2; subst h1 h2; exact hq.le .isB leR
      | j + 2, h1, h2 => simp at h1
  · obtain ⟨o, ho⟩ := Option.ne_none_iff_exists'.1 (w.go.blk_own hb)
    exact (keep ho (ne1 b hb)).2 e
  · obtain ⟨o, ho⟩ := Option.ne_none_iff_exists'.1 (w.ge.blk_own hb)
    exact (keep ho (ne2 b hb)).2 e
end RW
end Go.Fw
