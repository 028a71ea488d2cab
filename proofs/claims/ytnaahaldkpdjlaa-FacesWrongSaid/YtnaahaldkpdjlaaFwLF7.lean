/- A text of the proof. -/
import Derived.Test.YtnaahaldkpdjlaaFwLF6
import Derived.Test.YtnaahaldkpdjlaaFwLB10
import Derived.Test.YtnaahaldkpdjlaaFwLT1
set_option linter.unusedSimpArgs false
set_option linter.unusedVariables false
namespace Go.Fw
open Go.Proofs
set_option maxHeartbeats 16000000
set_option maxRecDepth 10000
attribute [local instance] Classical.propDecidable
noncomputable def cntK {α : Type} (P : Nat → α → Prop) (l : List α) (a : Nat) : Nat := (l.filter fun e => decide (P a e)).length
theorem cntK_le {α : Type} (P : Nat → α → Prop) (l : List α) (a : Nat) : cntK P l a ≤ l.length := List.length_filter_le _ _
theorem cntK_snoc {α : Type} (P : Nat → α → Prop) (l : List α) (e : α) (a : Nat) : cntK P (l ++ [e]) a = cntK P l a + if P a e then 1 else 0 := by
 unfold cntK; rw [List.filter_append, List.length_append]; congr 1
 by_cases h : P a e <;> simp [h]
theorem cntK_step {α : Type} {P : Nat → α → Prop} {l : List α} {e : α} {hs : List Nat} {q : Nat} (hq : q < hs.length) (h1 : P hs[q] e) (h2 : ∀ i (h : i < hs.length), P hs[i] e → i = q) :
  (hs.map fun a => ((cntK P (l ++ [e]) a : Nat) : Int)) = (hs.map fun a => ((cntK P l a : Nat) : Int)).set q (((cntK P l hs[q] : Nat) : Int) + 1) := by
 apply List.ext_getElem
 ·simp
 ·intro i hi hi'
  have hi2 : i < hs.length := by simpa using hi
  rw [List.getElem_map, List.getElem_set]
  by_cases c : q = i
  ·subst c; rw [if_pos rfl, cntK_snoc, if_pos h1]; omega
  ·rw [if_neg c, List.getElem_map, cntK_snoc, if_neg (fun h => c (h2 i hi2 h).symm)]; simp
noncomputable def edK (es l : List Pr) (a : Nat) : Nat := cntK (fun a (e : Pr) => Con es a e.1.toNat) l a
noncomputable def faK (es : List Pr) (l : List (List Int)) (a : Nat) : Nat := cntK (fun a (f : List Int) => Con es a (f.headD 0).toNat) l a
def PlaneM (n : Nat) (es : List Pr) (rs : List (List Int)) : Prop := ∀ a ∈ heads n es, 0 < edK es es a → (compL n es a).length + faK es (facesM n rs) a = edK es es a + 2
def HomeP (n : Nat) (es : List Pr) (i : Nat) (L : List Int) : Prop := L.length = n ∧ ∀ (j a v : Nat), j < i → (heads n es)[j]? = some a → v < n → Con es a v → L[v]? = some (j : Int)
theorem HomeP.zero {n : Nat} {es : List Pr} : HomeP n es 0 (List.replicate n 0) := ⟨by simp, fun j a v h => by omega⟩
theorem heads_at_uniq {n : Nat} {es : List Pr} (hr : InR n es) {i j a b v : Nat} (hi : (heads n es)[i]? = some a) (hj : (heads n es)[j]? = some b) (ha : Con es a v) (hb : Con es b v) : i = j := by
 obtain ⟨hi1, hi2⟩ := List.getElem?_eq_some_iff.1 hi
 obtain ⟨hj1, hj2⟩ := List.getElem?_eq_some_iff.1 hj
 have hab : a = b := heads_uniq (List.mem_of_getElem? hi) (List.mem_of_getElem? hj) (ha.trans (hb.symm))
 have nd := heads_nodup n es
 rw [List.nodup_iff_pairwise_ne, List.pairwise_iff_getElem] at nd
 rcases Nat.lt_trichotomy i j with h | h | h
 ·exact absurd (by rw [hi2, hj2, hab]) (nd i j hi1 hj1 h)
 ·exact h
 ·exact absurd (by rw [hi2, hj2, hab]) (nd j i hj1 hi1 h)
theorem HomeP.put {n : Nat} {es : List Pr} (hr : InR n es) {i a v : Nat} {L : List Int} (H : HomeP n es i L) (hi : (heads n es)[i]? = some a) (hc : Con es a v) : HomeP n es i (L.set v (i : Int)) := by
 refine ⟨by rw [List.length_set]; exact H.1, fun j b w hj hb hw hbw => ?_⟩
 have hne : v ≠ w := fun e => by subst e; have := heads_at_uniq hr hi hb hc hbw; omega
 rw [List.getElem?_set_ne hne]; exact H.2 j b w hj hb hw hbw
theorem HomeP.next {n : Nat} {es : List Pr} {i a : Nat} {L : List Int} (H : HomeP n es i L) (hi : (heads n es)[i]? = some a) (h : ∀ v ∈ compL n es a, L[v]? = some (i : Int)) : HomeP n es (i + 1) L := by
 refine ⟨H.1, fun j b w hj hb hw hbw => ?_⟩
 by_cases c : j = i
 ·subst c; rw [hi] at hb; injection hb with hb; subst hb; exact h w (mem_compL.2 ⟨hw, hbw⟩)
 ·exact H.2 j b w (by omega) hb hw hbw
theorem HomeP.get {n : Nat} {es : List Pr} (hr : InR n es) {L : List Int} (H : HomeP n es (heads n es).length L) {v : Nat} (hv : v < n) : ∃ q, ∃ h : q < (heads n es).length, L[v]? = some (q : Int) ∧ Con es (heads n es)[q] v := by
 obtain ⟨a, ha, hc⟩ := head_ex hr v hv
 obtain ⟨q, hq⟩ := List.mem_iff_getElem?.1 ha
 obtain ⟨h1, h2⟩ := List.getElem?_eq_some_iff.1 hq
 exact ⟨q, h1, H.2 q a v h1 hq hv hc, by rw [h2]; exact hc⟩
theorem heads_idx {n : Nat} {es : List Pr} (hr : InR n es) {q : Nat} (h : q < (heads n es).length) {v : Nat} (hc : Con es (heads n es)[q] v) : ∀ i (h : i < (heads n es).length), Con es (heads n es)[i] v → i = q := fun i hi hci =>
 heads_at_uniq hr (List.getElem?_eq_getElem hi) (List.getElem?_eq_getElem h) hci hc
theorem faceF_head {n : Nat} {r : Nat → List Nat} (R : IsRot n r) {d : Dart} (hd : d ∈ dl n r) : (nat64 (faceF r d)).headD 0 = (d.1 : Int) ∧ 0 < (nat64 (faceF r d)).length := by
 have := (ordr_spec (phi_pm R) hd).1
 have e : List.range (ordr (fph r) d) = 0 :: (List.range' 1 (ordr (fph r) d - 1)) := by
  rw [List.range_eq_range', show ordr (fph r) d = (ordr (fph r) d - 1) + 1 from by omega, List.range'_succ]; simp
 refine ⟨?_, by simp [nat64, faceF, orbL, this]⟩
 simp only [nat64, faceF, orbL, e, List.map_cons, List.headD_cons]; rfl
theorem faces_at {n : Nat} {es : List Pr} {rs : List (List Int)} (hr : InR n es) (ha : Asc es) (G : RotG n es rs) {f : List Int} (hf : f ∈ facesM n rs) : 0 < f.length ∧ ∃ v : Nat, v < n ∧ f.headD 0 = (v : Int) := by
 have R := G.isRot hr ha
 rw [facesM, List.mem_map] at hf
 obtain ⟨g, hg, rfl⟩ := hf
 rw [facesF, List.mem_map] at hg
 obtain ⟨d, hd, rfl⟩ := hg
 have hd1 := (mem_hdsF R).1 hd
 have hdm : d ∈ dl n (rotN rs) := (mem_dl R).2 hd1.1
 obtain ⟨h1, h2⟩ := faceF_head R hdm
 exact ⟨h2, d.1, ((G.mem hr).1 hd1.1).lt hr |>.1, h1⟩
theorem facesM_len {n : Nat} {es : List Pr} {rs : List (List Int)} (hn : n ≤ 200) : (facesM n rs).length ≤ 40000 := by
 have h0 : ddl n (rotN rs) = ddl n (rotN rs) ++ [] := (List.append_nil _).symm
 have := fac_len hn h0
 rw [facesP_all] at this
 omega
theorem stI {hh : AHeap} {T : Nat} {L : List Int} {i : Nat} (o : hh.own T = some (.cells (I64 L))) (hi : i < L.length) (x : Int) :
  aStore Try.prog hh 3 (.pointer (some ⟨T, i, none⟩)) (.int .i64 x) = some (hh.put T (.cells (I64 (L.set i x)))) := by
 rw [aStore1 (P := Try.prog) (t := 3) (x := .int .i64 x) Try.underlying3 (by kernel_rfl) o (off := i) (by rw [I64_length]; exact hi) rfl rfl, I64_set]
theorem ldI {hh : AHeap} {T : Nat} {L : List Int} {i : Nat} {l : Int} (o : hh.own T = some (.cells (I64 L))) (hl : L[i]? = some l) : aload Try.prog hh 3 ⟨T, i, none⟩ = some (.int .i64 l) := by
 rw [aload_one Try.underlying3 rfl o]; simp [I64, hl]
theorem ixI (T m : Nat) (k : IntKind) (j : Nat) (hj : j < m) : aIndexAddr Try.prog 38 (.slice (some ⟨T, 0, none⟩) m m) (.int k j) = some (.pointer (some ⟨T, j, none⟩)) := by
 rw [aIdx Try.underlying38 Try.underlying3 (by kernel_rfl) j hj]; simp [aadd]
structure NewT3 (h h' : AHeap) (A B C : Nat) (x : List Value) : Prop where
 le : Le h h'
 wf : WF h'
 oA : h'.own A = some (.cells x)
 oB : h'.own B = some (.cells x)
 oC : h'.own C = some (.cells x)
 nA : h.own A = none
 nB : h.own B = none
 nC : h.own C = none
 ab : A ≠ B
 ac : A ≠ C
 bc : B ≠ C
theorem new3 {h : AHeap} (hw : WF h) (x : List Value) : NewT3 h (((h.alloc (.cells x)).alloc (.cells x)).alloc (.cells x)) h.next (h.next + 1) (h.next + 1 + 1) x := by
 have hn : ∀ x, h.next ≤ x → h.own x = none := fun x hx => (Le.refl h).next hw hx
 have e0 : h.next + 1 + 1 ≠ h.next := by omega
 have e1 : h.next + 1 + 1 ≠ h.next + 1 := by omega
 have e2 : h.next + 1 ≠ h.next := by omega
 exact ⟨(((Le.refl h).alloc hw _).alloc (hw.alloc _) _).alloc ((hw.alloc _).alloc _) _, ((hw.alloc _).alloc _).alloc _, by simp [own_alloc, next_alloc], by simp [own_alloc, next_alloc], by simp [own_alloc, next_alloc], hn _ (Nat.le_refl _), hn _ (by omega), hn _ (by omega), by omega, by omega, by omega⟩
theorem NewT3.s12 {h h' : AHeap} {A B C : Nat} {x : List Value} (N : NewT3 h h' A B C x) : NewT3 h h' B A C x := ⟨N.le, N.wf, N.oB, N.oA, N.oC, N.nB, N.nA, N.nC, N.ab.symm, N.bc, N.ac⟩
theorem NewT3.s23 {h h' : AHeap} {A B C : Nat} {x : List Value} (N : NewT3 h h' A B C x) : NewT3 h h' A C B x := ⟨N.le, N.wf, N.oA, N.oC, N.oB, N.nA, N.nC, N.nB, N.ac, N.ab, N.bc.symm⟩
end Go.Fw
