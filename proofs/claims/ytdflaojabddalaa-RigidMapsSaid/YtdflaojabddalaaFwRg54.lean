/- One of the texts of the layer and the walks: it proves what its theorems say of the functions of the seat, with no condition beyond theirs. -/
import Derived.Test.YtdflaojabddalaaFwRg53
set_option linter.unusedSimpArgs false
set_option linter.unusedVariables false
namespace Go.Fw
open Go.Proofs
set_option maxHeartbeats 1000000
set_option maxRecDepth 10000

/- one continuation for several ways -/
theorem byOne {ι : Type} {F : ι → Prop} {A : Prop} (Φ : ι → Prop) (h1 : (∀ x, F x → Φ x) → A) (h2 : ∀ x, F x → Φ x) : A := h1 h2

theorem byOne2 {ι κ : Type} {F : ι → κ → Prop} {A : Prop} (Φ : ι → κ → Prop) (h1 : (∀ x y, F x y → Φ x y) → A) (h2 : ∀ x y, F x y → Φ x y) : A := h1 h2
theorem KN.gen2 {P : Program} {W0 : World} {N : Nat} {ks : List Kt} {R : Exit → AFrame → AHeap → Prop} {fr : AFrame} {h : AHeap} (q : ∀ fr' h', fr' = fr → h' = h → KN P W0 N ks R fr' h') : KN P W0 N ks R fr h := q fr h rfl rfl
theorem KN.gen {P : Program} {W0 : World} {N : Nat} {ks : List Kt} {R : Exit → AFrame → AHeap → Prop} {fr : AFrame} {h : AHeap} (q : ∀ fr', fr' = fr → KN P W0 N ks R fr' h) : KN P W0 N ks R fr h := q fr rfl

theorem setA_id {α : Type} (g : Nat → α) (z : List α) : setA (fun i => i) g z z.length = (List.range z.length).map g := by
  apply List.ext_getElem?
  intro i
  by_cases hi : i < z.length
  · rw [setA_at (f := fun i => i) rfl (fun v hv => hv) (fun v w _ _ e => e) z.length (Nat.le_refl _) hi]
    simp [hi]
  · rw [List.getElem?_eq_none (by rw [setA_length]; omega), List.getElem?_eq_none (by simp; omega)]

/- the list of those that are free, without one -/
theorem free_step {h : AHeap} {fv : Value} {n a : Nat} {cs : List Value} (g : GS 1 h fv n cs) (ha : a < n) (hn : n ≤ 1000) (hc : cs.all (·.oneCell') = true) :
    ∃ s1 s2 v' h', aSlice Try.prog 31 fv none (some (.int .i64 a)) (some (.int .i64 a)) = some s1 ∧ aSlice Try.prog 31 fv (some (.int .i64 ((a + 1 : Nat) : Int))) none none = some s2 ∧ aAppend Try.prog h 31 31 s1 s2 = some (v', h') ∧
      GS 1 h' v' (n - 1) (cs.eraseIdx a) ∧ ∀ f, WF h → Le f h → Apart f fv → Le f h' ∧ Apart f v' := by
  have hcl := g.1
  obtain ⟨hl, ⟨rfl, q⟩ | ⟨id, c, cap, rfl, ho, ht, hcap⟩⟩ := g
  · omega
  have z0 : (0 : Int) ≤ (a : Int) := by omega
  have z1 : (0 : Int) ≤ ((a + 1 : Nat) : Int) := by omega
  have z2 : ((a + 1 : Nat) : Int) ≤ (n : Int) := by omega
  have z3 : (a : Int) ≤ (n : Int) := by omega
  have hU : (1000 : Nat) < UNK := by decide
  have k1 : aSlice Try.prog 31 (.slice (some ⟨id, 0, none⟩) n cap) none (some (.int .i64 a)) (some (.int .i64 a)) = some (.slice (some ⟨id, 0, none⟩) a a) := by
    have hts : tsize Try.prog 3 = 1 := by kernel_rfl
    rcases hcap with rfl | ⟨rfl, hlt⟩
    · have h2 : a < UNK := by omega
      simp [aSlice, Try.underlying31, hts, Try.underlying3, aBounds, aBound, z0, z3, h2, aadd]
      omega
    · have h1 : ¬ UNK ≤ cap := by omega
      simp [aSlice, Try.underlying31, h1, Try.underlying3, aBounds, aBound, z0, z3, aadd]
  have hc31 : c.take n = cs := by rw [← ht, Nat.mul_one]
  have hcn : n ≤ c.length := by have := hl; rw [← hc31, List.length_take] at this; omega
  have hcs2 : ∃ s2, aSlice Try.prog 31 (.slice (some ⟨id, 0, none⟩) n cap) (some (.int .i64 ((a + 1 : Nat) : Int))) none none = some s2 ∧ CS 1 h s2 (n - (a + 1)) (cs.drop (a + 1)) := by
    have hts : tsize Try.prog 3 = 1 := by kernel_rfl
    have hown : ∀ cap', CS 1 h (.slice (some ⟨id, a + 1, none⟩) (n - (a + 1)) cap') (n - (a + 1)) (cs.drop (a + 1)) := fun cap' => by
      have := CS.own (k := 1) (off := a + 1) (n := n - (a + 1)) (cap := cap') ho (by omega)
      rw [Nat.mul_one] at this
      have e : (c.drop (a + 1)).take (n - (a + 1)) = cs.drop (a + 1) := by
        rw [← hc31, List.drop_take]
      rwa [e] at this
    rcases hcap with rfl | ⟨rfl, hlt⟩
    · refine ⟨.slice (some ⟨id, a + 1, none⟩) (n - (a + 1)) (UNK + 1), ?_, hown _⟩
      simp only [aSlice, Try.underlying31, hts, Try.underlying3, aBounds, aBound, z1, z2]
      simp [aadd]
    · by_cases e : a + 1 = cap
      · refine ⟨.slice (some ⟨id, 0, none⟩) 0 0, ?_, ?_⟩
        · have h1 : ¬ UNK ≤ cap := by omega
          simp only [aSlice, Try.underlying31, h1, Try.underlying3, aBounds, aBound, z1, z2]
          simp [← e]
        · have e2 : cs.drop (a + 1) = [] := List.drop_eq_nil_of_le (by omega)
          rw [e2, show cap - (a + 1) = 0 by omega]
          exact ⟨⟨_, 0, rfl, by simp⟩, rfl, by simp⟩
      · have := aSlice_lo (P := Try.prog) (t := 31) (n := cap) (cap := cap) (a := some ⟨id, 0, none⟩) Try.underlying31 Try.underlying3 hts (k := .i64) (a + 1) (by omega) (.inr (by omega)) (Nat.le_refl _) (by omega)
        refine ⟨_, this, ?_⟩
        simp only [Option.map_some, aadd, Nat.zero_add]
        exact hown _
  obtain ⟨s2, k2, c2⟩ := hcs2
  have g1 : GS 1 h (.slice (some ⟨id, 0, none⟩) a a) a (cs.take a) := ⟨by rw [List.length_take]; omega, .inr ⟨id, c, a, rfl, ho, by rw [Nat.mul_one, ← hc31, List.take_take]; congr 1; omega, .inr ⟨rfl, by omega⟩⟩⟩
  have hc' : ∀ x ∈ cs, x.oneCell' = true := List.all_eq_true.1 hc
  obtain ⟨v', h', e, g', hf⟩ := g1.append (P := Try.prog) (t := 31) (xt := 31) (by kernel_rfl) (fun e he => c2.src he) (List.all_eq_true.2 fun x hx => hc' x (List.mem_of_mem_take hx)) (List.all_eq_true.2 fun x hx => hc' x (List.mem_of_mem_drop hx)) (by rw [List.length_drop]; omega) (by omega)
  refine ⟨_, s2, v', h', k1, k2, e, ?_, fun f hw l a => hf f hw l a⟩
  rw [List.eraseIdx_eq_take_drop_succ, show n - 1 = a + (n - (a + 1)) by omega]
  exact g'

/- one element more in a slice that stands in a cell -/
theorem grow {h : AHeap} (hwf : WF h) {G : AHeap} {R w q t : Nat} {us cells : List Value} {cu x : Value} {d : TypeDesc} (ht : apT Try.prog t t 1 = true) (hu : Try.prog.underlying t = some d) (hts : tsize Try.prog t = 1)
    (oR : h.own R = some (.cells us)) (hw : w < us.length) (g : GS 1 h cu q cells) (hc : cells.all (·.oneCell') = true) (hx : x.oneCell' = true) (hq : q ≤ 1000) (nR : blk cu ≠ some R) (le : Le G h) (gR : G.own R = none) (ap : Apart G cu) :
    ∃ cu' h5 h6, aAppend Try.prog (h.alloc (.cells [x])) t t cu (.slice (some ⟨h.next, 0, none⟩) 1 1) = some (cu', h5) ∧ aStore Try.prog h5 t (.pointer (some ⟨R, w, none⟩)) cu' = some h6 ∧ GS 1 h6 cu' (q + 1) (cells ++ [x]) ∧
      h6.own R = some (.cells (us.set w cu')) ∧ blk cu' ≠ some R ∧ Apart G cu' ∧ Le G (h.alloc (.cells [x])) ∧ Le G h5 ∧ Le G h6 ∧ (∀ b o, h.own b = some o → b ≠ R → blk cu ≠ some b → h6.own b = some o ∧ blk cu' ≠ some b) ∧ h5.own R = some (.cells us) ∧ (h.alloc (.cells [x])).own R = some (.cells us) ∧ WF h6 := by
  obtain ⟨h4, e4, le4, wf4, o4⟩ := alloc_f hwf [x]
  rw [e4]
  obtain ⟨cu', h5, e5, g5, hf⟩ := (g.le le4).push (P := Try.prog) (t := t) ht o4 hc hx (by omega)
  obtain ⟨q1, q2⟩ := keep_own hf wf4 (le4.own _ _ oR) nR
  obtain ⟨l5, a5⟩ := hf G wf4 (le.trans le4) ap
  have wf5 : WF h5 := aAppend_wf wf4 e5
  have sl := g5.cs.sl
  have st := aStore1 (P := Try.prog) (t := t) (x := cu') hu hts q1 (off := w) hw (by obtain ⟨_, _, rfl, _⟩ := sl; rfl) sl.one
  refine ⟨cu', h5, _, e5, st, g5.put _ q2, AHeap.own_put_eq _ _ _, q2, a5, le.trans le4, l5, l5.put _ gR, fun b o hb hbR hbc => ?_, q1, le4.own _ _ oR, wf5.put _ (wf5.lt q1)⟩
  obtain ⟨r1, r2⟩ := keep_own hf wf4 (le4.own _ _ hb) hbc
  exact ⟨by rw [AHeap.own_put_ne _ _ _ _ hbR]; exact r1, r2⟩

theorem setA_all {α : Type} {f : Nat → Nat} {g : Nat → α} {z : List α} {p : α → Prop} (hz : ∀ x ∈ z, p x) (hg : ∀ i, p (g i)) : ∀ k, ∀ x ∈ setA f g z k, p x
  | 0 => hz
  | k + 1 => fun x hx => by
    rcases List.mem_or_eq_of_mem_set hx with h | rfl
    · exact setA_all hz hg k x h
    · exact hg k
theorem names_small {S : SkinM} (h : SmallM S) (f : Nat → Nat) (ab : Bool) (turns : List Int) (k : Nat) : SmallM (skinA S f ab turns k) := by
  have hrep : ∀ {α : Type} {n : Nat} {x : List α}, x ∈ List.replicate n ([] : List α) → x = [] := fun hx => List.eq_of_mem_replicate hx
  have h1 := h.rot
  refine ⟨?_, ?_, ?_, ?_, ?_, ?_, ?_⟩
  · simp only [skinA, setA_length, List.length_replicate]; exact h1
  · simp only [skinA, setA_length, List.length_replicate]; exact h1
  · simp only [skinA, setA_length, List.length_replicate]; exact h1
  · exact setA_all (p := fun l : List Int => l.length ≤ 14) (fun x hx => by rw [hrep hx]; simp) (fun i => by rw [rowN_length]; exact dg_le h i) k
  · exact setA_all (p := fun l : List Int => l.length ≤ 40) (fun x hx => by rw [hrep hx]; simp) (fun i => colV_le h i) k
  · exact setA_all (p := fun l : List (List Int) => l.length ≤ 14) (fun x hx => by rw [hrep hx]; simp) (fun i => by rw [rowD_length]; exact dg_le h i) k
  · exact setA_all (p := fun l : List (List Int) => ∀ c ∈ l, c.length ≤ 40) (fun x hx => by rw [hrep hx]; simp) (fun i c hc => by
      simp only [rowD, List.mem_map] at hc
      obtain ⟨j, _, rfl⟩ := hc
      exact colD_le h _ _) k

/- four new blocks: three rows of n cells, and the three cells that hold them -/
structure New4 (h h' : AHeap) (n R V D W : Nat) : Prop where
  le : Le h h'
  wf : WF h'
  oR : h'.own R = some (.cells (List.replicate n (.slice none 0 0)))
  oV : h'.own V = some (.cells (List.replicate n (.slice none 0 0)))
  oD : h'.own D = some (.cells (List.replicate n (.slice none 0 0)))
  oW : h'.own W = some (.cells [.slice (some ⟨R, 0, none⟩) n n, .slice (some ⟨V, 0, none⟩) n n, .slice (some ⟨D, 0, none⟩) n n])
  nR : h.own R = none
  nV : h.own V = none
  nD : h.own D = none
  nW : h.own W = none
  d1 : R ≠ V
  d2 : R ≠ D
  d3 : V ≠ D
  d4 : R ≠ W
  d5 : V ≠ W
  d6 : D ≠ W
def nil3 : AObj := .cells [.slice none 0 0, .slice none 0 0, .slice none 0 0]
def nilN (n : Nat) : AObj := .cells (List.replicate n (.slice none 0 0))
theorem nil3_eq : nil3 = .cells [.slice none 0 0, .slice none 0 0, .slice none 0 0] := rfl
theorem nilN_eq (n : Nat) : nilN n = .cells (List.replicate n (.slice none 0 0)) := rfl
theorem new4_0 {h : AHeap} (hw : WF h) {n R V D : Nat} (r1 : h.next ≤ R) (r2 : R < h.next + 4) (r3 : R ≠ h.next + 0) (v1 : h.next ≤ V) (v2 : V < h.next + 4) (v3 : V ≠ h.next + 0) (d1 : h.next ≤ D) (d2 : D < h.next + 4) (d3 : D ≠ h.next + 0) (e1 : R ≠ V) (e2 : R ≠ D) (e3 : V ≠ D) :
    ((((h.alloc nil3).alloc (nilN n)).alloc (nilN n)).alloc (nilN n)).own (h.next) = some nil3 ∧ New4 h (((((h.alloc nil3).alloc (nilN n)).alloc (nilN n)).alloc (nilN n)).put (h.next) (.cells [.slice (some ⟨R, 0, none⟩) n n, .slice (some ⟨V, 0, none⟩) n n, .slice (some ⟨D, 0, none⟩) n n])) n R V D (h.next) := by
  have hn : ∀ x, h.next ≤ x → h.own x = none := fun x hx => (Le.refl h).next hw hx
  have wf := (((hw.alloc nil3).alloc (nilN n)).alloc (nilN n)).alloc (nilN n)
  have oth : ∀ x o, h.next ≤ x → x < h.next + 4 → x ≠ h.next + 0 → (((((h.alloc nil3).alloc (nilN n)).alloc (nilN n)).alloc (nilN n)).put (h.next) o).own x = some (nilN n) := by
    intro x o h1 h2 h3
    rw [own_put, if_neg (by omega)]
    simp only [own_alloc, next_alloc]
    have : x = h.next ∨ x = h.next + 1 ∨ x = h.next + 2 ∨ x = h.next + 3 := by omega
    rcases this with rfl | rfl | rfl | rfl <;> simp [Nat.add_assoc] at h3 ⊢
  have oW : ((((h.alloc nil3).alloc (nilN n)).alloc (nilN n)).alloc (nilN n)).own (h.next) = some nil3 := by simp [own_alloc, next_alloc, Nat.add_assoc]
  refine ⟨oW, ?_, wf.put _ (wf.lt oW), oth R _ r1 r2 r3, oth V _ v1 v2 v3, oth D _ d1 d2 d3, AHeap.own_put_eq _ _ _, hn R r1, hn V v1, hn D d1, hn _ (by omega), e1, e2, e3, by omega, by omega, by omega⟩
  exact (((((Le.refl h).alloc hw _).alloc (hw.alloc _) _).alloc ((hw.alloc _).alloc _) _).alloc (((hw.alloc _).alloc _).alloc _) _).put _ (hn _ (by omega))
theorem new4_1 {h : AHeap} (hw : WF h) {n R V D : Nat} (r1 : h.next ≤ R) (r2 : R < h.next + 4) (r3 : R ≠ h.next + 1) (v1 : h.next ≤ V) (v2 : V < h.next + 4) (v3 : V ≠ h.next + 1) (d1 : h.next ≤ D) (d2 : D < h.next + 4) (d3 : D ≠ h.next + 1) (e1 : R ≠ V) (e2 : R ≠ D) (e3 : V ≠ D) :
    ((((h.alloc (nilN n)).alloc nil3).alloc (nilN n)).alloc (nilN n)).own (h.next + 1) = some nil3 ∧ New4 h (((((h.alloc (nilN n)).alloc nil3).alloc (nilN n)).alloc (nilN n)).put (h.next + 1) (.cells [.slice (some ⟨R, 0, none⟩) n n, .slice (some ⟨V, 0, none⟩) n n, .slice (some ⟨D, 0, none⟩) n n])) n R V D (h.next + 1) := by
  have hn : ∀ x, h.next ≤ x → h.own x = none := fun x hx => (Le.refl h).next hw hx
  have wf := (((hw.alloc (nilN n)).alloc nil3).alloc (nilN n)).alloc (nilN n)
  have oth : ∀ x o, h.next ≤ x → x < h.next + 4 → x ≠ h.next + 1 → (((((h.alloc (nilN n)).alloc nil3).alloc (nilN n)).alloc (nilN n)).put (h.next + 1) o).own x = some (nilN n) := by
    intro x o h1 h2 h3
    rw [own_put, if_neg (by omega)]
    simp only [own_alloc, next_alloc]
    have : x = h.next ∨ x = h.next + 1 ∨ x = h.next + 2 ∨ x = h.next + 3 := by omega
    rcases this with rfl | rfl | rfl | rfl <;> simp [Nat.add_assoc] at h3 ⊢
  have oW : ((((h.alloc (nilN n)).alloc nil3).alloc (nilN n)).alloc (nilN n)).own (h.next + 1) = some nil3 := by simp [own_alloc, next_alloc, Nat.add_assoc]
  refine ⟨oW, ?_, wf.put _ (wf.lt oW), oth R _ r1 r2 r3, oth V _ v1 v2 v3, oth D _ d1 d2 d3, AHeap.own_put_eq _ _ _, hn R r1, hn V v1, hn D d1, hn _ (by omega), e1, e2, e3, by omega, by omega, by omega⟩
  exact (((((Le.refl h).alloc hw _).alloc (hw.alloc _) _).alloc ((hw.alloc _).alloc _) _).alloc (((hw.alloc _).alloc _).alloc _) _).put _ (hn _ (by omega))
theorem new4_2 {h : AHeap} (hw : WF h) {n R V D : Nat} (r1 : h.next ≤ R) (r2 : R < h.next + 4) (r3 : R ≠ h.next + 2) (v1 : h.next ≤ V) (v2 : V < h.next + 4) (v3 : V ≠ h.next + 2) (d1 : h.next ≤ D) (d2 : D < h.next + 4) (d3 : D ≠ h.next + 2) (e1 : R ≠ V) (e2 : R ≠ D) (e3 : V ≠ D) :
    ((((h.alloc (nilN n)).alloc (nilN n)).alloc nil3).alloc (nilN n)).own (h.next + 1 + 1) = some nil3 ∧ New4 h (((((h.alloc (nilN n)).alloc (nilN n)).alloc nil3).alloc (nilN n)).put (h.next + 1 + 1) (.cells [.slice (some ⟨R, 0, none⟩) n n, .slice (some ⟨V, 0, none⟩) n n, .slice (some ⟨D, 0, none⟩) n n])) n R V D (h.next + 1 + 1) := by
  have hn : ∀ x, h.next ≤ x → h.own x = none := fun x hx => (Le.refl h).next hw hx
  have wf := (((hw.alloc (nilN n)).alloc (nilN n)).alloc nil3).alloc (nilN n)
  have oth : ∀ x o, h.next ≤ x → x < h.next + 4 → x ≠ h.next + 2 → (((((h.alloc (nilN n)).alloc (nilN n)).alloc nil3).alloc (nilN n)).put (h.next + 1 + 1) o).own x = some (nilN n) := by
    intro x o h1 h2 h3
    rw [own_put, if_neg (by omega)]
    simp only [own_alloc, next_alloc]
    have : x = h.next ∨ x = h.next + 1 ∨ x = h.next + 2 ∨ x = h.next + 3 := by omega
    rcases this with rfl | rfl | rfl | rfl <;> simp [Nat.add_assoc] at h3 ⊢
  have oW : ((((h.alloc (nilN n)).alloc (nilN n)).alloc nil3).alloc (nilN n)).own (h.next + 1 + 1) = some nil3 := by simp [own_alloc, next_alloc, Nat.add_assoc]
  refine ⟨oW, ?_, wf.put _ (wf.lt oW), oth R _ r1 r2 r3, oth V _ v1 v2 v3, oth D _ d1 d2 d3, AHeap.own_put_eq _ _ _, hn R r1, hn V v1, hn D d1, hn _ (by omega), e1, e2, e3, by omega, by omega, by omega⟩
  exact (((((Le.refl h).alloc hw _).alloc (hw.alloc _) _).alloc ((hw.alloc _).alloc _) _).alloc (((hw.alloc _).alloc _).alloc _) _).put _ (hn _ (by omega))
theorem new4_3 {h : AHeap} (hw : WF h) {n R V D : Nat} (r1 : h.next ≤ R) (r2 : R < h.next + 4) (r3 : R ≠ h.next + 3) (v1 : h.next ≤ V) (v2 : V < h.next + 4) (v3 : V ≠ h.next + 3) (d1 : h.next ≤ D) (d2 : D < h.next + 4) (d3 : D ≠ h.next + 3) (e1 : R ≠ V) (e2 : R ≠ D) (e3 : V ≠ D) :
    ((((h.alloc (nilN n)).alloc (nilN n)).alloc (nilN n)).alloc nil3).own (h.next + 1 + 1 + 1) = some nil3 ∧ New4 h (((((h.alloc (nilN n)).alloc (nilN n)).alloc (nilN n)).alloc nil3).put (h.next + 1 + 1 + 1) (.cells [.slice (some ⟨R, 0, none⟩) n n, .slice (some ⟨V, 0, none⟩) n n, .slice (some ⟨D, 0, none⟩) n n])) n R V D (h.next + 1 + 1 + 1) := by
  have hn : ∀ x, h.next ≤ x → h.own x = none := fun x hx => (Le.refl h).next hw hx
  have wf := (((hw.alloc (nilN n)).alloc (nilN n)).alloc (nilN n)).alloc nil3
  have oth : ∀ x o, h.next ≤ x → x < h.next + 4 → x ≠ h.next + 3 → (((((h.alloc (nilN n)).alloc (nilN n)).alloc (nilN n)).alloc nil3).put (h.next + 1 + 1 + 1) o).own x = some (nilN n) := by
    intro x o h1 h2 h3
    rw [own_put, if_neg (by omega)]
    simp only [own_alloc, next_alloc]
    have : x = h.next ∨ x = h.next + 1 ∨ x = h.next + 2 ∨ x = h.next + 3 := by omega
    rcases this with rfl | rfl | rfl | rfl <;> simp [Nat.add_assoc] at h3 ⊢
  have oW : ((((h.alloc (nilN n)).alloc (nilN n)).alloc (nilN n)).alloc nil3).own (h.next + 1 + 1 + 1) = some nil3 := by simp [own_alloc, next_alloc, Nat.add_assoc]
  refine ⟨oW, ?_, wf.put _ (wf.lt oW), oth R _ r1 r2 r3, oth V _ v1 v2 v3, oth D _ d1 d2 d3, AHeap.own_put_eq _ _ _, hn R r1, hn V v1, hn D d1, hn _ (by omega), e1, e2, e3, by omega, by omega, by omega⟩
  exact (((((Le.refl h).alloc hw _).alloc (hw.alloc _) _).alloc ((hw.alloc _).alloc _) _).alloc (((hw.alloc _).alloc _).alloc _) _).put _ (hn _ (by omega))

def EL {α : Type} (Q : Value → α → Prop) (us : List Value) (xs : List α) : Prop := us.length = xs.length ∧ ∀ (i : Nat) x u, xs[i]? = some x → us[i]? = some u → Q u x
theorem EL.mono {α : Type} {Q Q' : Value → α → Prop} {us : List Value} {xs : List α} (e : EL Q us xs) (h : ∀ u x, Q u x → Q' u x) : EL Q' us xs := ⟨e.1, fun i x u hx hu => h u x (e.2 i x u hx hu)⟩
theorem EL.set {α : Type} {Q : Value → α → Prop} {us : List Value} {xs : List α} (e : EL Q us xs) (w : Nat) {u : Value} {x : α} (h : Q u x) : EL Q (us.set w u) (xs.set w x) := by
  refine ⟨by simp [e.1], fun i y v hy hv => ?_⟩
  rw [List.getElem?_set] at hy hv
  by_cases hi : w = i
  · subst hi
    simp only [if_true] at hy hv
    split at hy
    · rename_i hl
      rw [if_pos (by rw [e.1]; exact hl)] at hv
      injection hy with hy; injection hv with hv; subst hy hv; exact h
    · cases hy
  · rw [if_neg hi] at hy hv; exact e.2 i y v hy hv
theorem EL.snoc {α : Type} {Q : Value → α → Prop} {us : List Value} {xs : List α} (e : EL Q us xs) {u : Value} {x : α} (h : Q u x) : EL Q (us ++ [u]) (xs ++ [x]) := by
  refine ⟨by simp [e.1], fun i y v hy hv => ?_⟩
  have hl := e.1
  by_cases hi : i < us.length
  · rw [List.getElem?_append_left hi] at hv
    rw [List.getElem?_append_left (by omega)] at hy
    exact e.2 i y v hy hv
  · rw [List.getElem?_append_right (by omega)] at hv hy
    have : i - us.length = 0 := by have := (List.getElem?_eq_some_iff.1 hv).1; simp at this; omega
    rw [this] at hv
    rw [show i - xs.length = 0 by omega] at hy
    simp at hv hy; subst hv hy; exact h
theorem EL.rl {α : Type} {Q : AHeap → Value → α → Prop} {h : AHeap} {B n c : Nat} {us : List Value} {xs : List α} (ho : h.own B = some (.cells us)) (e : EL (Q h) us xs) (hn : us.length = n) : RL Q h (.slice (some ⟨B, 0, none⟩) n c) xs :=
  ⟨us, RS.whole ho hn, e.1, fun i x u hx hu => e.2 i x u hx hu⟩
theorem EL.nils {α : Type} {Q : Value → List α → Prop} (h : Q (.slice none 0 0) []) (n : Nat) : EL Q (List.replicate n (.slice none 0 0)) (List.replicate n []) := by
  refine ⟨by simp, fun i x u hx hu => ?_⟩
  rw [List.getElem?_replicate] at hx hu
  split at hx
  · rename_i hi
    rw [if_pos hi] at hu
    injection hx with hx; injection hu with hu
    subst hx hu; exact h
  · cases hx

/- the new skin, as far as it is made -/
structure OSk (b0 h : AHeap) (n R V D W : Nat) (f : Nat → Nat) (k : Nat) (T : SkinM) (us vs ds : List Value) : Prop where
  oR : h.own R = some (.cells us)
  oV : h.own V = some (.cells vs)
  oD : h.own D = some (.cells ds)
  oW : h.own W = some (.cells [.slice (some ⟨R, 0, none⟩) n n, .slice (some ⟨V, 0, none⟩) n n, .slice (some ⟨D, 0, none⟩) n n])
  rot : EL (RL isI (rem [R, V, D] h)) us T.rot
  vert : EL (RL isB (rem [R, V, D] h)) vs T.vert
  dart : EL (RL (RL isB) (rem [R, V, D] h)) ds T.dart
  le : Le b0 (rem [R, V, D] h)
  nil : ∀ w, w < n → (∀ v, v < k → f v ≠ w) → us[w]? = some (.slice none 0 0) ∧ ds[w]? = some (.slice none 0 0)
theorem New4.start {b0 h : AHeap} {n R V D W : Nat} (N : New4 b0 h n R V D W) (f : Nat → Nat) {S : SkinM} (ab : Bool) (turns : List Int) (hn : S.rot.length = n) :
    OSk b0 h n R V D W f 0 (skinA S f ab turns 0) (List.replicate n (.slice none 0 0)) (List.replicate n (.slice none 0 0)) (List.replicate n (.slice none 0 0)) := by
  subst hn
  refine ⟨N.oR, N.oV, N.oD, N.oW, EL.nils RL.nil _, EL.nils RL.nil _, EL.nils RL.nil _, N.le.of_none fun i hi => ?_, fun w hw _ => by simp [hw]⟩
  simp only [List.mem_cons, List.not_mem_nil, or_false] at hi
  rcases hi with rfl | rfl | rfl
  · exact N.nR
  · exact N.nV
  · exact N.nD
theorem OSk.skin {b0 h : AHeap} {n R V D W : Nat} {f : Nat → Nat} {k : Nat} {T : SkinM} {us vs ds : List Value} (o : OSk b0 h n R V D W f k T us vs ds) (h1 : T.rot.length = n) (h2 : T.vert.length = n) (h3 : T.dart.length = n) :
    SkinR h (.slice (some ⟨R, 0, none⟩) n n) (.slice (some ⟨V, 0, none⟩) n n) (.slice (some ⟨D, 0, none⟩) n n) T :=
  ⟨EL.rl o.oR (o.rot.mono fun _ _ q => q.le .isI (rem_le _ _)) (by rw [o.rot.1, h1]), EL.rl o.oV (o.vert.mono fun _ _ q => q.le .isB (rem_le _ _)) (by rw [o.vert.1, h2]), EL.rl o.oD (o.dart.mono fun _ _ q => q.le (.RL .isB) (rem_le _ _)) (by rw [o.dart.1, h3])⟩
theorem skinA_lens (S : SkinM) (f : Nat → Nat) (ab : Bool) (turns : List Int) (k : Nat) : (skinA S f ab turns k).rot.length = S.rot.length ∧ (skinA S f ab turns k).vert.length = S.rot.length ∧ (skinA S f ab turns k).dart.length = S.rot.length := by
  simp [skinA, setA_length]

/- a row under way -/
structure Rowk (b0 h : AHeap) (R V D w : Nat) (us vs ds : List Value) (cu cd : Value) (xs : List Int) (els : List Value) (cols : List (List Int)) : Prop where
  oR : h.own R = some (.cells (us.set w cu))
  oV : h.own V = some (.cells vs)
  oD : h.own D = some (.cells (ds.set w cd))
  gu : GS 1 h cu xs.length (I64 xs)
  gd : GS 1 h cd els.length els
  one : els.all (·.oneCell') = true
  el : EL (RL isB b0) els cols
  le : Le b0 h
  uR : blk cu ≠ some R
  uV : blk cu ≠ some V
  uD : blk cu ≠ some D
  dR : blk cd ≠ some R
  dV : blk cd ≠ some V
  dD : blk cd ≠ some D
  ud : ∀ b, blk cd = some b → blk cu ≠ some b
  au : Apart b0 cu
  ad : Apart b0 cd

section
variable {b0 h : AHeap} {R V D w : Nat} {us vs ds : List Value} {cu cd : Value} {xs : List Int} {els : List Value} {cols : List (List Int)}
theorem Rowk.stepU (k : Rowk b0 h R V D w us vs ds cu cd xs els cols) (hwf : WF h) (hw : w < us.length) (x : Int) (bR : b0.own R = none) (hq : xs.length ≤ 1000) (dRV : R ≠ V) (dRD : R ≠ D) :
    ∃ cu' h4 h5 h6, h.alloc (.cells [.int .i64 x]) = h4 ∧ aAppend Try.prog h4 31 31 cu (.slice (some ⟨h.next, 0, none⟩) 1 1) = some (cu', h5) ∧ aStore Try.prog h5 31 (.pointer (some ⟨R, w, none⟩)) cu' = some h6 ∧ Le b0 h4 ∧ Le b0 h5 ∧
      h4.own R = some (.cells (us.set w cu)) ∧ h5.own R = some (.cells (us.set w cu)) ∧ WF h6 ∧ Rowk b0 h6 R V D w us vs ds cu' cd (xs ++ [x]) els cols := by
  obtain ⟨cu', h5, h6, e1, e2, g, oR, uR, au, l4, l5, l6, keep, o5, o4, wf⟩ := grow hwf (G := b0) (t := 31) (x := .int .i64 x) (by kernel_rfl) Try.underlying31 (by kernel_rfl) k.oR (by rw [List.length_set]; exact hw) k.gu (I64_one _) rfl hq k.uR k.le bR k.au
  rw [List.set_set] at oR
  have ee : I64 xs ++ [.int .i64 x] = I64 (xs ++ [x]) := by simp [I64]
  refine ⟨cu', _, h5, h6, rfl, e1, e2, l4, l5, o4, o5, wf, oR, (keep _ _ k.oV (Ne.symm dRV) k.uV).1, (keep _ _ k.oD (Ne.symm dRD) k.uD).1, by rw [← ee, List.length_append]; exact g, k.gd.kept fun b o hb ho => (keep b o ho (fun e => k.dR (by rw [← e]; exact hb)) (k.ud b hb)).1, k.one, k.el, l6, uR, (keep _ _ k.oV (Ne.symm dRV) k.uV).2, (keep _ _ k.oD (Ne.symm dRD) k.uD).2, k.dR, k.dV, k.dD, fun b hb => ?_, au, k.ad⟩
  obtain ⟨o, ho⟩ := Option.ne_none_iff_exists'.1 (k.gd.blk_own hb)
  exact (keep b o ho (fun e => k.dR (by rw [← e]; exact hb)) (k.ud b hb)).2
theorem Rowk.stepD (k : Rowk b0 h R V D w us vs ds cu cd xs els cols) (hwf : WF h) (hw : w < ds.length) {u : Value} {c : List Int} (hu : RL isB b0 u c) (bD : b0.own D = none) (hq : els.length ≤ 1000) (dRD : R ≠ D) (dVD : V ≠ D) :
    ∃ cd' h4 h5 h6, h.alloc (.cells [u]) = h4 ∧ aAppend Try.prog h4 24 24 cd (.slice (some ⟨h.next, 0, none⟩) 1 1) = some (cd', h5) ∧ aStore Try.prog h5 24 (.pointer (some ⟨D, w, none⟩)) cd' = some h6 ∧ Le b0 h4 ∧ Le b0 h5 ∧
      h4.own D = some (.cells (ds.set w cd)) ∧ h5.own D = some (.cells (ds.set w cd)) ∧ WF h6 ∧ Rowk b0 h6 R V D w us vs ds cu cd' xs (els ++ [u]) (cols ++ [c]) := by
  obtain ⟨cd', h5, h6, e1, e2, g, oD, dD, ad, l4, l5, l6, keep, o5, o4, wf⟩ := grow hwf (G := b0) (t := 24) (x := u) (by kernel_rfl) Try.underlying24 (by kernel_rfl) k.oD (by rw [List.length_set]; exact hw) k.gd k.one hu.one hq k.dD k.le bD k.ad
  rw [List.set_set] at oD
  have uc : ∀ b, blk cu = some b → blk cd ≠ some b := fun b hb e => k.ud b e hb
  refine ⟨cd', _, h5, h6, rfl, e1, e2, l4, l5, o4, o5, wf, (keep _ _ k.oR dRD k.dR).1, (keep _ _ k.oV dVD k.dV).1, oD, k.gu.kept fun b o hb ho => (keep b o ho (fun e => k.uD (by rw [← e]; exact hb)) (uc b hb)).1, by rw [List.length_append]; exact g, by rw [List.all_append, k.one]; simp [hu.one], k.el.snoc hu, l6, k.uR, k.uV, k.uD, (keep _ _ k.oR dRD k.dR).2, (keep _ _ k.oV dVD k.dV).2, dD, fun b hb e => ?_, k.au, ad⟩
  obtain ⟨o, ho⟩ := Option.ne_none_iff_exists'.1 (k.gu.blk_own e)
  exact (keep b o ho (fun e' => k.uD (by rw [← e']; exact e)) (uc b e)).2 hb
end

/- a row begins, and is done -/
theorem OSk.begin {b h : AHeap} {n R V D W : Nat} {f : Nat → Nat} {k w : Nat} {T : SkinM} {us vs ds : List Value} (o : OSk b h n R V D W f k T us vs ds) (hw : w < n) (hf : ∀ v, v < k → f v ≠ w) :
    Rowk (rem [R, V, D] h) h R V D w us vs ds (.slice none 0 0) (.slice none 0 0) [] [] [] := by
  obtain ⟨h1, h2⟩ := o.nil w hw hf
  have e1 : us.set w (.slice none 0 0) = us := by
    have hl := (List.getElem?_eq_some_iff.1 h1).1
    have := (List.getElem?_eq_some_iff.1 h1).2
    rw [← this, List.set_getElem_self]
  have e2 : ds.set w (.slice none 0 0) = ds := by
    have hl := (List.getElem?_eq_some_iff.1 h2).1
    have := (List.getElem?_eq_some_iff.1 h2).2
    rw [← this, List.set_getElem_self]
  exact ⟨by rw [e1]; exact o.oR, o.oV, by rw [e2]; exact o.oD, .nil 1 _, .nil 1 _, rfl, ⟨rfl, by simp⟩, rem_le _ _, by simp [blk], by simp [blk], by simp [blk], by simp [blk], by simp [blk], by simp [blk], fun q hq => by simp [blk] at hq, fun q hq => by simp [blk] at hq, fun q hq => by simp [blk] at hq⟩
theorem OSk.row {b h h' : AHeap} {n R V D W : Nat} {f : Nat → Nat} {k : Nat} {T : SkinM} {us vs ds : List Value} {cu cd : Value} {xs : List Int} {els : List Value} {cols : List (List Int)} (o : OSk b h n R V D W f k T us vs ds) (r : Rowk (rem [R, V, D] h) h' R V D (f k) us vs ds cu cd xs els cols) (dW1 : R ≠ W) (dW2 : V ≠ W) (dW3 : D ≠ W) :
    OSk b h' n R V D W f (k + 1) ⟨T.rot.set (f k) xs, T.vert, T.dart.set (f k) cols⟩ (us.set (f k) cu) vs (ds.set (f k) cd) := by
  have hmem : ∀ i, i ∈ [R, V, D] ↔ i = R ∨ i = V ∨ i = D := fun i => by simp
  have hl : Le (rem [R, V, D] h) (rem [R, V, D] h') := r.le.of_none fun i hi => by rw [rem_own, if_pos hi]
  have hu : ∀ q, blk cu = some q → q ∉ [R, V, D] := fun q hq hm => by
    rcases (hmem q).1 hm with rfl | rfl | rfl
    · exact r.uR hq
    · exact r.uV hq
    · exact r.uD hq
  have hd : ∀ q, blk cd = some q → q ∉ [R, V, D] := fun q hq hm => by
    rcases (hmem q).1 hm with rfl | rfl | rfl
    · exact r.dR hq
    · exact r.dV hq
    · exact r.dD hq
  have oW : (rem [R, V, D] h).own W = some (.cells [.slice (some ⟨R, 0, none⟩) n n, .slice (some ⟨V, 0, none⟩) n n, .slice (some ⟨D, 0, none⟩) n n]) := rem_some.2 ⟨o.oW, fun hm => by
    rcases (hmem W).1 hm with e | e | e
    · exact dW1 e.symm
    · exact dW2 e.symm
    · exact dW3 e.symm⟩
  refine ⟨r.oR, r.oV, r.oD, r.le.own _ _ oW, (o.rot.mono fun _ _ q => q.le .isI hl).set _ (RL.ofI (r.gu.to_rem hu).cs.rs), o.vert.mono fun _ _ q => q.le .isB hl, (o.dart.mono fun _ _ q => q.le (.RL .isB) hl).set _ ⟨els, (r.gd.to_rem hd).cs.rs, r.el.1, fun i x u hx hu => (r.el.2 i x u hx hu).le .isB hl⟩, o.le.trans hl, fun w hw hf => ?_⟩
  obtain ⟨h1, h2⟩ := o.nil w hw fun v hv => hf v (by omega)
  have hne := hf k (Nat.lt_succ_self k)
  rw [List.getElem?_set_ne hne, List.getElem?_set_ne hne]
  exact ⟨h1, h2⟩
theorem OSk.color {b h : AHeap} {n R V D W : Nat} {f : Nat → Nat} {k : Nat} {T : SkinM} {us vs ds : List Value} (o : OSk b h n R V D W f k T us vs ds) (w : Nat) {u : Value} {c : List Int} (hu : RL isB b u c) (d1 : R ≠ V) (d3 : V ≠ D) (d5 : V ≠ W) :
    OSk b (h.put V (.cells (vs.set w u))) n R V D W f k ⟨T.rot, T.vert.set w c, T.dart⟩ us (vs.set w u) ds := by
  have hl : Le (rem [R, V, D] h) (rem [R, V, D] (h.put V (.cells (vs.set w u)))) := Le.put_rem (Le.refl _) _ (by simp)
  exact ⟨by rw [AHeap.own_put_ne _ _ _ _ d1]; exact o.oR, AHeap.own_put_eq _ _ _, by rw [AHeap.own_put_ne _ _ _ _ (Ne.symm d3)]; exact o.oD, by rw [AHeap.own_put_ne _ _ _ _ (Ne.symm d5)]; exact o.oW, o.rot.mono fun _ _ q => q.le .isI hl, (o.vert.mono fun _ _ q => q.le .isB hl).set w ((hu.le .isB o.le).le .isB hl), o.dart.mono fun _ _ q => q.le (.RL .isB) hl, o.le.trans hl, o.nil⟩
end Go.Fw
