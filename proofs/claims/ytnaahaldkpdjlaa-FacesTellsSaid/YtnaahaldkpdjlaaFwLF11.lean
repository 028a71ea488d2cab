/- A text of the proof. -/
import Derived.Test.YtnaahaldkpdjlaaFwLF9
import Derived.Test.YtnaahaldkpdjlaaFwLC7
import Derived.Test.YtnaahaldkpdjlaaFwLZ11
import Derived.Test.YtnaahaldkpdjlaaFwLT4
import Derived.Test.YtnaahaldkpdjlaaFwLW4
import Derived.Test.YtnaahaldkpdjlaaFwLN5
import Derived.Test.YtnaahaldkpdjlaaFwFrame
import Derived.Test.YtnaahaldkpdjlaaFwPla
import Derived.Test.YtnaahaldkpdjlaaFwLB18
set_option linter.unusedSimpArgs false
set_option linter.unusedVariables false
namespace Go.Fw
open Go.Proofs
set_option maxHeartbeats 16000000
set_option maxRecDepth 10000
attribute [local instance] Classical.propDecidable in
theorem planeM_conn {n : Nat} {es : List Pr} {rs : List (List Int)} (hr : InR n es) (ha : Asc es) (G : RotG n es rs) (h0 : 0 < n) (hc : ∀ v, v < n → Con es 0 v) :
  PlaneM n es rs ↔ (0 < es.length → n + (facesM n rs).length = es.length + 2) := by
 have all : ∀ a, a < n → edK es es a = es.length ∧ (compL n es a).length = n ∧ faK es (facesM n rs) a = (facesM n rs).length := fun a han => by
  have hca : ∀ v, v < n → Con es a v := fun v hv => (hc a han).symm.trans (hc v hv)
  refine ⟨?_, ?_, ?_⟩
  ·unfold edK cntK
   rw [List.filter_eq_self.2]
   intro e he
   have h := hr e he
   exact decide_eq_true (hca _ (by omega))
  ·unfold compL
   rw [List.filter_eq_self.2 (fun v hv => decide_eq_true (hca v (List.mem_range.1 hv)))]; simp
  ·unfold faK cntK
   rw [List.filter_eq_self.2]
   intro f hf
   obtain ⟨_, v, hv, e⟩ := faces_at hr ha G hf
   exact decide_eq_true (hca _ (by rw [e]; simpa using hv))
 constructor
 ·intro H hl
  obtain ⟨a, ham, _⟩ := head_ex hr 0 h0
  obtain ⟨e1, e2, e3⟩ := all a (mem_heads.1 ham).1
  have := H a ham (by rw [e1]; exact hl)
  rw [e1, e2, e3] at this; exact this
 ·intro H a ham
  obtain ⟨e1, e2, e3⟩ := all a (mem_heads.1 ham).1
  rw [e1, e2, e3]; exact H
def triE : List Pr := [(0, 1), (0, 2), (1, 2)]
def triR : List (List Int) := [[1, 2], [0, 2], [0, 1]]
def k4E : List Pr := [(0, 1), (0, 2), (0, 3), (1, 2), (1, 3), (2, 3)]
def notR : List (List Int) := [[1, 2, 3], [0, 2, 3], [0, 1, 3], [0, 1, 2]]
def isR : List (List Int) := [[1, 2, 3], [0, 3, 2], [0, 1, 3], [0, 2, 1]]
theorem triERt : RightG ⟨3, triE⟩ := by
 refine ⟨by decide, by decide, by decide, fun i hi p hp => ?_⟩
 have hi' : i < 3 := hi
 match i, hi' with
 | 0, _ => simp [triE] at hp; subst hp; exact ⟨by decide, fun q h0 => by omega⟩
 | 1, _ => simp [triE] at hp; subst hp; exact ⟨by decide, fun q h0 hq => by simp [triE] at hq; subst hq; decide⟩
 | 2, _ => simp [triE] at hp; subst hp; exact ⟨by decide, fun q h0 hq => by simp [triE] at hq; subst hq; decide⟩
theorem k4ERt : RightG ⟨4, k4E⟩ := by
 refine ⟨by decide, by decide, by decide, fun i hi p hp => ?_⟩
 have hi' : i < 6 := hi
 match i, hi' with
 | 0, _ => simp [k4E] at hp; subst hp; exact ⟨by decide, fun q h0 => by omega⟩
 | 1, _ => simp [k4E] at hp; subst hp; exact ⟨by decide, fun q h0 hq => by simp [k4E] at hq; subst hq; decide⟩
 | 2, _ => simp [k4E] at hp; subst hp; exact ⟨by decide, fun q h0 hq => by simp [k4E] at hq; subst hq; decide⟩
 | 3, _ => simp [k4E] at hp; subst hp; exact ⟨by decide, fun q h0 hq => by simp [k4E] at hq; subst hq; decide⟩
 | 4, _ => simp [k4E] at hp; subst hp; exact ⟨by decide, fun q h0 hq => by simp [k4E] at hq; subst hq; decide⟩
 | 5, _ => simp [k4E] at hp; subst hp; exact ⟨by decide, fun q h0 hq => by simp [k4E] at hq; subst hq; decide⟩
theorem rotG_of {n : Nat} {es : List Pr} {rs : List (List Int)} (h : rs.length = n) (d : (List.range n).all (fun v => (rs.getD v []).isPerm ((besM n es).getD v [])) = true) : RotG n es rs :=
 ⟨h, fun v hv => List.isPerm_iff.1 (List.all_eq_true.1 d v (List.mem_range.2 hv))⟩
theorem triG : RotG 3 triE triR := rotG_of rfl (by decide +kernel)
theorem notG : RotG 4 k4E notR := rotG_of rfl (by decide +kernel)
theorem isG4 : RotG 4 k4E isR := rotG_of rfl (by decide +kernel)
theorem facesM_cert {n : Nat} {es : List Pr} {rs : List (List Int)} (hr : RightG ⟨(n : Int), es⟩) (G : RotG n es rs) {hs : List (Dart × Nat)} (C : Cert n (rotN rs) hs) : facesM n rs = hs.map fun p => (List.range p.2).map fun j => (((it (fph (rotN rs)) j p.1).1 : Nat) : Int) := by
 rw [facesM, facesF_cert (G.isRot hr.inR hr.asc) C, List.map_map]
 refine List.map_congr_left fun p _ => ?_
 simp only [Function.comp, nat64, List.map_map]
 rfl
instance (n : Nat) (r : Nat → List Nat) (hs : List (Dart × Nat)) : Decidable (Cert n r hs) := by unfold Cert; infer_instance
theorem tri_faces : facesM 3 triR = [[0, 1, 2], [0, 2, 1]] := by
 rw [facesM_cert triERt triG (hs := [((0, 1), 3), ((0, 2), 3)]) (by decide +kernel)]; decide +kernel
theorem not_faces : facesM 4 notR = [[0, 1, 2, 3], [0, 2, 1, 3, 2, 0, 3, 1]] := by
 rw [facesM_cert k4ERt notG (hs := [((0, 1), 4), ((0, 2), 8)]) (by decide +kernel)]; decide +kernel
theorem is_faces : (facesM 4 isR).length = 4 := by
 rw [facesM_cert k4ERt isG4 (hs := [((0, 1), 3), ((0, 2), 3), ((0, 3), 3), ((1, 2), 3)]) (by decide +kernel)]; decide +kernel
theorem k4_con : ∀ v, v < 4 → Con k4E 0 v := fun v hv => by
 match v, hv with
 | 0, _ => exact Con.refl _ _
 | 1, _ => exact con_adj (.inl (by decide))
 | 2, _ => exact con_adj (.inl (by decide))
 | 3, _ => exact con_adj (.inl (by decide))
theorem not_plane : ¬ PlaneM 4 k4E notR := fun h => by
 have := (planeM_conn k4ERt.inR k4ERt.asc notG (by decide) k4_con).1 h (by decide)
 rw [not_faces] at this
 exact absurd this (by decide)
theorem is_plane : PlaneM 4 k4E isR := (planeM_conn k4ERt.inR k4ERt.asc isG4 (by decide) k4_con).2 fun _ => by rw [is_faces]; decide
theorem one_not : ¬ ∃ es, RightG ⟨((([[1], []] : List (List Int)).length : Nat) : Int), es⟩ ∧ RotG ([[1], []] : List (List Int)).length es [[1], []] := by
 rintro ⟨es, hr, G⟩
 have h1 : (1 : Nat) ∈ rotN [[1], []] 0 := by decide
 have h2 := (G.mem hr.inR).1 h1
 have h3 : (0 : Nat) ∈ rotN [[1], []] 1 := (G.mem hr.inR).2 (h2.elim .inr .inl)
 exact absurd h3 (by decide)
end Go.Fw
namespace Go.Fw
open Go.Proofs
set_option maxHeartbeats 16000000
set_option maxRecDepth 10000
def rws (h : AHeap) (us : List Value) (xs : List (List Int)) : Prop := ∀ (i : Nat) (x : List Int) (u : Value), xs[i]? = some x → us[i]? = some u → RL isI h u x
theorem rws.nil (h : AHeap) : rws h [] [] := fun i x u hx => by simp at hx
theorem rws.cons {h : AHeap} {u : Value} {x : List Int} {us : List Value} {xs : List (List Int)} (hu : RL isI h u x) (r : rws h us xs) : rws h (u :: us) (x :: xs) := fun i y w hy hw => by
 cases i with
 | zero => simp at hy hw; subst hy hw; exact hu
 | succ i => exact r i y w (by simpa using hy) (by simpa using hw)
theorem rws.rl {h : AHeap} {id n : Nat} {us : List Value} {xs : List (List Int)} (o : h.own id = some (.cells us)) (hn : us.length = n) (hl : us.length = xs.length) (r : rws h us xs) : RL (RL isI) h (.slice (some ⟨id, 0, none⟩) n n) xs :=
 ⟨us, RS.whole o hn, hl, r⟩
theorem rot4 {h : AHeap} (hwf : WF h) (a0_0 a0_1 a0_2 a1_0 a1_1 a1_2 a2_0 a2_1 a2_2 a3_0 a3_1 a3_2 : Int) : ∃ v0 h1 v1 h2 v2 h3 v3 h4 v h5, aBuildSlice Try.prog h 38 3 [(0, .int .i64 a0_0), (1, .int .i64 a0_1), (2, .int .i64 a0_2)] = some (v0, h1) ∧ aBuildSlice Try.prog h1 38 3 [(0, .int .i64 a1_0), (1, .int .i64 a1_1), (2, .int .i64 a1_2)] = some (v1, h2) ∧ aBuildSlice Try.prog h2 38 3 [(0, .int .i64 a2_0), (1, .int .i64 a2_1), (2, .int .i64 a2_2)] = some (v2, h3) ∧ aBuildSlice Try.prog h3 38 3 [(0, .int .i64 a3_0), (1, .int .i64 a3_1), (2, .int .i64 a3_2)] = some (v3, h4) ∧ aBuildSlice Try.prog h4 52 4 [(0, v0), (1, v1), (2, v2), (3, v3)] = some (v, h5) ∧ Le h h5 ∧ WF h5 ∧ RL (RL isI) h5 v [[a0_0, a0_1, a0_2], [a1_0, a1_1, a1_2], [a2_0, a2_1, a2_2], [a3_0, a3_1, a3_2]] := by
 obtain ⟨h1, e1, l1, w1, o1⟩ := alloc_f hwf (I64 [a0_0, a0_1, a0_2])
 obtain ⟨h2, e2, l2, w2, o2⟩ := alloc_f w1 (I64 [a1_0, a1_1, a1_2])
 obtain ⟨h3, e3, l3, w3, o3⟩ := alloc_f w2 (I64 [a2_0, a2_1, a2_2])
 obtain ⟨h4, e4, l4, w4, o4⟩ := alloc_f w3 (I64 [a3_0, a3_1, a3_2])
 obtain ⟨h5, e5, l5, w5, o5⟩ := alloc_f w4 [.slice (some ⟨h.next, 0, none⟩) 3 3, .slice (some ⟨h1.next, 0, none⟩) 3 3, .slice (some ⟨h2.next, 0, none⟩) 3 3, .slice (some ⟨h3.next, 0, none⟩) 3 3]
 refine ⟨.slice (some ⟨h.next, 0, none⟩) 3 3, h1, .slice (some ⟨h1.next, 0, none⟩) 3 3, h2, .slice (some ⟨h2.next, 0, none⟩) 3 3, h3, .slice (some ⟨h3.next, 0, none⟩) 3 3, h4, .slice (some ⟨h4.next, 0, none⟩) 4 4, h5, ?_, ?_, ?_, ?_, ?_, ((((l1.trans l2).trans l3).trans l4).trans l5), w5, rws.rl o5 rfl rfl (.cons ((RL.ofI (RS.whole o1 rfl)).le Stays.isI (((l2.trans l3).trans l4).trans l5)) (.cons ((RL.ofI (RS.whole o2 rfl)).le Stays.isI ((l3.trans l4).trans l5)) (.cons ((RL.ofI (RS.whole o3 rfl)).le Stays.isI (l4.trans l5)) (.cons ((RL.ofI (RS.whole o4 rfl)).le Stays.isI l5) (rws.nil _)))))⟩
 ·rw [← e1]; rfl
 ·rw [← e2]; rfl
 ·rw [← e3]; rfl
 ·rw [← e4]; rfl
 ·rw [← e5]; rfl
theorem rot3 {h : AHeap} (hwf : WF h) (a0_0 a0_1 a1_0 a1_1 a2_0 a2_1 : Int) : ∃ v0 h1 v1 h2 v2 h3 v h4, aBuildSlice Try.prog h 38 2 [(0, .int .i64 a0_0), (1, .int .i64 a0_1)] = some (v0, h1) ∧ aBuildSlice Try.prog h1 38 2 [(0, .int .i64 a1_0), (1, .int .i64 a1_1)] = some (v1, h2) ∧ aBuildSlice Try.prog h2 38 2 [(0, .int .i64 a2_0), (1, .int .i64 a2_1)] = some (v2, h3) ∧ aBuildSlice Try.prog h3 52 3 [(0, v0), (1, v1), (2, v2)] = some (v, h4) ∧ Le h h4 ∧ WF h4 ∧ RL (RL isI) h4 v [[a0_0, a0_1], [a1_0, a1_1], [a2_0, a2_1]] := by
 obtain ⟨h1, e1, l1, w1, o1⟩ := alloc_f hwf (I64 [a0_0, a0_1])
 obtain ⟨h2, e2, l2, w2, o2⟩ := alloc_f w1 (I64 [a1_0, a1_1])
 obtain ⟨h3, e3, l3, w3, o3⟩ := alloc_f w2 (I64 [a2_0, a2_1])
 obtain ⟨h4, e4, l4, w4, o4⟩ := alloc_f w3 [.slice (some ⟨h.next, 0, none⟩) 2 2, .slice (some ⟨h1.next, 0, none⟩) 2 2, .slice (some ⟨h2.next, 0, none⟩) 2 2]
 refine ⟨.slice (some ⟨h.next, 0, none⟩) 2 2, h1, .slice (some ⟨h1.next, 0, none⟩) 2 2, h2, .slice (some ⟨h2.next, 0, none⟩) 2 2, h3, .slice (some ⟨h3.next, 0, none⟩) 3 3, h4, ?_, ?_, ?_, ?_, (((l1.trans l2).trans l3).trans l4), w4, rws.rl o4 rfl rfl (.cons ((RL.ofI (RS.whole o1 rfl)).le Stays.isI ((l2.trans l3).trans l4)) (.cons ((RL.ofI (RS.whole o2 rfl)).le Stays.isI (l3.trans l4)) (.cons ((RL.ofI (RS.whole o3 rfl)).le Stays.isI l4) (rws.nil _))))⟩
 ·rw [← e1]; rfl
 ·rw [← e2]; rfl
 ·rw [← e3]; rfl
 ·rw [← e4]; rfl
theorem rot2 {h : AHeap} (hwf : WF h) (a0_0 : Int) : ∃ v0 h1 v1 h2 v h3, aBuildSlice Try.prog h 38 1 [(0, .int .i64 a0_0)] = some (v0, h1) ∧ aBuildSlice Try.prog h1 38 0 [] = some (v1, h2) ∧ aBuildSlice Try.prog h2 52 2 [(0, v0), (1, v1)] = some (v, h3) ∧ Le h h3 ∧ WF h3 ∧ RL (RL isI) h3 v [[a0_0], []] := by
 obtain ⟨h1, e1, l1, w1, o1⟩ := alloc_f hwf (I64 [a0_0])
 obtain ⟨h2, e2, l2, w2, o2⟩ := alloc_f w1 (I64 [])
 obtain ⟨h3, e3, l3, w3, o3⟩ := alloc_f w2 [.slice (some ⟨h.next, 0, none⟩) 1 1, .slice (some ⟨h1.next, 0, none⟩) 0 0]
 refine ⟨.slice (some ⟨h.next, 0, none⟩) 1 1, h1, .slice (some ⟨h1.next, 0, none⟩) 0 0, h2, .slice (some ⟨h2.next, 0, none⟩) 2 2, h3, ?_, ?_, ?_, ((l1.trans l2).trans l3), w3, rws.rl o3 rfl rfl (.cons ((RL.ofI (RS.whole o1 rfl)).le Stays.isI (l2.trans l3)) (.cons ((RL.ofI (RS.whole o2 rfl)).le Stays.isI l3) (rws.nil _)))⟩
 ·rw [← e1]; rfl
 ·rw [← e2]; rfl
 ·rw [← e3]; rfl
theorem lis2 {h : AHeap} (hwf : WF h) (a0_0 a0_1 a0_2 a1_0 a1_1 a1_2 : Int) : ∃ v0 h1 v1 h2 v h3, aBuildSlice Try.prog h 38 3 [(0, .int .i64 a0_0), (1, .int .i64 a0_1), (2, .int .i64 a0_2)] = some (v0, h1) ∧ aBuildSlice Try.prog h1 38 3 [(0, .int .i64 a1_0), (1, .int .i64 a1_1), (2, .int .i64 a1_2)] = some (v1, h2) ∧ aBuildSlice Try.prog h2 32 2 [(0, v0), (1, v1)] = some (v, h3) ∧ Le h h3 ∧ WF h3 ∧ RL (RL isI) h3 v [[a0_0, a0_1, a0_2], [a1_0, a1_1, a1_2]] := by
 obtain ⟨h1, e1, l1, w1, o1⟩ := alloc_f hwf (I64 [a0_0, a0_1, a0_2])
 obtain ⟨h2, e2, l2, w2, o2⟩ := alloc_f w1 (I64 [a1_0, a1_1, a1_2])
 obtain ⟨h3, e3, l3, w3, o3⟩ := alloc_f w2 [.slice (some ⟨h.next, 0, none⟩) 3 3, .slice (some ⟨h1.next, 0, none⟩) 3 3]
 refine ⟨.slice (some ⟨h.next, 0, none⟩) 3 3, h1, .slice (some ⟨h1.next, 0, none⟩) 3 3, h2, .slice (some ⟨h2.next, 0, none⟩) 2 2, h3, ?_, ?_, ?_, ((l1.trans l2).trans l3), w3, rws.rl o3 rfl rfl (.cons ((RL.ofI (RS.whole o1 rfl)).le Stays.isI (l2.trans l3)) (.cons ((RL.ofI (RS.whole o2 rfl)).le Stays.isI l3) (rws.nil _)))⟩
 ·rw [← e1]; rfl
 ·rw [← e2]; rfl
 ·rw [← e3]; rfl
theorem lis12 {h : AHeap} (hwf : WF h) (a0_0 a0_1 a0_2 a0_3 a1_0 a1_1 a1_2 a1_3 a1_4 a1_5 a1_6 a1_7 : Int) : ∃ v0 h1 v1 h2 v h3, aBuildSlice Try.prog h 38 4 [(0, .int .i64 a0_0), (1, .int .i64 a0_1), (2, .int .i64 a0_2), (3, .int .i64 a0_3)] = some (v0, h1) ∧ aBuildSlice Try.prog h1 38 8 [(0, .int .i64 a1_0), (1, .int .i64 a1_1), (2, .int .i64 a1_2), (3, .int .i64 a1_3), (4, .int .i64 a1_4), (5, .int .i64 a1_5), (6, .int .i64 a1_6), (7, .int .i64 a1_7)] = some (v1, h2) ∧ aBuildSlice Try.prog h2 32 2 [(0, v0), (1, v1)] = some (v, h3) ∧ Le h h3 ∧ WF h3 ∧ RL (RL isI) h3 v [[a0_0, a0_1, a0_2, a0_3], [a1_0, a1_1, a1_2, a1_3, a1_4, a1_5, a1_6, a1_7]] := by
 obtain ⟨h1, e1, l1, w1, o1⟩ := alloc_f hwf (I64 [a0_0, a0_1, a0_2, a0_3])
 obtain ⟨h2, e2, l2, w2, o2⟩ := alloc_f w1 (I64 [a1_0, a1_1, a1_2, a1_3, a1_4, a1_5, a1_6, a1_7])
 obtain ⟨h3, e3, l3, w3, o3⟩ := alloc_f w2 [.slice (some ⟨h.next, 0, none⟩) 4 4, .slice (some ⟨h1.next, 0, none⟩) 8 8]
 refine ⟨.slice (some ⟨h.next, 0, none⟩) 4 4, h1, .slice (some ⟨h1.next, 0, none⟩) 8 8, h2, .slice (some ⟨h2.next, 0, none⟩) 2 2, h3, ?_, ?_, ?_, ((l1.trans l2).trans l3), w3, rws.rl o3 rfl rfl (.cons ((RL.ofI (RS.whole o1 rfl)).le Stays.isI (l2.trans l3)) (.cons ((RL.ofI (RS.whole o2 rfl)).le Stays.isI l3) (rws.nil _)))⟩
 ·rw [← e1]; rfl
 ·rw [← e2]; rfl
 ·rw [← e3]; rfl
end Go.Fw
namespace Go.Fw
open Go.Proofs
attribute [local irreducible] KO4 KO3 KO2 KO1 KO KN KX KE VK KCond KDraw KCall KLoop
set_option maxHeartbeats 16000000
set_option maxRecDepth 10000
attribute [local irreducible] facesM PlaneM
theorem mkP6 (h : AHeap) (p0 p1 p2 p3 p4 p5 : Pr) : aBuildSlice Try.prog h 22 6 [(0, valP p0), (1, valP p1), (2, valP p2), (3, valP p3), (4, valP p4), (5, valP p5)] = some (.slice (some ⟨h.next, 0, none⟩) 6 6, h.alloc (.cells (flatP [p0, p1, p2, p3, p4, p5]))) := by kernel_rfl
theorem awake7_any (W0 : Base) (h : AHeap) : AC Try.prog W0 27 [] h fun x h' => x = .bool true ∧ Le h h' := by
 refine AC.vc (fn := Try.f27) (c := _) ⟨Try.func27, rfl, by decide⟩ Try.ntmps27 Try.results27 (by simp) fun hwf => ?_
 simp only [argFrame, argFrom, Nat.reduceAdd]
 obtain ⟨v0, h1, v1, h2, v2, h3, v, h4, e1, e2, e3, e4, l4, w4, rt⟩ := rot3 hwf 1 2 0 2 0 1
 simp only [kS1, bLookup, bMapSet, wantA, isCall, stepOp, evalO, evalL, evalP, evalM, putDst, flat, kA, kB, Nat.reduceLT, ↓reduceIte, kC, Nat.reduceEqDiff, aBuiltin, abinG, guardFree, abin, aInt, aUn, aNilCheck, retQ, retQ1, aresults, aresultL, aresult, mkF, undefV, reduceCtorEq, kD, kE, kF, kG, kH, kI, kJ, kK, aExtract, calleeOf, e1, e2, e3, e4]
 clear e1 e2 e3 e4
 clear h1 h2 h3
 refine KCall.intro (by simp only [kS1, bLookup, bMapSet, wantA, isCall, stepOp, evalO, evalL, evalP, evalM, putDst, flat, kA, kB, Nat.reduceLT, ↓reduceIte, kC, Nat.reduceEqDiff, aBuiltin, abinG, guardFree, abin, aInt, aUn, aNilCheck, retQ, retQ1, aresults, aresultL, aresult, mkF, undefV, reduceCtorEq, kD, kE, kF, kG, kH, kI, kJ, kK, aExtract, calleeOf] <;> rfl) ⟨Try.func30, rfl, by decide⟩ (Faces_any W0 v _ h4 rt) ?_
 rintro x h5 w5 ⟨l5, ⟨rfl, hno⟩ | ⟨es, fv, -, -, rfl, hf⟩⟩
 ·exact absurd ⟨triE, triERt, triG⟩ hno
 have hf1 : RL (RL isI) h5 fv [[0, 1, 2], [0, 2, 1]] := by rw [← tri_faces]; exact hf
 clear hf es rt
 have L5 := l4.trans l5
 obtain ⟨v0, h1, v1, h2, v, h6, e1, e2, e3, l6, w6, rt⟩ := rot2 w5 1
 simp only [kS1, bLookup, bMapSet, wantA, isCall, stepOp, evalO, evalL, evalP, evalM, putDst, flat, kA, kB, Nat.reduceLT, ↓reduceIte, kC, Nat.reduceEqDiff, aBuiltin, abinG, guardFree, abin, aInt, aUn, aNilCheck, retQ, retQ1, aresults, aresultL, aresult, mkF, undefV, reduceCtorEq, kD, kE, kF, kG, kH, kI, kJ, kK, aExtract, calleeOf, e1, e2, e3]
 clear e1 e2 e3
 clear h1 h2
 refine KCall.intro (by simp only [kS1, bLookup, bMapSet, wantA, isCall, stepOp, evalO, evalL, evalP, evalM, putDst, flat, kA, kB, Nat.reduceLT, ↓reduceIte, kC, Nat.reduceEqDiff, aBuiltin, abinG, guardFree, abin, aInt, aUn, aNilCheck, retQ, retQ1, aresults, aresultL, aresult, mkF, undefV, reduceCtorEq, kD, kE, kF, kG, kH, kI, kJ, kK, aExtract, calleeOf] <;> rfl) ⟨Try.func30, rfl, by decide⟩ (Faces_any W0 v _ h6 rt) ?_
 rintro x h7 w7 ⟨l7, ⟨rfl, -⟩ | ⟨es, fv2, hr, G, -, -⟩⟩
 rotate_left
 ·exact absurd ⟨es, hr, G⟩ one_not
 clear rt
 have L7 := l6.trans l7
 obtain ⟨h8, e8, l8, w8, o8⟩ := alloc_f w7 (flatP k4E)
 have pE : PR h8 (.slice (some ⟨h7.next, 0, none⟩) 6 6) k4E := PR.made o8 rfl
 have bE : aBuildSlice Try.prog h7 22 6 [(0, valP (0, 1)), (1, valP (0, 2)), (2, valP (0, 3)), (3, valP (1, 2)), (4, valP (1, 3)), (5, valP (2, 3))] = some (.slice (some ⟨h7.next, 0, none⟩) 6 6, h8) := by rw [mkP6]; exact congrArg (fun g => some (_, g)) e8
 have bG := build24 (n := 4) pE.sl
 obtain ⟨h9', h9, a9, s9, l9, w9, lG⟩ := newG (n := 4) w8 pE
 generalize h7.next = A at *
 generalize h8.next = B at *
 have gr : ∀ g, Le h9 g → GR g (.agg #[.int .i64 4, .slice (some ⟨A, 0, none⟩) 6 6]) ⟨4, k4E⟩ := fun g l => ⟨_, rfl, (pE.le l9).le l⟩
 generalize Value.slice (some ⟨A, 0, none⟩) 6 6 = ev at *
 have L9 := (L7.trans l8).trans l9
 simp only [kS1, bLookup, bMapSet, wantA, isCall, stepOp, evalO, evalL, evalP, evalM, putDst, flat, kA, kB, Nat.reduceLT, ↓reduceIte, kC, Nat.reduceEqDiff, aBuiltin, abinG, guardFree, abin, aInt, aUn, aNilCheck, retQ, retQ1, aresults, aresultL, aresult, mkF, undefV, reduceCtorEq, kD, kE, kF, kG, kH, kI, kJ, kK, aExtract, calleeOf, bP, bE, bG, a9, s9]
 clear bE bG a9 s9 o8 e8
 obtain ⟨v0, h1, v1, h2, v2, h3, v3, h4', nv, h10, e1, e2, e3, e4, e5, l10, w10, rn⟩ := rot4 w9 1 2 3 0 2 3 0 1 3 0 1 2
 simp only [kS1, bLookup, bMapSet, wantA, isCall, stepOp, evalO, evalL, evalP, evalM, putDst, flat, kA, kB, Nat.reduceLT, ↓reduceIte, kC, Nat.reduceEqDiff, aBuiltin, abinG, guardFree, abin, aInt, aUn, aNilCheck, retQ, retQ1, aresults, aresultL, aresult, mkF, undefV, reduceCtorEq, kD, kE, kF, kG, kH, kI, kJ, kK, aExtract, calleeOf, e1, e2, e3, e4, e5]
 clear e1 e2 e3 e4 e5
 clear h1 h2 h3 h4'
 obtain ⟨v0, h1, v1, h2, v2, h3, v3, h4', iv, h11, e1, e2, e3, e4, e5, l11, w11, ri⟩ := rot4 w10 1 2 3 0 3 2 0 1 3 0 2 1
 simp only [kS1, bLookup, bMapSet, wantA, isCall, stepOp, evalO, evalL, evalP, evalM, putDst, flat, kA, kB, Nat.reduceLT, ↓reduceIte, kC, Nat.reduceEqDiff, aBuiltin, abinG, guardFree, abin, aInt, aUn, aNilCheck, retQ, retQ1, aresults, aresultL, aresult, mkF, undefV, reduceCtorEq, kD, kE, kF, kG, kH, kI, kJ, kK, aExtract, calleeOf, e1, e2, e3, e4, e5]
 clear e1 e2 e3 e4 e5
 clear h1 h2 h3 h4'
 have rn11 := rn.le (Stays.RL Stays.isI) l11
 refine KCall.intro (by simp only [kS1, bLookup, bMapSet, wantA, isCall, stepOp, evalO, evalL, evalP, evalM, putDst, flat, kA, kB, Nat.reduceLT, ↓reduceIte, kC, Nat.reduceEqDiff, aBuiltin, abinG, guardFree, abin, aInt, aUn, aNilCheck, retQ, retQ1, aresults, aresultL, aresult, mkF, undefV, reduceCtorEq, kD, kE, kF, kG, kH, kI, kJ, kK, aExtract, calleeOf] <;> rfl) ⟨Try.func30, rfl, by decide⟩ (Faces_any W0 nv _ h11 rn11) ?_
 rintro x h12 w12 ⟨l12, ⟨rfl, hno⟩ | ⟨es, fn, -, -, rfl, hf⟩⟩
 ·exact absurd ⟨k4E, k4ERt, notG⟩ hno
 have hfn : RL (RL isI) h12 fn [[0, 1, 2, 3], [0, 2, 1, 3, 2, 0, 3, 1]] := by rw [← not_faces]; exact hf
 clear hf es
 simp only [kS1, bLookup, bMapSet, wantA, isCall, stepOp, evalO, evalL, evalP, evalM, putDst, flat, kA, kB, Nat.reduceLT, ↓reduceIte, kC, Nat.reduceEqDiff, aBuiltin, abinG, guardFree, abin, aInt, aUn, aNilCheck, retQ, retQ1, aresults, aresultL, aresult, mkF, undefV, reduceCtorEq, kD, kE, kF, kG, kH, kI, kJ, kK, aExtract, calleeOf]
 have ri12 := ri.le (Stays.RL Stays.isI) l12
 refine KCall.intro (by simp only [kS1, bLookup, bMapSet, wantA, isCall, stepOp, evalO, evalL, evalP, evalM, putDst, flat, kA, kB, Nat.reduceLT, ↓reduceIte, kC, Nat.reduceEqDiff, aBuiltin, abinG, guardFree, abin, aInt, aUn, aNilCheck, retQ, retQ1, aresults, aresultL, aresult, mkF, undefV, reduceCtorEq, kD, kE, kF, kG, kH, kI, kJ, kK, aExtract, calleeOf] <;> rfl) ⟨Try.func30, rfl, by decide⟩ (Faces_any W0 iv _ h12 ri12) ?_
 rintro x h13 w13 ⟨l13, ⟨rfl, hno⟩ | ⟨es, fi, -, -, rfl, hf⟩⟩
 ·exact absurd ⟨k4E, k4ERt, isG4⟩ hno
 have hfi : RL (RL isI) h13 fi (facesM 4 isR) := hf
 clear hf es
 have lfi := fun g => hfi.len (P := Try.prog) Try.underlying32 g
 rw [is_faces] at lfi
 have aw0 : awrap .i64 (0 + 0) = 0 := by decide
 have d0 : decide ((0 : Int) = 0) = true := by decide
 have d70 : decide ((70 : Int) = 70) = true := by decide
 have L13 := (l12.trans l13)
 obtain ⟨v0, h1, v1, h2, wv, h14, e1, e2, e3, l14, w14, rw1⟩ := lis2 w13 0 1 2 0 2 1
 simp only [kS1, bLookup, bMapSet, wantA, isCall, stepOp, evalO, evalL, evalP, evalM, putDst, flat, kA, kB, Nat.reduceLT, ↓reduceIte, kC, Nat.reduceEqDiff, aBuiltin, abinG, guardFree, abin, aInt, aUn, aNilCheck, retQ, retQ1, aresults, aresultL, aresult, mkF, undefV, reduceCtorEq, kD, kE, kF, kG, kH, kI, kJ, kK, aExtract, calleeOf, aw0, d0, d70, e1, e2, e3]
 clear e1 e2 e3
 clear h1 h2
 have L5_14 : Le h5 h14 := ((((L9.trans l10).trans l11).trans L13).trans l14)
 refine KCall.intro (by simp only [kS1, bLookup, bMapSet, wantA, isCall, stepOp, evalO, evalL, evalP, evalM, putDst, flat, kA, kB, Nat.reduceLT, ↓reduceIte, kC, Nat.reduceEqDiff, aBuiltin, abinG, guardFree, abin, aInt, aUn, aNilCheck, retQ, retQ1, aresults, aresultL, aresult, mkF, undefV, reduceCtorEq, kD, kE, kF, kG, kH, kI, kJ, kK, aExtract, calleeOf] <;> rfl) ⟨Try.func32, rfl, by decide⟩ (SameLists_any W0 fv wv _ _ h14 (hf1.le (Stays.RL Stays.isI) L5_14) rw1 (by decide) (by decide)) ?_
 rintro x h15 w15 ⟨rfl, rfl⟩
 have dd : decide (([[0, 1, 2], [0, 2, 1]] : List (List Int)) = [[0, 1, 2], [0, 2, 1]]) = true := by decide
 obtain ⟨v0, h1, v1, h2, wv2, h16, e1, e2, e3, l16, w16, rw2⟩ := lis12 w14 0 1 2 3 0 2 1 3 2 0 3 1
 simp only [kS1, bLookup, bMapSet, wantA, isCall, stepOp, evalO, evalL, evalP, evalM, putDst, flat, kA, kB, Nat.reduceLT, ↓reduceIte, kC, Nat.reduceEqDiff, aBuiltin, abinG, guardFree, abin, aInt, aUn, aNilCheck, retQ, retQ1, aresults, aresultL, aresult, mkF, undefV, reduceCtorEq, kD, kE, kF, kG, kH, kI, kJ, kK, aExtract, calleeOf, dd, e1, e2, e3]
 clear e1 e2 e3
 clear h1 h2
 have L12_16 : Le h12 h16 := (l13.trans l14).trans l16
 refine KCall.intro (by simp only [kS1, bLookup, bMapSet, wantA, isCall, stepOp, evalO, evalL, evalP, evalM, putDst, flat, kA, kB, Nat.reduceLT, ↓reduceIte, kC, Nat.reduceEqDiff, aBuiltin, abinG, guardFree, abin, aInt, aUn, aNilCheck, retQ, retQ1, aresults, aresultL, aresult, mkF, undefV, reduceCtorEq, kD, kE, kF, kG, kH, kI, kJ, kK, aExtract, calleeOf] <;> rfl) ⟨Try.func32, rfl, by decide⟩ (SameLists_any W0 fn wv2 _ _ h16 (hfn.le (Stays.RL Stays.isI) L12_16) rw2 (by decide) (by decide)) ?_
 rintro x h17 w17 ⟨rfl, rfl⟩
 have dd2 : decide (([[0, 1, 2, 3], [0, 2, 1, 3, 2, 0, 3, 1]] : List (List Int)) = [[0, 1, 2, 3], [0, 2, 1, 3, 2, 0, 3, 1]]) = true := by decide
 have d4 : decide (((4 : Nat) : Int) = 4) = true := by decide
 have L9_16 : Le h9 h17 := (((l10.trans l11).trans L13).trans l14).trans l16
 have G16 := lG h17 L9_16
 simp only [kS1, bLookup, bMapSet, wantA, isCall, stepOp, evalO, evalL, evalP, evalM, putDst, flat, kA, kB, Nat.reduceLT, ↓reduceIte, kC, Nat.reduceEqDiff, aBuiltin, abinG, guardFree, abin, aInt, aUn, aNilCheck, retQ, retQ1, aresults, aresultL, aresult, mkF, undefV, reduceCtorEq, kD, kE, kF, kG, kH, kI, kJ, kK, aExtract, calleeOf, dd2, lfi, d4, G16.1]
 refine KCall.intro (by simp only [kS1, bLookup, bMapSet, wantA, isCall, stepOp, evalO, evalL, evalP, evalM, putDst, flat, kA, kB, Nat.reduceLT, ↓reduceIte, kC, Nat.reduceEqDiff, aBuiltin, abinG, guardFree, abin, aInt, aUn, aNilCheck, retQ, retQ1, aresults, aresultL, aresult, mkF, undefV, reduceCtorEq, kD, kE, kF, kG, kH, kI, kJ, kK, aExtract, calleeOf] <;> rfl) ⟨Try.func33, rfl, by decide⟩ (Plane_any W0 _ nv ⟨4, k4E⟩ _ h17 (gr h17 L9_16) (rn11.le (Stays.RL Stays.isI) ((L13.trans l14).trans l16))) ?_
 rintro x h18 w18 ⟨⟨b, rfl, hb⟩, l18⟩
 obtain rfl : b = false := by
  cases b
  ·rfl
  ·exact absurd (hb.1 rfl).2.2 not_plane
 have G18 := lG h18 (L9_16.trans l18)
 simp only [kS1, bLookup, bMapSet, wantA, isCall, stepOp, evalO, evalL, evalP, evalM, putDst, flat, kA, kB, Nat.reduceLT, ↓reduceIte, kC, Nat.reduceEqDiff, aBuiltin, abinG, guardFree, abin, aInt, aUn, aNilCheck, retQ, retQ1, aresults, aresultL, aresult, mkF, undefV, reduceCtorEq, kD, kE, kF, kG, kH, kI, kJ, kK, aExtract, calleeOf, G18.1]
 refine KCall.intro (by simp only [kS1, bLookup, bMapSet, wantA, isCall, stepOp, evalO, evalL, evalP, evalM, putDst, flat, kA, kB, Nat.reduceLT, ↓reduceIte, kC, Nat.reduceEqDiff, aBuiltin, abinG, guardFree, abin, aInt, aUn, aNilCheck, retQ, retQ1, aresults, aresultL, aresult, mkF, undefV, reduceCtorEq, kD, kE, kF, kG, kH, kI, kJ, kK, aExtract, calleeOf] <;> rfl) ⟨Try.func33, rfl, by decide⟩ (Plane_any W0 _ iv ⟨4, k4E⟩ _ h18 (gr h18 (L9_16.trans l18)) (ri12.le (Stays.RL Stays.isI) (((l13.trans l14).trans l16).trans l18))) ?_
 rintro x h19 w19 ⟨⟨b, rfl, hb⟩, l19⟩
 obtain rfl : b = true := hb.2 ⟨k4ERt, isG4, is_plane⟩
 simp only [kS1, bLookup, bMapSet, wantA, isCall, stepOp, evalO, evalL, evalP, evalM, putDst, flat, kA, kB, Nat.reduceLT, ↓reduceIte, kC, Nat.reduceEqDiff, aBuiltin, abinG, guardFree, abin, aInt, aUn, aNilCheck, retQ, retQ1, aresults, aresultL, aresult, mkF, undefV, reduceCtorEq, kD, kE, kF, kG, kH, kI, kJ, kK, aExtract, calleeOf]
 exact ⟨trivial, ((((L5.trans L9).trans L9_16).trans l18).trans l19)⟩
end Go.Fw
