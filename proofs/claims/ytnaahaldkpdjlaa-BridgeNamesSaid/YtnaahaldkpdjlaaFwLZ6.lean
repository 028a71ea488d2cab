/- A text of the proof. -/
import Derived.Test.YtnaahaldkpdjlaaFwLB13
import Derived.Test.YtnaahaldkpdjlaaFwRow
import Derived.Shelf.SlLaysF0
import Derived.Shelf.SlSortCmp.NoneTotal
import Derived.Test.YtnaahaldkpdjlaaFwLZ2
import Derived.Test.YtnaahaldkpdjlaaFwLB16
set_option linter.unusedSimpArgs false
set_option linter.unusedVariables false
namespace Go.Proofs
open Go.Shelf
def Try.sortP_ren : Go.Shelf.Ren := ⟨fun | 6 => 98 | 15 => 70 | 14 => 119 | 28 => 108 | 29 => 109 | 20 => 130 | 21 => 131 | 22 => 132 | 23 => 133 | 24 => 134 | 25 => 135 | 26 => 136 | 27 => 137 | 46 => 139 | 47 => 121 | 48 => 122 | 49 => 140 | 50 => 141 | 57 => 142 | n => n, fun | 22 => 22 | 24 => 61 | 25 => 121 | 3 => 3 | 39 => 108 | 0 => 0 | 53 => 152 | 55 => 154 | 4 => 4 | 46 => 145 | 45 => 144 | 50 => 71 | 5 => 5 | 9 => 9 | 66 => 162 | 70 => 166 | 76 => 179 | 77 => 180 | n => n, fun | n => n⟩
theorem Try.sortP : Go.Proofs.SlLaysF0.n6 Try.prog Try.sortP_ren := {
 mixed := by kernel_rfl
 f6 := ⟨Try.f98.name, by decide, Try.func98.trans (congrArg some (by kernel_rfl))⟩
 f14 := ⟨Try.f119.name, by decide, Try.func119.trans (congrArg some (by kernel_rfl))⟩
 f15 := Try.func70.trans (congrArg some (by kernel_rfl))
 f20 := ⟨Try.f130.name, by decide, Try.func130.trans (congrArg some (by kernel_rfl))⟩
 f21 := ⟨Try.f131.name, by decide, Try.func131.trans (congrArg some (by kernel_rfl))⟩
 f22 := ⟨Try.f132.name, by decide, Try.func132.trans (congrArg some (by kernel_rfl))⟩
 f23 := ⟨Try.f133.name, by decide, Try.func133.trans (congrArg some (by kernel_rfl))⟩
 f24 := ⟨Try.f134.name, by decide, Try.func134.trans (congrArg some (by kernel_rfl))⟩
 f25 := ⟨Try.f135.name, by decide, Try.func135.trans (congrArg some (by kernel_rfl))⟩
 f26 := ⟨Try.f136.name, by decide, Try.func136.trans (congrArg some (by kernel_rfl))⟩
 f27 := ⟨Try.f137.name, by decide, Try.func137.trans (congrArg some (by kernel_rfl))⟩
 f28 := Try.func108.trans (congrArg some (by kernel_rfl))
 f29 := Try.func109.trans (congrArg some (by kernel_rfl))
 f46 := ⟨Try.f139.name, by decide, Try.func139.trans (congrArg some (by kernel_rfl))⟩
 f47 := Try.func121.trans (congrArg some (by kernel_rfl))
 f48 := Try.func122.trans (congrArg some (by kernel_rfl))
 f49 := ⟨Try.f140.name, by decide, Try.func140.trans (congrArg some (by kernel_rfl))⟩
 f50 := ⟨Try.f141.name, by decide, Try.func141.trans (congrArg some (by kernel_rfl))⟩
 f57 := ⟨Try.f142.name, by decide, Try.func142.trans (congrArg some (by kernel_rfl))⟩
 t0 := Try.underlying0
 a0 := Try.isAgg0
 z0 := Try.sizeOf0
 v0 := Try.zeroValue0
 t3 := Try.underlying3
 a3 := Try.isAgg3
 z3 := Try.sizeOf3
 v3 := Try.zeroValue3
 t4 := Try.underlying4
 a4 := Try.isAgg4
 z4 := Try.sizeOf4
 v4 := Try.zeroValue4
 t5 := Try.underlying5
 a5 := Try.isAgg5
 z5 := Try.sizeOf5
 v5 := Try.zeroValue5
 t9 := Try.underlying9
 a9 := Try.isAgg9
 z9 := Try.sizeOf9
 v9 := Try.zeroValue9
 t22 := Try.underlying22
 a22 := Try.isAgg22
 z22 := Try.sizeOf22
 v22 := Try.zeroValue22
 t25 := Try.underlying121
 a25 := Try.isAgg121
 z25 := Try.sizeOf121
 v25 := Try.zeroValue121
 t39 := Try.underlying108
 a39 := Try.isAgg108
 z39 := Try.sizeOf108
 v39 := Try.zeroValue108
 t45 := Try.underlying144
 a45 := Try.isAgg144
 z45 := Try.sizeOf144
 v45 := Try.zeroValue144
 t46 := Try.underlying145
 a46 := Try.isAgg145
 z46 := Try.sizeOf145
 v46 := Try.zeroValue145
 t50 := Try.underlying71
 a50 := Try.isAgg71
 z50 := Try.sizeOf71
 v50 := Try.zeroValue71
 t53 := Try.underlying152
 a53 := Try.isAgg152
 z53 := Try.sizeOf152
 v53 := Try.zeroValue152
 t55 := Try.underlying154
 a55 := Try.isAgg154
 z55 := Try.sizeOf154
 v55 := Try.zeroValue154
 t66 := Try.underlying162
 a66 := Try.isAgg162
 z66 := Try.sizeOf162
 v66 := Try.zeroValue162
 t70 := Try.underlying166
 a70 := Try.isAgg166
 z70 := Try.sizeOf166
 v70 := Try.zeroValue166
 t76 := Try.underlying179
 a76 := Try.isAgg179
 z76 := Try.sizeOf179
 v76 := Try.zeroValue179
 t77 := Try.underlying180
 a77 := Try.isAgg180
 z77 := Try.sizeOf180
 v77 := Try.zeroValue180 }
end Go.Proofs
namespace Go.Fw
open Go.Proofs
set_option maxHeartbeats 4000000
set_option maxRecDepth 10000
def ltP (p q : Pr) : Bool := decide (cmpP p q < 0)
def sortP (ps : List Pr) : List Pr := ps.mergeSort fun x y => !ltP y x
theorem ltP_iff (p q : Pr) : ltP p q = true ↔ p.1 < q.1 ∨ p.1 = q.1 ∧ p.2 < q.2 := by
 unfold ltP; rw [decide_eq_true_eq, cmpP_lt]
theorem sortP_length (ps : List Pr) : (sortP ps).length = ps.length := by simp [sortP]
theorem sortP_mem (ps : List Pr) (p : Pr) : p ∈ sortP ps ↔ p ∈ ps := by simp [sortP]
theorem sortP_perm (ps : List Pr) : (sortP ps).Perm ps := List.mergeSort_perm _ _
theorem ltP_false (p q : Pr) : ltP p q = false ↔ q.1 < p.1 ∨ q.1 = p.1 ∧ q.2 ≤ p.2 := by
 rw [← Bool.not_eq_true, ltP_iff]; omega
theorem sortP_le (ps : List Pr) : (sortP ps).Pairwise fun x y => x.1 < y.1 ∨ x.1 = y.1 ∧ x.2 ≤ y.2 := by
 have := List.pairwise_mergeSort (le := fun x y : Pr => !ltP y x) (fun a b c h1 h2 => by
  simp only [Bool.not_eq_true', ltP_false] at *; omega) (fun a b => by
  rw [Bool.or_eq_true]; simp only [Bool.not_eq_true', ltP_false]; omega) ps
 exact this.imp fun h => by simpa [ltP_false] using h
theorem flatK_P (ps : List Pr) : Go.Sort.flatK cellsP 2 ps.toArray = (flatP ps).toArray := by
 apply Array.ext
 ·simp [flatP_length]
 ·intro i h1 h2
  have hl : i < ps.length * 2 := by simpa using h1
  have hi : i / 2 < ps.length := by omega
  obtain ⟨g0, g1⟩ := flatP_get ps (i / 2) _ (getElem?_of hi)
  simp only [Go.Sort.flatK, Array.getElem_map, Array.getElem_range]
  rw [getElem!_pos _ (i / 2) (by simpa using hi)]
  simp only [List.getElem_toArray]
  rcases Nat.mod_two_eq_zero_or_one i with h | h
  ·rw [h]
   have e : i / 2 * 2 = i := by omega
   rw [e, List.getElem?_eq_getElem (by rw [flatP_length]; exact hl)] at g0
   injection g0 with g0; rw [g0]; rfl
  ·rw [h]
   have e : i / 2 * 2 + 1 = i := by omega
   rw [e, List.getElem?_eq_getElem (by rw [flatP_length]; exact hl)] at g1
   injection g1 with g1; rw [g1]; rfl
theorem flatP_flat (ps : List Pr) : ∀ y ∈ flatP ps, flat y = true ∧ y.oneCell' = true := by
 intro y hy
 rw [flatP, List.mem_flatMap] at hy
 obtain ⟨p, _, hx⟩ := hy
 simp [cellsP] at hx
 rcases hx with rfl | rfl <;> exact ⟨rfl, rfl⟩
theorem swoP : Go.Sort.SWO (Go.Proofs.ltOf cmpP) := by
 have e : ∀ p q, Go.Proofs.ltOf cmpP p q = ltP p q := fun _ _ => rfl
 refine ⟨fun x => ?_, fun x y z h1 h2 => ?_, fun x y z h1 h2 => ?_⟩
 ·rw [e, ltP_false]; omega
 ·rw [e, ltP_iff] at *; omega
 ·rw [e, ltP_false] at *; omega
theorem GP.cases {h : AHeap} {v : Value} {ps : List Pr} (g : GP h v ps) (hn : ps.length ≤ 100000) : (∃ a cap, v = .slice a 0 cap ∧ ps = []) ∨ ∃ id c cap, v = .slice (some ⟨id, 0, none⟩) ps.length cap ∧ h.own id = some (.cells c) ∧ c.take (ps.length * 2) = flatP ps ∧ (cap = UNK + 2 ∨ cap = ps.length ∧ ps.length < 1000000000000) ∧ 0 < ps.length ∧ ps.length ≤ cap ∧ ps.length * 2 ≤ c.length := by
 obtain ⟨hl, ⟨rfl, h0⟩ | ⟨id, c, cap, rfl, ho, ht, hc⟩⟩ := g
 ·exact .inl ⟨none, 0, rfl, List.length_eq_zero_iff.1 h0⟩
 ·by_cases h0 : ps.length = 0
  ·rw [h0]; exact .inl ⟨_, _, rfl, List.length_eq_zero_iff.1 h0⟩
  ·have hcl : ps.length * 2 ≤ c.length := by have := congrArg List.length ht; rw [List.length_take, hl] at this; omega
   refine .inr ⟨id, c, cap, rfl, ho, ht, hc, by omega, ?_, hcl⟩
   rcases hc with rfl | ⟨rfl, _⟩
   ·have : (100000 : Nat) ≤ UNK := by decide
    omega
   ·exact Nat.le_refl _
theorem valP_vrs (m : CMap) (p q : Pr) : VRs 0 m [valP p, valP q] [valP p, valP q] := by
 have one : ∀ p : Pr, VR 0 m (valP p) (valP p) := fun p => .agg rfl fun i v v' h h' => by
  rw [h] at h'; injection h' with h'; subst h'
  have : v ∈ [Value.int .i64 p.1, .int .i64 p.2] := by
   have := Array.mem_of_getElem? h; simpa using this
  simp at this
  rcases this with rfl | rfl <;> exact .flat rfl
 exact .cons (one p) (.cons (one q) (.nil _ _))
theorem SortFunc_any (W0 : Base) {h : AHeap} {v : Value} {ps : List Pr} (g : GP h v ps) (hn : ps.length ≤ 100000) (cmpf : FuncId)
  (eg : ∀ args w, (callFunc cmpf args).run Try.prog w = .ok (.enter cmpf args) w)
  (hc : ∀ (W : World) (p q : Pr), AC Try.prog (Base.of W) cmpf [valP p, valP q] (ext0 W) fun v _ => v = .int .i64 (cmpP p q)) :
  AC Try.prog W0 98 [v, .func (.func cmpf) #[] #[]] h fun x h' => x = .tuple #[] ∧ GP h' v (sortP ps) ∧ ∀ f, Le f h → Apart f v → Le f h' := by
 rcases g.cases hn with ⟨a, cap, rfl, rfl⟩ | ⟨id, c, cap, rfl, ho, ht, hcc, h0, hlc, hcl⟩
 ·refine (AC.ofNoneF fun a' cap' w => AnyF.slices_SortFunc_none { Try.sortP with } a' cap' (.func (.func cmpf) #[] #[]) w).mono ?_
  rintro x h' ⟨rfl, rfl⟩; exact ⟨rfl, by simpa [sortP] using g, fun f lf _ => lf⟩
 ·have key := fun (blk off cap' : Nat) (w : World) hH hb (hcap : ps.length ≤ cap') =>
   AnyQ.slices_SortFunc_total (α := Pr) Try.sortP 2 Try.isAgg61 Try.sizeOf61 cellsP (fun _ => rfl) (fun x v hv => (flatP_flat [x] v (by simpa [flatP] using hv)).2) cmpP swoP cmpf #[] blk off cap' ps.toArray w eg
    (fun m os dk _ x y => AC.grown (args := [valP x, valP y]) _ (hc _ x y) (fun m => valP_vrs m x y)) hH hb (by simp; omega)
    (fun x y h1 h2 => by
     have h1 : ltP x y = false := h1
     have h2 : ltP y x = false := h2
     rw [ltP_false] at h1 h2
     exact Prod.ext (by omega) (by omega))
  refine (AC.ofRowK (k := 2) (xs := flatP ps) (ys := flatP (sortP ps)) ho ht (flatP_length _) (by rw [flatP_length, sortP_length]) hcl hlc h0 (fun y hy => (flatP_flat ps y hy).1) (flatP_flat _) fun blk off cap' w hH hb hcap => ?_).mono ?_
  ·have hH' : Go.Sort.HoldsK cellsP 2 w blk off ps.toArray := by
    unfold Go.Sort.HoldsK; rw [flatK_P]; exact hH
   refine (key blk off cap' w hH' hb hcap).mono ?_
   rintro e w' ⟨rfl, n, os, rfl⟩
   refine ⟨rfl, n, os, ?_⟩
   unfold Go.Proofs.sortWorldK Go.Sort.putRowK
   rw [flatK_P]
   rfl
  ·rintro x h' ⟨rfl, rfl⟩
   refine ⟨rfl, ?_, fun f lf af => lf.put _ (af id rfl)⟩
   rw [GP, sortP_length]
   refine ⟨by rw [flatP_length, sortP_length], .inr ⟨id, _, cap, rfl, AHeap.own_put_eq _ _ _, ?_, hcc⟩⟩
   have hl : (flatP (sortP ps)).length = ps.length * 2 := by rw [flatP_length, sortP_length]
   rw [List.take_append_of_le_length (by omega), List.take_of_length_le (by omega)]
end Go.Fw
namespace Go.Fw
open Go.Proofs
set_option maxHeartbeats 8000000
set_option maxRecDepth 10000
structure LowR (n : Nat) (ls : List Lw) (o : List Nat) : Prop where
 len : ls.length = n
 lt : ∀ v ∈ o, v < n
 olen : o.length ≤ n
 up : ∀ v, v < n → (getL ls v).2.1 < (n : Int)
def LR (h : AHeap) (v : Value) (ls : List Lw) : Prop := CS 3 h v ls.length (flatL ls)
theorem LR.le {h h' : AHeap} {v : Value} {ls : List Lw} (r : LR h v ls) (e : Le h h') : LR h' v ls := CS.le r e
theorem LR.own {h : AHeap} {L n cap : Nat} {ls : List Lw} (ho : h.own L = some (.cells (flatL ls))) (hl : ls.length = n) : LR h (.slice (some ⟨L, 0, none⟩) n cap) ls := by
 subst hl
 have := CS.own (k := 3) (off := 0) (n := ls.length) (cap := cap) ho (by rw [flatL_length]; omega)
 rw [List.drop_zero, List.take_of_length_le (by rw [flatL_length]; omega)] at this
 exact this
def brB (ls : List Lw) (v : Nat) : Option Pr := if 0 ≤ (getL ls v).2.1 ∧ (getL ls v).2.2 = (getL ls v).1 then some (min (getL ls v).2.1 (v : Int), max (getL ls v).2.1 (v : Int)) else none
def bridgesM (n : Nat) (es : List Pr) : List Pr := sortP ((lowM n es).2.filterMap (brB (lowM n es).1))
theorem amax_i (a b : Int) : aMax (.int .i64 a) [.int .i64 b] = some (.int .i64 (max a b)) := by
 have : (if b > a then b else a) = max a b := by split <;> omega
 simp only [aMax, if_true, this]
theorem bP2 (a b : Int) : aBuild Try.prog 61 [(0, .int .i64 a), (1, .int .i64 b)] = some (valP (a, b)) := by kernel_rfl
end Go.Fw
namespace Go.Fw
open Go.Proofs
attribute [local irreducible] KO4 KO3 KO2 KO1 KO KN KX KE VK KCond KDraw KCall KLoop
set_option maxHeartbeats 8000000
set_option maxRecDepth 10000
def cntS (ls : List Lw) (c : List Int) (v : Nat) : List Int :=
 if 0 ≤ (getL ls v).2.1 ∧ (getL ls (getL ls v).2.1.toNat).1 ≤ (getL ls v).2.2 then c.set (getL ls v).2.1.toNat (c.getD (getL ls v).2.1.toNat 0 + 1) else c
def cntM (ls : List Lw) (o : List Nat) (n : Nat) : List Int := o.foldl (cntS ls) (List.replicate n 0)
def isCut (ls : List Lw) (c : List Int) (v : Nat) : Bool := decide (c.getD v 0 > 1) || (decide (c.getD v 0 = 1) && decide ((getL ls v).2.1 ≥ 0))
def cutsM (n : Nat) (es : List Pr) : List Nat := (List.range n).filter (isCut (lowM n es).1 (cntM (lowM n es).1 (lowM n es).2 n))
end Go.Fw
namespace Go.Fw
open Go.Proofs
attribute [local irreducible] KO4 KO3 KO2 KO1 KO KN KX KE VK KCond KDraw KCall KLoop
set_option maxHeartbeats 8000000
set_option maxRecDepth 10000
def lowE (ls : List Lw) (p : Pr) : Nat := if (getL ls p.1.toNat).1 > (getL ls p.2.toNat).1 then p.1.toNat else p.2.toNat
def hdS (ls : List Lw) (H : List Int) (v : Nat) : List Int :=
 if 0 ≤ (getL ls v).2.1 ∧ (getL ls v).2.2 < (getL ls (getL ls v).2.1.toNat).1 then (H.set v (v : Int)).set v ((H.set v (v : Int)).getD (getL ls v).2.1.toNat 0) else H.set v (v : Int)
def hdM (ls : List Lw) (o : List Nat) (n : Nat) : List Int := o.foldl (hdS ls) (List.replicate n 0)
theorem hdS_length (ls : List Lw) (c : List Int) (v : Nat) : (hdS ls c v).length = c.length := by unfold hdS; split <;> simp
theorem hdF_length (ls : List Lw) : ∀ (o : List Nat) (c : List Int), (o.foldl (hdS ls) c).length = c.length
 | [], c => rfl
 | v :: o, c => by rw [List.foldl_cons, hdF_length ls o, hdS_length]
def keyE (n : Nat) (es : List Pr) (p : Pr) : Int := (hdM (lowM n es).1 (lowM n es).2 n).getD (lowE (lowM n es).1 p) 0
def blocksM (n : Nat) (es : List Pr) : List (List Pr) := (grpsM (fun p _ => keyE n es p) es [] es.length).map (·.2)
theorem Stays.PR : Stays PR := fun _ _ _ _ r e => PR.le r e
end Go.Fw
