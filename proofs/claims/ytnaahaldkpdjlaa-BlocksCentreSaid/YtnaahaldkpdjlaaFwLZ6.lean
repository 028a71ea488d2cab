/- A text of the proof. -/
import Derived.Test.YtnaahaldkpdjlaaFwLB12
import Derived.Test.YtnaahaldkpdjlaaFwRowK
import Derived.Shelf.SlLaysF0
import Derived.Shelf.SlSortCmp.NoneTotal
import Derived.Test.YtnaahaldkpdjlaaFwLZ5
set_option linter.unusedSimpArgs false
set_option linter.unusedVariables false
namespace Go.Proofs
open Go.Shelf
def Try.sortP_ren : Go.Shelf.Ren := ⟨fun | 6 => 98 | 15 => 70 | 14 => 119 | 28 => 108 | 29 => 109 | 20 => 130 | 21 => 131 | 22 => 132 | 23 => 133 | 24 => 134 | 25 => 135 | 26 => 136 | 27 => 137 | 46 => 139 | 47 => 121 | 48 => 122 | 49 => 140 | 50 => 141 | 57 => 142 | n => n, fun | 22 => 22 | 24 => 61 | 25 => 121 | 3 => 3 | 39 => 108 | 0 => 0 | 53 => 152 | 55 => 154 | 4 => 4 | 46 => 145 | 45 => 144 | 50 => 71 | 5 => 5 | 9 => 9 | 66 => 162 | 70 => 166 | 76 => 179 | 77 => 180 | n => n, fun | n => n⟩
theorem Try.sortP : Go.Proofs.SlLaysF0.n6 Try.prog Try.sortP_ren := {
 mixed := by kernel_rfl
 f6 := ⟨Try.f98.name, by decide, Try.func98.trans (congrArg some (by kernel_rfl))⟩
 f14 := ⟨Try.f119.name, by decide, Try.func119.trans (congrArg some (by kernel_rfl))⟩
 f15 := Try.func70.trans (congrArg some (by kernel_rfl))
 f20 := ⟨Try.f130.name, by decide, Try.func130.trans (congrArg some (by kernel_rfl))⟩
 f21 := ⟨Try.f131.name, by decide, Try.func131.trans (congrArg some (by kernel_rfl))⟩
 f22 := ⟨Try.f132.name, by decide, Try.func132.trans (congrArg some (by kernel_rfl))⟩
 f23 := ⟨Try.f133.name, by decide, Try.func133.trans (congrArg some (by kernel_rfl))⟩
 f24 := ⟨Try.f134.name, by decide, Try.func134.trans (congrArg some (by kernel_rfl))⟩
 f25 := ⟨Try.f135.name, by decide, Try.func135.trans (congrArg some (by kernel_rfl))⟩
 f26 := ⟨Try.f136.name, by decide, Try.func136.trans (congrArg some (by kernel_rfl))⟩
 f27 := ⟨Try.f137.name, by decide, Try.func137.trans (congrArg some (by kernel_rfl))⟩
 f28 := Try.func108.trans (congrArg some (by kernel_rfl))
 f29 := Try.func109.trans (congrArg some (by kernel_rfl))
 f46 := ⟨Try.f139.name, by decide, Try.func139.trans (congrArg some (by kernel_rfl))⟩
 f47 := Try.func121.trans (congrArg some (by kernel_rfl))
 f48 := Try.func122.trans (congrArg some (by kernel_rfl))
 f49 := ⟨Try.f140.name, by decide, Try.func140.trans (congrArg some (by kernel_rfl))⟩
 f50 := ⟨Try.f141.name, by decide, Try.func141.trans (congrArg some (by kernel_rfl))⟩
 f57 := ⟨Try.f142.name, by decide, Try.func142.trans (congrArg some (by kernel_rfl))⟩
 t0 := Try.underlying0
 a0 := Try.isAgg0
 z0 := Try.sizeOf0
 v0 := Try.zeroValue0
 t3 := Try.underlying3
 a3 := Try.isAgg3
 z3 := Try.sizeOf3
 v3 := Try.zeroValue3
 t4 := Try.underlying4
 a4 := Try.isAgg4
 z4 := Try.sizeOf4
 v4 := Try.zeroValue4
 t5 := Try.underlying5
 a5 := Try.isAgg5
 z5 := Try.sizeOf5
 v5 := Try.zeroValue5
 t9 := Try.underlying9
 a9 := Try.isAgg9
 z9 := Try.sizeOf9
 v9 := Try.zeroValue9
 t22 := Try.underlying22
 a22 := Try.isAgg22
 z22 := Try.sizeOf22
 v22 := Try.zeroValue22
 t25 := Try.underlying121
 a25 := Try.isAgg121
 z25 := Try.sizeOf121
 v25 := Try.zeroValue121
 t39 := Try.underlying108
 a39 := Try.isAgg108
 z39 := Try.sizeOf108
 v39 := Try.zeroValue108
 t45 := Try.underlying144
 a45 := Try.isAgg144
 z45 := Try.sizeOf144
 v45 := Try.zeroValue144
 t46 := Try.underlying145
 a46 := Try.isAgg145
 z46 := Try.sizeOf145
 v46 := Try.zeroValue145
 t50 := Try.underlying71
 a50 := Try.isAgg71
 z50 := Try.sizeOf71
 v50 := Try.zeroValue71
 t53 := Try.underlying152
 a53 := Try.isAgg152
 z53 := Try.sizeOf152
 v53 := Try.zeroValue152
 t55 := Try.underlying154
 a55 := Try.isAgg154
 z55 := Try.sizeOf154
 v55 := Try.zeroValue154
 t66 := Try.underlying162
 a66 := Try.isAgg162
 z66 := Try.sizeOf162
 v66 := Try.zeroValue162
 t70 := Try.underlying166
 a70 := Try.isAgg166
 z70 := Try.sizeOf166
 v70 := Try.zeroValue166
 t76 := Try.underlying179
 a76 := Try.isAgg179
 z76 := Try.sizeOf179
 v76 := Try.zeroValue179
 t77 := Try.underlying180
 a77 := Try.isAgg180
 z77 := Try.sizeOf180
 v77 := Try.zeroValue180 }
end Go.Proofs
namespace Go.Fw
open Go.Proofs
set_option maxHeartbeats 4000000
set_option maxRecDepth 10000
def ltP (p q : Pr) : Bool := decide (cmpP p q < 0)
def sortP (ps : List Pr) : List Pr := ps.mergeSort fun x y => !ltP y x
theorem ltP_iff (p q : Pr) : ltP p q = true ↔ p.1 < q.1 ∨ p.1 = q.1 ∧ p.2 < q.2 := by
 unfold ltP; rw [decide_eq_true_eq, cmpP_lt]
theorem sortP_length (ps : List Pr) : (sortP ps).length = ps.length := by simp [sortP]
theorem sortP_mem (ps : List Pr) (p : Pr) : p ∈ sortP ps ↔ p ∈ ps := by simp [sortP]
theorem sortP_perm (ps : List Pr) : (sortP ps).Perm ps := List.mergeSort_perm _ _
theorem ltP_false (p q : Pr) : ltP p q = false ↔ q.1 < p.1 ∨ q.1 = p.1 ∧ q.2 ≤ p.2 := by
 rw [← Bool.not_eq_true, ltP_iff]; omega
theorem sortP_le (ps : List Pr) : (sortP ps).Pairwise fun x y => x.1 < y.1 ∨ x.1 = y.1 ∧ x.2 ≤ y.2 := by
 have := List.pairwise_mergeSort (le := fun x y : Pr => !ltP y x) (fun a b c h1 h2 => by
  simp only [Bool.not_eq_true', ltP_false] at *; omega) (fun a b => by
  rw [Bool.or_eq_true]; simp only [Bool.not_eq_true', ltP_false]; omega) ps
 exact this.imp fun h => by simpa [ltP_false] using h
theorem flatK_P (ps : List Pr) : Go.Sort.flatK cellsP 2 ps.toArray = (flatP ps).toArray := by
 apply Array.ext
 ·simp [flatP_length]
 ·intro i h1 h2
  have hl : i < ps.length * 2 := by simpa using h1
  have hi : i / 2 < ps.length := by omega
  obtain ⟨g0, g1⟩ := flatP_get ps (i / 2) _ (getElem?_of hi)
  simp only [Go.Sort.flatK, Array.getElem_map, Array.getElem_range]
  rw [getElem!_pos _ (i / 2) (by simpa using hi)]
  simp only [List.getElem_toArray]
  rcases Nat.mod_two_eq_zero_or_one i with h | h
  ·rw [h]
   have e : i / 2 * 2 = i := by omega
   rw [e, List.getElem?_eq_getElem (by rw [flatP_length]; exact hl)] at g0
   injection g0 with g0; rw [g0]; rfl
  ·rw [h]
   have e : i / 2 * 2 + 1 = i := by omega
   rw [e, List.getElem?_eq_getElem (by rw [flatP_length]; exact hl)] at g1
   injection g1 with g1; rw [g1]; rfl
theorem flatP_flat (ps : List Pr) : ∀ y ∈ flatP ps, flat y = true ∧ y.oneCell' = true := by
 intro y hy
 rw [flatP, List.mem_flatMap] at hy
 obtain ⟨p, _, hx⟩ := hy
 simp [cellsP] at hx
 rcases hx with rfl | rfl <;> exact ⟨rfl, rfl⟩
theorem swoP : Go.Sort.SWO (Go.Proofs.ltOf cmpP) := by
 have e : ∀ p q, Go.Proofs.ltOf cmpP p q = ltP p q := fun _ _ => rfl
 refine ⟨fun x => ?_, fun x y z h1 h2 => ?_, fun x y z h1 h2 => ?_⟩
 ·rw [e, ltP_false]; omega
 ·rw [e, ltP_iff] at *; omega
 ·rw [e, ltP_false] at *; omega
theorem GP.cases {h : AHeap} {v : Value} {ps : List Pr} (g : GP h v ps) (hn : ps.length ≤ 100000) : (∃ a cap, v = .slice a 0 cap ∧ ps = []) ∨ ∃ id c cap, v = .slice (some ⟨id, 0, none⟩) ps.length cap ∧ h.own id = some (.cells c) ∧ c.take (ps.length * 2) = flatP ps ∧ (cap = UNK + 2 ∨ cap = ps.length ∧ ps.length < 1000000000000) ∧ 0 < ps.length ∧ ps.length ≤ cap ∧ ps.length * 2 ≤ c.length := by
 obtain ⟨hl, ⟨rfl, h0⟩ | ⟨id, c, cap, rfl, ho, ht, hc⟩⟩ := g
 ·exact .inl ⟨none, 0, rfl, List.length_eq_zero_iff.1 h0⟩
 ·by_cases h0 : ps.length = 0
  ·rw [h0]; exact .inl ⟨_, _, rfl, List.length_eq_zero_iff.1 h0⟩
  ·have hcl : ps.length * 2 ≤ c.length := by have := congrArg List.length ht; rw [List.length_take, hl] at this; omega
   refine .inr ⟨id, c, cap, rfl, ho, ht, hc, by omega, ?_, hcl⟩
   rcases hc with rfl | ⟨rfl, _⟩
   ·have : (100000 : Nat) ≤ UNK := by decide
    omega
   ·exact Nat.le_refl _
theorem valP_vrs (m : CMap) (p q : Pr) : VRs 0 m [valP p, valP q] [valP p, valP q] := by
 have one : ∀ p : Pr, VR 0 m (valP p) (valP p) := fun p => .agg rfl fun i v v' h h' => by
  rw [h] at h'; injection h' with h'; subst h'
  have : v ∈ [Value.int .i64 p.1, .int .i64 p.2] := by
   have := Array.mem_of_getElem? h; simpa using this
  simp at this
  rcases this with rfl | rfl <;> exact .flat rfl
 exact .cons (one p) (.cons (one q) (.nil _ _))
theorem SortFunc_any (W0 : Base) {h : AHeap} {v : Value} {ps : List Pr} (g : GP h v ps) (hn : ps.length ≤ 100000) (cmpf : FuncId)
  (eg : ∀ args w, (callFunc cmpf args).run Try.prog w = .ok (.enter cmpf args) w)
  (hc : ∀ (W : World) (p q : Pr), AC Try.prog (Base.of W) cmpf [valP p, valP q] (ext0 W) fun v _ => v = .int .i64 (cmpP p q)) :
  AC Try.prog W0 98 [v, .func (.func cmpf) #[] #[]] h fun x h' => x = .tuple #[] ∧ GP h' v (sortP ps) ∧ ∀ f, Le f h → Apart f v → Le f h' := by
 rcases g.cases hn with ⟨a, cap, rfl, rfl⟩ | ⟨id, c, cap, rfl, ho, ht, hcc, h0, hlc, hcl⟩
 ·refine (AC.ofNoneF fun a' cap' w => AnyF.slices_SortFunc_none { Try.sortP with } a' cap' (.func (.func cmpf) #[] #[]) w).mono ?_
  rintro x h' ⟨rfl, rfl⟩; exact ⟨rfl, by simpa [sortP] using g, fun f lf _ => lf⟩
 ·have key := fun (blk off cap' : Nat) (w : World) hH hb (hcap : ps.length ≤ cap') =>
   AnyQ.slices_SortFunc_total (α := Pr) Try.sortP 2 Try.isAgg61 Try.sizeOf61 cellsP (fun _ => rfl) (fun x v hv => (flatP_flat [x] v (by simpa [flatP] using hv)).2) cmpP swoP cmpf #[] blk off cap' ps.toArray w eg
    (fun m os dk _ x y => AC.grown (args := [valP x, valP y]) _ (hc _ x y) (fun m => valP_vrs m x y)) hH hb (by simp; omega)
    (fun x y h1 h2 => by
     have h1 : ltP x y = false := h1
     have h2 : ltP y x = false := h2
     rw [ltP_false] at h1 h2
     exact Prod.ext (by omega) (by omega))
  refine (AC.ofRowK (k := 2) (xs := flatP ps) (ys := flatP (sortP ps)) ho ht (flatP_length _) (by rw [flatP_length, sortP_length]) hcl hlc h0 (fun y hy => (flatP_flat ps y hy).1) (flatP_flat _) fun blk off cap' w hH hb hcap => ?_).mono ?_
  ·have hH' : Go.Sort.HoldsK cellsP 2 w blk off ps.toArray := by
    unfold Go.Sort.HoldsK; rw [flatK_P]; exact hH
   refine (key blk off cap' w hH' hb hcap).mono ?_
   rintro e w' ⟨rfl, n, os, rfl⟩
   refine ⟨rfl, n, os, ?_⟩
   unfold Go.Proofs.sortWorldK Go.Sort.putRowK
   rw [flatK_P]
   rfl
  ·rintro x h' ⟨rfl, rfl⟩
   refine ⟨rfl, ?_, fun f lf af => lf.put _ (af id rfl)⟩
   rw [GP, sortP_length]
   refine ⟨by rw [flatP_length, sortP_length], .inr ⟨id, _, cap, rfl, AHeap.own_put_eq _ _ _, ?_, hcc⟩⟩
   have hl : (flatP (sortP ps)).length = ps.length * 2 := by rw [flatP_length, sortP_length]
   rw [List.take_append_of_le_length (by omega), List.take_of_length_le (by omega)]
end Go.Fw
namespace Go.Fw
open Go.Proofs
set_option maxHeartbeats 8000000
set_option maxRecDepth 10000
structure LowR (n : Nat) (ls : List Lw) (o : List Nat) : Prop where
 len : ls.length = n
 lt : ∀ v ∈ o, v < n
 olen : o.length ≤ n
 up : ∀ v, v < n → (getL ls v).2.1 < (n : Int)
theorem lowM_R {n : Nat} {es : List Pr} (hR : InR n es) : LowR n (lowM n es).1 (lowM n es).2 := by
 obtain ⟨C, _⟩ := metM_C hR n (Nat.le_refl _)
 refine ⟨by rw [lowM, ups_length, edges_length]; exact C.len, C.lt, C.toLowI.olen, fun v hv => ?_⟩
 rw [lowM, (ups_keep _ _ v).2, (edges_keep _ _ v).2]; exact C.up v hv
def LR (h : AHeap) (v : Value) (ls : List Lw) : Prop := CS 3 h v ls.length (flatL ls)
theorem LR.own {h : AHeap} {L n cap : Nat} {ls : List Lw} (ho : h.own L = some (.cells (flatL ls))) (hl : ls.length = n) : LR h (.slice (some ⟨L, 0, none⟩) n cap) ls := by
 subst hl
 have := CS.own (k := 3) (off := 0) (n := ls.length) (cap := cap) ho (by rw [flatL_length]; omega)
 rw [List.drop_zero, List.take_of_length_le (by rw [flatL_length]; omega)] at this
 exact this
def brB (ls : List Lw) (v : Nat) : Option Pr := if 0 ≤ (getL ls v).2.1 ∧ (getL ls v).2.2 = (getL ls v).1 then some (min (getL ls v).2.1 (v : Int), max (getL ls v).2.1 (v : Int)) else none
def bridgesM (n : Nat) (es : List Pr) : List Pr := sortP ((lowM n es).2.filterMap (brB (lowM n es).1))
theorem amax_i (a b : Int) : aMax (.int .i64 a) [.int .i64 b] = some (.int .i64 (max a b)) := by
 have : (if b > a then b else a) = max a b := by split <;> omega
 simp only [aMax, if_true, this]
theorem bP2 (a b : Int) : aBuild Try.prog 61 [(0, .int .i64 a), (1, .int .i64 b)] = some (valP (a, b)) := by kernel_rfl
end Go.Fw
namespace Go.Fw
open Go.Proofs
attribute [local irreducible] KO4 KO3 KO2 KO1 KO KN KX KE VK KCond KDraw KCall KLoop
set_option maxHeartbeats 8000000
set_option maxRecDepth 10000
def cntS (ls : List Lw) (c : List Int) (v : Nat) : List Int :=
 if 0 ≤ (getL ls v).2.1 ∧ (getL ls (getL ls v).2.1.toNat).1 ≤ (getL ls v).2.2 then c.set (getL ls v).2.1.toNat (c.getD (getL ls v).2.1.toNat 0 + 1) else c
def cntM (ls : List Lw) (o : List Nat) (n : Nat) : List Int := o.foldl (cntS ls) (List.replicate n 0)
theorem cntS_length (ls : List Lw) (c : List Int) (v : Nat) : (cntS ls c v).length = c.length := by unfold cntS; split <;> simp
theorem cntF_length (ls : List Lw) : ∀ (o : List Nat) (c : List Int), (o.foldl (cntS ls) c).length = c.length
 | [], c => rfl
 | v :: o, c => by rw [List.foldl_cons, cntF_length ls o, cntS_length]
theorem cntF_le (ls : List Lw) : ∀ (o : List Nat) (c : List Int) (m : Int), (∀ x ∈ c, 0 ≤ x ∧ x ≤ m) → ∀ x ∈ o.foldl (cntS ls) c, 0 ≤ x ∧ x ≤ m + o.length
  | [], c, m, h => by simpa using h
  | v :: o, c, m, h => by
    rw [List.foldl_cons]
    have := cntF_le ls o (cntS ls c v) (m + 1) fun x hx => by
      unfold cntS at hx
      split at hx
      · rcases List.mem_or_eq_of_mem_set hx with e | e
        · have := h x e; omega
        · subst e
          rw [List.getD_eq_getElem?_getD]
          cases hg : c[(getL ls v).2.1.toNat]? with
          | none => rename_i hc; have := List.getElem?_eq_none_iff.1 hg
                    rw [List.set_eq_of_length_le this] at hx
                    have := h _ hx; rw [List.getD_eq_getElem?_getD, hg] at this
                    exact ⟨by omega, by omega⟩
          | some y => have := h y (List.mem_of_getElem? hg); simp; omega
      · have := h x hx; omega
    intro x hx
    have := this x hx
    simp only [List.length_cons]; omega
def isCut (ls : List Lw) (c : List Int) (v : Nat) : Bool := decide (c.getD v 0 > 1) || (decide (c.getD v 0 = 1) && decide ((getL ls v).2.1 ≥ 0))
def cutsM (n : Nat) (es : List Pr) : List Nat := (List.range n).filter (isCut (lowM n es).1 (cntM (lowM n es).1 (lowM n es).2 n))
theorem mkI0 (h : AHeap) : aBuildSlice Try.prog h 38 0 [] = some (.slice (some ⟨h.next, 0, none⟩) 0 0, h.alloc (.cells [])) := rfl
theorem Cuts_any (W0 : Base) (v : Value) (G : GM) (h : AHeap) (hg : GR h v G) :
  AC Try.prog W0 86 [v] h fun x h' => Le h h' ∧ ((¬ RightG G ∧ x = .tuple #[.slice none 0 0, .int .i64 20]) ∨ (RightG G ∧ ∃ cv, x = .tuple #[cv, .int .i64 0] ∧ GI h' cv (nat64 (cutsM G.n.toNat G.es)) ∧ Apart h cv)) := by
 have hg0 := hg
 obtain ⟨gn, es⟩ := G
 obtain ⟨ev, rfl, hp⟩ := hg.open
 refine AC.vc (fn := Try.f86) (c := _) ⟨Try.func86, rfl, by decide⟩ Try.ntmps86 Try.results86 (by simp) fun hwf => ?_
 simp only [argFrame, argFrom, Nat.reduceAdd]
 obtain ⟨h1, b1, le1, wf1, -, lA⟩ := boxG (n := gn) hwf hp
 generalize h.next = B at *
 have lA1 := lA h1 (Le.refl _)
 simp only [kS1, bLookup, bMapSet, wantA, isCall, stepOp, evalO, evalL, evalP, evalM, putDst, flat, kA, kB, Nat.reduceLT, ↓reduceIte, kC, Nat.reduceEqDiff, aBuiltin, abinG, guardFree, abin, aInt, aUn, aNilCheck, retQ, retQ1, aresults, aresultL, aresult, mkF, undefV, reduceCtorEq, kD, kE, kF, kG, kH, kI, kJ, kK, aExtract, calleeOf, b1, lA1.1]
 refine KCall.intro (by simp only [kS1, bLookup, bMapSet, wantA, isCall, stepOp, evalO, evalL, evalP, evalM, putDst, flat, kA, kB, Nat.reduceLT, ↓reduceIte, kC, Nat.reduceEqDiff, aBuiltin, abinG, guardFree, abin, aInt, aUn, aNilCheck, retQ, retQ1, aresults, aresultL, aresult, mkF, undefV, reduceCtorEq, kD, kE, kF, kG, kH, kI, kJ, kK, aExtract, calleeOf] <;> rfl) ⟨Try.func59, rfl, by decide⟩ (search_any W0 _ _ h1 (hg0.le le1)) ?_
 rintro x h2 wf2 ⟨le2, ⟨hr, rfl⟩ | ⟨hr, L, ov, rfl, oL, nL, go, nb, ao⟩⟩
 ·have d20 : decide ((20 : Int) = 0) = false := by decide
  simp only [kS1, bLookup, bMapSet, wantA, isCall, stepOp, evalO, evalL, evalP, evalM, putDst, flat, kA, kB, Nat.reduceLT, ↓reduceIte, kC, Nat.reduceEqDiff, aBuiltin, abinG, guardFree, abin, aInt, aUn, aNilCheck, retQ, retQ1, aresults, aresultL, aresult, mkF, undefV, reduceCtorEq, kD, kE, kF, kG, kH, kI, kJ, kK, aExtract, calleeOf, bne, d20]
  exact ⟨le1.trans le2, .inl ⟨hr, trivial⟩⟩
 have h0 : 0 ≤ gn := hr.n0
 obtain ⟨n, rfl⟩ := Int.eq_ofNat_of_zero_le h0
 have h200 : (n : Int) ≤ 200 := hr.n1
 have R := lowM_R hr.inR
 simp only [Int.toNat_natCast] at oL go ⊢
 have hM : cutsM n es = (List.range n).filter (isCut (lowM n es).1 (cntM (lowM n es).1 (lowM n es).2 n)) := rfl
 generalize (lowM n es).1 = ls at *
 generalize (lowM n es).2 = o at *
 have hol := R.olen
 have lA2 := lA h2 le2
 have mk := aMakeSlice1 (P := Try.prog) (t := 38) (z := .int .i64 0) h2 Try.underlying38 rfl rfl rfl rfl (by kernel_rfl) Try.underlying3 (by kernel_rfl) n (by omega)
 obtain ⟨h3, e3, l3, w3, o3⟩ := alloc_f wf2 (List.replicate n (.int .i64 0))
 rw [e3] at mk
 have nC : h2.own h2.next = none := (Le.refl h2).next wf2 (Nat.le_refl _)
 have lo := fun g => go.rl.len (P := Try.prog) Try.underlying38 g
 rw [nat64_length] at lo
 simp only [kS1, bLookup, bMapSet, wantA, isCall, stepOp, evalO, evalL, evalP, evalM, putDst, flat, kA, kB, Nat.reduceLT, ↓reduceIte, kC, Nat.reduceEqDiff, aBuiltin, abinG, guardFree, abin, aInt, aUn, aNilCheck, retQ, retQ1, aresults, aresultL, aresult, mkF, undefV, reduceCtorEq, kD, kE, kF, kG, kH, kI, kJ, kK, aExtract, calleeOf, bne, fg0, aadd, Nat.zero_add, lA2.2.1, mk, lo]
 generalize h2.next = C at *
 have oC3 : h3.own C = some (.cells (I64 (List.replicate n 0))) := by rw [o3]; simp [I64]
 have ixC : ∀ (k : IntKind) (j : Nat), j < n → aIndexAddr Try.prog 38 (.slice (some ⟨C, 0, none⟩) n n) (.int k j) = some (.pointer (some ⟨C, j, none⟩)) := fun k j hj => by rw [aIdx Try.underlying38 Try.underlying3 (by kernel_rfl) j hj]; simp [aadd]
 have ldC : ∀ (g : AHeap) (c : List Int) (j : Nat), g.own C = some (.cells (I64 c)) → c.length = n → j < n → aload Try.prog g 3 ⟨C, j, none⟩ = some (.int .i64 (c.getD j 0)) := fun g c j ho hl hj => by
  rw [aload_one Try.underlying3 rfl ho, getD_of (by omega)]; simp [I64, getElem?_of (show j < c.length by omega)]
 refine KLoop.intro (fun k fr hq => ∃ (i : Nat), k = o.length - i ∧ i ≤ o.length ∧ fr = mkF [(1, .pointer (some ⟨B, 0, none⟩)), (4, .slice (some ⟨L, 0, none⟩) n n), (7, .slice (some ⟨C, 0, none⟩) n n), (25, ov), (26, .int .i64 o.length), (27, .int .i64 i)] ∧ hq.own C = some (.cells (I64 ((o.take i).foldl (cntS ls) (List.replicate n 0)))) ∧ Le h2 hq)
  o.length [(1, .pointer (some ⟨B, 0, none⟩)), (4, .slice (some ⟨L, 0, none⟩) n n), (7, .slice (some ⟨C, 0, none⟩) n n), (25, ov), (26, .int .i64 o.length), (27, .int .i64 (0 : Nat))] (by simp only [hasAll, kS1, bLookup, bMapSet, wantA, isCall, stepOp, evalO, evalL, evalP, evalM, putDst, flat, kA, kB, Nat.reduceLT, ↓reduceIte, kC, Nat.reduceEqDiff, aBuiltin, abinG, guardFree, abin, aInt, aUn, aNilCheck, retQ, retQ1, aresults, aresultL, aresult, mkF, undefV, reduceCtorEq, kD, kE, kF, kG, kH, kI, kJ, kK, aExtract, calleeOf]; simp) ⟨0, rfl, Nat.zero_le _, rfl, oC3, l3⟩ ?_
 clear oC3 o3 w3 l3 e3 mk lo lA2
 clear h3
 rintro k fr hq hwq ⟨i, rfl, hi, rfl, oC, le3⟩
 have hcl : ((o.take i).foldl (cntS ls) (List.replicate n 0)).length = n := by rw [cntF_length]; simp
 have hcm := cntF_le ls (o.take i) (List.replicate n 0) 0 fun x hx => by rw [List.eq_of_mem_replicate hx]; omega
 simp only [kS1, bLookup, bMapSet, wantA, isCall, stepOp, evalO, evalL, evalP, evalM, putDst, flat, kA, kB, Nat.reduceLT, ↓reduceIte, kC, Nat.reduceEqDiff, aBuiltin, abinG, guardFree, abin, aInt, aUn, aNilCheck, retQ, retQ1, aresults, aresultL, aresult, mkF, undefV, reduceCtorEq, kD, kE, kF, kG, kH, kI, kJ, kK, aExtract, calleeOf]
 refine KCond.intro (fun ht => ?_) (fun hf => ?_)
 ·have hlt : i < o.length := lt_t ht
  clear ht
  have hoi := getElem?_of hlt
  have ad := go.rl.addr (P := Try.prog) Try.underlying38 Try.underlying3 (by kernel_rfl) (k := .i64) i (by rw [nat64_length]; exact hlt)
  have ld := (go.le le3).rl.loadI (P := Try.prog) Try.underlying3 rfl i (by rw [nat64_length]; exact hlt)
  rw [nat64_get hlt] at ld
  have htk : o.take (i + 1) = o.take i ++ [o[i]] := List.take_succ_eq_append_getElem hlt
  generalize o[i] = w at hoi ld htk
  have hwn := R.lt w (List.mem_of_getElem? hoi)
  have gw := getL_of (ls := ls) (v := w) (by rw [R.len]; exact hwn)
  have oL3 := le3.own _ _ oL
  have hstep : (o.take (i + 1)).foldl (cntS ls) (List.replicate n 0) = cntS ls ((o.take i).foldl (cntS ls) (List.replicate n 0)) w := by rw [htk, List.foldl_append]; rfl
  have htl : (o.take i).length = i := by simp; omega
  rw [htl] at hcm
  generalize (o.take i).foldl (cntS ls) (List.replicate n 0) = c at *
  simp only [kS1, bLookup, bMapSet, wantA, isCall, stepOp, evalO, evalL, evalP, evalM, putDst, flat, kA, kB, Nat.reduceLT, ↓reduceIte, kC, Nat.reduceEqDiff, aBuiltin, abinG, guardFree, abin, aInt, aUn, aNilCheck, retQ, retQ1, aresults, aresultL, aresult, mkF, undefV, reduceCtorEq, kD, kE, kF, kG, kH, kI, kJ, kK, aExtract, calleeOf, ad, ld, lAddr w hwn, fl1, aadd, lUp oL3 gw]
  by_cases c1 : 0 ≤ (getL ls w).2.1
  ·obtain ⟨u, hu⟩ := Int.eq_ofNat_of_zero_le c1
   have hun : u < n := by have := R.up w hwn; omega
   have gu := getL_of (ls := ls) (v := u) (by rw [R.len]; exact hun)
   have d1 : decide ((u : Int) ≥ 0) = true := decide_eq_true (by omega)
   by_cases c2 : (getL ls u).1 ≤ (getL ls w).2.2
   ·have d2 : decide ((getL ls w).2.2 ≥ (getL ls u).1) = true := decide_eq_true c2
    have hE : cntS ls c w = c.set u (c.getD u 0 + 1) := by unfold cntS; rw [hu, Int.toNat_natCast, if_pos ⟨by omega, c2⟩]
    have hcu : 0 ≤ c.getD u 0 ∧ c.getD u 0 ≤ 0 + (i : Int) := by rw [getD_of (by omega)]; exact hcm _ (List.getElem_mem _)
    have w1 : awrap .i64 (c.getD u 0 + 1) = c.getD u 0 + 1 := awrap_in _ (by omega) (by omega)
    have st := aStore1 (P := Try.prog) (t := 3) (x := .int .i64 (c.getD u 0 + 1)) Try.underlying3 (by kernel_rfl) oC (off := u) (by simp [I64]; omega) rfl rfl
    rw [I64_set, ← hE, ← hstep] at st
    simp only [hu]
    refine KDraw.intro mixed (.fl 0 (.fl 1 (.fl 2 (.fl 3 (.fl 4 (.fl 5 (.fl 6 (.fl 7 (.fl 8 (.fl 9 (.fl 10 (.fl 11 (.fl 12 (.fl 13 (.fl 14 (.done)))))))))))))))) (by kernel_rfl) ?_
    simp only [kS1, bLookup, bMapSet, wantA, isCall, stepOp, evalO, evalL, evalP, evalM, putDst, flat, kA, kB, Nat.reduceLT, ↓reduceIte, kC, Nat.reduceEqDiff, aBuiltin, abinG, guardFree, abin, aInt, aUn, aNilCheck, retQ, retQ1, aresults, aresultL, aresult, mkF, undefV, reduceCtorEq, kD, kE, kF, kG, kH, kI, kJ, kK, aExtract, calleeOf, kD1, Nat.reduceBEq, HoldsAll, kL, kM, kN, kO, d1, d2, lAddr w hwn, lAddr u hun, fl0, fl2, aadd, Nat.add_zero, lLow oL3 gw, lNum oL3 gu, ixC _ u hun, ldC hq c u oC hcl hun, w1, st, awrap_succ i (by omega)]
    exact loop_again (o.length - (i + 1)) [(1, .pointer (some ⟨B, 0, none⟩)), (4, .slice (some ⟨L, 0, none⟩) n n), (7, .slice (some ⟨C, 0, none⟩) n n), (25, ov), (26, .int .i64 o.length), (27, .int .i64 (i + 1 : Nat))] (by omega) (by simp only [hasAll, kS1, bLookup, bMapSet, wantA, isCall, stepOp, evalO, evalL, evalP, evalM, putDst, flat, kA, kB, Nat.reduceLT, ↓reduceIte, kC, Nat.reduceEqDiff, aBuiltin, abinG, guardFree, abin, aInt, aUn, aNilCheck, retQ, retQ1, aresults, aresultL, aresult, mkF, undefV, reduceCtorEq, kD, kE, kF, kG, kH, kI, kJ, kK, aExtract, calleeOf]; simp) ⟨i + 1, rfl, hlt, rfl, AHeap.own_put_eq _ _ _, le3.put _ nC⟩
   ·have d2 : decide ((getL ls w).2.2 ≥ (getL ls u).1) = false := decide_eq_false c2
    have hE : cntS ls c w = c := by unfold cntS; rw [hu, Int.toNat_natCast, if_neg (fun h => c2 h.2)]
    simp only [hu]
    refine KDraw.intro mixed (.fl 0 (.fl 1 (.fl 2 (.fl 3 (.fl 4 (.fl 5 (.fl 6 (.fl 7 (.fl 8 (.fl 9 (.fl 10 (.fl 11 (.fl 12 (.fl 13 (.fl 14 (.done)))))))))))))))) (by kernel_rfl) ?_
    simp only [kS1, bLookup, bMapSet, wantA, isCall, stepOp, evalO, evalL, evalP, evalM, putDst, flat, kA, kB, Nat.reduceLT, ↓reduceIte, kC, Nat.reduceEqDiff, aBuiltin, abinG, guardFree, abin, aInt, aUn, aNilCheck, retQ, retQ1, aresults, aresultL, aresult, mkF, undefV, reduceCtorEq, kD, kE, kF, kG, kH, kI, kJ, kK, aExtract, calleeOf, kD1, Nat.reduceBEq, HoldsAll, kL, kM, kN, kO, d1, d2, lAddr w hwn, lAddr u hun, fl0, fl2, aadd, Nat.add_zero, lLow oL3 gw, lNum oL3 gu, awrap_succ i (by omega)]
    exact loop_again (o.length - (i + 1)) [(1, .pointer (some ⟨B, 0, none⟩)), (4, .slice (some ⟨L, 0, none⟩) n n), (7, .slice (some ⟨C, 0, none⟩) n n), (25, ov), (26, .int .i64 o.length), (27, .int .i64 (i + 1 : Nat))] (by omega) (by simp only [hasAll, kS1, bLookup, bMapSet, wantA, isCall, stepOp, evalO, evalL, evalP, evalM, putDst, flat, kA, kB, Nat.reduceLT, ↓reduceIte, kC, Nat.reduceEqDiff, aBuiltin, abinG, guardFree, abin, aInt, aUn, aNilCheck, retQ, retQ1, aresults, aresultL, aresult, mkF, undefV, reduceCtorEq, kD, kE, kF, kG, kH, kI, kJ, kK, aExtract, calleeOf]; simp) ⟨i + 1, rfl, hlt, rfl, by rw [hstep, hE]; exact oC, le3⟩
  ·have d1 : decide ((getL ls w).2.1 ≥ 0) = false := decide_eq_false c1
   have hE : cntS ls c w = c := by unfold cntS; rw [if_neg (fun h => c1 h.1)]
   refine KDraw.intro mixed (.fl 0 (.fl 1 (.fl 2 (.fl 3 (.fl 4 (.fl 5 (.fl 6 (.fl 7 (.fl 8 (.fl 9 (.fl 10 (.fl 11 (.fl 12 (.fl 13 (.fl 14 (.done)))))))))))))))) (by kernel_rfl) ?_
   simp only [kS1, bLookup, bMapSet, wantA, isCall, stepOp, evalO, evalL, evalP, evalM, putDst, flat, kA, kB, Nat.reduceLT, ↓reduceIte, kC, Nat.reduceEqDiff, aBuiltin, abinG, guardFree, abin, aInt, aUn, aNilCheck, retQ, retQ1, aresults, aresultL, aresult, mkF, undefV, reduceCtorEq, kD, kE, kF, kG, kH, kI, kJ, kK, aExtract, calleeOf, kD1, Nat.reduceBEq, HoldsAll, kL, kM, kN, kO, d1, awrap_succ i (by omega)]
   exact loop_again (o.length - (i + 1)) [(1, .pointer (some ⟨B, 0, none⟩)), (4, .slice (some ⟨L, 0, none⟩) n n), (7, .slice (some ⟨C, 0, none⟩) n n), (25, ov), (26, .int .i64 o.length), (27, .int .i64 (i + 1 : Nat))] (by omega) (by simp only [hasAll, kS1, bLookup, bMapSet, wantA, isCall, stepOp, evalO, evalL, evalP, evalM, putDst, flat, kA, kB, Nat.reduceLT, ↓reduceIte, kC, Nat.reduceEqDiff, aBuiltin, abinG, guardFree, abin, aInt, aUn, aNilCheck, retQ, retQ1, aresults, aresultL, aresult, mkF, undefV, reduceCtorEq, kD, kE, kF, kG, kH, kI, kJ, kK, aExtract, calleeOf]; simp) ⟨i + 1, rfl, hlt, rfl, by rw [hstep, hE]; exact oC, le3⟩
 have hge : o.length ≤ i := lt_f hf
 rw [List.take_of_length_le hge] at oC hcl hcm
 have hcM : o.foldl (cntS ls) (List.replicate n 0) = cntM ls o n := rfl
 rw [hcM] at oC hcl hcm
 rw [hM]
 generalize cntM ls o n = c at *
 have lAq := lA hq (le2.trans le3)
 obtain ⟨h4, e4, l4, w4, o4⟩ := alloc_f hwq []
 have nK : hq.own hq.next = none := (Le.refl hq).next hwq (Nat.le_refl _)
 have lA4 := lA h4 ((le2.trans le3).trans l4)
 simp only [kS1, bLookup, bMapSet, wantA, isCall, stepOp, evalO, evalL, evalP, evalM, putDst, flat, kA, kB, Nat.reduceLT, ↓reduceIte, kC, Nat.reduceEqDiff, aBuiltin, abinG, guardFree, abin, aInt, aUn, aNilCheck, retQ, retQ1, aresults, aresultL, aresult, mkF, undefV, reduceCtorEq, kD, kE, kF, kG, kH, kI, kJ, kK, aExtract, calleeOf, mkI0, e4, fg0, aadd, Nat.zero_add, lA4.2.1]
 have g4 : GI h4 (.slice (some ⟨hq.next, 0, none⟩) 0 0) [] := GS.full o4 rfl (by decide)
 have a4 : Apart hq (.slice (some ⟨hq.next, 0, none⟩) 0 0) := fun b hb => by injection hb with hb; subst hb; exact nK
 generalize Value.slice (some ⟨hq.next, 0, none⟩) 0 0 = cv0 at *
 refine KLoop.intro (fun k fr hh => ∃ (j : Nat) (cv : Value), k = n - j ∧ j ≤ n ∧ fr = mkF [(4, .slice (some ⟨L, 0, none⟩) n n), (7, .slice (some ⟨C, 0, none⟩) n n), (11, cv), (60, .int .i64 n), (61, .int .i64 j)] ∧ GI hh cv (nat64 ((List.range j).filter (isCut ls c))) ∧ Le hq hh ∧ Apart hq cv)
  n [(4, .slice (some ⟨L, 0, none⟩) n n), (7, .slice (some ⟨C, 0, none⟩) n n), (11, cv0), (60, .int .i64 n), (61, .int .i64 (0 : Nat))] (by simp only [hasAll, kS1, bLookup, bMapSet, wantA, isCall, stepOp, evalO, evalL, evalP, evalM, putDst, flat, kA, kB, Nat.reduceLT, ↓reduceIte, kC, Nat.reduceEqDiff, aBuiltin, abinG, guardFree, abin, aInt, aUn, aNilCheck, retQ, retQ1, aresults, aresultL, aresult, mkF, undefV, reduceCtorEq, kD, kE, kF, kG, kH, kI, kJ, kK, aExtract, calleeOf]; simp) ⟨0, cv0, rfl, Nat.zero_le _, rfl, g4, l4, a4⟩ ?_
 clear g4 a4 cv0 lA4 nK o4 w4 l4 e4 lAq
 clear h4
 rintro k fr hh hwh ⟨j, cv, rfl, hj, rfl, gc, leh, ac⟩
 simp only [kS1, bLookup, bMapSet, wantA, isCall, stepOp, evalO, evalL, evalP, evalM, putDst, flat, kA, kB, Nat.reduceLT, ↓reduceIte, kC, Nat.reduceEqDiff, aBuiltin, abinG, guardFree, abin, aInt, aUn, aNilCheck, retQ, retQ1, aresults, aresultL, aresult, mkF, undefV, reduceCtorEq, kD, kE, kF, kG, kH, kI, kJ, kK, aExtract, calleeOf]
 refine KCond.intro (fun ht => ?_) (fun hf => ?_)
 ·have hlt : j < n := lt_t ht
  clear ht
  have gj := getL_of (ls := ls) (v := j) (by rw [R.len]; exact hlt)
  have oLh := (le3.trans leh).own _ _ oL
  have oCh := leh.own _ _ oC
  have hfl : ((List.range j).filter (isCut ls c)).length ≤ j := by have := List.length_filter_le (isCut ls c) (List.range j); simpa using this
  have hrs : ∀ b, isCut ls c j = b → (List.range (j + 1)).filter (isCut ls c) = (List.range j).filter (isCut ls c) ++ cond b [j] [] := fun b hb => by
   rw [List.range_succ, List.filter_append]; subst hb; cases h : isCut ls c j <;> simp [h]
  have lc := ldC hh c j oCh hcl hlt
  have lu := lUp oLh gj
  obtain ⟨v', h4, h5, e4, e5, g5, w5, l4, f5, -⟩ := gc.push hwh (j : Int) (by rw [nat64_length]; omega)
  obtain ⟨l5, a5⟩ := f5 hq leh ac
  have yes : isCut ls c j = true → GI h5 v' (nat64 ((List.range (j + 1)).filter (isCut ls c))) := fun hb => by rw [hrs _ hb]; simpa [nat64] using g5
  have no : isCut ls c j = false → GI hh cv (nat64 ((List.range (j + 1)).filter (isCut ls c))) := fun hb => by rw [hrs _ hb]; simpa [nat64] using gc
  by_cases c1 : c.getD j 0 > 1
  ·have d1 : decide (c.getD j 0 > 1) = true := decide_eq_true c1
   simp only [kS1, bLookup, bMapSet, wantA, isCall, stepOp, evalO, evalL, evalP, evalM, putDst, flat, kA, kB, Nat.reduceLT, ↓reduceIte, kC, Nat.reduceEqDiff, aBuiltin, abinG, guardFree, abin, aInt, aUn, aNilCheck, retQ, retQ1, aresults, aresultL, aresult, mkF, undefV, reduceCtorEq, kD, kE, kF, kG, kH, kI, kJ, kK, aExtract, calleeOf, ixC _ j hlt, lc, d1, e4, e5, awrap_succ j (by omega)]
   exact loop_again (n - (j + 1)) [(4, .slice (some ⟨L, 0, none⟩) n n), (7, .slice (some ⟨C, 0, none⟩) n n), (11, v'), (60, .int .i64 n), (61, .int .i64 (j + 1 : Nat))] (by omega) (by simp only [hasAll, kS1, bLookup, bMapSet, wantA, isCall, stepOp, evalO, evalL, evalP, evalM, putDst, flat, kA, kB, Nat.reduceLT, ↓reduceIte, kC, Nat.reduceEqDiff, aBuiltin, abinG, guardFree, abin, aInt, aUn, aNilCheck, retQ, retQ1, aresults, aresultL, aresult, mkF, undefV, reduceCtorEq, kD, kE, kF, kG, kH, kI, kJ, kK, aExtract, calleeOf]; simp) ⟨j + 1, v', rfl, hlt, rfl, yes (by simp only [isCut, d1, Bool.true_or]), l5, a5⟩
  have d1 : decide (c.getD j 0 > 1) = false := decide_eq_false c1
  by_cases c2 : c.getD j 0 = 1
  ·have d2 : decide (c.getD j 0 = 1) = true := decide_eq_true c2
   by_cases c3 : (getL ls j).2.1 ≥ 0
   ·have d3 : decide ((getL ls j).2.1 ≥ 0) = true := decide_eq_true c3
    simp only [kS1, bLookup, bMapSet, wantA, isCall, stepOp, evalO, evalL, evalP, evalM, putDst, flat, kA, kB, Nat.reduceLT, ↓reduceIte, kC, Nat.reduceEqDiff, aBuiltin, abinG, guardFree, abin, aInt, aUn, aNilCheck, retQ, retQ1, aresults, aresultL, aresult, mkF, undefV, reduceCtorEq, kD, kE, kF, kG, kH, kI, kJ, kK, aExtract, calleeOf, ixC _ j hlt, lc, d1, d2, lAddr j hlt, fl1, aadd, lu, d3, e4, e5, awrap_succ j (by omega)]
    exact loop_again (n - (j + 1)) [(4, .slice (some ⟨L, 0, none⟩) n n), (7, .slice (some ⟨C, 0, none⟩) n n), (11, v'), (60, .int .i64 n), (61, .int .i64 (j + 1 : Nat))] (by omega) (by simp only [hasAll, kS1, bLookup, bMapSet, wantA, isCall, stepOp, evalO, evalL, evalP, evalM, putDst, flat, kA, kB, Nat.reduceLT, ↓reduceIte, kC, Nat.reduceEqDiff, aBuiltin, abinG, guardFree, abin, aInt, aUn, aNilCheck, retQ, retQ1, aresults, aresultL, aresult, mkF, undefV, reduceCtorEq, kD, kE, kF, kG, kH, kI, kJ, kK, aExtract, calleeOf]; simp) ⟨j + 1, v', rfl, hlt, rfl, yes (by simp only [isCut, d1, d2, d3]; rfl), l5, a5⟩
   ·have d3 : decide ((getL ls j).2.1 ≥ 0) = false := decide_eq_false c3
    simp only [kS1, bLookup, bMapSet, wantA, isCall, stepOp, evalO, evalL, evalP, evalM, putDst, flat, kA, kB, Nat.reduceLT, ↓reduceIte, kC, Nat.reduceEqDiff, aBuiltin, abinG, guardFree, abin, aInt, aUn, aNilCheck, retQ, retQ1, aresults, aresultL, aresult, mkF, undefV, reduceCtorEq, kD, kE, kF, kG, kH, kI, kJ, kK, aExtract, calleeOf, ixC _ j hlt, lc, d1, d2, lAddr j hlt, fl1, aadd, lu, d3, awrap_succ j (by omega)]
    exact loop_again (n - (j + 1)) [(4, .slice (some ⟨L, 0, none⟩) n n), (7, .slice (some ⟨C, 0, none⟩) n n), (11, cv), (60, .int .i64 n), (61, .int .i64 (j + 1 : Nat))] (by omega) (by simp only [hasAll, kS1, bLookup, bMapSet, wantA, isCall, stepOp, evalO, evalL, evalP, evalM, putDst, flat, kA, kB, Nat.reduceLT, ↓reduceIte, kC, Nat.reduceEqDiff, aBuiltin, abinG, guardFree, abin, aInt, aUn, aNilCheck, retQ, retQ1, aresults, aresultL, aresult, mkF, undefV, reduceCtorEq, kD, kE, kF, kG, kH, kI, kJ, kK, aExtract, calleeOf]; simp) ⟨j + 1, cv, rfl, hlt, rfl, no (by simp only [isCut, d1, d2, d3]; rfl), leh, ac⟩
  ·have d2 : decide (c.getD j 0 = 1) = false := decide_eq_false c2
   simp only [kS1, bLookup, bMapSet, wantA, isCall, stepOp, evalO, evalL, evalP, evalM, putDst, flat, kA, kB, Nat.reduceLT, ↓reduceIte, kC, Nat.reduceEqDiff, aBuiltin, abinG, guardFree, abin, aInt, aUn, aNilCheck, retQ, retQ1, aresults, aresultL, aresult, mkF, undefV, reduceCtorEq, kD, kE, kF, kG, kH, kI, kJ, kK, aExtract, calleeOf, ixC _ j hlt, lc, d1, d2, awrap_succ j (by omega)]
   exact loop_again (n - (j + 1)) [(4, .slice (some ⟨L, 0, none⟩) n n), (7, .slice (some ⟨C, 0, none⟩) n n), (11, cv), (60, .int .i64 n), (61, .int .i64 (j + 1 : Nat))] (by omega) (by simp only [hasAll, kS1, bLookup, bMapSet, wantA, isCall, stepOp, evalO, evalL, evalP, evalM, putDst, flat, kA, kB, Nat.reduceLT, ↓reduceIte, kC, Nat.reduceEqDiff, aBuiltin, abinG, guardFree, abin, aInt, aUn, aNilCheck, retQ, retQ1, aresults, aresultL, aresult, mkF, undefV, reduceCtorEq, kD, kE, kF, kG, kH, kI, kJ, kK, aExtract, calleeOf]; simp) ⟨j + 1, cv, rfl, hlt, rfl, no (by simp only [isCut, d1, d2]; rfl), leh, ac⟩
 ·have hge : n ≤ j := lt_f hf
  obtain rfl : j = n := by omega
  simp only [kS1, bLookup, bMapSet, wantA, isCall, stepOp, evalO, evalL, evalP, evalM, putDst, flat, kA, kB, Nat.reduceLT, ↓reduceIte, kC, Nat.reduceEqDiff, aBuiltin, abinG, guardFree, abin, aInt, aUn, aNilCheck, retQ, retQ1, aresults, aresultL, aresult, mkF, undefV, reduceCtorEq, kD, kE, kF, kG, kH, kI, kJ, kK, aExtract, calleeOf]
  exact ⟨((le1.trans le2).trans le3).trans leh, .inr ⟨hr, cv, rfl, gc, fun b hb => ((le1.trans le2).trans le3).none (ac b hb)⟩⟩
end Go.Fw
