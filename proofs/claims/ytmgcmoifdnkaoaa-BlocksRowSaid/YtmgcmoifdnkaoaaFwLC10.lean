/- A text of the proof. -/
import Derived.Test.YtmgcmoifdnkaoaaFwLC8
set_option linter.unusedSimpArgs false
set_option linter.unusedVariables false
namespace Go.Fw
open Go.Proofs
set_option maxHeartbeats 16000000
set_option maxRecDepth 10000
def rB (ls : List Pr) (v : Nat) : List Int := (ls.filter fun p => decide (p.1 = (v : Int))).map (·.2)
def rC (ls : List Pr) (v : Nat) : List Int := (ls.filter fun p => decide (p.2 = (v : Int))).map (·.1)
def rowsB (b : Nat) (ls : List Pr) : List (List Int) := (List.range b).map (rB ls)
def rowsC (m : Nat) (ls : List Pr) : List (List Int) := (List.range m).map (rC ls)
theorem rowsB_length (b : Nat) (ls : List Pr) : (rowsB b ls).length = b := by simp [rowsB]
theorem rowsC_length (b : Nat) (ls : List Pr) : (rowsC b ls).length = b := by simp [rowsC]
theorem rowsB_get {b v : Nat} (ls : List Pr) (h : v < b) : (rowsB b ls)[v]? = some (rB ls v) := by simp [rowsB, h]
theorem rowsC_get {b v : Nat} (ls : List Pr) (h : v < b) : (rowsC b ls)[v]? = some (rC ls v) := by simp [rowsC, h]
theorem rB_len (ls : List Pr) (v : Nat) : (rB ls v).length ≤ ls.length := by rw [rB, List.length_map]; exact List.length_filter_le _ _
theorem rC_len (ls : List Pr) (v : Nat) : (rC ls v).length ≤ ls.length := by rw [rC, List.length_map]; exact List.length_filter_le _ _
theorem rows_snoc {f : List Pr → Nat → List Int} {b a : Nat} {ls : List Pr} {p : Pr} {x : Int} (ha : a < b) (h1 : f (ls ++ [p]) a = f ls a ++ [x]) (h2 : ∀ v, v ≠ a → f (ls ++ [p]) v = f ls v) :
  (List.range b).map (f (ls ++ [p])) = ((List.range b).map (f ls)).set a (f ls a ++ [x]) := by
 apply List.ext_getElem?
 intro i
 rw [List.getElem?_set, List.getElem?_map, List.length_map, List.length_range]
 by_cases e : a = i
 ·subst e
  rw [if_pos rfl, if_pos ha, List.getElem?_range ha, Option.map_some, h1]
 ·rw [if_neg e, List.getElem?_map]
  by_cases hi : i < b
  ·rw [List.getElem?_range hi, Option.map_some, Option.map_some, h2 i (Ne.symm e)]
  ·rw [List.getElem?_eq_none (by simp; omega)]; rfl
theorem rowsB_snoc {b a : Nat} {ls : List Pr} {p : Pr} (ha : a < b) (e : p.1 = (a : Int)) : rowsB b (ls ++ [p]) = (rowsB b ls).set a (rB ls a ++ [p.2]) :=
 rows_snoc (f := rB) ha (by simp [rB, List.filter_append, e]) fun v hv => by
  have : ¬ ((a : Int) = (v : Int)) := by omega
  simp [rB, List.filter_append, e, this]
theorem rowsC_snoc {b a : Nat} {ls : List Pr} {p : Pr} (ha : a < b) (e : p.2 = (a : Int)) : rowsC b (ls ++ [p]) = (rowsC b ls).set a (rC ls a ++ [p.1]) :=
 rows_snoc (f := rC) ha (by simp [rC, List.filter_append, e]) fun v hv => by
  have : ¬ ((a : Int) = (v : Int)) := by omega
  simp [rC, List.filter_append, e, this]
theorem mk105 (h : AHeap) (p : Pr) : aBuildSlice Try.prog h 105 1 [(0, valP p)] = some (.slice (some ⟨h.next, 0, none⟩) 1 1, h.alloc (.cells (cellsP p))) := rfl
theorem GP.push105 {h : AHeap} {v : Value} {ps : List Pr} (g : GP h v ps) (hwf : WF h) (p : Pr) (hn : ps.length + 1 ≤ 100000) :
  ∃ v' h4 h5, aBuildSlice Try.prog h 105 1 [(0, valP p)] = some (.slice (some ⟨h.next, 0, none⟩) 1 1, h4) ∧ aAppend Try.prog h4 105 105 v (.slice (some ⟨h.next, 0, none⟩) 1 1) = some (v', h5) ∧ GP h5 v' (ps ++ [p]) ∧ WF h5 ∧ Le h h4 ∧
   (∀ f, Le f h → Apart f v → Le f h5 ∧ Apart f v') ∧ (∀ b o, h.own b = some o → blk v ≠ some b → h5.own b = some o ∧ blk v' ≠ some b) := by
 obtain ⟨h4, e4, l4, w4, o4⟩ := alloc_f hwf (cellsP p)
 have hx : PR h4 (.slice (some ⟨h.next, 0, none⟩) 1 1) [p] := by
  have := CS.own (k := 2) (off := 0) (n := 1) (cap := 1) o4 (by simp [cellsP])
  exact this
 obtain ⟨v', h5, e5, g5, hf⟩ := GS.append (P := Try.prog) (t := 105) (xt := 105) (k := 2) (by kernel_rfl) (GS.le g l4) (fun e he => CS.src he hx) (flatP_one _) (flatP_one _) (flatP_length _) (by simp; omega)
 refine ⟨v', h4, h5, by rw [mk105, e4], e5, ?_, aAppend_wf w4 e5, l4, fun f lf af => hf f w4 (lf.trans l4) af, fun b o ho hb => keep_own hf w4 (l4.own _ _ ho) hb⟩
 rw [GP, List.length_append, flatP_append]; exact g5
def nodeP (b v : Nat) : Pr := if v < b then (0, (v : Int)) else (1, ((v - b : Nat) : Int))
structure BfsI (b m n : Nat) (E : List Pr) (met : List Nat) (mB mC : List Bool) : Prop where
 lB : mB.length = b
 lC : mC.length = m
 mb : ∀ v, v < b → (mB.getD v false = true ↔ v ∈ met)
 mc : ∀ v, v < m → (mC.getD v false = true ↔ b + v ∈ met)
 nd : met.Nodup
 lt : ∀ v ∈ met, v < n
 con : ∀ v ∈ met, Con E 0 v
 z : 0 ∈ met
theorem getD_setB (l : List Bool) (c v : Nat) (hc : c < l.length) : (l.set c true).getD v false = true ↔ v = c ∨ l.getD v false = true := by
 rw [getD_set]
 by_cases e : c = v
 ·rw [if_pos ⟨e, hc⟩]; simp [e]
 ·rw [if_neg (fun h => e h.1)]; simp [Ne.symm e]
theorem BfsI.addB {b m n : Nat} {E : List Pr} {met : List Nat} {mB mC : List Bool} (I : BfsI b m n E met mB mC) (hbm : b + m = n) {v c : Nat} (hc : c < b) (hn : c ∉ met) (hv : v ∈ met) (ha : adj E v c) : BfsI b m n E (met ++ [c]) (mB.set c true) mC := by
 refine ⟨by rw [List.length_set]; exact I.lB, I.lC, fun w hw => ?_, fun w hw => ?_, ?_, fun w hw => ?_, fun w hw => ?_, by simp [I.z]⟩
 ·rw [getD_setB _ _ _ (by rw [I.lB]; exact hc), I.mb w hw, List.mem_append, List.mem_singleton]; exact or_comm
 ·rw [I.mc w hw, List.mem_append, List.mem_singleton]
  constructor
  ·exact .inl
  ·rintro (h | h)
   ·exact h
   ·omega
 ·rw [List.nodup_append]; exact ⟨I.nd, by simp, fun a h1 d h2 e => hn (by rw [List.mem_singleton] at h2; subst h2; subst e; exact h1)⟩
 ·rw [List.mem_append, List.mem_singleton] at hw
  rcases hw with hw | rfl
  ·exact I.lt w hw
  ·omega
 ·rw [List.mem_append, List.mem_singleton] at hw
  rcases hw with hw | rfl
  ·exact I.con w hw
  ·exact (I.con v hv).step ha rfl
theorem BfsI.addC {b m n : Nat} {E : List Pr} {met : List Nat} {mB mC : List Bool} (I : BfsI b m n E met mB mC) (hbm : b + m = n) {v c : Nat} (hc : c < m) (hn : b + c ∉ met) (hv : v ∈ met) (ha : adj E v (b + c)) : BfsI b m n E (met ++ [b + c]) mB (mC.set c true) := by
 refine ⟨I.lB, by rw [List.length_set]; exact I.lC, fun w hw => ?_, fun w hw => ?_, ?_, fun w hw => ?_, fun w hw => ?_, by simp [I.z]⟩
 ·rw [I.mb w hw, List.mem_append, List.mem_singleton]
  constructor
  ·exact .inl
  ·rintro (h | h)
   ·exact h
   ·omega
 ·rw [getD_setB _ _ _ (by rw [I.lC]; exact hc), I.mc w hw, List.mem_append, List.mem_singleton]
  constructor
  ·rintro (h | h)
   ·exact .inr (by omega)
   ·exact .inl h
  ·rintro (h | h)
   ·exact .inr h
   ·exact .inl (by omega)
 ·rw [List.nodup_append]; exact ⟨I.nd, by simp, fun a h1 d h2 e => hn (by rw [List.mem_singleton] at h2; subst h2; subst e; exact h1)⟩
 ·rw [List.mem_append, List.mem_singleton] at hw
  rcases hw with hw | rfl
  ·exact I.lt w hw
  ·omega
 ·rw [List.mem_append, List.mem_singleton] at hw
  rcases hw with hw | rfl
  ·exact I.con w hw
  ·exact (I.con v hv).step ha rfl
theorem BfsI.all {b m n : Nat} {E : List Pr} {met : List Nat} {mB mC : List Bool} (I : BfsI b m n E met mB mC) (hcl : ∀ v ∈ met, ∀ u, adj E v u → u ∈ met) : met.length = n ↔ ∀ v, v < n → Con E 0 v := by
 have hin : ∀ v, Con E 0 v → v ∈ met := fun v h => by
  induction h with
  | refl _ => exact I.z
  | step _ a _ ih => exact hcl _ ih _ a
 constructor
 ·intro hl v hv
  refine I.con v (Classical.byContradiction fun hn => ?_)
  have nd : (v :: met).Nodup := List.nodup_cons.2 ⟨hn, I.nd⟩
  have := nd.length_le_of_subset (l₂ := List.range n) fun x hx => by
   rcases List.mem_cons.1 hx with rfl | hx
   ·exact List.mem_range.2 hv
   ·exact List.mem_range.2 (I.lt x hx)
  simp at this; omega
 ·intro h
  have h1 := I.nd.length_le_of_subset (l₂ := List.range n) fun x hx => List.mem_range.2 (I.lt x hx)
  have h2 := (List.nodup_range (n := n)).length_le_of_subset (l₂ := met) fun x hx => hin x (h x (List.mem_range.1 hx))
  simp at h1 h2; omega
theorem rB_mem {b n : Nat} {ls : List Pr} (h : ∀ p ∈ ls, LinkOK b n p) {v : Nat} {x : Int} : x ∈ rB ls v → ∃ c : Nat, x = (c : Int) ∧ b + c < n ∧ adj (edgesU b ls) v (b + c) := fun hx => by
 rw [rB, List.mem_map] at hx
 obtain ⟨p, hp, rfl⟩ := hx
 rw [List.mem_filter, decide_eq_true_eq] at hp
 have L := linkOK_nat (h p hp.1)
 have ha := link_adj hp.1 (h p hp.1)
 refine ⟨p.2.toNat, L.2.2.2.1, L.2.1, ?_⟩
 rwa [show v = p.1.toNat by omega]
theorem rC_mem {b n : Nat} {ls : List Pr} (h : ∀ p ∈ ls, LinkOK b n p) {v : Nat} {x : Int} : x ∈ rC ls v → ∃ c : Nat, x = (c : Int) ∧ c < b ∧ adj (edgesU b ls) (b + v) c := fun hx => by
 rw [rC, List.mem_map] at hx
 obtain ⟨p, hp, rfl⟩ := hx
 rw [List.mem_filter, decide_eq_true_eq] at hp
 have L := linkOK_nat (h p hp.1)
 have ha := (link_adj hp.1 (h p hp.1)).symm
 refine ⟨p.1.toNat, L.2.2.1, L.2.2.2.2, ?_⟩
 rwa [show b + v = b + p.2.toNat by omega]
theorem adj_rB {b n : Nat} {ls : List Pr} (h : ∀ p ∈ ls, LinkOK b n p) {v u : Nat} (hv : v < b) (ha : adj (edgesU b ls) v u) : b ≤ u ∧ ((u - b : Nat) : Int) ∈ rB ls v := by
 obtain ⟨p, hp, ⟨e1, e2⟩ | ⟨e1, e2⟩⟩ := adj_link h ha
 ·have L := linkOK_nat (h p hp)
  refine ⟨by omega, ?_⟩
  rw [rB, List.mem_map]
  exact ⟨p, List.mem_filter.2 ⟨hp, decide_eq_true (by omega)⟩, by omega⟩
 ·omega
theorem adj_rC {b n : Nat} {ls : List Pr} (h : ∀ p ∈ ls, LinkOK b n p) {v u : Nat} (ha : adj (edgesU b ls) (b + v) u) : u < b ∧ (u : Int) ∈ rC ls v := by
 obtain ⟨p, hp, ⟨e1, e2⟩ | ⟨e1, e2⟩⟩ := adj_link h ha
 ·have L := linkOK_nat (h p hp); omega
 ·have L := linkOK_nat (h p hp)
  refine ⟨by omega, ?_⟩
  rw [rC, List.mem_map]
  exact ⟨p, List.mem_filter.2 ⟨hp, decide_eq_true (by omega)⟩, by omega⟩
end Go.Fw
