/- A text of the proof. -/
import Derived.Test.YtnaahaldkpdjlaaFwLB19
import Derived.Test.YtnaahaldkpdjlaaFwLW1
set_option linter.unusedSimpArgs false
set_option linter.unusedVariables false
namespace Go.Fw
open Go.Proofs
set_option maxHeartbeats 1000000
set_option maxRecDepth 10000
theorem endB_iff (p : Pr) (v : Int) : endB p v = true ↔ p.1 = v ∨ p.2 = v := by simp [endB]
theorem onE_iff (web : List Pr) (v : Nat) : onE web (v : Int) = true ↔ onW web v := by simp [onE, onW, endB_iff]
theorem onM_getD {n : Nat} {web : List Pr} {u : Nat} (hu : u < n) : (onM n web).getD u false = onE web (u : Int) := by
 have : onE web (u : Int) = decide (onW web u) := by
  cases h : onE web (u : Int) with
  | true => exact (decide_eq_true ((onE_iff web u).1 h)).symm
  | false => exact (decide_eq_false (fun k => by rw [(onE_iff web u).2 k] at h; cases h)).symm
 rw [this, getD_of (by rw [onM_length]; exact hu)]
 simp [onM]
section
variable {n : Nat} {es web : List Pr} {L : List Int}
abbrev onF (n : Nat) (web : List Pr) : Nat → Bool := fun u => (onM n web).getD u false
theorem end_adj (hR : InR n es) {p : Pr} (hp : p ∈ es) {x y : Nat} (hx : endB p x = true) (hy : endB p y = true) : x = y ∨ adj es x y := by
 rw [endB_iff] at hx hy
 obtain ⟨a, b⟩ := p
 simp only at hx hy
 rcases hx with rfl | rfl <;> rcases hy with hy | hy
 ·left; omega
 ·subst hy; exact .inr (.inl hp)
 ·subst hy; exact .inr (.inr hp)
 ·left; omega
theorem label_eq (hR : InR n es) (hT : TogM n (onF n web) es L) {p : Pr} (hp : p ∈ es) {x y : Nat} (hx : x < n) (hy : y < n) (ex : endB p x = true) (ey : endB p y = true) (ox : onF n web x = false) (oy : onF n web y = false) : L.getD x 0 = L.getD y 0 := by
 rcases end_adj hR hp ex ey with rfl | h
 ·rfl
 ·have := (hT.same x y hx hy ox oy).2 ((Cn.refl ox).step h oy)
  rw [List.getD_eq_getElem?_getD, List.getD_eq_getElem?_getD, this]
theorem key_off (hR : InR n es) (hT : TogM n (onF n web) es L) {p : Pr} (hp : p ∈ es) (i : Nat) {x : Nat} (hx : x < n) (ex : endB p x = true) (ox : onF n web x = false) : fragM n (onF n web) L p i = L.getD x 0 := by
 obtain ⟨a1, a2, a3⟩ := hR p hp
 have e1 : endB p (p.1.toNat : Nat) = true := by rw [endB_iff]; omega
 have e2 : endB p (p.2.toNat : Nat) = true := by rw [endB_iff]; omega
 unfold fragM
 split
 ·rename_i h1; exact label_eq hR hT hp (by omega) hx e1 ex h1 ox
 ·rename_i h1
  split
  ·rename_i h2; exact label_eq hR hT hp (by omega) hx e2 ex h2 ox
  ·rename_i h2
   rw [endB_iff] at ex
   rcases ex with e | e
   ·rw [e, Int.toNat_natCast] at h1; exact absurd ox h1
   ·rw [e, Int.toNat_natCast] at h2; exact absurd ox h2
theorem key_cases (hR : InR n es) {p : Pr} (hp : p ∈ es) (i : Nat) : (∃ x : Nat, x < n ∧ endB p x = true ∧ onF n web x = false) ∨ fragM n (onF n web) L p i = (n : Int) + i := by
 obtain ⟨a1, a2, a3⟩ := hR p hp
 by_cases h1 : onF n web p.1.toNat = false
 ·exact .inl ⟨p.1.toNat, by omega, by rw [endB_iff]; omega, h1⟩
 ·by_cases h2 : onF n web p.2.toNat = false
  ·exact .inl ⟨p.2.toNat, by omega, by rw [endB_iff]; omega, h2⟩
  ·right; rw [fragM, if_neg h1, if_neg h2]
theorem label_rng (hT : TogM n (onF n web) es L) {x : Nat} (hx : x < n) (ox : onF n web x = false) : ∃ k : Nat, k < n ∧ L.getD x 0 = (k : Int) ∧ Cn (onF n web) es k x := by
 obtain ⟨k, h1, h2, h3⟩ := hT.off x hx ox
 exact ⟨k, h1, by rw [List.getD_eq_getElem?_getD, h2]; rfl, h3⟩
end
end Go.Fw
namespace Go.Fw
open Go.Proofs
set_option maxHeartbeats 1000000
set_option maxRecDepth 10000
theorem feet_eq {n : Nat} {es web l : List Pr} (hR : InR n es) (hl : ∀ p ∈ l, p ∈ es) : feetM (onF n web) l = nat64 (rfeet web l n) := by
 refine sorted_eq _ _ (compact_lt (sortI_le _)) ?_ fun x => ?_
 ·rw [nat64, List.pairwise_map, rfeet]
  exact List.Pairwise.imp (fun h => by omega) (List.Pairwise.filter _ List.pairwise_lt_range)
 ·rw [feetM, compact_mem, sortI_mem]
  simp only [ftL, ftP, List.mem_flatMap, List.mem_filter, nat64, rfeet, List.mem_map, List.mem_range, Bool.and_eq_true]
  constructor
  ·rintro ⟨p, hp, hx, ho⟩
   obtain ⟨a1, a2, a3⟩ := hR p (hl p hp)
   have hx' : x = p.1 ∨ x = p.2 := by simpa using hx
   have hb : 0 ≤ x ∧ x < (n : Int) := by rcases hx' with rfl | rfl <;> omega
   obtain ⟨v, rfl⟩ := Int.eq_ofNat_of_zero_le hb.1
   rw [Int.toNat_natCast, onF, onM_getD (by omega)] at ho
   exact ⟨v, ⟨by omega, ho, by rw [onE, List.any_eq_true]; exact ⟨p, hp, by rw [endB_iff]; rcases hx' with h | h <;> omega⟩⟩, rfl⟩
  ·rintro ⟨v, ⟨hv, h1, h2⟩, rfl⟩
   rw [onE, List.any_eq_true] at h2
   obtain ⟨p, hp, he⟩ := h2
   rw [endB_iff] at he
   exact ⟨p, hp, by simp; rcases he with h | h <;> omega, by rw [Int.toNat_natCast, onF, onM_getD hv]; exact h1⟩
def fullU (fr : Pr → Nat → Int) (es web : List Pr) (k : Int) : Nat → List Pr
  | 0 => []
  | i + 1 => match es[i]? with
    | some p => if p ∈ web then fullU fr es web k i else if fr p i = k then fullU fr es web k i ++ [p] else fullU fr es web k i
    | none => fullU fr es web k i
theorem lstG_add (gs : List Gr) (f k : Int) (p : Pr) : lstG (addG gs f p) k = if f = k then lstG gs k ++ [p] else lstG gs k := by
 induction gs with
 | nil => simp only [addG, lstG]; split <;> simp
 | cons g gs ih =>
  obtain ⟨a, l⟩ := g
  by_cases c : a = f
  ·subst c; simp only [addG, if_true, lstG]; split <;> simp
  ·simp only [addG, if_neg c, lstG, ih]
   by_cases c2 : a = k
   ·subst c2; simp [Ne.symm c]
   ·simp [c2]
theorem lst_full (fr : Pr → Nat → Int) (es web : List Pr) (k : Int) (i : Nat) : lstG (grpsM fr es web i) k = fullU fr es web k i := by
 induction i with
 | zero => rfl
 | succ i ih =>
  cases hp : es[i]? with
  | none => simp only [grpsM, fullU, hp]; exact ih
  | some p =>
   by_cases c : p ∈ web
   ·simp only [grpsM, fullU, hp, c, if_true]; exact ih
   ·simp only [grpsM, fullU, hp, c, if_false]; rw [lstG_add, ih]
theorem full_mem (fr : Pr → Nat → Int) (es web : List Pr) (k : Int) (q : Pr) (i : Nat) : q ∈ fullU fr es web k i ↔ ∃ j, j < i ∧ es[j]? = some q ∧ q ∉ web ∧ fr q j = k := by
 induction i with
 | zero => simp [fullU]
 | succ i ih =>
  have split : (∃ j, j < i + 1 ∧ es[j]? = some q ∧ q ∉ web ∧ fr q j = k) ↔ (∃ j, j < i ∧ es[j]? = some q ∧ q ∉ web ∧ fr q j = k) ∨ (es[i]? = some q ∧ q ∉ web ∧ fr q i = k) := by
   constructor
   ·rintro ⟨j, hj, h⟩
    by_cases e : j = i
    ·subst e; exact .inr h
    ·exact .inl ⟨j, by omega, h⟩
   ·rintro (⟨j, hj, h⟩ | h)
    ·exact ⟨j, by omega, h⟩
    ·exact ⟨i, by omega, h⟩
  rw [split, ← ih]
  cases hp : es[i]? with
  | none => simp [fullU, hp]
  | some p =>
   simp only [fullU, hp, Option.some.injEq]
   by_cases c : p ∈ web
   ·simp only [c, if_true]
    exact ⟨.inl, fun h => h.elim id fun ⟨e, h, _⟩ => absurd (by rw [← e]; exact c) h⟩
   ·simp only [c, if_false]
    by_cases c2 : fr p i = k
    ·simp only [c2, if_true, List.mem_append, List.mem_singleton]
     exact ⟨fun h => h.elim .inl fun e => .inr ⟨e.symm, by rw [e]; exact c, by rw [e]; exact c2⟩, fun h => h.elim .inl fun ⟨e, _⟩ => .inr e.symm⟩
    ·simp only [c2, if_false]
     exact ⟨.inl, fun h => h.elim id fun ⟨e, _, h⟩ => absurd (by rw [e]; exact h) c2⟩
theorem grps_map {α : Type} (F : List Pr → α) (gs : List Gr) (hn : (keysG gs).Nodup) : gs.map (fun g => F g.2) = (keysG gs).map fun k => F (lstG gs k) := by
 rw [keysG, List.map_map]
 refine List.map_congr_left fun g hg => ?_
 obtain ⟨i, hi⟩ := List.mem_iff_getElem?.1 hg
 obtain ⟨k, l⟩ := g
 show F l = F (lstG gs k)
 rw [lstG_get hn hi]
end Go.Fw
namespace Go.Fw
open Go.Proofs
set_option maxHeartbeats 4000000
set_option maxRecDepth 10000
theorem bP (a b : Int) : aBuild Try.prog 61 [(0, .int .i64 a), (1, .int .i64 b)] = some (valP (a, b)) := by kernel_rfl
theorem mkF2 (h : AHeap) {a b c d : Value} {n m k l : Nat} (ha : isSl a n) (hb : isSl b m) (hc : isSl c k) (hd : isSl d l) : aBuildSlice Try.prog h 35 2 [(0, .agg #[a, b]), (1, .agg #[c, d])] = some (.slice (some ⟨h.next, 0, none⟩) 2 2, h.alloc (.cells [a, b, c, d])) := by
 obtain ⟨_, _, rfl, _⟩ := ha
 obtain ⟨_, _, rfl, _⟩ := hb
 obtain ⟨_, _, rfl, _⟩ := hc
 obtain ⟨_, _, rfl, _⟩ := hd
 kernel_rfl
def FragsR (n : Nat) (es web : List Pr) (L : List Int) : List FM := (grpsM (fragM n (onF n web) L) es web es.length).map fun g => ⟨g.2, nat64 (rfeet web g.2 n)⟩
theorem frags_r {n : Nat} {es web : List Pr} {L : List Int} (hR : InR n es) : FragsM n es web L = FragsR n es web L := by
 obtain ⟨nd, _, _, _, gm⟩ := grpsM_ok (fragM n (onF n web) L) es web es.length
 refine List.map_congr_left fun g hg => ?_
 show (⟨g.2, feetM (onF n web) g.2⟩ : FM) = ⟨g.2, nat64 (rfeet web g.2 n)⟩
 rw [feet_eq hR fun p hp => gm g hg p hp]
def awE : List Pr := [(0, 1), (0, 2), (0, 3), (0, 4), (1, 2), (1, 4), (2, 3), (3, 4)]
def awW : List Pr := [(0, 1), (0, 3), (1, 2), (2, 3)]
theorem awR : RightG ⟨5, awE⟩ := by
 refine ⟨by decide, by decide, by decide, fun i hi p hp => ?_⟩
 have hi' : i < 8 := hi
 match i, hi' with
 | 0, _ => simp [awE] at hp; subst hp; exact ⟨by decide, fun q h0 => by omega⟩
 | 1, _ => simp [awE] at hp; subst hp; exact ⟨by decide, fun q h0 hq => by simp [awE] at hq; subst hq; decide⟩
 | 2, _ => simp [awE] at hp; subst hp; exact ⟨by decide, fun q h0 hq => by simp [awE] at hq; subst hq; decide⟩
 | 3, _ => simp [awE] at hp; subst hp; exact ⟨by decide, fun q h0 hq => by simp [awE] at hq; subst hq; decide⟩
 | 4, _ => simp [awE] at hp; subst hp; exact ⟨by decide, fun q h0 hq => by simp [awE] at hq; subst hq; decide⟩
 | 5, _ => simp [awE] at hp; subst hp; exact ⟨by decide, fun q h0 hq => by simp [awE] at hq; subst hq; decide⟩
 | 6, _ => simp [awE] at hp; subst hp; exact ⟨by decide, fun q h0 hq => by simp [awE] at hq; subst hq; decide⟩
 | 7, _ => simp [awE] at hp; subst hp; exact ⟨by decide, fun q h0 hq => by simp [awE] at hq; subst hq; decide⟩
theorem awW1 : WebOK awE awW := by
 refine ⟨fun i p q hp hq => ?_, by decide⟩
 have hi := (List.getElem?_eq_some_iff.1 hq).1
 have hi' : i < 3 := by simp [awW] at hi; omega
 match i, hi' with
 | 0, _ => simp [awW] at hp hq; subst hp hq; decide
 | 1, _ => simp [awW] at hp hq; subst hp hq; decide
 | 2, _ => simp [awW] at hp hq; subst hp hq; decide
theorem awW2 : WebOK awE [] := ⟨fun i p q hp => by simp at hp, by simp⟩
theorem awW3 : WebOK awE awE := ⟨fun i p q hp hq => awR.asc i (i + 1) p q (by omega) hp hq, fun p hp => hp⟩
theorem awW4 : ¬ WebOK awE [(1, 2), (0, 1)] := fun w => by
 have := w.asc 0 (1, 2) (0, 1) rfl rfl
 revert this; decide
theorem awF1 {L : List Int} (hT : TogM 5 (onF 5 awW) awE L) : FragsM 5 awE awW L = [⟨[(0, 2)], [0, 2]⟩, ⟨[(0, 4), (1, 4), (3, 4)], [0, 1, 3]⟩] := by
 rw [frags_r awR.inR]
 obtain ⟨k, hk, h1, h2⟩ := hT.off 4 (by omega) (by decide)
 have ho := h2.off1
 have : k = 4 := by
  match k, hk with
  | 0, _ => revert ho; decide
  | 1, _ => revert ho; decide
  | 2, _ => revert ho; decide
  | 3, _ => revert ho; decide
  | 4, _ => rfl
 subst this
 have hl := hT.len
 match L, hl with
 | [a, b, c, d, e], _ =>
  simp at h1; subst h1
  rfl
theorem awF2 {L : List Int} (hT : TogM 5 (onF 5 []) awE L) : FragsM 5 awE [] L = [⟨awE, []⟩] := by
 rw [frags_r awR.inR]
 obtain ⟨k, hk, h1, h2⟩ := hT.off 0 (by omega) (by decide)
 have hs : ∀ u : Nat, u < 5 → adj awE 0 u → L[u]? = some (k : Int) := fun u hu ha => by
  have ho : ∀ u, onF 5 [] u = false := fun u => by
   by_cases c : u < 5
   ·rw [onF, onM_getD c]; rfl
   ·rw [onF, List.getD_eq_getElem?_getD, List.getElem?_eq_none (by rw [onM_length]; omega)]; rfl
  rw [← h1]; exact ((hT.same 0 u (by omega) hu (ho 0) (ho u)).2 ((Cn.refl (ho 0)).step ha (ho u))).symm
 have s1 := hs 1 (by omega) (.inl (by decide))
 have s2 := hs 2 (by omega) (.inl (by decide))
 have s3 := hs 3 (by omega) (.inl (by decide))
 have s4 := hs 4 (by omega) (.inl (by decide))
 have hl := hT.len
 match L, hl with
 | [a, b, c, d, e], _ =>
  simp at h1 s1 s2 s3 s4
  subst h1 s1 s2 s3 s4
  match k, hk with
  | 0, _ => rfl
  | 1, _ => rfl
  | 2, _ => rfl
  | 3, _ => rfl
  | 4, _ => rfl
theorem awF3 {L : List Int} : FragsM 5 awE awE L = [] := by
 rw [frags_r awR.inR]; kernel_rfl
end Go.Fw
namespace Go.Fw
open Go.Proofs
attribute [local irreducible] KO4 KO3 KO2 KO1 KO KN KX KE VK KCond KDraw KCall KLoop
set_option maxHeartbeats 8000000
set_option maxRecDepth 10000
theorem awake8_any (W0 : Base) (h : AHeap) : AC Try.prog W0 15 [] h fun x h' => x = .bool true ∧ Le h h' := by
 refine AC.vc (fn := Try.f15) (c := _) ⟨Try.func15, rfl, by decide⟩ Try.ntmps15 Try.results15 (by simp) fun hwf => ?_
 simp only [argFrame, argFrom, Nat.reduceAdd]
 obtain ⟨h1, e1, l1, w1, o1⟩ := alloc_f hwf (flatP awE)
 have pE : PR h1 (.slice (some ⟨h.next, 0, none⟩) 8 8) awE := PR.made o1 rfl
 have bE : aBuildSlice Try.prog h 22 8 [(0, valP (0, 1)), (1, valP (0, 2)), (2, valP (0, 3)), (3, valP (0, 4)), (4, valP (1, 2)), (5, valP (1, 4)), (6, valP (2, 3)), (7, valP (3, 4))] = some (.slice (some ⟨h.next, 0, none⟩) 8 8, h1) := by rw [mkP8]; exact congrArg (fun g => some (_, g)) e1
 have bG := build24 (n := 5) pE.sl
 obtain ⟨h2', h2, a2, s2, l2, w2, lG⟩ := newG (n := 5) w1 pE
 generalize h.next = A at *
 generalize h1.next = B at *
 have gr : ∀ g, Le h2 g → GR g (.agg #[.int .i64 5, .slice (some ⟨A, 0, none⟩) 8 8]) ⟨5, awE⟩ := fun g l => ⟨_, rfl, (pE.le l2).le l⟩
 generalize Value.slice (some ⟨A, 0, none⟩) 8 8 = ev at *
 -- the first
 obtain ⟨h3, e3, l3, w3, o3⟩ := alloc_f w2 (flatP awW)
 have pW : PR h3 (.slice (some ⟨h2.next, 0, none⟩) 4 4) awW := PR.made o3 rfl
 have bW : aBuildSlice Try.prog h2 22 4 [(0, valP (0, 1)), (1, valP (0, 3)), (2, valP (1, 2)), (3, valP (2, 3))] = some (.slice (some ⟨h2.next, 0, none⟩) 4 4, h3) := by rw [mkP4]; exact congrArg (fun g => some (_, g)) e3
 have L2 := lG h2 (Le.refl _)
 simp only [kS1, bLookup, bMapSet, wantA, isCall, stepOp, evalO, evalL, evalP, evalM, putDst, flat, kA, kB, Nat.reduceLT, ↓reduceIte, kC, Nat.reduceEqDiff, aBuiltin, abinG, guardFree, abin, aInt, aUn, aNilCheck, retQ, retQ1, aresults, aresultL, aresult, mkF, undefV, reduceCtorEq, kD, kE, kF, kG, kH, kI, kJ, kK, aExtract, calleeOf, bP, bE, bG, a2, s2, L2.1, bW]
 generalize Value.slice (some ⟨h2.next, 0, none⟩) 4 4 = wv at *
 refine KCall.intro (by simp only [kS1, bLookup, bMapSet, wantA, isCall, stepOp, evalO, evalL, evalP, evalM, putDst, flat, kA, kB, Nat.reduceLT, ↓reduceIte, kC, Nat.reduceEqDiff, aBuiltin, abinG, guardFree, abin, aInt, aUn, aNilCheck, retQ, retQ1, aresults, aresultL, aresult, mkF, undefV, reduceCtorEq, kD, kE, kF, kG, kH, kI, kJ, kK, aExtract, calleeOf] <;> rfl) ⟨Try.func19, rfl, by decide⟩ (Fragments_any W0 _ wv ⟨5, awE⟩ awW h3 (gr h3 l3) pW (by decide)) ?_
 rintro x h4 w4 ⟨l4, lv, e, rfl, hc⟩
 obtain ⟨-, -, rfl, L, hT, fl⟩ : RightG ⟨5, awE⟩ ∧ WebOK awE awW ∧ e = 0 ∧ ∃ L, TogM 5 (onF 5 awW) awE L ∧ FL h4 lv (FragsM 5 awE awW L) := by
  rcases hc with ⟨h, _⟩ | ⟨_, h, _⟩ | h
  ·exact absurd awR h
  ·exact absurd awW1 h
  ·exact h
 rw [awF1 hT] at fl
 clear hT L hc
 have le4 := l3.trans l4
 have L4 := lG h4 le4
 simp only [kS1, bLookup, bMapSet, wantA, isCall, stepOp, evalO, evalL, evalP, evalM, putDst, flat, kA, kB, Nat.reduceLT, ↓reduceIte, kC, Nat.reduceEqDiff, aBuiltin, abinG, guardFree, abin, aInt, aUn, aNilCheck, retQ, retQ1, aresults, aresultL, aresult, mkF, undefV, reduceCtorEq, kD, kE, kF, kG, kH, kI, kJ, kK, aExtract, calleeOf, L4.1]
 -- the second
 refine KCall.intro (by simp only [kS1, bLookup, bMapSet, wantA, isCall, stepOp, evalO, evalL, evalP, evalM, putDst, flat, kA, kB, Nat.reduceLT, ↓reduceIte, kC, Nat.reduceEqDiff, aBuiltin, abinG, guardFree, abin, aInt, aUn, aNilCheck, retQ, retQ1, aresults, aresultL, aresult, mkF, undefV, reduceCtorEq, kD, kE, kF, kG, kH, kI, kJ, kK, aExtract, calleeOf] <;> rfl) ⟨Try.func19, rfl, by decide⟩ (Fragments_any W0 _ (.slice none 0 0) ⟨5, awE⟩ [] h4 (gr h4 le4) (PR.nil h4) (by decide)) ?_
 rintro x h5 w5 ⟨l5, lv2, e, rfl, hc⟩
 obtain ⟨-, -, rfl, L, hT, fl2⟩ : RightG ⟨5, awE⟩ ∧ WebOK awE [] ∧ e = 0 ∧ ∃ L, TogM 5 (onF 5 []) awE L ∧ FL h5 lv2 (FragsM 5 awE [] L) := by
  rcases hc with ⟨h, _⟩ | ⟨_, h, _⟩ | h
  ·exact absurd awR h
  ·exact absurd awW2 h
  ·exact h
 rw [awF2 hT] at fl2
 clear hT L hc
 have le5 := le4.trans l5
 have L5 := lG h5 le5
 simp only [kS1, bLookup, bMapSet, wantA, isCall, stepOp, evalO, evalL, evalP, evalM, putDst, flat, kA, kB, Nat.reduceLT, ↓reduceIte, kC, Nat.reduceEqDiff, aBuiltin, abinG, guardFree, abin, aInt, aUn, aNilCheck, retQ, retQ1, aresults, aresultL, aresult, mkF, undefV, reduceCtorEq, kD, kE, kF, kG, kH, kI, kJ, kK, aExtract, calleeOf, L5.1, fg1, aadd, Nat.zero_add, L5.2.2]
 -- the third
 have pE5 := pE.le (l2.trans le5)
 refine KCall.intro (by simp only [kS1, bLookup, bMapSet, wantA, isCall, stepOp, evalO, evalL, evalP, evalM, putDst, flat, kA, kB, Nat.reduceLT, ↓reduceIte, kC, Nat.reduceEqDiff, aBuiltin, abinG, guardFree, abin, aInt, aUn, aNilCheck, retQ, retQ1, aresults, aresultL, aresult, mkF, undefV, reduceCtorEq, kD, kE, kF, kG, kH, kI, kJ, kK, aExtract, calleeOf] <;> rfl) ⟨Try.func19, rfl, by decide⟩ (Fragments_any W0 _ ev ⟨5, awE⟩ awE h5 (gr h5 le5) pE5 (by decide)) ?_
 rintro x h6 w6 ⟨l6, lv3, e, rfl, hc⟩
 obtain ⟨-, -, rfl, L, hT, fl3⟩ : RightG ⟨5, awE⟩ ∧ WebOK awE awE ∧ e = 0 ∧ ∃ L, TogM 5 (onF 5 awE) awE L ∧ FL h6 lv3 (FragsM 5 awE awE L) := by
  rcases hc with ⟨h, _⟩ | ⟨_, h, _⟩ | h
  ·exact absurd awR h
  ·exact absurd awW3 h
  ·exact h
 rw [awF3] at fl3
 clear hT L hc
 have le6 := le5.trans l6
 have L6 := lG h6 le6
 obtain ⟨h7, e7, l7, w7, o7⟩ := alloc_f w6 (flatP [((1 : Int), (2 : Int)), (0, 1)])
 have pX : PR h7 (.slice (some ⟨h6.next, 0, none⟩) 2 2) [((1 : Int), (2 : Int)), (0, 1)] := PR.made o7 rfl
 have bX : aBuildSlice Try.prog h6 22 2 [(0, valP (1, 2)), (1, valP (0, 1))] = some (.slice (some ⟨h6.next, 0, none⟩) 2 2, h7) := by rw [mkP2]; exact congrArg (fun g => some (_, g)) e7
 simp only [kS1, bLookup, bMapSet, wantA, isCall, stepOp, evalO, evalL, evalP, evalM, putDst, flat, kA, kB, Nat.reduceLT, ↓reduceIte, kC, Nat.reduceEqDiff, aBuiltin, abinG, guardFree, abin, aInt, aUn, aNilCheck, retQ, retQ1, aresults, aresultL, aresult, mkF, undefV, reduceCtorEq, kD, kE, kF, kG, kH, kI, kJ, kK, aExtract, calleeOf, L6.1, bP, bX]
 generalize Value.slice (some ⟨h6.next, 0, none⟩) 2 2 = xv at *
 refine KCall.intro (by simp only [kS1, bLookup, bMapSet, wantA, isCall, stepOp, evalO, evalL, evalP, evalM, putDst, flat, kA, kB, Nat.reduceLT, ↓reduceIte, kC, Nat.reduceEqDiff, aBuiltin, abinG, guardFree, abin, aInt, aUn, aNilCheck, retQ, retQ1, aresults, aresultL, aresult, mkF, undefV, reduceCtorEq, kD, kE, kF, kG, kH, kI, kJ, kK, aExtract, calleeOf] <;> rfl) ⟨Try.func19, rfl, by decide⟩ (Fragments_any W0 _ xv ⟨5, awE⟩ [(1, 2), (0, 1)] h7 (gr h7 (le6.trans l7)) pX (by decide)) ?_
 rintro x h8 w8 ⟨l8, lv4, e, rfl, hc⟩
 obtain rfl : e = 2 := by
  rcases hc with ⟨h, _⟩ | ⟨_, _, _, h⟩ | ⟨_, h, _⟩
  ·exact absurd awR h
  ·exact h
  ·exact absurd h awW4
 clear hc
 -- what is wanted
 obtain ⟨k1, q1, m1, v1, u1⟩ := alloc_f w8 (flatP [((0 : Int), (2 : Int))])
 have b1 : aBuildSlice Try.prog h8 22 1 [(0, valP (0, 2))] = some (.slice (some ⟨h8.next, 0, none⟩) 1 1, k1) := by rw [mkP1']; exact congrArg (fun g => some (_, g)) q1
 obtain ⟨k2, q2, m2, v2, u2⟩ := alloc_f v1 [.int .i64 0, .int .i64 2]
 have b2 : aBuildSlice Try.prog k1 38 2 [(0, .int .i64 0), (1, .int .i64 2)] = some (.slice (some ⟨k1.next, 0, none⟩) 2 2, k2) := by rw [mk2]; exact congrArg (fun g => some (_, g)) q2
 obtain ⟨k3, q3, m3, v3, u3⟩ := alloc_f v2 (flatP [((0 : Int), (4 : Int)), (1, 4), (3, 4)])
 have b3 : aBuildSlice Try.prog k2 22 3 [(0, valP (0, 4)), (1, valP (1, 4)), (2, valP (3, 4))] = some (.slice (some ⟨k2.next, 0, none⟩) 3 3, k3) := by rw [mkP3]; exact congrArg (fun g => some (_, g)) q3
 obtain ⟨k4, q4, m4, v4, u4⟩ := alloc_f v3 [.int .i64 0, .int .i64 1, .int .i64 3]
 have b4 : aBuildSlice Try.prog k3 38 3 [(0, .int .i64 0), (1, .int .i64 1), (2, .int .i64 3)] = some (.slice (some ⟨k3.next, 0, none⟩) 3 3, k4) := by rw [mkI3]; exact congrArg (fun g => some (_, g)) q4
 have r1 : PR k1 (.slice (some ⟨h8.next, 0, none⟩) 1 1) [((0 : Int), (2 : Int))] := PR.made u1 rfl
 have r2 : RL isI k2 (.slice (some ⟨k1.next, 0, none⟩) 2 2) [0, 2] := RL.ofI (RS.whole u2 rfl)
 have r3 : PR k3 (.slice (some ⟨k2.next, 0, none⟩) 3 3) [((0 : Int), (4 : Int)), (1, 4), (3, 4)] := PR.made u3 rfl
 have r4 : RL isI k4 (.slice (some ⟨k3.next, 0, none⟩) 3 3) [0, 1, 3] := RL.ofI (RS.whole u4 rfl)
 generalize Value.slice (some ⟨h8.next, 0, none⟩) 1 1 = x1 at *
 generalize Value.slice (some ⟨k1.next, 0, none⟩) 2 2 = x2 at *
 generalize Value.slice (some ⟨k2.next, 0, none⟩) 3 3 = x3 at *
 generalize Value.slice (some ⟨k3.next, 0, none⟩) 3 3 = x4 at *
 have c1 := build41 r1.sl r2.sl
 have c2 := build41 r3.sl r4.sl
 obtain ⟨k5, q5, m5, v5, u5⟩ := alloc_f v4 [x1, x2, x3, x4]
 have b5 : aBuildSlice Try.prog k4 35 2 [(0, .agg #[x1, x2]), (1, .agg #[x3, x4])] = some (.slice (some ⟨k4.next, 0, none⟩) 2 2, k5) := by rw [mkF2 k4 r1.sl r2.sl r3.sl r4.sl]; exact congrArg (fun g => some (_, g)) q5
 have want : FL k5 (.slice (some ⟨k4.next, 0, none⟩) 2 2) [⟨[(0, 2)], [0, 2]⟩, ⟨[(0, 4), (1, 4), (3, 4)], [0, 1, 3]⟩] := by
  refine ⟨[x1, x2, x3, x4], ?_, fun i f hf => ?_⟩
  ·exact CS.own (k := 2) (off := 0) (n := 2) (cap := 2) u5 (by simp)
  ·match i with
   | 0 => simp at hf; subst hf; exact ⟨x1, x2, rfl, rfl, r1.le (((m2.trans m3).trans m4).trans m5), r2.le Stays.isI ((m3.trans m4).trans m5)⟩
   | 1 => simp at hf; subst hf; exact ⟨x3, x4, rfl, rfl, r3.le (m4.trans m5), r4.le Stays.isI m5⟩
   | i + 2 => simp at hf
 generalize Value.slice (some ⟨k4.next, 0, none⟩) 2 2 = want' at *
 have lk : Le h8 k5 := (((m1.trans m2).trans m3).trans m4).trans m5
 have le68 := (l7.trans l8).trans lk
 have fl' := fl.le ((l5.trans l6).trans le68)
 have fl2' := fl2.le (l6.trans le68)
 have fl3' := fl3.le le68
 have ll2 : ∀ g, aLen Try.prog g 35 lv2 = some (.int .i64 1) := fun g => fl2.len g
 have ll3 : ∀ g, aLen Try.prog g 35 lv3 = some (.int .i64 0) := fun g => fl3.len g
 have aw0 : awrap .i64 (0 + 0) = 0 := by decide
 simp only [kS1, bLookup, bMapSet, wantA, isCall, stepOp, evalO, evalL, evalP, evalM, putDst, flat, kA, kB, Nat.reduceLT, ↓reduceIte, kC, Nat.reduceEqDiff, aBuiltin, abinG, guardFree, abin, aInt, aUn, aNilCheck, retQ, retQ1, aresults, aresultL, aresult, mkF, undefV, reduceCtorEq, kD, kE, kF, kG, kH, kI, kJ, kK, aExtract, calleeOf, bP, b1, b2, b3, b4, c1, c2, b5, aw0]
 refine KCall.intro (by simp only [kS1, bLookup, bMapSet, wantA, isCall, stepOp, evalO, evalL, evalP, evalM, putDst, flat, kA, kB, Nat.reduceLT, ↓reduceIte, kC, Nat.reduceEqDiff, aBuiltin, abinG, guardFree, abin, aInt, aUn, aNilCheck, retQ, retQ1, aresults, aresultL, aresult, mkF, undefV, reduceCtorEq, kD, kE, kF, kG, kH, kI, kJ, kK, aExtract, calleeOf] <;> rfl) ⟨Try.func58, rfl, by decide⟩ (Same_any W0 lv want' _ _ k5 fl' want (by decide) (by decide)) ?_
 rintro x h9 w9 ⟨⟨b, rfl, hb⟩, l9⟩
 obtain rfl : b = true := hb.2 rfl
 obtain ⟨y1, y2, hy, py, py2⟩ := fl2'.get (i := 0) rfl
 have ad : aIndexAddr Try.prog 35 lv2 (.int .i64 0) = some (.pointer (some (fAddr lv2 0))) := fl2'.addr (k := .i64) 0 (by decide)
 have hy9 := hy h9 l9
 have lpy : ∀ g, aLen Try.prog g 22 y1 = some (.int .i64 8) := fun g => py.len g
 have lpy2 : ∀ g, aLen Try.prog g 38 y2 = some (.int .i64 0) := fun g => py2.len (P := Try.prog) Try.underlying38 g
 simp only [kS1, bLookup, bMapSet, wantA, isCall, stepOp, evalO, evalL, evalP, evalM, putDst, flat, kA, kB, Nat.reduceLT, ↓reduceIte, kC, Nat.reduceEqDiff, aBuiltin, abinG, guardFree, abin, aInt, aUn, aNilCheck, retQ, retQ1, aresults, aresultL, aresult, mkF, undefV, reduceCtorEq, kD, kE, kF, kG, kH, kI, kJ, kK, aExtract, calleeOf, ll2, ll3, ad, ff0, ff1, hy9.1, hy9.2, lpy, lpy2, eq_self]
 have leA : Le h h2 := l1.trans l2
 exact ⟨trivial, (((leA.trans le6).trans le68).trans l9)⟩
end Go.Fw
