/- A text of the proof. -/
import Derived.Test.YtmgcmoifdnkaoaaFwLT1
import Derived.Test.YtmgcmoifdnkaoaaFwLZ5
import Derived.Test.YtmgcmoifdnkaoaaFwLZ9
import Derived.Test.YtmgcmoifdnkaoaaFwLB8
import Derived.Test.YtmgcmoifdnkaoaaFwLB9
import Derived.Test.YtmgcmoifdnkaoaaFwLW8
set_option linter.unusedSimpArgs false
set_option linter.unusedVariables false
namespace Go.Fw
set_option maxRecDepth 10000
theorem upI_iff {x : Int} {u : Nat} : upI x = some u ↔ x = (u : Int) := ⟨upI_some, fun h => by rw [h, upI_nat]⟩
theorem LowD.congr {es es' : List Pr} {num : Nat → Nat} {up : Nat → Option Nat} {D : Nat → Nat → Prop} {v x : Nat} (L : LowD es num up D v x) (h : ∀ u w, D v u → (Nt es' up u w ↔ Nt es up u w)) : LowD es' num up D v x :=
 ⟨L.self, fun u w d k => L.back u w d ((h u w d).1 k), L.some_.imp id fun ⟨u, w, d, k, e⟩ => ⟨u, w, d, (h u w d).2 k, e⟩⟩
theorem LowD.add {es es' : List Pr} {num : Nat → Nat} {up : Nat → Option Nat} {v x c : Nat} (L : LowD es num up (fun a b => a = b) v x) (h : ∀ w, Nt es' up v w ↔ Nt es up v w ∨ w = c) : LowD es' num up (fun a b => a = b) v (min x (num c)) := by
 refine ⟨by have := L.self; omega, ?_, ?_⟩
 ·rintro u w rfl k
  rcases (h w).1 k with k | rfl
  ·have := L.back v w rfl k; omega
  ·omega
 ·by_cases q : x ≤ num c
  ·rw [Nat.min_eq_left q]
   exact L.some_.imp id fun ⟨u, w, d, k, e⟩ => ⟨u, w, d, by subst d; exact (h w).2 (.inl k), e⟩
  ·rw [Nat.min_eq_right (by omega)]
   exact .inr ⟨v, c, rfl, (h c).2 (.inr rfl), rfl⟩
theorem LowD.join {n : Nat} {es : List Pr} (hr : InR n es) {num : Nat → Nat} {up : Nat → Option Nat} {D D1 D2 : Nat → Nat → Prop} {v c x y : Nat} (L : LowD es num up D1 v x) (M : LowD es num up D2 c y) (hn : num v ≤ num c) (h : ∀ u, u < n → (D v u ↔ D1 v u ∨ D2 c u)) : LowD es num up D v (min x y) := by
 refine ⟨by have := L.self; omega, ?_, ?_⟩
 ·intro u w d k
  rcases (h u (k.1.lt hr).1).1 d with d | d
  ·have := L.back u w d k; omega
  ·have := M.back u w d k; omega
 ·by_cases q : x ≤ y
  ·rw [Nat.min_eq_left q]
   exact L.some_.imp id fun ⟨u, w, d, k, e⟩ => ⟨u, w, (h u (k.1.lt hr).1).2 (.inl d), k, e⟩
  ·rw [Nat.min_eq_right (by omega)]
   rcases M.some_ with e | ⟨u, w, d, k, e⟩
   ·have := L.self; omega
   ·exact .inr ⟨u, w, (h u (k.1.lt hr).1).2 (.inr d), k, e⟩
structure Same (n : Nat) (num : Nat → Nat) (up : Nat → Option Nat) (ls : List Lw) : Prop where
 len : ls.length = n
 nums : ∀ v, v < n → (getL ls v).1 = (num v : Int)
 ups : ∀ v, v < n → upI (getL ls v).2.1 = up v
structure LowS (n : Nat) (es : List Pr) (num : Nat → Nat) (up : Nat → Option Nat) (D : Nat → Nat → Prop) (ls : List Lw) : Prop extends Same n num up ls where
 low : ∀ v, v < n → ∃ x : Nat, (getL ls v).2.2 = (x : Int) ∧ LowD es num up D v x
theorem adj_snoc {es : List Pr} {a c x y : Nat} : adj (es ++ [((a : Int), (c : Int))]) x y ↔ adj es x y ∨ isE a c x y := by
 have e : ∀ (x y : Nat), ((x : Int), (y : Int)) = ((a : Int), (c : Int)) ↔ x = a ∧ y = c := fun x y => by
  rw [Prod.mk.injEq]; omega
 simp only [adj, isE, List.mem_append, List.mem_singleton, e]
 constructor
 ·rintro ((h | h) | (h | h))
  ·exact .inl (.inl h)
  ·exact .inr (.inl h)
  ·exact .inl (.inr h)
  ·exact .inr (.inr ⟨h.2, h.1⟩)
 ·rintro ((h | h) | (h | h))
  ·exact .inl (.inl h)
  ·exact .inr (.inl h)
  ·exact .inl (.inr h)
  ·exact .inr (.inr ⟨h.2, h.1⟩)
theorem edgeB_S {n : Nat} {es : List Pr} {num : Nat → Nat} {up : Nat → Option Nat} {ls : List Lw} {a c : Nat} (han : a < n) (hcn : c < n) (hac : a ≠ c) (S : LowS n es num up (fun a b => a = b) ls) :
  LowS n (es ++ [((a : Int), (c : Int))]) num up (fun a b => a = b) (edgeB ls ((a : Int), (c : Int))) := by
 have hup : ∀ x y : Nat, x < n → ((getL ls x).2.1 = (y : Int) ↔ up x = some y) := fun x y hx => by rw [← S.ups x hx, upI_iff]
 have hK : Same n num up (edgeB ls ((a : Int), (c : Int))) :=
  ⟨by rw [edgeB_length]; exact S.len, fun v hv => by rw [(edgeB_keep ls _ v).1]; exact S.nums v hv, fun v hv => by rw [(edgeB_keep ls _ v).2]; exact S.ups v hv⟩
 refine ⟨hK, fun v hv => ?_⟩
 by_cases t : up a = some c ∨ up c = some a
 ·have hE : edgeB ls ((a : Int), (c : Int)) = ls := by
   simp only [edgeB, Int.toNat_natCast]
   rw [if_pos]
   rcases t with t | t
   ·exact .inl ((hup a c han).2 t)
   ·exact .inr ((hup c a hcn).2 t)
  rw [hE]
  obtain ⟨x, h1, h2⟩ := S.low v hv
  refine ⟨x, h1, h2.congr fun u w _ => ?_⟩
  simp only [Nt, adj_snoc]
  constructor
  ·rintro ⟨h | h, k1, k2⟩
   ·exact ⟨h, k1, k2⟩
   ·rcases h with ⟨rfl, rfl⟩ | ⟨rfl, rfl⟩ <;> rcases t with t | t <;> first | exact absurd t k1 | exact absurd t k2
  ·rintro ⟨h, k⟩; exact ⟨.inl h, k⟩
 ·have t1 : up a ≠ some c := fun h => t (.inl h)
  have t2 : up c ≠ some a := fun h => t (.inr h)
  have nt : ∀ u w, Nt (es ++ [((a : Int), (c : Int))]) up u w ↔ Nt es up u w ∨ isE a c u w := fun u w => by
   simp only [Nt, adj_snoc]
   constructor
   ·rintro ⟨h | h, k⟩
    ·exact .inl ⟨h, k⟩
    ·exact .inr h
   ·rintro (⟨h, k⟩ | h)
    ·exact ⟨.inl h, k⟩
    ·refine ⟨.inr h, ?_⟩
     rcases h with ⟨rfl, rfl⟩ | ⟨rfl, rfl⟩
     ·exact ⟨t1, t2⟩
     ·exact ⟨t2, t1⟩
  obtain ⟨x, h1, h2⟩ := S.low v hv
  obtain ⟨xa, ha1, ha2⟩ := S.low a han
  obtain ⟨xc, hc1, hc2⟩ := S.low c hcn
  have hE : (getL (edgeB ls ((a : Int), (c : Int))) v).2.2 = if v = c then min (xc : Int) (num a : Int) else if v = a then min (xa : Int) (num c : Int) else (x : Int) := by
   simp only [edgeB, Int.toNat_natCast]
   rw [if_neg (by rw [hup a c han, hup c a hcn]; exact t)]
   simp only [getL_set, List.length_set, S.len, han, hcn, and_true]
   by_cases e1 : v = c
   ·subst e1; simp [hac, hc1, S.nums a han]
   ·rw [if_neg (Ne.symm e1), if_neg e1]
    by_cases e2 : v = a
    ·subst e2; simp [ha1, S.nums c hcn]
    ·rw [if_neg (Ne.symm e2), if_neg e2, h1]
  rw [hE]
  by_cases e1 : v = c
  ·subst e1
   rw [if_pos rfl]
   refine ⟨min xc (num a), by omega, hc2.add fun w => ?_⟩
   rw [nt]
   constructor
   ·rintro (h | ⟨h, _⟩ | ⟨_, h⟩)
    ·exact .inl h
    ·exact absurd h.symm hac
    ·exact .inr h
   ·rintro (h | rfl)
    ·exact .inl h
    ·exact .inr (.inr ⟨rfl, rfl⟩)
  ·rw [if_neg e1]
   by_cases e2 : v = a
   ·subst e2
    rw [if_pos rfl]
    refine ⟨min xa (num c), by omega, ha2.add fun w => ?_⟩
    rw [nt]
    constructor
    ·rintro (h | ⟨_, h⟩ | ⟨h, _⟩)
     ·exact .inl h
     ·exact .inr h
     ·exact absurd h e1
    ·rintro (h | rfl)
     ·exact .inl h
     ·exact .inr (.inl ⟨rfl, rfl⟩)
   ·rw [if_neg e2]
    refine ⟨x, rfl, h2.congr fun u w d => ?_⟩
    subst d
    rw [nt]
    constructor
    ·rintro (h | ⟨h, _⟩ | ⟨h, _⟩)
     ·exact h
     ·exact absurd h e2
     ·exact absurd h e1
    ·exact .inl
theorem edges_S {n : Nat} {num : Nat → Nat} {up : Nat → Option Nat} : ∀ (rest es : List Pr) (ls : List Lw), InR n rest → LowS n es num up (fun a b => a = b) ls → LowS n (es ++ rest) num up (fun a b => a = b) (rest.foldl edgeB ls)
 | [], es, ls, _, S => by simpa using S
 | (a, c) :: rest, es, ls, hr, S => by
  have hp := hr (a, c) (by simp)
  simp only at hp
  obtain ⟨a, rfl⟩ := Int.eq_ofNat_of_zero_le hp.1
  obtain ⟨c, rfl⟩ := Int.eq_ofNat_of_zero_le (show 0 ≤ c by omega)
  have := edges_S rest (es ++ [((a : Int), (c : Int))]) _ (fun q hq => hr q (by simp [hq])) (edgeB_S (by omega) (by omega) (by omega) S)
  rw [List.foldl_cons]
  simpa using this
def DT_ (up : Nat → Option Nat) (T : List Nat) (v u : Nat) : Prop := u = v ∨ ∃ c ∈ T, up c = some v ∧ Anc up c u
theorem ups_S {n : Nat} {es : List Pr} {num : Nat → Nat} {up : Nat → Option Nat} (F : Fo n es num up) {ls : List Lw} : ∀ (T pre : List Nat), (∀ v, v < n → v ∈ pre ++ T) → (pre ++ T).Pairwise (fun a b => num a < num b) → (∀ v ∈ pre ++ T, v < n) →
  LowS n es num up (fun a b => a = b) ls → LowS n es num up (DT_ up T) (T.foldr (fun x y => upC y x) ls)
 | [], pre, _, _, _, S => by
  refine ⟨S.toSame, fun v hv => ?_⟩
  obtain ⟨x, h1, h2⟩ := S.low v hv
  refine ⟨x, h1, h2.self, fun u w d => ?_, ?_⟩
  ·rcases d with rfl | ⟨c, hc, _⟩
   ·exact h2.back _ w rfl
   ·simp at hc
  ·exact h2.some_.imp id fun ⟨u, w, d, k, e⟩ => ⟨u, w, .inl d.symm, k, e⟩
 | c :: T, pre, hall, hp, hlt, S0 => by
  have S := ups_S F T (pre ++ [c]) (by simpa using hall) (by simpa using hp) (by simpa using hlt) S0
  rw [List.foldr_cons]
  generalize T.foldr (fun x y => upC y x) ls = l1 at *
  have hcn : c < n := hlt c (by simp)
  have hK : Same n num up (upC l1 c) :=
   ⟨by rw [upC_length]; exact S.len, fun v hv => by rw [(upC_keep l1 _ v).1]; exact S.nums v hv, fun v hv => by rw [(upC_keep l1 _ v).2]; exact S.ups v hv⟩
  refine ⟨hK, fun v hv => ?_⟩
  obtain ⟨x, h1, h2⟩ := S.low v hv
  -- of c itself all is known
  have hkids : ∀ d, up d = some c → d < n → d ∈ T := fun d hd hdn => by
   have hm := hall d hdn
   have hlt' := (F.upa d c hdn hd).2
   rw [List.pairwise_append] at hp
   rw [List.mem_append, List.mem_cons] at hm
   rcases hm with hm | rfl | hm
   ·have := hp.2.2 d hm c (by simp); omega
   ·omega
   ·exact hm
  have hother : up c ≠ some v → LowD es num up (DT_ up (c :: T)) v x := fun hne => by
   refine ⟨h2.self, fun u w d => h2.back u w ?_, h2.some_.imp id fun ⟨u, w, d, k⟩ => ⟨u, w, ?_, k⟩⟩
   ·rcases d with rfl | ⟨d, hd, hd2, hd3⟩
    ·exact .inl rfl
    ·rw [List.mem_cons] at hd
     rcases hd with rfl | hd
     ·exact absurd hd2 hne
     ·exact .inr ⟨d, hd, hd2, hd3⟩
   ·exact d.imp id fun ⟨d, hd, hd2⟩ => ⟨d, List.mem_cons_of_mem _ hd, hd2⟩
  cases hu : up c with
  | none =>
   have : upC l1 c = l1 := by
    have := S.ups c hcn; rw [hu] at this; unfold upI at this
    simp only [upC]; rw [if_neg]; intro h; rw [if_pos h] at this; cases this
   rw [this]
   exact ⟨x, h1, hother (by rw [hu]; simp)⟩
  | some p =>
   have hpv := F.upa c p hcn hu
   have hpn := (hpv.1.lt F.rng).1
   obtain ⟨y, hy1, hy2⟩ := S.low c hcn
   obtain ⟨z, hz1, hz2⟩ := S.low p hpn
   have hup : (getL l1 c).2.1 = (p : Int) := upI_iff.1 ((S.ups c hcn).trans hu)
   have hE : (getL (upC l1 c) v).2.2 = if v = p then min (z : Int) (y : Int) else (x : Int) := by
    simp only [upC, hup]
    rw [if_pos (by omega), Int.toNat_natCast, getL_set, S.len]
    by_cases e : v = p
    ·subst e; simp [hpn, hz1, hy1]
    ·rw [if_neg (fun k => e k.1.symm), if_neg e, h1]
   rw [hE]
   by_cases e : v = p
   ·subst e
    rw [if_pos rfl]
    refine ⟨min z y, by omega, hz2.join F.rng hy2 (by omega) fun u qn => ?_⟩
    constructor
    ·rintro (rfl | ⟨d, hd, hd2, hd3⟩)
     ·exact .inl (.inl rfl)
     ·rw [List.mem_cons] at hd
      rcases hd with rfl | hd
      ·by_cases q : d = u
       ·subst q; exact .inr (.inl rfl)
       ·obtain ⟨k, hk1, hk2⟩ := hd3.child q
        exact .inr (.inr ⟨k, hkids k hk1 (F.num_le hk2 qn).1, hk1, hk2⟩)
      ·exact .inl (.inr ⟨d, hd, hd2, hd3⟩)
    ·rintro (h | h)
     ·exact h.imp id fun ⟨d, hd, hd2⟩ => ⟨d, List.mem_cons_of_mem _ hd, hd2⟩
     ·rcases h with rfl | ⟨d, hd, hd2, hd3⟩
      ·exact .inr ⟨u, by simp, hu, .refl _⟩
      ·exact .inr ⟨c, by simp, hu, (Anc.one hd2).trans hd3⟩
   ·rw [if_neg e]
    exact ⟨x, rfl, hother (by rw [hu]; exact fun h => e (by injection h with h; exact h.symm))⟩
end Go.Fw
namespace Go.Fw
set_option maxRecDepth 10000
structure SearchS (n : Nat) (es : List Pr) (ls : List Lw) (o : List Nat) (num : Nat → Nat) (up : Nat → Option Nat) : Prop extends LowS n es num up (Anc up) ls where
 fo : Fo n es num up
 ord : ∀ (k v : Nat), o[k]? = some v → num v = k + 1
 mem : ∀ v, v ∈ o ↔ v < n
 nd : o.Nodup
 olen : o.length = n
 upr : ∀ v, v < n → -1 ≤ (getL ls v).2.1 ∧ (getL ls v).2.1 < (n : Int)
theorem DT_all {n : Nat} {es : List Pr} {num : Nat → Nat} {up : Nat → Option Nat} (F : Fo n es num up) {T : List Nat} (hT : ∀ v, v < n → v ∈ T) {v u : Nat} (hu : u < n) : DT_ up T v u ↔ Anc up v u := by
 constructor
 ·rintro (rfl | ⟨c, _, h1, h2⟩)
  ·exact .refl _
  ·exact (Anc.one h1).trans h2
 ·intro h
  by_cases e : v = u
  ·exact .inl e.symm
  ·obtain ⟨c, h1, h2⟩ := h.child e
   exact .inr ⟨c, hT c (F.num_le h2 hu).1, h1, h2⟩
theorem LowD.congrD {n : Nat} {es : List Pr} (hr : InR n es) {num : Nat → Nat} {up : Nat → Option Nat} {D D' : Nat → Nat → Prop} {v x : Nat} (L : LowD es num up D v x) (h : ∀ u, u < n → (D' v u ↔ D v u)) : LowD es num up D' v x :=
 ⟨L.self, fun u w d k => L.back u w ((h u (k.1.lt hr).1).1 d) k, L.some_.imp id fun ⟨u, w, d, k, e⟩ => ⟨u, w, (h u (k.1.lt hr).1).2 d, k, e⟩⟩
theorem lowM_S {n : Nat} {es : List Pr} (hr : InR n es) : ∃ num up, SearchS n es (lowM n es).1 (lowM n es).2 num up := by
 obtain ⟨C, hall⟩ := metM_C hr n (Nat.le_refl _)
 have F := metM_F hr n (Nat.le_refl _)
 have fo := metM_fo hr
 have hmem : ∀ v, v ∈ (metM n es n).2 ↔ v < n := fun v => ⟨C.lt v, hall v⟩
 have hnum : ∀ (k v : Nat), (metM n es n).2[k]? = some v → numL (metM n es n).1 v = k + 1 := fun k v h => by unfold numL; rw [(F.num k v h).1]; simp
 have S0 : LowS n [] (numL (metM n es n).1) (upL (metM n es n).1) (fun a b => a = b) (metM n es n).1 := by
  refine ⟨⟨C.len, fun v hv => ?_, fun v hv => rfl⟩, fun v hv => ?_⟩
  ·obtain ⟨k, hk⟩ := List.mem_iff_getElem?.1 (hall v hv)
   rw [hnum k v hk, (F.num k v hk).1]
  ·obtain ⟨k, hk⟩ := List.mem_iff_getElem?.1 (hall v hv)
   refine ⟨k + 1, by rw [(F.num k v hk).2], ⟨by rw [hnum k v hk]; exact Nat.le_refl _, fun u w _ h => ?_, .inl (hnum k v hk).symm⟩⟩
   rcases h.1 with h | h <;> simp at h
 have S1 := edges_S es [] _ hr S0
 rw [List.nil_append] at S1
 have hpair : ((metM n es n).2).Pairwise fun a b => numL (metM n es n).1 a < numL (metM n es n).1 b := by
  rw [List.pairwise_iff_getElem]
  intro i j hi hj hij
  rw [hnum i _ (List.getElem?_eq_getElem hi), hnum j _ (List.getElem?_eq_getElem hj)]; omega
 have S2 := ups_S fo (metM n es n).2 [] hall hpair C.lt S1
 have hlow : (lowM n es).1 = (metM n es n).2.foldr (fun x y => upC y x) (es.foldl edgeB (metM n es n).1) := by
  rw [lowM]; simp only [List.foldl_reverse]
 refine ⟨numL (metM n es n).1, upL (metM n es n).1, ⟨⟨?_, fun v hv => ?_⟩, fo, hnum, hmem, C.nd, ?_, fun v hv => ?_⟩⟩
 ·rw [hlow]; exact S2.toSame
 ·rw [hlow]
  obtain ⟨x, h1, h2⟩ := S2.low v hv
  exact ⟨x, h1, h2.congrD hr fun u hu => (DT_all fo hall hu).symm⟩
 ·have h1 := C.toLowI.olen
  have h2 := (List.nodup_range (n := n)).length_le_of_subset (l₂ := (metM n es n).2) fun v hv => hall v (List.mem_range.1 hv)
  simp at h2
  show (metM n es n).2.length = n
  omega
 ·rw [hlow]
  obtain ⟨k, hk⟩ := List.mem_iff_getElem?.1 (hall v hv)
  have e : (getL ((metM n es n).2.foldr (fun x y => upC y x) (es.foldl edgeB (metM n es n).1)) v).2.1 = (getL (metM n es n).1 v).2.1 := by
   rw [← hlow, lowM, (ups_keep _ _ v).2, (edges_keep _ _ v).2]
  rw [e]
  refine ⟨?_, C.up v hv⟩
  rcases F.up k v hk with h | ⟨j, u, _, _, h, _⟩ <;> rw [h] <;> omega
end Go.Fw
namespace Go.Fw
open Go.Proofs
attribute [local irreducible] KO4 KO3 KO2 KO1 KO KN KX KE VK KCond KDraw KCall KLoop
set_option maxHeartbeats 8000000
set_option maxRecDepth 10000
theorem LR.len {h : AHeap} {v : Value} {ls : List Lw} (r : LR h v ls) (g : AHeap) : aLen Try.prog g 27 v = some (.int .i64 ls.length) := by
 obtain ⟨a, c, rfl, _⟩ := r.sl; simp [aLen, Try.underlying27]
def lA3 (v : Value) (i : Nat) : Addr := elemAddr v (i * 3)
theorem LR.get {h : AHeap} {v : Value} {ls : List Lw} (r : LR h v ls) {i : Nat} {p : Lw} (hp : ls[i]? = some p) :
  h.read (aadd (lA3 v i) 0) = some (.int .i64 p.1) ∧ h.read (aadd (lA3 v i) 1) = some (.int .i64 p.2.1) ∧ h.read (aadd (lA3 v i) 2) = some (.int .i64 p.2.2) := by
 obtain ⟨f1, f2, f3⟩ := flatL_get ls i p hp
 have g1 := CS.get r _ _ f1
 have g2 := CS.get r _ _ f2
 have g3 := CS.get r _ _ f3
 obtain ⟨a, c, rfl, hs⟩ := r.sl
 have hi := (List.getElem?_eq_some_iff.1 hp).1
 obtain ⟨a, rfl⟩ := Option.isSome_iff_exists.1 (hs (by omega))
 simp only [lA3, elemAddr_mk, aadd] at *
 exact ⟨by simpa using g1, by simpa [Nat.add_assoc] using g2, by simpa [Nat.add_assoc] using g3⟩
theorem SamePairLists_any (W0 : Base) (v w : Value) (ps qs : List (List Pr)) (h : AHeap) (hv : RL PR h v ps) (hw : RL PR h w qs) (hn : ps.length ≤ 100000) (hp : ∀ p ∈ ps, p.length ≤ 100000) : AC Try.prog W0 28 [v, w] h fun x h' => x = .bool (decide (ps = qs)) ∧ h' = h := by
 refine AC.vc (fn := Try.f28) (c := _) ⟨Try.func28, rfl, by decide⟩ Try.ntmps28 Try.results28 (by simp) fun hwf => ?_
 simp only [argFrame, argFrom, Nat.reduceAdd]
 have lv := fun g => hv.len (P := Try.prog) Try.underlying38 g
 have lw := fun g => hw.len (P := Try.prog) Try.underlying38 g
 by_cases c : (ps.length : Int) = (qs.length : Int)
 rotate_left
 ·simp only [kS1, bLookup, bMapSet, wantA, isCall, stepOp, evalO, evalL, evalP, evalM, putDst, flat, kA, kB, Nat.reduceLT, ↓reduceIte, kC, Nat.reduceEqDiff, aBuiltin, abinG, guardFree, abin, aInt, aUn, aNilCheck, retQ, retQ1, aresults, aresultL, aresult, mkF, undefV, reduceCtorEq, kD, kE, kF, kG, kH, kI, kJ, kK, aExtract, calleeOf, lv, lw, bne, eq_false c]
  exact ⟨by rw [decide_eq_false (fun e => c (by rw [e]))], trivial⟩
 have c' : ps.length = qs.length := by omega
 simp only [kS1, bLookup, bMapSet, wantA, isCall, stepOp, evalO, evalL, evalP, evalM, putDst, flat, kA, kB, Nat.reduceLT, ↓reduceIte, kC, Nat.reduceEqDiff, aBuiltin, abinG, guardFree, abin, aInt, aUn, aNilCheck, retQ, retQ1, aresults, aresultL, aresult, mkF, undefV, reduceCtorEq, kD, kE, kF, kG, kH, kI, kJ, kK, aExtract, calleeOf, lv, lw, bne, eq_true c]
 refine KLoop.intro (fun k fr hh => ∃ i : Nat, k = ps.length - i ∧ i ≤ ps.length ∧ hh = h ∧ fr = mkF [(0, v), (1, w), (5, .int .i64 i)] ∧ ps.take i = qs.take i)
  ps.length [(0, v), (1, w), (5, .int .i64 (0 : Nat))] (by simp only [hasAll, kS1, bLookup, bMapSet, wantA, isCall, stepOp, evalO, evalL, evalP, evalM, putDst, flat, kA, kB, Nat.reduceLT, ↓reduceIte, kC, Nat.reduceEqDiff, aBuiltin, abinG, guardFree, abin, aInt, aUn, aNilCheck, retQ, retQ1, aresults, aresultL, aresult, mkF, undefV, reduceCtorEq, kD, kE, kF, kG, kH, kI, kJ, kK, aExtract, calleeOf]; simp) ⟨0, rfl, Nat.zero_le _, rfl, rfl, rfl⟩ ?_
 rintro k fr hh - ⟨i, rfl, hi, rfl, rfl, he⟩
 simp only [kS1, bLookup, bMapSet, wantA, isCall, stepOp, evalO, evalL, evalP, evalM, putDst, flat, kA, kB, Nat.reduceLT, ↓reduceIte, kC, Nat.reduceEqDiff, aBuiltin, abinG, guardFree, abin, aInt, aUn, aNilCheck, retQ, retQ1, aresults, aresultL, aresult, mkF, undefV, reduceCtorEq, kD, kE, kF, kG, kH, kI, kJ, kK, aExtract, calleeOf, lv]
 refine KCond.intro (fun ht => ?_) (fun hf => ?_)
 ·have hlt : i < ps.length := lt_t ht
  have hpi := getElem?_of hlt
  have hqi := getElem?_of (show i < qs.length by omega)
  have t1 : ps.take (i + 1) = ps.take i ++ [ps[i]] := List.take_succ_eq_append_getElem hlt
  have t2 : qs.take (i + 1) = qs.take i ++ [qs[i]'(by omega)] := List.take_succ_eq_append_getElem (by omega)
  have ad := hv.addr (P := Try.prog) Try.underlying38 Try.underlying22 (by kernel_rfl) (k := .i64) i hlt
  obtain ⟨u, ld, hu⟩ := hv.load (P := Try.prog) Try.underlying22 rfl i hlt
  have ad2 := hw.addr (P := Try.prog) Try.underlying38 Try.underlying22 (by kernel_rfl) (k := .i64) i (by omega)
  obtain ⟨u2, ld2, hu2⟩ := hw.load (P := Try.prog) Try.underlying22 rfl i (by omega)
  have hpl := hp _ (List.mem_of_getElem? hpi)
  generalize ps[i] = p at hpi t1 hu hpl
  generalize qs[i]'(by omega) = q at hqi t2 hu2
  simp only [kS1, bLookup, bMapSet, wantA, isCall, stepOp, evalO, evalL, evalP, evalM, putDst, flat, kA, kB, Nat.reduceLT, ↓reduceIte, kC, Nat.reduceEqDiff, aBuiltin, abinG, guardFree, abin, aInt, aUn, aNilCheck, retQ, retQ1, aresults, aresultL, aresult, mkF, undefV, reduceCtorEq, kD, kE, kF, kG, kH, kI, kJ, kK, aExtract, calleeOf]
  refine KDraw.intro mixed (.fl 0 (.fl 1 (.fl 2 (.fl 3 (.fl 4 (.fl 5 (.fl 6 (.fl 7 (.ch 8 [3, 7] (.fl 9 (.done)) .no))))))))) (by kernel_rfl) ?_
  simp only [kS1, bLookup, bMapSet, wantA, isCall, stepOp, evalO, evalL, evalP, evalM, putDst, flat, kA, kB, Nat.reduceLT, ↓reduceIte, kC, Nat.reduceEqDiff, aBuiltin, abinG, guardFree, abin, aInt, aUn, aNilCheck, retQ, retQ1, aresults, aresultL, aresult, mkF, undefV, reduceCtorEq, kD, kE, kF, kG, kH, kI, kJ, kK, aExtract, calleeOf, kD1, Nat.reduceBEq, HoldsAll, kL, kM, kN, kO, ad, ld, ad2, ld2]
  refine KGCall.intro (by simp only [kS1, bLookup, bMapSet, wantA, isCall, stepOp, evalO, evalL, evalP, evalM, putDst, flat, kA, kB, Nat.reduceLT, ↓reduceIte, kC, Nat.reduceEqDiff, aBuiltin, abinG, guardFree, abin, aInt, aUn, aNilCheck, retQ, retQ1, aresults, aresultL, aresult, mkF, undefV, reduceCtorEq, kD, kE, kF, kG, kH, kI, kJ, kK, aExtract, calleeOf] <;> rfl) ⟨Try.func22, rfl, by decide⟩ (SamePairs_any W0 u u2 p q hh hu hu2 hpl) ?_
  rintro x h3 w3 ⟨rfl, rfl⟩
  cases hb : decide (p = q) with
  | true =>
   have e := of_decide_eq_true hb
   simp only [kS1, bLookup, bMapSet, wantA, isCall, stepOp, evalO, evalL, evalP, evalM, putDst, flat, kA, kB, Nat.reduceLT, ↓reduceIte, kC, Nat.reduceEqDiff, aBuiltin, abinG, guardFree, abin, aInt, aUn, aNilCheck, retQ, retQ1, aresults, aresultL, aresult, mkF, undefV, reduceCtorEq, kD, kE, kF, kG, kH, kI, kJ, kK, aExtract, calleeOf, kD1, Nat.reduceBEq, HoldsAll, kL, kM, kN, kO, ad, ld, ad2, ld2, awrap_succ i (by omega)]
   exact loop_again (ps.length - (i + 1)) [(0, v), (1, w), (5, .int .i64 (i + 1 : Nat))] (by omega) (by simp only [hasAll, kS1, bLookup, bMapSet, wantA, isCall, stepOp, evalO, evalL, evalP, evalM, putDst, flat, kA, kB, Nat.reduceLT, ↓reduceIte, kC, Nat.reduceEqDiff, aBuiltin, abinG, guardFree, abin, aInt, aUn, aNilCheck, retQ, retQ1, aresults, aresultL, aresult, mkF, undefV, reduceCtorEq, kD, kE, kF, kG, kH, kI, kJ, kK, aExtract, calleeOf]; simp) ⟨i + 1, rfl, hlt, rfl, rfl, by rw [t1, t2, he, e]⟩
  | false =>
   have e := of_decide_eq_false hb
   simp only [kS1, bLookup, bMapSet, wantA, isCall, stepOp, evalO, evalL, evalP, evalM, putDst, flat, kA, kB, Nat.reduceLT, ↓reduceIte, kC, Nat.reduceEqDiff, aBuiltin, abinG, guardFree, abin, aInt, aUn, aNilCheck, retQ, retQ1, aresults, aresultL, aresult, mkF, undefV, reduceCtorEq, kD, kE, kF, kG, kH, kI, kJ, kK, aExtract, calleeOf, kD1, Nat.reduceBEq, HoldsAll, kL, kM, kN, kO, ad, ld, ad2, ld2]
   exact by rw [decide_eq_false (fun e' => e (by subst e'; rw [hpi] at hqi; injection hqi))]
 ·have hge : ps.length ≤ i := lt_f hf
  rw [List.take_of_length_le hge, List.take_of_length_le (by omega)] at he
  simp only [kS1, bLookup, bMapSet, wantA, isCall, stepOp, evalO, evalL, evalP, evalM, putDst, flat, kA, kB, Nat.reduceLT, ↓reduceIte, kC, Nat.reduceEqDiff, aBuiltin, abinG, guardFree, abin, aInt, aUn, aNilCheck, retQ, retQ1, aresults, aresultL, aresult, mkF, undefV, reduceCtorEq, kD, kE, kF, kG, kH, kI, kJ, kK, aExtract, calleeOf]
  exact ⟨by rw [decide_eq_true he], trivial⟩
end Go.Fw
namespace Go.Fw
open Go.Proofs
set_option maxHeartbeats 8000000
set_option maxRecDepth 10000
theorem mkP7 (h : AHeap) (p0 p1 p2 p3 p4 p5 p6 : Pr) : aBuildSlice Try.prog h 22 7 [(0, valP p0), (1, valP p1), (2, valP p2), (3, valP p3), (4, valP p4), (5, valP p5), (6, valP p6)] = some (.slice (some ⟨h.next, 0, none⟩) 7 7, h.alloc (.cells (flatP [p0, p1, p2, p3, p4, p5, p6]))) := by kernel_rfl
def aw5 : List Pr := [(0, 1), (0, 2), (1, 2), (2, 3), (2, 4), (3, 4), (4, 5)]
theorem aw5R : RightG ⟨6, aw5⟩ := by
 refine ⟨by decide, by decide, by decide, fun i hi p hp => ?_⟩
 have hi' : i < 7 := hi
 match i, hi' with
 | 0, _ => simp [aw5] at hp; subst hp; exact ⟨by decide, fun q h0 => by omega⟩
 | 1, _ => simp [aw5] at hp; subst hp; exact ⟨by decide, fun q h0 hq => by simp [aw5] at hq; subst hq; decide⟩
 | 2, _ => simp [aw5] at hp; subst hp; exact ⟨by decide, fun q h0 hq => by simp [aw5] at hq; subst hq; decide⟩
 | 3, _ => simp [aw5] at hp; subst hp; exact ⟨by decide, fun q h0 hq => by simp [aw5] at hq; subst hq; decide⟩
 | 4, _ => simp [aw5] at hp; subst hp; exact ⟨by decide, fun q h0 hq => by simp [aw5] at hq; subst hq; decide⟩
 | 5, _ => simp [aw5] at hp; subst hp; exact ⟨by decide, fun q h0 hq => by simp [aw5] at hq; subst hq; decide⟩
 | 6, _ => simp [aw5] at hp; subst hp; exact ⟨by decide, fun q h0 hq => by simp [aw5] at hq; subst hq; decide⟩
theorem aw5_cuts : cutsM 6 aw5 = [2, 4] := by decide +kernel
theorem aw5_blocks : blocksM 6 aw5 = [[(0, 1), (0, 2), (1, 2)], [(2, 3), (2, 4), (3, 4)], [(4, 5)]] := by decide +kernel
theorem t0 (a : Addr) : aIndexAddr Try.prog 78 (.pointer (some a)) (.int .i64 0) = some (.pointer (some (aadd a 0))) := by
 simp [aIndexAddr, Try.underlying78, Try.underlying3]
theorem t1 (a : Addr) : aIndexAddr Try.prog 78 (.pointer (some a)) (.int .i64 1) = some (.pointer (some (aadd a 1))) := by
 simp [aIndexAddr, Try.underlying78, Try.underlying3, ts3]
theorem t2 (a : Addr) : aIndexAddr Try.prog 78 (.pointer (some a)) (.int .i64 2) = some (.pointer (some (aadd a 2))) := by
 simp [aIndexAddr, Try.underlying78, Try.underlying3, ts3]
theorem wr0 : awrap .i64 ((0 : Int) + 0) = 0 := by decide
end Go.Fw
