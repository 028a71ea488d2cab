/- A text of the proof. -/
import Derived.Test.YtmgcmoifdnkaoaaFwLT2
import Derived.Test.YtmgcmoifdnkaoaaFwLZ5
set_option linter.unusedSimpArgs false
set_option linter.unusedVariables false
namespace Go.Fw
set_option maxRecDepth 10000
theorem upI_iff {x : Int} {u : Nat} : upI x = some u ↔ x = (u : Int) := ⟨upI_some, fun h => by rw [h, upI_nat]⟩
theorem LowD.congr {es es' : List Pr} {num : Nat → Nat} {up : Nat → Option Nat} {D : Nat → Nat → Prop} {v x : Nat} (L : LowD es num up D v x) (h : ∀ u w, D v u → (Nt es' up u w ↔ Nt es up u w)) : LowD es' num up D v x :=
 ⟨L.self, fun u w d k => L.back u w d ((h u w d).1 k), L.some_.imp id fun ⟨u, w, d, k, e⟩ => ⟨u, w, d, (h u w d).2 k, e⟩⟩
theorem LowD.add {es es' : List Pr} {num : Nat → Nat} {up : Nat → Option Nat} {v x c : Nat} (L : LowD es num up (fun a b => a = b) v x) (h : ∀ w, Nt es' up v w ↔ Nt es up v w ∨ w = c) : LowD es' num up (fun a b => a = b) v (min x (num c)) := by
 refine ⟨by have := L.self; omega, ?_, ?_⟩
 ·rintro u w rfl k
  rcases (h w).1 k with k | rfl
  ·have := L.back v w rfl k; omega
  ·omega
 ·by_cases q : x ≤ num c
  ·rw [Nat.min_eq_left q]
   exact L.some_.imp id fun ⟨u, w, d, k, e⟩ => ⟨u, w, d, by subst d; exact (h w).2 (.inl k), e⟩
  ·rw [Nat.min_eq_right (by omega)]
   exact .inr ⟨v, c, rfl, (h c).2 (.inr rfl), rfl⟩
theorem LowD.join {n : Nat} {es : List Pr} (hr : InR n es) {num : Nat → Nat} {up : Nat → Option Nat} {D D1 D2 : Nat → Nat → Prop} {v c x y : Nat} (L : LowD es num up D1 v x) (M : LowD es num up D2 c y) (hn : num v ≤ num c) (h : ∀ u, u < n → (D v u ↔ D1 v u ∨ D2 c u)) : LowD es num up D v (min x y) := by
 refine ⟨by have := L.self; omega, ?_, ?_⟩
 ·intro u w d k
  rcases (h u (k.1.lt hr).1).1 d with d | d
  ·have := L.back u w d k; omega
  ·have := M.back u w d k; omega
 ·by_cases q : x ≤ y
  ·rw [Nat.min_eq_left q]
   exact L.some_.imp id fun ⟨u, w, d, k, e⟩ => ⟨u, w, (h u (k.1.lt hr).1).2 (.inl d), k, e⟩
  ·rw [Nat.min_eq_right (by omega)]
   rcases M.some_ with e | ⟨u, w, d, k, e⟩
   ·have := L.self; omega
   ·exact .inr ⟨u, w, (h u (k.1.lt hr).1).2 (.inr d), k, e⟩
structure Same (n : Nat) (num : Nat → Nat) (up : Nat → Option Nat) (ls : List Lw) : Prop where
 len : ls.length = n
 nums : ∀ v, v < n → (getL ls v).1 = (num v : Int)
 ups : ∀ v, v < n → upI (getL ls v).2.1 = up v
structure LowS (n : Nat) (es : List Pr) (num : Nat → Nat) (up : Nat → Option Nat) (D : Nat → Nat → Prop) (ls : List Lw) : Prop extends Same n num up ls where
 low : ∀ v, v < n → ∃ x : Nat, (getL ls v).2.2 = (x : Int) ∧ LowD es num up D v x
theorem adj_snoc {es : List Pr} {a c x y : Nat} : adj (es ++ [((a : Int), (c : Int))]) x y ↔ adj es x y ∨ isE a c x y := by
 have e : ∀ (x y : Nat), ((x : Int), (y : Int)) = ((a : Int), (c : Int)) ↔ x = a ∧ y = c := fun x y => by
  rw [Prod.mk.injEq]; omega
 simp only [adj, isE, List.mem_append, List.mem_singleton, e]
 constructor
 ·rintro ((h | h) | (h | h))
  ·exact .inl (.inl h)
  ·exact .inr (.inl h)
  ·exact .inl (.inr h)
  ·exact .inr (.inr ⟨h.2, h.1⟩)
 ·rintro ((h | h) | (h | h))
  ·exact .inl (.inl h)
  ·exact .inr (.inl h)
  ·exact .inl (.inr h)
  ·exact .inr (.inr ⟨h.2, h.1⟩)
theorem edgeB_S {n : Nat} {es : List Pr} {num : Nat → Nat} {up : Nat → Option Nat} {ls : List Lw} {a c : Nat} (han : a < n) (hcn : c < n) (hac : a ≠ c) (S : LowS n es num up (fun a b => a = b) ls) :
  LowS n (es ++ [((a : Int), (c : Int))]) num up (fun a b => a = b) (edgeB ls ((a : Int), (c : Int))) := by
 have hup : ∀ x y : Nat, x < n → ((getL ls x).2.1 = (y : Int) ↔ up x = some y) := fun x y hx => by rw [← S.ups x hx, upI_iff]
 have hK : Same n num up (edgeB ls ((a : Int), (c : Int))) :=
  ⟨by rw [edgeB_length]; exact S.len, fun v hv => by rw [(edgeB_keep ls _ v).1]; exact S.nums v hv, fun v hv => by rw [(edgeB_keep ls _ v).2]; exact S.ups v hv⟩
 refine ⟨hK, fun v hv => ?_⟩
 by_cases t : up a = some c ∨ up c = some a
 ·have hE : edgeB ls ((a : Int), (c : Int)) = ls := by
   simp only [edgeB, Int.toNat_natCast]
   rw [if_pos]
   rcases t with t | t
   ·exact .inl ((hup a c han).2 t)
   ·exact .inr ((hup c a hcn).2 t)
  rw [hE]
  obtain ⟨x, h1, h2⟩ := S.low v hv
  refine ⟨x, h1, h2.congr fun u w _ => ?_⟩
  simp only [Nt, adj_snoc]
  constructor
  ·rintro ⟨h | h, k1, k2⟩
   ·exact ⟨h, k1, k2⟩
   ·rcases h with ⟨rfl, rfl⟩ | ⟨rfl, rfl⟩ <;> rcases t with t | t <;> first | exact absurd t k1 | exact absurd t k2
  ·rintro ⟨h, k⟩; exact ⟨.inl h, k⟩
 ·have t1 : up a ≠ some c := fun h => t (.inl h)
  have t2 : up c ≠ some a := fun h => t (.inr h)
  have nt : ∀ u w, Nt (es ++ [((a : Int), (c : Int))]) up u w ↔ Nt es up u w ∨ isE a c u w := fun u w => by
   simp only [Nt, adj_snoc]
   constructor
   ·rintro ⟨h | h, k⟩
    ·exact .inl ⟨h, k⟩
    ·exact .inr h
   ·rintro (⟨h, k⟩ | h)
    ·exact ⟨.inl h, k⟩
    ·refine ⟨.inr h, ?_⟩
     rcases h with ⟨rfl, rfl⟩ | ⟨rfl, rfl⟩
     ·exact ⟨t1, t2⟩
     ·exact ⟨t2, t1⟩
  obtain ⟨x, h1, h2⟩ := S.low v hv
  obtain ⟨xa, ha1, ha2⟩ := S.low a han
  obtain ⟨xc, hc1, hc2⟩ := S.low c hcn
  have hE : (getL (edgeB ls ((a : Int), (c : Int))) v).2.2 = if v = c then min (xc : Int) (num a : Int) else if v = a then min (xa : Int) (num c : Int) else (x : Int) := by
   simp only [edgeB, Int.toNat_natCast]
   rw [if_neg (by rw [hup a c han, hup c a hcn]; exact t)]
   simp only [getL_set, List.length_set, S.len, han, hcn, and_true]
   by_cases e1 : v = c
   ·subst e1; simp [hac, hc1, S.nums a han]
   ·rw [if_neg (Ne.symm e1), if_neg e1]
    by_cases e2 : v = a
    ·subst e2; simp [ha1, S.nums c hcn]
    ·rw [if_neg (Ne.symm e2), if_neg e2, h1]
  rw [hE]
  by_cases e1 : v = c
  ·subst e1
   rw [if_pos rfl]
   refine ⟨min xc (num a), by omega, hc2.add fun w => ?_⟩
   rw [nt]
   constructor
   ·rintro (h | ⟨h, _⟩ | ⟨_, h⟩)
    ·exact .inl h
    ·exact absurd h.symm hac
    ·exact .inr h
   ·rintro (h | rfl)
    ·exact .inl h
    ·exact .inr (.inr ⟨rfl, rfl⟩)
  ·rw [if_neg e1]
   by_cases e2 : v = a
   ·subst e2
    rw [if_pos rfl]
    refine ⟨min xa (num c), by omega, ha2.add fun w => ?_⟩
    rw [nt]
    constructor
    ·rintro (h | ⟨_, h⟩ | ⟨h, _⟩)
     ·exact .inl h
     ·exact .inr h
     ·exact absurd h e1
    ·rintro (h | rfl)
     ·exact .inl h
     ·exact .inr (.inl ⟨rfl, rfl⟩)
   ·rw [if_neg e2]
    refine ⟨x, rfl, h2.congr fun u w d => ?_⟩
    subst d
    rw [nt]
    constructor
    ·rintro (h | ⟨h, _⟩ | ⟨h, _⟩)
     ·exact h
     ·exact absurd h e2
     ·exact absurd h e1
    ·exact .inl
theorem edges_S {n : Nat} {num : Nat → Nat} {up : Nat → Option Nat} : ∀ (rest es : List Pr) (ls : List Lw), InR n rest → LowS n es num up (fun a b => a = b) ls → LowS n (es ++ rest) num up (fun a b => a = b) (rest.foldl edgeB ls)
 | [], es, ls, _, S => by simpa using S
 | (a, c) :: rest, es, ls, hr, S => by
  have hp := hr (a, c) (by simp)
  simp only at hp
  obtain ⟨a, rfl⟩ := Int.eq_ofNat_of_zero_le hp.1
  obtain ⟨c, rfl⟩ := Int.eq_ofNat_of_zero_le (show 0 ≤ c by omega)
  have := edges_S rest (es ++ [((a : Int), (c : Int))]) _ (fun q hq => hr q (by simp [hq])) (edgeB_S (by omega) (by omega) (by omega) S)
  rw [List.foldl_cons]
  simpa using this
def DT_ (up : Nat → Option Nat) (T : List Nat) (v u : Nat) : Prop := u = v ∨ ∃ c ∈ T, up c = some v ∧ Anc up c u
theorem ups_S {n : Nat} {es : List Pr} {num : Nat → Nat} {up : Nat → Option Nat} (F : Fo n es num up) {ls : List Lw} : ∀ (T pre : List Nat), (∀ v, v < n → v ∈ pre ++ T) → (pre ++ T).Pairwise (fun a b => num a < num b) → (∀ v ∈ pre ++ T, v < n) →
  LowS n es num up (fun a b => a = b) ls → LowS n es num up (DT_ up T) (T.foldr (fun x y => upC y x) ls)
 | [], pre, _, _, _, S => by
  refine ⟨S.toSame, fun v hv => ?_⟩
  obtain ⟨x, h1, h2⟩ := S.low v hv
  refine ⟨x, h1, h2.self, fun u w d => ?_, ?_⟩
  ·rcases d with rfl | ⟨c, hc, _⟩
   ·exact h2.back _ w rfl
   ·simp at hc
  ·exact h2.some_.imp id fun ⟨u, w, d, k, e⟩ => ⟨u, w, .inl d.symm, k, e⟩
 | c :: T, pre, hall, hp, hlt, S0 => by
  have S := ups_S F T (pre ++ [c]) (by simpa using hall) (by simpa using hp) (by simpa using hlt) S0
  rw [List.foldr_cons]
  generalize T.foldr (fun x y => upC y x) ls = l1 at *
  have hcn : c < n := hlt c (by simp)
  have hK : Same n num up (upC l1 c) :=
   ⟨by rw [upC_length]; exact S.len, fun v hv => by rw [(upC_keep l1 _ v).1]; exact S.nums v hv, fun v hv => by rw [(upC_keep l1 _ v).2]; exact S.ups v hv⟩
  refine ⟨hK, fun v hv => ?_⟩
  obtain ⟨x, h1, h2⟩ := S.low v hv
  -- of c itself all is known
  have hkids : ∀ d, up d = some c → d < n → d ∈ T := fun d hd hdn => by
   have hm := hall d hdn
   have hlt' := (F.upa d c hdn hd).2
   rw [List.pairwise_append] at hp
   rw [List.mem_append, List.mem_cons] at hm
   rcases hm with hm | rfl | hm
   ·have := hp.2.2 d hm c (by simp); omega
   ·omega
   ·exact hm
  have hother : up c ≠ some v → LowD es num up (DT_ up (c :: T)) v x := fun hne => by
   refine ⟨h2.self, fun u w d => h2.back u w ?_, h2.some_.imp id fun ⟨u, w, d, k⟩ => ⟨u, w, ?_, k⟩⟩
   ·rcases d with rfl | ⟨d, hd, hd2, hd3⟩
    ·exact .inl rfl
    ·rw [List.mem_cons] at hd
     rcases hd with rfl | hd
     ·exact absurd hd2 hne
     ·exact .inr ⟨d, hd, hd2, hd3⟩
   ·exact d.imp id fun ⟨d, hd, hd2⟩ => ⟨d, List.mem_cons_of_mem _ hd, hd2⟩
  cases hu : up c with
  | none =>
   have : upC l1 c = l1 := by
    have := S.ups c hcn; rw [hu] at this; unfold upI at this
    simp only [upC]; rw [if_neg]; intro h; rw [if_pos h] at this; cases this
   rw [this]
   exact ⟨x, h1, hother (by rw [hu]; simp)⟩
  | some p =>
   have hpv := F.upa c p hcn hu
   have hpn := (hpv.1.lt F.rng).1
   obtain ⟨y, hy1, hy2⟩ := S.low c hcn
   obtain ⟨z, hz1, hz2⟩ := S.low p hpn
   have hup : (getL l1 c).2.1 = (p : Int) := upI_iff.1 ((S.ups c hcn).trans hu)
   have hE : (getL (upC l1 c) v).2.2 = if v = p then min (z : Int) (y : Int) else (x : Int) := by
    simp only [upC, hup]
    rw [if_pos (by omega), Int.toNat_natCast, getL_set, S.len]
    by_cases e : v = p
    ·subst e; simp [hpn, hz1, hy1]
    ·rw [if_neg (fun k => e k.1.symm), if_neg e, h1]
   rw [hE]
   by_cases e : v = p
   ·subst e
    rw [if_pos rfl]
    refine ⟨min z y, by omega, hz2.join F.rng hy2 (by omega) fun u qn => ?_⟩
    constructor
    ·rintro (rfl | ⟨d, hd, hd2, hd3⟩)
     ·exact .inl (.inl rfl)
     ·rw [List.mem_cons] at hd
      rcases hd with rfl | hd
      ·by_cases q : d = u
       ·subst q; exact .inr (.inl rfl)
       ·obtain ⟨k, hk1, hk2⟩ := hd3.child q
        exact .inr (.inr ⟨k, hkids k hk1 (F.num_le hk2 qn).1, hk1, hk2⟩)
      ·exact .inl (.inr ⟨d, hd, hd2, hd3⟩)
    ·rintro (h | h)
     ·exact h.imp id fun ⟨d, hd, hd2⟩ => ⟨d, List.mem_cons_of_mem _ hd, hd2⟩
     ·rcases h with rfl | ⟨d, hd, hd2, hd3⟩
      ·exact .inr ⟨u, by simp, hu, .refl _⟩
      ·exact .inr ⟨c, by simp, hu, (Anc.one hd2).trans hd3⟩
   ·rw [if_neg e]
    exact ⟨x, rfl, hother (by rw [hu]; exact fun h => e (by injection h with h; exact h.symm))⟩
end Go.Fw
