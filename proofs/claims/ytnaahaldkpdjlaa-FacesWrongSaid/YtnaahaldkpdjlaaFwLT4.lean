/- A text of the proof. -/
import Derived.Test.YtnaahaldkpdjlaaFwLT1
import Derived.Test.YtnaahaldkpdjlaaFwLZ4
import Derived.Test.YtnaahaldkpdjlaaFwLBR
import Derived.Test.YtnaahaldkpdjlaaFwLB10
import Derived.Test.YtnaahaldkpdjlaaFwLW8
set_option linter.unusedSimpArgs false
set_option linter.unusedVariables false
namespace Go.Fw
set_option maxRecDepth 10000
theorem upI_iff {x : Int} {u : Nat} : upI x = some u ↔ x = (u : Int) := ⟨upI_some, fun h => by rw [h, upI_nat]⟩
theorem LowD.congr {es es' : List Pr} {num : Nat → Nat} {up : Nat → Option Nat} {D : Nat → Nat → Prop} {v x : Nat} (L : LowD es num up D v x) (h : ∀ u w, D v u → (Nt es' up u w ↔ Nt es up u w)) : LowD es' num up D v x :=
 ⟨L.self, fun u w d k => L.back u w d ((h u w d).1 k), L.some_.imp id fun ⟨u, w, d, k, e⟩ => ⟨u, w, d, (h u w d).2 k, e⟩⟩
theorem LowD.add {es es' : List Pr} {num : Nat → Nat} {up : Nat → Option Nat} {v x c : Nat} (L : LowD es num up (fun a b => a = b) v x) (h : ∀ w, Nt es' up v w ↔ Nt es up v w ∨ w = c) : LowD es' num up (fun a b => a = b) v (min x (num c)) := by
 refine ⟨by have := L.self; omega, ?_, ?_⟩
 ·rintro u w rfl k
  rcases (h w).1 k with k | rfl
  ·have := L.back v w rfl k; omega
  ·omega
 ·by_cases q : x ≤ num c
  ·rw [Nat.min_eq_left q]
   exact L.some_.imp id fun ⟨u, w, d, k, e⟩ => ⟨u, w, d, by subst d; exact (h w).2 (.inl k), e⟩
  ·rw [Nat.min_eq_right (by omega)]
   exact .inr ⟨v, c, rfl, (h c).2 (.inr rfl), rfl⟩
theorem LowD.join {n : Nat} {es : List Pr} (hr : InR n es) {num : Nat → Nat} {up : Nat → Option Nat} {D D1 D2 : Nat → Nat → Prop} {v c x y : Nat} (L : LowD es num up D1 v x) (M : LowD es num up D2 c y) (hn : num v ≤ num c) (h : ∀ u, u < n → (D v u ↔ D1 v u ∨ D2 c u)) : LowD es num up D v (min x y) := by
 refine ⟨by have := L.self; omega, ?_, ?_⟩
 ·intro u w d k
  rcases (h u (k.1.lt hr).1).1 d with d | d
  ·have := L.back u w d k; omega
  ·have := M.back u w d k; omega
 ·by_cases q : x ≤ y
  ·rw [Nat.min_eq_left q]
   exact L.some_.imp id fun ⟨u, w, d, k, e⟩ => ⟨u, w, (h u (k.1.lt hr).1).2 (.inl d), k, e⟩
  ·rw [Nat.min_eq_right (by omega)]
   rcases M.some_ with e | ⟨u, w, d, k, e⟩
   ·have := L.self; omega
   ·exact .inr ⟨u, w, (h u (k.1.lt hr).1).2 (.inr d), k, e⟩
structure Same (n : Nat) (num : Nat → Nat) (up : Nat → Option Nat) (ls : List Lw) : Prop where
 len : ls.length = n
 nums : ∀ v, v < n → (getL ls v).1 = (num v : Int)
 ups : ∀ v, v < n → upI (getL ls v).2.1 = up v
structure LowS (n : Nat) (es : List Pr) (num : Nat → Nat) (up : Nat → Option Nat) (D : Nat → Nat → Prop) (ls : List Lw) : Prop extends Same n num up ls where
 low : ∀ v, v < n → ∃ x : Nat, (getL ls v).2.2 = (x : Int) ∧ LowD es num up D v x
theorem adj_snoc {es : List Pr} {a c x y : Nat} : adj (es ++ [((a : Int), (c : Int))]) x y ↔ adj es x y ∨ isE a c x y := by
 have e : ∀ (x y : Nat), ((x : Int), (y : Int)) = ((a : Int), (c : Int)) ↔ x = a ∧ y = c := fun x y => by
  rw [Prod.mk.injEq]; omega
 simp only [adj, isE, List.mem_append, List.mem_singleton, e]
 constructor
 ·rintro ((h | h) | (h | h))
  ·exact .inl (.inl h)
  ·exact .inr (.inl h)
  ·exact .inl (.inr h)
  ·exact .inr (.inr ⟨h.2, h.1⟩)
 ·rintro ((h | h) | (h | h))
  ·exact .inl (.inl h)
  ·exact .inr (.inl h)
  ·exact .inl (.inr h)
  ·exact .inr (.inr ⟨h.2, h.1⟩)
theorem edgeB_S {n : Nat} {es : List Pr} {num : Nat → Nat} {up : Nat → Option Nat} {ls : List Lw} {a c : Nat} (han : a < n) (hcn : c < n) (hac : a ≠ c) (S : LowS n es num up (fun a b => a = b) ls) :
  LowS n (es ++ [((a : Int), (c : Int))]) num up (fun a b => a = b) (edgeB ls ((a : Int), (c : Int))) := by
 have hup : ∀ x y : Nat, x < n → ((getL ls x).2.1 = (y : Int) ↔ up x = some y) := fun x y hx => by rw [← S.ups x hx, upI_iff]
 have hK : Same n num up (edgeB ls ((a : Int), (c : Int))) :=
  ⟨by rw [edgeB_length]; exact S.len, fun v hv => by rw [(edgeB_keep ls _ v).1]; exact S.nums v hv, fun v hv => by rw [(edgeB_keep ls _ v).2]; exact S.ups v hv⟩
 refine ⟨hK, fun v hv => ?_⟩
 by_cases t : up a = some c ∨ up c = some a
 ·have hE : edgeB ls ((a : Int), (c : Int)) = ls := by
   simp only [edgeB, Int.toNat_natCast]
   rw [if_pos]
   rcases t with t | t
   ·exact .inl ((hup a c han).2 t)
   ·exact .inr ((hup c a hcn).2 t)
  rw [hE]
  obtain ⟨x, h1, h2⟩ := S.low v hv
  refine ⟨x, h1, h2.congr fun u w _ => ?_⟩
  simp only [Nt, adj_snoc]
  constructor
  ·rintro ⟨h | h, k1, k2⟩
   ·exact ⟨h, k1, k2⟩
   ·rcases h with ⟨rfl, rfl⟩ | ⟨rfl, rfl⟩ <;> rcases t with t | t <;> first | exact absurd t k1 | exact absurd t k2
  ·rintro ⟨h, k⟩; exact ⟨.inl h, k⟩
 ·have t1 : up a ≠ some c := fun h => t (.inl h)
  have t2 : up c ≠ some a := fun h => t (.inr h)
  have nt : ∀ u w, Nt (es ++ [((a : Int), (c : Int))]) up u w ↔ Nt es up u w ∨ isE a c u w := fun u w => by
   simp only [Nt, adj_snoc]
   constructor
   ·rintro ⟨h | h, k⟩
    ·exact .inl ⟨h, k⟩
    ·exact .inr h
   ·rintro (⟨h, k⟩ | h)
    ·exact ⟨.inl h, k⟩
    ·refine ⟨.inr h, ?_⟩
     rcases h with ⟨rfl, rfl⟩ | ⟨rfl, rfl⟩
     ·exact ⟨t1, t2⟩
     ·exact ⟨t2, t1⟩
  obtain ⟨x, h1, h2⟩ := S.low v hv
  obtain ⟨xa, ha1, ha2⟩ := S.low a han
  obtain ⟨xc, hc1, hc2⟩ := S.low c hcn
  have hE : (getL (edgeB ls ((a : Int), (c : Int))) v).2.2 = if v = c then min (xc : Int) (num a : Int) else if v = a then min (xa : Int) (num c : Int) else (x : Int) := by
   simp only [edgeB, Int.toNat_natCast]
   rw [if_neg (by rw [hup a c han, hup c a hcn]; exact t)]
   simp only [getL_set, List.length_set, S.len, han, hcn, and_true]
   by_cases e1 : v = c
   ·subst e1; simp [hac, hc1, S.nums a han]
   ·rw [if_neg (Ne.symm e1), if_neg e1]
    by_cases e2 : v = a
    ·subst e2; simp [ha1, S.nums c hcn]
    ·rw [if_neg (Ne.symm e2), if_neg e2, h1]
  rw [hE]
  by_cases e1 : v = c
  ·subst e1
   rw [if_pos rfl]
   refine ⟨min xc (num a), by omega, hc2.add fun w => ?_⟩
   rw [nt]
   constructor
   ·rintro (h | ⟨h, _⟩ | ⟨_, h⟩)
    ·exact .inl h
    ·exact absurd h.symm hac
    ·exact .inr h
   ·rintro (h | rfl)
    ·exact .inl h
    ·exact .inr (.inr ⟨rfl, rfl⟩)
  ·rw [if_neg e1]
   by_cases e2 : v = a
   ·subst e2
    rw [if_pos rfl]
    refine ⟨min xa (num c), by omega, ha2.add fun w => ?_⟩
    rw [nt]
    constructor
    ·rintro (h | ⟨_, h⟩ | ⟨h, _⟩)
     ·exact .inl h
     ·exact .inr h
     ·exact absurd h e1
    ·rintro (h | rfl)
     ·exact .inl h
     ·exact .inr (.inl ⟨rfl, rfl⟩)
   ·rw [if_neg e2]
    refine ⟨x, rfl, h2.congr fun u w d => ?_⟩
    subst d
    rw [nt]
    constructor
    ·rintro (h | ⟨h, _⟩ | ⟨h, _⟩)
     ·exact h
     ·exact absurd h e2
     ·exact absurd h e1
    ·exact .inl
theorem edges_S {n : Nat} {num : Nat → Nat} {up : Nat → Option Nat} : ∀ (rest es : List Pr) (ls : List Lw), InR n rest → LowS n es num up (fun a b => a = b) ls → LowS n (es ++ rest) num up (fun a b => a = b) (rest.foldl edgeB ls)
 | [], es, ls, _, S => by simpa using S
 | (a, c) :: rest, es, ls, hr, S => by
  have hp := hr (a, c) (by simp)
  simp only at hp
  obtain ⟨a, rfl⟩ := Int.eq_ofNat_of_zero_le hp.1
  obtain ⟨c, rfl⟩ := Int.eq_ofNat_of_zero_le (show 0 ≤ c by omega)
  have := edges_S rest (es ++ [((a : Int), (c : Int))]) _ (fun q hq => hr q (by simp [hq])) (edgeB_S (by omega) (by omega) (by omega) S)
  rw [List.foldl_cons]
  simpa using this
def DT_ (up : Nat → Option Nat) (T : List Nat) (v u : Nat) : Prop := u = v ∨ ∃ c ∈ T, up c = some v ∧ Anc up c u
theorem ups_S {n : Nat} {es : List Pr} {num : Nat → Nat} {up : Nat → Option Nat} (F : Fo n es num up) {ls : List Lw} : ∀ (T pre : List Nat), (∀ v, v < n → v ∈ pre ++ T) → (pre ++ T).Pairwise (fun a b => num a < num b) → (∀ v ∈ pre ++ T, v < n) →
  LowS n es num up (fun a b => a = b) ls → LowS n es num up (DT_ up T) (T.foldr (fun x y => upC y x) ls)
 | [], pre, _, _, _, S => by
  refine ⟨S.toSame, fun v hv => ?_⟩
  obtain ⟨x, h1, h2⟩ := S.low v hv
  refine ⟨x, h1, h2.self, fun u w d => ?_, ?_⟩
  ·rcases d with rfl | ⟨c, hc, _⟩
   ·exact h2.back _ w rfl
   ·simp at hc
  ·exact h2.some_.imp id fun ⟨u, w, d, k, e⟩ => ⟨u, w, .inl d.symm, k, e⟩
 | c :: T, pre, hall, hp, hlt, S0 => by
  have S := ups_S F T (pre ++ [c]) (by simpa using hall) (by simpa using hp) (by simpa using hlt) S0
  rw [List.foldr_cons]
  generalize T.foldr (fun x y => upC y x) ls = l1 at *
  have hcn : c < n := hlt c (by simp)
  have hK : Same n num up (upC l1 c) :=
   ⟨by rw [upC_length]; exact S.len, fun v hv => by rw [(upC_keep l1 _ v).1]; exact S.nums v hv, fun v hv => by rw [(upC_keep l1 _ v).2]; exact S.ups v hv⟩
  refine ⟨hK, fun v hv => ?_⟩
  obtain ⟨x, h1, h2⟩ := S.low v hv
  -- of c itself all is known
  have hkids : ∀ d, up d = some c → d < n → d ∈ T := fun d hd hdn => by
   have hm := hall d hdn
   have hlt' := (F.upa d c hdn hd).2
   rw [List.pairwise_append] at hp
   rw [List.mem_append, List.mem_cons] at hm
   rcases hm with hm | rfl | hm
   ·have := hp.2.2 d hm c (by simp); omega
   ·omega
   ·exact hm
  have hother : up c ≠ some v → LowD es num up (DT_ up (c :: T)) v x := fun hne => by
   refine ⟨h2.self, fun u w d => h2.back u w ?_, h2.some_.imp id fun ⟨u, w, d, k⟩ => ⟨u, w, ?_, k⟩⟩
   ·rcases d with rfl | ⟨d, hd, hd2, hd3⟩
    ·exact .inl rfl
    ·rw [List.mem_cons] at hd
     rcases hd with rfl | hd
     ·exact absurd hd2 hne
     ·exact .inr ⟨d, hd, hd2, hd3⟩
   ·exact d.imp id fun ⟨d, hd, hd2⟩ => ⟨d, List.mem_cons_of_mem _ hd, hd2⟩
  cases hu : up c with
  | none =>
   have : upC l1 c = l1 := by
    have := S.ups c hcn; rw [hu] at this; unfold upI at this
    simp only [upC]; rw [if_neg]; intro h; rw [if_pos h] at this; cases this
   rw [this]
   exact ⟨x, h1, hother (by rw [hu]; simp)⟩
  | some p =>
   have hpv := F.upa c p hcn hu
   have hpn := (hpv.1.lt F.rng).1
   obtain ⟨y, hy1, hy2⟩ := S.low c hcn
   obtain ⟨z, hz1, hz2⟩ := S.low p hpn
   have hup : (getL l1 c).2.1 = (p : Int) := upI_iff.1 ((S.ups c hcn).trans hu)
   have hE : (getL (upC l1 c) v).2.2 = if v = p then min (z : Int) (y : Int) else (x : Int) := by
    simp only [upC, hup]
    rw [if_pos (by omega), Int.toNat_natCast, getL_set, S.len]
    by_cases e : v = p
    ·subst e; simp [hpn, hz1, hy1]
    ·rw [if_neg (fun k => e k.1.symm), if_neg e, h1]
   rw [hE]
   by_cases e : v = p
   ·subst e
    rw [if_pos rfl]
    refine ⟨min z y, by omega, hz2.join F.rng hy2 (by omega) fun u qn => ?_⟩
    constructor
    ·rintro (rfl | ⟨d, hd, hd2, hd3⟩)
     ·exact .inl (.inl rfl)
     ·rw [List.mem_cons] at hd
      rcases hd with rfl | hd
      ·by_cases q : d = u
       ·subst q; exact .inr (.inl rfl)
       ·obtain ⟨k, hk1, hk2⟩ := hd3.child q
        exact .inr (.inr ⟨k, hkids k hk1 (F.num_le hk2 qn).1, hk1, hk2⟩)
      ·exact .inl (.inr ⟨d, hd, hd2, hd3⟩)
    ·rintro (h | h)
     ·exact h.imp id fun ⟨d, hd, hd2⟩ => ⟨d, List.mem_cons_of_mem _ hd, hd2⟩
     ·rcases h with rfl | ⟨d, hd, hd2, hd3⟩
      ·exact .inr ⟨u, by simp, hu, .refl _⟩
      ·exact .inr ⟨c, by simp, hu, (Anc.one hd2).trans hd3⟩
   ·rw [if_neg e]
    exact ⟨x, rfl, hother (by rw [hu]; exact fun h => e (by injection h with h; exact h.symm))⟩
end Go.Fw
namespace Go.Fw
set_option maxRecDepth 10000
structure SearchS (n : Nat) (es : List Pr) (ls : List Lw) (o : List Nat) (num : Nat → Nat) (up : Nat → Option Nat) : Prop extends LowS n es num up (Anc up) ls where
 fo : Fo n es num up
 ord : ∀ (k v : Nat), o[k]? = some v → num v = k + 1
 mem : ∀ v, v ∈ o ↔ v < n
 nd : o.Nodup
 olen : o.length = n
 upr : ∀ v, v < n → -1 ≤ (getL ls v).2.1 ∧ (getL ls v).2.1 < (n : Int)
theorem DT_all {n : Nat} {es : List Pr} {num : Nat → Nat} {up : Nat → Option Nat} (F : Fo n es num up) {T : List Nat} (hT : ∀ v, v < n → v ∈ T) {v u : Nat} (hu : u < n) : DT_ up T v u ↔ Anc up v u := by
 constructor
 ·rintro (rfl | ⟨c, _, h1, h2⟩)
  ·exact .refl _
  ·exact (Anc.one h1).trans h2
 ·intro h
  by_cases e : v = u
  ·exact .inl e.symm
  ·obtain ⟨c, h1, h2⟩ := h.child e
   exact .inr ⟨c, hT c (F.num_le h2 hu).1, h1, h2⟩
theorem LowD.congrD {n : Nat} {es : List Pr} (hr : InR n es) {num : Nat → Nat} {up : Nat → Option Nat} {D D' : Nat → Nat → Prop} {v x : Nat} (L : LowD es num up D v x) (h : ∀ u, u < n → (D' v u ↔ D v u)) : LowD es num up D' v x :=
 ⟨L.self, fun u w d k => L.back u w ((h u (k.1.lt hr).1).1 d) k, L.some_.imp id fun ⟨u, w, d, k, e⟩ => ⟨u, w, (h u (k.1.lt hr).1).2 d, k, e⟩⟩
theorem lowM_S {n : Nat} {es : List Pr} (hr : InR n es) : ∃ num up, SearchS n es (lowM n es).1 (lowM n es).2 num up := by
 obtain ⟨C, hall⟩ := metM_C hr n (Nat.le_refl _)
 have F := metM_F hr n (Nat.le_refl _)
 have fo := metM_fo hr
 have hmem : ∀ v, v ∈ (metM n es n).2 ↔ v < n := fun v => ⟨C.lt v, hall v⟩
 have hnum : ∀ (k v : Nat), (metM n es n).2[k]? = some v → numL (metM n es n).1 v = k + 1 := fun k v h => by unfold numL; rw [(F.num k v h).1]; simp
 have S0 : LowS n [] (numL (metM n es n).1) (upL (metM n es n).1) (fun a b => a = b) (metM n es n).1 := by
  refine ⟨⟨C.len, fun v hv => ?_, fun v hv => rfl⟩, fun v hv => ?_⟩
  ·obtain ⟨k, hk⟩ := List.mem_iff_getElem?.1 (hall v hv)
   rw [hnum k v hk, (F.num k v hk).1]
  ·obtain ⟨k, hk⟩ := List.mem_iff_getElem?.1 (hall v hv)
   refine ⟨k + 1, by rw [(F.num k v hk).2], ⟨by rw [hnum k v hk]; exact Nat.le_refl _, fun u w _ h => ?_, .inl (hnum k v hk).symm⟩⟩
   rcases h.1 with h | h <;> simp at h
 have S1 := edges_S es [] _ hr S0
 rw [List.nil_append] at S1
 have hpair : ((metM n es n).2).Pairwise fun a b => numL (metM n es n).1 a < numL (metM n es n).1 b := by
  rw [List.pairwise_iff_getElem]
  intro i j hi hj hij
  rw [hnum i _ (List.getElem?_eq_getElem hi), hnum j _ (List.getElem?_eq_getElem hj)]; omega
 have S2 := ups_S fo (metM n es n).2 [] hall hpair C.lt S1
 have hlow : (lowM n es).1 = (metM n es n).2.foldr (fun x y => upC y x) (es.foldl edgeB (metM n es n).1) := by
  rw [lowM]; simp only [List.foldl_reverse]
 refine ⟨numL (metM n es n).1, upL (metM n es n).1, ⟨⟨?_, fun v hv => ?_⟩, fo, hnum, hmem, C.nd, ?_, fun v hv => ?_⟩⟩
 ·rw [hlow]; exact S2.toSame
 ·rw [hlow]
  obtain ⟨x, h1, h2⟩ := S2.low v hv
  exact ⟨x, h1, h2.congrD hr fun u hu => (DT_all fo hall hu).symm⟩
 ·have h1 := C.toLowI.olen
  have h2 := (List.nodup_range (n := n)).length_le_of_subset (l₂ := (metM n es n).2) fun v hv => hall v (List.mem_range.1 hv)
  simp at h2
  show (metM n es n).2.length = n
  omega
 ·rw [hlow]
  obtain ⟨k, hk⟩ := List.mem_iff_getElem?.1 (hall v hv)
  have e : (getL ((metM n es n).2.foldr (fun x y => upC y x) (es.foldl edgeB (metM n es n).1)) v).2.1 = (getL (metM n es n).1 v).2.1 := by
   rw [← hlow, lowM, (ups_keep _ _ v).2, (edges_keep _ _ v).2]
  rw [e]
  refine ⟨?_, C.up v hv⟩
  rcases F.up k v hk with h | ⟨j, u, _, _, h, _⟩ <;> rw [h] <;> omega
end Go.Fw
namespace Go.Fw
open Go.Proofs
set_option maxHeartbeats 8000000
set_option maxRecDepth 10000
theorem LR.len {h : AHeap} {v : Value} {ls : List Lw} (r : LR h v ls) (g : AHeap) : aLen Try.prog g 89 v = some (.int .i64 ls.length) := by
 obtain ⟨a, c, rfl, _⟩ := r.sl; simp [aLen, Try.underlying89]
def lA3 (v : Value) (i : Nat) : Addr := elemAddr v (i * 3)
theorem LR.get {h : AHeap} {v : Value} {ls : List Lw} (r : LR h v ls) {i : Nat} {p : Lw} (hp : ls[i]? = some p) :
  h.read (aadd (lA3 v i) 0) = some (.int .i64 p.1) ∧ h.read (aadd (lA3 v i) 1) = some (.int .i64 p.2.1) ∧ h.read (aadd (lA3 v i) 2) = some (.int .i64 p.2.2) := by
 obtain ⟨f1, f2, f3⟩ := flatL_get ls i p hp
 have g1 := CS.get r _ _ f1
 have g2 := CS.get r _ _ f2
 have g3 := CS.get r _ _ f3
 obtain ⟨a, c, rfl, hs⟩ := r.sl
 have hi := (List.getElem?_eq_some_iff.1 hp).1
 obtain ⟨a, rfl⟩ := Option.isSome_iff_exists.1 (hs (by omega))
 simp only [lA3, elemAddr_mk, aadd] at *
 exact ⟨by simpa using g1, by simpa [Nat.add_assoc] using g2, by simpa [Nat.add_assoc] using g3⟩
end Go.Fw
namespace Go.Fw
open Go.Proofs
set_option maxHeartbeats 8000000
set_option maxRecDepth 10000
def GL (h : AHeap) (v : Value) (ps : List Lw) : Prop := GS 3 h v ps.length (flatL ps)
theorem GL.le {h h' : AHeap} {v : Value} {ps : List Lw} (g : GL h v ps) (e : Le h h') : GL h' v ps := GS.le g e
end Go.Fw
namespace Go.Fw
set_option maxRecDepth 10000
theorem low_lt {n : Nat} {es : List Pr} {ls : List Lw} {o : List Nat} {num : Nat → Nat} {up : Nat → Option Nat} (S : SearchS n es ls o num up) {v u : Nat} (hv : v < n) (hu : up v = some u) : ((getL ls v).2.2 < (getL ls u).1 ↔ Bey es num up u v) := by
 have hun := ((S.fo.upa v u hv hu).1.lt S.fo.rng).1
 obtain ⟨x, h1, h2⟩ := S.low v hv
 rw [h1, S.nums u hun, ← S.fo.low_bey hv hu h2]; omega
theorem up_of {n : Nat} {es : List Pr} {ls : List Lw} {o : List Nat} {num : Nat → Nat} {up : Nat → Option Nat} (S : SearchS n es ls o num up) {v : Nat} (hv : v < n) : (0 ≤ (getL ls v).2.1 ∧ ∃ u, up v = some u ∧ (getL ls v).2.1 = (u : Int)) ∨ (¬ 0 ≤ (getL ls v).2.1 ∧ up v = none) := by
 by_cases c : 0 ≤ (getL ls v).2.1
 ·obtain ⟨u, hu⟩ := Int.eq_ofNat_of_zero_le c
  exact .inl ⟨c, u, by rw [← S.ups v hv, hu, upI_nat], hu⟩
 ·exact .inr ⟨c, by rw [← S.ups v hv]; unfold upI; rw [if_neg c]⟩
def hdN (n : Nat) (es : List Pr) (v : Nat) : Nat := ((hdM (lowM n es).1 (lowM n es).2 n).getD v 0).toNat
theorem hd_fold {n : Nat} {es : List Pr} {ls : List Lw} {o : List Nat} {num : Nat → Nat} {up : Nat → Option Nat} (S : SearchS n es ls o num up) : ∀ k, k ≤ n →
  ∃ hd : Nat → Nat, (∀ (j v : Nat), j < k → o[j]? = some v → ((o.take k).foldl (hdS ls) (List.replicate n 0)).getD v 0 = (hd v : Int) ∧
   (up v = none → hd v = v) ∧ (∀ u, up v = some u → Bey es num up u v → hd v = hd u) ∧ (∀ u, up v = some u → ¬ Bey es num up u v → hd v = v)) := by
 intro k
 induction k with
 | zero => intro _; exact ⟨id, fun j v h => by omega⟩
 | succ k ih =>
  intro hk
  obtain ⟨hd, H⟩ := ih (by omega)
  have hko : k < o.length := by rw [S.olen]; omega
  have htk : o.take (k + 1) = o.take k ++ [o[k]] := List.take_succ_eq_append_getElem hko
  have hokk := getElem?_of hko
  generalize o[k] = w at htk hokk
  have hwn := (S.mem w).1 (List.mem_of_getElem? hokk)
  have hl : ((o.take k).foldl (hdS ls) (List.replicate n 0)).length = n := by rw [hdF_length]; simp
  have hstep : (o.take (k + 1)).foldl (hdS ls) (List.replicate n 0) = hdS ls ((o.take k).foldl (hdS ls) (List.replicate n 0)) w := by rw [htk, List.foldl_append]; rfl
  rw [hstep]
  generalize (o.take k).foldl (hdS ls) (List.replicate n 0) = L at *
  -- earlier ones are others
  have hne : ∀ (j v : Nat), j < k → o[j]? = some v → v ≠ w := fun j v hj hv e => by
   subst e
   have := (List.getElem?_inj (List.getElem?_eq_some_iff.1 hv).1 S.nd).1 (hv.trans hokk.symm)
   omega
  have huk : ∀ u, up w = some u → ∃ j, j < k ∧ o[j]? = some u := fun u hu => by
   obtain ⟨h1, h2⟩ := S.fo.upa w u hwn hu
   obtain ⟨j, hj⟩ := List.mem_iff_getElem?.1 ((S.mem u).2 (h1.lt S.fo.rng).1)
   have := S.ord j u hj
   have := S.ord k w hokk
   exact ⟨j, by omega, hj⟩
  let x : Nat := match up w with
   | none => w
   | some u => if 0 ≤ (getL ls w).2.1 ∧ (getL ls w).2.2 < (getL ls (getL ls w).2.1.toNat).1 then hd u else w
  have hL : (hdS ls L w).getD w 0 = (x : Int) ∧ (∀ v, v ≠ w → (hdS ls L w).getD v 0 = L.getD v 0) ∧ (up w = none → x = w) ∧ (∀ u, up w = some u → Bey es num up u w → x = hd u) ∧ (∀ u, up w = some u → ¬ Bey es num up u w → x = w) := by
   rcases up_of S hwn with ⟨c, u, hu, he⟩ | ⟨c, hu⟩
   ·have hx : x = if 0 ≤ (getL ls w).2.1 ∧ (getL ls w).2.2 < (getL ls (getL ls w).2.1.toNat).1 then hd u else w := by show (match up w with | none => w | some u => _) = _; rw [hu]
    have hb := low_lt S hwn hu
    by_cases q : Bey es num up u w
    ·have hc : 0 ≤ (getL ls w).2.1 ∧ (getL ls w).2.2 < (getL ls (getL ls w).2.1.toNat).1 := ⟨c, by rw [he, Int.toNat_natCast]; exact hb.2 q⟩
     obtain ⟨j, hj1, hj2⟩ := huk u hu
     have hu0 := (H j u hj1 hj2).1
     have huw := hne j u hj1 hj2
     rw [hx, if_pos hc]
     refine ⟨?_, fun v hv => ?_, fun e => (by rw [hu] at e; cases e), fun u' e _ => (by rw [hu] at e; injection e with e; rw [e]), fun u' e nb => (by rw [hu] at e; injection e with e; subst e; exact absurd q nb)⟩
     ·unfold hdS; rw [if_pos hc, getD_set, if_pos ⟨rfl, by simp [hl, hwn]⟩, he, Int.toNat_natCast, getD_set, if_neg (fun h => huw h.1.symm)]; exact hu0
     ·unfold hdS; rw [if_pos hc, getD_set, if_neg (fun h => hv h.1.symm), getD_set, if_neg (fun h => hv h.1.symm)]
    ·have hc : ¬ (0 ≤ (getL ls w).2.1 ∧ (getL ls w).2.2 < (getL ls (getL ls w).2.1.toNat).1) := fun h => q (hb.1 (by have := h.2; rwa [he, Int.toNat_natCast] at this))
     rw [hx, if_neg hc]
     refine ⟨?_, fun v hv => ?_, fun _ => rfl, fun u' e nb => (by rw [hu] at e; injection e with e; subst e; exact absurd nb q), fun u' e _ => rfl⟩
     ·unfold hdS; rw [if_neg hc, getD_set, if_pos ⟨rfl, by omega⟩]
     ·unfold hdS; rw [if_neg hc, getD_set, if_neg (fun h => hv h.1.symm)]
   ·have hx : x = w := by show (match up w with | none => w | some u => _) = _; rw [hu]
    have hc : ¬ (0 ≤ (getL ls w).2.1 ∧ (getL ls w).2.2 < (getL ls (getL ls w).2.1.toNat).1) := fun h => c h.1
    rw [hx]
    refine ⟨?_, fun v hv => ?_, fun _ => rfl, fun u' e => (by rw [hu] at e; cases e), fun u' e => (by rw [hu] at e; cases e)⟩
    ·unfold hdS; rw [if_neg hc, getD_set, if_pos ⟨rfl, by omega⟩]
    ·unfold hdS; rw [if_neg hc, getD_set, if_neg (fun h => hv h.1.symm)]
  obtain ⟨q1, q2, q3, q4, q5⟩ := hL
  refine ⟨fun v => if v = w then x else hd v, fun j v hj hv => ?_⟩
  by_cases e : v = w
  ·subst e
   simp only [if_pos]
   refine ⟨q1, q3, fun u hu hb => ?_, q5⟩
   obtain ⟨i, hi1, hi2⟩ := huk u hu
   rw [if_neg (hne i u hi1 hi2)]; exact q4 u hu hb
  ·have hjk : j < k := by
    rcases Nat.lt_or_ge j k with h | h
    ·exact h
    ·have : j = k := by omega
     subst this; rw [hokk] at hv; injection hv with hv; exact absurd hv.symm e
   obtain ⟨h1, h2, h3, h4⟩ := H j v hjk hv
   simp only [if_neg e]
   refine ⟨by rw [q2 v e]; exact h1, h2, fun u hu hb => ?_, h4⟩
   have hvn := (S.mem v).1 (List.mem_of_getElem? hv)
   obtain ⟨h5, h6⟩ := S.fo.upa v u hvn hu
   have : u ≠ w := fun e' => by
    subst e'
    have := S.ord k u hokk
    have := S.ord j v hv
    omega
   rw [if_neg this]; exact h3 u hu hb
theorem hdN_S {n : Nat} {es : List Pr} {num : Nat → Nat} {up : Nat → Option Nat} (S : SearchS n es (lowM n es).1 (lowM n es).2 num up) : Fo.HeadS n es num up (hdN n es) ∧ ∀ v, v < n → (hdM (lowM n es).1 (lowM n es).2 n).getD v 0 = (hdN n es v : Int) := by
 obtain ⟨hd, H⟩ := hd_fold S n (Nat.le_refl _)
 rw [List.take_of_length_le (by rw [S.olen]; exact Nat.le_refl _)] at H
 have ex : ∀ v, v < n → ∃ j, j < n ∧ (lowM n es).2[j]? = some v := fun v hv => by
  obtain ⟨j, hj⟩ := List.mem_iff_getElem?.1 ((S.mem v).2 hv)
  exact ⟨j, by have := (List.getElem?_eq_some_iff.1 hj).1; have := S.olen; omega, hj⟩
 have e : ∀ v, v < n → hdN n es v = hd v := fun v hv => by
  obtain ⟨j, h1, h2⟩ := ex v hv
  have := (H j v h1 h2).1
  unfold hdN hdM; rw [this]; simp
 have ev : ∀ v, v < n → (hdM (lowM n es).1 (lowM n es).2 n).getD v 0 = (hdN n es v : Int) := fun v hv => by
  obtain ⟨j, h1, h2⟩ := ex v hv
  have := (H j v h1 h2).1
  rw [e v hv]; exact this
 refine ⟨⟨fun v hv hu => ?_, fun v u hv hu hb => ?_, fun v u hv hu hb => ?_⟩, ev⟩
 ·obtain ⟨j, h1, h2⟩ := ex v hv
  rw [e v hv]; exact (H j v h1 h2).2.1 hu
 ·obtain ⟨j, h1, h2⟩ := ex v hv
  rw [e v hv, e u ((S.fo.upa v u hv hu).1.lt S.fo.rng).1]; exact (H j v h1 h2).2.2.1 u hu hb
 ·obtain ⟨j, h1, h2⟩ := ex v hv
  rw [e v hv]; exact (H j v h1 h2).2.2.2 u hu hb
theorem keyE_hd {n : Nat} {es : List Pr} {num : Nat → Nat} {up : Nat → Option Nat} (S : SearchS n es (lowM n es).1 (lowM n es).2 num up) {a c : Nat} (ha : a < n) (hc : c < n) : keyE n es ((a : Int), (c : Int)) = (hdN n es (Fo.lower num a c) : Int) := by
 have hl : lowE (lowM n es).1 ((a : Int), (c : Int)) = Fo.lower num a c := by
  simp only [lowE, Int.toNat_natCast, Fo.lower, S.nums a ha, S.nums c hc]
  by_cases q : num c < num a
  ·rw [if_pos (by omega), if_pos q]
  ·rw [if_neg (by omega), if_neg q]
 have hln : Fo.lower num a c < n := by unfold Fo.lower; split <;> assumption
 rw [keyE, hl, (hdN_S S).2 _ hln]
def pairOf (a b : Nat) : Pr := (min (a : Int) (b : Int), max (a : Int) (b : Int))
theorem pairOf_comm (a b : Nat) : pairOf a b = pairOf b a := by unfold pairOf; rw [Int.min_comm, Int.max_comm]
theorem pairOf_of {a b : Nat} : pairOf a b = (((min a b : Nat) : Int), ((max a b : Nat) : Int)) := by
 unfold pairOf; rw [Prod.mk.injEq]; omega
theorem lower_comm {num : Nat → Nat} {a b : Nat} (h : num a ≠ num b) : Fo.lower num a b = Fo.lower num b a := by
 unfold Fo.lower
 by_cases q : num b < num a
 ·rw [if_pos q, if_neg (by omega)]
 ·rw [if_neg q, if_pos (by omega)]
theorem key_pair {n : Nat} {es : List Pr} {num : Nat → Nat} {up : Nat → Option Nat} (S : SearchS n es (lowM n es).1 (lowM n es).2 num up) {a b : Nat} (h : adj es a b) : keyE n es (pairOf a b) = (hdN n es (Fo.lower num a b) : Int) := by
 have hne := S.fo.num_ne h
 have hl := h.lt S.fo.rng
 rw [pairOf_of]
 rcases Nat.le_total a b with q | q
 ·rw [Nat.min_eq_left q, Nat.max_eq_right q]; exact keyE_hd S hl.1 hl.2
 ·rw [Nat.min_eq_right q, Nat.max_eq_left q, keyE_hd S hl.2 hl.1, lower_comm hne.symm]
theorem key_iff {n : Nat} {es : List Pr} (hr : InR n es) {v a b : Nat} (ha : adj es v a) (hb : adj es v b) : keyE n es (pairOf v a) = keyE n es (pairOf v b) ↔ Cn (wo v) es a b := by
 obtain ⟨num, up, S⟩ := lowM_S hr
 rw [key_pair S ha, key_pair S hb, ← S.fo.block_iff (hdN_S S).1 ha hb]
 constructor
 ·intro h; exact Int.ofNat.inj h
 ·intro h; rw [h]
theorem key_link {n : Nat} {es : List Pr} (hr : InR n es) {α : Type} (of : Pr → α) (hof : ∀ v a b, adj es v a → adj es v b → Cn (wo v) es a b → of (pairOf v a) = of (pairOf v b)) {p q : Pr} (hp : p ∈ es) (hq : q ∈ es) (h : keyE n es p = keyE n es q) : of p = of q := by
 obtain ⟨num, up, S⟩ := lowM_S hr
 have ex : ∀ p ∈ es, ∃ a b : Nat, adj es a b ∧ p = pairOf a b := fun p hp => by
  have hpos := hr p hp
  obtain ⟨x, y⟩ := p
  simp only at hpos
  obtain ⟨a, rfl⟩ := Int.eq_ofNat_of_zero_le hpos.1
  obtain ⟨c, rfl⟩ := Int.eq_ofNat_of_zero_le (show 0 ≤ y by omega)
  exact ⟨a, c, .inl hp, by unfold pairOf; rw [Int.min_eq_left (by omega), Int.max_eq_right (by omega)]⟩
 obtain ⟨a, b, hab, rfl⟩ := ex p hp
 obtain ⟨c, d, hcd, rfl⟩ := ex q hq
 rw [key_pair S hab, key_pair S hcd] at h
 exact S.fo.link2 (hdN_S S).1 (fun x y => of (pairOf x y)) (fun x y => by rw [pairOf_comm]) hof hab hcd (Int.ofNat.inj h)
end Go.Fw
