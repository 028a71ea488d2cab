/- A text of the proof. -/
import Derived.Test.YtnaahaldkpdjlaaFwLT10
import Derived.Test.YtnaahaldkpdjlaaFwLZ10
import Derived.Test.YtnaahaldkpdjlaaFwLW3
import Derived.Test.YtnaahaldkpdjlaaFwLT7
import Derived.Test.YtnaahaldkpdjlaaFwLW4
import Derived.Test.YtnaahaldkpdjlaaFwLG1
import Derived.Test.YtnaahaldkpdjlaaFwLT5
set_option linter.unusedSimpArgs false
set_option linter.unusedVariables false
namespace Go.Fw
set_option maxRecDepth 10000
attribute [local instance] Classical.propDecidable
def rowE (n : Nat) : List Pr := (List.range (n - 1)).map fun (a : Nat) => ((a : Int), ((a + 1 : Nat) : Int))
theorem rowE_length (n : Nat) : (rowE n).length = n - 1 := by simp [rowE]
theorem mem_rowE {n : Nat} {p : Pr} : p ∈ rowE n ↔ ∃ a : Nat, a + 1 < n ∧ p = ((a : Int), ((a + 1 : Nat) : Int)) := by
 rw [rowE, List.mem_map]
 constructor
 ·rintro ⟨a, h, rfl⟩; rw [List.mem_range] at h; exact ⟨a, by omega, rfl⟩
 ·rintro ⟨a, h, rfl⟩; exact ⟨a, by rw [List.mem_range]; omega, rfl⟩
theorem mem_rowE' {n a b : Nat} : ((a : Int), (b : Int)) ∈ rowE n ↔ a + 1 = b ∧ b < n := by
 rw [mem_rowE]
 constructor
 ·rintro ⟨c, h, e⟩
  have h1 := congrArg Prod.fst e
  have h2 := congrArg Prod.snd e
  simp only at h1 h2; omega
 ·rintro ⟨rfl, h⟩; exact ⟨a, h, rfl⟩
theorem adj_row {n x y : Nat} : adj (rowE n) x y ↔ (x + 1 = y ∧ y < n) ∨ (y + 1 = x ∧ x < n) := by
 rw [adj, mem_rowE', mem_rowE']
theorem row_in (n : Nat) : InR n (rowE n) := fun p hp => by
 obtain ⟨a, h, rfl⟩ := mem_rowE.1 hp
 simp only; omega
theorem row_pw (n : Nat) : (rowE n).Pairwise fun x y => x.1 < y.1 ∨ x.1 = y.1 ∧ x.2 < y.2 := by
 rw [rowE, List.pairwise_map]
 exact List.pairwise_lt_range.imp fun {a b} h => .inl (by simp only; omega)
theorem row_right {n : Nat} (h : n ≤ 200) : RightG ⟨(n : Int), rowE n⟩ := RightG.of h (by rw [rowE_length]; omega) (row_in n) (asc_pair.2 (row_pw n))
end Go.Fw
namespace Go.Fw
open Go.Proofs
attribute [local irreducible] KO4 KO3 KO2 KO1 KO KN KX KE VK KCond KDraw KCall KLoop
set_option maxHeartbeats 16000000
set_option maxRecDepth 10000
structure PermOK (ps : List Int) : Prop where
 len : ps.length ≤ 200
 rng : ∀ x ∈ ps, 0 ≤ x ∧ x < (ps.length : Int)
 nd : ps.Nodup
def permF (ps : List Int) (a : Nat) : Nat := (ps.getD a 0).toNat
theorem PermOK.get {ps : List Int} (k : PermOK ps) {a : Nat} (ha : a < ps.length) : ps.getD a 0 = (permF ps a : Int) ∧ permF ps a < ps.length := by
 have hg : ps.getD a 0 = ps[a] := getD_of ha
 obtain ⟨h1, h2⟩ := k.rng _ (List.getElem_mem ha)
 rw [permF, hg]; omega
theorem PermOK.inj {ps : List Int} (k : PermOK ps) {a b : Nat} (ha : a < ps.length) (hb : b < ps.length) (e : permF ps a = permF ps b) : a = b := by
 have h1 := (k.get ha).1
 have h2 := (k.get hb).1
 rw [getD_of ha] at h1
 rw [getD_of hb] at h2
 have nd := k.nd
 rw [List.Nodup, List.pairwise_iff_getElem] at nd
 rcases Nat.lt_trichotomy a b with h | h | h
 ·exact absurd (by rw [h1, h2, e]) (nd a b ha hb h)
 ·exact h
 ·exact absurd (by rw [h1, h2, e]) (nd b a hb ha h)
theorem PermOK.surj {ps : List Int} (k : PermOK ps) {x : Nat} (hx : x < ps.length) : ∃ a, a < ps.length ∧ permF ps a = x := by
 have hm : (x : Int) ∈ ps := Classical.byContradiction fun hn => by
  have nd : ((x : Int) :: ps).Nodup := List.nodup_cons.2 ⟨hn, k.nd⟩
  have hs : ((x : Int) :: ps) ⊆ (List.range ps.length).map fun (i : Nat) => (i : Int) := fun y hy => by
   rw [List.mem_map]
   rcases List.mem_cons.1 hy with rfl | hy
   ·exact ⟨x, List.mem_range.2 hx, rfl⟩
   ·have := k.rng y hy; exact ⟨y.toNat, List.mem_range.2 (by omega), by omega⟩
  have := nd.length_le_of_subset hs
  simp at this
  omega
 obtain ⟨a, ha, e⟩ := List.mem_iff_getElem.1 hm
 have := (k.get ha).1
 rw [getD_of ha, e] at this
 exact ⟨a, ha, by omega⟩
end Go.Fw
namespace Go.Fw
set_option maxRecDepth 10000
attribute [local instance] Classical.propDecidable
structure IsoG (n : Nat) (es fs : List Pr) (π : Nat → Nat) : Prop where
 r1 : InR n es
 r2 : InR n fs
 lt : ∀ a, a < n → π a < n
 inj : ∀ a b, a < n → b < n → π a = π b → a = b
 surj : ∀ x, x < n → ∃ a, a < n ∧ π a = x
 adj : ∀ a b, a < n → b < n → (adj fs (π a) (π b) ↔ adj es a b)
namespace IsoG
variable {n : Nat} {es fs : List Pr} {π : Nat → Nat}
theorem inv (I : IsoG n es fs π) : ∃ σ, IsoG n fs es σ ∧ (∀ a, a < n → σ (π a) = a) ∧ ∀ x, x < n → π (σ x) = x := by
 let σ : Nat → Nat := fun x => if h : ∃ a, a < n ∧ π a = x then Classical.choose h else 0
 have hs : ∀ x, x < n → σ x < n ∧ π (σ x) = x := fun x hx => by
  have h := I.surj x hx
  have := Classical.choose_spec h
  simp only [σ, dif_pos h]; exact this
 have h1 : ∀ a, a < n → σ (π a) = a := fun a ha => I.inj _ _ (hs _ (I.lt a ha)).1 ha (hs _ (I.lt a ha)).2
 exact ⟨σ, ⟨I.r2, I.r1, fun a ha => (hs a ha).1, fun a b ha hb e => by rw [← (hs a ha).2, ← (hs b hb).2, e], fun x hx => ⟨π x, I.lt x hx, h1 x hx⟩,
  fun a b ha hb => by rw [← I.adj _ _ (hs a ha).1 (hs b hb).1, (hs a ha).2, (hs b hb).2]⟩, h1, fun x hx => (hs x hx).2⟩
theorem cn {on on' : Nat → Bool} (I : IsoG n es fs π) (ho : ∀ x, x < n → on' (π x) = on x) {a b : Nat} (ha : a < n) (h : Cn on es a b) : Cn on' fs (π a) (π b) := by
 induction h with
 | refl h => exact .refl (by rw [ho _ ha]; exact h)
 | @step x y k e o ih =>
  obtain ⟨h1, h2⟩ := e.lt I.r1
  exact .step ih ((I.adj _ _ h1 h2).2 e) (by rw [ho _ h2]; exact o)
theorem cn_iff {on on' : Nat → Bool} (I : IsoG n es fs π) (ho : ∀ x, x < n → on' (π x) = on x) {a b : Nat} (ha : a < n) (hb : b < n) : Cn on' fs (π a) (π b) ↔ Cn on es a b := by
 refine ⟨fun h => ?_, I.cn ho ha⟩
 obtain ⟨σ, J, h1, h2⟩ := I.inv
 have := J.cn (on := on') (on' := on) (fun x hx => by rw [← ho _ (J.lt x hx), h2 x hx]) (I.lt a ha) h
 rwa [h1 a ha, h1 b hb] at this
theorem wo (I : IsoG n es fs π) {v a b : Nat} (hv : v < n) (ha : a < n) (hb : b < n) : Cn (Go.Fw.wo (π v)) fs (π a) (π b) ↔ Cn (Go.Fw.wo v) es a b :=
 I.cn_iff (fun x hx => by
  by_cases e : x = v
  ·subst e; simp [Go.Fw.wo]
  ·rw [wo_ne e, wo_ne fun h => e (I.inj _ _ hx hv h)]) ha hb
theorem con (I : IsoG n es fs π) {a b : Nat} (ha : a < n) (hb : b < n) : Con fs (π a) (π b) ↔ Con es a b := I.cn_iff (fun _ _ => rfl) ha hb
theorem cut2 (I : IsoG n es fs π) {v : Nat} (hv : v < n) : Fo.Cut2 fs (π v) ↔ Fo.Cut2 es v := by
 constructor
 ·rintro ⟨a, b, ha, hb, h⟩
  obtain ⟨x, hx, rfl⟩ := I.surj a (ha.lt I.r2).2
  obtain ⟨y, hy, rfl⟩ := I.surj b (hb.lt I.r2).2
  exact ⟨x, y, (I.adj _ _ hv hx).1 ha, (I.adj _ _ hv hy).1 hb, fun k => h ((I.wo hv hx hy).2 k)⟩
 ·rintro ⟨a, b, ha, hb, h⟩
  have h1 := (ha.lt I.r1).2
  have h2 := (hb.lt I.r1).2
  exact ⟨π a, π b, (I.adj _ _ hv h1).2 ha, (I.adj _ _ hv h2).2 hb, fun k => h ((I.wo hv h1 h2).1 k)⟩
end IsoG
def mapE (π : Nat → Nat) (p : Pr) : Pr := pairOf (π p.1.toNat) (π p.2.toNat)
theorem mapE_pair {π : Nat → Nat} {a b : Nat} : mapE π (pairOf a b) = pairOf (π a) (π b) := by
 rw [pairOf_of, mapE]; simp only [Int.toNat_natCast]
 rcases Nat.le_total a b with h | h
 ·rw [Nat.min_eq_left h, Nat.max_eq_right h]
 ·rw [Nat.min_eq_right h, Nat.max_eq_left h, pairOf_comm]
theorem pair_ex {n : Nat} {es : List Pr} (hr : InR n es) {p : Pr} (hp : p ∈ es) : ∃ a b : Nat, a < n ∧ b < n ∧ adj es a b ∧ p = pairOf a b := by
 obtain ⟨a, c, rfl, hac, hcn, h⟩ := ends hr hp
 exact ⟨a, c, by omega, hcn, h, by rw [pairOf_of, Nat.min_eq_left (by omega), Nat.max_eq_right (by omega)]⟩
namespace IsoG
variable {n : Nat} {es fs : List Pr} {π : Nat → Nat}
theorem mem (I : IsoG n es fs π) {p : Pr} (hp : p ∈ es) : mapE π p ∈ fs := by
 obtain ⟨a, b, ha, hb, h, rfl⟩ := pair_ex I.r1 hp
 rw [mapE_pair]; exact adj_mem' I.r2 ((I.adj _ _ ha hb).2 h)
theorem key1 (I : IsoG n es fs π) {p q : Pr} (hp : p ∈ es) (hq : q ∈ es) (h : keyE n es p = keyE n es q) : keyE n fs (mapE π p) = keyE n fs (mapE π q) := by
 refine key_link I.r1 (fun p => keyE n fs (mapE π p)) (fun v a b ha hb k => ?_) hp hq h
 have hv := (ha.lt I.r1).1
 have h1 := (ha.lt I.r1).2
 have h2 := (hb.lt I.r1).2
 show keyE n fs (mapE π (pairOf v a)) = keyE n fs (mapE π (pairOf v b))
 rw [mapE_pair, mapE_pair]
 exact (key_iff I.r2 ((I.adj _ _ hv h1).2 ha) ((I.adj _ _ hv h2).2 hb)).2 ((I.wo hv h1 h2).2 k)
theorem back {σ : Nat → Nat} (I : IsoG n es fs π) (h1 : ∀ a, a < n → σ (π a) = a) {p : Pr} (hp : p ∈ es) : mapE σ (mapE π p) = p := by
 obtain ⟨a, b, ha, hb, h, rfl⟩ := pair_ex I.r1 hp
 rw [mapE_pair, mapE_pair, h1 a ha, h1 b hb]
theorem key (I : IsoG n es fs π) {p q : Pr} (hp : p ∈ es) (hq : q ∈ es) : keyE n fs (mapE π p) = keyE n fs (mapE π q) ↔ keyE n es p = keyE n es q := by
 refine ⟨fun h => ?_, I.key1 hp hq⟩
 obtain ⟨σ, J, h1, h2⟩ := I.inv
 have := J.key1 (I.mem hp) (I.mem hq) h
 rwa [I.back h1 hp, I.back h1 hq] at this
end IsoG
theorem choice_le' {α β : Type} [DecidableEq β] {A : List α} {B : List β} {R : α → β → Prop} (na : A.Nodup) (h : ∀ a ∈ A, ∃ b ∈ B, R a b) (inj : ∀ a ∈ A, ∀ a' ∈ A, ∀ b, R a b → R a' b → a = a') : A.length ≤ B.length := by
 induction A generalizing B with
 | nil => simp
 | cons a A ih =>
  rw [List.nodup_cons] at na
  obtain ⟨b, hb, hr⟩ := h a (by simp)
  have := ih (B := B.erase b) na.2 (fun a' ha' => by
   obtain ⟨b', hb', hr'⟩ := h a' (by simp [ha'])
   refine ⟨b', ?_, hr'⟩
   have hne : b' ≠ b := fun e => by
    subst e
    have := inj a (by simp) a' (by simp [ha']) b' hr hr'
    subst this; exact na.1 ha'
   exact (List.mem_erase_of_ne hne).2 hb') (fun a ha a' ha' => inj a (by simp [ha]) a' (by simp [ha']))
  rw [List.length_erase_of_mem hb] at this
  have := List.length_pos_of_mem hb
  rw [List.length_cons]; omega
namespace IsoG
variable {n : Nat} {es fs : List Pr} {π : Nat → Nat}
theorem cuts_mem (I : IsoG n es fs π) {v : Nat} (h : v ∈ cutsM n es) : π v ∈ cutsM n fs := by
 rw [Go.Fw.cuts_mem I.r1] at h
 rw [Go.Fw.cuts_mem I.r2]
 exact ⟨I.lt v h.1, (I.cut2 h.1).2 h.2⟩
end IsoG
end Go.Fw
namespace Go.Fw
open Go.Proofs
attribute [local irreducible] KO4 KO3 KO2 KO1 KO KN KX KE VK KCond KDraw KCall KLoop
set_option maxHeartbeats 16000000
set_option maxRecDepth 10000
structure TM where
 bs : List (List Pr)
 cs : List Int
 ls : List Pr
def TR (h : AHeap) (v : Value) (T : TM) : Prop := ∃ b c l, v = .agg #[b, c, l] ∧ RL PR h b T.bs ∧ RL isI h c T.cs ∧ PR h l T.ls
theorem TR.le {h h' : AHeap} {v : Value} {T : TM} (r : TR h v T) (e : Le h h') : TR h' v T := by
 obtain ⟨b, c, l, rfl, h1, h2, h3⟩ := r
 exact ⟨b, c, l, rfl, h1.le Stays.PR e, h2.le Stays.isI e, h3.le e⟩
def emptyT : Value := .agg #[.slice none 0 0, .slice none 0 0, .slice none 0 0]
theorem ts66 : tsize Try.prog 76 = 3 := by kernel_rfl
theorem PR.isS {h : AHeap} {v : Value} {ps : List Pr} (r : PR h v ps) : ∃ a l c, v = .slice a l c := by obtain ⟨a, c, rfl, _⟩ := r.sl; exact ⟨_, _, _, rfl⟩
theorem RL.isS {α : Type} {R : AHeap → Value → α → Prop} {h : AHeap} {v : Value} {xs : List α} (r : RL R h v xs) : ∃ a l k, v = .slice a l k := by obtain ⟨vs, r, _⟩ := r; obtain ⟨a, c, rfl, _⟩ := r.sl; exact ⟨_, _, _, rfl⟩
theorem load66 {h : AHeap} {B : Nat} {b c l : Value} (ho : h.own B = some (.cells [b, c, l])) (hb : ∃ a m k, b = .slice a m k) (hc : ∃ a m k, c = .slice a m k) (hl : ∃ a m k, l = .slice a m k) :
  aload Try.prog h 76 ⟨B, 0, none⟩ = some (.agg #[b, c, l]) ∧ aload Try.prog h 28 ⟨B, 0, none⟩ = some b ∧ aload Try.prog h 38 ⟨B, 1, none⟩ = some c ∧ aload Try.prog h 22 ⟨B, 2, none⟩ = some l := by
 obtain ⟨a1, b1, c1, rfl⟩ := hb
 obtain ⟨a2, b2, c2, rfl⟩ := hc
 obtain ⟨a3, b3, c3, rfl⟩ := hl
 refine ⟨?_, ?_, ?_, ?_⟩
 ·rw [aload_own Try.underlying76 rfl ts66 ho (by simp)]; rfl
 ·rw [aload_one Try.underlying28 rfl ho]; rfl
 ·rw [aload_one Try.underlying38 rfl ho]; rfl
 ·rw [aload_one Try.underlying22 rfl ho]; rfl
theorem store66 {h : AHeap} {R : Nat} {x y z b c l : Value} (ho : h.own R = some (.cells [x, y, z])) (hb : ∃ a m k, b = .slice a m k ∧ b.oneCell' = true) (hc : ∃ a m k, c = .slice a m k ∧ c.oneCell' = true) (hl : ∃ a m k, l = .slice a m k ∧ l.oneCell' = true) :
  aStore Try.prog h 76 (.pointer (some ⟨R, 0, none⟩)) (.agg #[b, c, l]) = some (h.put R (.cells [b, c, l])) := by
 obtain ⟨a1, b1, c1, rfl, o1⟩ := hb
 obtain ⟨a2, b2, c2, rfl, o2⟩ := hc
 obtain ⟨a3, b3, c3, rfl, o3⟩ := hl
 have hcs : (Value.agg #[.slice a1 b1 c1, .slice a2 b2 c2, .slice a3 b3 c3]).cells = #[.slice a1 b1 c1, .slice a2 b2 c2, .slice a3 b3 c3] := rfl
 simp [aStore, ho, hcs, ts66, putCells, Try.underlying76, o1, o2, o3]
theorem alloc66 (h : AHeap) : aAlloc Try.prog h 76 = some (.pointer (some ⟨h.next, 0, none⟩), h.alloc (.cells [.slice none 0 0, .slice none 0 0, .slice none 0 0])) := rfl
theorem tf0 (a : Addr) : aField Try.prog 76 (.pointer (some a)) 0 = some (.pointer (some (aadd a 0))) := by kernel_rfl
theorem tf1 (a : Addr) : aField Try.prog 76 (.pointer (some a)) 1 = some (.pointer (some (aadd a 1))) := by kernel_rfl
theorem tf2 (a : Addr) : aField Try.prog 76 (.pointer (some a)) 2 = some (.pointer (some (aadd a 2))) := by kernel_rfl
theorem build66e : aBuild Try.prog 76 [] = some emptyT := by kernel_rfl
theorem TR.sl {h : AHeap} {b c l : Value} {T : TM} (r : TR h (.agg #[b, c, l]) T) : (RL PR h b T.bs ∧ RL isI h c T.cs ∧ PR h l T.ls) := by
 obtain ⟨b', c', l', e, h1, h2, h3⟩ := r
 simp only [Value.agg.injEq, Array.mk.injEq, List.cons.injEq, and_true] at e
 obtain ⟨rfl, rfl, rfl⟩ := e
 exact ⟨h1, h2, h3⟩
theorem boxT {h : AHeap} (hwf : WF h) {b c l : Value} {T : TM} (hb : RL PR h b T.bs) (hc : RL isI h c T.cs) (hl : PR h l T.ls) :
  ∃ h1, aBox h (.agg #[b, c, l]) = some (.pointer (some ⟨h.next, 0, none⟩), h1) ∧ Le h h1 ∧ WF h1 ∧
   ∀ g, Le h1 g → aload Try.prog g 76 ⟨h.next, 0, none⟩ = some (.agg #[b, c, l]) ∧ aload Try.prog g 28 ⟨h.next, 0, none⟩ = some b ∧ aload Try.prog g 38 ⟨h.next, 1, none⟩ = some c ∧ aload Try.prog g 22 ⟨h.next, 2, none⟩ = some l := by
 obtain ⟨h1, e1, l1, w1, o1⟩ := alloc_f hwf [b, c, l]
 refine ⟨h1, ?_, l1, w1, fun g lg => load66 (lg.own _ _ o1) hb.isS hc.isS hl.isS⟩
 rw [← e1]
 exact aBox3 hb.one hc.one hl.sl.one
end Go.Fw
