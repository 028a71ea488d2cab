/- A text of the proof. -/
import Derived.Test.YtnaahaldkpdjlaaFwLT13
import Derived.Test.YtnaahaldkpdjlaaFwLZ11
import Derived.Test.YtnaahaldkpdjlaaFwLT7
import Derived.Test.YtnaahaldkpdjlaaFwLT5
import Derived.Test.YtnaahaldkpdjlaaFwLW8
import Derived.Test.YtnaahaldkpdjlaaFwLW4
set_option linter.unusedSimpArgs false
set_option linter.unusedVariables false
namespace Go.Fw
set_option maxRecDepth 10000
attribute [local instance] Classical.propDecidable
structure IsoG (n : Nat) (es fs : List Pr) (π : Nat → Nat) : Prop where
 r1 : InR n es
 r2 : InR n fs
 lt : ∀ a, a < n → π a < n
 inj : ∀ a b, a < n → b < n → π a = π b → a = b
 surj : ∀ x, x < n → ∃ a, a < n ∧ π a = x
 adj : ∀ a b, a < n → b < n → (adj fs (π a) (π b) ↔ adj es a b)
namespace IsoG
variable {n : Nat} {es fs : List Pr} {π : Nat → Nat}
theorem inv (I : IsoG n es fs π) : ∃ σ, IsoG n fs es σ ∧ (∀ a, a < n → σ (π a) = a) ∧ ∀ x, x < n → π (σ x) = x := by
 let σ : Nat → Nat := fun x => if h : ∃ a, a < n ∧ π a = x then Classical.choose h else 0
 have hs : ∀ x, x < n → σ x < n ∧ π (σ x) = x := fun x hx => by
  have h := I.surj x hx
  have := Classical.choose_spec h
  simp only [σ, dif_pos h]; exact this
 have h1 : ∀ a, a < n → σ (π a) = a := fun a ha => I.inj _ _ (hs _ (I.lt a ha)).1 ha (hs _ (I.lt a ha)).2
 exact ⟨σ, ⟨I.r2, I.r1, fun a ha => (hs a ha).1, fun a b ha hb e => by rw [← (hs a ha).2, ← (hs b hb).2, e], fun x hx => ⟨π x, I.lt x hx, h1 x hx⟩,
  fun a b ha hb => by rw [← I.adj _ _ (hs a ha).1 (hs b hb).1, (hs a ha).2, (hs b hb).2]⟩, h1, fun x hx => (hs x hx).2⟩
theorem cn {on on' : Nat → Bool} (I : IsoG n es fs π) (ho : ∀ x, x < n → on' (π x) = on x) {a b : Nat} (ha : a < n) (h : Cn on es a b) : Cn on' fs (π a) (π b) := by
 induction h with
 | refl h => exact .refl (by rw [ho _ ha]; exact h)
 | @step x y k e o ih =>
  obtain ⟨h1, h2⟩ := e.lt I.r1
  exact .step ih ((I.adj _ _ h1 h2).2 e) (by rw [ho _ h2]; exact o)
theorem cn_iff {on on' : Nat → Bool} (I : IsoG n es fs π) (ho : ∀ x, x < n → on' (π x) = on x) {a b : Nat} (ha : a < n) (hb : b < n) : Cn on' fs (π a) (π b) ↔ Cn on es a b := by
 refine ⟨fun h => ?_, I.cn ho ha⟩
 obtain ⟨σ, J, h1, h2⟩ := I.inv
 have := J.cn (on := on') (on' := on) (fun x hx => by rw [← ho _ (J.lt x hx), h2 x hx]) (I.lt a ha) h
 rwa [h1 a ha, h1 b hb] at this
theorem wo (I : IsoG n es fs π) {v a b : Nat} (hv : v < n) (ha : a < n) (hb : b < n) : Cn (Go.Fw.wo (π v)) fs (π a) (π b) ↔ Cn (Go.Fw.wo v) es a b :=
 I.cn_iff (fun x hx => by
  by_cases e : x = v
  ·subst e; simp [Go.Fw.wo]
  ·rw [wo_ne e, wo_ne fun h => e (I.inj _ _ hx hv h)]) ha hb
theorem con (I : IsoG n es fs π) {a b : Nat} (ha : a < n) (hb : b < n) : Con fs (π a) (π b) ↔ Con es a b := I.cn_iff (fun _ _ => rfl) ha hb
theorem cut2 (I : IsoG n es fs π) {v : Nat} (hv : v < n) : Fo.Cut2 fs (π v) ↔ Fo.Cut2 es v := by
 constructor
 ·rintro ⟨a, b, ha, hb, h⟩
  obtain ⟨x, hx, rfl⟩ := I.surj a (ha.lt I.r2).2
  obtain ⟨y, hy, rfl⟩ := I.surj b (hb.lt I.r2).2
  exact ⟨x, y, (I.adj _ _ hv hx).1 ha, (I.adj _ _ hv hy).1 hb, fun k => h ((I.wo hv hx hy).2 k)⟩
 ·rintro ⟨a, b, ha, hb, h⟩
  have h1 := (ha.lt I.r1).2
  have h2 := (hb.lt I.r1).2
  exact ⟨π a, π b, (I.adj _ _ hv h1).2 ha, (I.adj _ _ hv h2).2 hb, fun k => h ((I.wo hv h1 h2).1 k)⟩
end IsoG
def mapE (π : Nat → Nat) (p : Pr) : Pr := pairOf (π p.1.toNat) (π p.2.toNat)
theorem mapE_pair {π : Nat → Nat} {a b : Nat} : mapE π (pairOf a b) = pairOf (π a) (π b) := by
 rw [pairOf_of, mapE]; simp only [Int.toNat_natCast]
 rcases Nat.le_total a b with h | h
 ·rw [Nat.min_eq_left h, Nat.max_eq_right h]
 ·rw [Nat.min_eq_right h, Nat.max_eq_left h, pairOf_comm]
theorem pair_ex {n : Nat} {es : List Pr} (hr : InR n es) {p : Pr} (hp : p ∈ es) : ∃ a b : Nat, a < n ∧ b < n ∧ adj es a b ∧ p = pairOf a b := by
 obtain ⟨a, c, rfl, hac, hcn, h⟩ := ends hr hp
 exact ⟨a, c, by omega, hcn, h, by rw [pairOf_of, Nat.min_eq_left (by omega), Nat.max_eq_right (by omega)]⟩
namespace IsoG
variable {n : Nat} {es fs : List Pr} {π : Nat → Nat}
theorem mem (I : IsoG n es fs π) {p : Pr} (hp : p ∈ es) : mapE π p ∈ fs := by
 obtain ⟨a, b, ha, hb, h, rfl⟩ := pair_ex I.r1 hp
 rw [mapE_pair]; exact adj_mem' I.r2 ((I.adj _ _ ha hb).2 h)
theorem key1 (I : IsoG n es fs π) {p q : Pr} (hp : p ∈ es) (hq : q ∈ es) (h : keyE n es p = keyE n es q) : keyE n fs (mapE π p) = keyE n fs (mapE π q) := by
 refine key_link I.r1 (fun p => keyE n fs (mapE π p)) (fun v a b ha hb k => ?_) hp hq h
 have hv := (ha.lt I.r1).1
 have h1 := (ha.lt I.r1).2
 have h2 := (hb.lt I.r1).2
 show keyE n fs (mapE π (pairOf v a)) = keyE n fs (mapE π (pairOf v b))
 rw [mapE_pair, mapE_pair]
 exact (key_iff I.r2 ((I.adj _ _ hv h1).2 ha) ((I.adj _ _ hv h2).2 hb)).2 ((I.wo hv h1 h2).2 k)
theorem back {σ : Nat → Nat} (I : IsoG n es fs π) (h1 : ∀ a, a < n → σ (π a) = a) {p : Pr} (hp : p ∈ es) : mapE σ (mapE π p) = p := by
 obtain ⟨a, b, ha, hb, h, rfl⟩ := pair_ex I.r1 hp
 rw [mapE_pair, mapE_pair, h1 a ha, h1 b hb]
theorem key (I : IsoG n es fs π) {p q : Pr} (hp : p ∈ es) (hq : q ∈ es) : keyE n fs (mapE π p) = keyE n fs (mapE π q) ↔ keyE n es p = keyE n es q := by
 refine ⟨fun h => ?_, I.key1 hp hq⟩
 obtain ⟨σ, J, h1, h2⟩ := I.inv
 have := J.key1 (I.mem hp) (I.mem hq) h
 rwa [I.back h1 hp, I.back h1 hq] at this
theorem inj_E (I : IsoG n es fs π) {p q : Pr} (hp : p ∈ es) (hq : q ∈ es) (e : mapE π p = mapE π q) : p = q := by
 obtain ⟨σ, J, h1, h2⟩ := I.inv
 rw [← I.back h1 hp, ← I.back h1 hq, e]
theorem sur_E (I : IsoG n es fs π) {q : Pr} (hq : q ∈ fs) : ∃ p ∈ es, mapE π p = q := by
 obtain ⟨σ, J, h1, h2⟩ := I.inv
 exact ⟨mapE σ q, J.mem hq, J.back h2 hq⟩
theorem perm (I : IsoG n es fs π) (hn : es.Nodup) (hm : fs.Nodup) : fs.Perm (es.map (mapE π)) := by
 have nd : (es.map (mapE π)).Nodup := by
  rw [List.nodup_iff_pairwise_ne, List.pairwise_map]
  exact (List.nodup_iff_pairwise_ne.1 hn).imp_of_mem fun {a b} ha hb hne e => hne (I.inj_E ha hb e)
 refine (List.perm_ext_iff_of_nodup hm nd).2 fun q => ?_
 rw [List.mem_map]
 constructor
 ·intro hq; obtain ⟨p, hp, e⟩ := I.sur_E hq; exact ⟨p, hp, e⟩
 ·rintro ⟨p, hp, rfl⟩; exact I.mem hp
theorem block_len (I : IsoG n es fs π) (hn : es.Nodup) (hm : fs.Nodup) {p : Pr} (hp : p ∈ es) : (fs.filter fun q => decide (keyE n fs q = keyE n fs (mapE π p))).length = (es.filter fun q => decide (keyE n es q = keyE n es p)).length := by
 rw [((I.perm hn hm).filter _).length_eq, List.filter_map, List.length_map]
 congr 1
 refine List.filter_congr fun q hq => ?_
 simp only [Function.comp]
 rw [decide_eq_decide]
 exact I.key hq hp
end IsoG
theorem choice_le' {α β : Type} [DecidableEq β] {A : List α} {B : List β} {R : α → β → Prop} (na : A.Nodup) (h : ∀ a ∈ A, ∃ b ∈ B, R a b) (inj : ∀ a ∈ A, ∀ a' ∈ A, ∀ b, R a b → R a' b → a = a') : A.length ≤ B.length := by
 induction A generalizing B with
 | nil => simp
 | cons a A ih =>
  rw [List.nodup_cons] at na
  obtain ⟨b, hb, hr⟩ := h a (by simp)
  have := ih (B := B.erase b) na.2 (fun a' ha' => by
   obtain ⟨b', hb', hr'⟩ := h a' (by simp [ha'])
   refine ⟨b', ?_, hr'⟩
   have hne : b' ≠ b := fun e => by
    subst e
    have := inj a (by simp) a' (by simp [ha']) b' hr hr'
    subst this; exact na.1 ha'
   exact (List.mem_erase_of_ne hne).2 hb') (fun a ha a' ha' => inj a (by simp [ha]) a' (by simp [ha']))
  rw [List.length_erase_of_mem hb] at this
  have := List.length_pos_of_mem hb
  rw [List.length_cons]; omega
namespace IsoG
variable {n : Nat} {es fs : List Pr} {π : Nat → Nat}
theorem blocks_le (I : IsoG n es fs π) : (blocksM n es).length ≤ (blocksM n fs).length := by
 rw [blocksM_eq, blocksM_eq, List.length_map, List.length_map]
 obtain ⟨d1, m1⟩ := fk_ok (keyE n es) _ es rfl
 obtain ⟨d2, m2⟩ := fk_ok (keyE n fs) _ fs rfl
 refine choice_le' (R := fun k l => ∃ p ∈ es, keyE n es p = k ∧ keyE n fs (mapE π p) = l) d1 (fun k hk => ?_) fun k hk k' hk' l h1 h2 => ?_
 ·obtain ⟨p, hp, e⟩ := (m1 k).1 hk
  exact ⟨_, (m2 _).2 ⟨_, I.mem hp, rfl⟩, p, hp, e, rfl⟩
 ·obtain ⟨p, hp, rfl, e1⟩ := h1
  obtain ⟨q, hq, rfl, e2⟩ := h2
  exact (I.key hp hq).1 (e1.trans e2.symm)
theorem blocks (I : IsoG n es fs π) : (blocksM n es).length = (blocksM n fs).length := by
 obtain ⟨σ, J, _⟩ := I.inv
 have := I.blocks_le
 have := J.blocks_le
 omega
theorem cuts_mem (I : IsoG n es fs π) {v : Nat} (h : v ∈ cutsM n es) : π v ∈ cutsM n fs := by
 rw [Go.Fw.cuts_mem I.r1] at h
 rw [Go.Fw.cuts_mem I.r2]
 exact ⟨I.lt v h.1, (I.cut2 h.1).2 h.2⟩
theorem cutsM_nd (n : Nat) (es : List Pr) : (cutsM n es).Nodup := by rw [cutsM]; exact List.nodup_range.filter _
theorem cuts_le (I : IsoG n es fs π) : (cutsM n es).length ≤ (cutsM n fs).length := by
 refine choice_le' (R := fun a b => π a = b) (cutsM_nd n es) (fun a ha => ⟨_, I.cuts_mem ha, rfl⟩) fun a ha a' ha' b e1 e2 => ?_
 exact I.inj a a' ((Go.Fw.cuts_mem I.r1 a).1 ha).1 ((Go.Fw.cuts_mem I.r1 a').1 ha').1 (e1.trans e2.symm)
theorem cuts (I : IsoG n es fs π) : (cutsM n es).length = (cutsM n fs).length := by
 obtain ⟨σ, J, _⟩ := I.inv
 have := I.cuts_le
 have := J.cuts_le
 omega
end IsoG
theorem AppOK.iso {n : Nat} {es : List Pr} {ps : List Int} (A : AppOK ⟨(n : Int), es⟩ ps) : IsoG n es (appE ps es) (permF ps) := by
 have hN := A.new
 obtain ⟨hr, k, hl⟩ := A
 have hln : ps.length = n := by simp only at hl; omega
 have hmem : ∀ {a b : Nat}, a < n → b < n → (((a : Int), (b : Int)) ∈ es → pairOf (permF ps a) (permF ps b) ∈ appE ps es) := fun {a b} ha hb h => by
  rw [appE, sortP_mem]
  refine List.mem_map.2 ⟨_, List.mem_map.2 ⟨_, h, rfl⟩, ?_⟩
  rw [appP_nat k (by omega) (by omega)]; rfl
 have hm2 : ∀ {q}, q ∈ appE ps es → ∃ a b : Nat, a < n ∧ b < n ∧ ((a : Int), (b : Int)) ∈ es ∧ q = pairOf (permF ps a) (permF ps b) := fun {q} hq => by
  rw [appE, sortP_mem] at hq
  obtain ⟨r, hr', rfl⟩ := List.mem_map.1 hq
  obtain ⟨p, hp, rfl⟩ := List.mem_map.1 hr'
  obtain ⟨a, b, rfl, hab, hbn, _⟩ := ends hr.inR hp
  exact ⟨a, b, by omega, hbn, hp, by rw [appP_nat k (by omega) (by omega)]; rfl⟩
 have hr2 : InR n (appE ps es) := hN.right.inR
 refine ⟨hr.inR, hr2, fun a ha => by have := (k.get (show a < ps.length by omega)).2; omega, fun a b ha hb e => k.inj (by omega) (by omega) e, fun x hx => ?_, fun a b ha hb => ⟨fun h => ?_, fun h => ?_⟩⟩
 ·obtain ⟨a, h1, h2⟩ := k.surj (show x < ps.length by omega)
  exact ⟨a, by omega, h2⟩
 ·obtain ⟨c, d, hc, hd, hcd, e⟩ := hm2 (adj_mem' hr2 h)
  rw [pairOf_of, pairOf_of, Prod.mk.injEq] at e
  have inj := fun {x y : Nat} (hx : x < n) (hy : y < n) => k.inj (show x < ps.length by omega) (show y < ps.length by omega)
  have i1 := fun h => inj (x := a) (y := c) ha hc h
  have i2 := fun h => inj (x := b) (y := d) hb hd h
  have i3 := fun h => inj (x := a) (y := d) ha hd h
  have i4 := fun h => inj (x := b) (y := c) hb hc h
  rcases (show (permF ps a = permF ps c ∧ permF ps b = permF ps d) ∨ (permF ps a = permF ps d ∧ permF ps b = permF ps c) by omega) with ⟨h1, h2⟩ | ⟨h1, h2⟩
  ·rw [i1 h1, i2 h2]; exact .inl hcd
  ·rw [i3 h1, i4 h2]; exact .inr hcd
 ·rcases h with h | h
  ·have := hmem ha hb h
   rw [pairOf_of] at this
   rcases Nat.le_total (permF ps a) (permF ps b) with q | q
   ·rw [Nat.min_eq_left q, Nat.max_eq_right q] at this; exact .inl this
   ·rw [Nat.min_eq_right q, Nat.max_eq_left q] at this; exact .inr this
  ·have := hmem hb ha h
   rw [pairOf_of] at this
   rcases Nat.le_total (permF ps a) (permF ps b) with q | q
   ·rw [Nat.min_eq_right q, Nat.max_eq_left q] at this; exact .inl this
   ·rw [Nat.min_eq_left q, Nat.max_eq_right q] at this; exact .inr this
theorem AppOK.right {n : Nat} {es : List Pr} {ps : List Int} (A : AppOK ⟨(n : Int), es⟩ ps) : RightG ⟨(n : Int), appE ps es⟩ := A.new.right
end Go.Fw
namespace Go.Fw
open Go.Proofs
set_option maxHeartbeats 16000000
set_option maxRecDepth 10000
attribute [local irreducible] lowM bridgesM cutsM blocksM keyE appE permF
theorem newE {h : AHeap} (hw : WF h) : ∃ h1 h2, aAlloc Try.prog h 24 = some (.pointer (some ⟨h.next, 0, none⟩), h1) ∧ aStore Try.prog h1 24 (.pointer (some ⟨h.next, 0, none⟩)) emptyG = some h2 ∧ Le h h2 ∧ WF h2 := by
 obtain ⟨h1, e1, l1, w1, o1⟩ := alloc_f hw [.int .i64 0, .slice none 0 0]
 have nw : h.own h.next = none := (Le.refl h).next hw (Nat.le_refl _)
 have st := store24 (n := 0) (ev := .slice none 0 0) o1 rfl rfl
 exact ⟨h1, _, by rw [alloc24, e1], st, l1.put _ nw, w1.put _ (w1.lt o1)⟩
theorem mapE_val {π : Nat → Nat} {p : Pr} {x y : Int} (h1 : (π p.1.toNat : Int) = x) (h2 : (π p.2.toNat : Int) = y) : (min x y, max x y) = mapE π p := by
 subst h1; subst h2; rfl
end Go.Fw
namespace Go.Fw
open Go.Proofs
attribute [local irreducible] KO4 KO3 KO2 KO1 KO KN KX KE VK KCond KDraw KCall KLoop
set_option maxHeartbeats 16000000
set_option maxRecDepth 10000
structure TM where
 bs : List (List Pr)
 cs : List Int
 ls : List Pr
def TR (h : AHeap) (v : Value) (T : TM) : Prop := ∃ b c l, v = .agg #[b, c, l] ∧ RL PR h b T.bs ∧ RL isI h c T.cs ∧ PR h l T.ls
theorem TR.le {h h' : AHeap} {v : Value} {T : TM} (r : TR h v T) (e : Le h h') : TR h' v T := by
 obtain ⟨b, c, l, rfl, h1, h2, h3⟩ := r
 exact ⟨b, c, l, rfl, h1.le Stays.PR e, h2.le Stays.isI e, h3.le e⟩
def emptyT : Value := .agg #[.slice none 0 0, .slice none 0 0, .slice none 0 0]
theorem ts66 : tsize Try.prog 76 = 3 := by kernel_rfl
theorem PR.isS {h : AHeap} {v : Value} {ps : List Pr} (r : PR h v ps) : ∃ a l c, v = .slice a l c := by obtain ⟨a, c, rfl, _⟩ := r.sl; exact ⟨_, _, _, rfl⟩
theorem RL.isS {α : Type} {R : AHeap → Value → α → Prop} {h : AHeap} {v : Value} {xs : List α} (r : RL R h v xs) : ∃ a l k, v = .slice a l k := by obtain ⟨vs, r, _⟩ := r; obtain ⟨a, c, rfl, _⟩ := r.sl; exact ⟨_, _, _, rfl⟩
theorem load66 {h : AHeap} {B : Nat} {b c l : Value} (ho : h.own B = some (.cells [b, c, l])) (hb : ∃ a m k, b = .slice a m k) (hc : ∃ a m k, c = .slice a m k) (hl : ∃ a m k, l = .slice a m k) :
  aload Try.prog h 76 ⟨B, 0, none⟩ = some (.agg #[b, c, l]) ∧ aload Try.prog h 28 ⟨B, 0, none⟩ = some b ∧ aload Try.prog h 38 ⟨B, 1, none⟩ = some c ∧ aload Try.prog h 22 ⟨B, 2, none⟩ = some l := by
 obtain ⟨a1, b1, c1, rfl⟩ := hb
 obtain ⟨a2, b2, c2, rfl⟩ := hc
 obtain ⟨a3, b3, c3, rfl⟩ := hl
 refine ⟨?_, ?_, ?_, ?_⟩
 ·rw [aload_own Try.underlying76 rfl ts66 ho (by simp)]; rfl
 ·rw [aload_one Try.underlying28 rfl ho]; rfl
 ·rw [aload_one Try.underlying38 rfl ho]; rfl
 ·rw [aload_one Try.underlying22 rfl ho]; rfl
theorem store66 {h : AHeap} {R : Nat} {x y z b c l : Value} (ho : h.own R = some (.cells [x, y, z])) (hb : ∃ a m k, b = .slice a m k ∧ b.oneCell' = true) (hc : ∃ a m k, c = .slice a m k ∧ c.oneCell' = true) (hl : ∃ a m k, l = .slice a m k ∧ l.oneCell' = true) :
  aStore Try.prog h 76 (.pointer (some ⟨R, 0, none⟩)) (.agg #[b, c, l]) = some (h.put R (.cells [b, c, l])) := by
 obtain ⟨a1, b1, c1, rfl, o1⟩ := hb
 obtain ⟨a2, b2, c2, rfl, o2⟩ := hc
 obtain ⟨a3, b3, c3, rfl, o3⟩ := hl
 have hcs : (Value.agg #[.slice a1 b1 c1, .slice a2 b2 c2, .slice a3 b3 c3]).cells = #[.slice a1 b1 c1, .slice a2 b2 c2, .slice a3 b3 c3] := rfl
 simp [aStore, ho, hcs, ts66, putCells, Try.underlying76, o1, o2, o3]
theorem alloc66 (h : AHeap) : aAlloc Try.prog h 76 = some (.pointer (some ⟨h.next, 0, none⟩), h.alloc (.cells [.slice none 0 0, .slice none 0 0, .slice none 0 0])) := rfl
theorem tf0 (a : Addr) : aField Try.prog 76 (.pointer (some a)) 0 = some (.pointer (some (aadd a 0))) := by kernel_rfl
theorem tf1 (a : Addr) : aField Try.prog 76 (.pointer (some a)) 1 = some (.pointer (some (aadd a 1))) := by kernel_rfl
theorem tf2 (a : Addr) : aField Try.prog 76 (.pointer (some a)) 2 = some (.pointer (some (aadd a 2))) := by kernel_rfl
theorem build66e : aBuild Try.prog 76 [] = some emptyT := by kernel_rfl
theorem TR.sl {h : AHeap} {b c l : Value} {T : TM} (r : TR h (.agg #[b, c, l]) T) : (RL PR h b T.bs ∧ RL isI h c T.cs ∧ PR h l T.ls) := by
 obtain ⟨b', c', l', e, h1, h2, h3⟩ := r
 simp only [Value.agg.injEq, Array.mk.injEq, List.cons.injEq, and_true] at e
 obtain ⟨rfl, rfl, rfl⟩ := e
 exact ⟨h1, h2, h3⟩
theorem boxT {h : AHeap} (hwf : WF h) {b c l : Value} {T : TM} (hb : RL PR h b T.bs) (hc : RL isI h c T.cs) (hl : PR h l T.ls) :
  ∃ h1, aBox h (.agg #[b, c, l]) = some (.pointer (some ⟨h.next, 0, none⟩), h1) ∧ Le h h1 ∧ WF h1 ∧
   ∀ g, Le h1 g → aload Try.prog g 76 ⟨h.next, 0, none⟩ = some (.agg #[b, c, l]) ∧ aload Try.prog g 28 ⟨h.next, 0, none⟩ = some b ∧ aload Try.prog g 38 ⟨h.next, 1, none⟩ = some c ∧ aload Try.prog g 22 ⟨h.next, 2, none⟩ = some l := by
 obtain ⟨h1, e1, l1, w1, o1⟩ := alloc_f hwf [b, c, l]
 refine ⟨h1, ?_, l1, w1, fun g lg => load66 (lg.own _ _ o1) hb.isS hc.isS hl.isS⟩
 rw [← e1]
 exact aBox3 hb.one hc.one hl.sl.one
end Go.Fw
