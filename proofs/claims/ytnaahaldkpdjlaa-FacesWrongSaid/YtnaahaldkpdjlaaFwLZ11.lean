/- A text of the proof. -/
import Derived.Test.YtnaahaldkpdjlaaFwLZ10
import Derived.Test.YtnaahaldkpdjlaaFwLW3
import Derived.Test.YtnaahaldkpdjlaaFwLT7
set_option linter.unusedSimpArgs false
set_option linter.unusedVariables false
namespace Go.Fw
open Go.Proofs
attribute [local irreducible] KO4 KO3 KO2 KO1 KO KN KX KE VK KCond KDraw KCall KLoop
set_option maxHeartbeats 16000000
set_option maxRecDepth 10000
structure PermOK (ps : List Int) : Prop where
 len : ps.length ≤ 200
 rng : ∀ x ∈ ps, 0 ≤ x ∧ x < (ps.length : Int)
 nd : ps.Nodup
def permF (ps : List Int) (a : Nat) : Nat := (ps.getD a 0).toNat
theorem PermOK.get {ps : List Int} (k : PermOK ps) {a : Nat} (ha : a < ps.length) : ps.getD a 0 = (permF ps a : Int) ∧ permF ps a < ps.length := by
 have hg : ps.getD a 0 = ps[a] := getD_of ha
 obtain ⟨h1, h2⟩ := k.rng _ (List.getElem_mem ha)
 rw [permF, hg]; omega
theorem PermOK.inj {ps : List Int} (k : PermOK ps) {a b : Nat} (ha : a < ps.length) (hb : b < ps.length) (e : permF ps a = permF ps b) : a = b := by
 have h1 := (k.get ha).1
 have h2 := (k.get hb).1
 rw [getD_of ha] at h1
 rw [getD_of hb] at h2
 have nd := k.nd
 rw [List.Nodup, List.pairwise_iff_getElem] at nd
 rcases Nat.lt_trichotomy a b with h | h | h
 ·exact absurd (by rw [h1, h2, e]) (nd a b ha hb h)
 ·exact h
 ·exact absurd (by rw [h1, h2, e]) (nd b a hb ha h)
theorem PermOK.surj {ps : List Int} (k : PermOK ps) {x : Nat} (hx : x < ps.length) : ∃ a, a < ps.length ∧ permF ps a = x := by
 have hm : (x : Int) ∈ ps := Classical.byContradiction fun hn => by
  have nd : ((x : Int) :: ps).Nodup := List.nodup_cons.2 ⟨hn, k.nd⟩
  have hs : ((x : Int) :: ps) ⊆ (List.range ps.length).map fun (i : Nat) => (i : Int) := fun y hy => by
   rw [List.mem_map]
   rcases List.mem_cons.1 hy with rfl | hy
   ·exact ⟨x, List.mem_range.2 hx, rfl⟩
   ·have := k.rng y hy; exact ⟨y.toNat, List.mem_range.2 (by omega), by omega⟩
  have := nd.length_le_of_subset hs
  simp at this
  omega
 obtain ⟨a, ha, e⟩ := List.mem_iff_getElem.1 hm
 have := (k.get ha).1
 rw [getD_of ha, e] at this
 exact ⟨a, ha, by omega⟩
def appP (ps : List Int) (p : Pr) : Pr := (ps.getD p.1.toNat 0, ps.getD p.2.toNat 0)
def AppOK (G : GM) (ps : List Int) : Prop := RightG G ∧ PermOK ps ∧ (ps.length : Int) = G.n
theorem appP_nat {ps : List Int} (k : PermOK ps) {a b : Nat} (ha : a < ps.length) (hb : b < ps.length) : appP ps ((a : Int), (b : Int)) = ((permF ps a : Int), (permF ps b : Int)) := by
 simp only [appP, Int.toNat_natCast]; rw [(k.get ha).1, (k.get hb).1]
theorem AppOK.new {n : Nat} {es : List Pr} {ps : List Int} (A : AppOK ⟨(n : Int), es⟩ ps) : NewOK (n : Int) (es.map (appP ps)) := by
 obtain ⟨hr, k, hl⟩ := A
 have hln : ps.length = n := by simp only at hl; omega
 have nat : ∀ p ∈ es, ∃ a b : Nat, p = ((a : Int), (b : Int)) ∧ a < b ∧ b < n := fun p hp => by
  have := hr.inR p hp
  exact ⟨p.1.toNat, p.2.toNat, Prod.ext (by simp only; omega) (by simp only; omega), by omega, by omega⟩
 refine ⟨by omega, hr.n1, by rw [List.length_map]; exact hr.len, fun q hq => ?_, ?_⟩
 ·obtain ⟨p, hp, rfl⟩ := List.mem_map.1 hq
  obtain ⟨a, b, rfl, hab, hb⟩ := nat p hp
  have ha1 := (k.get (show a < ps.length by omega)).2
  have hb1 := (k.get (show b < ps.length by omega)).2
  have ne : permF ps a ≠ permF ps b := fun e => by have := k.inj (by omega) (by omega) e; omega
  rw [appP_nat k (by omega) (by omega)]
  simp only [normP]; omega
 ·rw [List.map_map, List.nodup_iff_pairwise_ne, List.pairwise_map]
  have nd := hr.nodup
  rw [List.nodup_iff_pairwise_ne] at nd
  refine nd.imp_of_mem fun {p q} hp hq hne e => hne ?_
  obtain ⟨a, b, rfl, hab, hb⟩ := nat p hp
  obtain ⟨c, d, rfl, hcd, hd⟩ := nat q hq
  simp only [Function.comp] at e
  rw [appP_nat k (by omega) (by omega), appP_nat k (by omega) (by omega)] at e
  simp only [normP, Prod.mk.injEq] at e
  have inj := fun {x y : Nat} (hx : x < n) (hy : y < n) => k.inj (show x < ps.length by omega) (show y < ps.length by omega)
  have i1 := fun h => inj (x := a) (y := c) (by omega) (by omega) h
  have i2 := fun h => inj (x := b) (y := d) (by omega) (by omega) h
  have i3 := fun h => inj (x := a) (y := d) (by omega) (by omega) h
  have i4 := fun h => inj (x := b) (y := c) (by omega) (by omega) h
  rcases (show (permF ps a = permF ps c ∧ permF ps b = permF ps d) ∨ (permF ps a = permF ps d ∧ permF ps b = permF ps c) by omega) with ⟨h1, h2⟩ | ⟨h1, h2⟩
  ·rw [i1 h1, i2 h2]
  ·have := i3 h1; have := i4 h2; omega
end Go.Fw
namespace Go.Fw
set_option maxRecDepth 10000
attribute [local instance] Classical.propDecidable
structure IsoG (n : Nat) (es fs : List Pr) (π : Nat → Nat) : Prop where
 r1 : InR n es
 r2 : InR n fs
 lt : ∀ a, a < n → π a < n
 inj : ∀ a b, a < n → b < n → π a = π b → a = b
 surj : ∀ x, x < n → ∃ a, a < n ∧ π a = x
 adj : ∀ a b, a < n → b < n → (adj fs (π a) (π b) ↔ adj es a b)
namespace IsoG
variable {n : Nat} {es fs : List Pr} {π : Nat → Nat}
theorem inv (I : IsoG n es fs π) : ∃ σ, IsoG n fs es σ ∧ (∀ a, a < n → σ (π a) = a) ∧ ∀ x, x < n → π (σ x) = x := by
 let σ : Nat → Nat := fun x => if h : ∃ a, a < n ∧ π a = x then Classical.choose h else 0
 have hs : ∀ x, x < n → σ x < n ∧ π (σ x) = x := fun x hx => by
  have h := I.surj x hx
  have := Classical.choose_spec h
  simp only [σ, dif_pos h]; exact this
 have h1 : ∀ a, a < n → σ (π a) = a := fun a ha => I.inj _ _ (hs _ (I.lt a ha)).1 ha (hs _ (I.lt a ha)).2
 exact ⟨σ, ⟨I.r2, I.r1, fun a ha => (hs a ha).1, fun a b ha hb e => by rw [← (hs a ha).2, ← (hs b hb).2, e], fun x hx => ⟨π x, I.lt x hx, h1 x hx⟩,
  fun a b ha hb => by rw [← I.adj _ _ (hs a ha).1 (hs b hb).1, (hs a ha).2, (hs b hb).2]⟩, h1, fun x hx => (hs x hx).2⟩
theorem cn {on on' : Nat → Bool} (I : IsoG n es fs π) (ho : ∀ x, x < n → on' (π x) = on x) {a b : Nat} (ha : a < n) (h : Cn on es a b) : Cn on' fs (π a) (π b) := by
 induction h with
 | refl h => exact .refl (by rw [ho _ ha]; exact h)
 | @step x y k e o ih =>
  obtain ⟨h1, h2⟩ := e.lt I.r1
  exact .step ih ((I.adj _ _ h1 h2).2 e) (by rw [ho _ h2]; exact o)
theorem cn_iff {on on' : Nat → Bool} (I : IsoG n es fs π) (ho : ∀ x, x < n → on' (π x) = on x) {a b : Nat} (ha : a < n) (hb : b < n) : Cn on' fs (π a) (π b) ↔ Cn on es a b := by
 refine ⟨fun h => ?_, I.cn ho ha⟩
 obtain ⟨σ, J, h1, h2⟩ := I.inv
 have := J.cn (on := on') (on' := on) (fun x hx => by rw [← ho _ (J.lt x hx), h2 x hx]) (I.lt a ha) h
 rwa [h1 a ha, h1 b hb] at this
theorem wo (I : IsoG n es fs π) {v a b : Nat} (hv : v < n) (ha : a < n) (hb : b < n) : Cn (Go.Fw.wo (π v)) fs (π a) (π b) ↔ Cn (Go.Fw.wo v) es a b :=
 I.cn_iff (fun x hx => by
  by_cases e : x = v
  ·subst e; simp [Go.Fw.wo]
  ·rw [wo_ne e, wo_ne fun h => e (I.inj _ _ hx hv h)]) ha hb
theorem con (I : IsoG n es fs π) {a b : Nat} (ha : a < n) (hb : b < n) : Con fs (π a) (π b) ↔ Con es a b := I.cn_iff (fun _ _ => rfl) ha hb
end IsoG
def mapE (π : Nat → Nat) (p : Pr) : Pr := pairOf (π p.1.toNat) (π p.2.toNat)
theorem mapE_pair {π : Nat → Nat} {a b : Nat} : mapE π (pairOf a b) = pairOf (π a) (π b) := by
 rw [pairOf_of, mapE]; simp only [Int.toNat_natCast]
 rcases Nat.le_total a b with h | h
 ·rw [Nat.min_eq_left h, Nat.max_eq_right h]
 ·rw [Nat.min_eq_right h, Nat.max_eq_left h, pairOf_comm]
theorem pair_ex {n : Nat} {es : List Pr} (hr : InR n es) {p : Pr} (hp : p ∈ es) : ∃ a b : Nat, a < n ∧ b < n ∧ adj es a b ∧ p = pairOf a b := by
 obtain ⟨a, c, rfl, hac, hcn, h⟩ := ends hr hp
 exact ⟨a, c, by omega, hcn, h, by rw [pairOf_of, Nat.min_eq_left (by omega), Nat.max_eq_right (by omega)]⟩
namespace IsoG
variable {n : Nat} {es fs : List Pr} {π : Nat → Nat}
theorem mem (I : IsoG n es fs π) {p : Pr} (hp : p ∈ es) : mapE π p ∈ fs := by
 obtain ⟨a, b, ha, hb, h, rfl⟩ := pair_ex I.r1 hp
 rw [mapE_pair]; exact adj_mem' I.r2 ((I.adj _ _ ha hb).2 h)
theorem key1 (I : IsoG n es fs π) {p q : Pr} (hp : p ∈ es) (hq : q ∈ es) (h : keyE n es p = keyE n es q) : keyE n fs (mapE π p) = keyE n fs (mapE π q) := by
 refine key_link I.r1 (fun p => keyE n fs (mapE π p)) (fun v a b ha hb k => ?_) hp hq h
 have hv := (ha.lt I.r1).1
 have h1 := (ha.lt I.r1).2
 have h2 := (hb.lt I.r1).2
 show keyE n fs (mapE π (pairOf v a)) = keyE n fs (mapE π (pairOf v b))
 rw [mapE_pair, mapE_pair]
 exact (key_iff I.r2 ((I.adj _ _ hv h1).2 ha) ((I.adj _ _ hv h2).2 hb)).2 ((I.wo hv h1 h2).2 k)
theorem back {σ : Nat → Nat} (I : IsoG n es fs π) (h1 : ∀ a, a < n → σ (π a) = a) {p : Pr} (hp : p ∈ es) : mapE σ (mapE π p) = p := by
 obtain ⟨a, b, ha, hb, h, rfl⟩ := pair_ex I.r1 hp
 rw [mapE_pair, mapE_pair, h1 a ha, h1 b hb]
theorem key (I : IsoG n es fs π) {p q : Pr} (hp : p ∈ es) (hq : q ∈ es) : keyE n fs (mapE π p) = keyE n fs (mapE π q) ↔ keyE n es p = keyE n es q := by
 refine ⟨fun h => ?_, I.key1 hp hq⟩
 obtain ⟨σ, J, h1, h2⟩ := I.inv
 have := J.key1 (I.mem hp) (I.mem hq) h
 rwa [I.back h1 hp, I.back h1 hq] at this
theorem inj_E (I : IsoG n es fs π) {p q : Pr} (hp : p ∈ es) (hq : q ∈ es) (e : mapE π p = mapE π q) : p = q := by
 obtain ⟨σ, J, h1, h2⟩ := I.inv
 rw [← I.back h1 hp, ← I.back h1 hq, e]
theorem sur_E (I : IsoG n es fs π) {q : Pr} (hq : q ∈ fs) : ∃ p ∈ es, mapE π p = q := by
 obtain ⟨σ, J, h1, h2⟩ := I.inv
 exact ⟨mapE σ q, J.mem hq, J.back h2 hq⟩
theorem perm (I : IsoG n es fs π) (hn : es.Nodup) (hm : fs.Nodup) : fs.Perm (es.map (mapE π)) := by
 have nd : (es.map (mapE π)).Nodup := by
  rw [List.nodup_iff_pairwise_ne, List.pairwise_map]
  exact (List.nodup_iff_pairwise_ne.1 hn).imp_of_mem fun {a b} ha hb hne e => hne (I.inj_E ha hb e)
 refine (List.perm_ext_iff_of_nodup hm nd).2 fun q => ?_
 rw [List.mem_map]
 constructor
 ·intro hq; obtain ⟨p, hp, e⟩ := I.sur_E hq; exact ⟨p, hp, e⟩
 ·rintro ⟨p, hp, rfl⟩; exact I.mem hp
end IsoG
theorem choice_le' {α β : Type} [DecidableEq β] {A : List α} {B : List β} {R : α → β → Prop} (na : A.Nodup) (h : ∀ a ∈ A, ∃ b ∈ B, R a b) (inj : ∀ a ∈ A, ∀ a' ∈ A, ∀ b, R a b → R a' b → a = a') : A.length ≤ B.length := by
 induction A generalizing B with
 | nil => simp
 | cons a A ih =>
  rw [List.nodup_cons] at na
  obtain ⟨b, hb, hr⟩ := h a (by simp)
  have := ih (B := B.erase b) na.2 (fun a' ha' => by
   obtain ⟨b', hb', hr'⟩ := h a' (by simp [ha'])
   refine ⟨b', ?_, hr'⟩
   have hne : b' ≠ b := fun e => by
    subst e
    have := inj a (by simp) a' (by simp [ha']) b' hr hr'
    subst this; exact na.1 ha'
   exact (List.mem_erase_of_ne hne).2 hb') (fun a ha a' ha' => inj a (by simp [ha]) a' (by simp [ha']))
  rw [List.length_erase_of_mem hb] at this
  have := List.length_pos_of_mem hb
  rw [List.length_cons]; omega
namespace IsoG
variable {n : Nat} {es fs : List Pr} {π : Nat → Nat}
end IsoG
end Go.Fw
namespace Go.Fw
open Go.Proofs
attribute [local irreducible] KO4 KO3 KO2 KO1 KO KN KX KE VK KCond KDraw KCall KLoop
set_option maxHeartbeats 16000000
set_option maxRecDepth 10000
structure TM where
 bs : List (List Pr)
 cs : List Int
 ls : List Pr
def TR (h : AHeap) (v : Value) (T : TM) : Prop := ∃ b c l, v = .agg #[b, c, l] ∧ RL PR h b T.bs ∧ RL isI h c T.cs ∧ PR h l T.ls
theorem TR.le {h h' : AHeap} {v : Value} {T : TM} (r : TR h v T) (e : Le h h') : TR h' v T := by
 obtain ⟨b, c, l, rfl, h1, h2, h3⟩ := r
 exact ⟨b, c, l, rfl, h1.le Stays.PR e, h2.le Stays.isI e, h3.le e⟩
theorem TR.sl {h : AHeap} {b c l : Value} {T : TM} (r : TR h (.agg #[b, c, l]) T) : (RL PR h b T.bs ∧ RL isI h c T.cs ∧ PR h l T.ls) := by
 obtain ⟨b', c', l', e, h1, h2, h3⟩ := r
 simp only [Value.agg.injEq, Array.mk.injEq, List.cons.injEq, and_true] at e
 obtain ⟨rfl, rfl, rfl⟩ := e
 exact ⟨h1, h2, h3⟩
theorem RL.toI {h : AHeap} {v : Value} {xs : List Int} (r : RL isI h v xs) : CS 1 h v xs.length (I64 xs) := by
 obtain ⟨vs, r, hl, hr⟩ := r
 have : vs = I64 xs := by
  apply List.ext_getElem
  ·simp [I64, hl]
  ·intro i h1 h2
   have := hr i xs[i]! vs[i] (by rw [List.getElem?_eq_getElem (by omega), getElem!_pos _ _ (by omega)]) (List.getElem?_eq_getElem h1)
   rw [this, getElem!_pos _ _ (by omega)]; simp [I64]
 subst this
 rw [← hl]
 exact ⟨r.sl, by simp, r.get⟩
theorem CopyInts_any (W0 : Base) (v : Value) (xs : List Int) (h : AHeap) (hv : RL isI h v xs) (hn : xs.length ≤ 100000) : AC Try.prog W0 29 [v] h fun x h' => GI h' x xs ∧ Le h h' ∧ Apart h x := by
 refine AC.vc (fn := Try.f29) (c := _) ⟨Try.func29, rfl, by decide⟩ Try.ntmps29 Try.results29 (by simp) fun hwf => ?_
 simp only [argFrame, argFrom, Nat.reduceAdd]
 obtain ⟨h1, e1, l1, w1, o1⟩ := alloc_f hwf []
 have mk : aBuildSlice Try.prog h 38 0 [] = some (.slice (some ⟨h.next, 0, none⟩) 0 0, h1) := by rw [← e1]; rfl
 have nw : h.own h.next = none := (Le.refl h).next hwf (Nat.le_refl _)
 have g0 : GI h1 (.slice (some ⟨h.next, 0, none⟩) 0 0) [] := GS.full o1 rfl (by decide)
 have a0 : Apart h (.slice (some ⟨h.next, 0, none⟩) 0 0) := fun b hb => by injection hb with hb; subst hb; exact nw
 have hx := (hv.le Stays.isI l1)
 obtain ⟨v', h5, e5, g5, hf⟩ := GS.append (P := Try.prog) (t := 38) (xt := 38) (k := 1) (n' := xs.length) (news := I64 xs) (by kernel_rfl) g0 (fun e he => CS.src he (RL.toI hx)) (I64_one _) (I64_one _) (by simp [I64]) (by simp; omega)
 obtain ⟨l5, a5⟩ := hf h w1 l1 a0
 simp only [kS1, bLookup, bMapSet, wantA, isCall, stepOp, evalO, evalL, evalP, evalM, putDst, flat, kA, kB, Nat.reduceLT, ↓reduceIte, kC, Nat.reduceEqDiff, aBuiltin, abinG, guardFree, abin, aInt, aUn, aNilCheck, retQ, retQ1, aresults, aresultL, aresult, mkF, undefV, reduceCtorEq, kD, kE, kF, kG, kH, kI, kJ, kK, aExtract, calleeOf, mk, e5]
 refine ⟨?_, l5, a5⟩
 simpa [GI, I64] using g5
end Go.Fw
namespace Go.Fw
open Go.Proofs
set_option maxHeartbeats 16000000
set_option maxRecDepth 10000
def linkS (b : Nat) (far : Int) (L : List Int) (p : Pr) : List Int :=
 let L1 := if L.getD p.1.toNat 0 = far ∧ L.getD (b + p.2.toNat) 0 < 0 then L.set (b + p.2.toNat) (far + 1) else L
 if L1.getD (b + p.2.toNat) 0 = far ∧ L1.getD p.1.toNat 0 < 0 then L1.set p.1.toNat (far + 1) else L1
theorem linkS_length (b : Nat) (far : Int) (L : List Int) (p : Pr) : (linkS b far L p).length = L.length := by
 simp only [linkS]; split <;> split <;> simp
theorem round_length (b : Nat) (far : Int) : ∀ (ls : List Pr) (L : List Int), (ls.foldl (linkS b far) L).length = L.length
 | [], L => rfl
 | p :: ls, L => by rw [List.foldl_cons, round_length b far ls, linkS_length]
def roundM (b : Nat) (ls : List Pr) (L : List Int) (far : Nat) : List Int := ls.foldl (linkS b (far : Int)) L
def awayK (b n : Nat) (ls : List Pr) (s k : Nat) : List Int := (List.range k).foldl (roundM b ls) ((List.replicate n (-1)).set s 0)
theorem awayK_succ (b n : Nat) (ls : List Pr) (s k : Nat) : awayK b n ls s (k + 1) = roundM b ls (awayK b n ls s k) k := by simp [awayK, List.range_succ]
theorem awayK_length (b n : Nat) (ls : List Pr) (s : Nat) : ∀ k, (awayK b n ls s k).length = n
 | 0 => by simp [awayK]
 | k + 1 => by rw [awayK_succ, roundM, round_length, awayK_length]
def awayM (b n : Nat) (ls : List Pr) (s : Nat) : List Int := awayK b n ls s n
def maxL (L : List Int) : Int := L.foldl max 0
structure LinkOK (b n : Nat) (p : Pr) : Prop where
 x0 : 0 ≤ p.1
 x1 : p.1 < (b : Int)
 y0 : 0 ≤ p.2
 y1 : (b : Int) + p.2 < (n : Int)
structure GoodT (b n : Nat) (ls : List Pr) : Prop where
 n0 : n ≠ 0
 len : ls.length + 1 = n
 ok : ∀ p ∈ ls, LinkOK b n p
 nd : ls.Nodup
 all : ∀ s, s < n → ∀ x ∈ awayM b n ls s, 0 ≤ x
end Go.Fw
namespace Go.Fw
set_option maxRecDepth 10000
attribute [local instance] Classical.propDecidable
def edgesU (b : Nat) (ls : List Pr) : List Pr := ls.map fun p => (p.1, (b : Int) + p.2)
theorem edgesU_in {b n : Nat} {ls : List Pr} (h : ∀ p ∈ ls, LinkOK b n p) : InR n (edgesU b ls) := fun q hq => by
 obtain ⟨p, hp, rfl⟩ := List.mem_map.1 hq
 have L := h p hp
 have := L.x0; have := L.x1; have := L.y0; have := L.y1
 simp only; omega
theorem linkOK_nat {b n : Nat} {p : Pr} (L : LinkOK b n p) : p.1.toNat < n ∧ b + p.2.toNat < n ∧ p.1 = (p.1.toNat : Int) ∧ p.2 = (p.2.toNat : Int) ∧ p.1.toNat < b := by
 have := L.x0; have := L.x1; have := L.y0; have := L.y1
 omega
theorem link_adj {b n : Nat} {ls : List Pr} {p : Pr} (hp : p ∈ ls) (L : LinkOK b n p) : adj (edgesU b ls) p.1.toNat (b + p.2.toNat) := by
 obtain ⟨_, _, h1, h2, _⟩ := linkOK_nat L
 left
 refine List.mem_map.2 ⟨p, hp, ?_⟩
 refine Prod.ext (by simp only; omega) (by simp only; omega)
theorem adj_link {b n : Nat} {ls : List Pr} (h : ∀ p ∈ ls, LinkOK b n p) {x y : Nat} (ha : adj (edgesU b ls) x y) : ∃ p ∈ ls, (x = p.1.toNat ∧ y = b + p.2.toNat) ∨ (y = p.1.toNat ∧ x = b + p.2.toNat) := by
 rcases ha with ha | ha
 ·obtain ⟨p, hp, e⟩ := List.mem_map.1 ha
  have := linkOK_nat (h p hp)
  rw [Prod.mk.injEq] at e
  exact ⟨p, hp, .inl (by omega)⟩
 ·obtain ⟨p, hp, e⟩ := List.mem_map.1 ha
  have := linkOK_nat (h p hp)
  rw [Prod.mk.injEq] at e
  exact ⟨p, hp, .inr (by omega)⟩
structure FarK (n : Nat) (es : List Pr) (s k : Nat) (L : List Int) : Prop where
 len : L.length = n
 val : ∀ v, v < n → L.getD v 0 = -1 ∨ 0 ≤ L.getD v 0 ∧ L.getD v 0 ≤ (k : Int)
 zero : ∀ v, v < n → (L.getD v 0 = 0 ↔ v = s)
 pre : ∀ v, v < n → 0 < L.getD v 0 → ∃ u, u < n ∧ adj es u v ∧ L.getD u 0 = L.getD v 0 - 1
 clo : ∀ u v, adj es u v → 0 ≤ L.getD u 0 → L.getD u 0 < (k : Int) → 0 ≤ L.getD v 0 ∧ L.getD v 0 ≤ L.getD u 0 + 1
structure RndI (n : Nat) (es : List Pr) (k : Nat) (L M : List Int) : Prop where
 len : M.length = n
 old : ∀ v, v < n → 0 ≤ L.getD v 0 → M.getD v 0 = L.getD v 0
 new : ∀ v, v < n → L.getD v 0 < 0 → M.getD v 0 = -1 ∨ (M.getD v 0 = (k : Int) + 1 ∧ ∃ u, u < n ∧ adj es u v ∧ L.getD u 0 = (k : Int))
def halfS (k : Nat) (a c : Nat) (M : List Int) : List Int := if M.getD a 0 = (k : Int) ∧ M.getD c 0 < 0 then M.set c ((k : Int) + 1) else M
theorem RndI.half {n : Nat} {es : List Pr} {k : Nat} {L M : List Int} (I : RndI n es k L M) {a c : Nat} (hac : adj es a c) (ha : a < n) (hc : c < n) :
  RndI n es k L (halfS k a c M) ∧ (L.getD a 0 = (k : Int) → 0 ≤ (halfS k a c M).getD c 0) ∧ ∀ v, v < n → 0 ≤ M.getD v 0 → 0 ≤ (halfS k a c M).getD v 0 := by
 unfold halfS
 by_cases q : M.getD a 0 = (k : Int) ∧ M.getD c 0 < 0
 ·rw [if_pos q]
  have hL : L.getD a 0 = (k : Int) := by
   rcases Int.lt_or_le (L.getD a 0) 0 with h | h
   ·rcases I.new a ha h with e | ⟨e, _⟩ <;> omega
   ·rw [← I.old a ha h]; exact q.1
  have hLc : L.getD c 0 < 0 := by
   rcases Int.lt_or_le (L.getD c 0) 0 with h | h
   ·exact h
   ·have := I.old c hc h; omega
  have hset : ∀ v, (M.set c ((k : Int) + 1)).getD v 0 = if c = v ∧ c < M.length then (k : Int) + 1 else M.getD v 0 := fun v => getD_set _ _ _ _ _
  refine ⟨⟨by rw [List.length_set]; exact I.len, fun v hv h0 => ?_, fun v hv h0 => ?_⟩, fun _ => ?_, fun v hv h0 => ?_⟩
  ·rw [hset, if_neg (fun h => by have := h.1; subst this; omega)]; exact I.old v hv h0
  ·rw [hset]
   by_cases e : c = v
   ·subst e; rw [if_pos ⟨rfl, by rw [I.len]; exact hc⟩]; exact .inr ⟨rfl, a, ha, hac, hL⟩
   ·rw [if_neg (fun h => e h.1)]; exact I.new v hv h0
  ·rw [hset, if_pos ⟨rfl, by rw [I.len]; exact hc⟩]; omega
  ·rw [hset]; split
   ·omega
   ·exact h0
 ·rw [if_neg q]
  refine ⟨I, fun hL => ?_, fun v _ h => h⟩
  have hM : M.getD a 0 = (k : Int) := by rw [I.old a ha (by omega)]; exact hL
  exact Int.not_lt.1 fun h => q ⟨hM, h⟩
theorem linkS_half (b k : Nat) (M : List Int) (p : Pr) : linkS b (k : Int) M p = halfS k (b + p.2.toNat) p.1.toNat (halfS k p.1.toNat (b + p.2.toNat) M) := rfl
theorem round_ok {b n : Nat} {ls : List Pr} (h : ∀ p ∈ ls, LinkOK b n p) {k : Nat} {L : List Int} : ∀ (l : List Pr), (∀ p ∈ l, p ∈ ls) → ∀ M, RndI n (edgesU b ls) k L M →
  RndI n (edgesU b ls) k L (l.foldl (linkS b (k : Int)) M) ∧ (∀ v, v < n → 0 ≤ M.getD v 0 → 0 ≤ (l.foldl (linkS b (k : Int)) M).getD v 0) ∧
   ∀ p ∈ l, (L.getD p.1.toNat 0 = (k : Int) → 0 ≤ (l.foldl (linkS b (k : Int)) M).getD (b + p.2.toNat) 0) ∧ (L.getD (b + p.2.toNat) 0 = (k : Int) → 0 ≤ (l.foldl (linkS b (k : Int)) M).getD p.1.toNat 0)
 | [], _, M, I => ⟨I, fun _ _ h => h, fun p hp => by cases hp⟩
 | q :: l, hl, M, I => by
  have hq := hl q (by simp)
  obtain ⟨a1, a2, _⟩ := linkOK_nat (h q hq)
  have ha := link_adj hq (h q hq)
  obtain ⟨I1, m1, k1⟩ := I.half ha a1 a2
  obtain ⟨I2, m2, k2⟩ := I1.half ha.symm a2 a1
  rw [← linkS_half] at I2 m2 k2
  obtain ⟨I3, k3, m3⟩ := round_ok h l (fun p hp => hl p (by simp [hp])) _ I2
  refine ⟨I3, fun v hv h0 => k3 v hv (k2 v hv (k1 v hv h0)), fun p hp => ?_⟩
  rcases List.mem_cons.1 hp with rfl | hp
  ·exact ⟨fun e => k3 _ a2 (k2 _ a2 (m1 e)), fun e => k3 _ a1 (m2 e)⟩
  ·exact m3 p hp
theorem FarK.start {n s : Nat} {es : List Pr} (hs : s < n) : FarK n es s 0 ((List.replicate n (-1)).set s 0) := by
 have hg : ∀ v, v < n → ((List.replicate n (-1 : Int)).set s 0).getD v 0 = if s = v then 0 else -1 := fun v hv => by
  rw [getD_set, List.length_replicate]
  by_cases e : s = v
  ·rw [if_pos ⟨e, hs⟩, if_pos e]
  ·rw [if_neg (fun h => e h.1), if_neg e, getD_of (by rw [List.length_replicate]; exact hv)]; simp
 refine ⟨by simp, fun v hv => ?_, fun v hv => ?_, fun v hv h0 => ?_, fun u v ha h0 h1 => by omega⟩
 ·rw [hg v hv]; split <;> simp
 ·rw [hg v hv]
  by_cases e : s = v
  ·simp [e]
  ·rw [if_neg e]; simp [Ne.symm e]
 ·rw [hg v hv] at h0; split at h0 <;> omega
theorem FarK.next {b n s k : Nat} {ls : List Pr} (h : ∀ p ∈ ls, LinkOK b n p) {L : List Int} (F : FarK n (edgesU b ls) s k L) : FarK n (edgesU b ls) s (k + 1) (roundM b ls L k) := by
 have I0 : RndI n (edgesU b ls) k L L := ⟨F.len, fun _ _ _ => rfl, fun v hv h0 => .inl (by rcases F.val v hv with e | ⟨e, _⟩ <;> omega)⟩
 obtain ⟨I, mono, met⟩ := round_ok h ls (fun _ hp => hp) L I0
 have hR := edgesU_in h
 rw [show ls.foldl (linkS b (k : Int)) L = roundM b ls L k from rfl] at I mono met
 generalize roundM b ls L k = M at *
 have back : ∀ v, v < n → M.getD v 0 ≤ (k : Int) → 0 ≤ M.getD v 0 → M.getD v 0 = L.getD v 0 := fun v hv h1 h0 => by
  rcases Int.lt_or_le (L.getD v 0) 0 with q | q
  ·rcases I.new v hv q with e | ⟨e, _⟩ <;> omega
  ·exact I.old v hv q
 refine ⟨I.len, fun v hv => ?_, fun v hv => ?_, fun v hv h0 => ?_, fun u v ha h0 h1 => ?_⟩
 ·rcases Int.lt_or_le (L.getD v 0) 0 with q | q
  ·rcases I.new v hv q with e | ⟨e, _⟩
   ·exact .inl e
   ·exact .inr (by omega)
  ·rw [I.old v hv q]
   rcases F.val v hv with e | ⟨e1, e2⟩
   ·omega
   ·exact .inr (by omega)
 ·rw [← F.zero v hv]
  rcases Int.lt_or_le (L.getD v 0) 0 with q | q
  ·rcases I.new v hv q with e | ⟨e, _⟩ <;> omega
  ·rw [I.old v hv q]
 ·rcases Int.lt_or_le (L.getD v 0) 0 with q | q
  ·rcases I.new v hv q with e | ⟨e, u, hu, ha, hk⟩
   ·omega
   ·exact ⟨u, hu, ha, by rw [I.old u hu (by omega)]; omega⟩
  ·rw [I.old v hv q] at h0 ⊢
   obtain ⟨u, hu, ha, e⟩ := F.pre v hv h0
   exact ⟨u, hu, ha, by rw [I.old u hu (by omega)]; exact e⟩
 ·obtain ⟨hu, hv⟩ := ha.lt hR
  have e := back u hu (by omega) h0
  have h0v : 0 ≤ M.getD v 0 := by
   by_cases q : L.getD u 0 = (k : Int)
   ·obtain ⟨p, hp, ⟨rfl, rfl⟩ | ⟨rfl, rfl⟩⟩ := adj_link h ha
    ·exact (met p hp).1 q
    ·exact (met p hp).2 q
   ·obtain ⟨h2, h3⟩ := F.clo u v ha (by omega) (by omega)
    rw [I.old v hv h2]; exact h2
  refine ⟨h0v, ?_⟩
  by_cases q : L.getD u 0 = (k : Int)
  ·rcases Int.lt_or_le (L.getD v 0) 0 with r | r
   ·rcases I.new v hv r with e' | ⟨e', _⟩ <;> omega
   ·rw [I.old v hv r]
    rcases F.val v hv with e' | ⟨_, e'⟩ <;> omega
  ·obtain ⟨h2, h3⟩ := F.clo u v ha (by omega) (by omega)
   rw [I.old v hv h2]; omega
theorem awayM_far {b n s : Nat} {ls : List Pr} (h : ∀ p ∈ ls, LinkOK b n p) (hs : s < n) : FarK n (edgesU b ls) s n (awayM b n ls s) := by
 have : ∀ k, FarK n (edgesU b ls) s k (awayK b n ls s k) := by
  intro k
  induction k with
  | zero => exact FarK.start hs
  | succ k ih => rw [awayK_succ]; exact ih.next h
 exact this n
theorem FarK.lt {n : Nat} {es : List Pr} {s k : Nat} {L : List Int} (F : FarK n es s k L) {v : Nat} (hv : v < n) : L.getD v 0 < (n : Int) := by
 rcases Int.lt_or_le (L.getD v 0) 0 with q | q
 ·omega
 obtain ⟨d, hd⟩ := Int.eq_ofNat_of_zero_le q
 have chain : ∀ e, e ≤ d → ∃ u, u < n ∧ L.getD u 0 = ((d - e : Nat) : Int) := by
  intro e
  induction e with
  | zero => intro _; exact ⟨v, hv, by rw [hd]; simp⟩
  | succ e ih =>
   intro he
   obtain ⟨u, hu, e1⟩ := ih (by omega)
   obtain ⟨w, hw, _, e2⟩ := F.pre u hu (by omega)
   exact ⟨w, hw, by omega⟩
 have := choice_le' (A := List.range (d + 1)) (B := List.range n) (R := fun e u => L.getD u 0 = (e : Int)) List.nodup_range (fun e he => by
  rw [List.mem_range] at he
  obtain ⟨u, hu, e1⟩ := chain (d - e) (by omega)
  exact ⟨u, List.mem_range.2 hu, by rw [e1]; omega⟩) (fun a _ a' _ u h1 h2 => by omega)
 rw [List.length_range, List.length_range] at this
 omega
theorem FarK.tri {n : Nat} {es : List Pr} (hr : InR n es) {s : Nat} {L : List Int} (F : FarK n es s n L) {u v : Nat} (ha : adj es u v) (h0 : 0 ≤ L.getD u 0) : 0 ≤ L.getD v 0 ∧ L.getD v 0 ≤ L.getD u 0 + 1 :=
 F.clo u v ha h0 (F.lt (ha.lt hr).1)
theorem FarK.con {n : Nat} {es : List Pr} (hr : InR n es) {s : Nat} (hs : s < n) {L : List Int} (F : FarK n es s n L) {v : Nat} (hv : v < n) : 0 ≤ L.getD v 0 ↔ Con es s v := by
 constructor
 ·intro h0
  obtain ⟨d, hd⟩ := Int.eq_ofNat_of_zero_le h0
  clear h0
  induction d generalizing v with
  | zero => rw [(F.zero v hv).1 hd]; exact Con.refl es s
  | succ d ih =>
   obtain ⟨u, hu, ha, e⟩ := F.pre v hv (by omega)
   exact (ih hu (by omega)).step ha rfl
 ·intro h
  induction h with
  | refl _ => have := (F.zero s hs).2 rfl; omega
  | step k a _ ih => exact (F.tri hr a (ih (a.lt hr).1)).1
end Go.Fw
