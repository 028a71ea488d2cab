/- A text of the proof. -/
import Derived.Test.YtnaahaldkpdjlaaFwLC4
import Derived.Test.YtnaahaldkpdjlaaFwLB9
import Derived.Test.YtnaahaldkpdjlaaFwRow
set_option linter.unusedSimpArgs false
set_option linter.unusedVariables false
namespace Go.Fw
set_option maxRecDepth 10000
attribute [local instance] Classical.propDecidable
structure Lk (b n : Nat) (ls : List Pr) : Prop where
 n0 : n ≠ 0
 len : ls.length + 1 = n
 ok : ∀ p ∈ ls, LinkOK b n p
 con : ∀ v, v < n → Con (edgesU b ls) 0 v
def distM (b n : Nat) (ls : List Pr) (s v : Nat) : Nat := ((awayM b n ls s).getD v 0).toNat
theorem Lk.pos {b n : Nat} {ls : List Pr} (K : Lk b n ls) {s v : Nat} (hs : s < n) (hv : v < n) : 0 ≤ (awayM b n ls s).getD v 0 :=
 ((awayM_far K.ok hs).con (edgesU_in K.ok) hs hv).2 ((K.con s hs).symm.trans (K.con v hv))
theorem Lk.tree {b n : Nat} {ls : List Pr} (K : Lk b n ls) : Tr n (edgesU b ls) (distM b n ls) where
 rng := edgesU_in K.ok
 z := fun v hv => by rw [distM, ((awayM_far K.ok hv).zero v hv).2 rfl]; rfl
 z' := fun v w hv hw e => by
  have := K.pos hv hw
  rw [distM] at e
  exact (((awayM_far K.ok hv).zero w hw).1 (by omega)).symm
 pre := fun v w hv hw hne => by
  have h0 := K.pos hv hw
  have h1 : (awayM b n ls v).getD w 0 ≠ 0 := fun e => hne (((awayM_far K.ok hv).zero w hw).1 e).symm
  obtain ⟨u, hu, ha, e⟩ := (awayM_far K.ok hv).pre w hw (by omega)
  exact ⟨u, hu, ha, by rw [distM, distM, e]; omega⟩
 tri := fun v u w hv ha => by
  have h0 := K.pos hv (ha.lt (edgesU_in K.ok)).1
  have := (awayM_far K.ok hv).tri (edgesU_in K.ok) ha h0
  rw [distM, distM]; omega
 cnt := by rw [edgesU, List.length_map]; exact K.len
theorem good_lk {b n : Nat} {ls : List Pr} : GoodT b n ls ↔ Lk b n ls := by
 constructor
 ·intro G
  refine ⟨G.n0, G.len, G.ok, fun v hv => ?_⟩
  have h0 : 0 < n := by have := G.n0; omega
  refine ((awayM_far G.ok h0).con (edgesU_in G.ok) h0 hv).1 (G.all 0 h0 _ ?_)
  have hl : v < (awayM b n ls 0).length := by rw [awayM, awayK_length]; exact hv
  rw [getD_of hl]; exact List.getElem_mem hl
 ·intro K
  refine ⟨K.n0, K.len, K.ok, ?_, fun s hs x hx => ?_⟩
  ·have := K.tree.nodup
   rw [edgesU] at this
   rw [List.nodup_iff_pairwise_ne] at this ⊢
   rw [List.pairwise_map] at this
   exact this.imp fun h e => h (by rw [e])
  ·obtain ⟨v, hv, e⟩ := List.mem_iff_getElem.1 hx
   have hvn : v < n := by rw [awayM, awayK_length] at hv; exact hv
   have := K.pos hs hvn
   rw [getD_of hv, e] at this; exact this
theorem maxL_all : ∀ (L : List Int) (a : Int), a ≤ L.foldl max a ∧ (∀ x ∈ L, x ≤ L.foldl max a) ∧ (L.foldl max a = a ∨ L.foldl max a ∈ L)
 | [], a => ⟨Int.le_refl _, fun x hx => (by cases hx), .inl rfl⟩
 | y :: L, a => by
  obtain ⟨h1, h2, h3⟩ := maxL_all L (max a y)
  rw [List.foldl_cons]
  refine ⟨by omega, fun x hx => ?_, ?_⟩
  ·rcases List.mem_cons.1 hx with rfl | hx
   ·omega
   ·exact h2 x hx
  ·rcases h3 with h3 | h3
   ·rw [h3]
    rcases Int.le_total a y with q | q
    ·right; rw [Int.max_eq_right q]; simp
    ·left; exact Int.max_eq_left q
   ·right; exact List.mem_cons_of_mem _ h3
theorem Lk.ecc {b n : Nat} {ls : List Pr} (K : Lk b n ls) {s : Nat} (hs : s < n) : 0 ≤ maxL (awayM b n ls s) ∧ Tr.IsMax (distM b n ls) (· < n) s (maxL (awayM b n ls s)).toNat := by
 have hl : (awayM b n ls s).length = n := by rw [awayM, awayK_length]
 obtain ⟨h1, h2, h3⟩ := maxL_all (awayM b n ls s) 0
 rw [show (awayM b n ls s).foldl max 0 = maxL (awayM b n ls s) from rfl] at h1 h2 h3
 refine ⟨h1, fun w hw => ?_, ?_⟩
 ·have hw' : w < (awayM b n ls s).length := by rw [hl]; exact hw
  have := h2 _ (List.getElem_mem hw')
  rw [← getD_of (d := 0) hw'] at this
  rw [distM]; omega
 ·rcases h3 with h3 | h3
  ·exact ⟨s, hs, by rw [K.tree.z s hs, h3]; rfl⟩
  ·obtain ⟨w, hw, e⟩ := List.mem_iff_getElem.1 h3
   exact ⟨w, by rw [hl] at hw; exact hw, by rw [distM, getD_of hw, e]⟩
theorem depK_get {b n : Nat} {ls : List Pr} {k v : Nat} (hv : v < k) : (depK b n ls k).getD v 0 = maxL (awayM b n ls v) := by
 rw [getD_of (by rw [depK_length]; exact hv)]; simp [depK]
theorem minK_spec (D : List Int) : ∀ k, 0 < k → minK D k < k ∧ ∀ v, v < k → D.getD (minK D k) 0 ≤ D.getD v 0 ∧ (v < minK D k → D.getD (minK D k) 0 < D.getD v 0) := by
 intro k
 induction k with
 | zero => intro h; omega
 | succ k ih =>
  intro _
  rw [minK_succ, minS]
  by_cases h0 : k = 0
  ·subst h0
   have e : minK D 0 = 0 := rfl
   rw [e]
   refine ⟨by split <;> omega, fun v hv => ?_⟩
   obtain rfl : v = 0 := by omega
   split <;> omega
  ·obtain ⟨h1, h2⟩ := ih (by omega)
   split
   ·rename_i q
    refine ⟨by omega, fun v hv => ?_⟩
    by_cases e : v = k
    ·subst e; omega
    ·have := h2 v (by omega); omega
   ·rename_i q
    refine ⟨by omega, fun v hv => ?_⟩
    by_cases e : v = k
    ·subst e; omega
    ·exact h2 v (by omega)
theorem minK_is {D : List Int} {n c : Nat} (hc : c < n) (h : ∀ v, v < n → v ≠ c → D.getD c 0 ≤ D.getD v 0 ∧ (v < c → D.getD c 0 < D.getD v 0)) : minK D n = c := by
 obtain ⟨h1, h2⟩ := minK_spec D n (by omega)
 refine Classical.byContradiction fun e => ?_
 have a := h2 c hc
 have b := h (minK D n) h1 e
 rcases Nat.lt_or_gt_of_ne e with q | q
 ·have := b.2 q; omega
 ·have := a.2 q; omega
def cenM (b n : Nat) (ls : List Pr) : Nat := minK (depK b n ls n) n
theorem Lk.cen1 {b n : Nat} {ls : List Pr} (K : Lk b n ls) {S : Nat → Prop} {k : Nat} (P : Tr.PeelI n (edgesU b ls) (distM b n ls) S k) {c : Nat} (hS : ∀ v, S v ↔ v = c) : cenM b n ls = c := by
 obtain ⟨hc, h⟩ := P.one K.tree hS
 refine minK_is hc fun v hv hne => ?_
 rw [depK_get hc, depK_get hv]
 obtain ⟨p1, m1⟩ := K.ecc hc
 obtain ⟨p2, m2⟩ := K.ecc hv
 have := h v hv hne _ _ m1 m2
 omega
theorem Lk.cen2 {b n : Nat} {ls : List Pr} (K : Lk b n ls) {S : Nat → Prop} {k : Nat} (P : Tr.PeelI n (edgesU b ls) (distM b n ls) S k) {x y : Nat} (hxy : x ≠ y) (hS : ∀ v, S v ↔ v = x ∨ v = y) :
  cenM b n ls = min x y ∧ min x y < b ∧ b ≤ max x y := by
 obtain ⟨ha, hx, hy, heq, h⟩ := P.two K.tree hxy hS
 have hbip : min x y < b ∧ b ≤ max x y := by
  obtain ⟨p, hp, ⟨e1, e2⟩ | ⟨e1, e2⟩⟩ := adj_link K.ok ha <;> have := linkOK_nat (K.ok p hp) <;> omega
 refine ⟨?_, hbip⟩
 obtain ⟨p1, m1⟩ := K.ecc hx
 obtain ⟨p2, m2⟩ := K.ecc hy
 have e12 := heq _ _ m1 m2
 refine minK_is (by omega) fun v hv hne => ?_
 have hmn : min x y < n := by omega
 rw [depK_get hmn, depK_get hv]
 have hme : maxL (awayM b n ls (min x y)) = maxL (awayM b n ls x) := by
  rcases Nat.le_total x y with q | q
  ·rw [Nat.min_eq_left q]
  ·rw [Nat.min_eq_right q]; omega
 rw [hme]
 by_cases q : v = x ∨ v = y
 ·have e : maxL (awayM b n ls v) = maxL (awayM b n ls x) := by
   rcases q with rfl | rfl
   ·rfl
   ·omega
  rw [e]
  exact ⟨Int.le_refl _, fun h => by rcases q with rfl | rfl <;> omega⟩
 ·obtain ⟨p3, m3⟩ := K.ecc hv
  have := h v hv (fun e => q (.inl e)) (fun e => q (.inr e)) _ _ m1 m3
  omega
end Go.Fw
namespace Go.Fw
open Go.Proofs
set_option maxHeartbeats 16000000
set_option maxRecDepth 10000
structure Rows2 (b0 h : AHeap) (L : Nat) (us : List Value) (rows : List (List Int)) (L2 : Nat) (us2 : List Value) (rows2 : List (List Int)) : Prop where
 a : Rows b0 h L us rows
 b : Rows b0 h L2 us2 rows2
 ne : L ≠ L2
 c1 : ∀ (v : Nat) u, us[v]? = some u → blk u ≠ some L2
 c2 : ∀ (v : Nat) u, us2[v]? = some u → blk u ≠ some L
 dis : ∀ (v w : Nat) u u' q, us[v]? = some u → us2[w]? = some u' → blk u = some q → blk u' ≠ some q
theorem Rows2.swap {b0 h : AHeap} {L L2 : Nat} {us us2 : List Value} {rows rows2 : List (List Int)} (R : Rows2 b0 h L us rows L2 us2 rows2) : Rows2 b0 h L2 us2 rows2 L us rows :=
 ⟨R.b, R.a, R.ne.symm, R.c2, R.c1, fun v w u u' q h1 h2 h3 h4 => R.dis w v u' u q h2 h1 h4 h3⟩
theorem Rows2.up {b0 h h' : AHeap} {L L2 : Nat} {us us2 : List Value} {rows rows2 : List (List Int)} (R : Rows2 b0 h L us rows L2 us2 rows2) (e : Le h h') : Rows2 b0 h' L us rows L2 us2 rows2 :=
 ⟨R.a.up e, R.b.up e, R.ne, R.c1, R.c2, R.dis⟩
theorem Rows.owned {b0 h : AHeap} {L : Nat} {us : List Value} {rows : List (List Int)} (R : Rows b0 h L us rows) {v : Nat} {u : Value} {q : Nat} (hu : us[v]? = some u) (hq : blk u = some q) : ∃ o, h.own q = some o := by
 have hv := (List.getElem?_eq_some_iff.1 hu).1
 have hr := getElem?_of (show v < rows.length by rw [← R.len]; exact hv)
 exact Option.ne_none_iff_exists'.1 ((R.gs v u _ hu hr).blk_own hq)
theorem Rows2.push {b0 h : AHeap} {L L2 : Nat} {us us2 : List Value} {rows rows2 : List (List Int)} (R : Rows2 b0 h L us rows L2 us2 rows2) (hwf : WF h) {w : Nat} {r : List Int} (hr : rows[w]? = some r) (x : Int) (hq : r.length ≤ 100000) :
  ∃ u u' h4 h5 h6, us[w]? = some u ∧ aBuildSlice Try.prog h 38 1 [(0, .int .i64 x)] = some (.slice (some ⟨h.next, 0, none⟩) 1 1, h4) ∧ aAppend Try.prog h4 38 38 u (.slice (some ⟨h.next, 0, none⟩) 1 1) = some (u', h5) ∧ aStore Try.prog h5 38 (.pointer (some ⟨L, w, none⟩)) u' = some h6 ∧ Le h h4 ∧ Le b0 h5 ∧
   h4.own L = some (.cells us) ∧ h5.own L = some (.cells us) ∧ Rows2 b0 h6 L (us.set w u') (rows.set w (r ++ [x])) L2 us2 rows2 ∧ WF h6 ∧
   (∀ b o, h.own b = some o → b ≠ L → (∀ (v : Nat) a, us[v]? = some a → blk a ≠ some b) → h4.own b = some o ∧ h5.own b = some o ∧ h6.own b = some o ∧ ∀ (v : Nat) a, (us.set w u')[v]? = some a → blk a ≠ some b) := by
 obtain ⟨u, u', h4, h5, h6, hu, e4, e5, e6, l4, l5, o5, Ra, w6, keep⟩ := R.a.push hwf hr x hq
 have k2 := keep L2 _ R.b.oL R.ne.symm R.c1
 have kb : ∀ (v : Nat) u2 q, us2[v]? = some u2 → blk u2 = some q → ∀ (w' : Nat) a, us[w']? = some a → blk a ≠ some q := fun v u2 q h1 h2 w' a h3 h4 => R.dis w' v a u2 q h3 h1 h4 h2
 have Rb : Rows b0 h6 L2 us2 rows2 := ⟨k2.2.1, R.b.len, fun v u2 r2 h1 h2 => (R.b.gs v u2 r2 h1 h2).kept fun q o hq ho => (keep q o ho (fun e => R.c2 v u2 h1 (by rw [← e]; exact hq)) (kb v u2 q h1 hq)).2.1, R.b.nL, R.b.dis, R.b.ap, Ra.le, R.b.bL⟩
 refine ⟨u, u', h4, h5, h6, hu, by rw [mk1, e4], e5, e6, l4, l5, l4.own _ _ R.a.oL, o5, ⟨Ra, Rb, R.ne, k2.2.2, R.c2, fun v w' a u2 q h1 h2 h3 h4 => ?_⟩, w6, fun b o hb hbL hbu => ?_⟩
 ·obtain ⟨o, ho⟩ := R.b.owned h2 h4
  exact (keep q o ho (fun e => R.c2 w' u2 h2 (by rw [← e]; exact h4)) (kb w' u2 q h2 h4)).2.2 v a h1 h3
 ·obtain ⟨k5, k6, k7⟩ := keep b o hb hbL hbu
  exact ⟨l4.own _ _ hb, k5, k6, k7⟩
structure New3 (h h' : AHeap) (A B P : Nat) (x y p : List Value) : Prop where
 le : Le h h'
 wf : WF h'
 oA : h'.own A = some (.cells x)
 oB : h'.own B = some (.cells y)
 oP : h'.own P = some (.cells p)
 nA : h.own A = none
 nB : h.own B = none
 nP : h.own P = none
 ab : A ≠ B
 ap : A ≠ P
 bp : B ≠ P
def al3 (h : AHeap) (a b c : List Value) : AHeap := ((h.alloc (.cells a)).alloc (.cells b)).alloc (.cells c)
theorem al3_own {h : AHeap} {a b c : List Value} : (al3 h a b c).own h.next = some (.cells a) ∧ (al3 h a b c).own (h.next + 1) = some (.cells b) ∧ (al3 h a b c).own (h.next + 1 + 1) = some (.cells c) := by
 simp [al3, own_alloc, next_alloc]
 omega
theorem al3_le {h : AHeap} (hw : WF h) {a b c : List Value} : Le h (al3 h a b c) ∧ WF (al3 h a b c) :=
 ⟨(((Le.refl h).alloc hw _).alloc (hw.alloc _) _).alloc ((hw.alloc _).alloc _) _, ((hw.alloc _).alloc _).alloc _⟩
theorem new3_of {h : AHeap} (hw : WF h) {a b c x y p p0 : List Value} {A B P : Nat} (hA : h.next ≤ A) (hB : h.next ≤ B) (hP : h.next ≤ P) (ab : A ≠ B) (ap : A ≠ P) (bp : B ≠ P)
  (oA : (al3 h a b c).own A = some (.cells x)) (oB : (al3 h a b c).own B = some (.cells y)) (oP : (al3 h a b c).own P = some (.cells p0)) : New3 h ((al3 h a b c).put P (.cells p)) A B P x y p := by
 have hn : ∀ x, h.next ≤ x → h.own x = none := fun x hx => (Le.refl h).next hw hx
 obtain ⟨l, w⟩ := al3_le hw (a := a) (b := b) (c := c)
 exact ⟨l.put _ (hn P hP), w.put _ (w.lt oP), by rw [AHeap.own_put_ne _ _ _ _ ap]; exact oA, by rw [AHeap.own_put_ne _ _ _ _ bp]; exact oB, AHeap.own_put_eq _ _ _, hn A hA, hn B hB, hn P hP, ab, ap, bp⟩
theorem tsw {t e : TypeId} (ht : Try.prog.underlying t = some (.array 2 e)) (hs : tsize Try.prog t = 2) {h : AHeap} {R : Nat} {x y b c : Value} (ho : h.own R = some (.cells [x, y])) (hb : ∃ a m k, b = .slice a m k ∧ b.oneCell' = true) (hc : ∃ a m k, c = .slice a m k ∧ c.oneCell' = true) :
  aStore Try.prog h t (.pointer (some ⟨R, 0, none⟩)) (.agg #[b, c]) = some (h.put R (.cells [b, c])) := by
 obtain ⟨a1, b1, c1, rfl, o1⟩ := hb
 obtain ⟨a2, b2, c2, rfl, o2⟩ := hc
 have hcs : (Value.agg #[.slice a1 b1 c1, .slice a2 b2 c2]).cells = #[.slice a1 b1 c1, .slice a2 b2 c2] := rfl
 simp [aStore, ho, hcs, hs, putCells, ht, o1, o2]
theorem oneS (A m k : Nat) : (Value.slice (some ⟨A, 0, none⟩) m k).oneCell' = true := rfl
theorem ts101 : tsize Try.prog 123 = 2 := by kernel_rfl
theorem ts127 : tsize Try.prog 158 = 2 := by kernel_rfl
theorem ts104 : tsize Try.prog 126 = 2 := by kernel_rfl
theorem ts57 : tsize Try.prog 32 = 1 := by kernel_rfl
theorem ts100 : tsize Try.prog 25 = 1 := by kernel_rfl
theorem ts35 : tsize Try.prog 38 = 1 := by kernel_rfl
theorem alloc101 (h : AHeap) : aAlloc Try.prog h 123 = some (.pointer (some ⟨h.next, 0, none⟩), h.alloc (.cells [.slice none 0 0, .slice none 0 0])) := rfl
theorem alloc127 (h : AHeap) : aAlloc Try.prog h 158 = some (.pointer (some ⟨h.next, 0, none⟩), h.alloc (.cells [.slice none 0 0, .slice none 0 0])) := rfl
theorem alloc104 (h : AHeap) : aAlloc Try.prog h 126 = some (.pointer (some ⟨h.next, 0, none⟩), h.alloc (.cells [.slice none 0 0, .slice none 0 0])) := rfl
theorem build101 (A B n m : Nat) : aBuild Try.prog 123 [(0, .slice (some ⟨A, 0, none⟩) n n), (1, .slice (some ⟨B, 0, none⟩) m m)] = some (.agg #[.slice (some ⟨A, 0, none⟩) n n, .slice (some ⟨B, 0, none⟩) m m]) := by kernel_rfl
theorem build127 (A B n m : Nat) : aBuild Try.prog 158 [(0, .slice (some ⟨A, 0, none⟩) n n), (1, .slice (some ⟨B, 0, none⟩) m m)] = some (.agg #[.slice (some ⟨A, 0, none⟩) n n, .slice (some ⟨B, 0, none⟩) m m]) := by kernel_rfl
theorem build104 (A B n m : Nat) : aBuild Try.prog 126 [(0, .slice (some ⟨A, 0, none⟩) n n), (1, .slice (some ⟨B, 0, none⟩) m m)] = some (.agg #[.slice (some ⟨A, 0, none⟩) n n, .slice (some ⟨B, 0, none⟩) m m]) := by kernel_rfl
theorem build101e : aBuild Try.prog 123 [] = some (.agg #[.slice none 0 0, .slice none 0 0]) := by kernel_rfl
theorem ix101 (a : Addr) : aIndexAddr Try.prog 123 (.pointer (some a)) (.int .i64 0) = some (.pointer (some (aadd a 0))) ∧ aIndexAddr Try.prog 123 (.pointer (some a)) (.int .i64 1) = some (.pointer (some (aadd a 1))) := by
 simp [aIndexAddr, Try.underlying123, Try.underlying32, ts57]
theorem ix127 (a : Addr) : aIndexAddr Try.prog 158 (.pointer (some a)) (.int .i64 0) = some (.pointer (some (aadd a 0))) ∧ aIndexAddr Try.prog 158 (.pointer (some a)) (.int .i64 1) = some (.pointer (some (aadd a 1))) := by
 simp [aIndexAddr, Try.underlying158, Try.underlying25, ts100]
theorem ix104 (a : Addr) : aIndexAddr Try.prog 126 (.pointer (some a)) (.int .i64 0) = some (.pointer (some (aadd a 0))) ∧ aIndexAddr Try.prog 126 (.pointer (some a)) (.int .i64 1) = some (.pointer (some (aadd a 1))) := by
 simp [aIndexAddr, Try.underlying126, Try.underlying38, ts35]
theorem mk57 (h : AHeap) (n : Nat) (hn : n ≤ 1000) : aMakeSlice Try.prog h 32 (.int .i64 (n : Int)) (.int .i64 (n : Int)) = some (.slice (some ⟨h.next, 0, none⟩) n n, h.alloc (.cells (List.replicate n (.slice none 0 0)))) :=
 aMakeSlice1 (P := Try.prog) (t := 32) (z := .slice none 0 0) h Try.underlying32 (by kernel_rfl) rfl rfl rfl (by kernel_rfl) Try.underlying38 (by kernel_rfl) n (by omega)
theorem mk100 (h : AHeap) (n : Nat) (hn : n ≤ 1000) : aMakeSlice Try.prog h 25 (.int .i64 (n : Int)) (.int .i64 (n : Int)) = some (.slice (some ⟨h.next, 0, none⟩) n n, h.alloc (.cells (List.replicate n (.bool false)))) :=
 aMakeSlice1 (P := Try.prog) (t := 25) (z := .bool false) h Try.underlying25 rfl rfl rfl rfl (by kernel_rfl) Try.underlying4 (by kernel_rfl) n (by omega)
theorem mk35 (h : AHeap) (n : Nat) (hn : n ≤ 1000) : aMakeSlice Try.prog h 38 (.int .i64 (n : Int)) (.int .i64 (n : Int)) = some (.slice (some ⟨h.next, 0, none⟩) n n, h.alloc (.cells (List.replicate n (.int .i64 0)))) :=
 aMakeSlice1 (P := Try.prog) (t := 38) (z := .int .i64 0) h Try.underlying38 rfl rfl rfl rfl (by kernel_rfl) Try.underlying3 (by kernel_rfl) n (by omega)
theorem ts107 : tsize Try.prog 129 = 2 := by kernel_rfl
theorem alloc107 (h : AHeap) : aAlloc Try.prog h 129 = some (.pointer (some ⟨h.next, 0, none⟩), h.alloc (.cells [.int .i64 0, .int .i64 0])) := rfl
theorem store107 {h : AHeap} {w : Nat} {x y : Value} {p : Pr} (ho : h.own w = some (.cells [x, y])) : aStore Try.prog h 129 (.pointer (some ⟨w, 0, none⟩)) (valP p) = some (h.put w (.cells (cellsP p))) := by
 simp [aStore, ho, valP, Value.cells, ts107, putCells, cellsP, Try.underlying129]
 exact ⟨rfl, rfl⟩
theorem load107 {h : AHeap} {w : Nat} {p : Pr} (ho : h.own w = some (.cells (cellsP p))) : aload Try.prog h 129 ⟨w, 0, none⟩ = some (valP p) := by
 rw [aload_own Try.underlying129 rfl ts107 ho (by simp [cellsP])]; rfl
theorem new107 {h : AHeap} (hw : WF h) (p : Pr) : ∃ h1 h2, aAlloc Try.prog h 129 = some (.pointer (some ⟨h.next, 0, none⟩), h1) ∧ aStore Try.prog h1 129 (.pointer (some ⟨h.next, 0, none⟩)) (valP p) = some h2 ∧ Le h h2 ∧ WF h2 ∧ h2.own h.next = some (.cells (cellsP p)) := by
 obtain ⟨h1, e1, l1, w1, o1⟩ := alloc_f hw [.int .i64 0, .int .i64 0]
 have nw : h.own h.next = none := (Le.refl h).next hw (Nat.le_refl _)
 exact ⟨h1, _, by rw [alloc107, e1], store107 o1, l1.put _ nw, w1.put _ (w1.lt o1), AHeap.own_put_eq _ _ _⟩
theorem nf0 (a : Addr) : aField Try.prog 129 (.pointer (some a)) 0 = some (.pointer (some (aadd a 0))) := by kernel_rfl
theorem nf1 (a : Addr) : aField Try.prog 129 (.pointer (some a)) 1 = some (.pointer (some (aadd a 1))) := by kernel_rfl
theorem build107 (a b : Int) : aBuild Try.prog 129 [(0, .int .i64 a), (1, .int .i64 b)] = some (valP (a, b)) := by kernel_rfl
theorem PR.len105 {h : AHeap} {v : Value} {ps : List Pr} (r : PR h v ps) (g : AHeap) : aLen Try.prog g 127 v = some (.int .i64 ps.length) := by
 obtain ⟨a, c, rfl, _⟩ := r.sl; simp [aLen, Try.underlying127]
theorem PR.addr105 {h : AHeap} {v : Value} {ps : List Pr} (r : PR h v ps) {k : IntKind} (i : Nat) (hi : i < ps.length) : aIndexAddr Try.prog 127 v (.int k i) = some (.pointer (some (pAddr v i))) := by
 obtain ⟨a, c, rfl, hs⟩ := r.sl
 obtain ⟨a, rfl⟩ := Option.isSome_iff_exists.1 (hs (by omega))
 have h1 : (i : Int) < (ps.length : Int) := by omega
 simp [aIndexAddr, Try.underlying127, Try.underlying129, h1, ts107, pAddr, elemAddr_mk]
theorem PR.load107 {h : AHeap} {v : Value} {ps : List Pr} (r : PR h v ps) {i : Nat} {p : Pr} (hp : ps[i]? = some p) : aload Try.prog h 129 (pAddr v i) = some (valP p) := by
 obtain ⟨g1, g2⟩ := r.get hp
 have hrd : readN h (pAddr v i) 2 = some [.int .i64 p.1, .int .i64 p.2] := by
  refine readN_get [.int .i64 p.1, .int .i64 p.2] _ fun j x hx => ?_
  match j with
  | 0 => simp at hx; subst hx; exact g1
  | 1 => simp at hx; subst hx; exact g2
  | j + 2 => simp at hx
 simp [aload, Try.underlying129, isAggD, ts107, hrd, valP]
end Go.Fw
namespace Go.Fw
open Go.Proofs
set_option maxHeartbeats 16000000
set_option maxRecDepth 10000
def rB (ls : List Pr) (v : Nat) : List Int := (ls.filter fun p => decide (p.1 = (v : Int))).map (·.2)
def rC (ls : List Pr) (v : Nat) : List Int := (ls.filter fun p => decide (p.2 = (v : Int))).map (·.1)
def rowsB (b : Nat) (ls : List Pr) : List (List Int) := (List.range b).map (rB ls)
def rowsC (m : Nat) (ls : List Pr) : List (List Int) := (List.range m).map (rC ls)
theorem rowsB_length (b : Nat) (ls : List Pr) : (rowsB b ls).length = b := by simp [rowsB]
theorem rowsC_length (b : Nat) (ls : List Pr) : (rowsC b ls).length = b := by simp [rowsC]
theorem rowsB_get {b v : Nat} (ls : List Pr) (h : v < b) : (rowsB b ls)[v]? = some (rB ls v) := by simp [rowsB, h]
theorem rowsC_get {b v : Nat} (ls : List Pr) (h : v < b) : (rowsC b ls)[v]? = some (rC ls v) := by simp [rowsC, h]
theorem rB_len (ls : List Pr) (v : Nat) : (rB ls v).length ≤ ls.length := by rw [rB, List.length_map]; exact List.length_filter_le _ _
theorem rC_len (ls : List Pr) (v : Nat) : (rC ls v).length ≤ ls.length := by rw [rC, List.length_map]; exact List.length_filter_le _ _
theorem rows_snoc {f : List Pr → Nat → List Int} {b a : Nat} {ls : List Pr} {p : Pr} {x : Int} (ha : a < b) (h1 : f (ls ++ [p]) a = f ls a ++ [x]) (h2 : ∀ v, v ≠ a → f (ls ++ [p]) v = f ls v) :
  (List.range b).map (f (ls ++ [p])) = ((List.range b).map (f ls)).set a (f ls a ++ [x]) := by
 apply List.ext_getElem?
 intro i
 rw [List.getElem?_set, List.getElem?_map, List.length_map, List.length_range]
 by_cases e : a = i
 ·subst e
  rw [if_pos rfl, if_pos ha, List.getElem?_range ha, Option.map_some, h1]
 ·rw [if_neg e, List.getElem?_map]
  by_cases hi : i < b
  ·rw [List.getElem?_range hi, Option.map_some, Option.map_some, h2 i (Ne.symm e)]
  ·rw [List.getElem?_eq_none (by simp; omega)]; rfl
theorem rowsB_snoc {b a : Nat} {ls : List Pr} {p : Pr} (ha : a < b) (e : p.1 = (a : Int)) : rowsB b (ls ++ [p]) = (rowsB b ls).set a (rB ls a ++ [p.2]) :=
 rows_snoc (f := rB) ha (by simp [rB, List.filter_append, e]) fun v hv => by
  have : ¬ ((a : Int) = (v : Int)) := by omega
  simp [rB, List.filter_append, e, this]
theorem rowsC_snoc {b a : Nat} {ls : List Pr} {p : Pr} (ha : a < b) (e : p.2 = (a : Int)) : rowsC b (ls ++ [p]) = (rowsC b ls).set a (rC ls a ++ [p.1]) :=
 rows_snoc (f := rC) ha (by simp [rC, List.filter_append, e]) fun v hv => by
  have : ¬ ((a : Int) = (v : Int)) := by omega
  simp [rC, List.filter_append, e, this]
theorem mk105 (h : AHeap) (p : Pr) : aBuildSlice Try.prog h 127 1 [(0, valP p)] = some (.slice (some ⟨h.next, 0, none⟩) 1 1, h.alloc (.cells (cellsP p))) := rfl
theorem GP.push105 {h : AHeap} {v : Value} {ps : List Pr} (g : GP h v ps) (hwf : WF h) (p : Pr) (hn : ps.length + 1 ≤ 100000) :
  ∃ v' h4 h5, aBuildSlice Try.prog h 127 1 [(0, valP p)] = some (.slice (some ⟨h.next, 0, none⟩) 1 1, h4) ∧ aAppend Try.prog h4 127 127 v (.slice (some ⟨h.next, 0, none⟩) 1 1) = some (v', h5) ∧ GP h5 v' (ps ++ [p]) ∧ WF h5 ∧ Le h h4 ∧
   (∀ f, Le f h → Apart f v → Le f h5 ∧ Apart f v') ∧ (∀ b o, h.own b = some o → blk v ≠ some b → h5.own b = some o ∧ blk v' ≠ some b) := by
 obtain ⟨h4, e4, l4, w4, o4⟩ := alloc_f hwf (cellsP p)
 have hx : PR h4 (.slice (some ⟨h.next, 0, none⟩) 1 1) [p] := by
  have := CS.own (k := 2) (off := 0) (n := 1) (cap := 1) o4 (by simp [cellsP])
  exact this
 obtain ⟨v', h5, e5, g5, hf⟩ := GS.append (P := Try.prog) (t := 127) (xt := 127) (k := 2) (by kernel_rfl) (GS.le g l4) (fun e he => CS.src he hx) (flatP_one _) (flatP_one _) (flatP_length _) (by simp; omega)
 refine ⟨v', h4, h5, by rw [mk105, e4], e5, ?_, aAppend_wf w4 e5, l4, fun f lf af => hf f w4 (lf.trans l4) af, fun b o ho hb => keep_own hf w4 (l4.own _ _ ho) hb⟩
 rw [GP, List.length_append, flatP_append]; exact g5
def nodeP (b v : Nat) : Pr := if v < b then (0, (v : Int)) else (1, ((v - b : Nat) : Int))
structure BfsI (b m n : Nat) (E : List Pr) (met : List Nat) (mB mC : List Bool) : Prop where
 lB : mB.length = b
 lC : mC.length = m
 mb : ∀ v, v < b → (mB.getD v false = true ↔ v ∈ met)
 mc : ∀ v, v < m → (mC.getD v false = true ↔ b + v ∈ met)
 nd : met.Nodup
 lt : ∀ v ∈ met, v < n
 con : ∀ v ∈ met, Con E 0 v
 z : 0 ∈ met
theorem getD_setB (l : List Bool) (c v : Nat) (hc : c < l.length) : (l.set c true).getD v false = true ↔ v = c ∨ l.getD v false = true := by
 rw [getD_set]
 by_cases e : c = v
 ·rw [if_pos ⟨e, hc⟩]; simp [e]
 ·rw [if_neg (fun h => e h.1)]; simp [Ne.symm e]
theorem BfsI.addB {b m n : Nat} {E : List Pr} {met : List Nat} {mB mC : List Bool} (I : BfsI b m n E met mB mC) (hbm : b + m = n) {v c : Nat} (hc : c < b) (hn : c ∉ met) (hv : v ∈ met) (ha : adj E v c) : BfsI b m n E (met ++ [c]) (mB.set c true) mC := by
 refine ⟨by rw [List.length_set]; exact I.lB, I.lC, fun w hw => ?_, fun w hw => ?_, ?_, fun w hw => ?_, fun w hw => ?_, by simp [I.z]⟩
 ·rw [getD_setB _ _ _ (by rw [I.lB]; exact hc), I.mb w hw, List.mem_append, List.mem_singleton]; exact or_comm
 ·rw [I.mc w hw, List.mem_append, List.mem_singleton]
  constructor
  ·exact .inl
  ·rintro (h | h)
   ·exact h
   ·omega
 ·rw [List.nodup_append]; exact ⟨I.nd, by simp, fun a h1 d h2 e => hn (by rw [List.mem_singleton] at h2; subst h2; subst e; exact h1)⟩
 ·rw [List.mem_append, List.mem_singleton] at hw
  rcases hw with hw | rfl
  ·exact I.lt w hw
  ·omega
 ·rw [List.mem_append, List.mem_singleton] at hw
  rcases hw with hw | rfl
  ·exact I.con w hw
  ·exact (I.con v hv).step ha rfl
theorem BfsI.addC {b m n : Nat} {E : List Pr} {met : List Nat} {mB mC : List Bool} (I : BfsI b m n E met mB mC) (hbm : b + m = n) {v c : Nat} (hc : c < m) (hn : b + c ∉ met) (hv : v ∈ met) (ha : adj E v (b + c)) : BfsI b m n E (met ++ [b + c]) mB (mC.set c true) := by
 refine ⟨I.lB, by rw [List.length_set]; exact I.lC, fun w hw => ?_, fun w hw => ?_, ?_, fun w hw => ?_, fun w hw => ?_, by simp [I.z]⟩
 ·rw [I.mb w hw, List.mem_append, List.mem_singleton]
  constructor
  ·exact .inl
  ·rintro (h | h)
   ·exact h
   ·omega
 ·rw [getD_setB _ _ _ (by rw [I.lC]; exact hc), I.mc w hw, List.mem_append, List.mem_singleton]
  constructor
  ·rintro (h | h)
   ·exact .inr (by omega)
   ·exact .inl h
  ·rintro (h | h)
   ·exact .inr h
   ·exact .inl (by omega)
 ·rw [List.nodup_append]; exact ⟨I.nd, by simp, fun a h1 d h2 e => hn (by rw [List.mem_singleton] at h2; subst h2; subst e; exact h1)⟩
 ·rw [List.mem_append, List.mem_singleton] at hw
  rcases hw with hw | rfl
  ·exact I.lt w hw
  ·omega
 ·rw [List.mem_append, List.mem_singleton] at hw
  rcases hw with hw | rfl
  ·exact I.con w hw
  ·exact (I.con v hv).step ha rfl
theorem BfsI.all {b m n : Nat} {E : List Pr} {met : List Nat} {mB mC : List Bool} (I : BfsI b m n E met mB mC) (hcl : ∀ v ∈ met, ∀ u, adj E v u → u ∈ met) : met.length = n ↔ ∀ v, v < n → Con E 0 v := by
 have hin : ∀ v, Con E 0 v → v ∈ met := fun v h => by
  induction h with
  | refl _ => exact I.z
  | step _ a _ ih => exact hcl _ ih _ a
 constructor
 ·intro hl v hv
  refine I.con v (Classical.byContradiction fun hn => ?_)
  have nd : (v :: met).Nodup := List.nodup_cons.2 ⟨hn, I.nd⟩
  have := nd.length_le_of_subset (l₂ := List.range n) fun x hx => by
   rcases List.mem_cons.1 hx with rfl | hx
   ·exact List.mem_range.2 hv
   ·exact List.mem_range.2 (I.lt x hx)
  simp at this; omega
 ·intro h
  have h1 := I.nd.length_le_of_subset (l₂ := List.range n) fun x hx => List.mem_range.2 (I.lt x hx)
  have h2 := (List.nodup_range (n := n)).length_le_of_subset (l₂ := met) fun x hx => hin x (h x (List.mem_range.1 hx))
  simp at h1 h2; omega
theorem rB_mem {b n : Nat} {ls : List Pr} (h : ∀ p ∈ ls, LinkOK b n p) {v : Nat} {x : Int} : x ∈ rB ls v → ∃ c : Nat, x = (c : Int) ∧ b + c < n ∧ adj (edgesU b ls) v (b + c) := fun hx => by
 rw [rB, List.mem_map] at hx
 obtain ⟨p, hp, rfl⟩ := hx
 rw [List.mem_filter, decide_eq_true_eq] at hp
 have L := linkOK_nat (h p hp.1)
 have ha := link_adj hp.1 (h p hp.1)
 refine ⟨p.2.toNat, L.2.2.2.1, L.2.1, ?_⟩
 rwa [show v = p.1.toNat by omega]
theorem rC_mem {b n : Nat} {ls : List Pr} (h : ∀ p ∈ ls, LinkOK b n p) {v : Nat} {x : Int} : x ∈ rC ls v → ∃ c : Nat, x = (c : Int) ∧ c < b ∧ adj (edgesU b ls) (b + v) c := fun hx => by
 rw [rC, List.mem_map] at hx
 obtain ⟨p, hp, rfl⟩ := hx
 rw [List.mem_filter, decide_eq_true_eq] at hp
 have L := linkOK_nat (h p hp.1)
 have ha := (link_adj hp.1 (h p hp.1)).symm
 refine ⟨p.1.toNat, L.2.2.1, L.2.2.2.2, ?_⟩
 rwa [show b + v = b + p.2.toNat by omega]
theorem adj_rB {b n : Nat} {ls : List Pr} (h : ∀ p ∈ ls, LinkOK b n p) {v u : Nat} (hv : v < b) (ha : adj (edgesU b ls) v u) : b ≤ u ∧ ((u - b : Nat) : Int) ∈ rB ls v := by
 obtain ⟨p, hp, ⟨e1, e2⟩ | ⟨e1, e2⟩⟩ := adj_link h ha
 ·have L := linkOK_nat (h p hp)
  refine ⟨by omega, ?_⟩
  rw [rB, List.mem_map]
  exact ⟨p, List.mem_filter.2 ⟨hp, decide_eq_true (by omega)⟩, by omega⟩
 ·omega
theorem adj_rC {b n : Nat} {ls : List Pr} (h : ∀ p ∈ ls, LinkOK b n p) {v u : Nat} (ha : adj (edgesU b ls) (b + v) u) : u < b ∧ (u : Int) ∈ rC ls v := by
 obtain ⟨p, hp, ⟨e1, e2⟩ | ⟨e1, e2⟩⟩ := adj_link h ha
 ·have L := linkOK_nat (h p hp); omega
 ·have L := linkOK_nat (h p hp)
  refine ⟨by omega, ?_⟩
  rw [rC, List.mem_map]
  exact ⟨p, List.mem_filter.2 ⟨hp, decide_eq_true (by omega)⟩, by omega⟩
end Go.Fw
