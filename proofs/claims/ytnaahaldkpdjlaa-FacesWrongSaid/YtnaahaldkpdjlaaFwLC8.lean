/- A text of the proof. -/
import Derived.Test.YtnaahaldkpdjlaaFwLC7
import Derived.Test.YtnaahaldkpdjlaaFwLBR
import Derived.Test.YtnaahaldkpdjlaaFwFrame
set_option linter.unusedSimpArgs false
set_option linter.unusedVariables false
namespace Go.Fw
set_option maxRecDepth 10000
attribute [local instance] Classical.propDecidable
structure Lk (b n : Nat) (ls : List Pr) : Prop where
 n0 : n ≠ 0
 len : ls.length + 1 = n
 ok : ∀ p ∈ ls, LinkOK b n p
 con : ∀ v, v < n → Con (edgesU b ls) 0 v
def distM (b n : Nat) (ls : List Pr) (s v : Nat) : Nat := ((awayM b n ls s).getD v 0).toNat
theorem Lk.pos {b n : Nat} {ls : List Pr} (K : Lk b n ls) {s v : Nat} (hs : s < n) (hv : v < n) : 0 ≤ (awayM b n ls s).getD v 0 :=
 ((awayM_far K.ok hs).con (edgesU_in K.ok) hs hv).2 ((K.con s hs).symm.trans (K.con v hv))
theorem Lk.tree {b n : Nat} {ls : List Pr} (K : Lk b n ls) : Tr n (edgesU b ls) (distM b n ls) where
 rng := edgesU_in K.ok
 z := fun v hv => by rw [distM, ((awayM_far K.ok hv).zero v hv).2 rfl]; rfl
 z' := fun v w hv hw e => by
  have := K.pos hv hw
  rw [distM] at e
  exact (((awayM_far K.ok hv).zero w hw).1 (by omega)).symm
 pre := fun v w hv hw hne => by
  have h0 := K.pos hv hw
  have h1 : (awayM b n ls v).getD w 0 ≠ 0 := fun e => hne (((awayM_far K.ok hv).zero w hw).1 e).symm
  obtain ⟨u, hu, ha, e⟩ := (awayM_far K.ok hv).pre w hw (by omega)
  exact ⟨u, hu, ha, by rw [distM, distM, e]; omega⟩
 tri := fun v u w hv ha => by
  have h0 := K.pos hv (ha.lt (edgesU_in K.ok)).1
  have := (awayM_far K.ok hv).tri (edgesU_in K.ok) ha h0
  rw [distM, distM]; omega
 cnt := by rw [edgesU, List.length_map]; exact K.len
theorem good_lk {b n : Nat} {ls : List Pr} : GoodT b n ls ↔ Lk b n ls := by
 constructor
 ·intro G
  refine ⟨G.n0, G.len, G.ok, fun v hv => ?_⟩
  have h0 : 0 < n := by have := G.n0; omega
  refine ((awayM_far G.ok h0).con (edgesU_in G.ok) h0 hv).1 (G.all 0 h0 _ ?_)
  have hl : v < (awayM b n ls 0).length := by rw [awayM, awayK_length]; exact hv
  rw [getD_of hl]; exact List.getElem_mem hl
 ·intro K
  refine ⟨K.n0, K.len, K.ok, ?_, fun s hs x hx => ?_⟩
  ·have := K.tree.nodup
   rw [edgesU] at this
   rw [List.nodup_iff_pairwise_ne] at this ⊢
   rw [List.pairwise_map] at this
   exact this.imp fun h e => h (by rw [e])
  ·obtain ⟨v, hv, e⟩ := List.mem_iff_getElem.1 hx
   have hvn : v < n := by rw [awayM, awayK_length] at hv; exact hv
   have := K.pos hs hvn
   rw [getD_of hv, e] at this; exact this
theorem maxL_all : ∀ (L : List Int) (a : Int), a ≤ L.foldl max a ∧ (∀ x ∈ L, x ≤ L.foldl max a) ∧ (L.foldl max a = a ∨ L.foldl max a ∈ L)
 | [], a => ⟨Int.le_refl _, fun x hx => (by cases hx), .inl rfl⟩
 | y :: L, a => by
  obtain ⟨h1, h2, h3⟩ := maxL_all L (max a y)
  rw [List.foldl_cons]
  refine ⟨by omega, fun x hx => ?_, ?_⟩
  ·rcases List.mem_cons.1 hx with rfl | hx
   ·omega
   ·exact h2 x hx
  ·rcases h3 with h3 | h3
   ·rw [h3]
    rcases Int.le_total a y with q | q
    ·right; rw [Int.max_eq_right q]; simp
    ·left; exact Int.max_eq_left q
   ·right; exact List.mem_cons_of_mem _ h3
theorem Lk.ecc {b n : Nat} {ls : List Pr} (K : Lk b n ls) {s : Nat} (hs : s < n) : 0 ≤ maxL (awayM b n ls s) ∧ Tr.IsMax (distM b n ls) (· < n) s (maxL (awayM b n ls s)).toNat := by
 have hl : (awayM b n ls s).length = n := by rw [awayM, awayK_length]
 obtain ⟨h1, h2, h3⟩ := maxL_all (awayM b n ls s) 0
 rw [show (awayM b n ls s).foldl max 0 = maxL (awayM b n ls s) from rfl] at h1 h2 h3
 refine ⟨h1, fun w hw => ?_, ?_⟩
 ·have hw' : w < (awayM b n ls s).length := by rw [hl]; exact hw
  have := h2 _ (List.getElem_mem hw')
  rw [← getD_of (d := 0) hw'] at this
  rw [distM]; omega
 ·rcases h3 with h3 | h3
  ·exact ⟨s, hs, by rw [K.tree.z s hs, h3]; rfl⟩
  ·obtain ⟨w, hw, e⟩ := List.mem_iff_getElem.1 h3
   exact ⟨w, by rw [hl] at hw; exact hw, by rw [distM, getD_of hw, e]⟩
end Go.Fw
namespace Go.Fw
open Go.Proofs
set_option maxHeartbeats 16000000
set_option maxRecDepth 10000
structure Rows2 (b0 h : AHeap) (L : Nat) (us : List Value) (rows : List (List Int)) (L2 : Nat) (us2 : List Value) (rows2 : List (List Int)) : Prop where
 a : Rows b0 h L us rows
 b : Rows b0 h L2 us2 rows2
 ne : L ≠ L2
 c1 : ∀ (v : Nat) u, us[v]? = some u → blk u ≠ some L2
 c2 : ∀ (v : Nat) u, us2[v]? = some u → blk u ≠ some L
 dis : ∀ (v w : Nat) u u' q, us[v]? = some u → us2[w]? = some u' → blk u = some q → blk u' ≠ some q
theorem Rows2.up {b0 h h' : AHeap} {L L2 : Nat} {us us2 : List Value} {rows rows2 : List (List Int)} (R : Rows2 b0 h L us rows L2 us2 rows2) (e : Le h h') : Rows2 b0 h' L us rows L2 us2 rows2 :=
 ⟨R.a.up e, R.b.up e, R.ne, R.c1, R.c2, R.dis⟩
structure New3 (h h' : AHeap) (A B P : Nat) (x y p : List Value) : Prop where
 le : Le h h'
 wf : WF h'
 oA : h'.own A = some (.cells x)
 oB : h'.own B = some (.cells y)
 oP : h'.own P = some (.cells p)
 nA : h.own A = none
 nB : h.own B = none
 nP : h.own P = none
 ab : A ≠ B
 ap : A ≠ P
 bp : B ≠ P
def al3 (h : AHeap) (a b c : List Value) : AHeap := ((h.alloc (.cells a)).alloc (.cells b)).alloc (.cells c)
theorem al3_own {h : AHeap} {a b c : List Value} : (al3 h a b c).own h.next = some (.cells a) ∧ (al3 h a b c).own (h.next + 1) = some (.cells b) ∧ (al3 h a b c).own (h.next + 1 + 1) = some (.cells c) := by
 simp [al3, own_alloc, next_alloc]
 omega
theorem tsw {t e : TypeId} (ht : Try.prog.underlying t = some (.array 2 e)) (hs : tsize Try.prog t = 2) {h : AHeap} {R : Nat} {x y b c : Value} (ho : h.own R = some (.cells [x, y])) (hb : ∃ a m k, b = .slice a m k ∧ b.oneCell' = true) (hc : ∃ a m k, c = .slice a m k ∧ c.oneCell' = true) :
  aStore Try.prog h t (.pointer (some ⟨R, 0, none⟩)) (.agg #[b, c]) = some (h.put R (.cells [b, c])) := by
 obtain ⟨a1, b1, c1, rfl, o1⟩ := hb
 obtain ⟨a2, b2, c2, rfl, o2⟩ := hc
 have hcs : (Value.agg #[.slice a1 b1 c1, .slice a2 b2 c2]).cells = #[.slice a1 b1 c1, .slice a2 b2 c2] := rfl
 simp [aStore, ho, hcs, hs, putCells, ht, o1, o2]
theorem oneS (A m k : Nat) : (Value.slice (some ⟨A, 0, none⟩) m k).oneCell' = true := rfl
end Go.Fw
namespace Go.Fw
open Go.Proofs
set_option maxHeartbeats 16000000
set_option maxRecDepth 10000
def rB (ls : List Pr) (v : Nat) : List Int := (ls.filter fun p => decide (p.1 = (v : Int))).map (·.2)
def rC (ls : List Pr) (v : Nat) : List Int := (ls.filter fun p => decide (p.2 = (v : Int))).map (·.1)
structure BfsI (b m n : Nat) (E : List Pr) (met : List Nat) (mB mC : List Bool) : Prop where
 lB : mB.length = b
 lC : mC.length = m
 mb : ∀ v, v < b → (mB.getD v false = true ↔ v ∈ met)
 mc : ∀ v, v < m → (mC.getD v false = true ↔ b + v ∈ met)
 nd : met.Nodup
 lt : ∀ v ∈ met, v < n
 con : ∀ v ∈ met, Con E 0 v
 z : 0 ∈ met
theorem BfsI.all {b m n : Nat} {E : List Pr} {met : List Nat} {mB mC : List Bool} (I : BfsI b m n E met mB mC) (hcl : ∀ v ∈ met, ∀ u, adj E v u → u ∈ met) : met.length = n ↔ ∀ v, v < n → Con E 0 v := by
 have hin : ∀ v, Con E 0 v → v ∈ met := fun v h => by
  induction h with
  | refl _ => exact I.z
  | step _ a _ ih => exact hcl _ ih _ a
 constructor
 ·intro hl v hv
  refine I.con v (Classical.byContradiction fun hn => ?_)
  have nd : (v :: met).Nodup := List.nodup_cons.2 ⟨hn, I.nd⟩
  have := nd.length_le_of_subset (l₂ := List.range n) fun x hx => by
   rcases List.mem_cons.1 hx with rfl | hx
   ·exact List.mem_range.2 hv
   ·exact List.mem_range.2 (I.lt x hx)
  simp at this; omega
 ·intro h
  have h1 := I.nd.length_le_of_subset (l₂ := List.range n) fun x hx => List.mem_range.2 (I.lt x hx)
  have h2 := (List.nodup_range (n := n)).length_le_of_subset (l₂ := met) fun x hx => hin x (h x (List.mem_range.1 hx))
  simp at h1 h2; omega
theorem rB_mem {b n : Nat} {ls : List Pr} (h : ∀ p ∈ ls, LinkOK b n p) {v : Nat} {x : Int} : x ∈ rB ls v → ∃ c : Nat, x = (c : Int) ∧ b + c < n ∧ adj (edgesU b ls) v (b + c) := fun hx => by
 rw [rB, List.mem_map] at hx
 obtain ⟨p, hp, rfl⟩ := hx
 rw [List.mem_filter, decide_eq_true_eq] at hp
 have L := linkOK_nat (h p hp.1)
 have ha := link_adj hp.1 (h p hp.1)
 refine ⟨p.2.toNat, L.2.2.2.1, L.2.1, ?_⟩
 rwa [show v = p.1.toNat by omega]
theorem rC_mem {b n : Nat} {ls : List Pr} (h : ∀ p ∈ ls, LinkOK b n p) {v : Nat} {x : Int} : x ∈ rC ls v → ∃ c : Nat, x = (c : Int) ∧ c < b ∧ adj (edgesU b ls) (b + v) c := fun hx => by
 rw [rC, List.mem_map] at hx
 obtain ⟨p, hp, rfl⟩ := hx
 rw [List.mem_filter, decide_eq_true_eq] at hp
 have L := linkOK_nat (h p hp.1)
 have ha := (link_adj hp.1 (h p hp.1)).symm
 refine ⟨p.1.toNat, L.2.2.1, L.2.2.2.2, ?_⟩
 rwa [show b + v = b + p.2.toNat by omega]
theorem adj_rB {b n : Nat} {ls : List Pr} (h : ∀ p ∈ ls, LinkOK b n p) {v u : Nat} (hv : v < b) (ha : adj (edgesU b ls) v u) : b ≤ u ∧ ((u - b : Nat) : Int) ∈ rB ls v := by
 obtain ⟨p, hp, ⟨e1, e2⟩ | ⟨e1, e2⟩⟩ := adj_link h ha
 ·have L := linkOK_nat (h p hp)
  refine ⟨by omega, ?_⟩
  rw [rB, List.mem_map]
  exact ⟨p, List.mem_filter.2 ⟨hp, decide_eq_true (by omega)⟩, by omega⟩
 ·omega
theorem adj_rC {b n : Nat} {ls : List Pr} (h : ∀ p ∈ ls, LinkOK b n p) {v u : Nat} (ha : adj (edgesU b ls) (b + v) u) : u < b ∧ (u : Int) ∈ rC ls v := by
 obtain ⟨p, hp, ⟨e1, e2⟩ | ⟨e1, e2⟩⟩ := adj_link h ha
 ·have L := linkOK_nat (h p hp); omega
 ·have L := linkOK_nat (h p hp)
  refine ⟨by omega, ?_⟩
  rw [rC, List.mem_map]
  exact ⟨p, List.mem_filter.2 ⟨hp, decide_eq_true (by omega)⟩, by omega⟩
end Go.Fw
namespace Go.Fw
open Go.Proofs
attribute [local irreducible] KO4 KO3 KO2 KO1 KO KN KX KE VK KCond KDraw KCall KLoop
set_option maxHeartbeats 16000000
set_option maxRecDepth 10000
theorem st3 {t e : TypeId} (ht : Try.prog.underlying t = some (.array 2 e)) (hs : tsize Try.prog t = 2) {h : AHeap} (c d : List Value) (x y n m : Nat) :
  aStore Try.prog (al3 h [.slice none 0 0, .slice none 0 0] c d) t (.pointer (some ⟨h.next, 0, none⟩)) (.agg #[.slice (some ⟨x, 0, none⟩) n n, .slice (some ⟨y, 0, none⟩) m m]) = some ((al3 h [.slice none 0 0, .slice none 0 0] c d).put h.next (.cells [.slice (some ⟨x, 0, none⟩) n n, .slice (some ⟨y, 0, none⟩) m m])) ∧
  aStore Try.prog (al3 h c [.slice none 0 0, .slice none 0 0] d) t (.pointer (some ⟨h.next + 1, 0, none⟩)) (.agg #[.slice (some ⟨x, 0, none⟩) n n, .slice (some ⟨y, 0, none⟩) m m]) = some ((al3 h c [.slice none 0 0, .slice none 0 0] d).put (h.next + 1) (.cells [.slice (some ⟨x, 0, none⟩) n n, .slice (some ⟨y, 0, none⟩) m m])) ∧
  aStore Try.prog (al3 h c d [.slice none 0 0, .slice none 0 0]) t (.pointer (some ⟨h.next + 1 + 1, 0, none⟩)) (.agg #[.slice (some ⟨x, 0, none⟩) n n, .slice (some ⟨y, 0, none⟩) m m]) = some ((al3 h c d [.slice none 0 0, .slice none 0 0]).put (h.next + 1 + 1) (.cells [.slice (some ⟨x, 0, none⟩) n n, .slice (some ⟨y, 0, none⟩) m m])) :=
 ⟨tsw ht hs al3_own.1 ⟨_, _, _, rfl, oneS x n n⟩ ⟨_, _, _, rfl, oneS y m m⟩, tsw ht hs al3_own.2.1 ⟨_, _, _, rfl, oneS x n n⟩ ⟨_, _, _, rfl, oneS y m m⟩, tsw ht hs al3_own.2.2 ⟨_, _, _, rfl, oneS x n n⟩ ⟨_, _, _, rfl, oneS y m m⟩⟩
end Go.Fw
namespace Go.Fw
set_option maxRecDepth 10000
def nbU (b : Nat) (ls : List Pr) (v : Nat) : List Nat := if v < b then (rB ls v).map fun x => b + x.toNat else (rC ls (v - b)).map fun x => x.toNat
theorem nbU_mem {b n : Nat} {ls : List Pr} (h : ∀ p ∈ ls, LinkOK b n p) {v u : Nat} : u ∈ nbU b ls v ↔ adj (edgesU b ls) v u := by
 unfold nbU
 by_cases hv : v < b
 ·rw [if_pos hv, List.mem_map]
  constructor
  ·rintro ⟨x, hx, rfl⟩
   obtain ⟨c, rfl, _, ha⟩ := rB_mem h hx
   simpa using ha
  ·intro ha
   obtain ⟨h1, h2⟩ := adj_rB h hv ha
   exact ⟨_, h2, by omega⟩
 ·rw [if_neg hv, List.mem_map]
  have e : b + (v - b) = v := by omega
  constructor
  ·rintro ⟨x, hx, rfl⟩
   obtain ⟨c, rfl, _, ha⟩ := rC_mem h hx
   rw [e] at ha; simpa using ha
  ·intro ha
   obtain ⟨h1, h2⟩ := adj_rC h (v := v - b) (u := u) (by rwa [e])
   exact ⟨_, h2, by omega⟩
theorem nbU_nodup {b n : Nat} {ls : List Pr} (h : ∀ p ∈ ls, LinkOK b n p) (hn : ls.Nodup) (v : Nat) : (nbU b ls v).Nodup := by
 have key : ∀ (f : Pr → Int) (g : Pr → Int) (k : Int) (F : Int → Nat), (∀ p ∈ ls, ∀ q ∈ ls, f p = k → f q = k → F (g p) = F (g q) → p = q) → (((ls.filter fun p => decide (f p = k)).map g).map F).Nodup := fun f g k F inj => by
  rw [List.map_map, List.nodup_iff_pairwise_ne, List.pairwise_map]
  refine ((List.nodup_iff_pairwise_ne.1 hn).filter _).imp_of_mem fun {p q} hp hq hne e => ?_
  rw [List.mem_filter, decide_eq_true_eq] at hp hq
  exact hne (inj p hp.1 q hq.1 hp.2 hq.2 e)
 unfold nbU
 split
 ·refine key (·.1) (·.2) _ _ fun p hp q hq e1 e2 e => ?_
  have := linkOK_nat (h p hp); have := linkOK_nat (h q hq)
  exact Prod.ext (by omega) (by omega)
 ·refine key (·.2) (·.1) _ _ fun p hp q hq e1 e2 e => ?_
  have := linkOK_nat (h p hp); have := linkOK_nat (h q hq)
  exact Prod.ext (by omega) (by omega)
theorem len_congr {l l' : List Nat} (h : l.Nodup) (h' : l'.Nodup) (e : ∀ x, x ∈ l ↔ x ∈ l') : l.length = l'.length := by
 have a := h.length_le_of_subset (l₂ := l') fun x hx => (e x).1 hx
 have b := h'.length_le_of_subset (l₂ := l) fun x hx => (e x).2 hx
 omega
section
variable {b n : Nat} {ls : List Pr}
def degD (b : Nat) (ls : List Pr) (done : List Nat) (v : Nat) : Nat := ((nbU b ls v).filter fun u => decide (u ∉ done)).length
structure PlI (b n : Nat) (ls : List Pr) (done lv : List Nat) (c : Nat → Int) (k : Nat) : Prop where
 cnt : ∀ v, v < n → c v = (degD b ls done v : Int)
 dn : done.Nodup
 dlt : ∀ v ∈ done, v < n
 dle : ∀ v ∈ done, c v ≤ 1
 ln : lv.Nodup
 lm : ∀ v, v ∈ lv ↔ v < n ∧ v ∉ done ∧ c v ≤ 1
 peel : Tr.PeelI n (edgesU b ls) (distM b n ls) (fun v => v < n ∧ v ∉ done) k
structure RdI (b n : Nat) (ls : List Pr) (lv : List Nat) (i : Nat) (pre : List Nat) (c0 c : Nat → Int) (inner : List Nat) : Prop where
 cnt : ∀ u, u < n → c u = c0 u - (((lv.take i).filter fun x => decide (u ∈ nbU b ls x)).length : Int) - (if u ∈ pre then 1 else 0)
 nd : inner.Nodup
 mem : ∀ u, u ∈ inner ↔ u < n ∧ 2 ≤ c0 u ∧ c u ≤ 1
theorem RdI.start (lv : List Nat) (c0 : Nat → Int) : RdI b n ls lv 0 [] c0 c0 [] := ⟨fun u _ => by simp, by simp, fun u => by simp; omega⟩
theorem RdI.step {lv : List Nat} {i : Nat} {pre : List Nat} {c0 c : Nat → Int} {inner : List Nat} (R : RdI b n ls lv i pre c0 c inner) {w : Nat} (hw : w < n) (hp : w ∉ pre) {c' : Nat → Int} (hc : ∀ u, u < n → c' u = if u = w then c u - 1 else c u) :
  RdI b n ls lv i (pre ++ [w]) c0 c' (if c' w = 1 then inner ++ [w] else inner) := by
 have hcw := hc w hw
 rw [if_pos rfl] at hcw
 have hle : c w ≤ c0 w := by rw [R.cnt w hw]; split <;> omega
 refine ⟨fun u hu => ?_, ?_, fun u => ?_⟩
 ·rw [hc u hu]
  by_cases e : u = w
  ·subst e
   rw [if_pos rfl, R.cnt u hu, if_neg hp, if_pos (by simp)]; omega
  ·rw [if_neg e, R.cnt u hu]; simp [e]
 ·split
  ·rename_i h1
   rw [List.nodup_append]
   refine ⟨R.nd, by simp, fun a ha d hd e => ?_⟩
   rw [List.mem_singleton] at hd; subst hd; subst e
   have := ((R.mem a).1 ha).2.2; omega
  ·exact R.nd
 ·by_cases e : u = w
  ·subst e
   split
   ·rename_i h1
    rw [List.mem_append]
    constructor
    ·intro _; exact ⟨hw, by omega, by omega⟩
    ·intro _; exact .inr (by simp)
   ·rename_i h1
    rw [R.mem]; constructor
    ·rintro ⟨_, h2, h3⟩; exact ⟨hw, h2, by omega⟩
    ·rintro ⟨_, h2, h3⟩; exact ⟨hw, h2, by omega⟩
  ·have hin : (u ∈ if c' w = 1 then inner ++ [w] else inner) ↔ u ∈ inner := by split <;> simp [e]
   rw [hin, R.mem]
   constructor
   ·rintro ⟨h1, h2, h3⟩; exact ⟨h1, h2, by rw [hc u h1, if_neg e]; exact h3⟩
   ·rintro ⟨h1, h2, h3⟩; exact ⟨h1, h2, by rw [hc u h1, if_neg e] at h3; exact h3⟩
theorem PlI.deg_le {done lv : List Nat} {c : Nat → Int} {k : Nat} (_ : PlI b n ls done lv c k) (lv' : List Nat) (v : Nat) : degD b ls (done ++ lv') v ≤ degD b ls done v := by
 refine List.Sublist.length_le ?_
 have : ((nbU b ls v).filter fun u => decide (u ∉ done ++ lv')) = ((nbU b ls v).filter fun u => decide (u ∉ done)).filter fun u => decide (u ∉ lv') := by
  rw [List.filter_filter]; refine List.filter_congr fun u _ => ?_
  rw [Bool.eq_iff_iff]; simp; exact and_comm
 rw [this]; exact List.filter_sublist
theorem PlI.leaf_iff (K : Lk b n ls) {done lv : List Nat} {c : Nat → Int} {k : Nat} (P : PlI b n ls done lv c k) (v : Nat) : Tr.Leaf (edgesU b ls) (fun v => v < n ∧ v ∉ done) v ↔ v ∈ lv := by
 have hls := (good_lk.2 K).nd
 rw [P.lm]
 have hmem : ∀ u, u ∈ ((nbU b ls v).filter fun u => decide (u ∉ done)) ↔ adj (edgesU b ls) u v ∧ (u < n ∧ u ∉ done) := fun u => by
  rw [List.mem_filter, nbU_mem K.ok, decide_eq_true_eq]
  constructor
  ·rintro ⟨h1, h2⟩; exact ⟨h1.symm, (h1.lt (edgesU_in K.ok)).2, h2⟩
  ·rintro ⟨h1, _, h2⟩; exact ⟨h1.symm, h2⟩
 have hnd : ((nbU b ls v).filter fun u => decide (u ∉ done)).Nodup := (nbU_nodup K.ok hls v).filter _
 constructor
 ·rintro ⟨⟨h1, h2⟩, h3⟩
  refine ⟨h1, h2, ?_⟩
  rw [P.cnt v h1, degD]
  generalize ((nbU b ls v).filter fun u => decide (u ∉ done)) = l at *
  match l, hnd, hmem with
  | [], _, _ => simp
  | [a], _, _ => simp
  | a :: d :: r, hnd, hmem =>
   have ha := (hmem a).1 (by simp)
   have hd := (hmem d).1 (by simp)
   have := h3 a d ha.1 hd.1 ha.2 hd.2
   subst this
   simp at hnd
 ·rintro ⟨h1, h2, h3⟩
  refine ⟨⟨h1, h2⟩, fun u u' a a' s s' => ?_⟩
  rw [P.cnt v h1, degD] at h3
  have m1 := (hmem u).2 ⟨a, s⟩
  have m2 := (hmem u').2 ⟨a', s'⟩
  generalize ((nbU b ls v).filter fun u => decide (u ∉ done)) = l at *
  match l, h3, m1, m2 with
  | [], _, m1, _ => cases m1
  | [x], _, m1, m2 => rw [List.mem_singleton] at m1 m2; rw [m1, m2]
  | _ :: _ :: _, h3, _, _ => simp at h3; omega
theorem PlI.inner_eq (K : Lk b n ls) {done lv : List Nat} {c : Nat → Int} {k : Nat} (P : PlI b n ls done lv c k) : Tr.Inner (edgesU b ls) (fun v => v < n ∧ v ∉ done) = fun v => v < n ∧ v ∉ done ++ lv := by
 funext v
 refine propext ?_
 rw [Tr.Inner, P.leaf_iff K, List.mem_append]
 constructor
 ·rintro ⟨⟨h1, h2⟩, h3⟩; exact ⟨h1, fun h => h.elim h2 h3⟩
 ·rintro ⟨h1, h2⟩; exact ⟨⟨h1, fun h => h2 (.inl h)⟩, fun h => h2 (.inr h)⟩
theorem PlI.left (K : Lk b n ls) {done lv : List Nat} {c : Nat → Int} {k : Nat} (P : PlI b n ls done lv c k) : ((List.range n).filter fun v => decide (v ∉ done)).length + done.length = n ∧ ((List.range n).filter fun v => decide (v ∉ done)).Nodup ∧ ∀ v, v ∈ ((List.range n).filter fun v => decide (v ∉ done)) ↔ v < n ∧ v ∉ done := by
 refine ⟨?_, List.nodup_range.filter _, fun v => by simp⟩
 have h1 := split_len (fun v => decide (v ∉ done)) (List.range n)
 have h2 : ((List.range n).filter fun x => !decide (x ∉ done)).length = done.length := len_congr (List.nodup_range.filter _) P.dn fun v => by
  rw [List.mem_filter, List.mem_range]
  constructor
  ·rintro ⟨_, h⟩; simpa using h
  ·intro h; exact ⟨P.dlt v h, by simpa using h⟩
 rw [List.length_range] at h1
 omega
theorem PlI.three (K : Lk b n ls) {done lv : List Nat} {c : Nat → Int} {k : Nat} (P : PlI b n ls done lv c k) (h : 2 < n - done.length) : ∀ x y, ∃ z, (z < n ∧ z ∉ done) ∧ z ≠ x ∧ z ≠ y := by
 intro x y
 obtain ⟨h1, h2, h3⟩ := P.left K
 refine Classical.byContradiction fun hno => ?_
 have := h2.length_le_of_subset (l₂ := [x, y]) fun z hz => by
  have hs := (h3 z).1 hz
  by_cases e1 : z = x
  ·simp [e1]
  ·by_cases e2 : z = y
   ·simp [e2]
   ·exact absurd ⟨z, hs, e1, e2⟩ hno
 have t2 : ((List.range n).filter fun v => decide (v ∉ done)).length ≤ 2 := this
 omega
theorem PlI.next (K : Lk b n ls) {done lv : List Nat} {c c' : Nat → Int} {k : Nat} {inner : List Nat} (P : PlI b n ls done lv c k) (h : 2 < n - done.length) (R : RdI b n ls lv lv.length [] c c' inner) : PlI b n ls (done ++ lv) inner c' (k + 1) := by
 have hls := (good_lk.2 K).nd
 have hcnt : ∀ v, v < n → c' v = (degD b ls (done ++ lv) v : Int) := fun v hv => by
  rw [R.cnt v hv, P.cnt v hv, List.take_length, if_neg (by simp), degD, degD]
  have hs := split_len (fun u => decide (u ∉ lv)) ((nbU b ls v).filter fun u => decide (u ∉ done))
  have e1 : (((nbU b ls v).filter fun u => decide (u ∉ done)).filter fun u => decide (u ∉ lv)) = (nbU b ls v).filter fun u => decide (u ∉ done ++ lv) := by
   rw [List.filter_filter]; refine List.filter_congr fun u _ => ?_
   rw [Bool.eq_iff_iff]; simp; exact and_comm
  have e2 : (((nbU b ls v).filter fun u => decide (u ∉ done)).filter fun x => !decide (x ∉ lv)).length = (lv.filter fun x => decide (v ∈ nbU b ls x)).length :=
   len_congr (((nbU_nodup K.ok hls v).filter _).filter _) (P.ln.filter _) fun u => by
    rw [List.mem_filter, List.mem_filter, List.mem_filter, nbU_mem K.ok, decide_eq_true_eq, decide_eq_true_eq, nbU_mem K.ok]
    constructor
    ·rintro ⟨⟨h1, _⟩, h3⟩; exact ⟨by simpa using h3, h1.symm⟩
    ·rintro ⟨h1, h2⟩; exact ⟨⟨h2.symm, ((P.lm u).1 h1).2.1⟩, by simpa using h1⟩
  rw [e1, e2] at hs
  omega
 have hle : ∀ v, v < n → c' v ≤ c v := fun v hv => by
  rw [hcnt v hv, P.cnt v hv]
  have := P.deg_le lv v
  omega
 refine ⟨hcnt, ?_, fun v hv => ?_, fun v hv => ?_, R.nd, fun v => ?_, ?_⟩
 ·rw [List.nodup_append]; exact ⟨P.dn, P.ln, fun a ha d hd e => by subst e; exact ((P.lm a).1 hd).2.1 ha⟩
 ·rw [List.mem_append] at hv
  rcases hv with hv | hv
  ·exact P.dlt v hv
  ·exact ((P.lm v).1 hv).1
 ·rw [List.mem_append] at hv
  rcases hv with hv | hv
  ·have := hle v (P.dlt v hv); have := P.dle v hv; omega
  ·have h1 := (P.lm v).1 hv; have := hle v h1.1; omega
 ·rw [R.mem, List.mem_append]
  constructor
  ·rintro ⟨h1, h2, h3⟩
   refine ⟨h1, fun hh => ?_, h3⟩
   rcases hh with hh | hh
   ·have := P.dle v hh; omega
   ·have := ((P.lm v).1 hh).2.2; omega
  ·rintro ⟨h1, h2, h3⟩
   refine ⟨h1, ?_, h3⟩
   have hnd : v ∉ done := fun h => h2 (.inl h)
   have hnl : v ∉ lv := fun h => h2 (.inr h)
   rw [P.lm] at hnl
   have : ¬ c v ≤ 1 := fun h => hnl ⟨h1, hnd, h⟩
   omega
 ·rw [← P.inner_eq K]; exact P.peel.next K.tree (P.three K h)
theorem PlI.start (K : Lk b n ls) {lv : List Nat} {c : Nat → Int} (hc : ∀ v, v < n → c v = ((nbU b ls v).length : Int)) (hn : lv.Nodup) (hm : ∀ v, v ∈ lv ↔ v < n ∧ c v ≤ 1) : PlI b n ls [] lv c 0 := by
 refine ⟨fun v hv => by rw [hc v hv, degD, List.filter_eq_self.2 (fun _ _ => by simp)], by simp, by simp, by simp, hn, fun v => by rw [hm]; simp, ?_⟩
 have : (fun v => v < n ∧ v ∉ ([] : List Nat)) = (· < n) := by funext v; simp
 rw [this]; exact Tr.PeelI.start K.tree
end
end Go.Fw
