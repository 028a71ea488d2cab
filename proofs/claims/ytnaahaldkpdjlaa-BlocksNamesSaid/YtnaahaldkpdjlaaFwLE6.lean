/- A text of the proof. -/
import Derived.Test.YtnaahaldkpdjlaaFwLC16
import Derived.Test.YtnaahaldkpdjlaaFwLT16
set_option linter.unusedSimpArgs false
set_option linter.unusedVariables false
namespace Go.Fw
set_option maxHeartbeats 4000000
set_option maxRecDepth 10000
attribute [local irreducible] lowM bridgesM cutsM blocksM keyE
attribute [local instance] Classical.propDecidable
namespace Tr
variable {n : Nat} {es : List Pr} {D : Nat → Nat → Nat}
theorem chain (T : Tr n es D) {x c m : Nat} (hx : x < n) (hc : c < n) (hm : m < n) (ha : adj es c m) (e : D x m = D x c + 1) : ∀ k w, w < n → D m w = k → D c w = k + 1 → D x w = D x m + k
 | 0, w, hw, h1, _ => by rw [T.z' m w hm hw h1]; rfl
 | k + 1, w, hw, h1, h2 => by
  have hne : m ≠ w := fun h => by subst h; rw [T.z m hm] at h1; omega
  obtain ⟨u, hu, au, eu⟩ := T.pre m w hm hw hne
  have h3 : D c u = k + 1 := by
   have t1 := T.tri c u w hc au
   have t2 := T.tri u m c hu ha.symm
   have s1 := T.symm hc hu
   have s2 := T.symm hu hm
   omega
  have ih := T.chain hx hc hm ha e k u hu (by omega) h3
  rcases T.lvl hx au with q | q
  ·omega
  ·exfalso
   cases k with
   | zero =>
    obtain rfl : m = u := T.z' m u hm hu (by omega)
    have := T.par_uniq hx ha au.symm e.symm q
    subst this
    rw [T.z _ hc] at h2; omega
   | succ k =>
    have hne2 : m ≠ u := fun h => by subst h; rw [T.z m hm] at eu; omega
    obtain ⟨u2, hu2, au2, eu2⟩ := T.pre m u hm hu hne2
    have h5 : D c u2 = k + 1 := by
     have t1 := T.tri c u2 u hc au2
     have t2 := T.tri u2 m c hu2 ha.symm
     have s1 := T.symm hc hu2
     have s2 := T.symm hu2 hm
     omega
    have ih2 := T.chain hx hc hm ha e k u2 hu2 (by omega) h5
    have := T.par_uniq hx au2 au.symm (by omega) q
    subst this
    omega
theorem step_lvl (T : Tr n es D) {x u v : Nat} (hx : x < n) (hu : u < n) (hv : v < n) (ha : adj es u v) : D u x + 1 = D v x ∨ D v x + 1 = D u x := by
 have s1 := T.symm hx hu
 have s2 := T.symm hx hv
 rcases T.lvl hx ha with q | q <;> omega
theorem par (T : Tr n es D) {side : Nat → Nat} (hs : ∀ u w, adj es u w → (side u + side w) % 2 = 1) {x : Nat} (hx : x < n) : ∀ k w, w < n → D x w = k → (side x + side w + k) % 2 = 0
 | 0, w, hw, h => by rw [← T.z' x w hx hw h]; omega
 | k + 1, w, hw, h => by
  have hne : x ≠ w := fun e => by subst e; rw [T.z x hx] at h; omega
  obtain ⟨u, hu, au, eu⟩ := T.pre x w hx hw hne
  have := T.par hs hx k u hu (by omega)
  have := hs u w au
  omega
theorem far_leaf (T : Tr n es D) {c x m : Nat} (hc : c < n) (hm : IsMax D (· < n) c m) (hx : x < n) (e : D c x = m) {u u' : Nat} (h1 : adj es u x) (h2 : adj es u' x) : u = u' := by
 have hu := (h1.lt T.rng).1
 have hu' := (h2.lt T.rng).1
 rcases T.lvl hc h1 with q | q
 ·rcases T.lvl hc h2 with q' | q'
  ·exact T.par_uniq hc h1 h2 q q'
  ·have := hm.1 u' hu'; omega
 ·have := hm.1 u hu; omega
theorem centre_uniq (T : Tr n es D) {side : Nat → Nat} (hs : ∀ u w, adj es u w → (side u + side w) % 2 = 1) (hl : ∀ v, v < n → side v % 2 = 1 → ∃ u u', adj es u v ∧ adj es u' v ∧ u ≠ u')
  {c w a b : Nat} (hc : c < n) (hw : w < n) (hne : c ≠ w) (ha : IsMax D (· < n) c a) (hb : IsMax D (· < n) w b) (hmin : ∀ v m, v < n → IsMax D (· < n) v m → a ≤ m) : a < b := by
 refine Classical.byContradiction fun hcon => ?_
 have hab : b = a := by have := hmin w b hw hb; omega
 subst hab
 obtain ⟨m, hm, am, em⟩ := T.pre w c hw hc (Ne.symm hne)
 have am' := am.symm
 obtain ⟨am1, hMx⟩ := max_ex (D := D) (S := (· < n)) (fun _ h => h) ⟨c, hc⟩ m
 have h0 := hmin m am1 hm hMx
 by_cases e : m = w
 ·subst e
  obtain ⟨x, hx, ex⟩ := ha.2
  obtain ⟨y, hy, ey⟩ := hb.2
  have b1 := hb.1 x hx
  have b2 := ha.1 y hy
  have l1 := T.step_lvl hx hc hw am'
  have l2 := T.step_lvl hy hc hw am'
  have b0 : 0 < b := by
   have := ha.1 m hw
   have s := T.symm hc hw
   rw [T.z m hw] at em; omega
  have sx : side x % 2 = 0 := Classical.byContradiction fun h => by
   obtain ⟨u, u', h1, h2, h3⟩ := hl x hx (by omega)
   exact h3 (T.far_leaf hc ha hx ex h1 h2)
  have sy : side y % 2 = 0 := Classical.byContradiction fun h => by
   obtain ⟨u, u', h1, h2, h3⟩ := hl y hy (by omega)
   exact h3 (T.far_leaf hw hb hy ey h1 h2)
  have p1 := T.par hs hc _ x hx ex
  have p2 := T.par hs hw _ y hy ey
  have p3 := hs _ _ am
  omega
 ·obtain ⟨x, hx, ex⟩ := hMx.2
  have hxm : x < n := hx
  have b1 := ha.1 x hx
  rcases T.step_lvl hx hc hm am' with q | q
  ·have s1 := T.symm hx hc
   have s2 := T.symm hx hm
   have s3 := T.symm hw hm
   have s4 := T.symm hw hc
   have h1 := T.chain hx hc hm am' (by omega) (D m w) w hw rfl (by omega)
   have s5 := T.symm hx hw
   have h2 := hb.1 x hx
   have : 0 < D m w := Nat.pos_of_ne_zero fun z => e (T.z' m w hm hw z)
   omega
  ·omega
end Tr
theorem adj_sides {b N : Nat} {ls : List Pr} (K : Lk b N ls) {u w : Nat} (h : adj (edgesU b ls) u w) : ((if u < b then 0 else 1) + (if w < b then 0 else 1)) % 2 = 1 := by
 obtain ⟨p, hp, h⟩ := adj_link K.ok h
 have L := linkOK_nat (K.ok p hp)
 rcases h with ⟨rfl, rfl⟩ | ⟨rfl, rfl⟩
 ·rw [if_pos L.2.2.2.2, if_neg (by omega)]
 ·rw [if_pos L.2.2.2.2, if_neg (by omega)]
theorem cut_links {n : Nat} {es : List Pr} (hr : InR n es) {v : Nat} (h : v < (blocksM n es).length + (cutsM n es).length) (hv : (blocksM n es).length ≤ v) :
  ∃ u u', adj (edgesU (blocksM n es).length (treeM n es).ls) u v ∧ adj (edgesU (blocksM n es).length (treeM n es).ls) u' v ∧ u ≠ u' := by
 obtain ⟨j, rfl⟩ : ∃ j, v = (blocksM n es).length + j := ⟨v - (blocksM n es).length, by omega⟩
 have hj : j < (cutsM n es).length := by omega
 have hc : (cutsM n es)[j]? = some (cutsM n es)[j] := List.getElem?_eq_getElem hj
 have h2 := (inc_cut hr _).2 ((cuts_mem hr _).1 (List.mem_of_getElem? hc)).2
 rw [incN_keys, two_len (keysAt_nd n es _)] at h2
 obtain ⟨x, y, hx, hy, hxy⟩ := h2
 have get : ∀ k, k ∈ keysAt n es (cutsM n es)[j] → ∃ i : Nat, (fkM (keyE n es) es)[i]? = some k ∧ adj (edgesU (blocksM n es).length (treeM n es).ls) i ((blocksM n es).length + j) := fun k hk => by
  rw [keysAt, List.mem_filter] at hk
  obtain ⟨i, hi⟩ := List.mem_iff_getElem?.1 hk.1
  refine ⟨i, hi, link_con (b := es.filter fun p => decide (keyE n es p = k)) ?_ hc hk.2⟩
  rw [blocksM_eq, List.getElem?_map, hi]; rfl
 obtain ⟨i, hi, ai⟩ := get x hx
 obtain ⟨i', hi', ai'⟩ := get y hy
 exact ⟨i, i', ai, ai', fun e => hxy (by subst e; rw [hi] at hi'; injection hi')⟩
theorem tree_centre {n : Nat} {es : List Pr} (hR : RightG ⟨(n : Int), es⟩) (K : Lk (blocksM n es).length ((blocksM n es).length + (cutsM n es).length) (treeM n es).ls) {N c : Nat} (hN : N = (blocksM n es).length + (cutsM n es).length)
  (hc : c = minK (depK (blocksM n es).length N (treeM n es).ls N) N) : c < N ∧ ∃ a, Tr.IsMax (distM (blocksM n es).length N (treeM n es).ls) (· < N) c a ∧ ∀ w b, w < N → w ≠ c → Tr.IsMax (distM (blocksM n es).length N (treeM n es).ls) (· < N) w b → a < b := by
 subst hN
 generalize hN : (blocksM n es).length + (cutsM n es).length = N at *
 have h0 : 0 < N := by have := K.n0; omega
 obtain ⟨h1, h2⟩ := minK_spec (depK (blocksM n es).length N (treeM n es).ls N) N h0
 rw [← hc] at h1 h2
 have T := K.tree
 obtain ⟨p0, hm⟩ := K.ecc h1
 refine ⟨h1, _, hm, fun w b hw hne hb => ?_⟩
 refine T.centre_uniq (side := fun u => if u < (blocksM n es).length then 0 else 1) (fun u w h => adj_sides K h) (fun v hv hs => cut_links hR.inR (by rw [hN]; exact hv) (by
  by_cases q : v < (blocksM n es).length
  ·simp only [if_pos q] at hs; omega
  ·omega)) h1 hw (Ne.symm hne) hm hb fun v m hv hvm => ?_
 have h3 := (h2 v hv).1
 rw [depK_get h1, depK_get hv] at h3
 obtain ⟨p1, hm1⟩ := K.ecc hv
 have := hm1.uniq hvm
 omega
end Go.Fw
namespace Go.Fw
set_option maxHeartbeats 4000000
set_option maxRecDepth 10000
attribute [local irreducible] lowM bridgesM cutsM blocksM keyE
attribute [local instance] Classical.propDecidable
def NodeR (n : Nat) (es fs : List Pr) (π : Nat → Nat) (x y : Nat) : Prop :=
 (∃ b b' p, (blocksM n es)[x]? = some b ∧ (blocksM n fs)[y]? = some b' ∧ p ∈ b ∧ mapE π p ∈ b') ∨
 ∃ (j k c : Nat), x = (blocksM n es).length + j ∧ y = (blocksM n fs).length + k ∧ (cutsM n es)[j]? = some c ∧ (cutsM n fs)[k]? = some (π c)
namespace IsoG
variable {n : Nat} {es fs : List Pr} {π : Nat → Nat}
theorem block_in (I : IsoG n es fs π) {x y : Nat} {b b' : List Pr} (h : (blocksM n es)[x]? = some b) (g : (blocksM n fs)[y]? = some b') {p : Pr} (hp : p ∈ b) (hp' : mapE π p ∈ b') {q : Pr} (hq : q ∈ es) : mapE π q ∈ b' ↔ q ∈ b := by
 have e1 := block_at h hp
 obtain ⟨k, _, rfl⟩ := block_key h
 obtain ⟨k', _, rfl⟩ := block_key g
 have a1 := (List.mem_filter.1 hp).2
 have a2 := (List.mem_filter.1 hp').2
 rw [decide_eq_true_eq] at a1 a2
 rw [List.mem_filter, List.mem_filter, decide_eq_true_eq, decide_eq_true_eq, ← a1, ← a2, I.key hq e1]
 exact ⟨fun h => ⟨hq, h.2⟩, fun h => ⟨I.mem hq, h.2⟩⟩
theorem at_block (I : IsoG n es fs π) {x y : Nat} {b b' : List Pr} (h : (blocksM n es)[x]? = some b) (g : (blocksM n fs)[y]? = some b') {p : Pr} (hp : p ∈ b) (hp' : mapE π p ∈ b') {v : Nat} (hv : atB (v : Int) b = true) : atB ((π v : Nat) : Int) b' = true := by
 unfold atB at hv
 rw [List.any_eq_true] at hv
 obtain ⟨q, hq, hi⟩ := hv
 have hqe := block_at h hq
 obtain ⟨a, ha, rfl⟩ := inc_pair I.r1 hqe hi
 have := (I.block_in h g hp hp' hqe).2 hq
 rw [mapE_pair] at this
 exact at_mem this pair_inc
theorem node_rev {σ : Nat → Nat} (I : IsoG n es fs π) (h1 : ∀ a, a < n → σ (π a) = a) {x y : Nat} (h : NodeR n es fs π x y) : NodeR n fs es σ y x := by
 rcases h with ⟨b, b', p, h, g, hp, hp'⟩ | ⟨j, k, c, rfl, rfl, hj, hk⟩
 ·exact .inl ⟨b', b, _, g, h, hp', by rw [I.back h1 (block_at h hp)]; exact hp⟩
 ·have hc := ((Go.Fw.cuts_mem I.r1 c).1 (List.mem_of_getElem? hj)).1
  exact .inr ⟨k, j, _, rfl, rfl, hk, by rw [h1 c hc]; exact hj⟩
theorem node_ex (I : IsoG n es fs π) (hR : RightG ⟨(n : Int), es⟩) (hR' : RightG ⟨(n : Int), fs⟩) {x : Nat} (hx : x < (blocksM n es).length + (cutsM n es).length) : ∃ y, y < (blocksM n fs).length + (cutsM n fs).length ∧ NodeR n es fs π x y := by
 by_cases q : x < (blocksM n es).length
 ·have hb : (blocksM n es)[x]? = some (blocksM n es)[x] := List.getElem?_eq_getElem q
  obtain ⟨p, l, e⟩ := List.exists_cons_of_ne_nil ((blocks_AtS hR).ne _ (List.mem_of_getElem? hb))
  have hp : p ∈ (blocksM n es)[x] := by rw [e]; exact List.mem_cons_self
  obtain ⟨y, b', hy, hp', _⟩ := met_ex hR' (I.mem (block_at hb hp))
  exact ⟨y, by have := (List.getElem?_eq_some_iff.1 hy).1; omega, .inl ⟨_, b', p, hb, hy, hp, hp'⟩⟩
 ·obtain ⟨j, rfl⟩ : ∃ j, x = (blocksM n es).length + j := ⟨x - (blocksM n es).length, by omega⟩
  have hj : j < (cutsM n es).length := by omega
  have hc : (cutsM n es)[j]? = some (cutsM n es)[j] := List.getElem?_eq_getElem hj
  obtain ⟨k, hk⟩ := List.mem_iff_getElem?.1 (I.cuts_mem (List.mem_of_getElem? hc))
  exact ⟨(blocksM n fs).length + k, by have := (List.getElem?_eq_some_iff.1 hk).1; omega, .inr ⟨j, k, _, rfl, rfl, hc, hk⟩⟩
theorem node_uniq (I : IsoG n es fs π) {x y y' : Nat} (h : NodeR n es fs π x y) (h' : NodeR n es fs π x y') : y = y' := by
 rcases h with ⟨b, b', p, h, g, hp, hp'⟩ | ⟨j, k, c, rfl, rfl, hj, hk⟩ <;> rcases h' with ⟨d, d', q, h', g', hq, hq'⟩ | ⟨j', k', c', e, rfl, hj', hk'⟩
 ·rw [h] at h'; injection h' with h'; subst h'
  refine block_same g g' ((I.block_in h g hp hp' (block_at h hq)).2 hq) hq' rfl
 ·have := (List.getElem?_eq_some_iff.1 h).1; omega
 ·have := (List.getElem?_eq_some_iff.1 h').1; omega
 ·obtain rfl : j = j' := by omega
  rw [hj] at hj'; injection hj' with hj'; subst hj'
  rw [nodup_idx (cutsM_nd n fs) hk hk']
theorem node_adj (I : IsoG n es fs π) {x y x' : Nat} (K : Lk (blocksM n es).length ((blocksM n es).length + (cutsM n es).length) (treeM n es).ls) (ha : Go.Fw.adj (edgesU (blocksM n es).length (treeM n es).ls) x y) (h : NodeR n es fs π x x')
  {y' : Nat} (h' : NodeR n es fs π y y') : Go.Fw.adj (edgesU (blocksM n fs).length (treeM n fs).ls) x' y' := by
 obtain ⟨p, hp, hxy⟩ := adj_link K.ok ha
 have L := linkOK_nat (K.ok p hp)
 have main : ∀ {u u' j w' : Nat}, u < (blocksM n es).length → ((u : Int), (j : Int)) ∈ (treeM n es).ls → NodeR n es fs π u u' → NodeR n es fs π ((blocksM n es).length + j) w' → Go.Fw.adj (edgesU (blocksM n fs).length (treeM n fs).ls) u' w' := by
  intro u u' j w' hu hl h1 h2
  rcases h1 with ⟨b, b', q, h, g, hq, hq'⟩ | ⟨j', _, _, e, _⟩
  ·rcases h2 with ⟨d, _, _, hd, _⟩ | ⟨j', k', c', e, rfl, hj', hk'⟩
   ·have := (List.getElem?_eq_some_iff.1 hd).1; omega
   ·obtain rfl : j = j' := by omega
    exact link_con g hk' (I.at_block h g hq hq' ((link_in h hj').1 hl))
  ·omega
 have hpn : p = ((p.1.toNat : Int), (p.2.toNat : Int)) := Prod.ext L.2.2.1 L.2.2.2.1
 rw [hpn] at hp
 rcases hxy with ⟨rfl, rfl⟩ | ⟨rfl, rfl⟩
 ·exact main L.2.2.2.2 hp h h'
 ·exact (main L.2.2.2.2 hp h' h).symm
theorem node_wk (I : IsoG n es fs π) (hR : RightG ⟨(n : Int), es⟩) (hR' : RightG ⟨(n : Int), fs⟩) (K : Lk (blocksM n es).length ((blocksM n es).length + (cutsM n es).length) (treeM n es).ls) {x y k x' : Nat} (w : Wk (edgesU (blocksM n es).length (treeM n es).ls) x y k) (h : NodeR n es fs π x x') : ∀ {y' : Nat}, NodeR n es fs π y y' → Wk (edgesU (blocksM n fs).length (treeM n fs).ls) x' y' k := by
 induction w with
 | nil => intro y' hy; rw [I.node_uniq h hy]; exact .nil _
 | @cons b c k _ a ih =>
  intro y' hy
  obtain ⟨b', _, hb⟩ := I.node_ex hR hR' (a.lt K.tree.rng).1
  exact .cons (ih hb) (I.node_adj K a hb hy)
end IsoG
theorem dist_le {n : Nat} {es fs : List Pr} {π : Nat → Nat} (I : IsoG n es fs π) (hR : RightG ⟨(n : Int), es⟩) (hR' : RightG ⟨(n : Int), fs⟩) {N : Nat} (hN : (blocksM n es).length + (cutsM n es).length = N) (K : Lk (blocksM n es).length N (treeM n es).ls) (K' : Lk (blocksM n fs).length N (treeM n fs).ls)
  {x y x' y' : Nat} (hx : x < N) (hy : y < N) (hx' : x' < N) (h : NodeR n es fs π x x') (h' : NodeR n es fs π y y') : distM (blocksM n fs).length N (treeM n fs).ls x' y' ≤ distM (blocksM n es).length N (treeM n es).ls x y := by
 subst hN
 exact K'.tree.wk_le hx' (I.node_wk hR hR' K (K.tree.wk_ex hx _ y hy rfl) h h')
theorem names_centre {n : Nat} {es fs : List Pr} {π : Nat → Nat} (I : IsoG n es fs π) (hR : RightG ⟨(n : Int), es⟩) (hR' : RightG ⟨(n : Int), fs⟩) (hj : JoinG n es) (hj' : JoinG n fs) {N c c' : Nat} (hN : N = (blocksM n es).length + (cutsM n es).length)
  (hc : c = minK (depK (blocksM n es).length N (treeM n es).ls N) N) (hc' : c' = minK (depK (blocksM n fs).length N (treeM n fs).ls N) N) : NodeR n es fs π c c' := by
 have K := treeM_lk hR hj
 have K' := treeM_lk hR' hj'
 have hN' : N = (blocksM n fs).length + (cutsM n fs).length := by rw [hN, I.blocks, I.cuts]
 obtain ⟨l1, a, m1, u1⟩ := tree_centre hR K hN hc
 obtain ⟨l2, a', m2, u2⟩ := tree_centre hR' K' hN' hc'
 rw [← hN] at K
 rw [← hN'] at K'
 obtain ⟨σ, J, s1, s2⟩ := I.inv
 obtain ⟨c1, hc1, r1⟩ := I.node_ex hR hR' (x := c) (by omega)
 by_cases e : c1 = c'
 ·rw [← e]; exact r1
 exfalso
 obtain ⟨c2, hc2, r2⟩ := J.node_ex hR' hR (x := c') (by omega)
 have r2' := J.node_rev s2 r2
 have ne2 : c2 ≠ c := fun h => by subst h; exact e (I.node_uniq r1 r2')
 have up : ∀ {x x' m : Nat}, x < N → x' < N → NodeR n es fs π x x' → Tr.IsMax (distM (blocksM n es).length N (treeM n es).ls) (· < N) x m → Tr.IsMax (distM (blocksM n fs).length N (treeM n fs).ls) (· < N) x' m := by
  intro x x' m hx hx' h hm
  refine ⟨fun w' hw' => ?_, ?_⟩
  ·obtain ⟨w, hw, r⟩ := J.node_ex hR' hR (x := w') (by omega)
   have := dist_le I hR hR' hN.symm K K' hx (by omega) hx' h (J.node_rev s2 r)
   have := hm.1 w (by omega)
   omega
  ·obtain ⟨w, hw, ew⟩ := hm.2
   obtain ⟨w', hw', r⟩ := I.node_ex hR hR' (x := w) (by omega)
   have h1 := dist_le I hR hR' hN.symm K K' hx hw hx' h r
   have h2 := dist_le J hR' hR hN'.symm K' K hx' (by omega) hx (I.node_rev s1 h) (I.node_rev s1 r)
   exact ⟨w', by omega, by omega⟩
 have m3 := up l1 (by omega) r1 m1
 have b1 := u2 c1 a (by omega) e m3
 obtain ⟨b, hb⟩ := Tr.max_ex (D := distM (blocksM n es).length N (treeM n es).ls) (S := (· < N)) (fun _ h => h) ⟨c, l1⟩ c2
 have b2 := u1 c2 b (by omega) ne2 hb
 have := (up (by omega) l2 r2' hb).uniq m2
 omega
theorem names_join {n : Nat} {es fs : List Pr} {π : Nat → Nat} (I : IsoG n es fs π) (hj : JoinG n es) : JoinG n fs := by
 obtain ⟨p, l, e⟩ := List.exists_cons_of_ne_nil hj.1
 have hp : p ∈ es := by rw [e]; exact List.mem_cons_self
 have hp' := I.mem hp
 obtain ⟨a, b, ha, hb, h, rfl⟩ := pair_ex I.r1 hp
 refine ⟨fun z => (by rw [z] at hp'; cases hp'), one_heads (by omega) fun v hv => ?_⟩
 obtain ⟨x, hx, rfl⟩ := I.surj v hv
 obtain ⟨y, hy, hy0⟩ := I.surj 0 (by omega)
 rw [← hy0]
 exact (I.con hy hx).2 (heads_one hj.2 hy hx)
end Go.Fw
