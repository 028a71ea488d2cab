/- A text of the proof. -/
import Derived.Test.YtnaahaldkpdjlaaFwLC7
import Derived.Test.YtnaahaldkpdjlaaFwLT16
import Derived.Test.YtnaahaldkpdjlaaFwLT4
import Derived.Test.YtnaahaldkpdjlaaFwLT7
import Derived.Test.YtnaahaldkpdjlaaFwLZ10
import Derived.Test.YtnaahaldkpdjlaaFwLB8
set_option linter.unusedSimpArgs false
set_option linter.unusedVariables false
namespace Go.Fw
set_option maxRecDepth 10000
def nbU (b : Nat) (ls : List Pr) (v : Nat) : List Nat := if v < b then (rB ls v).map fun x => b + x.toNat else (rC ls (v - b)).map fun x => x.toNat
theorem nbU_mem {b n : Nat} {ls : List Pr} (h : ∀ p ∈ ls, LinkOK b n p) {v u : Nat} : u ∈ nbU b ls v ↔ adj (edgesU b ls) v u := by
 unfold nbU
 by_cases hv : v < b
 ·rw [if_pos hv, List.mem_map]
  constructor
  ·rintro ⟨x, hx, rfl⟩
   obtain ⟨c, rfl, _, ha⟩ := rB_mem h hx
   simpa using ha
  ·intro ha
   obtain ⟨h1, h2⟩ := adj_rB h hv ha
   exact ⟨_, h2, by omega⟩
 ·rw [if_neg hv, List.mem_map]
  have e : b + (v - b) = v := by omega
  constructor
  ·rintro ⟨x, hx, rfl⟩
   obtain ⟨c, rfl, _, ha⟩ := rC_mem h hx
   rw [e] at ha; simpa using ha
  ·intro ha
   obtain ⟨h1, h2⟩ := adj_rC h (v := v - b) (u := u) (by rwa [e])
   exact ⟨_, h2, by omega⟩
theorem nbU_nodup {b n : Nat} {ls : List Pr} (h : ∀ p ∈ ls, LinkOK b n p) (hn : ls.Nodup) (v : Nat) : (nbU b ls v).Nodup := by
 have key : ∀ (f : Pr → Int) (g : Pr → Int) (k : Int) (F : Int → Nat), (∀ p ∈ ls, ∀ q ∈ ls, f p = k → f q = k → F (g p) = F (g q) → p = q) → (((ls.filter fun p => decide (f p = k)).map g).map F).Nodup := fun f g k F inj => by
  rw [List.map_map, List.nodup_iff_pairwise_ne, List.pairwise_map]
  refine ((List.nodup_iff_pairwise_ne.1 hn).filter _).imp_of_mem fun {p q} hp hq hne e => ?_
  rw [List.mem_filter, decide_eq_true_eq] at hp hq
  exact hne (inj p hp.1 q hq.1 hp.2 hq.2 e)
 unfold nbU
 split
 ·refine key (·.1) (·.2) _ _ fun p hp q hq e1 e2 e => ?_
  have := linkOK_nat (h p hp); have := linkOK_nat (h q hq)
  exact Prod.ext (by omega) (by omega)
 ·refine key (·.2) (·.1) _ _ fun p hp q hq e1 e2 e => ?_
  have := linkOK_nat (h p hp); have := linkOK_nat (h q hq)
  exact Prod.ext (by omega) (by omega)
theorem len_congr {l l' : List Nat} (h : l.Nodup) (h' : l'.Nodup) (e : ∀ x, x ∈ l ↔ x ∈ l') : l.length = l'.length := by
 have a := h.length_le_of_subset (l₂ := l') fun x hx => (e x).1 hx
 have b := h'.length_le_of_subset (l₂ := l) fun x hx => (e x).2 hx
 omega
section
variable {b n : Nat} {ls : List Pr}
def degD (b : Nat) (ls : List Pr) (done : List Nat) (v : Nat) : Nat := ((nbU b ls v).filter fun u => decide (u ∉ done)).length
structure PlI (b n : Nat) (ls : List Pr) (done lv : List Nat) (c : Nat → Int) (k : Nat) : Prop where
 cnt : ∀ v, v < n → c v = (degD b ls done v : Int)
 dn : done.Nodup
 dlt : ∀ v ∈ done, v < n
 dle : ∀ v ∈ done, c v ≤ 1
 ln : lv.Nodup
 lm : ∀ v, v ∈ lv ↔ v < n ∧ v ∉ done ∧ c v ≤ 1
 peel : Tr.PeelI n (edgesU b ls) (distM b n ls) (fun v => v < n ∧ v ∉ done) k
structure RdI (b n : Nat) (ls : List Pr) (lv : List Nat) (i : Nat) (pre : List Nat) (c0 c : Nat → Int) (inner : List Nat) : Prop where
 cnt : ∀ u, u < n → c u = c0 u - (((lv.take i).filter fun x => decide (u ∈ nbU b ls x)).length : Int) - (if u ∈ pre then 1 else 0)
 nd : inner.Nodup
 mem : ∀ u, u ∈ inner ↔ u < n ∧ 2 ≤ c0 u ∧ c u ≤ 1
theorem RdI.start (lv : List Nat) (c0 : Nat → Int) : RdI b n ls lv 0 [] c0 c0 [] := ⟨fun u _ => by simp, by simp, fun u => by simp; omega⟩
theorem RdI.step {lv : List Nat} {i : Nat} {pre : List Nat} {c0 c : Nat → Int} {inner : List Nat} (R : RdI b n ls lv i pre c0 c inner) {w : Nat} (hw : w < n) (hp : w ∉ pre) {c' : Nat → Int} (hc : ∀ u, u < n → c' u = if u = w then c u - 1 else c u) :
  RdI b n ls lv i (pre ++ [w]) c0 c' (if c' w = 1 then inner ++ [w] else inner) := by
 have hcw := hc w hw
 rw [if_pos rfl] at hcw
 have hle : c w ≤ c0 w := by rw [R.cnt w hw]; split <;> omega
 refine ⟨fun u hu => ?_, ?_, fun u => ?_⟩
 ·rw [hc u hu]
  by_cases e : u = w
  ·subst e
   rw [if_pos rfl, R.cnt u hu, if_neg hp, if_pos (by simp)]; omega
  ·rw [if_neg e, R.cnt u hu]; simp [e]
 ·split
  ·rename_i h1
   rw [List.nodup_append]
   refine ⟨R.nd, by simp, fun a ha d hd e => ?_⟩
   rw [List.mem_singleton] at hd; subst hd; subst e
   have := ((R.mem a).1 ha).2.2; omega
  ·exact R.nd
 ·by_cases e : u = w
  ·subst e
   split
   ·rename_i h1
    rw [List.mem_append]
    constructor
    ·intro _; exact ⟨hw, by omega, by omega⟩
    ·intro _; exact .inr (by simp)
   ·rename_i h1
    rw [R.mem]; constructor
    ·rintro ⟨_, h2, h3⟩; exact ⟨hw, h2, by omega⟩
    ·rintro ⟨_, h2, h3⟩; exact ⟨hw, h2, by omega⟩
  ·have hin : (u ∈ if c' w = 1 then inner ++ [w] else inner) ↔ u ∈ inner := by split <;> simp [e]
   rw [hin, R.mem]
   constructor
   ·rintro ⟨h1, h2, h3⟩; exact ⟨h1, h2, by rw [hc u h1, if_neg e]; exact h3⟩
   ·rintro ⟨h1, h2, h3⟩; exact ⟨h1, h2, by rw [hc u h1, if_neg e] at h3; exact h3⟩
theorem PlI.deg_le {done lv : List Nat} {c : Nat → Int} {k : Nat} (_ : PlI b n ls done lv c k) (lv' : List Nat) (v : Nat) : degD b ls (done ++ lv') v ≤ degD b ls done v := by
 refine List.Sublist.length_le ?_
 have : ((nbU b ls v).filter fun u => decide (u ∉ done ++ lv')) = ((nbU b ls v).filter fun u => decide (u ∉ done)).filter fun u => decide (u ∉ lv') := by
  rw [List.filter_filter]; refine List.filter_congr fun u _ => ?_
  rw [Bool.eq_iff_iff]; simp; exact and_comm
 rw [this]; exact List.filter_sublist
theorem PlI.leaf_iff (K : Lk b n ls) {done lv : List Nat} {c : Nat → Int} {k : Nat} (P : PlI b n ls done lv c k) (v : Nat) : Tr.Leaf (edgesU b ls) (fun v => v < n ∧ v ∉ done) v ↔ v ∈ lv := by
 have hls := (good_lk.2 K).nd
 rw [P.lm]
 have hmem : ∀ u, u ∈ ((nbU b ls v).filter fun u => decide (u ∉ done)) ↔ adj (edgesU b ls) u v ∧ (u < n ∧ u ∉ done) := fun u => by
  rw [List.mem_filter, nbU_mem K.ok, decide_eq_true_eq]
  constructor
  ·rintro ⟨h1, h2⟩; exact ⟨h1.symm, (h1.lt (edgesU_in K.ok)).2, h2⟩
  ·rintro ⟨h1, _, h2⟩; exact ⟨h1.symm, h2⟩
 have hnd : ((nbU b ls v).filter fun u => decide (u ∉ done)).Nodup := (nbU_nodup K.ok hls v).filter _
 constructor
 ·rintro ⟨⟨h1, h2⟩, h3⟩
  refine ⟨h1, h2, ?_⟩
  rw [P.cnt v h1, degD]
  generalize ((nbU b ls v).filter fun u => decide (u ∉ done)) = l at *
  match l, hnd, hmem with
  | [], _, _ => simp
  | [a], _, _ => simp
  | a :: d :: r, hnd, hmem =>
   have ha := (hmem a).1 (by simp)
   have hd := (hmem d).1 (by simp)
   have := h3 a d ha.1 hd.1 ha.2 hd.2
   subst this
   simp at hnd
 ·rintro ⟨h1, h2, h3⟩
  refine ⟨⟨h1, h2⟩, fun u u' a a' s s' => ?_⟩
  rw [P.cnt v h1, degD] at h3
  have m1 := (hmem u).2 ⟨a, s⟩
  have m2 := (hmem u').2 ⟨a', s'⟩
  generalize ((nbU b ls v).filter fun u => decide (u ∉ done)) = l at *
  match l, h3, m1, m2 with
  | [], _, m1, _ => cases m1
  | [x], _, m1, m2 => rw [List.mem_singleton] at m1 m2; rw [m1, m2]
  | _ :: _ :: _, h3, _, _ => simp at h3; omega
theorem PlI.inner_eq (K : Lk b n ls) {done lv : List Nat} {c : Nat → Int} {k : Nat} (P : PlI b n ls done lv c k) : Tr.Inner (edgesU b ls) (fun v => v < n ∧ v ∉ done) = fun v => v < n ∧ v ∉ done ++ lv := by
 funext v
 refine propext ?_
 rw [Tr.Inner, P.leaf_iff K, List.mem_append]
 constructor
 ·rintro ⟨⟨h1, h2⟩, h3⟩; exact ⟨h1, fun h => h.elim h2 h3⟩
 ·rintro ⟨h1, h2⟩; exact ⟨⟨h1, fun h => h2 (.inl h)⟩, fun h => h2 (.inr h)⟩
theorem PlI.left (K : Lk b n ls) {done lv : List Nat} {c : Nat → Int} {k : Nat} (P : PlI b n ls done lv c k) : ((List.range n).filter fun v => decide (v ∉ done)).length + done.length = n ∧ ((List.range n).filter fun v => decide (v ∉ done)).Nodup ∧ ∀ v, v ∈ ((List.range n).filter fun v => decide (v ∉ done)) ↔ v < n ∧ v ∉ done := by
 refine ⟨?_, List.nodup_range.filter _, fun v => by simp⟩
 have h1 := split_len (fun v => decide (v ∉ done)) (List.range n)
 have h2 : ((List.range n).filter fun x => !decide (x ∉ done)).length = done.length := len_congr (List.nodup_range.filter _) P.dn fun v => by
  rw [List.mem_filter, List.mem_range]
  constructor
  ·rintro ⟨_, h⟩; simpa using h
  ·intro h; exact ⟨P.dlt v h, by simpa using h⟩
 rw [List.length_range] at h1
 omega
theorem PlI.three (K : Lk b n ls) {done lv : List Nat} {c : Nat → Int} {k : Nat} (P : PlI b n ls done lv c k) (h : 2 < n - done.length) : ∀ x y, ∃ z, (z < n ∧ z ∉ done) ∧ z ≠ x ∧ z ≠ y := by
 intro x y
 obtain ⟨h1, h2, h3⟩ := P.left K
 refine Classical.byContradiction fun hno => ?_
 have := h2.length_le_of_subset (l₂ := [x, y]) fun z hz => by
  have hs := (h3 z).1 hz
  by_cases e1 : z = x
  ·simp [e1]
  ·by_cases e2 : z = y
   ·simp [e2]
   ·exact absurd ⟨z, hs, e1, e2⟩ hno
 have t2 : ((List.range n).filter fun v => decide (v ∉ done)).length ≤ 2 := this
 omega
theorem PlI.next (K : Lk b n ls) {done lv : List Nat} {c c' : Nat → Int} {k : Nat} {inner : List Nat} (P : PlI b n ls done lv c k) (h : 2 < n - done.length) (R : RdI b n ls lv lv.length [] c c' inner) : PlI b n ls (done ++ lv) inner c' (k + 1) := by
 have hls := (good_lk.2 K).nd
 have hcnt : ∀ v, v < n → c' v = (degD b ls (done ++ lv) v : Int) := fun v hv => by
  rw [R.cnt v hv, P.cnt v hv, List.take_length, if_neg (by simp), degD, degD]
  have hs := split_len (fun u => decide (u ∉ lv)) ((nbU b ls v).filter fun u => decide (u ∉ done))
  have e1 : (((nbU b ls v).filter fun u => decide (u ∉ done)).filter fun u => decide (u ∉ lv)) = (nbU b ls v).filter fun u => decide (u ∉ done ++ lv) := by
   rw [List.filter_filter]; refine List.filter_congr fun u _ => ?_
   rw [Bool.eq_iff_iff]; simp; exact and_comm
  have e2 : (((nbU b ls v).filter fun u => decide (u ∉ done)).filter fun x => !decide (x ∉ lv)).length = (lv.filter fun x => decide (v ∈ nbU b ls x)).length :=
   len_congr (((nbU_nodup K.ok hls v).filter _).filter _) (P.ln.filter _) fun u => by
    rw [List.mem_filter, List.mem_filter, List.mem_filter, nbU_mem K.ok, decide_eq_true_eq, decide_eq_true_eq, nbU_mem K.ok]
    constructor
    ·rintro ⟨⟨h1, _⟩, h3⟩; exact ⟨by simpa using h3, h1.symm⟩
    ·rintro ⟨h1, h2⟩; exact ⟨⟨h2.symm, ((P.lm u).1 h1).2.1⟩, by simpa using h1⟩
  rw [e1, e2] at hs
  omega
 have hle : ∀ v, v < n → c' v ≤ c v := fun v hv => by
  rw [hcnt v hv, P.cnt v hv]
  have := P.deg_le lv v
  omega
 refine ⟨hcnt, ?_, fun v hv => ?_, fun v hv => ?_, R.nd, fun v => ?_, ?_⟩
 ·rw [List.nodup_append]; exact ⟨P.dn, P.ln, fun a ha d hd e => by subst e; exact ((P.lm a).1 hd).2.1 ha⟩
 ·rw [List.mem_append] at hv
  rcases hv with hv | hv
  ·exact P.dlt v hv
  ·exact ((P.lm v).1 hv).1
 ·rw [List.mem_append] at hv
  rcases hv with hv | hv
  ·have := hle v (P.dlt v hv); have := P.dle v hv; omega
  ·have h1 := (P.lm v).1 hv; have := hle v h1.1; omega
 ·rw [R.mem, List.mem_append]
  constructor
  ·rintro ⟨h1, h2, h3⟩
   refine ⟨h1, fun hh => ?_, h3⟩
   rcases hh with hh | hh
   ·have := P.dle v hh; omega
   ·have := ((P.lm v).1 hh).2.2; omega
  ·rintro ⟨h1, h2, h3⟩
   refine ⟨h1, ?_, h3⟩
   have hnd : v ∉ done := fun h => h2 (.inl h)
   have hnl : v ∉ lv := fun h => h2 (.inr h)
   rw [P.lm] at hnl
   have : ¬ c v ≤ 1 := fun h => hnl ⟨h1, hnd, h⟩
   omega
 ·rw [← P.inner_eq K]; exact P.peel.next K.tree (P.three K h)
theorem PlI.start (K : Lk b n ls) {lv : List Nat} {c : Nat → Int} (hc : ∀ v, v < n → c v = ((nbU b ls v).length : Int)) (hn : lv.Nodup) (hm : ∀ v, v ∈ lv ↔ v < n ∧ c v ≤ 1) : PlI b n ls [] lv c 0 := by
 refine ⟨fun v hv => by rw [hc v hv, degD, List.filter_eq_self.2 (fun _ _ => by simp)], by simp, by simp, by simp, hn, fun v => by rw [hm]; simp, ?_⟩
 have : (fun v => v < n ∧ v ∉ ([] : List Nat)) = (· < n) := by funext v; simp
 rw [this]; exact Tr.PeelI.start K.tree
end
end Go.Fw
namespace Go.Fw
open Go.Proofs Go.ChangeShapes Go.WideShapes Go.RowKit Go.ChangeAt
open Go.Proofs.Ytnaahaldkpdjlaa
set_option maxRecDepth 100000
section
variable {H : Type} {enc : TypeId × Value → H} {W : World}
def Wt (P : Program) (t : TypeId) (d : DataW H) : Prop := (DataW.weights P t d).all (· ≤ reachBytes) = true
theorem weightsAll_mem {P : Program} {e : TypeId} : ∀ {l : List (DataW H)} {d : DataW H}, d ∈ l → ∀ {p : Nat → Bool}, (DataW.weightsAll P e l).all p = true → (DataW.weights P e d).all p = true
 | [], _, h, _, _ => by cases h
 | x :: r, d, h, p, ha => by
  rw [DataW.weightsAll, List.all_append, Bool.and_eq_true] at ha
  rcases List.mem_cons.1 h with rfl | h
  ·exact ha.1
  ·exact weightsAll_mem h ha.2
theorem Wt.slice {P : Program} {t e : TypeId} (ht : P.underlying t = some (.slice e)) {l sp : List (DataW H)} (h : Wt P t (.slice l sp)) : l.length * P.bytesOf e ≤ reachBytes ∧ ∀ d ∈ l, Wt P e d := by
 unfold Wt at h
 rw [DataW.weights, ht] at h
 simp only [List.all_cons, List.all_append, Bool.and_eq_true, decide_eq_true_eq] at h
 obtain ⟨h1, h2, -⟩ := h
 exact ⟨Nat.le_trans (Nat.mul_le_mul_right _ (Nat.le_add_right _ _)) h1, fun d hd => weightsAll_mem hd h2⟩
theorem Wt.len {P : Program} {t e : TypeId} (ht : P.underlying t = some (.slice e)) {fuel : Nat} {v' : Value} {x : DataW H × List MemPlace} (h : DataW.trod enc P W 0 (fun _ => true) true fuel t [v'] = some x) (hw : Wt P t x.1)
    {b : Option Addr} {n c : Nat} (t0 : tag v' = some (.slice b n c)) : n * P.bytesOf e ≤ reachBytes := by
  rcases Go.Deep.open_slice ht h with ⟨e0, _⟩ | ⟨a', len, cap, m, k, D, Pl, e0, _, hl, hcap, hm, rfl, _⟩
  · injection e0 with e0; subst e0
    simp only [tag] at t0
    injection t0 with t0; injection t0 with _ t0 _; subst t0
    rw [Nat.zero_mul]; exact Nat.zero_le _
  · injection e0 with e0; subst e0
    have hn : n = len := by
      obtain ⟨bl, off, sp⟩ := a'
      cases sp with
      | none => simp only [tag] at t0; split at t0 <;> simp at t0; exact t0.2.1.symm
      | some k =>
        cases len with
        | zero => cases cap with
          | zero => simp only [tag] at t0; injection t0 with t0; injection t0 with _ t0 _; exact t0.symm
          | succ cap => simp [tag, flat] at t0
        | succ len => simp [tag, flat] at t0
    have := (Wt.slice ht hw).1
    rw [List.length_map, List.length_range] at this
    rw [hn]; exact this
structure TB (T : TM) : Prop where
 bs : T.bs.length ≤ 100000000000000
 b : ∀ p ∈ T.bs, p.length ≤ 8796093022208
 cs : T.cs.length ≤ 100000000000000
 ls : T.ls.length ≤ 8796093022208
end
end Go.Fw
namespace Go.Fw
open Go.Proofs
set_option maxHeartbeats 8000000
set_option maxRecDepth 10000
theorem GS.kill {k n T : Nat} {h : AHeap} {v : Value} {cs : List Value} (g : GS k h v n cs) (hb : blk v ≠ some T) : GS k (h.kill T) v n cs :=
 g.kept fun b o hv ho => by rw [AHeap.own_kill_ne _ _ _ (fun e => hb (by rw [← e]; exact hv))]; exact ho
theorem GS.old {k n T : Nat} {h : AHeap} {v : Value} {cs : List Value} (g : GS k h v n cs) (hT : h.own T = none) : blk v ≠ some T := by
 obtain ⟨_, ⟨rfl, _⟩ | ⟨id, c, cap, rfl, ho, _⟩⟩ := g
 ·intro e; cases e
 ·intro e; injection e with e; subst e; rw [hT] at ho; cases ho
theorem GS.isS {k n : Nat} {h : AHeap} {v : Value} {cs : List Value} (g : GS k h v n cs) : ∃ a m c, v = .slice a m c := by
 obtain ⟨a, c, rfl, _⟩ := (GS.cs g).sl; exact ⟨_, _, _, rfl⟩
structure OnT (b h : AHeap) (T : Nat) (cv lv v : Value) (cs : List Int) (ls : List Pr) (rows : List (List Pr)) (g : AHeap) : Prop where
 oT : h.own T = some (.cells [v, cv, lv])
 bg : Le b g
 gh : Le g h
 gT : g.own T = none
 ga : Apart g v
 vT : blk v ≠ some T
 rc : RL isI g cv cs
 rl : PR g lv ls
 us : ∃ us, GS 1 h v rows.length us ∧ ∀ (i : Nat) u r, us[i]? = some u → rows[i]? = some r → PR g u r
theorem OnT.start {b h : AHeap} {T : Nat} {cv lv : Value} {cs : List Int} {ls : List Pr} {x y z : Value} (w : WF h) (oT : h.own T = some (.cells [x, y, z])) (bT : b.own T = none) (l : Le b h) (gc : GI h cv cs) (nc : blk cv ≠ some T) (gl : GP h lv ls) (nl : blk lv ≠ some T) :
  aBuild Try.prog 76 [(1, cv), (2, lv)] = some (.agg #[.slice none 0 0, cv, lv]) ∧ aStore Try.prog h 76 (.pointer (some ⟨T, 0, none⟩)) (.agg #[.slice none 0 0, cv, lv]) = some (h.put T (.cells [.slice none 0 0, cv, lv])) ∧
   WF (h.put T (.cells [.slice none 0 0, cv, lv])) ∧ OnT b (h.put T (.cells [.slice none 0 0, cv, lv])) T cv lv (.slice none 0 0) cs ls [] (h.kill T) := by
 refine ⟨?_, store66 oT ⟨_, _, _, rfl, rfl⟩ (by obtain ⟨a, m, k, e⟩ := gc.isS; exact ⟨a, m, k, e, gc.rl.one⟩) (by obtain ⟨a, m, k, e⟩ := gl.isS; exact ⟨a, m, k, e, gl.pr.sl.one⟩), w.put _ (w.lt oT), ?_⟩
 ·obtain ⟨a1, b1, c1, rfl⟩ := gc.isS
  obtain ⟨a2, b2, c2, rfl⟩ := gl.isS
  kernel_rfl
 ·exact ⟨AHeap.own_put_eq _ _ _, l.to_kill bT, (Le.killed _ _).put _ (AHeap.own_kill_eq _ _), AHeap.own_kill_eq _ _, (fun i hi => by cases hi), (fun e => by cases e), GI.rl (GS.kill gc nc), GP.pr (GS.kill gl nl), [], GS.nil 1 _, fun i u r hi => by simp at hi⟩
end Go.Fw
namespace Go.Fw
open Go.Proofs
set_option maxHeartbeats 4000000
set_option maxRecDepth 10000
attribute [local irreducible] lowM bridgesM cutsM blocksM keyE
attribute [local instance] Classical.propDecidable
theorem nodup_idx {α : Type} {l : List α} (nd : l.Nodup) {i j : Nat} {x : α} (h : l[i]? = some x) (g : l[j]? = some x) : i = j := by
 obtain ⟨h1, e1⟩ := List.getElem?_eq_some_iff.1 h
 obtain ⟨h2, e2⟩ := List.getElem?_eq_some_iff.1 g
 rw [List.nodup_iff_pairwise_ne, List.pairwise_iff_getElem] at nd
 rcases Nat.lt_trichotomy i j with q | q | q
 ·exact absurd (e1.trans e2.symm) (nd i j h1 h2 q)
 ·exact q
 ·exact absurd (e2.trans e1.symm) (nd j i h2 h1 q)
end Go.Fw
