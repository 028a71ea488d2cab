/- A text of the proof. -/
import Derived.Test.YtnaahaldkpdjlaaFwRep
import Derived.Test.YtnaahaldkpdjlaaFwRules
import Derived.ProofKit
import Derived.Deep.Slices
import Derived.OpenShut
set_option linter.unusedSimpArgs false
set_option linter.unusedVariables false
namespace Go.Fw
variable {P : Program} {h h' : AHeap}
structure CS (k : Nat) (h : AHeap) (v : Value) (n : Nat) (cs : List Value) : Prop where
 sl : isSl v n
 len : cs.length = n * k
 get : ∀ i x, cs[i]? = some x → h.read (elemAddr v i) = some x
theorem CS.le {k n : Nat} {v : Value} {cs : List Value} (c : CS k h v n cs) (e : Le h h') : CS k h' v n cs := ⟨c.sl, c.len, fun i x hx => e.read (c.get i x hx)⟩
theorem RS.cs {v : Value} {vs : List Value} (r : RS h v vs) : CS 1 h v vs.length vs := ⟨r.sl, by simp, r.get⟩
theorem CS.rs {v : Value} {n : Nat} {vs : List Value} (r : CS 1 h v n vs) : RS h v vs := by
 have : vs.length = n := by simpa using r.len
 subst this; exact ⟨r.sl, r.get⟩
theorem CS.nil (k : Nat) (h : AHeap) : CS k h (.slice none 0 0) 0 [] := ⟨⟨none, 0, rfl, by simp⟩, by simp, fun i x hx => by simp at hx⟩
theorem readN_get : ∀ (cs : List Value) (a : Addr), (∀ i x, cs[i]? = some x → h.read (aadd a i) = some x) → readN h a cs.length = some cs
 | [], _, _ => rfl
 | c :: cs, a, hg => by
  have h0 := hg 0 c rfl
  have ih := readN_get cs (aadd a 1) fun i x hx => by
   have := hg (i + 1) x (by simpa using hx)
   simpa [aadd, Nat.add_assoc, Nat.add_comm, Nat.add_left_comm] using this
  simp only [List.length_cons, readN]
  rw [show h.read a = some c by simpa [aadd] using h0, ih]
theorem CS.readN {k n : Nat} {a : Addr} {cap : Nat} {cs : List Value} (c : CS k h (.slice (some a) n cap) n cs) : readN h a (n * k) = some cs := by
 rw [← c.len]; exact readN_get cs a fun i x hx => c.get i x hx
theorem CS.src {k n : Nat} {v : Value} {cs : List Value} {e : TypeId} (hk : tsize P e = k) (c : CS k h v n cs) : srcCells P h e v = some (n, cs) := by
 obtain ⟨a, cap, rfl, hs⟩ := c.sl
 cases a with
 | none =>
  have hn : n = 0 := by cases n with | zero => rfl | succ n => simp at hs
  subst hn
  have : cs = [] := by simpa using c.len
  subst this; simp [srcCells]
 | some a => simp [srcCells, hk, c.readN]
theorem CS.first {k n : Nat} {v : Value} {cs : List Value} (c : CS k h v n cs) (hn : n ≠ 0) (m : Nat) (hm : m ≤ n) : firstN h k m v = some (cs.take (m * k)) := by
 obtain ⟨a, cap, rfl, hs⟩ := c.sl
 obtain ⟨a, rfl⟩ := Option.isSome_iff_exists.1 (hs (by omega))
 have hle : m * k ≤ n * k := Nat.mul_le_mul_right _ hm
 have hl : (cs.take (m * k)).length = m * k := by rw [List.length_take, c.len]; omega
 simp only [firstN, hm, if_true]
 conv => lhs; rw [← hl]
 refine readN_get _ _ fun i x hx => c.get i x ?_
 rw [List.getElem?_take] at hx
 split at hx
 ·exact hx
 ·cases hx
def blk : Value → Option Nat
 | .slice (some ⟨b, _, none⟩) _ _ => some b
 | _ => none
def Apart (g : AHeap) (v : Value) : Prop := ∀ b, blk v = some b → g.own b = none
def GS (k : Nat) (h : AHeap) (v : Value) (n : Nat) (cs : List Value) : Prop :=
 cs.length = n * k ∧ ((v = .slice none 0 0 ∧ n = 0) ∨
  ∃ id c cap, v = .slice (some ⟨id, 0, none⟩) n cap ∧ h.own id = some (.cells c) ∧ c.take (n * k) = cs ∧ (cap = UNK + k ∨ cap = n ∧ n < 1000000000000))
theorem GS.nil (k : Nat) (h : AHeap) : GS k h (.slice none 0 0) 0 [] := ⟨by simp, .inl ⟨rfl, rfl⟩⟩
theorem GS.full {k n id : Nat} {c : List Value} (ho : h.own id = some (.cells c)) (hl : c.length = n * k) (hn : n < 1000000000000) : GS k h (.slice (some ⟨id, 0, none⟩) n n) n c :=
 ⟨hl, .inr ⟨id, c, n, rfl, ho, by rw [← hl, List.take_length], .inr ⟨rfl, hn⟩⟩⟩
theorem GS.le {k n : Nat} {v : Value} {cs : List Value} (g : GS k h v n cs) (e : Le h h') : GS k h' v n cs := by
 obtain ⟨hl, g | ⟨id, c, cap, rfl, ho, r⟩⟩ := g
 ·exact ⟨hl, .inl g⟩
 ·exact ⟨hl, .inr ⟨id, c, cap, rfl, e.own _ _ ho, r⟩⟩
theorem GS.cs {k n : Nat} {v : Value} {cs : List Value} (g : GS k h v n cs) : CS k h v n cs := by
 obtain ⟨hl, ⟨rfl, rfl⟩ | ⟨id, c, cap, rfl, ho, rfl, hc⟩⟩ := g
 ·have : cs = [] := by simpa using hl
  subst this; exact .nil k h
 ·refine ⟨⟨_, cap, rfl, by simp⟩, hl, fun i x hx => ?_⟩
  rw [elemAddr_mk, aadd, read_own ho, Nat.zero_add]
  rw [List.getElem?_take] at hx
  split at hx
  ·exact hx
  ·cases hx
def apT (P : Program) (t xt : TypeId) (k : Nat) : Bool :=
  match P.underlying t, P.underlying xt with
  | some (.slice e), some dx => match azero P e with
    | some z => z.cells.size == tsize P e && z.cells.toList.all (·.oneCell') && (P.underlying e).isSome && notIntD dx && tsize P e == k && decide (P.bytesOf e ≤ 100000)
    | none => false
  | _, _ => false
theorem GS.append {t xt : TypeId} {k n n' : Nat} {v x : Value} {cs news : List Value} (ht : apT P t xt k = true) (g : GS k h v n cs) (hs : ∀ e, tsize P e = k → srcCells P h e x = some (n', news))
  (hc1 : cs.all (·.oneCell') = true) (h1 : news.all (·.oneCell') = true) (hnl : news.length = n' * k) (hb : n + n' ≤ 1000000000) :
  ∃ v' h', aAppend P h t xt v x = some (v', h') ∧ GS k h' v' (n + n') (cs ++ news) ∧ (∀ f, WF h → Le f h → Apart f v → Le f h' ∧ Apart f v') := by
 unfold apT at ht
 split at ht
 ·rename_i e dx hu hx
  split at ht
  ·rename_i z hz
   simp only [Bool.and_eq_true, beq_iff_eq, decide_eq_true_eq] at ht
   obtain ⟨⟨⟨⟨⟨hz1, hz2⟩, hd⟩, hni⟩, hk⟩, hby⟩ := ht
   have hs := hs e hk
   have b1 : (n + n') * P.bytesOf e ≤ 140737488355328 := Nat.le_trans (Nat.mul_le_mul hb hby) (by decide)
   have b2 : n + n' ≤ 140737488355328 := by omega
   have hall : z.cells.size = tsize P e ∧ z.cells.toList.all (·.oneCell') ∧ (P.underlying e).isSome ∧ notIntD dx ∧ news.all (·.oneCell') ∧ (n + n') * P.bytesOf e ≤ 140737488355328 ∧ n + n' ≤ 140737488355328 ∧ news.length = n' * tsize P e :=
    ⟨hz1, hz2, hd, hni, h1, b1, b2, by rw [hk]; exact hnl⟩
   have hlen : (cs ++ news).length = (n + n') * k := by rw [List.length_append, g.1, hnl, Nat.add_mul]
   by_cases h0 : n' = 0
   ·subst h0
    have hnn : news = [] := by simpa using hnl
    subst hnn
    refine ⟨v, h, ?_, by simpa using g, fun f _ e a => ⟨e, a⟩⟩
    obtain ⟨hl, ⟨rfl, rfl⟩ | ⟨id, c, cap, rfl, ho, ht, hc⟩⟩ := g
    ·simp [aAppend, hu, hx, hz, hs, hall]
    ·have : n ≤ cap := by
      rcases hc with rfl | ⟨rfl, _⟩
      ·have : (1000000000 : Nat) ≤ UNK := by decide
       omega
      ·exact Nat.le_refl _
     simp only [aAppend, hu, hx, hz, hs]
     rw [if_pos hall, if_pos trivial, if_pos this]
   ·obtain ⟨hl, ⟨rfl, rfl⟩ | ⟨id, c, cap, rfl, ho, htk, hc⟩⟩ := g
    ·have hcs : cs = [] := by simpa using hl
     subst hcs
     refine ⟨_, _, ?_, ⟨hlen, .inr ⟨h.next, news, UNK + k, by rfl, AHeap.own_alloc_eq _ _, by simp [← hnl, List.take_length], .inl rfl⟩⟩, fun f hw e a => ⟨e.alloc hw _, ?_⟩⟩
     ·have hno : ¬ UNK ≤ 0 := by decide
      have hno2 : ¬ (0 + n' ≤ 0) := by omega
      simp only [aAppend, hu, hx, hz, hs]
      rw [if_pos hall, if_neg h0, if_neg hno, if_neg hno2]
      simp [oldCells, hk]
     ·intro b hb; simp [blk] at hb; subst hb; exact e.next hw (Nat.le_refl _)
    ·have hrd : Fw.readN h ⟨id, 0, none⟩ (n * k) = some cs := by
      have : n * k ≤ c.length := by have := hl; rw [← htk, List.length_take] at this; omega
      rw [readN_own ho (n * k) 0 (by omega)]; simp [htk]
     rcases hc with rfl | ⟨rfl, hcn⟩
     ·refine ⟨_, (h.kill id).alloc (.cells (cs ++ news)), ?_, ⟨hlen, .inr ⟨h.next, cs ++ news, UNK + k, by rfl, by exact AHeap.own_alloc_eq _ _, by rw [← hlen, List.take_length], .inl rfl⟩⟩, fun f hw e a => ⟨(e.kill (a _ rfl)).alloc (hw.kill _) _, ?_⟩⟩
      ·simp only [aAppend, hu, hx, hz, hs]
       rw [if_pos hall, if_neg h0, if_pos (Nat.le_add_right _ _), if_pos (by rw [hk])]
       simp only [hk, hrd, ho, hc1, if_true]
      ·intro b hb; simp [blk] at hb; subst hb; exact e.next hw (Nat.le_refl _)
     ·have hno : ¬ UNK ≤ cap := Nat.not_le.2 (Nat.lt_of_lt_of_le hcn (by decide))
      refine ⟨_, _, ?_, ⟨hlen, .inr ⟨h.next, cs ++ news, UNK + k, by rfl, AHeap.own_alloc_eq _ _, by rw [← hlen, List.take_length], .inl rfl⟩⟩, fun f hw e a => ⟨e.alloc hw _, ?_⟩⟩
      ·simp only [aAppend, hu, hx, hz, hs]
       rw [if_pos hall, if_neg h0, if_neg hno, if_neg (by omega : ¬ cap + n' ≤ cap)]
       simp only [oldCells, hk, hrd, hc1, if_true]
      ·intro b hb; simp [blk] at hb; subst hb; exact e.next hw (Nat.le_refl _)
  ·cases ht
 ·cases ht
theorem all_rep {v : Value} (hv : v.oneCell' = true) (n : Nat) : (List.replicate n v).all (·.oneCell') = true := by
 rw [List.all_eq_true]; intro x hx; rw [List.eq_of_mem_replicate hx]; exact hv
theorem aMakeSlice1 {t e : TypeId} {z : Value} {d : TypeDesc} (h : AHeap) (hu : P.underlying t = some (.slice e)) (hz : azero P e = some z) (hc : z.cells = #[z]) (hf : flat z = true) (h1 : z.oneCell' = true) (hs : tsize P e = 1) (hd : P.underlying e = some d) (hb : (P.bytesOf e).ble 1000 = true) (n : Nat) (hn : n ≤ 1000000) :
  aMakeSlice P h t (.int .i64 n) (.int .i64 n) = some (.slice (some ⟨h.next, 0, none⟩) n n, h.alloc (.cells (List.replicate n z))) := by
 have b1 : (P.bytesOf e : Int) * n ≤ 140737488355328 := by
  have : P.bytesOf e * n ≤ 1000 * 1000000 := Nat.mul_le_mul (Nat.le_of_ble_eq_true hb) hn
  have h2 : ((P.bytesOf e * n : Nat) : Int) ≤ 1000000000 := by omega
  rw [Int.natCast_mul] at h2; omega
 have b2 : (n : Int) ≤ 140737488355328 := by omega
 simp [aMakeSlice, hu, hz, hc, hf, hs, hd, b1, b2, aNewRow, zrow_one, h1]
theorem aCopy_own {t e : TypeId} {d : TypeDesc} {k n id off dl dc : Nat} {c cs : List Value} {v : Value} (hu : P.underlying t = some (.slice e)) (hd : P.underlying e = some d) (hk : tsize P e = k) (ho : h.own id = some (.cells c)) (hv : CS k h v n cs) (hc1 : cs.all (·.oneCell') = true)
  (m : Nat) (hm : min n dl = m) (h0 : m ≠ 0) (hb : off + m * k ≤ c.length) :
  aCopy P h t (.slice (some ⟨id, off, none⟩) dl dc) v = some (.int .i64 m, h.put id (.cells (c.take off ++ cs.take (m * k) ++ c.drop (off + m * k)))) := by
 have hn : n ≠ 0 := by omega
 have hmn : m ≤ n := by omega
 have hlen : aLenOf v = some n := by obtain ⟨a, cap, rfl, _⟩ := hv.sl; rfl
 have hf := hv.first hn m hmn
 have hle : m * k ≤ n * k := Nat.mul_le_mul_right _ hmn
 have hl : (cs.take (m * k)).length = m * k := by rw [List.length_take, hv.len]; omega
 have h1 : (cs.take (m * k)).all (·.oneCell') = true := by
  rw [List.all_eq_true] at hc1 ⊢; intro x hx; exact hc1 x (List.mem_of_mem_take hx)
 have hcond : off + (cs.take (m * k)).length ≤ c.length ∧ (cs.take (m * k)).all (·.oneCell') ∧ m ≠ 0 := ⟨by rw [hl]; exact hb, h1, h0⟩
 simp only [aCopy, hu, hlen, hd, Option.isSome_some, if_true, hm, hk]
 rw [if_neg (fun e => h0 e.1)]
 simp only [hf, ho]
 rw [if_pos hcond, putCells_eq _ _ _ hcond.1, hl]
theorem aCopy_zero {t e : TypeId} {d : TypeDesc} {dl dc n : Nat} {a : Option Addr} {v : Value} (hu : P.underlying t = some (.slice e)) (hd : P.underlying e = some d) (hk : tsize P e ≠ 0) (hv : isSl v n) (hm : min n dl = 0) :
  aCopy P h t (.slice a dl dc) v = some (.int .i64 (0 : Nat), h) := by
 obtain ⟨a, cap, rfl, _⟩ := hv
 simp [aCopy, hu, aLenOf, hd, hm, hk]
theorem aSlice_lo {t e : TypeId} {d : TypeDesc} {n cap : Nat} {a : Option Addr} (hu : P.underlying t = some (.slice e)) (hd : P.underlying e = some d) (hk : tsize P e = 1) {k : IntKind} (i : Nat) (hi : i ≤ n) (hn : n < cap ∨ i < n) (hc : n ≤ cap) (hs : cap < UNK) :
  aSlice P t (.slice a n cap) (some (.int k i)) none none = some (.slice (a.map (fun a => aadd a i)) (n - i) (cap - i)) := by
 have h1 : ¬ UNK ≤ cap := by omega
 have h2 : (0 : Int) ≤ i := by omega
 have h3 : (i : Int) ≤ n := by omega
 have h4 : ¬ (cap = i) := by omega
 simp [aSlice, hu, h1, hc, hd, aBounds, aBound, h2, h3, h4, hk]
theorem aSlice_hi {t e : TypeId} {d : TypeDesc} {n cap : Nat} {a : Addr} (hu : P.underlying t = some (.slice e)) (hd : P.underlying e = some d) {k : IntKind} (i : Nat) (hi : i ≤ cap) (hc : n ≤ cap) (hs : cap < UNK) :
  aSlice P t (.slice (some a) n cap) none (some (.int k i)) none = some (.slice (some a) i cap) := by
 have h1 : ¬ UNK ≤ cap := by omega
 have h2 : (0 : Int) ≤ i := by omega
 have h3 : (i : Int) ≤ cap := by omega
 simp [aSlice, hu, h1, hc, hd, aBounds, aBound, h2, h3, aadd]
theorem CS.own {k id off n cap : Nat} {c : List Value} (ho : h.own id = some (.cells c)) (hn : off + n * k ≤ c.length) : CS k h (.slice (some ⟨id, off, none⟩) n cap) n ((c.drop off).take (n * k)) := by
 have hl : ((c.drop off).take (n * k)).length = n * k := by simp; omega
 refine ⟨⟨_, cap, rfl, by simp⟩, hl, fun i x hx => ?_⟩
 rw [elemAddr_mk, aadd, read_own ho]
 rw [List.getElem?_take] at hx
 split at hx
 ·rw [List.getElem?_drop] at hx; exact hx
 ·cases hx
theorem aIdx {t e : TypeId} {d : TypeDesc} {a : Addr} {n cap : Nat} (hu : P.underlying t = some (.slice e)) (hd : P.underlying e = some d) (hs : tsize P e = 1) {k : IntKind} (i : Nat) (hi : i < n) :
  aIndexAddr P t (.slice (some a) n cap) (.int k i) = some (.pointer (some (aadd a i))) := by
 have h1 : (i : Int) < (n : Int) := by omega
 simp [aIndexAddr, hu, h1, hd, hs]
theorem aLenS {t e : TypeId} {a : Option Addr} {n cap : Nat} (hu : P.underlying t = some (.slice e)) (h : AHeap) : aLen P h t (.slice a n cap) = some (.int .i64 n) := by simp [aLen, hu]
theorem keep_own {v v' : Value} (hf : ∀ f, WF h → Le f h → Apart f v → Le f h' ∧ Apart f v') (hw : WF h) {a : Nat} {o : AObj} (ho : h.own a = some o) (hb : blk v ≠ some a) : h'.own a = some o ∧ blk v' ≠ some a := by
 cases hv : blk v with
 | none =>
  obtain ⟨h1, h2⟩ := hf h hw (Le.refl h) (fun b hb => by rw [hv] at hb; cases hb)
  exact ⟨h1.own _ _ ho, fun e => by have := h2 a e; rw [ho] at this; cases this⟩
 | some b =>
  have hba : a ≠ b := by intro e; subst e; exact hb hv
  obtain ⟨h1, h2⟩ := hf (h.kill b) hw (Le.killed h b) (fun c hc => by rw [hv] at hc; injection hc with hc; subst hc; exact AHeap.own_kill_eq _ _)
  have : (h.kill b).own a = some o := by rw [AHeap.own_kill_ne _ _ _ hba]; exact ho
  exact ⟨h1.own _ _ this, fun e => by have h3 := h2 a e; rw [this] at h3; cases h3⟩
theorem GS.push {t : TypeId} {n id : Nat} {v x : Value} {cs : List Value} (ht : apT P t t 1 = true) (g : GS 1 h v n cs) (ho : h.own id = some (.cells [x])) (hc1 : cs.all (·.oneCell') = true) (h1 : x.oneCell' = true) (hb : n + 1 ≤ 1000000000) :
  ∃ v' h', aAppend P h t t v (.slice (some ⟨id, 0, none⟩) 1 1) = some (v', h') ∧ GS 1 h' v' (n + 1) (cs ++ [x]) ∧ (∀ f, WF h → Le f h → Apart f v → Le f h' ∧ Apart f v') :=
 g.append ht (fun e he => (CS.own (k := 1) (off := 0) (n := 1) (cap := 1) ho (by simp)).src he) hc1 (by simp [h1]) (by simp) hb
theorem RL.load' {α : Type} {R : AHeap → Value → α → Prop} {g : AHeap} {v : Value} {xs : List α} (hv : RL R g v xs) {e : TypeId} {d : TypeDesc} (hu : P.underlying e = some d) (hd : isAggD d = false) (i : Nat) (hi : i < xs.length) :
  ∃ u, (∀ h, Le g h → aload P h e (elemAddr v i) = some u) ∧ R g u xs[i] := by
 obtain ⟨u, h1, h2⟩ := hv.load (P := P) hu hd i hi
 refine ⟨u, fun h hl => ?_, h2⟩
 rw [aload_flat hu hd] at h1 ⊢
 exact hl.read h1
end Go.Fw
namespace Go.Fw
variable {P : Program} {h h' : AHeap}
def rem (l : List Nat) (h : AHeap) : AHeap := l.foldr (fun i g => g.kill i) h
theorem rem_ext (l : List Nat) : (rem l h).ext = h.ext := by
 induction l with
 | nil => rfl
 | cons a l ih => exact ih
theorem rem_own (l : List Nat) (i : Nat) : (rem l h).own i = if i ∈ l then none else h.own i := by
 induction l with
 | nil => simp [rem]
 | cons a l ih =>
  show ((rem l h).kill a).own i = _
  rw [own_kill, ih]
  by_cases e : i = a
  ·simp [e]
  ·simp [e]
theorem rem_some {l : List Nat} {i : Nat} {o : AObj} : (rem l h).own i = some o ↔ h.own i = some o ∧ i ∉ l := by
 rw [rem_own]; split <;> simp_all
theorem rem_le (l : List Nat) (h : AHeap) : Le (rem l h) h := ⟨(rem_ext l).symm, fun i o hi => (rem_some.1 hi).1⟩
theorem Le.rem {l l' : List Nat} (he : h'.ext = h.ext) (hk : ∀ i o, h.own i = some o → i ∉ l → h'.own i = some o ∧ i ∉ l') : Le (Fw.rem l h) (Fw.rem l' h') :=
 ⟨by rw [rem_ext, rem_ext, he], fun i o hi => by
  obtain ⟨h1, h2⟩ := rem_some.1 hi
  exact rem_some.2 (hk i o h1 h2)⟩
theorem Le.of_none {g : AHeap} {l : List Nat} (e : Le g h) (hn : ∀ i ∈ l, g.own i = Option.none) : Le g (Fw.rem l h) :=
 ⟨by rw [rem_ext]; exact e.ext, fun i o hi => rem_some.2 ⟨e.own _ _ hi, fun hm => by rw [hn i hm] at hi; cases hi⟩⟩
theorem Le.mono_rem {l : List Nat} (e : Le h h') : Le (Fw.rem l h) (Fw.rem l h') := Le.rem e.ext fun i o hi hn => ⟨e.own _ _ hi, hn⟩
def bl (v : Value) : List Nat := (blk v).toList
theorem mem_bl {v : Value} {i : Nat} : i ∈ bl v ↔ blk v = some i := by simp [bl]
theorem GS.to_rem {k n : Nat} {v : Value} {cs : List Value} {l : List Nat} (g : GS k h v n cs) (hb : ∀ b, blk v = some b → b ∉ l) : GS k (rem l h) v n cs := by
 obtain ⟨hl, g | ⟨id, c, cap, rfl, ho, r⟩⟩ := g
 ·exact ⟨hl, .inl g⟩
 ·exact ⟨hl, .inr ⟨id, c, cap, rfl, rem_some.2 ⟨ho, hb id rfl⟩, r⟩⟩
theorem GS.blk_own {k n : Nat} {v : Value} {cs : List Value} (g : GS k h v n cs) {b : Nat} (hb : blk v = some b) : h.own b ≠ none := by
 obtain ⟨hl, ⟨rfl, _⟩ | ⟨id, c, cap, rfl, ho, r⟩⟩ := g
 ·cases hb
 ·injection hb with hb; subst hb; rw [ho]; simp
def cu (v : Value) : Prop := v = .slice none 0 0 ∨ ∃ a n c, v = .slice a n c ∧ UNK ≤ c
theorem aadd_aadd (a : Addr) (i j : Nat) : aadd (aadd a i) j = aadd a (i + j) := by simp [aadd, Nat.add_assoc]
theorem RS.part {a : Addr} {n cap cap' lo hi : Nat} {vs : List Value} (r : RS h (.slice (some a) n cap) vs) (h1 : lo ≤ hi) (h2 : hi ≤ n) (hn : vs.length = n) : RS h (.slice (some (aadd a lo)) (hi - lo) cap') ((vs.drop lo).take (hi - lo)) := by
 have hl : ((vs.drop lo).take (hi - lo)).length = hi - lo := by simp; omega
 refine ⟨⟨_, cap', by rw [hl], by simp⟩, fun i x hx => ?_⟩
 rw [elemAddr_mk, aadd_aadd]
 rw [List.getElem?_take] at hx
 split at hx
 ·rw [List.getElem?_drop] at hx; have := r.get (lo + i) x hx; rwa [elemAddr_mk] at this
 ·cases hx
theorem RS.none' {a : Option Addr} {n cap cap' : Nat} {a' : Option Addr} (hn : n = 0) : RS h (.slice a' n cap') [] := by
 subst hn; exact ⟨⟨a', cap', rfl, by simp⟩, fun i x hx => by simp at hx⟩
end Go.Fw
namespace Go.Fw
open Go.ChangeShapes Go.WideShapes Go.RowKit
def ext0 (W : World) : AHeap := ⟨fun b off => (W.cell? ⟨b, off, none⟩).bind tag, 0, .leaf⟩
theorem ext0_own (W : World) (i : Nat) : (ext0 W).own i = none := by simp [ext0, AHeap.own, Trie.get]
theorem Rel.start (W : World) (m : CMap) : Rel (Base.of W) m (ext0 W) W :=
 ⟨Nat.le_refl _, fun _ _ => rfl, fun _ _ => rfl, fun i hi => absurd (ext0_own W i) hi, fun i hi => absurd (ext0_own W i) hi, fun i o hi => by (rw [ext0_own] at hi; cases hi), fun i j hi => absurd (ext0_own W i) hi, rfl, rfl, ⟨rfl, Nat.le_refl _⟩, ⟨fun _ h => (nomatch h), Nat.zero_le _, .nil, fun _ _ h => (nomatch h), fun _ _ h => (nomatch h), fun _ _ _ h => (nomatch h)⟩⟩
theorem WF.start (W : World) : WF (ext0 W) := fun i hi => absurd (ext0_own W i) hi
theorem Rel.below {W w' : World} {m : CMap} {h : AHeap} (R : Rel (Base.of W) m h w') : Below W.heap.size W w' := ⟨R.os, R.tape.1, R.output, R.size, R.old⟩
section
variable {H : Type} {enc : TypeId × Value → H} {P : Program} {W : World}
def Rd {α : Type} (enc : TypeId × Value → H) (P : Program) (W : World) (t : TypeId) (R : AHeap → Value → α → Prop) : Prop :=
 ∀ fuel cs x, DataW.trod enc P W 0 (fun _ => true) true fuel t cs = some x → ∃ v' v a, cs = [v'] ∧ tag v' = some v ∧ R (ext0 W) v a
theorem addr_add_of {a : Addr} (h : a.spot = none) (i : Nat) : a.add i = ⟨a.block, a.off + i, none⟩ := by
 obtain ⟨b, off, sp⟩ := a
 simp only at h
 subst h
 unfold Addr.add
 split
 ·rename_i h; subst h; rfl
 ·rfl
theorem rd_slice {α : Type} {R : AHeap → Value → α → Prop} {t e : TypeId} (ht : P.underlying t = some (.slice e)) (he : P.cellsOf e = 1) (hr : Rd enc P W e R) : Rd enc P W t (RL R) := by
 intro fuel cs x h
 rcases Go.Deep.open_slice1 ht he h with ⟨rfl, _⟩ | ⟨a, len, cap, m, n, V, D, Pl, rfl, hb, hl, hm, hmm, _, hx⟩
 ·exact ⟨_, .slice none 0 0, [], rfl, rfl, RL.nil⟩
 ·simp only [if_true] at hmm
  have hmm2 := hmm.symm
  subst hmm2
  have hU : cap < UNK := Nat.lt_of_le_of_lt hm (by decide)
  by_cases h0 : cap = 0
  ·subst h0
   have : len = 0 := by omega
   subst this
   refine ⟨_, .slice (some ⟨a.block, a.off, some 0⟩) 0 0, [], rfl, ?_, [], ⟨⟨_, 0, rfl, by simp⟩, by simp⟩, rfl, by simp⟩
   obtain ⟨b, off, sp⟩ := a
   cases sp with
   | none => simp only [tag]; rw [if_pos (by decide)]
   | some k => rfl
  ·have hsp : a.spot = none := by
    have := (hx 0 (by omega)).1
    rw [show a.add 0 = a from rfl] at this
    simp only [World.cell?] at this
    split at this
    ·split at this
     ·cases this
     ·rename_i hs; simpa using hs
    ·cases this
   have key : ∀ k, k ≤ len → ∃ (vs : List Value) (xs : List α), vs.length = k ∧ xs.length = k ∧ (∀ (i : Nat) u, vs[i]? = some u → tag (V i) = some u) ∧ ∀ (i : Nat) u y, vs[i]? = some u → xs[i]? = some y → R (ext0 W) u y := by
    intro k
    induction k with
    | zero => intro _; exact ⟨[], [], rfl, rfl, by simp, by simp⟩
    | succ k ih =>
     intro hk
     obtain ⟨vs, xs, h1, h2, h3, h4⟩ := ih (by omega)
     obtain ⟨v', v, y, e1, e2, e3⟩ := hr _ _ _ (hx k (by omega)).2
     injection e1 with e1
     subst e1
     refine ⟨vs ++ [v], xs ++ [y], by simp [h1], by simp [h2], fun i u hi => ?_, fun i u z hi hz => ?_⟩
     ·by_cases hik : i < k
      ·rw [List.getElem?_append_left (by omega)] at hi; exact h3 i u hi
      ·rw [List.getElem?_append_right (by omega)] at hi
       have : i = k := by
        have := (List.getElem?_eq_some_iff.1 hi).1
        simp at this; omega
       subst this
       simp [h1] at hi; subst hi; exact e2
     ·by_cases hik : i < k
      ·rw [List.getElem?_append_left (by omega)] at hi
       rw [List.getElem?_append_left (by omega)] at hz
       exact h4 i u z hi hz
      ·rw [List.getElem?_append_right (by omega)] at hi hz
       have : i = k := by
        have := (List.getElem?_eq_some_iff.1 hi).1
        simp at this; omega
       subst this
       simp [h1] at hi; simp [h2] at hz; subst hi hz; exact e3
   obtain ⟨vs, xs, h1, h2, h3, h4⟩ := key len (Nat.le_refl _)
   refine ⟨_, .slice (some ⟨a.block, a.off, some 0⟩) len cap, xs, rfl, ?_, vs, ⟨⟨_, cap, by rw [h1], by simp⟩, fun i u hi => ?_⟩, by omega, fun i y u hy hu => h4 i u y hu hy⟩
   ·obtain ⟨b, off, sp⟩ := a
    simp only at hsp
    subst hsp
    simp only [tag]
    rw [if_pos hU]
   ·have hil : i < len := by have := (List.getElem?_eq_some_iff.1 hi).1; omega
    have hc := (hx i (by omega)).1
    rw [addr_add_of hsp] at hc
    have ht := h3 i u hi
    rw [elemAddr_mk]
    simp only [aadd, AHeap.read, ext0, hc, Option.bind_some]
    exact ht
end
end Go.Fw
namespace Go.Fw
open Go.ChangeShapes Go.WideShapes Go.RowKit
section
variable {H : Type} {enc : TypeId × Value → H} {P : Program} {W : World}
def RdK (enc : TypeId × Value → H) (P : Program) (W : World) (t : TypeId) (k : Nat) (Q : List Value → Prop) : Prop :=
 ∀ fuel cs x, DataW.trod enc P W 0 (fun _ => true) true fuel t cs = some x → ∃ us : List Value, us.length = k ∧ cs.length = k ∧ (∀ (i : Nat) u v', us[i]? = some u → cs[i]? = some v' → tag v' = some u) ∧ Q us
theorem rd_sliceK {t e : TypeId} {k : Nat} {Q : List Value → Prop} (ht : P.underlying t = some (.slice e)) (he : P.cellsOf e = k) (hk : 0 < k) (hr : RdK enc P W e k Q) :
  ∀ fuel cs x, DataW.trod enc P W 0 (fun _ => true) true fuel t cs = some x → ∃ v' v n C, cs = [v'] ∧ tag v' = some v ∧ CS k (ext0 W) v n C ∧ ∀ i, i < n → Q ((C.drop (i * k)).take k) := by
 intro fuel cs x h
 rcases Go.Deep.open_slice ht h with ⟨rfl, _⟩ | ⟨a, len, cap, m, n, D, Pl, rfl, hb, hl, hm, hmm, _, hx⟩
 ·exact ⟨_, .slice none 0 0, 0, [], rfl, rfl, CS.nil k _, fun i hi => absurd hi (by omega)⟩
 ·simp only [if_true] at hmm
  have hmm2 := hmm.symm
  subst hmm2
  rw [he] at hx
  have hU : cap < UNK := Nat.lt_of_le_of_lt hm (by decide)
  by_cases h0 : cap = 0
  ·subst h0
   have : len = 0 := by omega
   subst this
   refine ⟨_, .slice (some ⟨a.block, a.off, some 0⟩) 0 0, 0, [], rfl, ?_, ⟨⟨_, 0, rfl, by simp⟩, by simp, by simp⟩, fun i hi => absurd hi (by omega)⟩
   obtain ⟨b, off, sp⟩ := a
   cases sp with
   | none => simp only [tag]; rw [if_pos (by decide)]
   | some k => rfl
  ·have hsp : a.spot = none := by
    obtain ⟨cs', h1, h2⟩ := hx 0 (by omega)
    obtain ⟨us, _, hl2, _⟩ := hr _ _ _ h2
    obtain ⟨_, hlen, hcell⟩ := World.cells?_some h1
    have hc := hcell 0 hk
    rw [show (a.add (0 * k)).add 0 = a from by simp [Addr.add]] at hc
    cases hcs : cs'[0]? with
    | none => rw [List.getElem?_eq_none_iff] at hcs; omega
    | some q =>
     rw [hcs] at hc
     simp only [World.cell?] at hc
     split at hc
     ·split at hc
      ·cases hc
      ·rename_i hs; simpa using hs
     ·cases hc
   have key : ∀ j, j ≤ len → ∃ C : List Value, C.length = j * k ∧ (∀ (i : Nat) u, C[i]? = some u → (ext0 W).read ⟨a.block, a.off + i, some 0⟩ = some u) ∧ ∀ i, i < j → Q ((C.drop (i * k)).take k) := by
    intro j
    induction j with
    | zero => intro _; exact ⟨[], by simp, by simp, fun i hi => absurd hi (by omega)⟩
    | succ j ih =>
     intro hj
     obtain ⟨C, h1, h2, h3⟩ := ih (by omega)
     obtain ⟨cs', hc, ht⟩ := hx j (by omega)
     obtain ⟨us, l1, l2, l3, q⟩ := hr _ _ _ ht
     obtain ⟨_, hlen, hcell⟩ := World.cells?_some hc
     refine ⟨C ++ us, by simp [h1, l1, Nat.succ_mul], fun i u hi => ?_, fun i hi => ?_⟩
     ·by_cases hik : i < j * k
      ·rw [List.getElem?_append_left (by omega)] at hi; exact h2 i u hi
      ·rw [List.getElem?_append_right (by omega), h1] at hi
       have hlt : i - j * k < k := by
        have := (List.getElem?_eq_some_iff.1 hi).1; omega
       have hc1 := hcell (i - j * k) (by omega)
       have hsome : cs'[i - j * k]? = some cs'[i - j * k] := List.getElem?_eq_getElem (by omega)
       have htag := l3 _ u _ hi hsome
       rw [hsome, addr_add_of hsp, addr_add_of rfl] at hc1
       simp only at hc1
       rw [show a.off + j * k + (i - j * k) = a.off + i by omega] at hc1
       simp only [AHeap.read, ext0, hc1, Option.bind_some]
       exact htag
     ·by_cases hij : i < j
      ·have hik : i * k + k ≤ j * k := by rw [← Nat.succ_mul]; exact Nat.mul_le_mul_right _ hij
       rw [List.drop_append_of_le_length (by omega), List.take_append_of_le_length (by simp; omega)]
       exact h3 i hij
      ·obtain rfl : i = j := by omega
       rw [List.drop_append, show (C.drop (i * k)) = [] from List.drop_eq_nil_of_le (by omega), h1]
       simp only [Nat.sub_self, List.drop_zero, List.nil_append]
       rw [List.take_of_length_le (by omega)]
       exact q
   obtain ⟨C, h1, h2, h3⟩ := key len (Nat.le_refl _)
   refine ⟨_, .slice (some ⟨a.block, a.off, some 0⟩) len cap, len, C, rfl, ?_, ⟨⟨_, cap, rfl, by simp⟩, h1, fun i u hi => ?_⟩, h3⟩
   ·obtain ⟨b, off, sp⟩ := a
    simp only at hsp
    subst hsp
    simp only [tag]
    rw [if_pos hU]
   ·rw [elemAddr_mk]
    exact h2 i u hi
theorem rd_pair {t e : TypeId} (ht : P.underlying t = some (.array 2 e)) (he : P.underlying e = some (.int .i64)) (hc : P.cellsOf e = 1) (hc2 : P.cellsOf t = 2) :
  RdK enc P W t 2 (fun us => ∃ a b, us = [.int .i64 a, .int .i64 b]) := by
 intro fuel cs x h
 obtain ⟨xs, m, _, _, hl, hxs, hx⟩ := DataW.trod_array ht h
 rw [hc2] at hl
 match cs, hl, xs, hxs with
 | [c0, c1], _, [x0, x1], _ =>
  have h0 := hx 0 (by omega)
  have h1 := hx 1 (by omega)
  simp [hc] at h0 h1
  obtain ⟨a, ea, _, _⟩ := DataW.trod_int he h0
  obtain ⟨b, eb, _, _⟩ := DataW.trod_int he h1
  injection ea with ea
  injection eb with eb
  subst ea eb
  refine ⟨[.int .i64 a, .int .i64 b], rfl, rfl, fun i u v' hu hv => ?_, a, b, rfl⟩
  match i with
  | 0 => simp at hu hv; subst hu hv; rfl
  | 1 => simp at hu hv; subst hu hv; rfl
  | i + 2 => simp at hu
end
end Go.Fw
