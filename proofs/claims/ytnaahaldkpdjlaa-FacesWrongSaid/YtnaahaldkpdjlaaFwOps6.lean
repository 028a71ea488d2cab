/- A text of the proof. -/
import Derived.Test.YtnaahaldkpdjlaaFwOps5
import Derived.Laws.BytesString
set_option linter.unusedSimpArgs false
set_option linter.unusedVariables false
namespace Go.Fw
variable {W0 : Base} {m : CMap} {h : AHeap} {w : World}
def aLenOf : Value → Option Nat
 | .slice _ n _ => some n
 | .string s => some s.size
 | _ => none
theorem aLenOf_rel {n : Nat} {m : CMap} {P : Program} {x x' : Value} {k : Nat} (hx : VR n m x x') (e : aLenOf x = some k) (w : World) : (Builtin.lenOf x').run P w = .ok k w := by
 unfold aLenOf at e
 split at e
 ·injection e with e; subst e; obtain ⟨a', c', rfl, _⟩ := hx.slice_inv; simp [Builtin.lenOf]
 ·injection e with e; subst e; have := hx.string_inv; subst this; simp [Builtin.lenOf]
 ·cases e
def firstN (h : AHeap) (size n : Nat) (x : Value) : Option (List Value) :=
 match x with
 | .slice (some a) len _ => if n ≤ len then readN h a (n * size) else none
 | .string s => some ((s.data.toList.take n).map fun b => .int .u8 b.toNat)
 | _ => none
theorem firstN_rel (R : Rel W0 m h w) {P : Program} {size n : Nat} {x x' : Value} {l : List Value} (hx : VR h.next m x x') (hn : n ≠ 0) (e : firstN h size n x = some l) :
  ∃ l', VRs h.next m l l' ∧ (Builtin.firstCells size n x').run P w = .ok l'.toArray w := by
 unfold firstN at e
 split at e
 ·split at e
  ·rename_i hle
   obtain ⟨a', c', rfl, har⟩ := hx.readable
   obtain ⟨l', h1, h2⟩ := R.loadCells P (har.resolve_right (by omega)) e
   exact ⟨l', h1, by simpa [Builtin.firstCells] using h2⟩
  ·cases e
 ·rename_i s
  injection e with e; subst e
  have := hx.string_inv; subst this
  refine ⟨_, VRs.flat ?_, ?_⟩
  ·rw [List.all_eq_true]; intro v hv; rw [List.mem_map] at hv; obtain ⟨b, _, rfl⟩ := hv; rfl
  ·simp only [Builtin.firstCells, Sem.run_pure]
   congr 1
   apply Array.toList_inj.1
   simp [ByteArray.data_extract, Array.toList_extract, List.extract_eq_take_drop]
 ·cases e
def aCopy (P : Program) (h : AHeap) (t : TypeId) (dst src : Value) : Option (Value × AHeap) :=
 match P.underlying t, dst, aLenOf src with
 | some (.slice e), .slice base dLen _, some sLen =>
  if (P.underlying e).isSome then
   if min sLen dLen = 0 ∧ tsize P e ≠ 0 then some (.int .i64 0, h)
   else
    match base, firstN h (tsize P e) (min sLen dLen) src with
    | some ⟨id, off, none⟩, some l =>
     match h.own id with
     | some (.cells c) => if off + l.length ≤ c.length ∧ l.all (·.oneCell') ∧ min sLen dLen ≠ 0 then some (.int .i64 (min sLen dLen : Nat), h.put id (.cells (putCells c off l))) else none
     | _ => none
    | _, _ => none
  else none
 | _, _, _ => none
theorem aCopy_ok {P : Program} (R : Rel W0 m h w) {t : TypeId} {ats : Array TypeId} (hat : ats[0]? = some t) {ty : TypeId} {d s d' s' v : Value} {h' : AHeap} (hd : VR h.next m d d') (hs : VR h.next m s s') (e : aCopy P h t d s = some (v, h')) :
  OK P W0 m h w (Builtin.copy_ ats ty #[d', s']) v h' := by
 unfold aCopy at e
 split at e
 ·rename_i el base dLen dCap sLen hu hsl
  split at e
  ·rename_i hel
   obtain ⟨dd, hdd⟩ := Option.isSome_iff_exists.1 hel
   have hl := aLenOf_rel (P := P) hs hsl
   split at e
   ·rename_i h0
    obtain ⟨h0, hnz⟩ := h0
    injection e with e; simp only [Prod.mk.injEq] at e; obtain ⟨rfl, rfl⟩ := e
    obtain ⟨a', c', rfl, _⟩ := hd.slice_inv
    have hf : (Builtin.firstCells (tsize P el) 0 s').run P w = .ok #[] w := by
     unfold aLenOf at hsl
     split at hsl
     ·obtain ⟨b', c'', rfl, _⟩ := hs.slice_inv
      cases b' <;> simp [Builtin.firstCells, Go.loadCells, loadCellsFrom]
     ·have := hs.string_inv; subst this
      simp only [Builtin.firstCells, Sem.run_pure]
      congr 1
      apply Array.toList_inj.1; simp
     ·cases hsl
    refine OK.pure R ⟨.int .i64 0, ?_, .flat rfl⟩
    unfold Builtin.copy_
    simp only [hat, List.getElem?_toArray, List.getElem?_cons_zero, List.getElem?_cons_succ, Sem.run_bind, run_underlying hu, Result.andThen_ok, hl, run_sizeOf_of hdd]
    rw [show Nat.min sLen dLen = 0 from h0, hf]
    cases a' <;> simp [storeCells, goInt]
   ·split at e
    ·rename_i id off l hfn
     split at e
     ·rename_i c hown
      split at e
      ·rename_i hc
       obtain ⟨hfit, hone, hn0⟩ := hc
       injection e with e; simp only [Prod.mk.injEq] at e; obtain ⟨rfl, rfl⟩ := e
       obtain ⟨l', hl', hrun⟩ := firstN_rel R (P := P) hs hn0 hfn
       obtain ⟨a', c', rfl, har⟩ := hd.readable
       have har := har.resolve_right (by omega)
       cases har with
       | own hid =>
        obtain ⟨w', hw, R'⟩ := Rel.writeN P l l' 0 R (off := off) hown (by simpa using hfit) hl' (hl'.oneCells hone)
        refine ⟨m, .int .i64 (min sLen dLen : Nat), w', ?_, by simpa using R', .refl _ _, Nat.le_refl _, .flat rfl⟩
        unfold Builtin.copy_
        simp only [hat, List.getElem?_toArray, List.getElem?_cons_zero, List.getElem?_cons_succ, Sem.run_bind, run_underlying hu, Result.andThen_ok, hl, run_sizeOf_of hdd]
        rw [show Nat.min sLen dLen = min sLen dLen from rfl, hrun]
        simp only [Result.andThen_ok, hw, Sem.run_pure, goInt]
      ·cases e
     ·cases e
    ·cases e
  ·cases e
 ·cases e
def aLen (P : Program) (h : AHeap) (t : TypeId) (x : Value) : Option Value :=
 match P.underlying t, x with
 | some .string, .string s => some (.int .i64 s.size)
 | some (.array n _), _ => some (.int .i64 n)
 | some (.slice _), .slice _ n _ => some (.int .i64 n)
 | some (.map _ _), .map none => some (.int .i64 0)
 | some (.map _ _), .map (some r) => match h.own r with | some (.map es) => some (.int .i64 es.length) | _ => none
 | _, _ => none
theorem Rel.getMap (R : Rel W0 m h w) {r : Nat} {es : List (Value × Value)} (ho : h.own r = some (.map es)) {P : Program} :
  ∃ E clock, w.heap[(m r).blk]? = some (.map E clock) ∧ (getObj (m r).blk).run P w = .ok (.map E clock) w ∧ VRs h.next m (es.map (·.1)) (E.toList.map (·.key)) ∧ VRs h.next m (es.map (·.2)) (E.toList.map (·.val)) := by
 obtain ⟨E, clock, h1, h2, h3⟩ := R.own r _ ho
 exact ⟨E, clock, h1, by simp [getObj, Sem.run, h1], h2, h3⟩
theorem aLen_rel (R : Rel W0 m h w) {P : Program} {t : TypeId} {x x' v : Value} {ats : Array TypeId} (hat : ats[0]? = some t) {ty : TypeId} (hx : VR h.next m x x') (e : aLen P h t x = some v) :
  ∃ v', (Builtin.len_ ats ty #[x']).run P w = .ok v' w ∧ VR h.next m v v' := by
 unfold aLen at e
 split at e
 ·rename_i s hu; injection e with e; subst e; have := hx.string_inv; subst this
  exact ⟨_, by simp [Builtin.len_, hat, run_underlying hu, goInt], .flat rfl⟩
 ·rename_i n el hu; injection e with e; subst e
  refine ⟨.int .i64 n, ?_, .flat rfl⟩
  unfold Builtin.len_
  simp only [hat, List.getElem?_toArray, List.getElem?_cons_zero, Sem.run_bind, run_underlying hu, Result.andThen_ok, Sem.run_pure, goInt]
 ·rename_i el a n c hu; injection e with e; subst e; obtain ⟨a', c', rfl, _⟩ := hx.slice_inv
  exact ⟨_, by simp [Builtin.len_, hat, run_underlying hu, goInt], .flat rfl⟩
 ·rename_i hu; injection e with e; subst e
  cases hx with | flat _ => exact ⟨_, by simp [Builtin.len_, hat, run_underlying hu, goInt], .flat rfl⟩
 ·rename_i r hu
  split at e
  ·rename_i es ho
   injection e with e; subst e
   cases hx with
   | flat hf => simp [Fw.flat] at hf
   | map hr =>
    obtain ⟨E, clock, _, h1, h2, _⟩ := R.getMap (P := P) ho
    have hlen : E.size = es.length := by have := h2.1; simpa using this.symm
    exact ⟨.int .i64 es.length, by simp [Builtin.len_, hat, run_underlying hu, h1, goInt, hlen], .flat rfl⟩
  ·cases e
 ·cases e
def aMin : Value → List Value → Option Value
 | x, [] => some x
 | .int k a, .int k' b :: r => if k = k' then aMin (.int k (if b < a then b else a)) r else none
 | _, _ => none
def aMax : Value → List Value → Option Value
 | x, [] => some x
 | .int k a, .int k' b :: r => if k = k' then aMax (.int k (if b > a then b else a)) r else none
 | _, _ => none
theorem aMin_rel {n : Nat} {m : CMap} {P : Program} : ∀ (r r' : List Value) {x x' v : Value}, VR n m x x' → VRs n m r r' → aMin x r = some v → ∀ w, ∃ v', (r'.foldlM Builtin.min2 x').run P w = .ok v' w ∧ VR n m v v'
 | [], r', x, x', v, hx, hr, e, w => by
  have : r' = [] := List.eq_nil_of_length_eq_zero (by rw [← hr.1]; rfl)
  subst this
  simp [aMin] at e; subst e; exact ⟨x', by simp, hx⟩
 | y :: r, [], x, x', v, hx, hr, e, w => by simp [VRs] at hr
 | y :: r, y' :: r', x, x', v, hx, hr, e, w => by
  have hy : VR n m y y' := hr.2 0 y y' rfl rfl
  have hr' : VRs n m r r' := by simpa using hr.drop 1
  cases x <;> cases y <;> simp only [aMin] at e <;> try cases e
  split at e
  ·rename_i k a k' b hk
   subst hk
   have := hx.int_inv; subst this
   have := hy.int_inv; subst this
   obtain ⟨v', h1, h2⟩ := aMin_rel r r' (.flat rfl) hr' e w
   exact ⟨v', by simp only [List.foldlM_cons, Builtin.min2, Sem.run_bind, Sem.run_pure, Result.andThen_ok]; exact h1, h2⟩
  ·cases e
theorem aMax_rel {n : Nat} {m : CMap} {P : Program} : ∀ (r r' : List Value) {x x' v : Value}, VR n m x x' → VRs n m r r' → aMax x r = some v → ∀ w, ∃ v', (r'.foldlM Builtin.max2 x').run P w = .ok v' w ∧ VR n m v v'
 | [], r', x, x', v, hx, hr, e, w => by
  have : r' = [] := List.eq_nil_of_length_eq_zero (by rw [← hr.1]; rfl)
  subst this
  simp [aMax] at e; subst e; exact ⟨x', by simp, hx⟩
 | y :: r, [], x, x', v, hx, hr, e, w => by simp [VRs] at hr
 | y :: r, y' :: r', x, x', v, hx, hr, e, w => by
  have hy : VR n m y y' := hr.2 0 y y' rfl rfl
  have hr' : VRs n m r r' := by simpa using hr.drop 1
  cases x <;> cases y <;> simp only [aMax] at e <;> try cases e
  split at e
  ·rename_i k a k' b hk
   subst hk
   have := hx.int_inv; subst this
   have := hy.int_inv; subst this
   obtain ⟨v', h1, h2⟩ := aMax_rel r r' (.flat rfl) hr' e w
   exact ⟨v', by simp only [List.foldlM_cons, Builtin.max2, Sem.run_bind, Sem.run_pure, Result.andThen_ok]; exact h1, h2⟩
  ·cases e
def allU8 : List Value → Option (List Int)
 | [] => some []
 | .int .u8 n :: r => match allU8 r with | some l => some (n :: l) | none => none
 | _ => none
theorem allU8_spec : ∀ (l : List Value) (a : List Int), allU8 l = some a → l = a.map (Value.int .u8)
 | [], a, h => by simp [allU8] at h; subst h; rfl
 | v :: l, a, h => by
  unfold allU8 at h
  split at h
  ·rename_i e; cases e
  ·rename_i n r e
   injection e with e1 e2; subst e1; subst e2
   split at h
   ·rename_i r hr; injection h with h; subst h; simp [allU8_spec l r hr]
   ·cases h
  ·cases h
def bytesOfInts (ns : List Int) : ByteArray := ⟨(ns.map fun n => UInt8.ofNat n.toNat).toArray⟩
theorem foldl_push : ∀ (ns : List Int) (b : ByteArray), ns.foldl (fun r n => r.push (UInt8.ofNat n.toNat)) b = ⟨b.data ++ (ns.map fun n => UInt8.ofNat n.toNat).toArray⟩
 | [], b => by simp
 | n :: ns, b => by
  rw [List.foldl_cons, foldl_push ns]
  apply ByteArray.ext
  simp [ByteArray.push]
theorem VRs.flat_eq {n : Nat} {m : CMap} : ∀ {l l' : List Value}, VRs n m l l' → (∀ v ∈ l, ∀ v', VR n m v v' → v' = v) → l' = l
 | [], l', h, _ => List.eq_nil_of_length_eq_zero (by rw [← h.1]; rfl)
 | v :: l, [], h, _ => by simp [VRs] at h
 | v :: l, v' :: l', h, hf => by
  rw [hf v (by simp) v' (h.2 0 v v' rfl rfl), VRs.flat_eq (l := l) (l' := l') (by simpa using h.drop 1) (fun u hu => hf u (by simp [hu]))]
def aConvert (P : Program) (h : AHeap) (src dst : TypeId) (x : Value) : Option (Value × AHeap) :=
  match P.underlying src, P.underlying dst, x with
  | some _, some (.int k), .int _ n => some (.int k (awrap k n), h)
  | some _, some .string, .string s => some (.string s, h)
  | some (.slice e), some .string, .slice a len _ =>
    match P.underlying e, a with
    | some (.int .u8), none => some (.string .empty, h)
    | some (.int .u8), some a => match readN h a len with
      | some l => match allU8 l with | some ns => some (.string (bytesOfInts ns), h) | none => none
      | none => none
    | _, _ => none
  | some .string, some (.slice e), .string s =>
    match P.underlying e with
    | some (.int .u8) => if s.size ≤ 1000000 ∧ tsize P e = 1 then some (.slice (some ⟨h.next, 0, none⟩) s.size (UNK + 1), h.alloc (.cells (s.data.toList.map fun b => .int .u8 b.toNat))) else none
    | _ => none
  | some (.slice _), some (.slice e), .slice (some ⟨id, _, none⟩) _ cap =>
    match P.underlying e, h.own id with
    | some (.int .u8), some (.cells _) => if (src == dst) = true ∧ cap < UNK ∧ 0 < cap then some (x, h) else none
    | _, _ => none
  | _, _, _ => none
theorem Rel.freeze (R : Rel W0 m h w) {id : Nat} {c : List Value} (ho : h.own id = some (.cells c)) {C : Array Value} {e : TypeId} {lo hi : Nat} (hb : w.heap[(m id).blk]? = some (.cells C e (lo, hi))) :
  Rel W0 m h (w.freeze ⟨(m id).blk, C.size, none⟩ 1) := by
 have hne : h.own id ≠ none := by rw [ho]; simp
 have h0 : ¬ ((1 : Nat) = 0) := by omega
 have hoth : ∀ b, b ≠ (m id).blk → (w.freeze ⟨(m id).blk, C.size, none⟩ 1).heap[b]? = w.heap[b]? := fun b hbn => by
  simp only [World.freeze, h0, if_false, Array.getElem?_modify]
  rw [if_neg (fun e => hbn e.symm)]
 refine ⟨by simpa [World.freeze] using R.size, fun b hbb => ?_, R.ext, R.lt, R.new, fun i o hi => ?_, R.inj, R.os, R.output, R.tape, R.prot.put (fun _ hi => hi) (fun b _ hb => hoth b (fun e => hb id hne e.symm))⟩
 ·rw [hoth b (by have := R.new id hne; omega)]; exact R.old b hbb
 ·by_cases ei : i = id
  ·subst ei
   rw [ho] at hi; injection hi with hi; subst hi
   obtain ⟨C', e', lo', hi', q1, q2, q3, q4, q5, q6⟩ := R.own i _ ho
   rw [hb] at q1; injection q1 with q1; injection q1 with q11 q12 q13; injection q13 with q13 q14
   subst q11 q12 q13 q14
   have hself : (w.freeze ⟨(m i).blk, C.size, none⟩ 1).heap[(m i).blk]? = some (.cells C e (if lo == hi then (C.size, C.size + 1) else (min lo C.size, max hi (C.size + 1)))) := by
    simp only [World.freeze, h0, if_false, Array.getElem?_modify, if_true, hb, Option.map_some]
   by_cases el : lo = hi
   ·subst el
    rw [if_pos (by simp)] at hself
    exact ⟨C, e, C.size, C.size + 1, hself, q2, q3, q4, q5, fun i hi => ⟨by simp only [Bool.and_eq_false_iff, decide_eq_false_iff_not]; left; omega, by omega⟩⟩
   ·rw [if_neg (by simpa using el)] at hself
    refine ⟨C, e, _, _, hself, q2, q3, q4, q5, fun i hi => ⟨?_, by have := (q6 i hi).2; omega⟩⟩
    have h1 := (q6 i hi).2
    have hlo : C.size ≤ lo := by
     rcases Nat.lt_or_ge lo C.size with hlt | hge
     ·have := (q6 lo hlt).1
      simp at this; omega
     ·exact hge
    simp only [Bool.and_eq_false_iff, decide_eq_false_iff_not]; left; omega
  ·exact Rel.mono_obj (R.own i o hi) (Nat.le_refl _) (Agree.refl _ _) (hoth _ (fun e => ei (R.inj i id (by rw [hi]; simp) hne e)))
theorem run_freeze_end (w : World) (C : Array Value) (e : TypeId) : ((w.alloc (.cells C e)).freeze ⟨w.heap.size, C.size, none⟩ 1) = w.alloc (.cells C e (C.size, C.size + 1)) := by
 have h0 : ¬ ((1 : Nat) = 0) := by omega
 have hheap : ((w.alloc (.cells C e)).freeze ⟨w.heap.size, C.size, none⟩ 1).heap = (w.alloc (.cells C e (C.size, C.size + 1))).heap := by
  simp only [World.freeze, h0, if_false]
  apply Array.ext_getElem?
  intro j
  simp only [Array.getElem?_modify]
  by_cases hj : w.heap.size = j
  ·subst hj
   rw [if_pos rfl, heap_alloc_new, heap_alloc_new]; simp
  ·rw [if_neg hj]
   by_cases hlt : j < w.heap.size
   ·rw [heap_alloc_old _ _ _ hlt, heap_alloc_old _ _ _ hlt]
   ·rw [Array.getElem?_eq_none (by show (w.heap.push _).size ≤ j; simp; omega), Array.getElem?_eq_none (by show (w.heap.push _).size ≤ j; simp; omega)]
 have : ∀ a b : World, a.heap = b.heap → a.tape = b.tape → a.drawn = b.drawn → a.os = b.os → a.output = b.output → a = b := by
  intro a b h1 h2 h3 h4 h5; cases a; cases b; simp_all
 exact this _ _ hheap rfl rfl rfl rfl
theorem aConvert_ok {P : Program} (R : Rel W0 m h w) {src dst : TypeId} {x x' v : Value} {h' : AHeap} (hx : VR h.next m x x') (e : aConvert P h src dst x = some (v, h')) :
    OK P W0 m h w (convert src dst x') v h' := by
  unfold aConvert at e
  split at e
  · rename_i ds k k0 n hs hd
    injection e with e; simp only [Prod.mk.injEq] at e; obtain ⟨rfl, rfl⟩ := e
    have := hx.int_inv; subst this
    refine OK.pure R ⟨.int k (awrap k n), ?_, .flat rfl⟩
    unfold convert
    simp only [Sem.run_bind, run_underlying hs, run_underlying hd, Result.andThen_ok]
    cases ds <;> simp [Conv.intToInt, awrap_eq]
  · rename_i ds s hs hd
    injection e with e; simp only [Prod.mk.injEq] at e; obtain ⟨rfl, rfl⟩ := e
    have := hx.string_inv; subst this
    refine OK.pure R ⟨.string s, ?_, .flat rfl⟩
    unfold convert
    simp only [Sem.run_bind, run_underlying hs, run_underlying hd, Result.andThen_ok]
    cases ds <;> simp
  · rename_i el a len c hs hd
    split at e
    · rename_i hel
      injection e with e; simp only [Prod.mk.injEq] at e; obtain ⟨rfl, rfl⟩ := e
      obtain ⟨rfl, rfl, rfl⟩ := hx.nil_inv
      refine OK.pure R ⟨.string .empty, ?_, .flat rfl⟩
      unfold convert
      simp only [Sem.run_bind, run_underlying hs, run_underlying hd, run_underlying hel, Result.andThen_ok, Conv.bytesToString, Sem.run_pure]
    · rename_i a hel
      split at e
      · rename_i l hl
        split at e
        · rename_i ns hns
          injection e with e; simp only [Prod.mk.injEq] at e; obtain ⟨rfl, rfl⟩ := e
          have hlist := allU8_spec _ _ hns
          obtain ⟨l', h1, h2⟩ := R.firstCells (P := P) (size := 1) hx (l := l) (by simpa [oldCells] using hl)
          obtain ⟨a', c', rfl, har⟩ := hx.readable
          have hl' : l' = l := h1.flat_eq (by
            intro v hv v' hvr
            rw [hlist] at hv
            rw [List.mem_map] at hv
            obtain ⟨k, _, rfl⟩ := hv
            exact hvr.int_inv)
          subst hl'
          have hrun := run_bytesToString (P := P) w a' len c' ns (by rw [← hlist]; simpa [Builtin.firstCells] using h2)
          refine OK.pure R ⟨.string (bytesOfInts ns), ?_, .flat rfl⟩
          unfold convert
          simp only [Sem.run_bind, run_underlying hs, run_underlying hd, run_underlying hel, Result.andThen_ok]
          rw [hrun, foldl_push]
          simp [bytesOfInts]
        · cases e
      · cases e
    · cases e
  · rename_i el s hs hd
    split at e
    · rename_i hel
      split at e
      · rename_i hc
        obtain ⟨hsz, hts⟩ := hc
        injection e with e; simp only [Prod.mk.injEq] at e; obtain ⟨rfl, rfl⟩ := e
        have := hx.string_inv; subst this
        generalize hC : (Question.appendCap s.size 0 el).cut (w.tape w.drawn (.appendCap s.size 0 el)) = cap
        have hcap : s.size ≤ cap := by rw [← hC]; simp [Question.cut]
        have hvr : VRs h.next m (s.data.toList.map fun b => Value.int .u8 b.toNat) ((s.data.map (fun b => Value.int .u8 b.toNat) ++ Array.replicate (cap - s.size) (Value.int .u8 0)).toList.take (s.data.toList.map fun b => Value.int .u8 b.toNat).length) := by
          have : (s.data.map (fun b => Value.int .u8 b.toNat) ++ Array.replicate (cap - s.size) (Value.int .u8 0)).toList.take (s.data.toList.map fun b => Value.int .u8 b.toNat).length = s.data.toList.map fun b => Value.int .u8 b.toNat := by
            simp only [Array.toList_append, Array.toList_map]; exact List.take_left
          rw [this]
          refine VRs.flat ?_
          rw [List.all_eq_true]; intro v hv; rw [List.mem_map] at hv; obtain ⟨b, _, rfl⟩ := hv; rfl
        generalize hD : s.data.map (fun b => Value.int .u8 b.toNat) ++ Array.replicate (cap - s.size) (Value.int .u8 0) = D at hvr
        have hone : ∀ v ∈ D.toList, v.oneCell' = true := by
          intro v hv
          rw [← hD] at hv
          simp only [Array.toList_append, Array.toList_map, List.mem_append, List.mem_map] at hv
          rcases hv with ⟨b, _, rfl⟩ | hv
          · rfl
          · simp at hv; obtain ⟨_, rfl⟩ := hv; rfl
        have hsize : D.size = cap := by
          rw [← hD]
          simp only [Array.size_append, Array.size_map, Array.size_replicate]
          have : s.data.size = s.size := rfl
          omega
        have hlen : (s.data.toList.map fun b => Value.int .u8 b.toNat).length = s.size := by simp
        have R2 : Rel W0 (upd m h.next ⟨w.heap.size, 0, D.size⟩) (h.alloc (.cells (s.data.toList.map fun b => Value.int .u8 b.toNat))) (w.drew.alloc (.cells D el (D.size, D.size + 1))) := by
          refine R.drew.add ⟨w.heap.size, 0, D.size⟩ _ (by show w.heap.size ≤ (w.heap.push _).size; simp) (fun b _ hb => heap_alloc_old w.drew _ b hb) R.size (fun i hi hx => ?_) ?_ rfl rfl ⟨rfl, Nat.le_refl _⟩
          · have := R.blk_lt hi; simp at hx; omega
          · exact ⟨D, el, D.size, D.size + 1, heap_alloc_new w.drew _, rfl, by rw [hlen, hsize]; simpa using hcap, by simpa using hvr, hone, fun i hi => ⟨by simp only [Bool.and_eq_false_iff, decide_eq_false_iff_not]; left; omega, by omega⟩⟩
        refine ⟨_, .slice (some ⟨w.heap.size, 0, none⟩) s.size cap, _, ?_, R2, agree_upd _ _ _, Nat.le_succ _, ?_⟩
        · unfold convert
          simp only [Sem.run_bind, run_underlying hs, run_underlying hd, run_underlying hel, Result.andThen_ok, Conv.stringToBytes, run_choose]
          have hforced : (Question.appendCap s.size 0 el).forced = false := rfl
          simp only [hforced, Bool.false_eq_true, if_false, Result.andThen_ok, hC, hD, newRow, Sem.run_bind, run_newObj, Sem.run_pure, markStringish, run_shape]
          have e2 : ({ heap := w.heap.push (.cells D el), tape := w.tape, drawn := w.drawn + 1, os := w.os, output := w.output } : World) = w.drew.alloc (.cells D el) := rfl
          rw [e2]
          have hsh : (w.drew.alloc (.cells D el)).shape? w.heap.size = some (el, D.size) := by
            have := heap_alloc_new w.drew (.cells D el)
            simp only [World.shape?]; rw [show w.heap.size = w.drew.heap.size from rfl, this]
          simp only [hsh, run_freeze, Result.andThen_ok]
          have := run_freeze_end w.drew D el
          rw [show w.heap.size = w.drew.heap.size from rfl, this]
        · have := VR.buf (n := h.next + 1) (m := upd m h.next ⟨w.heap.size, 0, D.size⟩) (id := h.next) (off := 0) (len := s.size) (k := 1) (cap' := cap) (a' := ⟨w.heap.size, 0, none⟩) (Nat.lt_succ_self _) hcap
            (.inl ⟨by rw [upd_eq], by rw [upd_eq]; simp [hsize]⟩)
          exact this
      · cases e
    · cases e
  · rename_i es el id off len cap hs hd
    split at e
    · rename_i c hel ho
      split at e
      · rename_i hc
        obtain ⟨hsd, hcu, hc0⟩ := hc
        injection e with e; simp only [Prod.mk.injEq] at e; obtain ⟨rfl, rfl⟩ := e
        obtain ⟨C, e', lo, hi, q1, _⟩ := R.own id _ ho
        have hinv : VR h.next m (.slice (some ⟨id, off, none⟩) len cap) (.slice (some ⟨(m id).blk, (m id).base + off, none⟩) len cap) ∧ x' = .slice (some ⟨(m id).blk, (m id).base + off, none⟩) len cap := by
          cases hx with
          | flat h => simp [Fw.flat] at h
          | slice h hc => exact ⟨.slice h hc, rfl⟩
          | buf h hl ha => omega
          | empty => omega
        obtain ⟨hv, rfl⟩ := hinv
        refine ⟨m, .slice (some ⟨(m id).blk, (m id).base + off, none⟩) len cap, w.freeze ⟨(m id).blk, C.size, none⟩ 1, ?_, R.freeze ho q1, Agree.refl _ _, Nat.le_refl _, hv⟩
        have hsh : w.shape? (m id).blk = some (e', C.size) := by simp only [World.shape?, q1]
        unfold convert
        simp only [Sem.run_bind, run_underlying hs, run_underlying hd, run_underlying hel, Result.andThen_ok, hsd, markStringish, run_shape, hsh, run_freeze, Sem.run_pure]
      · cases e
    · cases e
  · cases e
end Go.Fw
