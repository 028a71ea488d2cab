/- A text of the proof. -/
import Derived.Test.YtnaahaldkpdjlaaFwOps3
set_option linter.unusedSimpArgs false
set_option linter.unusedVariables false
namespace Go.Fw
variable {W0 : Base} {m : CMap} {h : AHeap} {w : World}
def notIntD : TypeDesc → Bool
 | .int _ => false
 | _ => true
theorem run_append_room' {P : Program} {t xt e : TypeId} {dx d : TypeDesc} (ty : TypeId) (hu : P.underlying t = some (.slice e)) (hx : P.underlying xt = some dx) (hni : notIntD dx = true) (hd : P.underlying e = some d)
  {base : Option Addr} {sLen sCap n : Nat} {x' : Value} {new : Array Value} {w w' : World} (hn : (Builtin.lenOf x').run P w = .ok n w) (hnew : (Builtin.firstCells (tsize P e) n x').run P w = .ok new w)
  (hroom : sLen + n ≤ sCap) (hst : (match base with | some a => (storeCells (a.add (sLen * tsize P e)) new.toList) | none => pure ()).run P w = .ok () w') :
  (Builtin.append_ #[t, xt] ty #[.slice base sLen sCap, x']).run P w = .ok (.slice base (sLen + n) sCap) w' := by
 unfold Builtin.append_
 simp only [List.getElem?_toArray, List.getElem?_cons_zero, List.getElem?_cons_succ, Sem.run_bind, run_underlying hu, Result.andThen_ok, run_sizeOf_of hd, Sem.run_pure, run_underlying hx]
 cases dx
 case int k => simp [notIntD] at hni
 all_goals
  simp only [Bool.false_eq_true, if_false, hn, Result.andThen_ok, hroom, if_true, Sem.run_bind, Bool.not_false, hnew]
  cases base with
  | none => simp only [Sem.run_pure, Result.ok.injEq, true_and] at hst; subst hst; rfl
  | some a => simp only [] at hst; simp only [Sem.run_bind, hst, Result.andThen_ok, Sem.run_pure]
theorem run_append_grow' {P : Program} {t xt e : TypeId} {dx d : TypeDesc} (ty : TypeId) {z : Value} (hu : P.underlying t = some (.slice e)) (hx : P.underlying xt = some dx) (hni : notIntD dx = true) (hd : P.underlying e = some d)
  (hz : azero P e = some z) {base : Option Addr} {sLen sCap n : Nat} {x' : Value} {old new : Array Value} {w : World} (hn : (Builtin.lenOf x').run P w = .ok n w)
  (hnew : (Builtin.firstCells (tsize P e) n x').run P w.drew = .ok new w.drew) (hold : (Builtin.firstCells (tsize P e) sLen (.slice base sLen sCap)).run P w.drew = .ok old w.drew)
  (hgrow : sCap < sLen + n) (hb : (sLen + n) * P.bytesOf e ≤ 140737488355328) (hl : sLen + n ≤ 140737488355328) :
  (Builtin.append_ #[t, xt] ty #[.slice base sLen sCap, x']).run P w = .ok (.slice (some ⟨w.heap.size, 0, none⟩) (sLen + n) (grownCap w (sLen + n) sCap e))
   (w.drew.alloc (.cells (old ++ new ++ Builtin.zeroCells z.cells (grownCap w (sLen + n) sCap e - (sLen + n))) e)) := by
 obtain ⟨i, hi, hby, hsi⟩ := info_of_underlying hd
 rw [hby] at hb
 have hfit := growslice_fits hgrow hb
 have hno : ¬ (sLen + n ≤ sCap) := by omega
 have h63 : ¬ (((sLen + n : Nat) : Int) > IntKind.i64.max) := by simp [IntKind.max, IntKind.signed, IntKind.bits]; omega
 have h48 : ¬ (Builtin.nextslicecap (sLen + n) sCap * i.bytes > 2 ^ 48) := by omega
 have hforced : (Question.appendCap (sLen + n) sCap e).forced = false := rfl
 have hti : ∀ w, (typeInfo e).run P w = .ok i w := fun w => by simp [typeInfo, hi]
 unfold Builtin.append_
 simp only [List.getElem?_toArray, List.getElem?_cons_zero, List.getElem?_cons_succ, Sem.run_bind, run_underlying hu, Result.andThen_ok, run_sizeOf_of hd, Sem.run_pure, run_underlying hx]
 cases dx
 case int k => simp [notIntD] at hni
 all_goals
  simp only [Bool.false_eq_true, if_false, hn, Result.andThen_ok, hno, Sem.run_bind, Sem.run_pure, Bool.not_false, if_true, hti, h63, false_and, h48, run_choose, hforced, run_askRoom]
  have e1 : ({ w with drawn := w.drawn + 1 } : World) = w.drew := rfl
  rw [e1, hold]
  simp only [Result.andThen_ok, hnew, run_zero_of hz, newRow, Sem.run_bind, run_newObj, Sem.run_pure]
  rfl
def srcCells (P : Program) (h : AHeap) (e : TypeId) (x : Value) : Option (Nat × List Value) :=
 match x with
 | .slice none n _ => if n = 0 then some (0, []) else none
 | .slice (some a) n _ => match readN h a (n * tsize P e) with | some l => some (n, l) | none => none
 | .string s => some (s.size, s.data.toList.map fun b => .int .u8 b.toNat)
 | _ => none
theorem VR.readable {n : Nat} {m : CMap} {a : Addr} {len cap : Nat} {v' : Value} (h : VR n m (.slice (some a) len cap) v') :
  ∃ a' cap', v' = .slice (some a') len cap' ∧ (AR n m a a' ∨ len = 0) := by
 cases h with
 | flat h => simp [Fw.flat] at h
 | slice hid hc => exact ⟨_, _, rfl, .inl (.own hid)⟩
 | buf hid hl ha => exact ⟨_, _, rfl, by rcases ha with ⟨rfl, _⟩ | h0; exact .inl (.own hid); exact .inr (by omega)⟩
 | esl hc => exact ⟨_, _, rfl, .inl .ext⟩
 | empty => exact ⟨_, _, rfl, .inr rfl⟩
theorem VR.nil_inv {n : Nat} {m : CMap} {len cap : Nat} {v' : Value} (h : VR n m (.slice none len cap) v') : v' = .slice none 0 0 ∧ len = 0 ∧ cap = 0 := by
 cases h with
 | flat h => simp [Fw.flat] at h; obtain ⟨rfl, rfl⟩ := h; exact ⟨rfl, rfl, rfl⟩
def oldCells (h : AHeap) (size : Nat) (base : Option Addr) (len : Nat) : Option (List Value) :=
 match base with
 | some a => readN h a (len * size)
 | none => some []
theorem Rel.firstCells (R : Rel W0 m h w) {P : Program} {a : Option Addr} {len cap size : Nat} {l : List Value} {x' : Value} (hx : VR h.next m (.slice a len cap) x')
  (hl : oldCells h size a len = some l) : ∃ l', VRs h.next m l l' ∧ (Builtin.firstCells size len x').run P w = .ok l'.toArray w := by
 cases a with
 | none =>
  obtain ⟨rfl, rfl, rfl⟩ := hx.nil_inv
  simp [oldCells] at hl; subst hl
  exact ⟨[], .nil _ _, by simp [Builtin.firstCells]⟩
 | some a =>
  obtain ⟨a', cap', rfl, har⟩ := hx.readable
  simp only [oldCells] at hl
  rcases har with har | h0
  ·obtain ⟨l', h1, h2⟩ := R.loadCells P har hl
   exact ⟨l', h1, by simpa [Builtin.firstCells] using h2⟩
  ·subst h0
   simp [Fw.readN] at hl; subst hl
   exact ⟨[], .nil _ _, by simp [Builtin.firstCells, Go.loadCells, loadCellsFrom]⟩
theorem srcCells_rel (R : Rel W0 m h w) {P : Program} {e : TypeId} {x x' : Value} {n : Nat} {l : List Value} (hx : VR h.next m x x') (hs : srcCells P h e x = some (n, l)) :
  (∀ w, (Builtin.lenOf x').run P w = .ok n w) ∧ ∃ l', VRs h.next m l l' ∧ (Builtin.firstCells (tsize P e) n x').run P w = .ok l'.toArray w ∧ (x' ≠ .string ByteArray.empty → True) := by
 unfold srcCells at hs
 split at hs
 ·split at hs
  ·rename_i h0; subst h0
   simp at hs; obtain ⟨rfl, rfl⟩ := hs
   obtain ⟨l', h1, h2⟩ := R.firstCells (P := P) (size := tsize P e) hx (l := []) rfl
   obtain ⟨rfl, _, _⟩ := hx.nil_inv
   exact ⟨fun w => by simp [Builtin.lenOf], l', h1, h2, fun _ => trivial⟩
  ·cases hs
 ·rename_i a k c
  split at hs
  ·rename_i l0 hl
   simp at hs; obtain ⟨rfl, rfl⟩ := hs
   obtain ⟨l', h1, h2⟩ := R.firstCells (P := P) (size := tsize P e) hx (l := l0) hl
   obtain ⟨a', cap', rfl, har⟩ := hx.readable
   exact ⟨fun w => by simp [Builtin.lenOf], l', h1, h2, fun _ => trivial⟩
  ·cases hs
 ·rename_i s
  simp at hs; obtain ⟨rfl, rfl⟩ := hs
  have := hx.string_inv; subst this
  refine ⟨fun w => by simp [Builtin.lenOf], s.data.toList.map (fun b => .int .u8 b.toNat), VRs.flat ?_, ?_, fun _ => trivial⟩
  ·rw [List.all_eq_true]; intro v hv; simp at hv; obtain ⟨b, _, rfl⟩ := hv; rfl
  ·have : s.extract 0 s.size = s := by
    apply ByteArray.ext; simp
   simp only [Builtin.firstCells, Sem.run_pure, this]
   congr 1
   apply Array.toList_inj.1; simp
 ·cases hs
def aAppend (P : Program) (h : AHeap) (t xt : TypeId) (s x : Value) : Option (Value × AHeap) :=
 match P.underlying t, P.underlying xt, s with
 | some (.slice e), some dx, .slice base len cap =>
  match azero P e, srcCells P h e x with
  | some z, some (n, news) =>
   if z.cells.size = tsize P e ∧ z.cells.toList.all (·.oneCell') ∧ (P.underlying e).isSome ∧ notIntD dx ∧ news.all (·.oneCell') ∧ (len + n) * P.bytesOf e ≤ 140737488355328 ∧ len + n ≤ 140737488355328 ∧ news.length = n * tsize P e then
    if n = 0 then (if len ≤ cap then some (s, h) else none)
    else if UNK ≤ cap then
     match base with
     | some ⟨id, off, none⟩ =>
      if cap = UNK + tsize P e then
       match readN h ⟨id, off, none⟩ (len * tsize P e), h.own id with
       | some olds, some (.cells _) => if olds.all (·.oneCell') then some (.slice (some ⟨h.next, 0, none⟩) (len + n) cap, (h.kill id).alloc (.cells (olds ++ news))) else none
       | _, _ => none
      else none
     | _ => none
    else if len + n ≤ cap then
     match base with
     | some ⟨id, off, none⟩ =>
      match h.own id with
      | some (.cells c) => if off + len * tsize P e + news.length ≤ c.length then some (.slice base (len + n) cap, h.put id (.cells (putCells c (off + len * tsize P e) news))) else none
      | _ => none
     | _ => none
    else
     match oldCells h (tsize P e) base len with
     | some olds => if olds.all (·.oneCell') then some (.slice (some ⟨h.next, 0, none⟩) (len + n) (UNK + tsize P e), h.alloc (.cells (olds ++ news))) else none
     | none => none
   else none
  | _, _ => none
 | _, _, _ => none
theorem append_grows {P : Program} (R : Rel W0 m h w) {t xt e ty : TypeId} {dx d : TypeDesc} {z : Value} (hu : P.underlying t = some (.slice e)) (hxt : P.underlying xt = some dx) (hni : notIntD dx = true) (hd : P.underlying e = some d)
  (hz : azero P e = some z) (hzs : z.cells.size = tsize P e) (hz1 : z.cells.toList.all (·.oneCell') = true) {base : Option Addr} {len cap n : Nat} {x x' s' : Value} {news olds : List Value} {h1 : AHeap}
  (hs : VR h.next m (.slice base len cap) s') (hx : VR h.next m x x') (hsrc : srcCells P h e x = some (n, news)) (hold : oldCells h (tsize P e) base len = some olds)
  (hone : news.all (·.oneCell') = true) (hone' : olds.all (·.oneCell') = true) (hb : (len + n) * P.bytesOf e ≤ 140737488355328) (hl : len + n ≤ 140737488355328) (hnl : news.length = n * tsize P e) (hol : olds.length = len * tsize P e)
  (hgrow : ∀ b c, s' = .slice b len c → c < len + n) (h1e : h1 = h ∨ ∃ id, h1 = h.kill id) :
  OK P W0 m h w (Builtin.append_ #[t, xt] ty #[s', x']) (.slice (some ⟨h.next, 0, none⟩) (len + n) (UNK + tsize P e)) (h1.alloc (.cells (olds ++ news))) := by
 obtain ⟨hn, l', hl', hrun, _⟩ := srcCells_rel R.drew hx hsrc
 obtain ⟨o', ho', hrun'⟩ := R.drew.firstCells (P := P) hs hold
 obtain ⟨b', c', rfl, hsome⟩ := hs.slice_inv
 have hg := hgrow b' c' rfl
 have hrunA := run_append_grow' (P := P) ty hu hxt hni hd hz (hn w) hrun hrun' hg hb hl
 generalize hcap : grownCap w (len + n) c' e = C at hrunA
 have hC : len + n ≤ C := by rw [← hcap]; exact grownCap_ge _ _ _ _
 have R1 : Rel W0 m h1 w.drew := by
  rcases h1e with e1 | ⟨id, e1⟩
  ·rw [e1]; exact R.drew
  ·rw [e1]; exact R.drew.kill id
 have hnext : h1.next = h.next := by rcases h1e with e1 | ⟨id, e1⟩ <;> rw [e1] <;> rfl
 have hzc : (Builtin.zeroCells z.cells (C - (len + n))).toList = zrow z.cells.toList (C - (len + n)) := zrow_range _ _ _ rfl
 have hsz : (Builtin.zeroCells z.cells (C - (len + n))).size = (C - (len + n)) * tsize P e := by
  have := zrow_length z.cells.toList (C - (len + n)); rw [← hzc] at this; simpa [hzs] using this
 have R2 := R1.alloc (c := olds ++ news) (C := o'.toArray ++ l'.toArray ++ Builtin.zeroCells z.cells (C - (len + n))) e
  (by
   rw [hnext]
   have : (o'.toArray ++ l'.toArray ++ Builtin.zeroCells z.cells (C - (len + n))).toList.take (olds ++ news).length = o' ++ l' := by
    have hlen : (olds ++ news).length = (o' ++ l').length := by simp [ho'.1, hl'.1]
    rw [hlen]
    simp only [Array.toList_append]
    exact List.take_left
   rw [this]; exact ho'.append hl')
  (by simp [ho'.1, hl'.1])
  (by
   intro v hv
   simp only [Array.toList_append, List.mem_append] at hv
   rcases hv with (hv | hv) | hv
   ·exact ho'.oneCells hone' v hv
   ·exact hl'.oneCells hone v hv
   ·rw [hzc] at hv; exact List.all_eq_true.1 (zrow_all _ _ hz1 _) v hv)
 refine ⟨_, _, _, hrunA, R2, by rw [← hnext]; exact agree_upd _ _ _, by show h.next ≤ h1.next + 1; omega, ?_⟩
 show VR (h1.next + 1) _ _ _
 have := VR.buf (n := h1.next + 1) (m := upd m h1.next ⟨w.drew.heap.size, 0, (o'.toArray ++ l'.toArray ++ Builtin.zeroCells z.cells (C - (len + n))).size⟩) (id := h1.next) (off := 0) (len := len + n) (k := tsize P e) (cap' := C) (a' := ⟨w.heap.size, 0, none⟩) (Nat.lt_succ_self _) hC
  (.inl ⟨by rw [upd_eq]; rfl, by
   rw [upd_eq]
   simp only [Array.size_append, List.size_toArray, hsz]
   have e1 : o'.length = len * tsize P e := by rw [← ho'.1, hol]
   have e2 : l'.length = n * tsize P e := by rw [← hl'.1, hnl]
   rw [e1, e2, ← Nat.add_mul, ← Nat.add_mul, show len + n + (C - (len + n)) = C from by omega]; omega⟩)
 rw [hnext] at this ⊢
 exact this
theorem aAppend_ok {P : Program} (R : Rel W0 m h w) {t xt ty : TypeId} {s x s' x' v : Value} {h' : AHeap} (hs : VR h.next m s s') (hx : VR h.next m x x') (e : aAppend P h t xt s x = some (v, h')) :
  OK P W0 m h w (Builtin.append_ #[t, xt] ty #[s', x']) v h' := by
 unfold aAppend at e
 split at e
 ·rename_i el dx base len cap hu hxt
  split at e
  ·rename_i z n news hz hsrc
   split at e
   ·rename_i hc
    obtain ⟨hzs, hz1, hel, hni, hone, hb, hl, hnl⟩ := hc
    obtain ⟨d, hd⟩ := Option.isSome_iff_exists.1 hel
    obtain ⟨hn, l', hl', hrun, _⟩ := srcCells_rel R hx hsrc
    split at e
    ·rename_i hn0
     subst hn0
     split at e
     ·rename_i hlc
      injection e with e; simp only [Prod.mk.injEq] at e; obtain ⟨rfl, rfl⟩ := e
      obtain ⟨b', c', rfl, hsome⟩ := hs.slice_inv
      have hlc' : len ≤ c' := by
       cases hs with
       | flat hf => simpa using hlc
       | slice _ _ => exact hlc
       | buf _ hl' _ => exact hl'
       | esl _ => exact hlc
       | empty => exact hlc
      have hl0 : l' = [] := List.eq_nil_of_length_eq_zero (by rw [← hl'.1, hnl]; simp)
      subst hl0
      have := run_append_room' (P := P) ty hu hxt hni hd (base := b') (sLen := len) (sCap := c') (w' := w) (hn w) hrun hlc' (by cases b' <;> simp [storeCells])
      exact ⟨m, _, w, this, R, .refl _ _, Nat.le_refl _, hs⟩
     ·cases e
    ·rename_i hn0
     split at e
     ·rename_i hunk
      split at e
      ·rename_i id off
       split at e
       ·rename_i hcap
        split at e
        ·rename_i olds c hold hown
         split at e
         ·rename_i hone'
          injection e with e; simp only [Prod.mk.injEq] at e; obtain ⟨rfl, rfl⟩ := e
          have hol := readN_length _ _ _ _ hold
          have hs0 := hs
          cases hs with
          | flat hf => simp [Fw.flat] at hf
          | slice _ _ => omega
          | empty => simp [UNK] at hunk
          | @buf _ _ _ k cap' a' hid hlc ha =>
           have hk : k = tsize P el := by omega
           subst hk
           by_cases hroom : len + n ≤ cap'
           ·obtain ⟨rfl, hlim⟩ := ha.resolve_right (by omega)
            obtain ⟨C, ce, lo, hi, hb1, hb2, hb3, hb4, hb5, hb6⟩ := R.own id _ hown
            have hsp : l'.length = n * tsize P el := by rw [← hl'.1, hnl]
            have hmul : len * tsize P el + n * tsize P el ≤ cap' * tsize P el := by rw [← Nat.add_mul]; exact Nat.mul_le_mul_right _ hroom
            obtain ⟨w', hw1, hw2, hw3, hw4, hw5⟩ := run_store_block P (m id).blk ce lo hi l' 0 ((m id).base + off + len * tsize P el) C w hb1 (by rw [hsp, hb2]; omega) (hl'.oneCells hone) hb6
            have hrunA := run_append_room' (P := P) ty hu hxt hni hd (base := some ⟨(m id).blk, (m id).base + off, none⟩) (sLen := len) (sCap := cap') (w' := w') (hn w) hrun hroom (by simpa [addr_add] using hw1)
            have hCs : (m id).base + off + len * tsize P el + l'.length ≤ C.toList.length := by simp only [Array.length_toList]; rw [hsp, hb2]; omega
            have hput : (blockPut C ((m id).base + off + len * tsize P el + 0) l').toList = C.toList.take ((m id).base + off + len * tsize P el) ++ l' ++ C.toList.drop ((m id).base + off + len * tsize P el + l'.length) := by
             rw [blockPut_toList, Nat.add_zero, putCells_eq _ _ _ hCs]
            obtain ⟨o', ho', hro⟩ := R.readN _ (AR.own hid) hold
            have holdC : (C.toList.drop ((m id).base + off)).take (len * tsize P el) = o' := by
             apply List.ext_getElem?
             intro j
             by_cases hj : j < len * tsize P el
             ·have hj' : j < o'.length := by rw [← ho'.1, hol]; exact hj
              have := hro j o'[j] (List.getElem?_eq_getElem hj')
              rw [addr_add] at this
              simp only [World.cell?, hb1] at this
              rw [List.getElem?_take, if_pos hj, List.getElem?_drop, List.getElem?_eq_getElem hj']
              simpa using this
             ·rw [List.getElem?_eq_none (by simp; omega), List.getElem?_eq_none (by rw [← ho'.1, hol]; omega)]
            have hmove := R.allocMove (w' := w') (id := id) hown (C' := blockPut C ((m id).base + off + len * tsize P el + 0) l') (e := ce) (lo := lo) (hi := hi) (base := (m id).base + off) (c2 := olds ++ news)
             hw2 (by rw [blockPut_size]; exact hb2)
             (by
              intro v hv; rw [hput] at hv
              simp only [List.mem_append] at hv
              rcases hv with (hv | hv) | hv
              ·exact hb5 v (List.mem_of_mem_take hv)
              ·exact hl'.oneCells hone v hv
              ·exact hb5 v (List.mem_of_mem_drop hv))
             (by intro i hi'; rw [blockPut_size] at hi'; exact hb6 i hi')
             (by rw [blockPut_size, List.length_append, hol, hnl, hb2]; omega)
             (by
              have : ((blockPut C ((m id).base + off + len * tsize P el + 0) l').toList.drop ((m id).base + off)).take (olds ++ news).length = o' ++ l' := by
               rw [hput, List.append_assoc, List.drop_append_of_le_length (by simp at hCs ⊢; omega)]
               have e1 : (C.toList.take ((m id).base + off + len * tsize P el)).drop ((m id).base + off) = o' := by
                rw [← holdC, List.drop_take]; congr 1; omega
               rw [e1, List.length_append, hol, hnl, ← List.append_assoc]
               have e2 : len * tsize P el + n * tsize P el = (o' ++ l').length := by rw [List.length_append, ← ho'.1, hol, hsp]
               rw [e2]; exact List.take_left
              rw [this]; exact ho'.append hl')
             hw3 hw4 hw5
            refine ⟨_, _, w', hrunA, hmove, agree_upd _ _ _, Nat.le_succ _, ?_⟩
            have hv := VR.buf (n := h.next + 1) (m := upd m h.next ⟨(m id).blk, (m id).base + off, (m id).lim⟩) (id := h.next) (off := 0) (len := len + n) (k := tsize P el) (cap' := cap') (a' := ⟨(m id).blk, (m id).base + off, none⟩) (Nat.lt_succ_self _) hroom
             (.inl ⟨by rw [upd_eq]; rfl, by rw [upd_eq]; simpa using hlim⟩)
            exact hv
           ·exact append_grows R hu hxt hni hd hz hzs hz1 hs0 hx hsrc hold hone hone' hb hl hnl hol (by intro b c hbc; injection hbc with _ _ hbc; omega) (.inr ⟨id, rfl⟩)
         ·cases e
        ·cases e
       ·cases e
      ·cases e
     ·rename_i hunk
      split at e
      ·rename_i hroom
       split at e
       ·rename_i id off
        split at e
        ·rename_i c hown
         split at e
         ·rename_i hfit
          injection e with e; simp only [Prod.mk.injEq] at e; obtain ⟨rfl, rfl⟩ := e
          cases hs with
          | flat hf => simp [Fw.flat] at hf
          | buf _ _ _ => omega
          | empty => omega
          | slice hid hc =>
           obtain ⟨w', hw, R'⟩ := Rel.writeN P news l' 0 R (off := off + len * tsize P el) hown (by simpa using hfit) hl' (hl'.oneCells hone)
           have hrunA := run_append_room' (P := P) ty hu hxt hni hd (base := some ⟨(m id).blk, (m id).base + off, none⟩) (sLen := len) (sCap := cap) (w' := w') (hn w) hrun hroom (by simpa [addr_add, Nat.add_assoc] using hw)
           exact ⟨m, _, w', hrunA, by simpa using R', .refl _ _, Nat.le_refl _, .slice hid hc⟩
         ·cases e
        ·cases e
       ·cases e
      ·rename_i hroom
       split at e
       ·rename_i olds hold
        split at e
        ·rename_i hone'
         injection e with e; simp only [Prod.mk.injEq] at e; obtain ⟨rfl, rfl⟩ := e
         have hol : olds.length = len * tsize P el := by
          cases base with
          | none => obtain ⟨_, rfl, rfl⟩ := hs.nil_inv; simp [oldCells] at hold; subst hold; simp
          | some a => exact readN_length _ _ _ _ hold
         refine append_grows R hu hxt hni hd hz hzs hz1 hs hx hsrc hold hone hone' hb hl hnl hol ?_ (.inl rfl)
         intro b c hbc
         subst hbc
         cases hs with
         | flat hf => omega
         | slice _ _ => omega
         | buf _ _ _ => omega
         | esl _ => omega
         | empty => omega
        ·cases e
       ·cases e
   ·cases e
  ·cases e
 ·cases e
end Go.Fw
