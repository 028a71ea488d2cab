/- A text of the proof. -/
import Derived.Test.YtnaahaldkpdjlaaFwRep3
import Derived.Shelf.Sort.Plain
import Derived.Shelf.Slices.In.SortNone
import Derived.Shelf.Slices.CompactI
import Derived.Test.YtnaahaldkpdjlaaFwVC
import Derived.Test.YtnaahaldkpdjlaaFwRep
import Derived.Scope
set_option linter.unusedSimpArgs false
set_option linter.unusedVariables false
namespace Go.Fw
open Go.Proofs
variable {P : Program} {W0 : Base} {m : CMap} {h : AHeap} {w : World}
def i64s (l : List Int) : List Value := l.map (Value.int .i64)
theorem i64s_length (l : List Int) : (i64s l).length = l.length := by simp [i64s]
theorem vr_int {n : Nat} {m : CMap} {k : IntKind} {x : Int} {v : Value} (h : VR n m (.int k x) v) : v = .int k x := by cases h; rfl
theorem Rel.row (R : Rel W0 m h w) {id : Nat} {c : List Value} {ys : List Int} (ho : h.own id = some (.cells c)) (hl : ys.length ≤ c.length) (q : Nat) (os : Array Obj) :
  Rel W0 m (h.put id (.cells (i64s ys ++ c.drop ys.length))) (Sort.grow (Sort.putRow (Value.int .i64) (Sort.ahead w q) (m id).blk (m id).base ys.toArray) os) := by
 have hne : h.own id ≠ none := by rw [ho]; simp
 obtain ⟨C, e, lo, hi, hb, hs, hlc, hr, hone, hf⟩ := R.own id _ ho
 have hbl : (m id).blk < w.heap.size := (Array.getElem?_eq_some_iff.1 hb).1
 generalize hcc : i64s ys ++ c.drop ys.length = cc
 have hccl : cc.length = c.length := by rw [← hcc]; simp [i64s_length]; omega
 have hsome : ∀ i, (h.put id (.cells cc)).own i ≠ none → h.own i ≠ none := by
  intro i hi'
  by_cases hii : i = id
  ·subst hii; exact hne
  ·rwa [AHeap.own_put_ne _ _ _ _ hii] at hi'
 have hother : ∀ i, h.own i ≠ none → i ≠ id → (m i).blk ≠ (m id).blk := fun i hi' hii hbe => hii (R.inj i id hi' hne hbe)
 have heq : ∀ b, b < w.heap.size → b ≠ (m id).blk → (Sort.grow (Sort.putRow (Value.int .i64) (Sort.ahead w q) (m id).blk (m id).base ys.toArray) os).heap[b]? = w.heap[b]? := fun b hbs hbn => by
  simp only [Sort.grow, Sort.putRow, Sort.mapBlock, Sort.ahead]
  rw [Array.getElem?_append_left (by simpa using hbs), Array.getElem?_modify, if_neg (Ne.symm hbn)]
 have heq2 : (Sort.grow (Sort.putRow (Value.int .i64) (Sort.ahead w q) (m id).blk (m id).base ys.toArray) os).heap[(m id).blk]? = some (.cells (Sort.putCells (Value.int .i64) (m id).base ys.toArray C) e (lo, hi)) := by
  simp only [Sort.grow, Sort.putRow, Sort.mapBlock, Sort.ahead]
  rw [Array.getElem?_append_left (by simpa using hbl), Array.getElem?_modify, if_pos rfl, hb]
  rfl
 have hsz : (Sort.grow (Sort.putRow (Value.int .i64) (Sort.ahead w q) (m id).blk (m id).base ys.toArray) os).heap.size = w.heap.size + os.size := by
  simp [Sort.grow, Sort.putRow, Sort.mapBlock, Sort.ahead]
 refine ⟨by rw [hsz]; have := R.size; omega, fun b hb' => ?_, R.ext, fun i hi' => R.lt i (hsome i hi'), fun i hi' => R.new i (hsome i hi'), fun i o hio => ?_, fun i j hi' hj' => R.inj i j (hsome i hi') (hsome j hj'), R.os, R.output, ⟨R.tape.1, Nat.le_trans R.tape.2 (Nat.le_add_right _ _)⟩, R.prot.put hsome (fun b hb hn => heq b hb (fun e => hn id hne e.symm))⟩
 ·rw [heq b (by have := R.size; omega) (by have := R.new id hne; omega)]
  exact R.old b hb'
 ·by_cases hii : i = id
  ·subst hii
   rw [AHeap.own_put_eq] at hio
   injection hio with hio
   subst hio
   have hcs : (Sort.putCells (Value.int .i64) (m i).base ys.toArray C).size = C.size := by simp [Sort.putCells]
   have hget : ∀ k, (Sort.putCells (Value.int .i64) (m i).base ys.toArray C)[k]? = (C[k]?).map fun x => if (m i).base ≤ k ∧ k < (m i).base + ys.length then Value.int .i64 ys.toArray[k - (m i).base]! else x := fun k => by
    simp [Sort.putCells]
   refine ⟨_, e, lo, hi, heq2, by rw [hcs]; exact hs, by rw [hccl, hcs]; exact hlc, ⟨by simp [hccl, hcs]; omega, fun k v v' hk hk' => ?_⟩, fun u hu => ?_, fun j hj => hf j (by rw [hcs] at hj; exact hj)⟩
   ·rw [List.getElem?_take] at hk'
    split at hk'
    ·rename_i hkc
     rw [List.getElem?_drop, Array.getElem?_toList, hget] at hk'
     by_cases hky : k < ys.length
     ·have hkk : (m i).base + k < C.size := by omega
      rw [Array.getElem?_eq_getElem hkk, Option.map_some, if_pos ⟨by omega, by omega⟩] at hk'
      rw [← hcc, List.getElem?_append_left (by rw [i64s_length]; exact hky)] at hk
      simp only [i64s, List.getElem?_map, List.getElem?_eq_getElem hky, Option.map_some, Option.some.injEq] at hk hk'
      subst hk hk'
      have : (m i).base + k - (m i).base = k := by omega
      rw [this, getElem!_pos _ k (by simpa using hky)]
      exact .flat rfl
     ·rw [← hcc, List.getElem?_append_right (by rw [i64s_length]; omega), i64s_length, List.getElem?_drop] at hk
      have e1 : ys.length + (k - ys.length) = k := by omega
      rw [e1] at hk
      refine hr.2 k v v' hk ?_
      rw [List.getElem?_take, if_pos (by omega), List.getElem?_drop, Array.getElem?_toList, ← hk']
      cases hC : C[(m i).base + k]? with
      | none => rfl
      | some x => rw [Option.map_some, if_neg (by omega)]
    ·cases hk'
   ·obtain ⟨k, hk⟩ := List.mem_iff_getElem?.1 hu
    rw [Array.getElem?_toList, hget] at hk
    cases hC : C[k]? with
    | none => rw [hC] at hk; cases hk
    | some x =>
     rw [hC, Option.map_some] at hk
     injection hk with hk
     split at hk
     ·subst hk; rfl
     ·subst hk; exact hone _ (List.mem_of_getElem? (by rw [Array.getElem?_toList]; exact hC))
  ·rw [AHeap.own_put_ne _ _ _ _ hii] at hio
   have hin : h.own i ≠ none := by rw [hio]; simp
   exact Rel.mono_obj (R.own i o hio) (Nat.le_refl _) (Agree.refl _ _) (heq _ (R.blk_lt hin) (hother i hin hii))
theorem Rel.holds (R : Rel W0 m h w) {id : Nat} {c : List Value} {xs : List Int} (ho : h.own id = some (.cells c)) (hx : c.take xs.length = i64s xs) : Sort.Holds (Value.int .i64) w (m id).blk (m id).base xs.toArray := by
 intro j hj
 have hj' : j < xs.length := by simpa using hj
 have hg : c[j]? = some (.int .i64 xs[j]) := by
  have := congrArg (·[j]?) hx
  simp only [List.getElem?_take, if_pos hj', i64s, List.getElem?_map, List.getElem?_eq_getElem hj', Option.map_some] at this
  exact this
 obtain ⟨v', h1, h2⟩ := R.cell_own ho hg
 rw [vr_int h2] at h1
 refine ⟨?_, R.frozen ho (List.getElem?_eq_some_iff.1 hg).1⟩
 rw [h1, getElem!_pos _ j hj]; rfl
theorem vr_slice {n : Nat} {m : CMap} {id len cap : Nat} {v' : Value} (hl : len ≤ cap) (h0 : 0 < len) (h : VR n m (.slice (some ⟨id, 0, none⟩) len cap) v') :
  ∃ cap', v' = .slice (some ⟨(m id).blk, (m id).base, none⟩) len cap' ∧ len ≤ cap' ∧ ∀ k, k ≤ len → VR n m (.slice (some ⟨id, 0, none⟩) k cap) (.slice (some ⟨(m id).blk, (m id).base, none⟩) k cap') := by
 cases h with
 | flat h => simp [Fw.flat] at h
 | slice h hc => exact ⟨cap, by simp, hl, fun k _ => by simpa using VR.slice (m := m) (off := 0) (len := k) h hc⟩
 | @buf _ _ _ k cap' a' h hl' ha =>
  rcases ha with ⟨rfl, ha⟩ | ha
  ·exact ⟨cap', by simp, hl', fun j hj => by simpa using VR.buf (m := m) (off := 0) (len := j) (k := k) (cap' := cap') h (by omega) (.inl ⟨rfl, by simpa using ha⟩)⟩
  ·omega
 | empty => omega
theorem vr_zero {n : Nat} {m : CMap} {a : Option Addr} {cap : Nat} {v' : Value} (h : VR n m (.slice a 0 cap) v') : ∃ a' cap', v' = .slice a' 0 cap' := by
 cases h with
 | flat h => exact ⟨_, _, rfl⟩
 | slice => exact ⟨_, _, rfl⟩
 | buf => exact ⟨_, _, rfl⟩
 | esl => exact ⟨_, _, rfl⟩
 | empty => exact ⟨_, _, rfl⟩
theorem AC.ofRow {f : FuncId} {id len cap k : Nat} {c : List Value} {xs ys : List Int} {out : Value} (ho : h.own id = some (.cells c)) (hx : c.take len = i64s xs) (hxl : xs.length = len) (hyl : ys.length = len) (hcl : len ≤ c.length) (hl : len ≤ cap) (h0 : 0 < len) (hk : k ≤ len)
  (hout : out = .tuple #[] ∨ out = .slice (some ⟨id, 0, none⟩) k cap)
  (hC : ∀ (blk off cap' : Nat) (w : World), Sort.Holds (Value.int .i64) w blk off xs.toArray → blk < w.heap.size → len ≤ cap' →
   Calls P f #[.slice (some ⟨blk, off, none⟩) len cap'] w fun e w' => (∃ v, e = .returned v ∧ (out = .tuple #[] ∧ v = .tuple #[] ∨ out ≠ .tuple #[] ∧ v = .slice (some ⟨blk, off, none⟩) k cap')) ∧ ∃ q os, w' = Sort.grow (Sort.putRow (Value.int .i64) (Sort.ahead w q) blk off ys.toArray) os) :
  AC P W0 f [.slice (some ⟨id, 0, none⟩) len cap] h fun x h' => x = out ∧ h' = h.put id (.cells (i64s ys ++ c.drop len)) := by
 intro ex m w args' R va
 obtain ⟨v0, hv0, hvr⟩ := va.get (i := 0) rfl
 have hargs : args' = [v0] := by
  have hl1 := va.1
  match args', hl1 with
  | [x], _ => simp at hv0; rw [hv0]
 obtain ⟨cap', rfl, hc', hsh⟩ := vr_slice hl h0 hvr
 rw [hargs]
 have hne : h.own id ≠ none := by rw [ho]; simp
 refine (hC (m id).blk (m id).base cap' w (R.holds ho (by rw [hxl]; exact hx)) (R.blk_lt hne) hc').mono ?_
 rintro e w' ⟨⟨v, rfl, hv⟩, q, os, rfl⟩
 have R' := R.row (ys := ys) ho (by omega) q os
 rw [hyl] at R'
 refine ⟨out, v, m, _, rfl, R', Agree.refl _ _, Nat.le_refl _, ?_, rfl, rfl⟩
 rcases hv with ⟨h1, rfl⟩ | ⟨h1, rfl⟩
 ·rw [h1]; exact .tuple rfl (fun i v v' e => by simp at e)
 ·rcases hout with h2 | h2
  ·exact absurd h2 h1
  ·rw [h2]; exact hsh k hk
end Go.Fw
namespace Go.Fw
variable {P : Program} {W0 : Base} {h : AHeap}
theorem Le.to_kill {f : AHeap} {R : Nat} (l : Le f h) (hn : f.own R = Option.none) : Le f (h.kill R) :=
 ⟨l.ext, fun i o hi => by
  by_cases e : i = R
  ·subst e; rw [hn] at hi; cases hi
  ·rw [AHeap.own_kill_ne _ _ _ e]; exact l.own i o hi⟩
end Go.Fw
set_option linter.defProp false
namespace Go.Fw
def kA := @cond_true
def kB := @cond_false
def kC := @Trie.get_set
def kD := @List.getElem?_toArray
def kE := @List.append_eq
def kF := @List.cons_append
def kG := @List.nil_append
def kH := @List.getElem?_cons_zero
def kI := @List.getElem?_cons_succ
def kJ := @Option.bind_some
def kK := @beq_self_eq_true
def kL := @List.filter_nil
def kM := @List.filter_cons
def kN := @List.contains_cons
def kO := @List.contains_nil
def kS1 := And.intro @beq_dec (And.intro @fst_mk (And.intro @snd_mk (And.intro @VK_skip (And.intro @VK_ret (And.intro @VK_exit (And.intro @VK_seq (And.intro @VK_block (And.intro @VK_region (And.intro @VK_draw (And.intro @VK_cond (And.intro @KCond_true (And.intro @KCond_false (And.intro @VK_loop (And.intro @KN_nil (And.intro @KN_seq (And.intro @KN_blk (And.intro @KX_ret_nil (And.intro @KX_ret_seq (And.intro @KX_ret_blk (And.intro @KX_exit_nil (And.intro @KX_exit_seq (And.intro @KX_exit_blk (And.intro @KE_normal (And.intro @KE_ret (And.intro @KE_exit (And.intro @KO_nil (And.intro @KO_cons (And.intro @KO_app_cons (And.intro @KO_app_nil (And.intro @KO1_true (And.intro @KO1_false (And.intro @KO2_true (And.intro @KO2_false (And.intro @KO3_some (And.intro @KO4_some (And.intro @loopQ_ret (And.intro @loopQ_exit (And.intro @Nat.one_ne_zero (And.intro @Nat.zero_ne_one (And.intro @Bool.not_true (And.intro @Bool.not_false (And.intro @awrap_u8 (And.intro @Bool.true_beq (And.intro @Bool.false_beq (And.intro @beq_true (And.intro @beq_false (And.intro @decide_true (And.intro @decide_false (And.intro @Bool.not_not (And.intro @Bool.and_true (And.intro @Bool.true_and (And.intro @Bool.and_false (@Bool.false_and)))))))))))))))))))))))))))))))))))))))))))))))))))))
def kJ1 := And.intro @beq_dec (And.intro @fst_mk (And.intro @snd_mk (And.intro @VK_skip (And.intro @VK_ret (And.intro @VK_exit (And.intro @VK_seq (And.intro @VK_block (And.intro @VK_region (And.intro @VK_draw (And.intro @VK_cond (And.intro @KCond_true (And.intro @KCond_false (And.intro @VK_loop (And.intro @KN_nil (And.intro @KN_blk (And.intro @KX_ret_nil (And.intro @KX_ret_seq (And.intro @KX_ret_blk (And.intro @KX_exit_nil (And.intro @KX_exit_seq (And.intro @KX_exit_blk (And.intro @KE_normal (And.intro @KE_ret (And.intro @KE_exit (And.intro @KO_nil (And.intro @KO_cons (And.intro @KO_app_cons (And.intro @KO_app_nil (And.intro @KO1_true (And.intro @KO1_false (And.intro @KO2_true (And.intro @KO2_false (And.intro @KO3_some (And.intro @KO4_some (And.intro @loopQ_ret (And.intro @loopQ_exit (And.intro @Nat.one_ne_zero (And.intro @Nat.zero_ne_one (And.intro @Bool.not_true (And.intro @Bool.not_false (And.intro @awrap_u8 (And.intro @Bool.true_beq (And.intro @Bool.false_beq (And.intro @beq_true (And.intro @beq_false (And.intro @decide_true (And.intro @decide_false (And.intro @Bool.not_not (And.intro @Bool.and_true (And.intro @Bool.true_and (And.intro @Bool.and_false (@Bool.false_and))))))))))))))))))))))))))))))))))))))))))))))))))))
def kD1 := And.intro @Bool.or_self (And.intro @Bool.false_eq_true (And.intro @KD_done (And.intro @KD_no (And.intro @KD_fl (And.intro @KF1_some (And.intro @KF2_true (And.intro @KF2_false (And.intro @KF3_some (And.intro @KF4_some (And.intro @KD_ch (And.intro @KG1_some (And.intro @KG2_true (And.intro @KG2_false (And.intro @KG3_true (And.intro @KG3_false (And.intro @KG4_some (And.intro @KG5_some (And.intro @Holds_eq (And.intro @H1_some (And.intro @H2_true (And.intro @H2_false (And.intro @H3_some (And.intro @HD_some (And.intro @HD_none (And.intro @Bool.or_false (And.intro @Bool.false_or (And.intro @Bool.true_or (And.intro @Bool.or_true (And.intro @true_and (@and_true))))))))))))))))))))))))))))))
end Go.Fw
namespace Go.Fw
variable {P : Program} {W0 : Base} {N : Nat} {fr : AFrame} {h : AHeap}
theorem stepR_scope {b : Frame} {a : Act} {k : List Item} {cs : List Frame} {w : World} {c : Code} : step P (lone (b.atR a (.code (.scope c) :: k)) cs w) = .next (lone (b.atR a (.code c :: .inScope c :: k)) cs w) :=
 step_lone_go (by simp [stepG, stepG.exec, Frame.atR])
theorem stepR_inScope {b : Frame} {a : Act} {k : List Item} {cs : List Frame} {w : World} {c : Code} : step P (lone (b.atR a (.inScope c :: k)) cs w) = .next (lone (b.atR a k) cs w) :=
 step_lone_go (by simp [stepG, stepG.exec, Frame.atR])
theorem wpIn_scope_straight {F : Fence} {n : Nat} {Q : Exit → Act → World → Prop} {a : Act} {w : World} {c : Code} (h : c.wpIn F n P (Exit.noGoto Q) a w) : (Code.scope c).wpIn F n P Q a w := by
 intro b k cs hro hb hr
 have h0 : (lone (b.atR a (.code (.scope c) :: k)) cs w).fenced P F := fenced_calm hb hr rfl
 obtain ⟨e, a₁, w₁, hq, harr⟩ := h b (.inScope c :: k) cs hro hb hr
 cases e with
 | normal => exact ⟨.normal, a₁, w₁, hq, .of_steps (.head h0 stepR_scope harr) (.one (fenced_calm (fr := b.atR a₁ (.inScope c :: k)) hb hr rfl) stepR_inScope)⟩
 | exit id => exact ⟨.exit id, a₁, w₁, hq, .of_steps (.one h0 stepR_scope) ⟨fun k' hk => harr.1 k' (by simp [exitTo, hk]), fun hn hk => harr.2 hn (by simp [exitTo, hk])⟩⟩
 | goto l => exact hq.elim
 | ret => exact ⟨_, a₁, w₁, hq, .of_steps (.one h0 stepR_scope) harr⟩
 | panic ch => exact ⟨_, a₁, w₁, hq, .of_steps (.one h0 stepR_scope) harr⟩
 | outgrown => exact ⟨_, a₁, w₁, hq, .of_steps (.one h0 stepR_scope) harr⟩
def noJump (Q : Exit → AFrame → AHeap → Prop) : Exit → AFrame → AHeap → Prop
 | .goto _, _, _ => False
 | e, fr, h => Q e fr h
theorem AWP.scope {c : Code} {Q : Exit → AFrame → AHeap → Prop} (q : AWP P W0 N c fr h (noJump Q)) : AWP P W0 N (.scope c) fr h Q := by
 intro cx nn m a w s K hK
 refine wpIn_scope_straight (q cx nn m a w s _ fun new e m' fr' h' a' w' h1 h2 h3 h4 => ?_)
 cases e with
 | goto l => exact h4.elim
 | _ => exact hK _ _ m' fr' h' a' w' h1 h2 h3 h4
def scopeQ (P : Program) (W0 : Base) (N : Nat) (ks : List Kt) (R : Exit → AFrame → AHeap → Prop) : Exit → AFrame → AHeap → Prop := noJump (KE P W0 N R ks)
section
variable {ks : List Kt} {R : Exit → AFrame → AHeap → Prop} {i : Nat}
theorem scopeQ_normal : scopeQ P W0 N ks R .normal fr h = KN P W0 N ks R fr h := id rfl
theorem scopeQ_ret : scopeQ P W0 N ks R .ret fr h = KX P W0 N .ret ks R fr h := id rfl
theorem scopeQ_exit : scopeQ P W0 N ks R (.exit i) fr h = KX P W0 N (.exit i) ks R fr h := id rfl
theorem VK.scope {c : Code} (q : VK P W0 N c [] (scopeQ P W0 N ks R) fr h) : VK P W0 N (.scope c) ks R fr h := AWP.scope (VK.sound q)
theorem VK.label {l : Nat} (q : KN P W0 N ks R fr h) : VK P W0 N (.label l) ks R fr h := AWP.label q
end
end Go.Fw
