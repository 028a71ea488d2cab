/- A text of the proof. -/
import Derived.Test.YtnaahaldkpdjlaaFwRep2
import Derived.Test.YtnaahaldkpdjlaaFwRow
import Derived.Test.YtnaahaldkpdjlaaFwVC
import Derived.Test.YtnaahaldkpdjlaaFwRep
import Derived.Scope
set_option linter.unusedSimpArgs false
set_option linter.unusedVariables false
namespace Go.Fw
variable {P : Program} {W0 : Base} {h : AHeap}
theorem AC.frame {f : FuncId} {args : List Value} {R : Nat} {o : AObj} {Q : Value → AHeap → Prop} (ho : h.own R = some o) (hq : AC P W0 f args (h.kill R) Q) :
  AC P W0 f args h fun x h' => ∃ g, Q x g ∧ g.own R = none ∧ h' = g.put R o := by
 intro ex m w args' r va
 have hne : h.own R ≠ none := by rw [ho]; simp
 have hlt : R < h.next := r.lt R hne
 have hO := r.own R o ho
 obtain ⟨O, hb⟩ : ∃ O, w.heap[(m R).blk]? = some O := by
  cases o with
  | cells c => obtain ⟨C, e, lo, hi, h1, _⟩ := hO; exact ⟨_, h1⟩
  | map es => obtain ⟨E, clock, h1, _⟩ := hO; exact ⟨_, h1⟩
 have hap : ∀ b o', (b, o') ∈ (W0.add ex).rw → (m R).blk ≠ b := fun b o' hb' => r.prot.apart b o' R hb' hne
 have hk : ∀ i, (h.kill R).own i ≠ none → h.own i ≠ none ∧ i ≠ R := fun i hi => by
  by_cases e : i = R
  ·subst e; exact absurd (AHeap.own_kill_eq _ _) hi
  ·rw [AHeap.own_kill_ne _ _ _ e] at hi; exact ⟨hi, e⟩
 have r' : Rel (W0.add (((m R).blk, O) :: ex)) m (h.kill R) w := {
  size := r.size
  old := r.old
  ext := r.ext
  lt := fun i hi => r.lt i (hk i hi).1
  new := fun i hi => r.new i (hk i hi).1
  own := fun i o' hi => by
   have := hk i (by rw [hi]; simp)
   rw [AHeap.own_kill_ne _ _ _ this.2] at hi
   exact r.own i o' hi
  inj := fun i j hi hj e => r.inj i j (hk i hi).1 (hk j hj).1 e
  os := r.os
  output := r.output
  tape := r.tape
  prot := {
   agree := r.prot.agree
   next := r.prot.next
   dist := by
    show (((m R).blk, O) :: (W0.add ex).rw |>.map (·.1)).Nodup
    rw [List.map_cons, List.nodup_cons]
    refine ⟨fun hm => ?_, r.prot.dist⟩
    obtain ⟨⟨b, o'⟩, hb', e⟩ := List.mem_map.1 hm
    exact hap b o' hb' e.symm
   hi := fun b o' hm => by
    rcases List.mem_cons.1 hm with e | hm
    ·injection e with e1 e2; subst e1; exact r.new R hne
    ·exact r.prot.hi b o' hm
   held := fun b o' hm => by
    rcases List.mem_cons.1 hm with e | hm
    ·injection e with e1 e2; subst e1; subst e2; exact hb
    ·exact r.prot.held b o' hm
   apart := fun b o' i hm hi => by
    rcases List.mem_cons.1 hm with e | hm
    ·injection e with e1 e2; subst e1
     exact fun e => (hk i hi).2 (r.inj i R (hk i hi).1 hne e)
    ·exact r.prot.apart b o' i hm (hk i hi).1 } }
 refine (hq (((m R).blk, O) :: ex) m w args' r' va).mono ?_
 rintro e w' ⟨v, v', m', g, he, rg, hag, hnx, hv, hQ⟩
 have hag : Agree h.next m m' := hag
 have hnx : h.next ≤ g.next := hnx
 have hmR : m' R = m R := hag R hlt
 have hmem : ((m R).blk, O) ∈ (W0.add (((m R).blk, O) :: ex)).rw := List.mem_cons_self ..
 have hw' := rg.prot.held _ _ hmem
 have gnone : g.own R = none := by
  cases hg : g.own R with
  | none => rfl
  | some o' => exact absurd (by rw [hmR]) (rg.prot.apart _ _ R hmem (by rw [hg]; simp))
 have hs : ∀ i, (g.put R o).own i ≠ none → i = R ∨ (i ≠ R ∧ g.own i ≠ none) := fun i hi => by
  by_cases e : i = R
  ·exact .inl e
  ·rw [AHeap.own_put_ne _ _ _ _ e] at hi; exact .inr ⟨e, hi⟩
 have hap' : ∀ i, g.own i ≠ none → (m' i).blk ≠ (m R).blk := fun i hi => rg.prot.apart _ _ i hmem hi
 refine ⟨v, v', m', g.put R o, he, ?_, hag, hnx, hv, g, hQ, gnone, rfl⟩
 exact {
  size := rg.size
  old := rg.old
  ext := rg.ext
  lt := fun i hi => by
   rcases hs i hi with rfl | ⟨_, hi⟩
   ·exact Nat.lt_of_lt_of_le hlt hnx
   ·exact rg.lt i hi
  new := fun i hi => by
   rcases hs i hi with rfl | ⟨_, hi⟩
   ·rw [hmR]; exact r.new i hne
   ·exact rg.new i hi
  own := fun i o' hi => by
   by_cases e : i = R
   ·subst e
    rw [AHeap.own_put_eq] at hi
    injection hi with hi; subst hi
    rw [hmR]
    exact Rel.mono_obj hO hnx hag (by rw [hw', hb])
   ·rw [AHeap.own_put_ne _ _ _ _ e] at hi; exact rg.own i o' hi
  inj := fun i j hi hj e => by
   rcases hs i hi with e1 | ⟨_, hi'⟩ <;> rcases hs j hj with e2 | ⟨_, hj'⟩
   ·rw [e1, e2]
   ·rw [e1, hmR] at e; exact absurd e.symm (hap' j hj')
   ·rw [e2, hmR] at e; exact absurd e (hap' i hi')
   ·exact rg.inj i j hi' hj' e
  os := rg.os
  output := rg.output
  tape := rg.tape
  prot := {
   agree := rg.prot.agree
   next := rg.prot.next
   dist := r.prot.dist
   hi := r.prot.hi
   held := fun b o' hm => rg.prot.held b o' (List.mem_cons_of_mem _ hm)
   apart := fun b o' i hm hi => by
    rcases hs i hi with rfl | ⟨_, hi⟩
    ·rw [hmR]; exact r.prot.apart b o' i hm hne
    ·exact rg.prot.apart b o' i (List.mem_cons_of_mem _ hm) hi } }
theorem Le.to_kill {f : AHeap} {R : Nat} (l : Le f h) (hn : f.own R = Option.none) : Le f (h.kill R) :=
 ⟨l.ext, fun i o hi => by
  by_cases e : i = R
  ·subst e; rw [hn] at hi; cases hi
  ·rw [AHeap.own_kill_ne _ _ _ e]; exact l.own i o hi⟩
end Go.Fw
set_option linter.defProp false
namespace Go.Fw
def kA := @cond_true
def kB := @cond_false
def kC := @Trie.get_set
def kD := @List.getElem?_toArray
def kE := @List.append_eq
def kF := @List.cons_append
def kG := @List.nil_append
def kH := @List.getElem?_cons_zero
def kI := @List.getElem?_cons_succ
def kJ := @Option.bind_some
def kK := @beq_self_eq_true
def kL := @List.filter_nil
def kM := @List.filter_cons
def kN := @List.contains_cons
def kO := @List.contains_nil
def kS1 := And.intro @beq_dec (And.intro @fst_mk (And.intro @snd_mk (And.intro @VK_skip (And.intro @VK_ret (And.intro @VK_exit (And.intro @VK_seq (And.intro @VK_block (And.intro @VK_region (And.intro @VK_draw (And.intro @VK_cond (And.intro @KCond_true (And.intro @KCond_false (And.intro @VK_loop (And.intro @KN_nil (And.intro @KN_seq (And.intro @KN_blk (And.intro @KX_ret_nil (And.intro @KX_ret_seq (And.intro @KX_ret_blk (And.intro @KX_exit_nil (And.intro @KX_exit_seq (And.intro @KX_exit_blk (And.intro @KE_normal (And.intro @KE_ret (And.intro @KE_exit (And.intro @KO_nil (And.intro @KO_cons (And.intro @KO_app_cons (And.intro @KO_app_nil (And.intro @KO1_true (And.intro @KO1_false (And.intro @KO2_true (And.intro @KO2_false (And.intro @KO3_some (And.intro @KO4_some (And.intro @loopQ_ret (And.intro @loopQ_exit (And.intro @Nat.one_ne_zero (And.intro @Nat.zero_ne_one (And.intro @Bool.not_true (And.intro @Bool.not_false (And.intro @awrap_u8 (And.intro @Bool.true_beq (And.intro @Bool.false_beq (And.intro @beq_true (And.intro @beq_false (And.intro @decide_true (And.intro @decide_false (And.intro @Bool.not_not (And.intro @Bool.and_true (And.intro @Bool.true_and (And.intro @Bool.and_false (@Bool.false_and)))))))))))))))))))))))))))))))))))))))))))))))))))))
def kJ1 := And.intro @beq_dec (And.intro @fst_mk (And.intro @snd_mk (And.intro @VK_skip (And.intro @VK_ret (And.intro @VK_exit (And.intro @VK_seq (And.intro @VK_block (And.intro @VK_region (And.intro @VK_draw (And.intro @VK_cond (And.intro @KCond_true (And.intro @KCond_false (And.intro @VK_loop (And.intro @KN_nil (And.intro @KN_blk (And.intro @KX_ret_nil (And.intro @KX_ret_seq (And.intro @KX_ret_blk (And.intro @KX_exit_nil (And.intro @KX_exit_seq (And.intro @KX_exit_blk (And.intro @KE_normal (And.intro @KE_ret (And.intro @KE_exit (And.intro @KO_nil (And.intro @KO_cons (And.intro @KO_app_cons (And.intro @KO_app_nil (And.intro @KO1_true (And.intro @KO1_false (And.intro @KO2_true (And.intro @KO2_false (And.intro @KO3_some (And.intro @KO4_some (And.intro @loopQ_ret (And.intro @loopQ_exit (And.intro @Nat.one_ne_zero (And.intro @Nat.zero_ne_one (And.intro @Bool.not_true (And.intro @Bool.not_false (And.intro @awrap_u8 (And.intro @Bool.true_beq (And.intro @Bool.false_beq (And.intro @beq_true (And.intro @beq_false (And.intro @decide_true (And.intro @decide_false (And.intro @Bool.not_not (And.intro @Bool.and_true (And.intro @Bool.true_and (And.intro @Bool.and_false (@Bool.false_and))))))))))))))))))))))))))))))))))))))))))))))))))))
def kD1 := And.intro @Bool.or_self (And.intro @Bool.false_eq_true (And.intro @KD_done (And.intro @KD_no (And.intro @KD_fl (And.intro @KF1_some (And.intro @KF2_true (And.intro @KF2_false (And.intro @KF3_some (And.intro @KF4_some (And.intro @KD_ch (And.intro @KG1_some (And.intro @KG2_true (And.intro @KG2_false (And.intro @KG3_true (And.intro @KG3_false (And.intro @KG4_some (And.intro @KG5_some (And.intro @Holds_eq (And.intro @H1_some (And.intro @H2_true (And.intro @H2_false (And.intro @H3_some (And.intro @HD_some (And.intro @HD_none (And.intro @Bool.or_false (And.intro @Bool.false_or (And.intro @Bool.true_or (And.intro @Bool.or_true (And.intro @true_and (@and_true))))))))))))))))))))))))))))))
end Go.Fw
namespace Go.Fw
variable {P : Program} {W0 : Base} {N : Nat} {fr : AFrame} {h : AHeap}
theorem stepR_scope {b : Frame} {a : Act} {k : List Item} {cs : List Frame} {w : World} {c : Code} : step P (lone (b.atR a (.code (.scope c) :: k)) cs w) = .next (lone (b.atR a (.code c :: .inScope c :: k)) cs w) :=
 step_lone_go (by simp [stepG, stepG.exec, Frame.atR])
theorem stepR_inScope {b : Frame} {a : Act} {k : List Item} {cs : List Frame} {w : World} {c : Code} : step P (lone (b.atR a (.inScope c :: k)) cs w) = .next (lone (b.atR a k) cs w) :=
 step_lone_go (by simp [stepG, stepG.exec, Frame.atR])
theorem wpIn_scope_straight {F : Fence} {n : Nat} {Q : Exit → Act → World → Prop} {a : Act} {w : World} {c : Code} (h : c.wpIn F n P (Exit.noGoto Q) a w) : (Code.scope c).wpIn F n P Q a w := by
 intro b k cs hro hb hr
 have h0 : (lone (b.atR a (.code (.scope c) :: k)) cs w).fenced P F := fenced_calm hb hr rfl
 obtain ⟨e, a₁, w₁, hq, harr⟩ := h b (.inScope c :: k) cs hro hb hr
 cases e with
 | normal => exact ⟨.normal, a₁, w₁, hq, .of_steps (.head h0 stepR_scope harr) (.one (fenced_calm (fr := b.atR a₁ (.inScope c :: k)) hb hr rfl) stepR_inScope)⟩
 | exit id => exact ⟨.exit id, a₁, w₁, hq, .of_steps (.one h0 stepR_scope) ⟨fun k' hk => harr.1 k' (by simp [exitTo, hk]), fun hn hk => harr.2 hn (by simp [exitTo, hk])⟩⟩
 | goto l => exact hq.elim
 | ret => exact ⟨_, a₁, w₁, hq, .of_steps (.one h0 stepR_scope) harr⟩
 | panic ch => exact ⟨_, a₁, w₁, hq, .of_steps (.one h0 stepR_scope) harr⟩
 | outgrown => exact ⟨_, a₁, w₁, hq, .of_steps (.one h0 stepR_scope) harr⟩
def noJump (Q : Exit → AFrame → AHeap → Prop) : Exit → AFrame → AHeap → Prop
 | .goto _, _, _ => False
 | e, fr, h => Q e fr h
theorem AWP.scope {c : Code} {Q : Exit → AFrame → AHeap → Prop} (q : AWP P W0 N c fr h (noJump Q)) : AWP P W0 N (.scope c) fr h Q := by
 intro cx nn m a w s K hK
 refine wpIn_scope_straight (q cx nn m a w s _ fun new e m' fr' h' a' w' h1 h2 h3 h4 => ?_)
 cases e with
 | goto l => exact h4.elim
 | _ => exact hK _ _ m' fr' h' a' w' h1 h2 h3 h4
def scopeQ (P : Program) (W0 : Base) (N : Nat) (ks : List Kt) (R : Exit → AFrame → AHeap → Prop) : Exit → AFrame → AHeap → Prop := noJump (KE P W0 N R ks)
section
variable {ks : List Kt} {R : Exit → AFrame → AHeap → Prop} {i : Nat}
theorem scopeQ_normal : scopeQ P W0 N ks R .normal fr h = KN P W0 N ks R fr h := id rfl
theorem scopeQ_ret : scopeQ P W0 N ks R .ret fr h = KX P W0 N .ret ks R fr h := id rfl
theorem scopeQ_exit : scopeQ P W0 N ks R (.exit i) fr h = KX P W0 N (.exit i) ks R fr h := id rfl
theorem VK.scope {c : Code} (q : VK P W0 N c [] (scopeQ P W0 N ks R) fr h) : VK P W0 N (.scope c) ks R fr h := AWP.scope (VK.sound q)
theorem VK.label {l : Nat} (q : KN P W0 N ks R fr h) : VK P W0 N (.label l) ks R fr h := AWP.label q
end
end Go.Fw
namespace Go.Fw
variable {P : Program} {h h' : AHeap}
def GT (k : Nat) (h : AHeap) (v : Value) (n : Nat) (cs : List Value) : Prop :=
 cs.length = n * k ∧ ((v = .slice none 0 0 ∧ n = 0) ∨
  ∃ id c cap, v = .slice (some ⟨id, 0, none⟩) n cap ∧ h.own id = some (.cells c) ∧ c.take (n * k) = cs ∧ (cap = UNK + k ∨ (n ≤ cap ∧ cap < 1000000000000 ∧ cap * k ≤ c.length)))
theorem GS.gt {k n : Nat} {v : Value} {cs : List Value} (g : GS k h v n cs) : GT k h v n cs := by
 obtain ⟨hl, g | ⟨id, c, cap, rfl, ho, ht, r⟩⟩ := g
 ·exact ⟨hl, .inl g⟩
 ·refine ⟨hl, .inr ⟨id, c, cap, rfl, ho, ht, ?_⟩⟩
  rcases r with r | ⟨rfl, r⟩
  ·exact .inl r
  ·refine .inr ⟨Nat.le_refl _, r, ?_⟩
   rw [← hl, ← ht, List.length_take]; omega
theorem GT.le {k n : Nat} {v : Value} {cs : List Value} (g : GT k h v n cs) (e : Le h h') : GT k h' v n cs := by
 obtain ⟨hl, g | ⟨id, c, cap, rfl, ho, r⟩⟩ := g
 ·exact ⟨hl, .inl g⟩
 ·exact ⟨hl, .inr ⟨id, c, cap, rfl, e.own _ _ ho, r⟩⟩
theorem GT.kept {k n : Nat} {v : Value} {cs : List Value} (g : GT k h v n cs) (hk : ∀ b o, blk v = some b → h.own b = some o → h'.own b = some o) : GT k h' v n cs := by
 obtain ⟨hl, q | ⟨i, c, cap, rfl, ho, rr⟩⟩ := g
 ·exact ⟨hl, .inl q⟩
 ·exact ⟨hl, .inr ⟨i, c, cap, rfl, hk i _ rfl ho, rr⟩⟩
theorem GT.put {k n : Nat} {v : Value} {cs : List Value} (g : GT k h v n cs) {id : Nat} (o : AObj) (hb : blk v ≠ some id) : GT k (h.put id o) v n cs :=
 g.kept fun b o' hv ho => by rw [AHeap.own_put_ne _ _ _ _ (fun e => hb (by rw [← e]; exact hv))]; exact ho
theorem GT.cs {k n : Nat} {v : Value} {cs : List Value} (g : GT k h v n cs) : CS k h v n cs := by
 obtain ⟨hl, ⟨rfl, rfl⟩ | ⟨id, c, cap, rfl, ho, rfl, hc⟩⟩ := g
 ·have : cs = [] := by simpa using hl
  subst this; exact .nil k h
 ·refine ⟨⟨_, cap, rfl, by simp⟩, hl, fun i x hx => ?_⟩
  rw [elemAddr_mk, aadd, read_own ho, Nat.zero_add]
  rw [List.getElem?_take] at hx
  split at hx
  ·exact hx
  ·cases hx
theorem GT.blk_own {k n : Nat} {v : Value} {cs : List Value} (g : GT k h v n cs) {b : Nat} (hb : blk v = some b) : ∃ c, h.own b = some (.cells c) := by
 obtain ⟨hl, ⟨rfl, rfl⟩ | ⟨i, c, cap, rfl, ho, rr⟩⟩ := g
 ·cases hb
 ·injection hb with hb; subst hb; exact ⟨c, ho⟩
theorem GT.append {t xt : TypeId} {k n n' : Nat} {v x : Value} {cs news : List Value} (ht : apT P t xt k = true) (g : GT k h v n cs) (hs : ∀ e, tsize P e = k → srcCells P h e x = some (n', news))
  (hc1 : cs.all (·.oneCell') = true) (h1 : news.all (·.oneCell') = true) (hnl : news.length = n' * k) (hb : n + n' ≤ 1000000000) :
  ∃ v' h', aAppend P h t xt v x = some (v', h') ∧ GT k h' v' (n + n') (cs ++ news) ∧ (∀ f, WF h → Le f h → Apart f v → Le f h' ∧ Apart f v') := by
 obtain ⟨hl, ⟨rfl, rfl⟩ | ⟨id, c, cap, rfl, ho, htk, hc⟩⟩ := g
 ·have hcs : cs = [] := by simpa using hl
  subst hcs
  obtain ⟨v', h', e1, e2, e3⟩ := GS.append ht (GS.nil k h) hs hc1 h1 hnl hb
  exact ⟨v', h', e1, e2.gt, e3⟩
 ·rcases hc with rfl | ⟨hc0, hc2, hc3⟩
  ·obtain ⟨v', h', e1, e2, e3⟩ := GS.append ht ⟨hl, .inr ⟨id, c, _, rfl, ho, htk, .inl rfl⟩⟩ hs hc1 h1 hnl hb
   exact ⟨v', h', e1, e2.gt, e3⟩
  ·unfold apT at ht
   split at ht
   ·rename_i e dx hu hx
    split at ht
    ·rename_i z hz
     simp only [Bool.and_eq_true, beq_iff_eq, decide_eq_true_eq] at ht
     obtain ⟨⟨⟨⟨⟨hz1, hz2⟩, hd⟩, hni⟩, hk⟩, hby⟩ := ht
     have hs := hs e hk
     have b1 : (n + n') * P.bytesOf e ≤ 140737488355328 := Nat.le_trans (Nat.mul_le_mul hb hby) (by decide)
     have b2 : n + n' ≤ 140737488355328 := by omega
     have hall : z.cells.size = tsize P e ∧ z.cells.toList.all (·.oneCell') ∧ (P.underlying e).isSome ∧ notIntD dx ∧ news.all (·.oneCell') ∧ (n + n') * P.bytesOf e ≤ 140737488355328 ∧ n + n' ≤ 140737488355328 ∧ news.length = n' * tsize P e :=
      ⟨hz1, hz2, hd, hni, h1, b1, b2, by rw [hk]; exact hnl⟩
     have hlen : (cs ++ news).length = (n + n') * k := by rw [List.length_append, hl, hnl, Nat.add_mul]
     have hno : ¬ UNK ≤ cap := Nat.not_le.2 (Nat.lt_of_lt_of_le hc2 (by decide))
     have hrd : Fw.readN h ⟨id, 0, none⟩ (n * k) = some cs := by
      have : n * k ≤ c.length := by have := hl; rw [← htk, List.length_take] at this; omega
      rw [readN_own ho (n * k) 0 (by omega)]; simp [htk]
     by_cases h0 : n' = 0
     ·subst h0
      have hnn : news = [] := by simpa using hnl
      subst hnn
      refine ⟨_, h, ?_, ⟨by simpa using hl, .inr ⟨id, c, cap, rfl, ho, by simpa using htk, .inr ⟨hc0, hc2, hc3⟩⟩⟩, fun f _ e a => ⟨e, a⟩⟩
      simp only [aAppend, hu, hx, hz, hs]
      rw [if_pos hall, if_pos trivial, if_pos hc0]; rfl
     ·by_cases hf : n + n' ≤ cap
      ·have hroom : n * k + news.length ≤ c.length := by
        rw [hnl, ← Nat.add_mul]; exact Nat.le_trans (Nat.mul_le_mul_right _ hf) hc3
       refine ⟨.slice (some ⟨id, 0, none⟩) (n + n') cap, h.put id (.cells (putCells c (n * k) news)), ?_, ⟨hlen, .inr ⟨id, _, cap, rfl, AHeap.own_put_eq _ _ _, ?_, .inr ⟨hf, hc2, by rw [putCells_length]; exact hc3⟩⟩⟩, fun f _ e a => ⟨e.put _ (a _ rfl), a⟩⟩
       ·simp only [aAppend, hu, hx, hz, hs]
        rw [if_pos hall, if_neg h0, if_neg hno, if_pos hf]
        simp only [ho, hk, Nat.zero_add, hroom, if_true]
       ·rw [putCells_eq _ _ _ hroom]
        rw [List.take_append_of_le_length (by simp [hnl]; rw [Nat.add_mul]; omega)]
        rw [List.take_of_length_le (by simp [hnl]; rw [Nat.add_mul]; omega), htk]
      ·refine ⟨_, _, ?_, ⟨hlen, .inr ⟨h.next, cs ++ news, UNK + k, rfl, AHeap.own_alloc_eq _ _, by rw [← hlen, List.take_length], .inl rfl⟩⟩, fun f hw e a => ⟨e.alloc hw _, ?_⟩⟩
       ·simp only [aAppend, hu, hx, hz, hs]
        rw [if_pos hall, if_neg h0, if_neg hno, if_neg hf]
        simp only [oldCells, hk, hrd, hc1, if_true]
       ·intro b hb; simp [blk] at hb; subst hb; exact e.next hw (Nat.le_refl _)
    ·cases ht
   ·cases ht
theorem GT.push {t : TypeId} {n id : Nat} {v x : Value} {cs : List Value} (ht : apT P t t 1 = true) (g : GT 1 h v n cs) (ho : h.own id = some (.cells [x])) (hc1 : cs.all (·.oneCell') = true) (h1 : x.oneCell' = true) (hb : n + 1 ≤ 1000000000) :
  ∃ v' h', aAppend P h t t v (.slice (some ⟨id, 0, none⟩) 1 1) = some (v', h') ∧ GT 1 h' v' (n + 1) (cs ++ [x]) ∧ (∀ f, WF h → Le f h → Apart f v → Le f h' ∧ Apart f v') :=
 GT.append ht g (fun e he => CS.src he (CS.own (k := 1) (off := 0) (n := 1) (cap := 1) ho (by simp))) hc1 (by simpa using h1) (by simp) hb
theorem GT.cut {k n : Nat} {v : Value} {cs : List Value} {t e : TypeId} {d : TypeDesc} (hu : P.underlying t = some (.slice e)) (hd : P.underlying e = some d) (hs : tsize P e = k) (g : GT k h v n cs) (m : Nat) (hm : m ≤ n) :
  ∃ v', aSlice P t v none (some (.int .i64 m)) none = some v' ∧ GT k h v' m (cs.take (m * k)) ∧ blk v' = blk v := by
 obtain ⟨hl, ⟨rfl, rfl⟩ | ⟨id, c, cap, rfl, ho, ht, hc⟩⟩ := g
 ·obtain rfl : m = 0 := by omega
  refine ⟨.slice none 0 0, ?_, ⟨by simp, .inl ⟨rfl, rfl⟩⟩, rfl⟩
  have : ¬ UNK ≤ 0 := by decide
  simp [aSlice, hu, hd, this, aBounds, aBound]
 ·have h2 : (0 : Int) ≤ m := by omega
  have hmk : m * k ≤ n * k := Nat.mul_le_mul_right _ hm
  have hck : cs.take (m * k) = c.take (m * k) := by rw [← ht, List.take_take, Nat.min_eq_left hmk]
  have hlk : (cs.take (m * k)).length = m * k := by rw [List.length_take, hl]; omega
  rcases hc with rfl | ⟨hc0, hc2, hc3⟩
  ·have h3 : (m : Int) ≤ n := by omega
   refine ⟨.slice (some ⟨id, 0, none⟩) m (UNK + k), ?_, ⟨hlk, .inr ⟨id, c, _, rfl, ho, hck.symm, .inl rfl⟩⟩, rfl⟩
   simp [aSlice, hu, hd, hs, aBounds, aBound, aadd, h2, h3]
  ·have h1 : ¬ UNK ≤ cap := Nat.not_le.2 (Nat.lt_of_lt_of_le hc2 (by decide))
   have h3 : (m : Int) ≤ cap := by omega
   refine ⟨.slice (some ⟨id, 0, none⟩) m cap, ?_, ⟨hlk, .inr ⟨id, c, _, rfl, ho, hck.symm, .inr ⟨by omega, hc2, hc3⟩⟩⟩, rfl⟩
   simp [aSlice, hu, h1, hc0, hd, aBounds, aBound, h2, h3, aadd]
end Go.Fw
namespace Go.Fw
variable {P : Program} {h h' : AHeap}
def GRL {α : Type} (R : AHeap → Value → α → Prop) (h : AHeap) (v : Value) (xs : List α) : Prop :=
 ∃ us : List Value, GS 1 h v us.length us ∧ us.length = xs.length ∧ us.all (·.oneCell') = true ∧ ∀ (i : Nat) x u, xs[i]? = some x → us[i]? = some u → R (rem (bl v) h) u x
section
variable {α : Type} {R : AHeap → Value → α → Prop} {v : Value} {xs : List α}
theorem GRL.rl (s : Stays R) (g : GRL R h v xs) : RL R h v xs := by
 obtain ⟨us, g1, g2, _, g4⟩ := g
 exact ⟨us, g1.cs.rs, g2, fun i x u hx hu => s _ _ _ _ (g4 i x u hx hu) (rem_le _ _)⟩
theorem GRL.le (s : Stays R) (g : GRL R h v xs) (e : Le h h') : GRL R h' v xs := by
 obtain ⟨us, g1, g2, g3, g4⟩ := g
 exact ⟨us, g1.le e, g2, g3, fun i x u hx hu => s _ _ _ _ (g4 i x u hx hu) e.mono_rem⟩
theorem GRL.mono (s : Stays R) (g : GRL R h v xs) (e : Le (rem (bl v) h) (rem (bl v) h')) (hk : ∀ b o, blk v = some b → h.own b = some o → h'.own b = some o) : GRL R h' v xs := by
 obtain ⟨us, g1, g2, g3, g4⟩ := g
 refine ⟨us, ?_, g2, g3, fun i x u hx hu => s _ _ _ _ (g4 i x u hx hu) e⟩
 obtain ⟨hl, q | ⟨i, c, cap, rfl, ho, rr⟩⟩ := g1
 ·exact ⟨hl, .inl q⟩
 ·exact ⟨hl, .inr ⟨i, c, cap, rfl, hk i _ rfl ho, rr⟩⟩
theorem GRL.nil (R : AHeap → Value → α → Prop) (h : AHeap) : GRL R h (.slice none 0 0) [] := ⟨[], GS.nil 1 h, rfl, rfl, fun i x u hx => by simp at hx⟩
theorem GRL.empty (R : AHeap → Value → α → Prop) {id : Nat} (ho : h.own id = some (.cells [])) : GRL R h (.slice (some ⟨id, 0, none⟩) 0 0) [] := ⟨[], GS.full ho rfl (by decide), rfl, rfl, fun i x u hx => by simp at hx⟩
theorem GRL.push (s : Stays R) {t : TypeId} (ht : apT P t t 1 = true) (g : GRL R h v xs) (hwf : WF h) {u : Value} {x : α} (hu : R (rem (bl v) h) u x) (u1 : u.oneCell' = true) (hn : xs.length ≤ 100000000) :
  ∃ h4 v' h5, h.alloc (.cells [u]) = h4 ∧ aAppend P h4 t t v (.slice (some ⟨h.next, 0, none⟩) 1 1) = some (v', h5) ∧ GRL R h5 v' (xs ++ [x]) ∧ Le h h4 ∧ WF h4 ∧
   (∀ f, Le f h → Apart f v → Le f h5 ∧ Apart f v') ∧ (∀ b o, h.own b = some o → blk v ≠ some b → h5.own b = some o ∧ blk v' ≠ some b) := by
 obtain ⟨us, g1, g2, g3, g4⟩ := g
 have l4 : Le h (h.alloc (.cells [u])) := (Le.refl h).alloc hwf _
 have w4 : WF (h.alloc (.cells [u])) := hwf.alloc _
 have o4 : (h.alloc (.cells [u])).own h.next = some (.cells [u]) := AHeap.own_alloc_eq _ _
 obtain ⟨v', h5, e5, g5, hf⟩ := GS.push (P := P) ht (g1.le l4) o4 g3 u1 (by omega)
 refine ⟨_, v', h5, rfl, e5, ⟨us ++ [u], ?_, by simp [g2], by simpa [u1] using g3, fun i y w hy hw => ?_⟩, l4, w4, fun f lf af => hf f w4 (lf.trans l4) af, fun b o ho hb => keep_own hf w4 (l4.own _ _ ho) hb⟩
 ·rw [List.length_append]; exact g5
 ·have hrem : Apart (rem (bl v) h) v := fun b hb => by rw [rem_own, if_pos (mem_bl.2 hb)]
  obtain ⟨l5, a5⟩ := hf _ w4 ((rem_le (bl v) h).trans l4) hrem
  have le : Le (rem (bl v) h) (rem (bl v') h5) := l5.of_none fun i hi => a5 i (mem_bl.1 hi)
  by_cases hi : i < us.length
  ·rw [List.getElem?_append_left hi] at hw
   rw [List.getElem?_append_left (by omega)] at hy
   exact s _ _ _ _ (g4 i y w hy hw) le
  ·have e : i = us.length := by
    have := (List.getElem?_eq_some_iff.1 hw).1
    simp at this; omega
   subst e
   rw [List.getElem?_append_right (by omega)] at hw
   rw [List.getElem?_append_right (by omega), g2] at hy
   simp at hw hy
   subst hw hy
   exact s _ _ _ _ hu le
def RMR (l : List Nat) (R : AHeap → Value → α → Prop) : AHeap → Value → α → Prop := fun h u x => R (rem l h) u x
theorem RMR.stays (s : Stays R) (l : List Nat) : Stays (RMR l R) := fun _ _ _ _ r e => s _ _ _ _ r e.mono_rem
theorem rem_comm (l l' : List Nat) (h : AHeap) : Le (rem l (rem l' h)) (rem l' (rem l h)) :=
 ⟨by simp [rem_ext], fun i o hi => by
  obtain ⟨h1, h2⟩ := rem_some.1 hi
  obtain ⟨h3, h4⟩ := rem_some.1 h1
  exact rem_some.2 ⟨rem_some.2 ⟨h3, h2⟩, h4⟩⟩
theorem GRL.remI (s : Stays R) {l : List Nat} (g : GRL R (rem l h) v xs) : GRL (RMR l R) h v xs := by
 obtain ⟨us, g1, g2, g3, g4⟩ := g
 exact ⟨us, g1.le (rem_le _ _), g2, g3, fun i x u hx hu => s _ _ _ _ (g4 i x u hx hu) (rem_comm _ _ _)⟩
theorem GRL.remE (s : Stays R) {l : List Nat} (g : GRL (RMR l R) h v xs) (hb : ∀ b, blk v = some b → b ∉ l) : GRL R (rem l h) v xs := by
 obtain ⟨us, g1, g2, g3, g4⟩ := g
 exact ⟨us, g1.to_rem hb, g2, g3, fun i x u hx hu => s _ _ _ _ (g4 i x u hx hu) (rem_comm _ _ _)⟩
theorem GRL.push_rem (s : Stays R) {l : List Nat} {t : TypeId} (ht : apT P t t 1 = true) (g : GRL R (rem l h) v xs) (hwf : WF h) {u : Value} {x : α} (hu : R (rem l (rem (bl v) h)) u x) (u1 : u.oneCell' = true) (hn : xs.length ≤ 100000000)
  (hb : ∀ b, blk v = some b → b ∉ l) (hl : ∀ b ∈ l, h.own b ≠ none) :
  ∃ h4 v' h5, h.alloc (.cells [u]) = h4 ∧ aAppend P h4 t t v (.slice (some ⟨h.next, 0, none⟩) 1 1) = some (v', h5) ∧ GRL R (rem l h5) v' (xs ++ [x]) ∧ Le h h4 ∧ WF h4 ∧
   (∀ f, Le f h → Apart f v → Le f h5 ∧ Apart f v') ∧ (∀ b o, h.own b = some o → blk v ≠ some b → h5.own b = some o ∧ blk v' ≠ some b) := by
 obtain ⟨h4, v', h5, e4, e5, g5, l4, w4, f5, k5⟩ := GRL.push (RMR.stays s l) ht (g.remI s) hwf (u := u) (x := x) hu u1 hn
 refine ⟨h4, v', h5, e4, e5, g5.remE s fun b hb' hm => ?_, l4, w4, f5, k5⟩
 cases ho : h.own b with
 | none => exact hl b hm ho
 | some o => exact (k5 b o ho fun hc => hb b hc hm).2 hb'
end
end Go.Fw
