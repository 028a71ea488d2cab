/- A text of the proof. -/
import Derived.Test.YtnaahaldkpdjlaaFwRound
import Derived.OrdersIn
import Derived.Orders
set_option linter.unusedSimpArgs false
set_option linter.unusedVariables false
namespace Go.Fw
variable {P : Program} {W0 : Base} {N : Nat} {ops : Array Oper} {fr : AFrame} {h : AHeap}
theorem evalO_congr {fr fr' : AFrame} {x : Operand} (hx : ∀ t, x = .tmp t → fr'.get t = fr.get t) : evalO fr' x = evalO fr x := by
 cases x with
 | tmp t => exact hx t rfl
 | _ => rfl
theorem evalL_congr {fr fr' : AFrame} : ∀ {l : List Operand}, (∀ t, Operand.tmp t ∈ l → fr'.get t = fr.get t) → evalL fr' l = evalL fr l
 | [], _ => rfl
 | x :: r, hx => by
  simp only [evalL]
  rw [evalO_congr (fun t e => hx t (by simp [e])), evalL_congr (fun t e => hx t (by simp [e]))]
theorem evalP_congr {fr fr' : AFrame} : ∀ {l : List (Nat × Operand)}, (∀ t, Operand.tmp t ∈ l.map (·.2) → fr'.get t = fr.get t) → evalP fr' l = evalP fr l
 | [], _ => rfl
 | (i, x) :: r, hx => by
  simp only [evalP]
  rw [evalO_congr (fun t e => hx t (by simp [e])), evalP_congr (fun t e => hx t (by simp at e ⊢; exact .inr e))]
theorem evalM_congr {fr fr' : AFrame} {x : Option Operand} (hx : ∀ t, x = some (.tmp t) → fr'.get t = fr.get t) : evalM fr' x = evalM fr x := by
 cases x with
 | none => rfl
 | some x => simp only [evalM]; rw [evalO_congr (fun t e => hx t (by rw [e]))]
theorem looks_op {o : Oper} {t : Tmp} (h : Operand.tmp t ∈ o.op.operands.toList) : t ∈ o.looksAt ops := by
 unfold Oper.looksAt
 refine List.mem_append_left _ (List.mem_filterMap.2 ⟨_, h, rfl⟩)
theorem stepOp_congr {fr fr' : AFrame} {o : Oper} (hx : ∀ t, t ∈ o.looksAt ops → fr'.get t = fr.get t) : stepOp P fr' h o = stepOp P fr h o := by
 have hop : ∀ t, Operand.tmp t ∈ o.op.operands.toList → fr'.get t = fr.get t := fun t ht => hx t (looks_op ht)
 unfold stepOp
 cases ho : o.op <;> rw [ho] at hop <;> simp only [Op.operands] at hop
 case call c =>
  cases c with
  | mk callee args ats =>
   cases callee with
   | builtin b =>
    simp only [Call.operands] at hop
    simp only []
    rw [evalL_congr (fun t e => hop t (by simpa using e))]
   | _ => rfl
 case pick c a b =>
  simp only []
  rw [evalO_congr (x := c) (fun t e => hop t (by simp [e]))]
  split
  ·rename_i t _
   cases t
   ·rw [show (bif false then a else b) = b from rfl, evalO_congr (x := b) (fun t e => hop t (by simp [e]))]
   ·rw [show (bif true then a else b) = a from rfl, evalO_congr (x := a) (fun t e => hop t (by simp [e]))]
  ·rfl
 case build t ps => simp only []; rw [evalP_congr (fun t e => hop t (by simpa using e))]
 case buildSlice t n ps => simp only []; rw [evalP_congr (fun t e => hop t (by simpa using e))]
 case makeFunc f a b => simp only []; rw [evalL_congr (l := a.toList) (fun t e => hop t (by simp at e ⊢; exact .inl e)), evalL_congr (l := b.toList) (fun t e => hop t (by simp at e ⊢; exact .inr e))]
 case slice t x l hh mm =>
  simp only []
  rw [evalO_congr (x := x) (fun t e => hop t (by simp [e])), evalM_congr (x := l) (fun t e => hop t (by simp [e])), evalM_congr (x := hh) (fun t e => hop t (by simp [e])), evalM_congr (x := mm) (fun t e => hop t (by simp [e]))]
 case lookup t x i ok =>
  simp only []
  rw [evalO_congr (x := x) (fun t e => hop t (by simp [e])), evalO_congr (x := i) (fun t e => hop t (by simp [e]))]
 case mapUpdate t x k y =>
  simp only []
  rw [evalO_congr (x := x) (fun t e => hop t (by simp [e])), evalO_congr (x := k) (fun t e => hop t (by simp [e])), evalO_congr (x := y) (fun t e => hop t (by simp [e]))]
 all_goals first
  | rfl
  | (rename_i x; simp only []; rw [evalO_congr (x := x) (fun t e => hop t (by simp [e]))]; done)
  | (rename_i _ x; simp only []; rw [evalO_congr (x := x) (fun t e => hop t (by simp [e]))]; done)
  | (rename_i x _; simp only []; rw [evalO_congr (x := x) (fun t e => hop t (by simp [e]))]; done)
  | (rename_i _ x _; simp only []; rw [evalO_congr (x := x) (fun t e => hop t (by simp [e]))]; done)
  | (rename_i _ _ x; simp only []; rw [evalO_congr (x := x) (fun t e => hop t (by simp [e]))]; done)
  | (rename_i _ x y; simp only []; rw [evalO_congr (x := x) (fun t e => hop t (by simp [e])), evalO_congr (x := y) (fun t e => hop t (by simp [e]))]; done)
  | (rename_i _ _ x y _; simp only []; rw [evalO_congr (x := x) (fun t e => hop t (by simp [e])), evalO_congr (x := y) (fun t e => hop t (by simp [e]))]; done)
theorem wantA_congr {fr fr' : AFrame} {o : Oper} (hx : ∀ t, t ∈ o.looksAt ops → fr'.get t = fr.get t) : wantA ops fr' o = wantA ops fr o := by
 unfold wantA
 cases hg : o.guard with
 | none => rfl
 | some p =>
  obtain ⟨j, w⟩ := p
  simp only []
  cases hd : (ops[j]?).bind (·.dst) with
  | none => rfl
  | some d =>
   simp only []
   rw [hx d (by unfold Oper.looksAt; rw [hg]; simp [hd])]
theorem calleeOf_congr {fr fr' : AFrame} {o : Oper} (hx : ∀ t, t ∈ o.looksAt ops → fr'.get t = fr.get t) : calleeOf fr' o = calleeOf fr o := by
 have hop : ∀ t, Operand.tmp t ∈ o.op.operands.toList → fr'.get t = fr.get t := fun t ht => hx t (looks_op ht)
 unfold calleeOf
 cases ho : o.op <;> try rfl
 rename_i c
 rw [ho] at hop
 cases c with
 | mk callee args ats =>
  cases callee with
  | value f =>
   simp only [Op.operands, Call.operands] at hop
   simp only []
   rw [evalO_congr (x := f) (fun t e => hop t (by simp [e])), evalL_congr (l := args.toList) (fun t e => hop t (by simp; exact .inr (by simpa using e)))]
  | _ => rfl
inductive DT where
 | done
 | no
 | fl (i : Nat) (t : DT)
 | ch (i : Nat) (pre : List Nat) (t other : DT)
def predsOf (o : Oper) : List Nat := (o.after.toList.filter fun e => Region.binds .any e).map (·.on)
def predsAt (ops : Array Oper) (i : Nat) : List Nat := match ops[i]? with | some o => predsOf o | none => []
def dstAt (ops : Array Oper) (i : Nat) : Option Tmp := match ops[i]? with | some o => o.dst | none => none
def looksAtI (ops : Array Oper) (i : Nat) : List Tmp := match ops[i]? with | some o => o.looksAt ops | none => []
def isFloat (o : Oper) : Bool :=
 match o.op with
 | .move _ | .assign _ | .pick .. | .load .. | .nilCheck _ | .binOp .. | .unOp .. | .makeInterface .. | .makeFunc .. | .slice .. | .fieldAddr .. | .field .. | .indexAddr .. | .index .. | .extract .. | .build .. => true
 | .convert _ _ _ => true
 | .call { callee := .builtin .len, .. } | .call { callee := .builtin .min, .. } | .call { callee := .builtin .max, .. } => true
 | _ => false
def noWar (ops : Array Oper) (i : Nat) : Bool :=
 match dstAt ops i with
 | some d => (List.range ops.size).all fun j => !(looksAtI ops j).contains d || (j != i && (predsAt ops j).contains i)
 | none => true
def floatAt (ops : Array Oper) (i : Nat) : Bool :=
 match ops[i]? with
 | some o => isFloat o && noWar ops i
 | none => false
def cands (ops : Array Oper) (rest : List Nat) : List Nat := rest.filter fun x => (predsAt ops x).all fun p => !rest.contains p
def isTop : DT → Bool
 | .no => false
 | _ => true
def isAlt : DT → Bool
 | .no => true
 | .ch .. => true
 | _ => false
def treeOK (ops : Array Oper) : List Nat → List Nat → DT → Bool
  | rest, _, .done => rest.isEmpty
  | _, cs, .no => cs.isEmpty
  | rest, _, .fl i t => rest.contains i && floatAt ops i && (predsAt ops i).all (fun p => !rest.contains p) && isTop t && treeOK ops (rest.filter fun x => x != i) (cands ops (rest.filter fun x => x != i)) t
  | rest, cs, .ch i pre t other => rest.contains i && (predsAt ops i).all (fun p => !rest.contains p) && pre.all (fun q => (predsAt ops i).contains q) &&
      isTop t && treeOK ops (rest.filter fun x => x != i) (cands ops (rest.filter fun x => x != i)) t && isAlt other && treeOK ops rest (cs.filter fun x => x != i) other
def topOK (ops : Array Oper) (rest : List Nat) (t : DT) : Bool := isTop t && treeOK ops rest (cands ops rest) t
def drawOK (ops : Array Oper) (t : DT) : Bool :=
 (List.range ops.size).all (fun i => (predsAt ops i).all fun p => Nat.blt p i) &&
 (List.range ops.size).all (fun i => (List.range ops.size).all fun j => i == j ||
  match dstAt ops j with
  | some d => (!(looksAtI ops i).contains d || (predsAt ops i).contains j || (predsAt ops j).contains i) && dstAt ops i != some d
  | none => true) &&
 topOK ops (List.range ops.size) t
def Holds (P : Program) (ops : Array Oper) (fr : AFrame) (h : AHeap) (p : Nat) : Prop :=
  match ops[p]? with
  | some o => match wantA ops fr o with
    | some true => ∃ v, stepOp P fr h o = some (v, h) ∧ ∀ d, o.dst = some d → fr.get d = some v
    | some false => ∀ d, o.dst = some d → fr.get d = some undefV
    | none => False
  | none => False
def HoldsAll (P : Program) (ops : Array Oper) (fr : AFrame) (h : AHeap) : List Nat → Prop
 | [] => True
 | p :: r => Holds P ops fr h p ∧ HoldsAll P ops fr h r
def DW (P : Program) (W0 : Base) (N : Nat) (ops : Array Oper) (Q : AFrame → AHeap → Prop) : DT → List Nat → AFrame → AHeap → Prop
  | .done, _, fr, h => Q fr h
  | .no, _, _, _ => True
  | .fl i t, pend, fr, h =>
    match ops[i]? with
    | none => False
    | some o =>
      match wantA ops fr o with
      | none => False
      | some false => match putDst N fr o.dst undefV with
        | none => False
        | some fr' => DW P W0 N ops Q t (i :: pend) fr' h
      | some true => match stepOp P fr h o with
          | none => False
          | some (v, h') => h' = h ∧ match putDst N fr o.dst v with
            | none => False
            | some fr' => DW P W0 N ops Q t (i :: pend) fr' h
  | .ch i pre t other, pend, fr, h =>
    (match ops[i]? with
    | none => False
    | some o =>
      match wantA ops fr o with
      | none => False
      | some false => match putDst N fr o.dst undefV with
        | none => False
        | some fr' => DW P W0 N ops Q t (pend.filter fun p => !pre.contains p) fr' h
      | some true =>
          match isCall o with
          | true => ∃ g args fn c, calleeOf fr o = some (g, args) ∧ Good P g fn c ∧ AC P W0 g args h fun v h' => ∃ fr', putDst N fr o.dst v = some fr' ∧
              HoldsAll P ops fr' h' (pend.filter fun p => !pre.contains p) ∧ DW P W0 N ops Q t (pend.filter fun p => !pre.contains p) fr' h'
          | false => match stepOp P fr h o with
            | none => False
            | some (v, h') => match putDst N fr o.dst v with
              | none => False
              | some fr' => HoldsAll P ops fr' h' (pend.filter fun p => !pre.contains p) ∧ DW P W0 N ops Q t (pend.filter fun p => !pre.contains p) fr' h') ∧
    DW P W0 N ops Q other pend fr h
theorem HoldsAll.mem {fr : AFrame} {h : AHeap} : ∀ {l : List Nat}, HoldsAll P ops fr h l → ∀ p ∈ l, Holds P ops fr h p
 | [], _, p, hp => by simp at hp
 | q :: r, hh, p, hp => by
  rcases List.mem_cons.1 hp with rfl | hp
  ·exact hh.1
  ·exact HoldsAll.mem hh.2 p hp
def delAll (fr : AFrame) : List Tmp → AFrame
 | [] => fr
 | d :: r => (delAll fr r).del d
theorem delAll_get (fr : AFrame) (k : Nat) : ∀ (l : List Tmp), (delAll fr l).get k = if k ∈ l then none else fr.get k
 | [] => by simp [delAll]
 | d :: r => by
  simp only [delAll, Trie.get_del, delAll_get fr k r, List.mem_cons]
  by_cases h : k = d <;> by_cases h2 : k ∈ r <;> simp [h, h2]
def unl (listed : Array Bool) (i : Nat) : Bool := !listed.getD i true
theorem unl_set {listed : Array Bool} {i j : Nat} (hi : unl listed i = true) : unl (listed.setIfInBounds i true) j = (unl listed j && j != i) := by
 have hlt : i < listed.size := by
  rcases Nat.lt_or_ge i listed.size with h | h
  ·exact h
  ·simp [unl, Array.getD_eq_getD_getElem?, Array.getElem?_eq_none h] at hi
 unfold unl
 simp only [Array.getD_eq_getD_getElem?, Array.getElem?_setIfInBounds]
 by_cases h : i = j
 ·subst h; simp [hlt]
 ·simp [h, Ne.symm h]
def cnt (n : Nat) (listed : Array Bool) : Nat := (List.range n).countP (unl listed)
theorem countP_drop {p q : Nat → Bool} {i : Nat} : ∀ {l : List Nat}, l.Nodup → i ∈ l → p i = true → q i = false → (∀ j, j ≠ i → q j = p j) → l.countP q + 1 = l.countP p
 | [], _, h, _, _, _ => by simp at h
 | x :: r, hn, h, hp, hq, hj => by
  rw [List.nodup_cons] at hn
  by_cases hx : x = i
  ·subst hx
   have : r.countP q = r.countP p := List.countP_congr (fun y hy => by rw [hj y (fun e => hn.1 (e ▸ hy))])
   simp [hp, hq, this]
  ·have hi : i ∈ r := by rcases List.mem_cons.1 h with e | e; exact absurd e.symm hx; exact e
   have := countP_drop hn.2 hi hp hq hj
   simp only [List.countP_cons, hj x hx]; omega
theorem cnt_set {n i : Nat} {listed : Array Bool} (hi : i < n) (hu : unl listed i = true) : cnt n (listed.setIfInBounds i true) + 1 = cnt n listed := by
 refine countP_drop List.nodup_range (List.mem_range.2 hi) hu ?_ ?_
 ·rw [unl_set hu]; simp
 ·intro j hj; rw [unl_set hu]; simp [hj]
theorem cnt_zero {n : Nat} {listed : Array Bool} (h : cnt n listed = 0) (i : Nat) (hi : i < n) : unl listed i = false := by
 unfold cnt at h
 rw [List.countP_eq_zero] at h
 have := h i (List.mem_range.2 hi)
 simpa using this
theorem predsAt_of {i : Nat} {o : Oper} (h : ops[i]? = some o) : predsAt ops i = predsOf o := by simp [predsAt, h]
theorem dstAt_of {i : Nat} {o : Oper} (h : ops[i]? = some o) : dstAt ops i = o.dst := by simp [dstAt, h]
theorem looksAtI_of {i : Nat} {o : Oper} (h : ops[i]? = some o) : looksAtI ops i = o.looksAt ops := by simp [looksAtI, h]
structure DrawOK (ops : Array Oper) : Prop where
 preds : ∀ i p, i < ops.size → p ∈ predsAt ops i → p < i
 pair : ∀ i j d, i < ops.size → j < ops.size → i ≠ j → dstAt ops j = some d → (d ∈ looksAtI ops i → j ∈ predsAt ops i ∨ i ∈ predsAt ops j) ∧ dstAt ops i ≠ some d
theorem DrawOK.of {t : DT} (h : drawOK ops t = true) : DrawOK ops ∧ topOK ops (List.range ops.size) t = true := by
 simp only [drawOK, Bool.and_eq_true, List.all_eq_true, List.mem_range, beq_iff_eq, Bool.or_eq_true, List.contains_eq_mem, Nat.blt_eq] at h
 obtain ⟨⟨h4, h5⟩, h6⟩ := h
 refine ⟨⟨fun i p hi hp => h4 i hi p hp, fun i j d hi hj hij hd => ?_⟩, h6⟩
 have := h5 i hi j hj
 rcases this with e | this
 ·exact absurd e hij
 ·rw [hd] at this
  simp only [Bool.and_eq_true, Bool.or_eq_true, Bool.not_eq_true', decide_eq_false_iff_not, decide_eq_true_eq, bne_iff_ne] at this
  refine ⟨fun hl => ?_, this.2⟩
  rcases this.1 with (e | e) | e
  ·exact absurd hl e
  ·exact .inl e
  ·exact .inr e
theorem mem_cands {rest : List Nat} {x : Nat} : x ∈ cands ops rest ↔ x ∈ rest ∧ ∀ p ∈ predsAt ops x, p ∉ rest := by
 simp only [cands, List.mem_filter, List.all_eq_true, Bool.not_eq_true', List.contains_eq_mem, decide_eq_false_iff_not]
structure Inv (P : Program) (N : Nat) (ops : Array Oper) (rest pend : List Nat) (fr : AFrame) (h : AHeap) (listed : Array Bool) : Prop where
 every : ∀ i, i < ops.size → unl listed i = true → i ∈ pend ∨ i ∈ rest
 inRest : ∀ i ∈ rest, unl listed i = true ∧ i < ops.size
 inPend : ∀ p ∈ pend, p < ops.size ∧ p ∉ rest ∧ (∀ q ∈ predsAt ops p, q ∉ rest) ∧ (∀ d, dstAt ops p = some d → d < N) ∧ noWar ops p = true
 holds : ∀ p ∈ pend, unl listed p = true → Holds P ops fr h p
def holesOf (ops : Array Oper) (pend : List Nat) (listed : Array Bool) : List Tmp := (pend.filter (unl listed)).filterMap (dstAt ops)
theorem mem_holes {pend : List Nat} {listed : Array Bool} {t : Tmp} : t ∈ holesOf ops pend listed ↔ ∃ p ∈ pend, unl listed p = true ∧ dstAt ops p = some t := by
 simp only [holesOf, List.mem_filterMap, List.mem_filter]
 constructor
 ·rintro ⟨p, ⟨h1, h2⟩, h3⟩; exact ⟨p, h1, h2, h3⟩
 ·rintro ⟨p, h1, h2, h3⟩; exact ⟨p, ⟨h1, h2⟩, h3⟩
theorem putDst_get {fr fr' : AFrame} {d : Option Tmp} {v : Value} (h : putDst N fr d v = some fr') : (∀ k, d ≠ some k → fr'.get k = fr.get k) ∧ ∀ k, d = some k → fr'.get k = some v ∧ k < N := by
 cases d with
 | none => simp [putDst] at h; subst h; exact ⟨fun _ _ => rfl, fun _ h => by cases h⟩
 | some d =>
  simp only [putDst] at h
  split at h
  case isFalse => cases h
  rename_i hdN
  simp at h; subst h
  refine ⟨fun k hk => Trie.get_set_ne _ _ _ _ (fun e => hk (by rw [e])), fun k hk => ?_⟩
  injection hk with hk; subst hk
  exact ⟨Trie.get_set_eq _ _ _, hdN⟩
theorem Holds.congr {fr fr' : AFrame} {h : AHeap} {p : Nat} (hh : Holds P ops fr h p) (hl : ∀ t ∈ looksAtI ops p, fr'.get t = fr.get t) (hd : ∀ d, dstAt ops p = some d → fr'.get d = fr.get d) : Holds P ops fr' h p := by
 unfold Holds at *
 cases ho : ops[p]? with
 | none => rw [ho] at hh; exact hh
 | some o =>
  rw [ho] at hh
  simp only [] at hh ⊢
  rw [looksAtI_of ho] at hl
  rw [dstAt_of ho] at hd
  rw [wantA_congr hl]
  cases hw : wantA ops fr o with
  | none => rw [hw] at hh; exact hh
  | some b =>
   rw [hw] at hh
   cases b with
   | false => exact fun d e => by rw [hd d e]; exact hh d e
   | true => obtain ⟨v, h1, h2⟩ := hh; exact ⟨v, by rw [stepOp_congr hl]; exact h1, fun d e => by rw [hd d e]; exact h2 d e⟩
theorem Inv.absorb {rest pend : List Nat} {fr fr' : AFrame} {h : AHeap} {listed : Array Bool} {i : Nat} {o : Oper} {v : Value} (ok : DrawOK ops)
  (iv : Inv P N ops rest pend fr h listed) (hir : i ∈ rest) (hord2 : ∀ p ∈ predsAt ops i, p ∉ rest) (ho : ops[i]? = some o) (hnw : noWar ops i = true) (hp : putDst N fr o.dst v = some fr') (hH : Holds P ops fr' h i) :
  Inv P N ops (rest.filter fun x => x != i) (i :: pend) fr' h listed := by
 obtain ⟨hg1, hg2⟩ := putDst_get hp
 have hi := iv.inRest i hir
 have hmem : ∀ x, x ∈ rest.filter (fun x => x != i) ↔ x ∈ rest ∧ x ≠ i := fun x => by simp
 refine ⟨fun j hj hu => ?_, fun j hj => iv.inRest j ((hmem j).1 hj).1, fun p hpp => ?_, fun p hpp hu => ?_⟩
 ·rcases iv.every j hj hu with e | e
  ·exact .inl (by simp [e])
  ·by_cases hji : j = i
   ·exact .inl (by simp [hji])
   ·exact .inr ((hmem j).2 ⟨e, hji⟩)
 ·rcases List.mem_cons.1 hpp with rfl | hpp
  ·refine ⟨hi.2, fun e => ((hmem _).1 e).2 rfl, fun q hq e => hord2 q hq ((hmem q).1 e).1, fun d hd => ?_, hnw⟩
   rw [dstAt_of ho] at hd; exact (hg2 d hd).2
  ·obtain ⟨a, b, c, d⟩ := iv.inPend p hpp
   exact ⟨a, fun e => b ((hmem p).1 e).1, fun q hq e => c q hq ((hmem q).1 e).1, d⟩
 ·rcases List.mem_cons.1 hpp with rfl | hpp
  ·exact hH
  ·obtain ⟨a, b, c, _⟩ := iv.inPend p hpp
   have hpi : p ≠ i := fun e => b (e ▸ hir)
   refine (iv.holds p hpp hu).congr (fun t ht => hg1 t fun e => ?_) (fun d hd => hg1 d fun e => ?_)
   ·simp only [noWar, dstAt_of ho, e, List.all_eq_true, List.mem_range, Bool.or_eq_true, Bool.not_eq_true', List.contains_eq_mem, decide_eq_false_iff_not, Bool.and_eq_true, bne_iff_ne, decide_eq_true_eq] at hnw
    rcases hnw p a with hx | ⟨_, hx⟩
    ·exact hx ht
    ·exact c i hx hir
   ·exact (ok.pair i p d hi.2 a (Ne.symm hpi) hd).2 (by rw [dstAt_of ho]; exact e)
theorem getD_true_of {listed : Array Bool} {q : Nat} (h : listed.getD q false = true) : unl listed q = false := by
 unfold unl
 cases hq : listed[q]? with
 | none => simp [Array.getD_eq_getD_getElem?, hq] at h
 | some b => simp [Array.getD_eq_getD_getElem?, hq] at h ⊢; exact h
theorem getD_false_of {listed : Array Bool} {q : Nat} (hs : q < listed.size) (h : unl listed q = false) : listed.getD q false = true := by
 unfold unl at h
 simp [Array.getD_eq_getD_getElem?, Array.getElem?_eq_getElem hs] at h ⊢
 exact h
theorem ready_spec {listed : Array Bool} {i : Nat} (h : i ∈ Region.ready .any ops listed) : unl listed i = true ∧ i < ops.size ∧ ∃ o, ops[i]? = some o ∧ ∀ q ∈ predsOf o, unl listed q = false := by
 obtain ⟨h1, o, h2, h3⟩ := mem_ready.1 h
 refine ⟨by simp [unl, h1], (Array.getElem?_eq_some_iff.1 h2).1, o, h2, fun q hq => ?_⟩
 simp only [predsOf, List.mem_map, List.mem_filter] at hq
 obtain ⟨e, ⟨he, hb⟩, rfl⟩ := hq
 exact getD_true_of (h3 e (by simpa using he) hb)
theorem ready_nil {listed : Array Bool} (ok : DrawOK ops) (hs : listed.size = ops.size) (h : Region.ready .any ops listed = []) : ∀ i, i < ops.size → unl listed i = false := by
 intro i
 induction i using Nat.strongRecOn with
 | _ i ih =>
  intro hi
  cases hu : unl listed i with
  | false => rfl
  | true =>
   exfalso
   have : i ∈ Region.ready .any ops listed := by
    refine mem_ready.2 ⟨by simpa [unl] using hu, ops[i], Array.getElem?_eq_getElem hi, fun e he hb => ?_⟩
    have hp : e.on ∈ predsAt ops i := by
     rw [predsAt_of (Array.getElem?_eq_getElem hi)]
     simp only [predsOf, List.mem_map, List.mem_filter]
     exact ⟨e, ⟨by simpa using he, hb⟩, rfl⟩
    have hlt := ok.preds i e.on hi hp
    exact getD_false_of (by omega) (ih e.on hlt (by omega))
   rw [h] at this; simp at this
theorem wantA_looks {m : CMap} {n : Nat} {o : Oper} {fr frR : AFrame} {tmps : Array Value} {b : Bool} (F : FR n m frR tmps) (hl : ∀ t ∈ o.looksAt ops, frR.get t = fr.get t) (hw : wantA ops fr o = some b) :
  Region.wanted o (yielded ops tmps) = b :=
 wantA_rel (a := ⟨tmps, []⟩) F (by rw [wantA_congr hl]; exact hw)
theorem noWar_spec {p j : Nat} {d : Tmp} (h : noWar ops p = true) (hd : dstAt ops p = some d) (hj : j < ops.size) (hl : d ∈ looksAtI ops j) : j ≠ p ∧ p ∈ predsAt ops j := by
 simp only [noWar, hd, List.all_eq_true, List.mem_range, Bool.or_eq_true, Bool.not_eq_true', List.contains_eq_mem, decide_eq_false_iff_not, Bool.and_eq_true, bne_iff_ne, decide_eq_true_eq] at h
 rcases h j hj with hx | hx
 ·exact absurd hl hx
 ·exact hx
theorem St.fill {cx : Cx} {m m' : CMap} {frA frB : AFrame} {h h' : AHeap} {a : Act} {w w' : World} (s : St W0 cx N m frA h a w) (R' : Rel (W0.add cx.ex) m' h' w') (hag : Agree h.next m m') (hn : h.next ≤ h'.next) {d : Option Tmp} {v v' : Value} (hv : VR h'.next m' v v')
  (hf : ∀ k u, frB.get k = some u → (d = some k ∧ u = v ∧ k < N) ∨ (d ≠ some k ∧ frA.get k = some u)) : St W0 cx N m' frB h' (a.put d v') w' := by
 have F := s.frame.mono hn hag
 refine ⟨R', fun k u hu => ?_, ?_, ?_, ?_⟩
 ·rcases hf k u hu with ⟨rfl, rfl, hk⟩ | ⟨hd, hg⟩
  ·exact ⟨v', by simp [Act.put, s.size, hk], hv⟩
  ·obtain ⟨u', h1, h2⟩ := F k u hg
   refine ⟨u', ?_, h2⟩
   cases d with
   | none => exact h1
   | some d =>
    have : d ≠ k := fun e => hd (by rw [e])
    simp [Act.put, this, h1]
 ·cases d <;> exact s.defers
 ·cases d <;> simp [Act.put, s.size]
 ·exact s.round
theorem call_wp {cx : Cx} {nn : Nat} {m : CMap} {fr : AFrame} {h : AHeap} {a : Act} {w : World} (s : St W0 cx N m fr h a w) {o : Oper} {g : FuncId} {args : List Value} {fn : Func} {c : Code} (hc : calleeOf fr o = some (g, args)) (hg : Good P g fn c)
  {R : Value → AHeap → Prop} (hr : AC P W0 g args h R) {Kn : Act → World → Prop} {K : Exit → Act → World → Prop}
  (hK : ∀ v v' m' h' w', Agree h.next m m' → h.next ≤ h'.next → Rel (W0.add cx.ex) m' h' w' → VR h'.next m' v v' → R v h' → Kn (a.put o.dst v') w') : o.wpIn (wideR cx.ro) nn P a w Kn K := by
 unfold calleeOf at hc
 split at hc
 ·rename_i f as ats hop
  split at hc
  ·rename_i g' first cap vs hf hvs
   injection hc with hc; simp only [Prod.mk.injEq] at hc; obtain ⟨rfl, rfl⟩ := hc
   have hfv := evalO_rel s.frame hf
   have hav := evalL_rel s.frame hvs
   refine wpIn_op (fun c e => by rw [hop] at e; cases e) ?_
   have key : ∃ first' cap', a.eval f = .func (.func g') first' cap' ∧ VRs h.next m first.toList first'.toList ∧ VRs h.next m cap.toList cap'.toList := by
    generalize a.eval f = x at hfv
    cases hfv with
    | flat hf => simp [Fw.flat] at hf
    | func h1 h2 h3 h4 =>
     exact ⟨_, _, rfl, ⟨by simpa using h1, fun i v v' e e' => h3 i v v' (by simpa using e) (by simpa using e')⟩, ⟨by simpa using h2, fun i v v' e e' => h4 i v v' (by simpa using e) (by simpa using e')⟩⟩
   obtain ⟨first', cap', hfe, hfr, hcr⟩ := key
   have hrun : (execOp a.eval o).run P w = .ok (.enter g' ((first'.toList ++ as.toList.map a.eval ++ cap'.toList).toArray)) w := by
    have e1 : (first' ++ as.map a.eval ++ cap') = (first'.toList ++ as.toList.map a.eval ++ cap'.toList).toArray := by
     apply Array.toList_inj.1; simp
    simp only [execOp, hop, resolve, hfe, Deferred.ofValue, Sem.run_bind, Sem.run_pure, Result.andThen_ok, invoke, callFunc, run_program, hg.func, hg.name, Bool.false_eq_true, if_false, hg.body, Option.isNone_some, e1]
   rw [hrun]
   have hcall := hr cx.ex m w (first'.toList ++ as.toList.map a.eval ++ cap'.toList) s.rel ((hfr.append hav).append hcr)
   refine ⟨(fun hx => by cases hx), callsIn_wideR (hcall.mono ?_)⟩
   rintro e w' ⟨v, v', m', h', rfl, R', hag, hn, hv, hrr⟩
   exact hK v v' m' h' w' hag hn R' hv hrr
  ·cases hc
 ·cases hc
theorem draw_pend {cx : Cx} {nn : Nat} {Q : AFrame → AHeap → Prop} {K : Exit → Act → World → Prop} {fuel : Nat}
  (ih : ∀ (t : DT) (rest pend : List Nat) (fr : AFrame) (h : AHeap) (listed : Array Bool) (m : CMap) (a : Act) (w : World),
   cnt ops.size listed = fuel → listed.size = ops.size → Inv P N ops rest pend fr h listed → topOK ops rest t = true → DW P W0 N ops Q t pend fr h → St W0 cx N m (delAll fr (holesOf ops pend listed)) h a w →
   (∀ m' fr' h' a' w', Agree h.next m m' → h.next ≤ h'.next → St W0 cx N m' fr' h' a' w' → Q fr' h' → K .normal a' w') → wpAnyIn (wideR cx.ro) nn P .any ops K fuel listed a w)
  {t : DT} {rest pend : List Nat} {fr : AFrame} {h : AHeap} {listed : Array Bool} {m : CMap} {a : Act} {w : World}
  (hc : cnt ops.size listed = fuel + 1) (hs : listed.size = ops.size) (iv : Inv P N ops rest pend fr h listed) (hent : topOK ops rest t = true) (dw : DW P W0 N ops Q t pend fr h) (s : St W0 cx N m (delAll fr (holesOf ops pend listed)) h a w)
  (hK : ∀ m' fr' h' a' w', Agree h.next m m' → h.next ≤ h'.next → St W0 cx N m' fr' h' a' w' → Q fr' h' → K .normal a' w')
  {j : Nat} (hj : j ∈ Region.ready .any ops listed) (hjp : j ∈ pend) : wpOpIn (wideR cx.ro) nn P ops K j (wpAnyIn (wideR cx.ro) nn P .any ops K fuel (listed.setIfInBounds j true)) a w := by
 obtain ⟨hu, hlt, o, ho, hpre⟩ := ready_spec hj
 have hc' : cnt ops.size (listed.setIfInBounds j true) = fuel := by have := cnt_set hlt hu; omega
 have hs' : (listed.setIfInBounds j true).size = ops.size := by simpa using hs
 have hjr : j ∉ rest := (iv.inPend j hjp).2.1
 have iv' : Inv P N ops rest pend fr h (listed.setIfInBounds j true) := by
  refine ⟨fun i hi hui => ?_, fun i hi => ⟨?_, (iv.inRest i hi).2⟩, iv.inPend, fun p hp hup => ?_⟩
  ·rw [unl_set hu] at hui; simp at hui; exact iv.every i hi hui.1
  ·rw [unl_set hu]; simp [(iv.inRest i hi).1]; exact fun e => hjr (e ▸ hi)
  ·rw [unl_set hu] at hup; simp at hup; exact iv.holds p hp hup.1
 have hlooks : ∀ t ∈ o.looksAt ops, (delAll fr (holesOf ops pend listed)).get t = fr.get t := by
  intro t ht
  rw [delAll_get, if_neg]
  intro hh
  obtain ⟨p, hp, hup, hdp⟩ := mem_holes.1 hh
  obtain ⟨_, _, _, _, hnw⟩ := iv.inPend p hp
  obtain ⟨hne, hmem⟩ := noWar_spec hnw hdp hlt (by rw [looksAtI_of ho]; exact ht)
  rw [predsAt_of ho] at hmem
  rw [hpre p hmem] at hup; cases hup
 have hfill : ∀ v, (∀ d, o.dst = some d → fr.get d = some v) → ∀ k u, (delAll fr (holesOf ops pend (listed.setIfInBounds j true))).get k = some u →
   (o.dst = some k ∧ u = v ∧ k < N) ∨ (o.dst ≠ some k ∧ (delAll fr (holesOf ops pend listed)).get k = some u) := by
  intro v hv k u hku
  rw [delAll_get] at hku
  split at hku
  ·cases hku
  ·rename_i hk
   by_cases hd : o.dst = some k
   ·left
    rw [hv k hd] at hku; injection hku with hku
    exact ⟨hd, hku.symm, (iv.inPend j hjp).2.2.2.1 k (by rw [dstAt_of ho]; exact hd)⟩
   ·right
    refine ⟨hd, ?_⟩
    rw [delAll_get, if_neg, hku]
    intro hh
    obtain ⟨p, hp, hup, hdp⟩ := mem_holes.1 hh
    refine hk (mem_holes.2 ⟨p, hp, ?_, hdp⟩)
    rw [unl_set hu, hup]
    simp only [Bool.true_and, bne_iff_ne]
    intro e; subst e; rw [dstAt_of ho] at hdp; exact hd hdp
 have hH := iv.holds j hjp hu
 unfold Holds at hH
 rw [ho] at hH
 simp only [] at hH
 unfold wpOpIn
 rw [ho]
 simp only []
 split at hH
 ·rename_i hw
  obtain ⟨v, hst, hfr⟩ := hH
  rw [if_pos (wantA_looks s.frame hlooks hw)]
  obtain ⟨m', v', w', hrun, R', hag, hn, hv⟩ := stepOp_does (P := P) (a := a) s.rel s.frame (by rw [stepOp_congr hlooks]; exact hst)
  have s' := s.fill R' hag hn hv (hfill v hfr)
  have := ih t rest pend fr h _ m' (a.put o.dst v') w' hc' hs' iv' hent dw s' fun m2 fr2 h2 a2 w2 e1 e2 e3 e4 => hK m2 fr2 h2 a2 w2 (hag.trans e1 hn) (Nat.le_trans hn e2) e3 e4
  refine wpIn_op (stepOp_nodefer hst) ?_
  rcases hrun with hrun | ⟨hrun, rfl⟩ <;> rw [hrun] <;> exact this
 ·rename_i hw
  rw [if_neg (by rw [wantA_looks s.frame hlooks hw]; simp)]
  have s' := s.fill s.rel (.refl _ _) (Nat.le_refl _) (v := undefV) (v' := undef) (.tuple rfl (fun i v v' h => by simp at h)) (hfill undefV hH)
  refine ⟨fun _ _ => trivial, ?_⟩
  exact ih t rest pend fr h _ m _ w hc' hs' iv' hent dw s' hK
 ·exact hH.elim
theorem draw_do {cx : Cx} {nn : Nat} (ok : DrawOK ops) {Q : AFrame → AHeap → Prop} {K : Exit → Act → World → Prop} {fuel : Nat}
  (ih : ∀ (t : DT) (rest pend : List Nat) (fr : AFrame) (h : AHeap) (listed : Array Bool) (m : CMap) (a : Act) (w : World),
   cnt ops.size listed = fuel → listed.size = ops.size → Inv P N ops rest pend fr h listed → topOK ops rest t = true → DW P W0 N ops Q t pend fr h → St W0 cx N m (delAll fr (holesOf ops pend listed)) h a w →
   (∀ m' fr' h' a' w', Agree h.next m m' → h.next ≤ h'.next → St W0 cx N m' fr' h' a' w' → Q fr' h' → K .normal a' w') → wpAnyIn (wideR cx.ro) nn P .any ops K fuel listed a w)
  {t other : DT} {j : Nat} {pre : List Nat} {rest pend : List Nat} {fr : AFrame} {h : AHeap} {listed : Array Bool} {m : CMap} {a : Act} {w : World}
  (hc : cnt ops.size listed = fuel + 1) (hs : listed.size = ops.size) (iv : Inv P N ops rest pend fr h listed) (hjr : j ∈ rest) (hpreS : ∀ q ∈ pre, q ∈ predsAt ops j)
  (htree : topOK ops (rest.filter fun x => x != j) t = true) (dw : DW P W0 N ops Q (.ch j pre t other) pend fr h) (s : St W0 cx N m (delAll fr (holesOf ops pend listed)) h a w)
  (hK : ∀ m' fr' h' a' w', Agree h.next m m' → h.next ≤ h'.next → St W0 cx N m' fr' h' a' w' → Q fr' h' → K .normal a' w')
  (hj : j ∈ Region.ready .any ops listed) : wpOpIn (wideR cx.ro) nn P ops K j (wpAnyIn (wideR cx.ro) nn P .any ops K fuel (listed.setIfInBounds j true)) a w := by
 obtain ⟨hu, hlt, o, ho, hpre⟩ := ready_spec hj
 have hmem : ∀ x, x ∈ rest.filter (fun x => x != j) ↔ x ∈ rest ∧ x ≠ j := fun x => by simp
 have hc' : cnt ops.size (listed.setIfInBounds j true) = fuel := by have := cnt_set hlt hu; omega
 have hs' : (listed.setIfInBounds j true).size = ops.size := by simpa using hs
 have hpe : ∀ p ∈ pend, p ≠ j := fun p hp e => (iv.inPend p hp).2.1 (e ▸ hjr)
 have hkeep : ∀ p ∈ pend, unl listed p = true → p ∈ pend.filter fun p => !pre.contains p := by
  intro p hp hup
  refine List.mem_filter.2 ⟨hp, ?_⟩
  simp only [List.contains_eq_mem, Bool.not_eq_true', decide_eq_false_iff_not]
  intro hq; have hq' := hpreS p hq; rw [predsAt_of ho] at hq'; rw [hpre p hq'] at hup; cases hup
 have hlooks : ∀ t ∈ o.looksAt ops, (delAll fr (holesOf ops pend listed)).get t = fr.get t := by
  intro t ht
  rw [delAll_get, if_neg]
  intro hh
  obtain ⟨p, hp, hup, hdp⟩ := mem_holes.1 hh
  obtain ⟨_, _, _, _, hnw⟩ := iv.inPend p hp
  obtain ⟨hne, hm⟩ := noWar_spec hnw hdp hlt (by rw [looksAtI_of ho]; exact ht)
  rw [predsAt_of ho] at hm
  rw [hpre p hm] at hup; cases hup
 have hinv : ∀ fr' h', (∀ p ∈ pend.filter (fun p => !pre.contains p), unl (listed.setIfInBounds j true) p = true → Holds P ops fr' h' p) → Inv P N ops (rest.filter fun x => x != j) (pend.filter fun p => !pre.contains p) fr' h' (listed.setIfInBounds j true) := by
  intro fr' h' hall
  refine ⟨fun i' hi' hui => ?_, fun i' hi' => ⟨?_, (iv.inRest i' ((hmem i').1 hi').1).2⟩, fun p hp => ?_, hall⟩
  ·rw [unl_set hu] at hui; simp at hui
   rcases iv.every i' hi' hui.1 with e | e
   ·exact .inl (hkeep i' e hui.1)
   ·exact .inr ((hmem i').2 ⟨e, hui.2⟩)
  ·rw [unl_set hu]; simp [(iv.inRest i' ((hmem i').1 hi').1).1]; exact ((hmem i').1 hi').2
  ·obtain ⟨a1, a2, a3, a4, a5⟩ := iv.inPend p (List.mem_filter.1 hp).1
   exact ⟨a1, fun e => a2 ((hmem p).1 e).1, fun q hq e => a3 q hq ((hmem q).1 e).1, a4, a5⟩
 have hfill : ∀ {v : Value} {fr' : AFrame}, putDst N fr o.dst v = some fr' → ∀ k u, (delAll fr' (holesOf ops (pend.filter fun p => !pre.contains p) (listed.setIfInBounds j true))).get k = some u →
   (o.dst = some k ∧ u = v ∧ k < N) ∨ (o.dst ≠ some k ∧ (delAll fr (holesOf ops pend listed)).get k = some u) := by
  intro v fr' hp k u hku
  obtain ⟨hg1, hg2⟩ := putDst_get hp
  rw [delAll_get] at hku
  split at hku
  ·cases hku
  ·rename_i hk
   by_cases hd : o.dst = some k
   ·left
    obtain ⟨e1, e2⟩ := hg2 k hd
    rw [e1] at hku; injection hku with hku
    exact ⟨hd, hku.symm, e2⟩
   ·right
    refine ⟨hd, ?_⟩
    rw [hg1 k hd] at hku
    rw [delAll_get, if_neg, hku]
    intro hh
    obtain ⟨p, hp', hup, hdp⟩ := mem_holes.1 hh
    refine hk (mem_holes.2 ⟨p, hkeep p hp' hup, ?_, hdp⟩)
    rw [unl_set hu, hup]
    simpa using hpe p hp'
 simp only [DW, ho] at dw
 replace dw := dw.1
 unfold wpOpIn
 rw [ho]
 simp only []
 split at dw
 ·exact dw.elim
 ·rename_i hw
  rw [if_neg (by rw [wantA_looks s.frame hlooks hw]; simp)]
  split at dw
  ·exact dw.elim
  ·rename_i fr' hp
   obtain ⟨hg1, hg2⟩ := putDst_get hp
   have s' := s.fill s.rel (.refl _ _) (Nat.le_refl _) (v := undefV) (v' := undef) (.tuple rfl (fun i v v' h => by simp at h)) (hfill hp)
   refine ⟨fun _ _ => trivial, ih t _ _ fr' h _ m _ w hc' hs' (hinv fr' h fun p hp' hup => ?_) htree dw s' hK⟩
   rw [unl_set hu] at hup; simp at hup
   have hpp := (List.mem_filter.1 hp').1
   obtain ⟨a1, a2, a3, _⟩ := iv.inPend p hpp
   refine (iv.holds p hpp hup.1).congr (fun t ht => hg1 t fun e => ?_) (fun d hd => hg1 d fun e => ?_)
   ·rcases (ok.pair p j t a1 hlt hup.2 (by rw [dstAt_of ho]; exact e)).1 ht with e | e
    ·exact a3 j e hjr
    ·rw [predsAt_of ho] at e; rw [hpre p e] at hup; cases hup.1
   ·exact (ok.pair j p d hlt a1 (Ne.symm hup.2) hd).2 (by rw [dstAt_of ho]; exact e)
 ·rename_i hw
  rw [if_pos (wantA_looks s.frame hlooks hw)]
  split at dw
  ·obtain ⟨g, args, fn, c, hcl, hgood, hac⟩ := dw
   refine call_wp s (by rw [calleeOf_congr hlooks]; exact hcl) hgood hac ?_
   rintro v v' m' h' w' hag hn R' hv ⟨fr', hp, hall, dw'⟩
   have s' := s.fill R' hag hn hv (hfill hp)
   exact ih t _ _ fr' h' _ m' (a.put o.dst v') w' hc' hs' (hinv fr' h' fun p hp _ => hall.mem p hp) htree dw' s' fun m2 fr2 h2 a2 w2 e1 e2 e3 e4 => hK m2 fr2 h2 a2 w2 (hag.trans e1 hn) (Nat.le_trans hn e2) e3 e4
  ·split at dw
   ·exact dw.elim
   ·rename_i v h' hst
    split at dw
    ·exact dw.elim
    ·rename_i fr' hp
     obtain ⟨hall, dw'⟩ := dw
     obtain ⟨m', v', w', hrun, R', hag, hn, hv⟩ := stepOp_does (P := P) (a := a) s.rel s.frame (by rw [stepOp_congr hlooks]; exact hst)
     have s' := s.fill R' hag hn hv (hfill hp)
     have := ih t _ _ fr' h' _ m' (a.put o.dst v') w' hc' hs' (hinv fr' h' fun p hp _ => hall.mem p hp) htree dw' s' fun m2 fr2 h2 a2 w2 e1 e2 e3 e4 => hK m2 fr2 h2 a2 w2 (hag.trans e1 hn) (Nat.le_trans hn e2) e3 e4
     refine wpIn_op (stepOp_nodefer hst) ?_
     rcases hrun with hrun | ⟨hrun, rfl⟩ <;> rw [hrun] <;> exact this
theorem alt_find {Q : AFrame → AHeap → Prop} {rest pend : List Nat} {fr : AFrame} {h : AHeap} {j : Nat} : ∀ {t : DT} {cs : List Nat}, j ∈ cs → treeOK ops rest cs t = true → DW P W0 N ops Q t pend fr h → isAlt t = true →
  ∃ pre t' other, (∀ q ∈ pre, q ∈ predsAt ops j) ∧ topOK ops (rest.filter fun x => x != j) t' = true ∧ DW P W0 N ops Q (.ch j pre t' other) pend fr h := by
 intro t
 induction t with
 | done => intro cs _ _ _ ha; cases ha
 | fl i t _ => intro cs _ _ _ ha; cases ha
 | no => intro cs hj ht _ _; simp [treeOK] at ht; subst ht; simp at hj
 | ch i pre t other _ ih =>
  intro cs hj ht dw _
  simp only [treeOK, Bool.and_eq_true] at ht
  obtain ⟨⟨⟨⟨⟨⟨h1, h2⟩, h3⟩, h4⟩, h5⟩, h6⟩, h7⟩ := ht
  by_cases hji : j = i
  ·subst hji
   refine ⟨pre, t, other, fun q hq => ?_, by simp only [topOK, Bool.and_eq_true]; exact ⟨h4, h5⟩, dw⟩
   have := List.all_eq_true.1 h3 q hq
   simpa using this
  ·have hdw : DW P W0 N ops Q other pend fr h := by simp only [DW] at dw; exact dw.2
   exact ih (cs := cs.filter fun x => x != i) (by simp [hj, hji]) h7 hdw h6
theorem draw_main {cx : Cx} {nn : Nat} (ok : DrawOK ops) {Q : AFrame → AHeap → Prop} {K : Exit → Act → World → Prop} : ∀ (fuel : Nat) (t : DT) (rest pend : List Nat) (fr : AFrame) (h : AHeap) (listed : Array Bool) (m : CMap) (a : Act) (w : World),
  cnt ops.size listed = fuel → listed.size = ops.size → Inv P N ops rest pend fr h listed → topOK ops rest t = true → DW P W0 N ops Q t pend fr h → St W0 cx N m (delAll fr (holesOf ops pend listed)) h a w →
  (∀ m' fr' h' a' w', Agree h.next m m' → h.next ≤ h'.next → St W0 cx N m' fr' h' a' w' → Q fr' h' → K .normal a' w') →
  wpAnyIn (wideR cx.ro) nn P .any ops K fuel listed a w := by
 intro fuel
 induction fuel with
 | zero =>
  intro t
  induction t with
  | no => intro rest pend fr h listed m a w hc hs iv ht; simp [topOK, isTop] at ht
  | done =>
   intro rest pend fr h listed m a w hc hs iv ht dw s hK
   have hall := cnt_zero hc
   have hh : holesOf ops pend listed = [] := by
    apply List.eq_nil_iff_forall_not_mem.2
    intro t ht
    obtain ⟨p, hp, hu, _⟩ := mem_holes.1 ht
    rw [hall p (iv.inPend p hp).1] at hu; cases hu
   rw [hh] at s
   refine ⟨?_, hK m fr h a w (.refl _ _) (Nat.le_refl _) s dw⟩
   apply List.eq_nil_iff_forall_not_mem.2
   intro i hi
   obtain ⟨h1, h2, _⟩ := ready_spec hi
   rw [hall i h2] at h1; cases h1
  | fl i t _ =>
   intro rest pend fr h listed m a w hc hs iv ht dw s hK
   have hall := cnt_zero hc
   simp only [topOK, treeOK, Bool.and_eq_true, List.contains_eq_mem, decide_eq_true_eq] at ht
   have := iv.inRest i ht.2.1.1.1.1
   rw [hall i this.2] at this; cases this.1
  | ch i pre t other _ _ =>
   intro rest pend fr h listed m a w hc hs iv ht dw s hK
   have hall := cnt_zero hc
   simp only [topOK, treeOK, Bool.and_eq_true, List.contains_eq_mem, decide_eq_true_eq] at ht
   have := iv.inRest i ht.2.1.1.1.1.1.1
   rw [hall i this.2] at this; cases this.1
 | succ fuel ih =>
  intro t
  induction t with
  | no => intro rest pend fr h listed m a w hc hs iv ht; simp [topOK, isTop] at ht
  | done =>
   intro rest pend fr h listed m a w hc hs iv ht dw s hK
   have hrest : rest = [] := by simp only [topOK, treeOK, Bool.and_eq_true] at ht; simpa using ht.2
   refine ⟨fun hr => ?_, fun j hj => ?_⟩
   ·have hall := ready_nil ok hs hr
    have : cnt ops.size listed = 0 := List.countP_eq_zero.2 fun i hi => by rw [hall i (List.mem_range.1 hi)]; simp
    omega
   ·obtain ⟨hu, hlt, _⟩ := ready_spec hj
    rcases iv.every j hlt hu with hjp | hjr
    ·exact draw_pend ih hc hs iv ht dw s hK hj hjp
    ·rw [hrest] at hjr; simp at hjr
  | fl i t iht =>
   intro rest pend fr h listed m a w hc hs iv ht dw s hK
   simp only [topOK, treeOK, Bool.and_eq_true, List.contains_eq_mem, decide_eq_true_eq] at ht
   obtain ⟨_, ⟨⟨⟨hir, hfl⟩, hpr⟩, htop⟩, htree⟩ := ht
   have htop2 : topOK ops (rest.filter fun x => x != i) t = true := by simp only [topOK, Bool.and_eq_true]; exact ⟨htop, htree⟩
   have hord2 : ∀ p ∈ predsAt ops i, p ∉ rest := fun p hp => by have := List.all_eq_true.1 hpr p hp; simpa using this
   have hi := iv.inRest i hir
   have ho : ops[i]? = some ops[i] := Array.getElem?_eq_getElem hi.2
   generalize ops[i]'hi.2 = o at ho
   have hnw : noWar ops i = true := by simp only [floatAt, ho, Bool.and_eq_true] at hfl; exact hfl.2
   have hweak : ∀ {fr' : AFrame} {v : Value}, putDst N fr o.dst v = some fr' → St W0 cx N m (delAll fr' (holesOf ops (i :: pend) listed)) h a w := by
    intro fr' v hp
    obtain ⟨hg1, hg2⟩ := putDst_get hp
    refine ⟨s.rel, fun k u hk => s.frame k u ?_, s.defers, s.size, s.round⟩
    rw [delAll_get] at hk ⊢
    split at hk
    ·cases hk
    ·rename_i hnk
     have hdk : o.dst ≠ some k := fun e => hnk (mem_holes.2 ⟨i, by simp, hi.1, by rw [dstAt_of ho]; exact e⟩)
     rw [if_neg, ← hg1 k hdk, hk]
     intro hh
     obtain ⟨p, hp', hup, hdp⟩ := mem_holes.1 hh
     exact hnk (mem_holes.2 ⟨p, by simp [hp'], hup, hdp⟩)
   simp only [DW, ho] at dw
   split at dw
   ·exact dw.elim
   ·rename_i hw
    split at dw
    ·exact dw.elim
    ·rename_i fr' hp
     obtain ⟨hg1, hg2⟩ := putDst_get hp
     have hself : ∀ t ∈ o.looksAt ops, fr'.get t = fr.get t := fun t ht => hg1 t fun e => (noWar_spec hnw (by rw [dstAt_of ho]; exact e) hi.2 (by rw [looksAtI_of ho]; exact ht)).1 rfl
     have hH : Holds P ops fr' h i := by
      unfold Holds; rw [ho]; simp only []; rw [wantA_congr hself, hw]; exact fun d hd => (hg2 d hd).1
     exact iht _ (i :: pend) fr' h listed m a w hc hs (iv.absorb ok hir hord2 ho hnw hp hH) htop2 dw (hweak hp) hK
   ·rename_i hw
    split at dw
    ·exact dw.elim
    ·rename_i v h' hst
     obtain ⟨rfl, dw⟩ := dw
     split at dw
     ·exact dw.elim
     ·rename_i fr' hp
      obtain ⟨hg1, hg2⟩ := putDst_get hp
      have hself : ∀ t ∈ o.looksAt ops, fr'.get t = fr.get t := fun t ht => hg1 t fun e => (noWar_spec hnw (by rw [dstAt_of ho]; exact e) hi.2 (by rw [looksAtI_of ho]; exact ht)).1 rfl
      have hH : Holds P ops fr' h' i := by
       unfold Holds; rw [ho]; simp only []; rw [wantA_congr hself, hw]; exact ⟨v, by rw [stepOp_congr hself]; exact hst, fun d hd => (hg2 d hd).1⟩
      exact iht _ (i :: pend) fr' h' listed m a w hc hs (iv.absorb ok hir hord2 ho hnw hp hH) htop2 dw (hweak hp) hK
  | ch i pre t other _ _ =>
   intro rest pend fr h listed m a w hc hs iv ht dw s hK
   refine ⟨fun hr => ?_, fun j hj => ?_⟩
   ·have hall := ready_nil ok hs hr
    have : cnt ops.size listed = 0 := List.countP_eq_zero.2 fun i hi => by rw [hall i (List.mem_range.1 hi)]; simp
    omega
   ·obtain ⟨hu, hlt, oj, hoj, hpre⟩ := ready_spec hj
    rcases iv.every j hlt hu with hjp | hjr
    ·exact draw_pend ih hc hs iv ht dw s hK hj hjp
    ·have hcand : j ∈ cands ops rest := mem_cands.2 ⟨hjr, fun p hp hpr => by
      rw [predsAt_of hoj] at hp
      have := (iv.inRest p hpr).1
      rw [hpre p hp] at this; cases this⟩
     have htree := ht
     simp only [topOK, Bool.and_eq_true] at htree
     obtain ⟨pre', t', other', h1, h2, h3⟩ := alt_find hcand htree.2 dw rfl
     exact draw_do ok ih hc hs iv hjr h1 h2 h3 s hK hj
theorem AWP.draw {i : Nat} {ol : List Oper} {Q : Exit → AFrame → AHeap → Prop} (hm : P.follows .mixedOrders = true) (t : DT) (hok : drawOK ol.toArray t = true)
  (hd : DW P W0 N ol.toArray (Q .normal) t [] fr h) : AWP P W0 N (.region i ol.toArray true) fr h Q := by
 intro cx nn m a w s K hK
 obtain ⟨ok, htree⟩ := DrawOK.of hok
 refine wpIn_region_any hm ?_
 have hnl : ∀ j, j < ol.toArray.size → unl (Array.replicate ol.toArray.size false) j = true := by
  intro j hj
  have hj' : j < ol.length := by simpa using hj
  simp [unl, Array.getD_eq_getD_getElem?, hj']
 have s0 : St W0 cx N m (delAll fr (holesOf ol.toArray [] (Array.replicate ol.toArray.size false))) h a w.drew := ⟨s.rel.drew, s.frame, s.defers, s.size, s.round⟩
 refine draw_main ok ol.toArray.size t (List.range ol.toArray.size) [] fr h (Array.replicate ol.toArray.size false) m a w.drew ?_ (by simp) ?_ htree hd s0 ?_
 ·unfold cnt
  rw [List.countP_eq_length.2 (fun j hj => hnl j (List.mem_range.1 hj))]
  simp
 ·refine ⟨fun j hj _ => .inr (List.mem_range.2 hj), fun j hj => ⟨hnl j (List.mem_range.1 hj), List.mem_range.1 hj⟩, fun p hp => by simp at hp, fun p hp => by simp at hp⟩
 ·intro m' fr' h' a' w' hag hn s' hq
  exact hK [] .normal m' fr' h' a' w' hag hn s'.nil hq
end Go.Fw
