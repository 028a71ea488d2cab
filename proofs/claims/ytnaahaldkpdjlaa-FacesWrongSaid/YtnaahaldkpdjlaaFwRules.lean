/- A text of the proof. -/
import Derived.Test.YtnaahaldkpdjlaaFwStep
import Derived.TacticsIn
import Derived.RangeFuncRecord
set_option linter.unusedSimpArgs false
set_option linter.unusedVariables false
namespace Go.Fw
structure Cx where
 ex : List (Nat × Obj)
 ds : List Deferred
 ro : Option Nat
def mkOf (b : Nat) : Deferred := { target := .collected b, args := #[] }
def prOf (b : Nat) : Nat × Obj := (b, .deferred (some []))
def keepN : Option Nat → List Nat → List Nat
 | none, l => l
 | some _, _ => []
theorem keepN_app (r : Option Nat) (a b : List Nat) : keepN r (a ++ b) = keepN r a ++ keepN r b := by cases r <;> rfl
theorem keepN_nil (r : Option Nat) : keepN r [] = [] := by cases r <;> rfl
def Cx.more (c : Cx) (new : List Nat) : Cx := { ex := (keepN c.ro new).map prOf ++ c.ex, ds := (keepN c.ro new).map mkOf ++ c.ds, ro := c.ro }
theorem Cx.more_nil (c : Cx) : c.more [] = c := by simp [Cx.more, keepN_nil]
theorem Cx.more_more (c : Cx) (n n' : List Nat) : (c.more n).more n' = c.more (n' ++ n) := by simp [Cx.more, keepN_app]
structure St (W0 : Base) (cx : Cx) (N : Nat) (m : CMap) (fr : AFrame) (h : AHeap) (a : Act) (w : World) : Prop where
 rel : Rel (W0.add cx.ex) m h w
 frame : FR h.next m fr a.tmps
 defers : a.defers = cx.ds
 size : a.tmps.size = N
 round : ∀ l, cx.ro = some l → ∃ r, (l, Obj.loop r) ∈ cx.ex ++ W0.rw
theorem St.nil {W0 : Base} {cx : Cx} {N : Nat} {m : CMap} {fr : AFrame} {h : AHeap} {a : Act} {w : World} (s : St W0 cx N m fr h a w) : St W0 (cx.more []) N m fr h a w := by rw [Cx.more_nil]; exact s
def wideR (ro : Option Nat) : Fence := { Fence.wide with round := ro }
theorem callsIn_wideR {ro : Option Nat} {n : Nat} {P : Program} {f : FuncId} {args : Array Value} {w : World} {R : Ending → World → Prop} (hc : Calls P f args w R) : CallsIn (wideR ro) n P f args w R := callsIn_wide.2 hc
theorem wpIn_op {ro : Option Nat} {n : Nat} {P : Program} {o : Oper} {a : Act} {w : World} {K : Act → World → Prop} {Q : Exit → Act → World → Prop} (hd : ∀ c, o.op ≠ .defer c) (hu : o.uponIn (wideR ro) n P a K Q ((execOp a.eval o).run P w)) : o.wpIn (wideR ro) n P a w K Q :=
 ⟨fun _ _ => trivial, by rw [Oper.semAt_eq _ _ _ hd]; exact hu⟩
theorem stepOp_nodefer {P : Program} {fr : AFrame} {h : AHeap} {o : Oper} {x : Value × AHeap} (e : stepOp P fr h o = some x) : ∀ c, o.op ≠ .defer c := by
 intro c hc
 unfold stepOp at e
 rw [hc] at e
 cases e
def AOps (P : Program) (W0 : Base) (N : Nat) (ops : Array Oper) (l : List Oper) (fr : AFrame) (h : AHeap) (Q : AFrame → AHeap → Prop) : Prop :=
 ∀ (cx : Cx) nn m a w, St W0 cx N m fr h a w → ∀ K : Exit → Act → World → Prop,
  (∀ m' fr' h' a' w', Agree h.next m m' → h.next ≤ h'.next → St W0 cx N m' fr' h' a' w' → Q fr' h' → K .normal a' w') → wpListIn (wideR cx.ro) nn P ops K l a w
def AWP (P : Program) (W0 : Base) (N : Nat) (c : Code) (fr : AFrame) (h : AHeap) (Q : Exit → AFrame → AHeap → Prop) : Prop :=
 ∀ (cx : Cx) nn m a w, St W0 cx N m fr h a w → ∀ K : Exit → Act → World → Prop,
  (∀ new e m' fr' h' a' w', Agree h.next m m' → h.next ≤ h'.next → St W0 (cx.more new) N m' fr' h' a' w' → Q e fr' h' → K e a' w') → c.wpIn (wideR cx.ro) nn P K a w
def AC (P : Program) (W0 : Base) (f : FuncId) (args : List Value) (h : AHeap) (R : Value → AHeap → Prop) : Prop :=
 ∀ ex m w args', Rel (W0.add ex) m h w → VRs h.next m args args' →
  Calls P f args'.toArray w (fun e w' => ∃ v v' m' h', e = .returned v' ∧ Rel (W0.add ex) m' h' w' ∧ Agree h.next m m' ∧ h.next ≤ h'.next ∧ VR h'.next m' v v' ∧ R v h')
variable {P : Program} {W0 : Base} {N : Nat} {ops : Array Oper} {l : List Oper} {fr : AFrame} {h : AHeap}
theorem AOps.mono {Q Q' : AFrame → AHeap → Prop} (hq : AOps P W0 N ops l fr h Q) (hQ : ∀ fr h, Q fr h → Q' fr h) : AOps P W0 N ops l fr h Q' :=
 fun cx nn m a w s K hK => hq cx nn m a w s K fun m' fr' h' a' w' h1 h2 h3 h4 => hK m' fr' h' a' w' h1 h2 h3 (hQ _ _ h4)
theorem AWP.mono {c : Code} {Q Q' : Exit → AFrame → AHeap → Prop} (hq : AWP P W0 N c fr h Q) (hQ : ∀ e fr h, Q e fr h → Q' e fr h) : AWP P W0 N c fr h Q' :=
 fun cx nn m a w s K hK => hq cx nn m a w s K fun new e m' fr' h' a' w' h1 h2 h3 h4 => hK new e m' fr' h' a' w' h1 h2 h3 (hQ _ _ _ h4)
theorem AC.mono {f : FuncId} {args : List Value} {R R' : Value → AHeap → Prop} (hq : AC P W0 f args h R) (hQ : ∀ v h, R v h → R' v h) : AC P W0 f args h R' :=
 fun ex m w args' r va => (hq ex m w args' r va).mono fun _ _ ⟨v, v', m', h', h1, h2, h3, h4, h5, h6⟩ => ⟨v, v', m', h', h1, h2, h3, h4, h5, hQ _ _ h6⟩
def putDst (N : Nat) (fr : AFrame) (d : Option Tmp) (v : Value) : Option AFrame :=
 match d with
 | none => some fr
 | some d => if d < N then some (fr.set d v) else none
theorem St.put {cx : Cx} {m m' : CMap} {a : Act} {w w' : World} (s : St W0 cx N m fr h a w) {h' : AHeap} (R' : Rel (W0.add cx.ex) m' h' w') (hag : Agree h.next m m') (hn : h.next ≤ h'.next) {d : Option Tmp} {v v' : Value} (hv : VR h'.next m' v v')
  {fr' : AFrame} (hp : putDst N fr d v = some fr') : St W0 cx N m' fr' h' (a.put d v') w' := by
 have F := s.frame.mono hn hag
 cases d with
 | none =>
  simp [putDst] at hp; subst hp
  exact ⟨R', F, s.defers, s.size, s.round⟩
 | some d =>
  simp only [putDst] at hp
  split at hp
  case isFalse => cases hp
  rename_i hdN
  simp at hp; subst hp
  have hd : d < a.tmps.size := by rw [s.size]; exact hdN
  refine ⟨R', fun k u hu => ?_, s.defers, by simpa [Act.put] using s.size, s.round⟩
  rw [Trie.get_set] at hu
  by_cases hk : k = d
  ·subst hk
   rw [if_pos rfl] at hu; injection hu with hu; subst hu
   exact ⟨v', by simp [Act.put, hd], hv⟩
  ·rw [if_neg hk] at hu
   obtain ⟨u', h1, h2⟩ := F k u hu
   exact ⟨u', by simp [Act.put, Ne.symm hk, h1], h2⟩
def wantA (ops : Array Oper) (fr : AFrame) (o : Oper) : Option Bool :=
  match o.guard with
  | none => some true
  | some (j, want) => match (ops[j]?).bind (·.dst) with
    | some d => match fr.get d with
      | some (.bool b) => some (b == want)
      | some (.tuple _) => some false
      | _ => none
    | none => none
theorem wantA_rel {n : Nat} {m : CMap} {a : Act} (F : FR n m fr a.tmps) {o : Oper} {b : Bool} (e : wantA ops fr o = some b) : Region.wanted o (yielded ops a.tmps) = b := by
 unfold wantA at e
 unfold Region.wanted
 cases hg : o.guard with
 | none => rw [hg] at e; simp at e; subst e; rfl
 | some p =>
  obtain ⟨j, want⟩ := p
  rw [hg] at e
  simp only [] at e ⊢
  split at e
  ·rename_i d hd
   split at e
   ·rename_i t ht
    injection e with e; subst e
    obtain ⟨v', h1, h2⟩ := F d _ ht
    have := h2.bool_inv; subst this
    simp only [yielded, hd, Option.bind_some, h1]
    cases t <;> cases want <;> rfl
   ·rename_i vs ht
    injection e with e; subst e
    obtain ⟨v', h1, h2⟩ := F d _ ht
    obtain ⟨vs', rfl, _⟩ := h2.tuple_inv
    simp [yielded, hd, h1]
   ·cases e
  ·cases e
theorem AOps.nil {Q : AFrame → AHeap → Prop} (hq : Q fr h) : AOps P W0 N ops [] fr h Q :=
 fun cx nn m a w s _K hK => wpListIn_nil (hK m fr h a w (.refl _ _) (Nat.le_refl _) s hq)
theorem AOps.step {o : Oper} {Q : AFrame → AHeap → Prop} {v : Value} {h' : AHeap} {fr' : AFrame} (hw : wantA ops fr o = some true) (hs : stepOp P fr h o = some (v, h')) (hp : putDst N fr o.dst v = some fr')
  (hr : AOps P W0 N ops l fr' h' Q) : AOps P W0 N ops (o :: l) fr h Q := by
 intro cx nn m a w s K hK
 obtain ⟨m', v', w', hrun, R', hag, hn, hv⟩ := stepOp_does (P := P) (a := a) s.rel s.frame hs
 have s' := s.put R' hag hn hv hp
 have hrest := hr cx nn m' (a.put o.dst v') w' s' K fun m2 fr2 h2 a2 w2 e1 e2 e3 e4 => hK m2 fr2 h2 a2 w2 (hag.trans e1 hn) (Nat.le_trans hn e2) e3 e4
 unfold wpListIn
 rw [if_pos (wantA_rel s.frame hw)]
 refine wpIn_op (stepOp_nodefer hs) ?_
 rcases hrun with hrun | ⟨hrun, rfl⟩ <;> rw [hrun]
 ·exact hrest
 ·exact hrest
theorem AOps.skip {o : Oper} {Q : AFrame → AHeap → Prop} {fr' : AFrame} (hw : wantA ops fr o = some false) (hp : putDst N fr o.dst undefV = some fr')
  (hr : AOps P W0 N ops l fr' h Q) : AOps P W0 N ops (o :: l) fr h Q := by
 intro cx nn m a w s K hK
 have s' := s.put s.rel (.refl _ _) (Nat.le_refl _) (v := undefV) (v' := undef) (.tuple rfl (fun i v v' h => by simp at h)) hp
 unfold wpListIn
 rw [if_neg (by rw [wantA_rel s.frame hw]; simp)]
 exact ⟨fun _ _ => trivial, hr cx nn m _ w s' K hK⟩
def calleeOf (fr : AFrame) (o : Oper) : Option (FuncId × List Value) :=
  match o.op with
  | .call { callee := .value f, args, .. } => match evalO fr f, evalL fr args.toList with
    | some (.func (.func g) first cap), some vs => some (g, first.toList ++ vs ++ cap.toList)
    | _, _ => none
  | _ => none
structure Good (P : Program) (f : FuncId) (fn : Func) (c : Code) : Prop where
 func : P.funcs[f]? = some fn
 body : fn.body = some c
 name : (fn.name == "runtime.NumGoroutine") = false
theorem AOps.call {o : Oper} {Q : AFrame → AHeap → Prop} {g : FuncId} {args : List Value} {fn : Func} {c : Code} (hw : wantA ops fr o = some true) (hc : calleeOf fr o = some (g, args)) (hg : Good P g fn c)
  (hr : AC P W0 g args h fun v h' => ∃ fr', putDst N fr o.dst v = some fr' ∧ AOps P W0 N ops l fr' h' Q) : AOps P W0 N ops (o :: l) fr h Q := by
 intro cx nn m a w s K hK
 unfold calleeOf at hc
 split at hc
 ·rename_i f as ats hop
  split at hc
  ·rename_i g' first cap vs hf hvs
   injection hc with hc; simp only [Prod.mk.injEq] at hc; obtain ⟨rfl, rfl⟩ := hc
   have hfv := evalO_rel s.frame hf
   have hav := evalL_rel s.frame hvs
   unfold wpListIn
   rw [if_pos (wantA_rel s.frame hw)]
   refine wpIn_op (fun c e => by rw [hop] at e; cases e) ?_
   have key : ∃ first' cap', a.eval f = .func (.func g') first' cap' ∧ VRs h.next m first.toList first'.toList ∧ VRs h.next m cap.toList cap'.toList := by
    generalize a.eval f = x at hfv
    cases hfv with
    | flat hf => simp [Fw.flat] at hf
    | func h1 h2 h3 h4 =>
     exact ⟨_, _, rfl, ⟨by simpa using h1, fun i v v' e e' => h3 i v v' (by simpa using e) (by simpa using e')⟩, ⟨by simpa using h2, fun i v v' e e' => h4 i v v' (by simpa using e) (by simpa using e')⟩⟩
   obtain ⟨first', cap', hfe, hfr, hcr⟩ := key
   have hrun : (execOp a.eval o).run P w = .ok (.enter g' ((first'.toList ++ as.toList.map a.eval ++ cap'.toList).toArray)) w := by
    have e1 : (first' ++ as.map a.eval ++ cap') = (first'.toList ++ as.toList.map a.eval ++ cap'.toList).toArray := by
     apply Array.toList_inj.1; simp
    simp only [execOp, hop, resolve, hfe, Deferred.ofValue, Sem.run_bind, Sem.run_pure, Result.andThen_ok, invoke, callFunc, run_program, hg.func, hg.name, Bool.false_eq_true, if_false, hg.body, Option.isNone_some, e1]
   rw [hrun]
   have hcall := hr cx.ex m w (first'.toList ++ as.toList.map a.eval ++ cap'.toList) s.rel ((hfr.append hav).append hcr)
   refine ⟨(fun hx => by cases hx), callsIn_wideR (hcall.mono ?_)⟩
   rintro e w' ⟨v, v', m', h', rfl, R', hag, hn, hv, fr', hp, hrest⟩
   exact hrest cx nn m' _ w' (s.put R' hag hn hv hp) K fun m2 fr2 h2 a2 w2 e1 e2 e3 e4 => hK m2 fr2 h2 a2 w2 (hag.trans e1 hn) (Nat.le_trans hn e2) e3 e4
  ·cases hc
 ·cases hc
theorem AWP.skip {Q : Exit → AFrame → AHeap → Prop} (hq : Q .normal fr h) : AWP P W0 N .skip fr h Q :=
 fun cx nn m a w s _K hK => wpIn_skip (hK [] .normal m fr h a w (.refl _ _) (Nat.le_refl _) s.nil hq)
theorem AWP.label {i : Nat} {Q : Exit → AFrame → AHeap → Prop} (hq : Q .normal fr h) : AWP P W0 N (.label i) fr h Q :=
 fun cx nn m a w s _K hK => wpIn_label (hK [] .normal m fr h a w (.refl _ _) (Nat.le_refl _) s.nil hq)
theorem AWP.exit {i : Nat} {Q : Exit → AFrame → AHeap → Prop} (hq : Q (.exit i) fr h) : AWP P W0 N (.exit i) fr h Q :=
 fun cx nn m a w s _K hK => wpIn_exit (hK [] (.exit i) m fr h a w (.refl _ _) (Nat.le_refl _) s.nil hq)
theorem AWP.ret {Q : Exit → AFrame → AHeap → Prop} (hq : Q .ret fr h) : AWP P W0 N .ret fr h Q :=
 fun cx nn m a w s _K hK => wpIn_ret (hK [] .ret m fr h a w (.refl _ _) (Nat.le_refl _) s.nil hq)
def seqQ (P : Program) (W0 : Base) (N : Nat) (y : Code) (Q : Exit → AFrame → AHeap → Prop) : Exit → AFrame → AHeap → Prop
 | .normal, fr, h => AWP P W0 N y fr h Q
 | e, fr, h => Q e fr h
theorem AWP.seq {x y : Code} {Q : Exit → AFrame → AHeap → Prop} (hx : AWP P W0 N x fr h (seqQ P W0 N y Q)) : AWP P W0 N (.seq x y) fr h Q := by
 intro cx nn m a w s K hK
 refine wpIn_seq (hx cx nn m a w s _ fun new e m' fr' h' a' w' hag hn s' hq => ?_)
 cases e with
 | normal => exact hq (cx.more new) nn m' a' w' s' K fun new2 e2 m2 fr2 h2 a2 w2 e1 e2' e3 e4 => hK (new2 ++ new) e2 m2 fr2 h2 a2 w2 (hag.trans e1 hn) (Nat.le_trans hn e2') (cx.more_more new new2 ▸ e3) e4
 | _ => exact hK new _ m' fr' h' a' w' hag hn s' hq
theorem AWP.cond {c : Operand} {x y : Code} {t : Bool} {Q : Exit → AFrame → AHeap → Prop} (hc : evalO fr c = some (.bool t)) (ht : t = true → AWP P W0 N x fr h Q) (hf : t = false → AWP P W0 N y fr h Q) :
  AWP P W0 N (.cond c x y) fr h Q := by
 intro cx nn m a w s K hK
 refine wpIn_cond (t := t) (evalO_rel s.frame hc).bool_inv ?_
 cases t with
 | true => exact ht rfl cx nn m a w s K hK
 | false => exact hf rfl cx nn m a w s K hK
def blockQ (i : Nat) (Q : Exit → AFrame → AHeap → Prop) : Exit → AFrame → AHeap → Prop
 | .exit j, fr, h => if j = i then Q .normal fr h else Q (.exit j) fr h
 | e, fr, h => Q e fr h
theorem AWP.block {i : Nat} {c : Code} {Q : Exit → AFrame → AHeap → Prop} (hc : AWP P W0 N c fr h (blockQ i Q)) : AWP P W0 N (.block i c) fr h Q := by
 intro cx nn m a w s K hK
 refine wpIn_block (hc cx nn m a w s _ fun new e m' fr' h' a' w' hag hn s' hq => ?_)
 cases e with
 | exit j =>
  simp only [blockQ] at hq
  simp only [Exit.inBlock]
  split
  ·rename_i hj; rw [if_pos hj] at hq; exact hK _ _ m' fr' h' a' w' hag hn s' hq
  ·rename_i hj; rw [if_neg hj] at hq; exact hK _ _ m' fr' h' a' w' hag hn s' hq
 | _ => exact hK _ _ m' fr' h' a' w' hag hn s' hq
theorem AWP.region {i : Nat} {os : List Oper} {Q : Exit → AFrame → AHeap → Prop} (hr : AOps P W0 N os.toArray os fr h (Q .normal)) : AWP P W0 N (.region i os.toArray false) fr h Q := by
 intro cx nn m a w s K hK
 exact wpIn_region_lit (hr cx nn m a w s K fun m' fr' h' a' w' hag hn s' hq => hK [] .normal m' fr' h' a' w' hag hn s'.nil hq)
def Sub (fr fr' : AFrame) : Prop := ∀ k v, fr.get k = some v → fr'.get k = some v
theorem exists_least (p : Nat → Prop) (hp : ∃ k, p k) : ∃ k, p k ∧ ∀ j, p j → k ≤ j := by
 obtain ⟨k, hk⟩ := hp
 induction k using Nat.strongRecOn with
 | _ k ih =>
  by_cases hx : ∃ j, j < k ∧ p j
  ·obtain ⟨j, hj, hpj⟩ := hx; exact ih j hj hpj
  ·exact ⟨k, hk, fun j hj => Nat.le_of_not_lt fun hlt => hx ⟨j, hlt, hj⟩⟩
def loopQ (I : Nat → AFrame → AHeap → Prop) (k : Nat) (Q : Exit → AFrame → AHeap → Prop) : Exit → AFrame → AHeap → Prop
 | .normal, fr, h => ∃ k', k' < k ∧ ∃ fr', Sub fr' fr ∧ I k' fr' h
 | e, fr, h => Q e fr h
theorem AWP.loop {c : Code} {Q : Exit → AFrame → AHeap → Prop} (I : Nat → AFrame → AHeap → Prop) (k0 : Nat) (fr0 : AFrame) (hsub : Sub fr0 fr) (h0 : I k0 fr0 h)
  (hr : ∀ k fr h, I k fr h → AWP P W0 N c fr h (loopQ I k Q)) : AWP P W0 N (.loop c) fr h Q := by
 intro cx nn m a w s K hK
 let J : Nat → Act → World → Prop := fun k a' w' => ∃ new m' fr' h', Agree h.next m m' ∧ h.next ≤ h'.next ∧ St W0 (cx.more new) N m' fr' h' a' w' ∧ I k fr' h'
 let μ : Act → World → Nat := fun a' w' => @dite _ (∃ k, J k a' w') (Classical.propDecidable _) (fun hx => Classical.choose (exists_least _ hx)) (fun _ => 0)
 have hμ : ∀ a' w', (hx : ∃ k, J k a' w') → J (μ a' w') a' w' ∧ ∀ j, J j a' w' → μ a' w' ≤ j := by
  intro a' w' hx
  have : μ a' w' = Classical.choose (exists_least _ hx) := by simp only [μ]; rw [dif_pos hx]
  rw [this]; exact Classical.choose_spec (exists_least _ hx)
 refine wpIn_loop (fun a' w' => ∃ k, J k a' w') μ ⟨k0, [], m, fr0, h, .refl _ _, Nat.le_refl _, St.nil ⟨s.rel, fun k v e => s.frame k v (hsub k v e), s.defers, s.size, s.round⟩, h0⟩ ?_
 intro a1 w1 hx
 obtain ⟨⟨new1, m1, fr1, h1, hag1, hn1, s1, hI⟩, _⟩ := hμ a1 w1 hx
 refine hr _ fr1 h1 hI (cx.more new1) nn m1 a1 w1 s1 _ fun new2 e m2 fr2 h2 a2 w2 hag2 hn2 s2 hq => ?_
 rw [cx.more_more] at s2
 cases e with
 | normal =>
  obtain ⟨k', hk', fr3, hsub3, hI'⟩ := hq
  have hJ : J k' a2 w2 := ⟨_, m2, fr3, h2, hag1.trans hag2 hn1, Nat.le_trans hn1 hn2, ⟨s2.rel, fun k v e => s2.frame k v (hsub3 k v e), s2.defers, s2.size, s2.round⟩, hI'⟩
  exact ⟨⟨k', hJ⟩, Nat.lt_of_le_of_lt ((hμ a2 w2 ⟨k', hJ⟩).2 k' hJ) hk'⟩
 | _ => exact hK _ _ m2 fr2 h2 a2 w2 (hag1.trans hag2 hn1) (Nat.le_trans hn1 hn2) s2 hq
def aresult (P : Program) (fr : AFrame) (h : AHeap) : ResultVar → Option Value
  | .tmp t => fr.get t
  | .cell a t => match fr.get a with
    | some (.pointer (some ad)) => aload P h t ad
    | _ => none
def aresultL (P : Program) (fr : AFrame) (h : AHeap) : List ResultVar → Option (List Value)
  | [] => some []
  | r :: rs => match aresult P fr h r with
    | some v => match aresultL P fr h rs with | some l => some (v :: l) | none => none
    | none => none
def aresults (P : Program) (fr : AFrame) (h : AHeap) (rs : List ResultVar) : Option Value :=
 match aresultL P fr h rs with
 | some [v] => some v
 | some l => some (.tuple l.toArray)
 | none => none
def resOne (tmps : Array Value) : ResultVar → Sem Value
 | .tmp t => Pure.pure (tmps.getD t undef)
 | .cell x t => do loadVar t (← asAddr (tmps.getD x undef))
theorem results_eq (fn : Func) (tmps : Array Value) : results fn tmps = (fn.results.mapM (resOne tmps) >>= fun vs => Pure.pure (if h : vs.size = 1 then vs[0] else .tuple vs)) := by
 unfold results
 congr 2
theorem aresult_rel {cx : Cx} {m : CMap} {a : Act} {w : World} (s : St W0 cx N m fr h a w) {r : ResultVar} {v : Value} (e : aresult P fr h r = some v) :
  ∃ v', (resOne a.tmps r).run P w = .ok v' w ∧ VR h.next m v v' := by
 cases r with
 | tmp t =>
  obtain ⟨v', h1, h2⟩ := s.frame t v e
  exact ⟨v', by simp [resOne, Array.getD_eq_getD_getElem?, h1], h2⟩
 | cell x t =>
  simp only [aresult] at e
  split at e
  ·rename_i ad had
   obtain ⟨v', h1, h2⟩ := s.frame x _ had
   obtain ⟨a', rfl, har⟩ := h2.ptr_inv
   obtain ⟨v'', h3, h4⟩ := s.rel.loadVar (P := P) har e
   exact ⟨v'', by simp [resOne, Array.getD_eq_getD_getElem?, h1, asAddr, h3], h4⟩
  ·cases e
theorem aresultL_rel {cx : Cx} {m : CMap} {a : Act} {w : World} (s : St W0 cx N m fr h a w) : ∀ {rs : List ResultVar} {l : List Value}, aresultL P fr h rs = some l →
  ∃ l', (rs.mapM (resOne a.tmps)).run P w = .ok l' w ∧ VRs h.next m l l'
 | [], l, e => by simp [aresultL] at e; subst e; exact ⟨[], by simp, .nil _ _⟩
 | r :: rs, l, e => by
  simp only [aresultL] at e
  split at e
  ·rename_i v hv
   split at e
   ·rename_i l0 hl
    injection e with e; subst e
    obtain ⟨v', h1, h2⟩ := aresult_rel s hv
    obtain ⟨l', h3, h4⟩ := aresultL_rel s hl
    refine ⟨v' :: l', ?_, .cons h2 h4⟩
    simp only [List.mapM_cons, Sem.run_bind, Sem.run_pure, h1, h3, Result.andThen_ok]
   ·cases e
  ·cases e
theorem aresults_rel {cx : Cx} {m : CMap} {a : Act} {w : World} (s : St W0 cx N m fr h a w) {fn : Func} {v : Value} (e : aresults P fr h fn.results.toList = some v) :
  ∃ v', (results fn a.tmps).run P w = .ok v' w ∧ VR h.next m v v' := by
 unfold aresults at e
 have key : ∀ l, aresultL P fr h fn.results.toList = some l → ∃ l', (results fn a.tmps).run P w = .ok (if hx : l'.toArray.size = 1 then l'.toArray[0] else .tuple l'.toArray) w ∧ VRs h.next m l l' := by
  intro l hl
  obtain ⟨l', h1, h2⟩ := aresultL_rel s hl
  refine ⟨l', ?_, h2⟩
  rw [results_eq, Array.mapM_eq_mapM_toList, map_eq_pure_bind]
  simp only [Sem.run_bind]
  rw [h1]
  rfl
 split at e
 ·rename_i u hl
  injection e with e; subst e
  obtain ⟨l', h1, h2⟩ := key _ hl
  match l', h2 with
  | [v'], h2 => exact ⟨v', h1, h2.2 0 u v' rfl rfl⟩
  | [], h2 | _ :: _ :: _, h2 => simp [VRs] at h2
 ·rename_i l hne hl
  injection e with e; subst e
  obtain ⟨l', h1, h2⟩ := key _ hl
  refine ⟨.tuple l'.toArray, ?_, .tuple_list (by simpa using h2)⟩
  rw [h1]
  have : ¬ (l'.toArray.size = 1) := by
   intro hx
   have hlen : l.length = 1 := by rw [h2.1]; simpa using hx
   match l, hlen with
   | [u], _ => exact hne u rfl
  rw [dif_neg this]
 ·cases e
def argFrom (k : Nat) (fr : AFrame) : List Value → AFrame
 | [] => fr
 | v :: r => argFrom (k + 1) (fr.set k v) r
def argFrame (args : List Value) : AFrame := argFrom 0 .leaf args
theorem argFrom_get : ∀ (args : List Value) (k : Nat) (fr : AFrame) (j : Nat) (v : Value), (argFrom k fr args).get j = some v → (fr.get j = some v ∧ (j < k ∨ k + args.length ≤ j)) ∨ (k ≤ j ∧ args[j - k]? = some v)
 | [], k, fr, j, v, h => by simp only [argFrom] at h; by_cases hj : j < k; exact .inl ⟨h, .inl hj⟩; exact .inl ⟨h, .inr (by simp; omega)⟩
 | u :: r, k, fr, j, v, h => by
  simp only [argFrom] at h
  rcases argFrom_get r (k + 1) (fr.set k u) j v h with ⟨h1, h2⟩ | ⟨h1, h2⟩
  ·rw [Trie.get_set] at h1
   by_cases hj : j = k
   ·subst hj; rw [if_pos rfl] at h1; injection h1 with h1; subst h1; exact .inr ⟨Nat.le_refl _, by simp⟩
   ·rw [if_neg hj] at h1
    refine .inl ⟨h1, ?_⟩
    rcases h2 with h2 | h2
    ·exact .inl (by omega)
    ·exact .inr (by simp; omega)
  ·refine .inr ⟨by omega, ?_⟩
   rw [show j - k = (j - (k + 1)) + 1 from by omega]; simpa using h2
theorem Rel.turn {m : CMap} {w : World} {W : World} {n0 : Nat} {m0 : CMap} {A Z : List (Nat × Obj)} {b : Nat} {o : Obj} (o' : Obj) (R : Rel ⟨W, A ++ (b, o) :: Z, n0, m0⟩ m h w) : Rel ⟨W, A ++ (b, o') :: Z, n0, m0⟩ m h (w.putObj b o') := by
 have hin : (b, o) ∈ A ++ (b, o) :: Z := by simp
 have hb : b < w.heap.size := R.prot.lt hin
 have hhi : W.heap.size ≤ b := R.prot.hi b o hin
 have hd : ((A ++ (b, o) :: Z).map (·.1)).Nodup := R.prot.dist
 have hd2 : ((A ++ (b, o') :: Z).map (·.1)).Nodup := by simpa using hd
 have hne : ∀ x y, (x, y) ∈ A ++ (b, o') :: Z → (x = b ∧ y = o') ∨ (x ≠ b ∧ (x, y) ∈ A ++ (b, o) :: Z) := by
  intro x y hx
  simp only [List.map_append, List.map_cons, List.nodup_append, List.nodup_cons, List.mem_map, List.mem_cons] at hd
  obtain ⟨_, ⟨hz, _⟩, ha⟩ := hd
  simp only [List.mem_append, List.mem_cons, Prod.mk.injEq] at hx ⊢
  rcases hx with hx | hx | hx
  ·exact .inr ⟨fun e => ha x ⟨_, hx, rfl⟩ b (.inl rfl) e, .inl hx⟩
  ·exact .inl hx
  ·exact .inr ⟨fun e => hz ⟨_, hx, e⟩, .inr (.inr hx)⟩
 have hap : ∀ i, h.own i ≠ none → (m i).blk ≠ b := fun i hi => R.prot.apart b o i hin hi
 refine ⟨by simpa using R.size, fun k hk => ?_, R.ext, R.lt, R.new, fun i x hi => ?_, R.inj, R.os, R.output, R.tape, ⟨R.prot.agree, R.prot.next, hd2, fun x y hx => ?_, fun x y hx => ?_, fun x y i hx hi => ?_⟩⟩
 ·rw [World.putObj_heap_other (by have : k < W.heap.size := hk; omega)]; exact R.old k hk
 ·exact Rel.mono_obj (R.own i x hi) (Nat.le_refl _) (Agree.refl _ _) (World.putObj_heap_other (hap i (by rw [hi]; simp)))
 ·rcases hne x y hx with ⟨rfl, rfl⟩ | ⟨_, hx'⟩
  ·exact hhi
  ·exact R.prot.hi x y hx'
 ·rcases hne x y hx with ⟨rfl, rfl⟩ | ⟨hxb, hx'⟩
  ·exact World.putObj_heap_same hb
  ·rw [World.putObj_heap_other hxb]; exact R.prot.held x y hx'
 ·rcases hne x y hx with ⟨rfl, rfl⟩ | ⟨_, hx'⟩
  ·exact hap i hi
  ·exact R.prot.apart x y i hx' hi
theorem Rel.rebase {m : CMap} {w : World} {W : World} {rw : List (Nat × Obj)} {n0 n1 : Nat} {m0 m1 : CMap} (R : Rel ⟨W, rw, n0, m0⟩ m h w) (ha : Agree n1 m1 m) (hn : n1 ≤ h.next) : Rel ⟨W, rw, n1, m1⟩ m h w :=
 ⟨R.size, R.old, R.ext, R.lt, R.new, R.own, R.inj, R.os, R.output, R.tape, ⟨ha, hn, R.prot.dist, R.prot.hi, R.prot.held, R.prot.apart⟩⟩
theorem Rel.less {m : CMap} {w : World} {W : World} {n0 : Nat} {m0 : CMap} {x : Nat × Obj} {Z : List (Nat × Obj)} (R : Rel ⟨W, x :: Z, n0, m0⟩ m h w) : Rel ⟨W, Z, n0, m0⟩ m h w :=
 ⟨R.size, R.old, R.ext, R.lt, R.new, R.own, R.inj, R.os, R.output, R.tape, ⟨R.prot.agree, R.prot.next, by have := R.prot.dist; simp only [List.map_cons, List.nodup_cons] at this; exact this.2, fun b o hb => R.prot.hi b o (.tail _ hb), fun b o hb => R.prot.held b o (.tail _ hb), fun b o i hb hi => R.prot.apart b o i (.tail _ hb) hi⟩⟩
theorem leaves_marks {fn : Func} {tmps : Array Value} {m : CMap} {R : Ending → World → Prop} {ex : List (Nat × Obj)} : ∀ (new : List Nat) {w : World}, Rel (W0.add (new.map prOf ++ ex)) m h w →
  (∀ w', Rel (W0.add ex) m h w' → LeavesInM Fence.wide 0 P fn tmps R [] .returning w') → LeavesInM Fence.wide 0 P fn tmps R (new.map mkOf) .returning w
 | [], w, r, hk => hk w r
 | b :: new, w, r, hk => by
  refine ⟨by simp, .inl ⟨b, _, rfl, run_takeDeferred (ds := []) (r.prot.held b _ (by simp [Base.add, prOf])), leaves_marks new ?_ hk⟩⟩
  have r2 : Rel ⟨W0.toWorld, [] ++ (b, .deferred (some [])) :: ((new.map prOf ++ ex) ++ W0.rw), W0.n0, W0.m0⟩ m h w := by simpa [Base.add, prOf] using r
  exact (r2.turn (.deferred none)).less
theorem AC.body {f : FuncId} {args : List Value} {fn : Func} {c : Code} {R : Value → AHeap → Prop} (hg : Good P f fn c) (hlen : args.length ≤ fn.ntmps)
  (hc : AWP P W0 fn.ntmps c (argFrame args) h fun e fr' h' => (e = .normal ∨ e = .ret) ∧ ∃ v, aresults P fr' h' fn.results.toList = some v ∧ R v h') : AC P W0 f args h R := by
 intro ex m w args' r va
 refine callsIn_wide.1 (callsIn_of_wp_marks (n := 0) hg.func hg.body trivial ?_)
 have s : St W0 ⟨ex, [], none⟩ fn.ntmps m (argFrame args) h { tmps := args'.toArray ++ Array.replicate (fn.ntmps - args'.toArray.size) undef, defers := [] } w := by
  refine ⟨r, fun k v hv => ?_, rfl, ?_, fun l e => by cases e⟩
  ·rcases argFrom_get args 0 .leaf k v hv with ⟨h1, _⟩ | ⟨_, h2⟩
   ·simp [Trie.get] at h1
   ·obtain ⟨v', h3, h4⟩ := va.get (i := k) (by simpa using h2)
    refine ⟨v', ?_, h4⟩
    have : k < args'.length := (List.getElem?_eq_some_iff.1 h3).1
    rw [Array.getElem?_append_left (by simpa using this)]
    simpa using h3
  ·have := va.1; simp; omega
 refine hc ⟨ex, [], none⟩ 0 m _ w s _ fun new e m' fr' h' a' w' hag hn s' hq => ?_
 obtain ⟨he, v, hv, hR⟩ := hq
 have sw : ∀ w2, Rel (W0.add ex) m' h' w2 → St W0 ⟨ex, [], none⟩ fn.ntmps m' fr' h' { tmps := a'.tmps, defers := [] } w2 := fun w2 r2 => ⟨r2, s'.frame, rfl, s'.size, fun l e => by cases e⟩
 have hl : LeavesInM Fence.wide 0 P fn a'.tmps (fun e w' => ∃ v v' m' h', e = .returned v' ∧ Rel (W0.add ex) m' h' w' ∧ Agree h.next m m' ∧ h.next ≤ h'.next ∧ VR h'.next m' v v' ∧ R v h') a'.defers .returning w' := by
  have hd : a'.defers = new.map mkOf := by simpa [Cx.more, keepN] using s'.defers
  have hr : Rel (W0.add (new.map prOf ++ ex)) m' h' w' := by simpa [Cx.more, keepN] using s'.rel
  rw [hd]
  refine leaves_marks new hr fun w2 r2 => ?_
  obtain ⟨v', h1, h2⟩ := aresults_rel (fn := fn) (sw w2 r2) hv
  exact ⟨v', h1, v, v', m', h', rfl, r2, hag, hn, h2, hR⟩
 rcases he with rfl | rfl <;> exact hl
end Go.Fw
