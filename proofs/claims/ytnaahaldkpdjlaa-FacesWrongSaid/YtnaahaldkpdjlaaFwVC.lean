/- A text of the proof. -/
import Derived.Test.YtnaahaldkpdjlaaFwDraw
import Derived.Test.YtnaahaldkpdjlaaFwRound
set_option linter.unusedSimpArgs false
set_option linter.unusedVariables false
namespace Go.Fw
variable {P : Program} {W0 : Base} {N : Nat} {ops : Array Oper} {fr : AFrame} {h : AHeap}
def onO {α : Type} (x : Option α) (f : α → Prop) : Prop :=
 match x with
 | some a => f a
 | none => False
def onB (b : Bool) (p q : Prop) : Prop :=
 match b with
 | true => p
 | false => q
theorem onB_true (p q : Prop) : onB true p q = p := rfl
theorem onO_iff {α : Type} {x : Option α} {f : α → Prop} : onO x f ↔ ∃ a, x = some a ∧ f a := by
 cases x <;> simp [onO]
def RCall (P : Program) (W0 : Base) (N : Nat) (o : Oper) (fr : AFrame) (h : AHeap) (K : AFrame → AHeap → Prop) : Prop :=
 ∃ g args fn c, calleeOf fr o = some (g, args) ∧ Good P g fn c ∧ AC P W0 g args h fun v h' => onO (putDst N fr o.dst v) fun fr' => K fr' h'
def RCallY (P : Program) (W0 : Base) (N : Nat) (o : Oper) (fr : AFrame) (h : AHeap) (K : AFrame → AHeap → Prop) : Prop :=
 RCall P W0 N o fr h K ∨ ∃ lp args, yieldOf fr o = some (lp, args) ∧ AY P W0 lp args h fun v h' => onO (putDst N fr o.dst v) fun fr' => K fr' h'
def ROps (P : Program) (W0 : Base) (N : Nat) (ops : Array Oper) (Q : AFrame → AHeap → Prop) : List Oper → AFrame → AHeap → Prop
 | [], fr, h => Q fr h
 | o :: r, fr, h =>
  onO (wantA ops fr o) fun w =>
   onB w
    (onB (isCall o) (RCallY P W0 N o fr h (ROps P W0 N ops Q r))
     (onO (stepOp P fr h o) fun p => onO (putDst N fr o.dst p.1) fun fr' => ROps P W0 N ops Q r fr' p.2))
    (onO (putDst N fr o.dst undefV) fun fr' => ROps P W0 N ops Q r fr' h)
theorem ROps.sound {Q : AFrame → AHeap → Prop} : ∀ {l : List Oper} {fr : AFrame} {h : AHeap}, ROps P W0 N ops Q l fr h → AOps P W0 N ops l fr h Q
 | [], fr, h, q => .nil q
 | o :: r, fr, h, q => by
  simp only [ROps] at q
  obtain ⟨w, hw, q⟩ := onO_iff.1 q
  cases w with
  | false =>
   obtain ⟨fr', hp, q⟩ := onO_iff.1 q
   exact .skip hw hp (ROps.sound q)
  | true =>
   simp only [onB_true] at q
   cases hc : isCall o with
   | true =>
    rw [hc] at q
    rcases q with ⟨g, args, fn, c, hcl, hg, ha⟩ | ⟨lp, args, hy, ha⟩
    ·exact .call hw hcl hg (ha.mono fun v h' hr => let ⟨fr', hp, hr⟩ := onO_iff.1 hr; ⟨fr', hp, ROps.sound hr⟩)
    ·exact .yield hw hy (ha.mono fun v h' hr => let ⟨fr', hp, hr⟩ := onO_iff.1 hr; ⟨fr', hp, ROps.sound hr⟩)
   | false =>
    rw [hc] at q
    obtain ⟨⟨v, h'⟩, hs, q⟩ := onO_iff.1 q
    obtain ⟨fr', hp, q⟩ := onO_iff.1 q
    exact .step hw hs hp (ROps.sound q)
def WF (h : AHeap) : Prop := ∀ i, h.own i ≠ none → i < h.next
theorem AC.wf {f : FuncId} {args : List Value} {R : Value → AHeap → Prop} (hc : WF h → AC P W0 f args h R) : AC P W0 f args h R :=
 fun ex m w args' r va => hc r.lt ex m w args' r va
theorem AWP.wf {c : Code} {Q : Exit → AFrame → AHeap → Prop} (hc : WF h → AWP P W0 N c fr h Q) : AWP P W0 N c fr h Q :=
 fun cx nn m a w s K hK => hc s.rel.lt cx nn m a w s K hK
theorem AC.post {f : FuncId} {args : List Value} {R : Value → AHeap → Prop} (hc : AC P W0 f args h R) : AC P W0 f args h fun v h' => WF h' ∧ R v h' :=
 fun ex m w args' r va => (hc ex m w args' r va).mono fun _ _ ⟨v, v', m', h', h1, h2, h3, h4, h5, h6⟩ => ⟨v, v', m', h', h1, h2, h3, h4, h5, h2.lt, h6⟩
theorem call_intro {o : Oper} {g : FuncId} {args : List Value} {fn : Func} {c : Code} {R : Value → AHeap → Prop} {K : AFrame → AHeap → Prop} (hc : calleeOf fr o = some (g, args)) (hg : Good P g fn c) (ha : AC P W0 g args h R)
  (hk : ∀ v h', WF h' → R v h' → onO (putDst N fr o.dst v) fun fr' => K fr' h') : RCall P W0 N o fr h K :=
 ⟨g, args, fn, c, hc, hg, ha.post.mono fun v h' ⟨hw, hr⟩ => hk v h' hw hr⟩
def vseq (y : AFrame → AHeap → Prop) (Q : Exit → AFrame → AHeap → Prop) : Exit → AFrame → AHeap → Prop
 | .normal, fr, h => y fr h
 | e, fr, h => Q e fr h
def onV (x : Option Value) (p q : Prop) : Prop :=
 match x with
 | some (.bool b) => onB b p q
 | _ => False
def VC (P : Program) (W0 : Base) (N : Nat) : Code → (Exit → AFrame → AHeap → Prop) → AFrame → AHeap → Prop
 | .skip, Q, fr, h => Q .normal fr h
 | .ret, Q, fr, h => Q .ret fr h
 | .exit i, Q, fr, h => Q (.exit i) fr h
 | .seq a b, Q, fr, h => VC P W0 N a (vseq (VC P W0 N b Q) Q) fr h
 | .block i a, Q, fr, h => VC P W0 N a (blockQ i Q) fr h
 | .region _ ops false, Q, fr, h => ROps P W0 N ops (Q .normal) ops.toList fr h
 | .cond c a b, Q, fr, h => onV (evalO fr c) (VC P W0 N a Q fr h) (VC P W0 N b Q fr h)
 | c, Q, fr, h => AWP P W0 N c fr h Q
theorem VC.sound : ∀ {c : Code} {Q : Exit → AFrame → AHeap → Prop} {fr : AFrame} {h : AHeap}, VC P W0 N c Q fr h → AWP P W0 N c fr h Q := by
 intro c
 induction c with
 | skip => intro Q fr h q; exact .skip q
 | ret => intro Q fr h q; exact .ret q
 | exit i => intro Q fr h q; exact .exit q
 | seq a b iha ihb =>
  intro Q fr h q
  refine .seq ((iha q).mono fun e fr h hq => ?_)
  cases e with
  | normal => exact ihb hq
  | _ => exact hq
 | block i a iha => intro Q fr h q; exact .block (iha q)
 | region i ops d =>
  intro Q fr h q
  cases d with
  | false =>
   obtain ⟨l⟩ := ops
   exact .region (ROps.sound q)
  | true => exact q
 | cond c a b iha ihb =>
  intro Q fr h q
  simp only [VC] at q
  unfold onV at q
  split at q
  ·rename_i t he
   refine .cond he (fun e => ?_) (fun e => ?_)
   ·subst e; exact iha q
   ·subst e; exact ihb q
  ·exact q.elim
 | loop c => intro Q fr h q; exact q
 | rangeFunc => intro Q fr h q; exact q
 | scope c => intro Q fr h q; exact q
 | label l => intro Q fr h q; exact q
 | goto l => intro Q fr h q; exact q
 | refuse w => intro Q fr h q; exact q
inductive Kt where
 | seq (c : Code)
 | blk (i : Nat)
def KE (P : Program) (W0 : Base) (N : Nat) (R : Exit → AFrame → AHeap → Prop) : List Kt → Exit → AFrame → AHeap → Prop
 | [] => R
 | .seq c :: ks => vseq (VC P W0 N c (KE P W0 N R ks)) (KE P W0 N R ks)
 | .blk i :: ks => blockQ i (KE P W0 N R ks)
def VK (P : Program) (W0 : Base) (N : Nat) (c : Code) (ks : List Kt) (R : Exit → AFrame → AHeap → Prop) (fr : AFrame) (h : AHeap) : Prop := VC P W0 N c (KE P W0 N R ks) fr h
def KN (P : Program) (W0 : Base) (N : Nat) (ks : List Kt) (R : Exit → AFrame → AHeap → Prop) (fr : AFrame) (h : AHeap) : Prop := KE P W0 N R ks .normal fr h
def KX (P : Program) (W0 : Base) (N : Nat) (e : Exit) (ks : List Kt) (R : Exit → AFrame → AHeap → Prop) (fr : AFrame) (h : AHeap) : Prop := KE P W0 N R ks e fr h
def KO (P : Program) (W0 : Base) (N : Nat) (ops : Array Oper) (ks : List Kt) (R : Exit → AFrame → AHeap → Prop) (l : List Oper) (fr : AFrame) (h : AHeap) : Prop := ROps P W0 N ops (KE P W0 N R ks .normal) l fr h
def KO1 (P : Program) (W0 : Base) (N : Nat) (ops : Array Oper) (ks : List Kt) (R : Exit → AFrame → AHeap → Prop) (o : Oper) (l : List Oper) (fr : AFrame) (h : AHeap) (w : Option Bool) : Prop :=
 onO w fun w =>
   onB w
    (onB (isCall o) (RCallY P W0 N o fr h (ROps P W0 N ops (KE P W0 N R ks .normal) l))
     (onO (stepOp P fr h o) fun p => onO (putDst N fr o.dst p.1) fun fr' => ROps P W0 N ops (KE P W0 N R ks .normal) l fr' p.2))
    (onO (putDst N fr o.dst undefV) fun fr' => ROps P W0 N ops (KE P W0 N R ks .normal) l fr' h)
def KO2 (P : Program) (W0 : Base) (N : Nat) (ops : Array Oper) (ks : List Kt) (R : Exit → AFrame → AHeap → Prop) (o : Oper) (l : List Oper) (fr : AFrame) (h : AHeap) (b : Bool) : Prop :=
  onB b (RCallY P W0 N o fr h (ROps P W0 N ops (KE P W0 N R ks .normal) l))
          (onO (stepOp P fr h o) fun p => onO (putDst N fr o.dst p.1) fun fr' => ROps P W0 N ops (KE P W0 N R ks .normal) l fr' p.2)
def KO3 (P : Program) (W0 : Base) (N : Nat) (ops : Array Oper) (ks : List Kt) (R : Exit → AFrame → AHeap → Prop) (o : Oper) (l : List Oper) (fr : AFrame) (x : Option (Value × AHeap)) : Prop :=
 onO x fun p => onO (putDst N fr o.dst p.1) fun fr' => ROps P W0 N ops (KE P W0 N R ks .normal) l fr' p.2
def KO4 (P : Program) (W0 : Base) (N : Nat) (ops : Array Oper) (ks : List Kt) (R : Exit → AFrame → AHeap → Prop) (l : List Oper) (h : AHeap) (x : Option AFrame) : Prop :=
 onO x fun fr' => ROps P W0 N ops (KE P W0 N R ks .normal) l fr' h
def KCall (P : Program) (W0 : Base) (N : Nat) (ops : Array Oper) (ks : List Kt) (R : Exit → AFrame → AHeap → Prop) (o : Oper) (l : List Oper) (fr : AFrame) (h : AHeap) : Prop :=
 RCallY P W0 N o fr h (ROps P W0 N ops (KE P W0 N R ks .normal) l)
def KCond (P : Program) (W0 : Base) (N : Nat) (a b : Code) (ks : List Kt) (R : Exit → AFrame → AHeap → Prop) (fr : AFrame) (h : AHeap) (x : Option Value) : Prop := onV x (VK P W0 N a ks R fr h) (VK P W0 N b ks R fr h)
def KLoop (P : Program) (W0 : Base) (N : Nat) (c : Code) (ks : List Kt) (R : Exit → AFrame → AHeap → Prop) (fr : AFrame) (h : AHeap) : Prop := AWP P W0 N (.loop c) fr h (KE P W0 N R ks)
def KDraw (P : Program) (W0 : Base) (N : Nat) (i : Nat) (ops : Array Oper) (ks : List Kt) (R : Exit → AFrame → AHeap → Prop) (fr : AFrame) (h : AHeap) : Prop := AWP P W0 N (.region i ops true) fr h (KE P W0 N R ks)
theorem beq_dec (a b : Int) : (a == b) = decide (a = b) := by by_cases h : a = b <;> simp [h]
theorem fst_mk {α β : Type} (a : α) (b : β) : (a, b).1 = a := id rfl
theorem snd_mk {α β : Type} (a : α) (b : β) : (a, b).2 = b := id rfl
section eqs
variable {ks : List Kt} {R : Exit → AFrame → AHeap → Prop} {a b : Code} {o : Oper} {i j : Nat} {c : Operand}
theorem VK_skip : VK P W0 N .skip ks R fr h = KN P W0 N ks R fr h := id rfl
theorem VK_ret : VK P W0 N .ret ks R fr h = KX P W0 N .ret ks R fr h := id rfl
theorem VK_exit : VK P W0 N (.exit i) ks R fr h = KX P W0 N (.exit i) ks R fr h := id rfl
theorem VK_seq : VK P W0 N (.seq a b) ks R fr h = VK P W0 N a (.seq b :: ks) R fr h := id rfl
theorem VK_block : VK P W0 N (.block i a) ks R fr h = VK P W0 N a (.blk i :: ks) R fr h := id rfl
theorem VK_region {l : List Oper} : VK P W0 N (.region i (List.toArray l) false) ks R fr h = KO P W0 N (List.toArray l) ks R l fr h := id rfl
theorem VK_draw : VK P W0 N (.region i ops true) ks R fr h = KDraw P W0 N i ops ks R fr h := id rfl
theorem VK_cond : VK P W0 N (.cond c a b) ks R fr h = KCond P W0 N a b ks R fr h (evalO fr c) := id rfl
theorem KCond_true : KCond P W0 N a b ks R fr h (some (.bool true)) = VK P W0 N a ks R fr h := id rfl
theorem KCond_false : KCond P W0 N a b ks R fr h (some (.bool false)) = VK P W0 N b ks R fr h := id rfl
theorem VK_loop : VK P W0 N (.loop a) ks R fr h = KLoop P W0 N a ks R fr h := id rfl
theorem KN_nil : KN P W0 N [] R fr h = R .normal fr h := id rfl
theorem KN_seq : KN P W0 N (.seq a :: ks) R fr h = VK P W0 N a ks R fr h := id rfl
theorem KN_blk : KN P W0 N (.blk i :: ks) R fr h = KN P W0 N ks R fr h := id rfl
theorem KX_ret_nil : KX P W0 N .ret [] R fr h = R .ret fr h := id rfl
theorem KX_ret_seq : KX P W0 N .ret (.seq a :: ks) R fr h = KX P W0 N .ret ks R fr h := id rfl
theorem KX_ret_blk : KX P W0 N .ret (.blk i :: ks) R fr h = KX P W0 N .ret ks R fr h := id rfl
theorem KX_exit_nil : KX P W0 N (.exit j) [] R fr h = R (.exit j) fr h := id rfl
theorem KX_exit_seq : KX P W0 N (.exit j) (.seq a :: ks) R fr h = KX P W0 N (.exit j) ks R fr h := id rfl
theorem KX_exit_blk : KX P W0 N (.exit j) (.blk i :: ks) R fr h = if j = i then KN P W0 N ks R fr h else KX P W0 N (.exit j) ks R fr h := id rfl
theorem KE_normal : KE P W0 N R ks .normal fr h = KN P W0 N ks R fr h := id rfl
theorem KE_ret : KE P W0 N R ks .ret fr h = KX P W0 N .ret ks R fr h := id rfl
theorem KE_exit : KE P W0 N R ks (.exit i) fr h = KX P W0 N (.exit i) ks R fr h := id rfl
theorem KO_nil : KO P W0 N ops ks R [] fr h = KN P W0 N ks R fr h := id rfl
theorem KO_cons {l : List Oper} : KO P W0 N ops ks R (o :: l) fr h = KO1 P W0 N ops ks R o l fr h (wantA ops fr o) := id rfl
theorem KO_app_cons {l l' : List Oper} : KO P W0 N ops ks R (List.append (o :: l) l') fr h = KO P W0 N ops ks R (o :: List.append l l') fr h := id rfl
theorem KO_app_nil {l : List Oper} : KO P W0 N ops ks R (List.append [] l) fr h = KO P W0 N ops ks R l fr h := id rfl
theorem KO1_true {l : List Oper} : KO1 P W0 N ops ks R o l fr h (some true) = KO2 P W0 N ops ks R o l fr h (isCall o) := id rfl
theorem KO1_false {l : List Oper} : KO1 P W0 N ops ks R o l fr h (some false) = KO4 P W0 N ops ks R l h (putDst N fr o.dst undefV) := id rfl
theorem KO2_true {l : List Oper} : KO2 P W0 N ops ks R o l fr h true = KCall P W0 N ops ks R o l fr h := id rfl
theorem KO2_false {l : List Oper} : KO2 P W0 N ops ks R o l fr h false = KO3 P W0 N ops ks R o l fr (stepOp P fr h o) := id rfl
theorem KO3_some {l : List Oper} {v : Value} {h' : AHeap} : KO3 P W0 N ops ks R o l fr (some (v, h')) = KO4 P W0 N ops ks R l h' (putDst N fr o.dst v) := id rfl
theorem KO4_some {l : List Oper} : KO4 P W0 N ops ks R l h (some fr) = KO P W0 N ops ks R l fr h := id rfl
end eqs
theorem VK.sound {c : Code} {R : Exit → AFrame → AHeap → Prop} (q : VK P W0 N c [] R fr h) : AWP P W0 N c fr h R := VC.sound q
theorem KCond.intro {a b : Code} {t : Bool} {ks : List Kt} {R : Exit → AFrame → AHeap → Prop} (ht : t = true → VK P W0 N a ks R fr h) (hf : t = false → VK P W0 N b ks R fr h) : KCond P W0 N a b ks R fr h (some (.bool t)) := by
 cases t
 ·exact hf rfl
 ·exact ht rfl
theorem KO1.intro {o : Oper} {l : List Oper} {t : Bool} {ks : List Kt} {R : Exit → AFrame → AHeap → Prop} (ht : t = true → KO1 P W0 N ops ks R o l fr h (some true)) (hf : t = false → KO1 P W0 N ops ks R o l fr h (some false)) : KO1 P W0 N ops ks R o l fr h (some t) := by
 cases t
 ·exact hf rfl
 ·exact ht rfl
theorem KCall.intro {ks : List Kt} {R : Exit → AFrame → AHeap → Prop} {o : Oper} {l : List Oper} {g : FuncId} {args : List Value} {fn : Func} {c : Code} {Rc : Value → AHeap → Prop} (hc : calleeOf fr o = some (g, args)) (hg : Good P g fn c) (ha : AC P W0 g args h Rc)
  (hk : ∀ v h', WF h' → Rc v h' → KO4 P W0 N ops ks R l h' (putDst N fr o.dst v)) : KCall P W0 N ops ks R o l fr h := .inl (call_intro hc hg ha hk)
theorem KCall.yield {ks : List Kt} {R : Exit → AFrame → AHeap → Prop} {o : Oper} {l : List Oper} {lp : Nat} {args : List Value} {Rc : Value → AHeap → Prop} (hc : yieldOf fr o = some (lp, args)) (ha : AY P W0 lp args h Rc)
  (hk : ∀ v h', WF h' → Rc v h' → KO4 P W0 N ops ks R l h' (putDst N fr o.dst v)) : KCall P W0 N ops ks R o l fr h := .inr ⟨lp, args, hc, ha.post.mono fun v h' ⟨hw, hr⟩ => hk v h' hw hr⟩
def rndQ (R : Value → AHeap → Prop) : Exit → AFrame → AHeap → Prop := fun e _ h => e = .normal ∧ R (.bool true) h
theorem rndQ_normal {R : Value → AHeap → Prop} : rndQ R .normal fr h = R (.bool true) h := by simp [rndQ]
theorem VK.round {ps : Array Tmp} {assign body : Code} {args : List Value} {h1 : AHeap} {R : Value → AHeap → Prop} (q : VK P W0 N (.seq assign body) [] (rndQ R) (putPs ps.toList args fr) h1) : Rnd P W0 N ps fr assign body args h1 R := by
 have q1 : VC P W0 N assign (vseq (VC P W0 N body (KE P W0 N (rndQ R) [])) (KE P W0 N (rndQ R) [])) (putPs ps.toList args fr) h1 := q
 refine (VC.sound q1).mono fun e fr2 h2 hq => ?_
 cases e with
 | normal => exact ⟨rfl, VC.sound hq⟩
 | _ => exact absurd hq.1 (by simp)
theorem VK.rangeFunc {ks : List Kt} {R : Exit → AFrame → AHeap → Prop} {g : Operand} {ps : Array Tmp} {assign body : Code} {gf : FuncId} {fn : Func} {c : Code} {first cap : Array Value}
  (hg : evalO fr g = some (.func (.func gf) first cap)) (hgood : Good P gf fn c) (hps : ps.toList.all (fun p => Nat.blt p N) = true)
  (hit : ∀ (W1 : Base) (lp : Nat), (∀ (args : List Value) (h1 : AHeap) (R : Value → AHeap → Prop), args.length = ps.size → h.next ≤ h1.next → VK P W0 N (.seq assign body) [] (rndQ R) (putPs ps.toList args fr) h1 → AY P W1 lp args h1 R) →
   AC P W1 gf (first.toList ++ [yieldV lp] ++ cap.toList) h fun _ h' => WF h' → KN P W0 N ks R fr h') : VK P W0 N (.rangeFunc g ps assign body) ks R fr h :=
 AWP.rangeFunc hg hgood hps fun W1 lp hy => (hit W1 lp fun args h1 R' hl hn q => hy args h1 R' hl hn (VK.round q)).post.mono fun _ _ ⟨hw, hr⟩ => hr hw
def keep (fr : AFrame) : List Tmp → AFrame
  | [] => .leaf
  | t :: r => match fr.get t with
    | some v => (keep fr r).set t v
    | none => keep fr r
def retQ1 (P : Program) (rs : List ResultVar) (R : Value → AHeap → Prop) (fr : AFrame) (h : AHeap) : Prop :=
 match aresults P fr h rs with
 | some v => R v h
 | none => False
def retQ (P : Program) (rs : List ResultVar) (R : Value → AHeap → Prop) : Exit → AFrame → AHeap → Prop
 | .normal, fr, h => retQ1 P rs R fr h
 | .ret, fr, h => retQ1 P rs R fr h
 | _, _, _ => False
theorem AC.vc {f : FuncId} {args : List Value} {fn : Func} {c : Code} {R : Value → AHeap → Prop} (hg : Good P f fn c) {n : Nat} (hn : fn.ntmps = n) {rs : Array ResultVar} (hrs : fn.results = rs) (hlen : args.length ≤ n)
  (hc : WF h → VK P W0 n c [] (retQ P rs.toList R) (argFrame args) h) : AC P W0 f args h R := by
 subst hn; subst hrs
 refine AC.wf fun hwf => ?_
 replace hc := hc hwf
 refine .body hg hlen ((VK.sound hc).mono fun e fr' h' hq => ?_)
 have key : ∀ fr h, retQ1 P fn.results.toList R fr h → ∃ v, aresults P fr h fn.results.toList = some v ∧ R v h := by
  intro fr h hq
  unfold retQ1 at hq
  split at hq
  ·rename_i v hv; exact ⟨v, hv, hq⟩
  ·exact hq.elim
 cases e with
 | normal => exact ⟨.inl rfl, key _ _ hq⟩
 | ret => exact ⟨.inr rfl, key _ _ hq⟩
 | _ => exact hq.elim
def mkF : List (Nat × Value) → AFrame
 | [] => .leaf
 | (t, v) :: r => (mkF r).set t v
def hasAll (fr : AFrame) : List (Nat × Value) → Prop
 | [] => True
 | (t, v) :: r => fr.get t = some v ∧ hasAll fr r
theorem Sub.mkF {fr : AFrame} : ∀ {l : List (Nat × Value)}, hasAll fr l → Sub (mkF l) fr
 | [], _, k, v, h => by simp [Fw.mkF, Trie.get] at h
 | (t, u) :: r, ha, k, v, h => by
  simp only [Fw.mkF, Trie.get_set] at h
  by_cases hk : k = t
  ·subst hk; rw [if_pos rfl] at h; injection h with h; subst h; exact ha.1
  ·rw [if_neg hk] at h; exact Sub.mkF ha.2 k v h
theorem loop_again {I : Nat → AFrame → AHeap → Prop} {k : Nat} {Q : Exit → AFrame → AHeap → Prop} (k' : Nat) (l : List (Nat × Value)) (hk : k' < k) (hl : hasAll fr l) (hi : I k' (mkF l) h) : loopQ I k Q .normal fr h :=
 ⟨k', hk, _, Sub.mkF hl, hi⟩
theorem loopQ_ret {I : Nat → AFrame → AHeap → Prop} {k : Nat} {Q : Exit → AFrame → AHeap → Prop} : loopQ I k Q .ret fr h = Q .ret fr h := id rfl
theorem loopQ_exit {I : Nat → AFrame → AHeap → Prop} {k i : Nat} {Q : Exit → AFrame → AHeap → Prop} : loopQ I k Q (.exit i) fr h = Q (.exit i) fr h := id rfl
theorem KLoop.intro {c : Code} {ks : List Kt} {R : Exit → AFrame → AHeap → Prop} (I : Nat → AFrame → AHeap → Prop) (k0 : Nat) (l : List (Nat × Value)) (hs : hasAll fr l) (h0 : I k0 (mkF l) h)
  (hr : ∀ k fr h, WF h → I k fr h → VK P W0 N c [] (loopQ I k (KE P W0 N R ks)) fr h) : KLoop P W0 N c ks R fr h :=
 .loop I k0 _ (Sub.mkF hs) h0 fun k fr h hi => AWP.wf fun hw => VC.sound (hr k fr h hw hi)
def RDraw (P : Program) (W0 : Base) (N : Nat) (ops : Array Oper) (Q : AFrame → AHeap → Prop) : DT → List Nat → AFrame → AHeap → Prop
 | .done, _, fr, h => Q fr h
 | .no, _, _, _ => True
 | .fl i t, pend, fr, h =>
  onO ops[i]? fun o => onO (wantA ops fr o) fun w =>
   onB w (onO (stepOp P fr h o) fun p => p.2 = h ∧ onO (putDst N fr o.dst p.1) fun fr' => RDraw P W0 N ops Q t (i :: pend) fr' h)
    (onO (putDst N fr o.dst undefV) fun fr' => RDraw P W0 N ops Q t (i :: pend) fr' h)
 | .ch i pre t other, pend, fr, h =>
  (onO ops[i]? fun o => onO (wantA ops fr o) fun w =>
   onB w
    (onB (isCall o) (RCall P W0 N o fr h fun fr' h' => HoldsAll P ops fr' h' (pend.filter fun p => !pre.contains p) ∧ RDraw P W0 N ops Q t (pend.filter fun p => !pre.contains p) fr' h')
     (onO (stepOp P fr h o) fun p => onO (putDst N fr o.dst p.1) fun fr' => HoldsAll P ops fr' p.2 (pend.filter fun p => !pre.contains p) ∧ RDraw P W0 N ops Q t (pend.filter fun p => !pre.contains p) fr' p.2))
    (onO (putDst N fr o.dst undefV) fun fr' => RDraw P W0 N ops Q t (pend.filter fun p => !pre.contains p) fr' h)) ∧
  RDraw P W0 N ops Q other pend fr h
theorem RDraw.sound {Q : AFrame → AHeap → Prop} : ∀ {t : DT} {pend : List Nat} {fr : AFrame} {h : AHeap}, RDraw P W0 N ops Q t pend fr h → DW P W0 N ops Q t pend fr h := by
 intro t
 induction t with
 | done => intro pend fr h q; exact q
 | no => intro pend fr h _; exact trivial
 | fl i t ih =>
  intro pend fr h q
  simp only [RDraw] at q
  obtain ⟨o, ho, q⟩ := onO_iff.1 q
  obtain ⟨w, hw, q⟩ := onO_iff.1 q
  simp only [DW, ho, hw]
  cases w with
  | false =>
   obtain ⟨fr', hp, q⟩ := onO_iff.1 q
   simp only [hp]; exact ih q
  | true =>
   obtain ⟨⟨v, h'⟩, hs, rfl, q⟩ := onO_iff.1 q
   obtain ⟨fr', hp, q⟩ := onO_iff.1 q
   simp only [hs, hp]; exact ⟨trivial, ih q⟩
 | ch i pre t other ih1 ih2 =>
  intro pend fr h q
  simp only [RDraw] at q
  obtain ⟨q, q2⟩ := q
  simp only [DW]
  refine ⟨?_, ih2 q2⟩
  obtain ⟨o, ho, q⟩ := onO_iff.1 q
  obtain ⟨w, hw, q⟩ := onO_iff.1 q
  simp only [ho, hw]
  cases w with
  | false =>
   obtain ⟨fr', hp, q⟩ := onO_iff.1 q
   simp only [hp]; exact ih1 q
  | true =>
   simp only [onB_true] at q
   cases hc : isCall o with
   | true =>
    rw [hc] at q
    obtain ⟨g, args, fn, c, hcl, hg, ha⟩ := q
    exact ⟨g, args, fn, c, hcl, hg, ha.mono fun v h' hr => let ⟨fr', hp, h1, h2⟩ := onO_iff.1 hr; ⟨fr', hp, h1, ih1 h2⟩⟩
   | false =>
    rw [hc] at q
    obtain ⟨⟨v, h'⟩, hs, q⟩ := onO_iff.1 q
    obtain ⟨fr', hp, h1, h2⟩ := onO_iff.1 q
    simp only [hs, hp]; exact ⟨h1, ih1 h2⟩
def KD (P : Program) (W0 : Base) (N : Nat) (ops : Array Oper) (ks : List Kt) (R : Exit → AFrame → AHeap → Prop) (t : DT) (pend : List Nat) (fr : AFrame) (h : AHeap) : Prop := RDraw P W0 N ops (KE P W0 N R ks .normal) t pend fr h
def KF1 (P : Program) (W0 : Base) (N : Nat) (ops : Array Oper) (ks : List Kt) (R : Exit → AFrame → AHeap → Prop) (t : DT) (pend : List Nat) (fr : AFrame) (h : AHeap) (x : Option Oper) : Prop :=
 onO x fun o => onO (wantA ops fr o) fun w =>
   onB w (onO (stepOp P fr h o) fun p => p.2 = h ∧ onO (putDst N fr o.dst p.1) fun fr' => KD P W0 N ops ks R t pend fr' h)
    (onO (putDst N fr o.dst undefV) fun fr' => KD P W0 N ops ks R t pend fr' h)
def KF2 (P : Program) (W0 : Base) (N : Nat) (ops : Array Oper) (ks : List Kt) (R : Exit → AFrame → AHeap → Prop) (t : DT) (pend : List Nat) (fr : AFrame) (h : AHeap) (o : Oper) (w : Option Bool) : Prop :=
  onO w fun w => onB w (onO (stepOp P fr h o) fun p => p.2 = h ∧ onO (putDst N fr o.dst p.1) fun fr' => KD P W0 N ops ks R t pend fr' h)
        (onO (putDst N fr o.dst undefV) fun fr' => KD P W0 N ops ks R t pend fr' h)
def KF3 (P : Program) (W0 : Base) (N : Nat) (ops : Array Oper) (ks : List Kt) (R : Exit → AFrame → AHeap → Prop) (t : DT) (pend : List Nat) (fr : AFrame) (h : AHeap) (o : Oper) (x : Option (Value × AHeap)) : Prop :=
 onO x fun p => p.2 = h ∧ onO (putDst N fr o.dst p.1) fun fr' => KD P W0 N ops ks R t pend fr' h
def KF4 (P : Program) (W0 : Base) (N : Nat) (ops : Array Oper) (ks : List Kt) (R : Exit → AFrame → AHeap → Prop) (t : DT) (pend : List Nat) (h : AHeap) (x : Option AFrame) : Prop :=
 onO x fun fr' => KD P W0 N ops ks R t pend fr' h
def KG1 (P : Program) (W0 : Base) (N : Nat) (ops : Array Oper) (ks : List Kt) (R : Exit → AFrame → AHeap → Prop) (t : DT) (pend : List Nat) (fr : AFrame) (h : AHeap) (x : Option Oper) : Prop :=
 onO x fun o => onO (wantA ops fr o) fun w =>
   onB w
    (onB (isCall o) (RCall P W0 N o fr h fun fr' h' => HoldsAll P ops fr' h' pend ∧ KD P W0 N ops ks R t pend fr' h')
     (onO (stepOp P fr h o) fun p => onO (putDst N fr o.dst p.1) fun fr' => HoldsAll P ops fr' p.2 pend ∧ KD P W0 N ops ks R t pend fr' p.2))
    (onO (putDst N fr o.dst undefV) fun fr' => KD P W0 N ops ks R t pend fr' h)
def KG2 (P : Program) (W0 : Base) (N : Nat) (ops : Array Oper) (ks : List Kt) (R : Exit → AFrame → AHeap → Prop) (t : DT) (pend : List Nat) (fr : AFrame) (h : AHeap) (o : Oper) (w : Option Bool) : Prop :=
  onO w fun w => onB w
        (onB (isCall o) (RCall P W0 N o fr h fun fr' h' => HoldsAll P ops fr' h' pend ∧ KD P W0 N ops ks R t pend fr' h')
          (onO (stepOp P fr h o) fun p => onO (putDst N fr o.dst p.1) fun fr' => HoldsAll P ops fr' p.2 pend ∧ KD P W0 N ops ks R t pend fr' p.2))
        (onO (putDst N fr o.dst undefV) fun fr' => KD P W0 N ops ks R t pend fr' h)
def KG3 (P : Program) (W0 : Base) (N : Nat) (ops : Array Oper) (ks : List Kt) (R : Exit → AFrame → AHeap → Prop) (t : DT) (pend : List Nat) (fr : AFrame) (h : AHeap) (o : Oper) (b : Bool) : Prop :=
  onB b (RCall P W0 N o fr h fun fr' h' => HoldsAll P ops fr' h' pend ∧ KD P W0 N ops ks R t pend fr' h')
          (onO (stepOp P fr h o) fun p => onO (putDst N fr o.dst p.1) fun fr' => HoldsAll P ops fr' p.2 pend ∧ KD P W0 N ops ks R t pend fr' p.2)
def KGCall (P : Program) (W0 : Base) (N : Nat) (ops : Array Oper) (ks : List Kt) (R : Exit → AFrame → AHeap → Prop) (t : DT) (pend : List Nat) (fr : AFrame) (h : AHeap) (o : Oper) : Prop :=
 RCall P W0 N o fr h fun fr' h' => HoldsAll P ops fr' h' pend ∧ KD P W0 N ops ks R t pend fr' h'
def KG4 (P : Program) (W0 : Base) (N : Nat) (ops : Array Oper) (ks : List Kt) (R : Exit → AFrame → AHeap → Prop) (t : DT) (pend : List Nat) (fr : AFrame) (o : Oper) (x : Option (Value × AHeap)) : Prop :=
 onO x fun p => onO (putDst N fr o.dst p.1) fun fr' => HoldsAll P ops fr' p.2 pend ∧ KD P W0 N ops ks R t pend fr' p.2
def KG5 (P : Program) (W0 : Base) (N : Nat) (ops : Array Oper) (ks : List Kt) (R : Exit → AFrame → AHeap → Prop) (t : DT) (pend : List Nat) (h : AHeap) (x : Option AFrame) : Prop :=
 onO x fun fr' => HoldsAll P ops fr' h pend ∧ KD P W0 N ops ks R t pend fr' h
section eqs
variable {ks : List Kt} {R : Exit → AFrame → AHeap → Prop} {o : Oper} {i : Nat} {t other : DT} {pend pre : List Nat} {v : Value} {h' : AHeap}
theorem KD_done : KD P W0 N ops ks R .done pend fr h = KN P W0 N ks R fr h := id rfl
theorem KD_no : KD P W0 N ops ks R .no pend fr h = True := id rfl
theorem KD_fl : KD P W0 N ops ks R (.fl i t) pend fr h = KF1 P W0 N ops ks R t (i :: pend) fr h ops[i]? := id rfl
theorem KF1_some : KF1 P W0 N ops ks R t pend fr h (some o) = KF2 P W0 N ops ks R t pend fr h o (wantA ops fr o) := id rfl
theorem KF2_true : KF2 P W0 N ops ks R t pend fr h o (some true) = KF3 P W0 N ops ks R t pend fr h o (stepOp P fr h o) := id rfl
theorem KF2_false : KF2 P W0 N ops ks R t pend fr h o (some false) = KF4 P W0 N ops ks R t pend h (putDst N fr o.dst undefV) := id rfl
theorem KF3_some : KF3 P W0 N ops ks R t pend fr h o (some (v, h)) = KF4 P W0 N ops ks R t pend h (putDst N fr o.dst v) := by simp [KF3, KF4, onO]
theorem KF4_some : KF4 P W0 N ops ks R t pend h (some fr) = KD P W0 N ops ks R t pend fr h := id rfl
theorem KD_ch : KD P W0 N ops ks R (.ch i pre t other) pend fr h = (KG1 P W0 N ops ks R t (pend.filter fun p => !pre.contains p) fr h ops[i]? ∧ KD P W0 N ops ks R other pend fr h) := id rfl
theorem KG1_some : KG1 P W0 N ops ks R t pend fr h (some o) = KG2 P W0 N ops ks R t pend fr h o (wantA ops fr o) := id rfl
theorem KG2_true : KG2 P W0 N ops ks R t pend fr h o (some true) = KG3 P W0 N ops ks R t pend fr h o (isCall o) := id rfl
theorem KG2_false : KG2 P W0 N ops ks R t pend fr h o (some false) = KF4 P W0 N ops ks R t pend h (putDst N fr o.dst undefV) := id rfl
theorem KG3_true : KG3 P W0 N ops ks R t pend fr h o true = KGCall P W0 N ops ks R t pend fr h o := id rfl
theorem KG3_false : KG3 P W0 N ops ks R t pend fr h o false = KG4 P W0 N ops ks R t pend fr o (stepOp P fr h o) := id rfl
theorem KG4_some : KG4 P W0 N ops ks R t pend fr o (some (v, h')) = KG5 P W0 N ops ks R t pend h' (putDst N fr o.dst v) := id rfl
theorem KG5_some : KG5 P W0 N ops ks R t pend h (some fr) = (HoldsAll P ops fr h pend ∧ KD P W0 N ops ks R t pend fr h) := id rfl
end eqs
def HD (fr : AFrame) (d : Option Tmp) (v : Value) : Prop := ∀ k, d = some k → fr.get k = some v
def H3 (fr : AFrame) (h : AHeap) (d : Option Tmp) (x : Option (Value × AHeap)) : Prop := ∃ v, x = some (v, h) ∧ HD fr d v
def H2 (P : Program) (fr : AFrame) (h : AHeap) (o : Oper) (w : Option Bool) : Prop :=
 match w with
 | some true => H3 fr h o.dst (stepOp P fr h o)
 | some false => HD fr o.dst undefV
 | none => False
def H1 (P : Program) (ops : Array Oper) (fr : AFrame) (h : AHeap) (x : Option Oper) : Prop :=
 match x with
 | some o => H2 P fr h o (wantA ops fr o)
 | none => False
theorem Holds_eq (p : Nat) : Holds P ops fr h p = H1 P ops fr h ops[p]? := by
 simp only [Holds, H1]
 split
 ·rename_i o ho
  simp only [ho, H2]
  split
  ·rename_i hw; simp only [hw, H3, HD]
  ·rename_i hw; simp only [hw, HD]
  ·rename_i hw; simp only [hw]
 ·rename_i ho; simp only [ho]
theorem H1_some {o : Oper} : H1 P ops fr h (some o) = H2 P fr h o (wantA ops fr o) := id rfl
theorem H2_true {o : Oper} : H2 P fr h o (some true) = H3 fr h o.dst (stepOp P fr h o) := id rfl
theorem H2_false {o : Oper} : H2 P fr h o (some false) = HD fr o.dst undefV := id rfl
theorem H3_some {d : Option Tmp} {v : Value} : H3 fr h d (some (v, h)) = HD fr d v := by simp [H3]
theorem HD_some {k : Tmp} {v : Value} : HD fr (some k) v = (fr.get k = some v) := by simp [HD]
theorem HD_none {v : Value} : HD fr none v = True := by simp [HD]
theorem KGCall.intro {ks : List Kt} {R : Exit → AFrame → AHeap → Prop} {o : Oper} {t : DT} {pend : List Nat} {g : FuncId} {args : List Value} {fn : Func} {c : Code} {Rc : Value → AHeap → Prop} (hc : calleeOf fr o = some (g, args)) (hg : Good P g fn c) (ha : AC P W0 g args h Rc)
  (hk : ∀ v h', WF h' → Rc v h' → KG5 P W0 N ops ks R t pend h' (putDst N fr o.dst v)) : KGCall P W0 N ops ks R t pend fr h o := call_intro hc hg ha hk
theorem KDraw.intro {i : Nat} {ol : List Oper} {ks : List Kt} {R : Exit → AFrame → AHeap → Prop} (hm : P.follows .mixedOrders = true) (t : DT) (hok : drawOK ol.toArray t = true)
  (hd : KD P W0 N ol.toArray ks R t [] fr h) : KDraw P W0 N i ol.toArray ks R fr h := .draw hm t hok hd.sound
end Go.Fw
