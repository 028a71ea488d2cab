/- A text of the proof. -/
import Derived.Test.YtnaahaldkpdjlaaFwRules
set_option linter.unusedSimpArgs false
set_option linter.unusedVariables false
namespace Go.Fw
variable {P : Program} {W0 : Base} {N : Nat} {ops : Array Oper} {l : List Oper} {fr : AFrame} {h : AHeap}
def AY (P : Program) (W0 : Base) (lp : Nat) (args : List Value) (h : AHeap) (R : Value → AHeap → Prop) : Prop :=
 ∀ ex ro nn m w args', Rel (W0.add ex) m h w → VRs h.next m args args' →
  ∃ f tmps assign body, (Instr.yield lp args'.toArray).run P w = .ok (.round lp f tmps assign body) w ∧
   RoundIn (wideR ro) nn P lp f tmps assign body w (fun e w' => ∃ v v' m' h', e = .returned v' ∧ Rel (W0.add ex) m' h' w' ∧ Agree h.next m m' ∧ h.next ≤ h'.next ∧ VR h'.next m' v v' ∧ R v h')
theorem AY.mono {lp : Nat} {args : List Value} {R R' : Value → AHeap → Prop} (hq : AY P W0 lp args h R) (hQ : ∀ v h, R v h → R' v h) : AY P W0 lp args h R' :=
 fun ex ro nn m w args' r va => let ⟨f, tmps, assign, body, h1, h2⟩ := hq ex ro nn m w args' r va
  ⟨f, tmps, assign, body, h1, h2.mono fun _ _ ⟨v, v', m', h', a1, a2, a3, a4, a5, a6⟩ => ⟨v, v', m', h', a1, a2, a3, a4, a5, hQ _ _ a6⟩⟩
def yieldOf (fr : AFrame) (o : Oper) : Option (Nat × List Value) :=
  match o.op with
  | .call { callee := .value f, args, .. } => match evalO fr f, evalL fr args.toList with
    | some (.func (.yield g) first _), some vs => some (g, first.toList ++ vs)
    | _, _ => none
  | _ => none
theorem AOps.yield {o : Oper} {Q : AFrame → AHeap → Prop} {lp : Nat} {args : List Value} (hw : wantA ops fr o = some true) (hc : yieldOf fr o = some (lp, args))
  (hr : AY P W0 lp args h fun v h' => ∃ fr', putDst N fr o.dst v = some fr' ∧ AOps P W0 N ops l fr' h' Q) : AOps P W0 N ops (o :: l) fr h Q := by
 intro cx nn m a w s K hK
 unfold yieldOf at hc
 split at hc
 ·rename_i f as ats hop
  split at hc
  ·rename_i g' first cap vs hf hvs
   injection hc with hc; simp only [Prod.mk.injEq] at hc; obtain ⟨rfl, rfl⟩ := hc
   have hfv := evalO_rel s.frame hf
   have hav := evalL_rel s.frame hvs
   unfold wpListIn
   rw [if_pos (wantA_rel s.frame hw)]
   refine wpIn_op (fun c e => by rw [hop] at e; cases e) ?_
   have key : ∃ first' cap', a.eval f = .func (.yield g') first' cap' ∧ VRs h.next m first.toList first'.toList := by
    generalize a.eval f = x at hfv
    cases hfv with
    | flat hf => simp [Fw.flat] at hf
    | func h1 h2 h3 h4 =>
     exact ⟨_, _, rfl, ⟨by simpa using h1, fun i v v' e e' => h3 i v v' (by simpa using e) (by simpa using e')⟩⟩
   obtain ⟨first', cap', hfe, hfr⟩ := key
   obtain ⟨f', tmps, assign, body, hrun0, hround⟩ := hr cx.ex cx.ro (nn - 1) m w (first'.toList ++ as.toList.map a.eval) s.rel (hfr.append hav)
   have hrun : (execOp a.eval o).run P w = .ok (.round g' f' tmps assign body) w := by
    have e1 : (first' ++ as.map a.eval) = (first'.toList ++ as.toList.map a.eval).toArray := by
     apply Array.toList_inj.1; simp
    simp only [execOp, hop, resolve, hfe, Deferred.ofValue, Sem.run_bind, Sem.run_pure, Result.andThen_ok, invoke, e1, hrun0]
   rw [hrun]
   refine ⟨(fun hx => by cases hx), hround.mono ?_⟩
   rintro e w' ⟨v, v', m', h', rfl, R', hag, hn, hv, fr', hp, hrest⟩
   exact hrest cx nn m' _ w' (s.put R' hag hn hv hp) K fun m2 fr2 h2 a2 w2 e1 e2 e3 e4 => hK m2 fr2 h2 a2 w2 (hag.trans e1 hn) (Nat.le_trans hn e2) e3 e4
  ·cases hc
 ·cases hc
end Go.Fw
namespace Go.Fw
variable {P : Program} {W0 : Base} {N : Nat} {ops : Array Oper} {l : List Oper} {fr : AFrame} {h : AHeap}
def isCall (o : Oper) : Bool :=
 match o.op with
 | .call { callee := .value _, .. } => true
 | _ => false
end Go.Fw
