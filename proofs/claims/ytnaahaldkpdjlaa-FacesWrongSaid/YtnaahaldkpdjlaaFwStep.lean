/- A text of the proof. -/
import Derived.Test.YtnaahaldkpdjlaaFwOps8
set_option linter.unusedSimpArgs false
set_option linter.unusedVariables false
namespace Go.Fw
variable {W0 : Base} {m : CMap} {h : AHeap} {w : World}
abbrev AFrame := Trie Value
def evalO (fr : AFrame) : Operand → Option Value
 | .tmp t => fr.get t
 | .const v => bif flat v then some v else none
 | .func f => some (.func (.func f) #[] #[])
 | .global _ => none
def FR (n : Nat) (m : CMap) (fr : AFrame) (tmps : Array Value) : Prop := ∀ k v, fr.get k = some v → ∃ v', tmps[k]? = some v' ∧ VR n m v v'
theorem FR.mono {n n' : Nat} {m m' : CMap} {fr : AFrame} {t : Array Value} (F : FR n m fr t) (hn : n ≤ n') (hm : Agree n m m') : FR n' m' fr t :=
 fun k v e => let ⟨v', h1, h2⟩ := F k v e; ⟨v', h1, h2.mono hn hm⟩
theorem evalO_rel {n : Nat} {m : CMap} {fr : AFrame} {a : Act} (F : FR n m fr a.tmps) {o : Operand} {v : Value} (e : evalO fr o = some v) : VR n m v (a.eval o) := by
 cases o with
 | tmp t =>
  obtain ⟨v', h1, h2⟩ := F t v e
  have : a.eval (.tmp t) = v' := by simp [Act.eval, Array.getD_eq_getD_getElem?, h1]
  rw [this]; exact h2
 | const c =>
  simp only [evalO] at e
  cases hf : flat c with
  | true => rw [hf] at e; simp at e; subst e; exact .flat hf
  | false => rw [hf] at e; simp at e
 | global g => simp [evalO] at e
 | func f =>
  simp only [evalO] at e; injection e with e; subst e
  exact .func rfl rfl (fun i v v' h => by simp at h) (fun i v v' h => by simp at h)
def evalL (fr : AFrame) : List Operand → Option (List Value)
  | [] => some []
  | o :: r => match evalO fr o with
    | some v => match evalL fr r with | some l => some (v :: l) | none => none
    | none => none
theorem evalL_rel {n : Nat} {m : CMap} {fr : AFrame} {a : Act} (F : FR n m fr a.tmps) : ∀ {l : List Operand} {vs : List Value}, evalL fr l = some vs → VRs n m vs (l.map a.eval)
 | [], vs, e => by simp [evalL] at e; subst e; exact .nil _ _
 | o :: r, vs, e => by
  simp only [evalL] at e
  split at e
  ·rename_i v hv
   split at e
   ·rename_i l hl; injection e with e; subst e; exact .cons (evalO_rel F hv) (evalL_rel F hl)
   ·cases e
  ·cases e
def evalP (fr : AFrame) : List (Nat × Operand) → Option (List (Nat × Value))
  | [] => some []
  | (i, o) :: r => match evalO fr o with
    | some v => match evalP fr r with | some l => some ((i, v) :: l) | none => none
    | none => none
theorem evalP_rel {n : Nat} {m : CMap} {fr : AFrame} {a : Act} (F : FR n m fr a.tmps) : ∀ {l : List (Nat × Operand)} {vs : List (Nat × Value)}, evalP fr l = some vs → PRs n m vs (l.map fun p => (p.1, a.eval p.2))
 | [], vs, e => by simp [evalP] at e; subst e; exact .nil
 | (i, o) :: r, vs, e => by
  simp only [evalP] at e
  split at e
  ·rename_i v hv
   split at e
   ·rename_i l hl; injection e with e; subst e; exact .cons (evalO_rel F hv) (evalP_rel F hl)
   ·cases e
  ·cases e
def evalM (fr : AFrame) : Option Operand → Option (Option Value)
 | none => some none
 | some o => match evalO fr o with | some v => some (some v) | none => none
theorem evalM_rel {n : Nat} {m : CMap} {fr : AFrame} {a : Act} (F : FR n m fr a.tmps) {o : Option Operand} {v : Option Value} (e : evalM fr o = some v) : VRo n m v (o.map a.eval) := by
 cases o with
 | none => simp [evalM] at e; subst e; exact .none
 | some o =>
  simp only [evalM] at e
  split at e
  ·rename_i u hu; injection e with e; subst e; exact .some (evalO_rel F hu)
  ·cases e
def undefV : Value := .tuple #[]
def aNilCheck (x : Value) : Option Value :=
 match x with
 | .pointer (some a) => some (.pointer (some a))
 | .func (.func f) a b => some (.func (.func f) a b)
 | _ => none
def aIface (P : Program) (t : TypeId) (x : Value) : Option Value :=
 match P.underlying t with
 | some (.interface _) => none
 | some _ => some (.iface t x)
 | none => none
def aBuiltin (P : Program) (h : AHeap) (b : Builtin) (ats : List TypeId) (args : List Value) : Option (Value × AHeap) :=
 match b, ats, args with
 | .append, [t, xt], [s, x] => aAppend P h t xt s x
 | .len, t :: _, [x] => match aLen P h t x with | some v => some (v, h) | none => none
 | .copy, t :: _, [d, s] => aCopy P h t d s
 | .delete, t :: _, [d, s] => aDelete P h t d s
 | .min, _, x :: r => match aMin x r with | some v => some (v, h) | none => none
 | .max, _, x :: r => match aMax x r with | some v => some (v, h) | none => none
 | _, _, _ => none
def stepOp (P : Program) (fr : AFrame) (h : AHeap) (o : Oper) : Option (Value × AHeap) :=
  match o.op with
  | .move x | .assign x => match evalO fr x with | some v => some (v, h) | none => none
  | .pick c a b => match evalO fr c with
    | some (.bool t) => match evalO fr (bif t then a else b) with | some v => some (v, h) | none => none
    | _ => none
  | .alloc t => aAlloc P h t
  | .box _ x => match evalO fr x with | some v => aBox h v | none => none
  | .build t ps => match evalP fr ps.toList with
    | some l => match aBuild P t l with | some v => some (v, h) | none => none
    | none => none
  | .buildSlice t len ps => match evalP fr ps.toList with | some l => aBuildSlice P h t len l | none => none
  | .load t a => match evalO fr a with
    | some (.pointer (some ad)) => match aload P h t ad with | some v => some (v, h) | none => none
    | _ => none
  | .store t a x => match evalO fr a, evalO fr x with
    | some av, some xv => match aStore P h t av xv with | some h' => some (undefV, h') | none => none
    | _, _ => none
  | .nilCheck x => match evalO fr x with
    | some v => match aNilCheck v with | some v => some (v, h) | none => none
    | none => none
  | .binOp op t x y _ => match evalO fr x, evalO fr y with
    | some a, some b => match abinG P op t a b with | some v => some (v, h) | none => none
    | _, _ => none
  | .unOp op _ x => match evalO fr x with
    | some a => match aUn op a with | some v => some (v, h) | none => none
    | none => none
  | .convert s d x => match evalO fr x with | some a => aConvert P h s d a | none => none
  | .makeInterface t x => match evalO fr x with
    | some a => match aIface P t a with | some v => some (v, h) | none => none
    | none => none
  | .makeFunc fn first cap => match evalL fr first.toList, evalL fr cap.toList with
    | some a, some b => some (.func fn a.toArray b.toArray, h)
    | _, _ => none
  | .makeMap _ r => match r with
    | none => some (.map (some h.next), h.alloc (.map []))
    | some _ => none
  | .makeSlice t l c => match evalO fr l, evalO fr c with
    | some a, some b => aMakeSlice P h t a b
    | _, _ => none
  | .slice t x lo hi mx => match evalO fr x, evalM fr lo, evalM fr hi, evalM fr mx with
    | some a, some l, some r, some k => match aSlice P t a l r k with | some v => some (v, h) | none => none
    | _, _, _, _ => none
  | .fieldAddr s x f => match evalO fr x with
    | some a => match aField P s a f with | some v => some (v, h) | none => none
    | none => none
  | .field s x f => match evalO fr x with
    | some a => match aFieldV P s a f with | some v => some (v, h) | none => none
    | none => none
  | .indexAddr t x i => match evalO fr x, evalO fr i with
    | some a, some b => match aIndexAddr P t a b with | some v => some (v, h) | none => none
    | _, _ => none
  | .index t x i => match evalO fr x, evalO fr i with
    | some a, some b => match aIndexV P t a b with | some v => some (v, h) | none => none
    | _, _ => none
  | .extract x i => match evalO fr x with
    | some a => match aExtract a i with | some v => some (v, h) | none => none
    | none => none
  | .lookup t x i ok => match evalO fr x, evalO fr i with
    | some a, some b => match bLookup P h t a b ok with | some v => some (v, h) | none => none
    | _, _ => none
  | .mapUpdate t x k y => match evalO fr x, evalO fr k, evalO fr y with
    | some a, some b, some c => match bMapSet P h t a b c with | some h' => some (undefV, h') | none => none
    | _, _, _ => none
  | .call { callee := .builtin b, args, argTypes } => match evalL fr args.toList with
    | some vs => aBuiltin P h b argTypes.toList vs
    | none => none
  | _ => none
def Does (P : Program) (W0 : Base) (m : CMap) (h : AHeap) (w : World) (s : Sem Next) (v : Value) (h' : AHeap) : Prop :=
 ∃ m' v' w', (s.run P w = .ok (.value v') w' ∨ (s.run P w = .ok .skip w' ∧ v' = undef)) ∧ Rel W0 m' h' w' ∧ Agree h.next m m' ∧ h.next ≤ h'.next ∧ VR h'.next m' v v'
theorem Does.of_ok {P : Program} {s : Sem Value} {v : Value} {h' : AHeap} (e : OK P W0 m h w s v h') : Does P W0 m h w (do pure (.value (← s))) v h' := by
 obtain ⟨m', v', w', h1, h2, h3, h4, h5⟩ := e
 exact ⟨m', v', w', .inl (by simp [h1]), h2, h3, h4, h5⟩
theorem Does.of_pure {P : Program} {s : Sem Value} {v : Value} (R : Rel W0 m h w) (e : ∃ v', s.run P w = .ok v' w ∧ VR h.next m v v') : Does P W0 m h w (do pure (.value (← s))) v h :=
 .of_ok (OK.pure R e)
theorem Does.val {P : Program} {v v' : Value} (R : Rel W0 m h w) (e : VR h.next m v v') : Does P W0 m h w (pure (.value v')) v h :=
 ⟨m, v', w, .inl (by simp), R, .refl _ _, Nat.le_refl _, e⟩
theorem aBuiltin_does {P : Program} (R : Rel W0 m h w) {b : Builtin} {ats : Array TypeId} {ty : TypeId} {cs : Array Bool} {args args' : List Value} {v : Value} {h' : AHeap} (ha : VRs h.next m args args')
  (e : aBuiltin P h b ats.toList args = some (v, h')) : Does P W0 m h w (builtin b ats ty cs args'.toArray) v h' := by
 unfold aBuiltin at e
 split at e
 ·rename_i t xt s x hats
  have hats' : ats = #[t, xt] := by rw [← Array.toList_inj, hats]
  subst hats'
  match args', ha with
  | [s', x'], ha => exact .of_ok (aAppend_ok R (ha.2 0 s s' rfl rfl) (ha.2 1 x x' rfl rfl) e)
  | [], ha | [_], ha | _ :: _ :: _ :: _, ha => simp [VRs] at ha
 ·rename_i t r x hats
  have hat : ats[0]? = some t := by rw [← Array.getElem?_toList, hats]; rfl
  match args', ha with
  | [x'], ha =>
   split at e
   ·rename_i v0 hv
    injection e with e; simp only [Prod.mk.injEq] at e; obtain ⟨rfl, rfl⟩ := e
    exact .of_pure R (aLen_rel R hat (ha.2 0 x x' rfl rfl) hv)
   ·cases e
  | [], ha | _ :: _ :: _, ha => simp [VRs] at ha
 ·rename_i t r d s hats
  have hat : ats[0]? = some t := by rw [← Array.getElem?_toList, hats]; rfl
  match args', ha with
  | [d', s'], ha => exact .of_ok (aCopy_ok R hat (ha.2 0 d d' rfl rfl) (ha.2 1 s s' rfl rfl) e)
  | [], ha | [_], ha | _ :: _ :: _ :: _, ha => simp [VRs] at ha
 ·rename_i t r d s hats
  have hat : ats[0]? = some t := by rw [← Array.getElem?_toList, hats]; rfl
  match args', ha with
  | [d', s'], ha => exact .of_ok (aDelete_ok R hat (ha.2 0 d d' rfl rfl) (ha.2 1 s s' rfl rfl) e)
  | [], ha | [_], ha | _ :: _ :: _ :: _, ha => simp [VRs] at ha
 ·rename_i x r
  match args', ha with
  | x' :: r', ha =>
   split at e
   ·rename_i v0 hv
    injection e with e; simp only [Prod.mk.injEq] at e; obtain ⟨rfl, rfl⟩ := e
    obtain ⟨v', h1, h2⟩ := aMin_rel (P := P) r r' (ha.2 0 x x' rfl rfl) (by simpa using ha.drop 1) hv w
    exact .of_pure R ⟨v', by simpa [Builtin.min_] using h1, h2⟩
   ·cases e
  | [], ha => simp [VRs] at ha
 ·rename_i x r
  match args', ha with
  | x' :: r', ha =>
   split at e
   ·rename_i v0 hv
    injection e with e; simp only [Prod.mk.injEq] at e; obtain ⟨rfl, rfl⟩ := e
    obtain ⟨v', h1, h2⟩ := aMax_rel (P := P) r r' (ha.2 0 x x' rfl rfl) (by simpa using ha.drop 1) hv w
    exact .of_pure R ⟨v', by simpa [Builtin.max_] using h1, h2⟩
   ·cases e
  | [], ha => simp [VRs] at ha
 ·cases e
theorem aEq_agg {P : Program} {t : TypeId} {xs ys : Array Value} {r : Bool} (e : aEq P t (.agg xs) (.agg ys) = some r) : P.eqGuardType P.depth t = false := by
 unfold aEq at e
 split at e
 case h_7 len el xs' ys' hu h1 h2 =>
  split at e
  ·rename_i k a b he _ _; exact eqGuardType_arr P t el len k hu he
  ·cases e
 case h_8 fs xs' ys' hu h1 h2 =>
  split at e
  ·split at e
   ·rename_i hc; exact eqGuardType_struct P t fs hu hc.1
   ·cases e
  ·cases e
 all_goals simp_all
theorem abinG_does {P : Program} (R : Rel W0 m h w) {op : BinOp} {t : TypeId} {x y : Operand} {a b a' b' v : Value} (ha : VR h.next m a a') (hb : VR h.next m b b') (e : abinG P op t a b = some v) :
  Does P W0 m h w (do pure (.value (← (do eqGuard op t x y a' b'; binOp op t a' b')))) v h := by
 unfold abinG at e
 cases hg : guardFree a with
 | false => rw [hg] at e; cases e
 | true =>
  rw [hg] at e
  simp only [cond_true] at e
  obtain ⟨hf, hrun⟩ := abin_rel ha hb e
  refine .of_pure R ⟨v, ?_, .flat hf⟩
  have hge : (eqGuard op t x y a' b').run P w = .ok () w := by
   refine eqGuard_run P op t x y a' b' w ?_ ?_
   ·rintro ⟨rfl, _⟩; cases ha with | flat hh => simp [guardFree] at hg
   ·rintro xs' ys' rfl rfl
    cases ha with
    | flat hh => simp [Fw.flat] at hh
    | agg _ _ =>
     cases hb with
     | flat hh => simp [Fw.flat] at hh
     | agg _ _ =>
      rename_i xs ys _ _ _ _
      cases op <;> simp only [abin] at e <;> (try cases e)
      all_goals
       split at e
       ·rename_i r hr; exact aEq_agg hr
       ·cases e
  rw [Sem.run_bind, hge]
  exact hrun w
theorem stepOp_does {P : Program} {a : Act} {fr : AFrame} {o : Oper} {v : Value} {h' : AHeap} (R : Rel W0 m h w) (F : FR h.next m fr a.tmps) (e : stepOp P fr h o = some (v, h')) :
  Does P W0 m h w (execOp a.eval o) v h' := by
 unfold stepOp at e
 unfold execOp
 split at e
 ·rename_i x hop; simp only [hop]
  split at e
  ·rename_i u hu; injection e with e; simp only [Prod.mk.injEq] at e; obtain ⟨rfl, rfl⟩ := e; exact .val R (evalO_rel F hu)
  ·cases e
 ·rename_i x hop; simp only [hop]
  split at e
  ·rename_i u hu; injection e with e; simp only [Prod.mk.injEq] at e; obtain ⟨rfl, rfl⟩ := e; exact .val R (evalO_rel F hu)
  ·cases e
 ·rename_i c x y hop; simp only [hop]
  split at e
  ·rename_i t ht
   split at e
   ·rename_i u hu
    injection e with e; simp only [Prod.mk.injEq] at e; obtain ⟨rfl, rfl⟩ := e
    have hc := (evalO_rel F ht).bool_inv
    have hu' := evalO_rel F hu
    refine ⟨m, a.eval (bif t then x else y), w, .inl ?_, R, .refl _ _, Nat.le_refl _, hu'⟩
    simp only [hc, asBool, Sem.run_bind, Sem.run_pure, Result.andThen_ok]
    cases t <;> rfl
   ·cases e
  ·cases e
 ·rename_i t hop; simp only [hop]; exact .of_ok (aAlloc_ok R e)
 ·rename_i t x hop; simp only [hop]
  split at e
  ·rename_i u hu; exact .of_ok (aBox_ok R (evalO_rel F hu) e)
  ·cases e
 ·rename_i t ps hop; simp only [hop]
  split at e
  ·rename_i l hl
   split at e
   ·rename_i u hu
    injection e with e; simp only [Prod.mk.injEq] at e; obtain ⟨rfl, rfl⟩ := e
    have := aBuild_rel (P := P) (evalP_rel F hl) hu w
    refine .of_pure R ?_
    have e1 : (ps.map fun x => match x with | (i, x) => (i, a.eval x)) = (ps.toList.map fun p => (p.1, a.eval p.2)).toArray := by
     apply Array.toList_inj.1; simp
    rw [e1]; exact this
   ·cases e
  ·cases e
 ·rename_i t len ps hop; simp only [hop]
  split at e
  ·rename_i l hl
   have := aBuildSlice_ok (P := P) R (evalP_rel F hl) e
   have e1 : (ps.map fun x => match x with | (i, x) => (i, a.eval x)) = (ps.toList.map fun p => (p.1, a.eval p.2)).toArray := by
    apply Array.toList_inj.1; simp
   rw [e1]; exact .of_ok this
  ·cases e
 ·rename_i t x hop; simp only [hop]
  split at e
  ·rename_i ad had
   split at e
   ·rename_i u hu
    injection e with e; simp only [Prod.mk.injEq] at e; obtain ⟨rfl, rfl⟩ := e
    obtain ⟨a', ha', har⟩ := (evalO_rel F had).ptr_inv
    obtain ⟨v', h1, h2⟩ := R.loadVar (P := P) har hu
    exact .of_pure R ⟨v', by rw [ha']; simp [Instr.loadAt, Instr.sureAddr, h1], h2⟩
   ·cases e
  ·cases e
 ·rename_i t x y hop; simp only [hop]
  split at e
  ·rename_i av xv hav hxv
   split at e
   ·rename_i h2 hst
    injection e with e; simp only [Prod.mk.injEq] at e; obtain ⟨rfl, rfl⟩ := e
    obtain ⟨w', h1, R', hn⟩ := aStore_ok (P := P) R (evalO_rel F hav) (evalO_rel F hxv) hst
    exact ⟨m, undef, w', .inr ⟨by simp [h1], rfl⟩, R', .refl _ _, by omega, .tuple rfl (fun i v v' h => by simp at h)⟩
   ·cases e
  ·cases e
 ·rename_i x hop; simp only [hop]
  split at e
  ·rename_i u hu
   split at e
   ·rename_i u' hu'
    injection e with e; simp only [Prod.mk.injEq] at e; obtain ⟨rfl, rfl⟩ := e
    have hv := evalO_rel F hu
    unfold aNilCheck at hu'
    split at hu'
    ·injection hu' with hu'; subst hu'
     obtain ⟨a', ha', har⟩ := hv.ptr_inv
     rw [ha'] at hv ⊢
     exact .val R hv
    ·injection hu' with hu'; subst hu'
     generalize a.eval x = x' at hv ⊢
     cases hv with
     | flat hf => simp [Fw.flat] at hf
     | func h1 h2 h3 h4 => exact .val R (.func h1 h2 h3 h4)
    ·cases hu'
   ·cases e
  ·cases e
 ·rename_i op t x y yt hop; simp only [hop]
  split at e
  ·rename_i p q hp hq
   split at e
   ·rename_i u hu
    injection e with e; simp only [Prod.mk.injEq] at e; obtain ⟨rfl, rfl⟩ := e
    exact abinG_does R (evalO_rel F hp) (evalO_rel F hq) hu
   ·cases e
  ·cases e
 ·rename_i op t x hop; simp only [hop]
  split at e
  ·rename_i p hp
   split at e
   ·rename_i u hu
    injection e with e; simp only [Prod.mk.injEq] at e; obtain ⟨rfl, rfl⟩ := e
    obtain ⟨h1, h2⟩ := aUn_rel P (evalO_rel F hp) hu
    exact .of_pure R ⟨u, h2 w, .flat h1⟩
   ·cases e
  ·cases e
 ·rename_i s d x hop; simp only [hop]
  split at e
  ·rename_i p hp; exact .of_ok (aConvert_ok R (evalO_rel F hp) e)
  ·cases e
 ·rename_i t x hop; simp only [hop]
  split at e
  ·rename_i p hp
   split at e
   ·rename_i u hu
    injection e with e; simp only [Prod.mk.injEq] at e; obtain ⟨rfl, rfl⟩ := e
    unfold aIface at hu
    split at hu
    ·cases hu
    ·rename_i d hni hd
     injection hu with hu; subst hu
     refine .of_pure R ⟨.iface t (a.eval x), ?_, .iface (evalO_rel F hp)⟩
     simp only [Instr.makeInterface, Sem.run_bind, run_underlying hd, Result.andThen_ok]
     cases d <;> first | (exact absurd rfl (hni _)) | rfl
    ·cases hu
   ·cases e
  ·cases e
 ·rename_i fn first cap hop; simp only [hop]
  split at e
  ·rename_i p q hp hq
   injection e with e; simp only [Prod.mk.injEq] at e; obtain ⟨rfl, rfl⟩ := e
   have h1 := evalL_rel F hp
   have h2 := evalL_rel F hq
   refine .of_pure R ⟨.func fn (first.map a.eval) (cap.map a.eval), by simp [Instr.makeFunc], .func ?_ ?_ (fun i v v' e e' => h1.2 i v v' (by simpa using e) (by simpa using e')) (fun i v v' e e' => h2.2 i v v' (by simpa using e) (by simpa using e'))⟩
   ·have := h1.1; simpa using this
   ·have := h2.1; simpa using this
  ·cases e
 ·rename_i t r hop; simp only [hop]
  split at e
  ·injection e with e; simp only [Prod.mk.injEq] at e; obtain ⟨rfl, rfl⟩ := e
   refine .of_ok ⟨_, .map (some w.heap.size), _, by simp [Instr.makeMap], R.allocMap, agree_upd _ _ _, Nat.le_succ _, ?_⟩
   have := VR.map (n := h.next + 1) (m := upd m h.next ⟨w.heap.size, 0, 0⟩) (id := h.next) (Nat.lt_succ_self _)
   rw [upd_eq] at this; exact this
  ·cases e
 ·rename_i t l c hop; simp only [hop]
  split at e
  ·rename_i p q hp hq; exact .of_ok (aMakeSlice_ok R (evalO_rel F hp) (evalO_rel F hq) e)
  ·cases e
 ·rename_i t x lo hi mx hop; simp only [hop]
  split at e
  ·rename_i p l r k hp hl hr hk
   split at e
   ·rename_i u hu
    injection e with e; simp only [Prod.mk.injEq] at e; obtain ⟨rfl, rfl⟩ := e
    exact .of_pure R (aSlice_rel (evalO_rel F hp) (evalM_rel F hl) (evalM_rel F hr) (evalM_rel F hk) hu w)
   ·cases e
  ·cases e
 ·rename_i s x f hop; simp only [hop]
  split at e
  ·rename_i p hp
   split at e
   ·rename_i u hu
    injection e with e; simp only [Prod.mk.injEq] at e; obtain ⟨rfl, rfl⟩ := e
    exact .of_pure R (aField_rel (evalO_rel F hp) hu w)
   ·cases e
  ·cases e
 ·rename_i s x f hop; simp only [hop]
  split at e
  ·rename_i p hp
   split at e
   ·rename_i u hu
    injection e with e; simp only [Prod.mk.injEq] at e; obtain ⟨rfl, rfl⟩ := e
    exact .of_pure R (aFieldV_rel (evalO_rel F hp) hu w)
   ·cases e
  ·cases e
 ·rename_i t x i hop; simp only [hop]
  split at e
  ·rename_i p q hp hq
   split at e
   ·rename_i u hu
    injection e with e; simp only [Prod.mk.injEq] at e; obtain ⟨rfl, rfl⟩ := e
    exact .of_pure R (aIndexAddr_rel (evalO_rel F hp) (evalO_rel F hq) hu w)
   ·cases e
  ·cases e
 ·rename_i t x i hop; simp only [hop]
  split at e
  ·rename_i p q hp hq
   split at e
   ·rename_i u hu
    injection e with e; simp only [Prod.mk.injEq] at e; obtain ⟨rfl, rfl⟩ := e
    exact .of_pure R (aIndexV_rel (evalO_rel F hp) (evalO_rel F hq) hu w)
   ·cases e
  ·cases e
 ·rename_i x i hop; simp only [hop]
  split at e
  ·rename_i p hp
   split at e
   ·rename_i u hu
    injection e with e; simp only [Prod.mk.injEq] at e; obtain ⟨rfl, rfl⟩ := e
    exact .of_pure R (aExtract_rel (evalO_rel F hp) hu w)
   ·cases e
  ·cases e
 ·rename_i t x i ok hop; simp only [hop]
  split at e
  ·rename_i p q hp hq
   split at e
   ·rename_i u hu
    injection e with e; simp only [Prod.mk.injEq] at e; obtain ⟨rfl, rfl⟩ := e
    exact .of_pure R (bLookup_rel R (evalO_rel F hp) (evalO_rel F hq) hu)
   ·cases e
  ·cases e
 ·rename_i t x k y hop; simp only [hop]
  split at e
  ·rename_i p q c hp hq hc
   split at e
   ·rename_i h2 hst
    injection e with e; simp only [Prod.mk.injEq] at e; obtain ⟨rfl, rfl⟩ := e
    obtain ⟨w', h1, R', hn⟩ := bMapSet_ok (P := P) R (evalO_rel F hp) (evalO_rel F hq) (evalO_rel F hc) hst
    exact ⟨m, undef, w', .inr ⟨by simp [h1], rfl⟩, R', .refl _ _, by omega, .tuple rfl (fun i v v' h => by simp at h)⟩
   ·cases e
  ·cases e
 ·rename_i b args ats hop; simp only [hop]
  split at e
  ·rename_i vs hvs
   have hrel := evalL_rel F hvs
   have := aBuiltin_does (P := P) R (ats := ats) (ty := o.type) (cs := args.map fun | .const _ => true | _ => false) hrel e
   have e1 : (args.toList.map a.eval).toArray = args.map a.eval := by apply Array.toList_inj.1; simp
   rw [e1] at this
   exact this
  ·cases e
 ·cases e
end Go.Fw
