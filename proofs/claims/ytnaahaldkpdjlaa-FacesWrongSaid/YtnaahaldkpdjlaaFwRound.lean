/- A text of the proof. -/
import Derived.Test.YtnaahaldkpdjlaaFwRules
set_option linter.unusedSimpArgs false
set_option linter.unusedVariables false
namespace Go.Fw
variable {P : Program} {W0 : Base} {N : Nat} {ops : Array Oper} {l : List Oper} {fr : AFrame} {h : AHeap}
def yieldV (l : Nat) : Value := .func (.yield l) #[] #[]
def AY (P : Program) (W0 : Base) (lp : Nat) (args : List Value) (h : AHeap) (R : Value → AHeap → Prop) : Prop :=
 ∀ ex ro nn m w args', Rel (W0.add ex) m h w → VRs h.next m args args' →
  ∃ f tmps assign body, (Instr.yield lp args'.toArray).run P w = .ok (.round lp f tmps assign body) w ∧
   RoundIn (wideR ro) nn P lp f tmps assign body w (fun e w' => ∃ v v' m' h', e = .returned v' ∧ Rel (W0.add ex) m' h' w' ∧ Agree h.next m m' ∧ h.next ≤ h'.next ∧ VR h'.next m' v v' ∧ R v h')
theorem AY.mono {lp : Nat} {args : List Value} {R R' : Value → AHeap → Prop} (hq : AY P W0 lp args h R) (hQ : ∀ v h, R v h → R' v h) : AY P W0 lp args h R' :=
 fun ex ro nn m w args' r va => let ⟨f, tmps, assign, body, h1, h2⟩ := hq ex ro nn m w args' r va
  ⟨f, tmps, assign, body, h1, h2.mono fun _ _ ⟨v, v', m', h', a1, a2, a3, a4, a5, a6⟩ => ⟨v, v', m', h', a1, a2, a3, a4, a5, hQ _ _ a6⟩⟩
theorem AY.post {lp : Nat} {args : List Value} {R : Value → AHeap → Prop} (hq : AY P W0 lp args h R) : AY P W0 lp args h fun v h' => (∀ i, h'.own i ≠ none → i < h'.next) ∧ R v h' :=
 fun ex ro nn m w args' r va => let ⟨f, tmps, assign, body, h1, h2⟩ := hq ex ro nn m w args' r va
  ⟨f, tmps, assign, body, h1, h2.mono fun _ _ ⟨v, v', m', h', a1, a2, a3, a4, a5, a6⟩ => ⟨v, v', m', h', a1, a2, a3, a4, a5, a2.lt, a6⟩⟩
def yieldOf (fr : AFrame) (o : Oper) : Option (Nat × List Value) :=
  match o.op with
  | .call { callee := .value f, args, .. } => match evalO fr f, evalL fr args.toList with
    | some (.func (.yield g) first _), some vs => some (g, first.toList ++ vs)
    | _, _ => none
  | _ => none
theorem AOps.yield {o : Oper} {Q : AFrame → AHeap → Prop} {lp : Nat} {args : List Value} (hw : wantA ops fr o = some true) (hc : yieldOf fr o = some (lp, args))
  (hr : AY P W0 lp args h fun v h' => ∃ fr', putDst N fr o.dst v = some fr' ∧ AOps P W0 N ops l fr' h' Q) : AOps P W0 N ops (o :: l) fr h Q := by
 intro cx nn m a w s K hK
 unfold yieldOf at hc
 split at hc
 ·rename_i f as ats hop
  split at hc
  ·rename_i g' first cap vs hf hvs
   injection hc with hc; simp only [Prod.mk.injEq] at hc; obtain ⟨rfl, rfl⟩ := hc
   have hfv := evalO_rel s.frame hf
   have hav := evalL_rel s.frame hvs
   unfold wpListIn
   rw [if_pos (wantA_rel s.frame hw)]
   refine wpIn_op (fun c e => by rw [hop] at e; cases e) ?_
   have key : ∃ first' cap', a.eval f = .func (.yield g') first' cap' ∧ VRs h.next m first.toList first'.toList := by
    generalize a.eval f = x at hfv
    cases hfv with
    | flat hf => simp [Fw.flat] at hf
    | func h1 h2 h3 h4 =>
     exact ⟨_, _, rfl, ⟨by simpa using h1, fun i v v' e e' => h3 i v v' (by simpa using e) (by simpa using e')⟩⟩
   obtain ⟨first', cap', hfe, hfr⟩ := key
   obtain ⟨f', tmps, assign, body, hrun0, hround⟩ := hr cx.ex cx.ro (nn - 1) m w (first'.toList ++ as.toList.map a.eval) s.rel (hfr.append hav)
   have hrun : (execOp a.eval o).run P w = .ok (.round g' f' tmps assign body) w := by
    have e1 : (first' ++ as.map a.eval) = (first'.toList ++ as.toList.map a.eval).toArray := by
     apply Array.toList_inj.1; simp
    simp only [execOp, hop, resolve, hfe, Deferred.ofValue, Sem.run_bind, Sem.run_pure, Result.andThen_ok, invoke, e1, hrun0]
   rw [hrun]
   refine ⟨(fun hx => by cases hx), hround.mono ?_⟩
   rintro e w' ⟨v, v', m', h', rfl, R', hag, hn, hv, fr', hp, hrest⟩
   exact hrest cx nn m' _ w' (s.put R' hag hn hv hp) K fun m2 fr2 h2 a2 w2 e1 e2 e3 e4 => hK m2 fr2 h2 a2 w2 (hag.trans e1 hn) (Nat.le_trans hn e2) e3 e4
  ·cases hc
 ·cases hc
def putPs : List Tmp → List Value → AFrame → AFrame
 | p :: ps, v :: vs, fr => putPs ps vs (fr.set p v)
 | _, _, fr => fr
theorem putPs_rel {n : Nat} {m : CMap} : ∀ {ps : List Tmp} {vs vs' : List Value} {fr : AFrame} {tmps : Array Value}, FR n m fr tmps → VRs n m vs vs' → (∀ p ∈ ps, p < tmps.size) →
  FR n m (putPs ps vs fr) ((ps.zip vs').foldl (fun tmps x => tmps.setIfInBounds x.1 x.2) tmps) ∧ ((ps.zip vs').foldl (fun tmps x => tmps.setIfInBounds x.1 x.2) tmps).size = tmps.size
 | [], vs, vs', fr, tmps, F, _, _ => ⟨by simpa [putPs] using F, rfl⟩
 | p :: ps, [], vs', fr, tmps, F, hv, _ => by
  have : vs' = [] := List.eq_nil_of_length_eq_zero (by rw [← hv.1]; rfl)
  subst this; exact ⟨by simpa [putPs] using F, rfl⟩
 | p :: ps, v :: vs, [], fr, tmps, F, hv, _ => by simp [VRs] at hv
 | p :: ps, v :: vs, v' :: vs', fr, tmps, F, hv, hp => by
  have h0 : VR n m v v' := hv.2 0 v v' rfl rfl
  have h1 : VRs n m vs vs' := by simpa using hv.drop 1
  have hpp := hp p (by simp)
  have F' : FR n m (fr.set p v) (tmps.setIfInBounds p v') := fun k u hu => by
   rw [Trie.get_set] at hu
   by_cases hk : k = p
   ·subst hk; rw [if_pos rfl] at hu; injection hu with hu; subst hu; exact ⟨v', by simp [hpp], h0⟩
   ·rw [if_neg hk] at hu
    obtain ⟨u', q1, q2⟩ := F k u hu
    exact ⟨u', by simp [Ne.symm hk, q1], q2⟩
  have := putPs_rel (ps := ps) F' h1 (fun q hq => by simpa using hp q (by simp [hq]))
  simpa [putPs] using this
theorem Rel.push {m : CMap} {w : World} {W : World} {n0 : Nat} {m0 : CMap} {rw : List (Nat × Obj)} (R : Rel ⟨W, rw, n0, m0⟩ m h w) (o : Obj) : Rel ⟨W, (w.heap.size, o) :: rw, n0, m0⟩ m h (w.alloc o) := by
 have hlt : ∀ x y, (x, y) ∈ rw → x < w.heap.size := fun x y hx => R.prot.lt hx
 have hsz : W.heap.size ≤ w.heap.size := R.size
 refine ⟨by have := R.size; simp at this ⊢; omega, fun k hk => ?_, R.ext, R.lt, R.new, fun i x hi => ?_, R.inj, R.os, R.output, R.tape, ⟨R.prot.agree, R.prot.next, ?_, fun x y hx => ?_, fun x y hx => ?_, fun x y i hx hi => ?_⟩⟩
 ·rw [heap_alloc_old w _ k (by have : k < W.heap.size := hk; omega)]; exact R.old k hk
 ·exact Rel.mono_obj (R.own i x hi) (Nat.le_refl _) (Agree.refl _ _) (heap_alloc_old w _ _ (R.blk_lt (by rw [hi]; simp)))
 ·rw [List.map_cons, List.nodup_cons]
  refine ⟨fun hx => ?_, R.prot.dist⟩
  obtain ⟨⟨x, y⟩, hm, he⟩ := List.mem_map.1 hx
  have := hlt x y hm; simp at he; omega
 ·rcases List.mem_cons.1 hx with hx | hx
  ·cases hx; exact hsz
  ·exact R.prot.hi x y hx
 ·rcases List.mem_cons.1 hx with hx | hx
  ·cases hx; exact heap_alloc_new w _
  ·rw [heap_alloc_old w _ x (hlt x y hx)]; exact R.prot.held x y hx
 ·rcases List.mem_cons.1 hx with hx | hx
  ·cases hx; have := R.blk_lt hi; omega
  ·exact R.prot.apart x y i hx hi
def recOf (st : LoopState) (f : FuncId) (tmps : Array Value) (ps : Array Tmp) (assign body : Code) (D : Nat) : Loop := { state := st, pending := none, fn := f, tmps := tmps, params := ps, assign := assign, body := body, defers := D }
theorem enter_rel {cx : Cx} {m : CMap} {a : Act} {w : World} (s : St W0 cx N m fr h a w) (f : FuncId) (ps : Array Tmp) (assign body : Code) :
  ∃ lp mark w1 D new, (Instr.enterLoop f a.tmps ps assign body cx.ro).run P w = .ok (lp, mark) w1 ∧ Rel (W0.add ((lp, .loop (recOf .ready f a.tmps ps assign body D)) :: (cx.more new).ex)) m h w1 ∧ mark ++ cx.ds = (cx.more new).ds := by
 cases hro : cx.ro with
 | none =>
  refine ⟨_, _, _, w.heap.size, [w.heap.size], run_enterLoop_outer f a.tmps ps assign body, ?_, ?_⟩
  ·have r1 : Rel ⟨W0.toWorld, cx.ex ++ W0.rw, W0.n0, W0.m0⟩ m h w := s.rel
   have r2 := (r1.push (.deferred (some []))).push (.loop (recOf .ready f a.tmps ps assign body w.heap.size))
   rw [World.size_alloc] at r2
   simpa [Base.add, Cx.more, hro, keepN, prOf, recOf] using r2
  ·simp [Cx.more, hro, keepN, mkOf]
 | some l' =>
  obtain ⟨r, hr⟩ := s.round l' hro
  have hheld : w.heap[l']? = some (.loop r) := s.rel.prot.held l' _ hr
  refine ⟨w.heap.size, [], w.alloc (.loop (recOf .ready f a.tmps ps assign body r.defers)), r.defers, [], ?_, ?_, ?_⟩
  ·unfold Instr.enterLoop
   simp only [Sem.run_bind, run_getLoop hheld, Result.andThen, Sem.run_pure, run_newObj_alloc]
   rfl
  ·have r1 : Rel ⟨W0.toWorld, cx.ex ++ W0.rw, W0.n0, W0.m0⟩ m h w := s.rel
   rw [Cx.more_nil]
   exact r1.push (.loop (recOf .ready f a.tmps ps assign body r.defers))
  ·rw [Cx.more_nil]; rfl
def Rnd (P : Program) (W0 : Base) (N : Nat) (ps : Array Tmp) (fr : AFrame) (assign body : Code) (args : List Value) (h : AHeap) (R : Value → AHeap → Prop) : Prop :=
 AWP P W0 N assign (putPs ps.toList args fr) h fun e fr2 h2 => e = .normal ∧ AWP P W0 N body fr2 h2 fun e _ h3 => e = .normal ∧ R (.bool true) h3
theorem zip_fold (ps : Array Tmp) (vs : List Value) (tmps : Array Value) : (ps.zip vs.toArray).foldl (fun tmps (x : Tmp × Value) => tmps.setIfInBounds x.1 x.2) tmps = (ps.toList.zip vs).foldl (fun tmps x => tmps.setIfInBounds x.1 x.2) tmps := by
 rw [← Array.foldl_toList, Array.toList_zip]
theorem AY.of_round {ps : Array Tmp} {assign body : Code} {m : CMap} {tmps : Array Value} {ex : List (Nat × Obj)} {lp D : Nat} {f : FuncId} {args : List Value} {h1 : AHeap} {R : Value → AHeap → Prop}
  (F : FR h.next m fr tmps) (hN : tmps.size = N) (hps : ∀ p ∈ ps.toList, p < N) (hlen : args.length = ps.size) (ha0 : Agree W0.n0 W0.m0 m) (hn0 : W0.n0 ≤ h.next) (hn1 : h.next ≤ h1.next) (hr : Rnd P W0 N ps fr assign body args h1 R) :
  AY P ⟨W0.toWorld, (lp, .loop (recOf .ready f tmps ps assign body D)) :: (ex ++ W0.rw), h.next, m⟩ lp args h1 R := by
 intro ex1 ro nn m1 w1 args' R1 va
 have q1 : Rel ⟨W0.toWorld, ex1 ++ (lp, .loop (recOf .ready f tmps ps assign body D)) :: (ex ++ W0.rw), h.next, m⟩ m1 h1 w1 := R1
 have hag1 : Agree h.next m m1 := q1.prot.agree
 have hheld := q1.prot.held lp _ (by simp : (lp, Obj.loop (recOf .ready f tmps ps assign body D)) ∈ ex1 ++ (lp, .loop (recOf .ready f tmps ps assign body D)) :: (ex ++ W0.rw))
 have hlen' : args'.length = ps.size := by rw [← va.1]; exact hlen
 refine ⟨f, _, assign, body, run_yield hheld (by simpa [recOf] using hlen'), ?_⟩
 have F1 := F.mono hn1 hag1
 have hput := putPs_rel (ps := ps.toList) F1 va (fun p hp => by rw [hN]; exact hps p hp)
 refine roundIn_of_wpIn trivial ?_
 have key : ∀ {st : LoopState} {m2 : CMap} {h2 : AHeap} {w2 : World}, Rel ⟨W0.toWorld, ex1 ++ (lp, .loop (recOf st f tmps ps assign body D)) :: (ex ++ W0.rw), h.next, m⟩ m2 h2 w2 →
   Rel (W0.add (ex1 ++ (lp, .loop (recOf st f tmps ps assign body D)) :: ex)) m2 h2 w2 := by
  intro st m2 h2 w2 r
  have := r.rebase (n1 := W0.n0) (m1 := W0.m0) (ha0.trans r.prot.agree hn0) (Nat.le_trans hn0 r.prot.next)
  simpa [Base.add] using this
 have back : ∀ {st : LoopState} {m2 : CMap} {h2 : AHeap} {w2 : World}, Rel (W0.add (ex1 ++ (lp, .loop (recOf st f tmps ps assign body D)) :: ex)) m2 h2 w2 → Agree h1.next m1 m2 → h1.next ≤ h2.next →
   Rel ⟨W0.toWorld, ex1 ++ (lp, .loop (recOf st f tmps ps assign body D)) :: (ex ++ W0.rw), h.next, m⟩ m2 h2 w2 := by
  intro st m2 h2 w2 r hag hn
  have r' : Rel ⟨W0.toWorld, ex1 ++ (lp, .loop (recOf st f tmps ps assign body D)) :: (ex ++ W0.rw), W0.n0, W0.m0⟩ m2 h2 w2 := by simpa [Base.add] using r
  exact r'.rebase (hag1.trans hag hn1) (Nat.le_trans hn1 hn)
 let cx1 : LoopState → Cx := fun st => ⟨ex1 ++ (lp, .loop (recOf st f tmps ps assign body D)) :: ex, [], some lp⟩
 have hmore : ∀ st new, (cx1 st).more new = cx1 st := fun st new => rfl
 have hround : ∀ st l, (cx1 st).ro = some l → ∃ r, (l, Obj.loop r) ∈ (cx1 st).ex ++ W0.rw := fun st l e => by
  have : lp = l := by injection e
  subst this; exact ⟨recOf st f tmps ps assign body D, by simp [cx1]⟩
 have s1 : St W0 (cx1 .ready) N m1 (putPs ps.toList args fr) h1 { tmps := (ps.zip args'.toArray).foldl (fun tmps (x : Tmp × Value) => tmps.setIfInBounds x.1 x.2) tmps, defers := [] } w1 := by
  rw [zip_fold]
  exact ⟨key q1, hput.1, rfl, hput.2.trans hN, hround _⟩
 refine hr (cx1 .ready) nn m1 _ w1 s1 _ fun new e m2 fr2 h2 a2 w2 hag2 hn2 s2 hq => ?_
 obtain ⟨rfl, hq⟩ := hq
 rw [hmore] at s2
 have q2 := back s2.rel hag2 hn2
 have hheld2 := q2.prot.held lp _ (by simp : (lp, Obj.loop (recOf .ready f tmps ps assign body D)) ∈ ex1 ++ (lp, .loop (recOf .ready f tmps ps assign body D)) :: (ex ++ W0.rw))
 refine ⟨_, run_beginRound hheld2 rfl, ?_⟩
 have q3 := q2.turn (.loop (recOf .busy f tmps ps assign body D))
 have s3 : St W0 (cx1 .busy) N m2 fr2 h2 a2 (w2.putObj lp (.loop (recOf .busy f tmps ps assign body D))) := ⟨key q3, s2.frame, s2.defers, s2.size, hround _⟩
 refine hq (cx1 .busy) nn m2 _ _ s3 _ fun new3 e3 m3 fr3 h3 a3 w3 hag3 hn3 s4 hq4 => ?_
 obtain ⟨rfl, hR⟩ := hq4
 rw [hmore] at s4
 have q4 := back s4.rel (hag2.trans hag3 hn2) (Nat.le_trans hn2 hn3)
 have hheld4 := q4.prot.held lp _ (by simp : (lp, Obj.loop (recOf .busy f tmps ps assign body D)) ∈ ex1 ++ (lp, .loop (recOf .busy f tmps ps assign body D)) :: (ex ++ W0.rw))
 refine ⟨_, _, run_endRound none hheld4, .bool true, .bool true, m3, h3, rfl, ?_, hag2.trans hag3 hn2, Nat.le_trans hn2 hn3, .flat rfl, hR⟩
 exact q4.turn (.loop (recOf .ready f tmps ps assign body D))
theorem AWP.rangeFunc {g : Operand} {ps : Array Tmp} {assign body : Code} {Q : Exit → AFrame → AHeap → Prop} {gf : FuncId} {fn : Func} {c : Code} {first cap : Array Value}
  (hg : evalO fr g = some (.func (.func gf) first cap)) (hgood : Good P gf fn c) (hps : ps.toList.all (fun p => Nat.blt p N) = true)
  (hit : ∀ (W1 : Base) (lp : Nat), (∀ (args : List Value) (h1 : AHeap) (R : Value → AHeap → Prop), args.length = ps.size → h.next ≤ h1.next → Rnd P W0 N ps fr assign body args h1 R → AY P W1 lp args h1 R) →
   AC P W1 gf (first.toList ++ [yieldV lp] ++ cap.toList) h fun _ h' => Q .normal fr h') : AWP P W0 N (.rangeFunc g ps assign body) fr h Q := by
 intro cx nn m a w s K hK
 refine wpIn_rangeFunc fun fn' _ => ?_
 obtain ⟨lp, mark, w1, D, new, henter, R1, hmark⟩ := enter_rel s fn' ps assign body
 have hgv := evalO_rel s.frame hg
 have key : ∃ first' cap', a.eval g = .func (.func gf) first' cap' ∧ VRs h.next m first.toList first'.toList ∧ VRs h.next m cap.toList cap'.toList := by
  generalize a.eval g = x at hgv
  cases hgv with
  | flat hf => simp [Fw.flat] at hf
  | func h1 h2 h3 h4 =>
   exact ⟨_, _, rfl, ⟨by simpa using h1, fun i v v' e e' => h3 i v v' (by simpa using e) (by simpa using e')⟩, ⟨by simpa using h2, fun i v v' e e' => h4 i v v' (by simpa using e) (by simpa using e')⟩⟩
 obtain ⟨first', cap', hfe, hfr, hcr⟩ := key
 have hps' : ∀ p ∈ ps.toList, p < N := fun p hp => by
  have := List.all_eq_true.1 hps p hp; simpa using this
 have ha0 : Agree W0.n0 W0.m0 m := s.rel.prot.agree
 have hn0 : W0.n0 ≤ h.next := s.rel.prot.next
 have hAC := hit ⟨W0.toWorld, (lp, .loop (recOf .ready fn' a.tmps ps assign body D)) :: ((cx.more new).ex ++ W0.rw), h.next, m⟩ lp
  (fun args h1 R hlen hn1 hr => AY.of_round s.frame s.size hps' hlen ha0 hn0 hn1 hr)
 have hcall := hAC [] m w1 (first'.toList ++ [yieldV lp] ++ cap'.toList) ?_ ((hfr.append (.cons (.func rfl rfl (fun i v v' e => by simp at e) (fun i v v' e => by simp at e)) (.nil _ _))).append hcr)
 ·refine ⟨lp, mark, w1, { target := .fn (.func gf) cap', args := first' ++ #[yieldV lp] }, w1, gf, (first'.toList ++ [yieldV lp] ++ cap'.toList).toArray, w1, henter, ?_, fun _ _ => trivial, ?_, (fun hx => by cases hx), callsIn_wideR (hcall.mono ?_)⟩
  ·simp only [resolve, hfe, Deferred.ofValue, Sem.run_pure]
   simp [Act.eval, yieldV]
  ·have e1 : first' ++ #[yieldV lp] ++ cap' = (first'.toList ++ [yieldV lp] ++ cap'.toList).toArray := by
    apply Array.toList_inj.1; simp
   simp only [invoke, callFunc, Sem.run_bind, Sem.run_pure, run_program, hgood.func, hgood.name, Bool.false_eq_true, if_false, hgood.body, Option.isNone_some, e1, Result.andThen_ok]
  ·rintro e w' ⟨v, v', m', h', rfl, R', hag, hn, hv, hq⟩
   have q1 : Rel ⟨W0.toWorld, [] ++ (lp, .loop (recOf .ready fn' a.tmps ps assign body D)) :: ((cx.more new).ex ++ W0.rw), h.next, m⟩ m' h' w' := R'
   have hheld := q1.prot.held lp _ (by simp : (lp, Obj.loop (recOf .ready fn' a.tmps ps assign body D)) ∈ [] ++ (lp, .loop (recOf .ready fn' a.tmps ps assign body D)) :: ((cx.more new).ex ++ W0.rw))
   refine ⟨none, _, run_endLoop hheld (by simp [recOf]), ?_⟩
   have q2 := (q1.turn (.loop { recOf .ready fn' a.tmps ps assign body D with state := .exhausted })).less.rebase (n1 := W0.n0) (m1 := W0.m0) (ha0.trans hag hn0) (Nat.le_trans hn0 hn)
   refine hK new .normal m' fr h' _ _ hag hn ⟨q2, s.frame.mono hn hag, ?_, s.size, fun l e => ?_⟩ hq
   ·show mark ++ a.defers = _
    rw [s.defers]; exact hmark
   ·obtain ⟨r, hr⟩ := s.round l e
    refine ⟨r, ?_⟩
    simp only [Cx.more, List.append_assoc, List.mem_append] at hr ⊢
    exact .inr hr
 ·have r1 : Rel ⟨W0.toWorld, (lp, .loop (recOf .ready fn' a.tmps ps assign body D)) :: ((cx.more new).ex ++ W0.rw), W0.n0, W0.m0⟩ m h w1 := R1
  exact r1.rebase (Agree.refl _ _) (Nat.le_refl _)
end Go.Fw
namespace Go.Fw
variable {P : Program} {W0 : Base} {N : Nat} {ops : Array Oper} {l : List Oper} {fr : AFrame} {h : AHeap}
def isCall (o : Oper) : Bool :=
 match o.op with
 | .call { callee := .value _, .. } => true
 | _ => false
end Go.Fw
