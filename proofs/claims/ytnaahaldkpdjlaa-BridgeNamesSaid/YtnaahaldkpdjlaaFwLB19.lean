/- A text of the proof. -/
import Derived.Test.YtnaahaldkpdjlaaFwLB18
import Derived.Test.YtnaahaldkpdjlaaFwLW1
set_option linter.unusedSimpArgs false
set_option linter.unusedVariables false
namespace Go.Fw
open Go.Proofs
set_option maxHeartbeats 4000000
set_option maxRecDepth 10000
inductive Gw (es web : List Pr) (e : Pr) : Nat → Prop
 | base {i : Nat} : es[i]? = some e → Gw es web e i
 | step {i k : Nat} {p q : Pr} : Gw es web e k → es[i]? = some p → es[k]? = some q → meetB p q web = true → Gw es web e i
def selM (es : List Pr) (S : List Bool) : Nat → List Pr
  | 0 => []
  | i + 1 => match es[i]? with
    | some p => if S.getD i false = true then selM es S i ++ [p] else selM es S i
    | none => selM es S i
theorem selM_length (es : List Pr) (S : List Bool) (i : Nat) : (selM es S i).length ≤ i := by
 induction i with
 | zero => simp [selM]
 | succ i ih =>
  simp only [selM]
  split
  ·split
   ·simp; omega
   ·omega
  ·omega
structure GI1 (es web : List Pr) (e : Pr) (S : List Bool) : Prop where
 len : S.length = es.length
 ok : ∀ i, S[i]? = some true → Gw es web e i
def Cl (es web : List Pr) (e : Pr) (S : List Bool) (i : Nat) : Prop := ∀ p, es[i]? = some p → S[i]? = some false → p ≠ e ∧ ∀ (k : Nat) q, es[k]? = some q → S[k]? = some true → meetB p q web = false
theorem GI1.full {es web : List Pr} {e : Pr} {S : List Bool} (g : GI1 es web e S) (h : ∀ i, i < es.length → Cl es web e S i) (i : Nat) : S[i]? = some true ↔ Gw es web e i := by
 refine ⟨g.ok i, fun w => ?_⟩
 have not_f : ∀ i p, es[i]? = some p → S[i]? = some true ∨ S[i]? = some false := fun i p hp => by
  have := getElem?_of (show i < S.length by rw [g.len]; exact (List.getElem?_eq_some_iff.1 hp).1)
  rw [this]; cases S[i]'(by rw [g.len]; exact (List.getElem?_eq_some_iff.1 hp).1) <;> simp
 induction w with
 | base hb =>
  rcases not_f _ _ hb with h1 | h1
  ·exact h1
  ·exact absurd rfl (h _ (List.getElem?_eq_some_iff.1 hb).1 _ hb h1).1
 | step _ hp hq hm ih =>
  rcases not_f _ _ hp with h1 | h1
  ·exact h1
  ·have := (h _ (List.getElem?_eq_some_iff.1 hp).1 _ hp h1).2 _ _ hq ih
   rw [hm] at this; cases this
end Go.Fw
namespace Go.Fw
open Go.Proofs
set_option maxHeartbeats 4000000
set_option maxRecDepth 10000
def rfeet (web l : List Pr) (n : Nat) : List Nat := (List.range n).filter fun v => onE web (v : Int) && onE l (v : Int)
theorem rfeet_length (web l : List Pr) (n : Nat) : (rfeet web l n).length ≤ n := by
 have := List.length_filter_le (fun v : Nat => onE web (v : Int) && onE l (v : Int)) (List.range n)
 simpa [rfeet] using this
structure SelP (es web : List Pr) (e : Pr) (S : List Bool) : Prop where
 len : S.length = es.length
 iff : ∀ j, S[j]? = some true ↔ Gw es web e j
inductive RO (es web : List Pr) (n : Nat) : Nat → List FM → List Pr → Prop
  | nil : RO es web n 0 [] []
  | skip {i : Nat} {fs : List FM} {done : List Pr} {p : Pr} : RO es web n i fs done → es[i]? = some p → (p ∈ web ∨ p ∈ done) → RO es web n (i + 1) fs done
  | take {i : Nat} {fs : List FM} {done : List Pr} {p : Pr} {S : List Bool} : RO es web n i fs done → es[i]? = some p → p ∉ web → p ∉ done → SelP es web p S →
      RO es web n (i + 1) (fs ++ [⟨selM es S es.length, nat64 (rfeet web (selM es S es.length) n)⟩]) (done ++ selM es S es.length)
theorem RO.len {es web : List Pr} {n i : Nat} {fs : List FM} {done : List Pr} (r : RO es web n i fs done) : done.length ≤ i * es.length ∧ fs.length ≤ i := by
 induction r with
 | nil => simp
 | skip _ _ _ ih => rw [Nat.succ_mul]; omega
 | @take i fs done p S _ _ _ _ _ ih =>
  have := selM_length es S es.length
  simp only [List.length_append, List.length_cons, List.length_nil, Nat.succ_mul]; omega
structure FG (b0 h : AHeap) (ov dv : Value) (fs : List FM) (done : List Pr) : Prop where
 ex : ∃ (f : AHeap) (c : List Value), GS 2 h ov fs.length c ∧ c.all (·.oneCell') = true ∧ Le b0 f ∧ Le f h ∧ Apart f ov ∧ Apart f dv ∧
  ∀ (i : Nat) x, fs[i]? = some x → ∃ a b, c[i * 2]? = some a ∧ c[i * 2 + 1]? = some b ∧ PR f a x.edges ∧ RL isI f b x.feet
 gd : GP h dv done
 ne : ∀ b, blk ov = some b → blk dv ≠ some b
theorem FG.le {b0 h : AHeap} {ov dv : Value} {fs : List FM} {done : List Pr} (r : FG b0 h ov dv fs done) : Le b0 h := by
 obtain ⟨f, c, _, _, l1, l2, _⟩ := r.ex; exact l1.trans l2
theorem FG.up {b0 h h' : AHeap} {ov dv : Value} {fs : List FM} {done : List Pr} (r : FG b0 h ov dv fs done) (e : Le h h') : FG b0 h' ov dv fs done := by
 obtain ⟨⟨f, c, g, c1, l1, l2, r⟩, gd, ne⟩ := r
 exact ⟨⟨f, c, g.le e, c1, l1, l2.trans e, r⟩, gd.le e, ne⟩
theorem FG.start (h : AHeap) : FG h h (.slice none 0 0) (.slice none 0 0) [] [] :=
 ⟨⟨h, [], GS.nil 2 h, rfl, Le.refl h, Le.refl h, fun b hb => by simp [blk] at hb, fun b hb => by simp [blk] at hb, fun i x hx => by simp at hx⟩, GP.nil h, fun b hb => by simp [blk] at hb⟩
theorem FG.join {b0 h : AHeap} {ov dv lv : Value} {fs : List FM} {done l : List Pr} (r : FG b0 h ov dv fs done) (hwf : WF h) (gl : GP h lv l) (hl : ∀ b, blk lv = some b → blk ov ≠ some b ∧ blk dv ≠ some b) (hn : done.length + l.length ≤ 1000000000) :
  ∃ dv' h', aAppend Try.prog h 22 22 dv lv = some (dv', h') ∧ WF h' ∧ FG b0 h' ov dv' fs (done ++ l) ∧ GP h' lv l ∧ ∀ b, blk lv = some b → blk ov ≠ some b ∧ blk dv' ≠ some b := by
 obtain ⟨⟨f, c, g, c1, l1, l2, ao, ad, hx⟩, gd, ne⟩ := r
 obtain ⟨dv', h5, e5, g5, w5, hf, hk⟩ := gd.join hwf gl.pr hn
 obtain ⟨lf5, ad5⟩ := hf f l2 ad
 refine ⟨dv', h5, e5, w5, ⟨⟨f, c, GS.kept g fun b o hb ho => (hk b o ho (ne b hb)).1, c1, l1, lf5, ao, ad5, hx⟩, g5, fun b hb => ?_⟩, GS.kept gl fun b o hb ho => (hk b o ho (hl b hb).2).1, fun b hb => ⟨(hl b hb).1, ?_⟩⟩
 ·obtain ⟨o, ho⟩ := Option.ne_none_iff_exists'.1 (GS.blk_own g hb)
  exact (hk b o ho (ne b hb)).2
 ·obtain ⟨o, ho⟩ := Option.ne_none_iff_exists'.1 (GS.blk_own gl hb)
  exact (hk b o ho (hl b hb).2).2
end Go.Fw
namespace Go.Fw
open Go.Proofs
set_option maxHeartbeats 8000000
set_option maxRecDepth 10000
structure WebR (n : Int) (es web : List Pr) : Prop where
 right : RightG ⟨n, web⟩
 mem : ∀ p ∈ web, p ∈ es
end Go.Fw
namespace Go.Fw
open Go.Proofs
attribute [local irreducible] KO4 KO3 KO2 KO1 KO KN KX KE VK KCond KDraw KCall KLoop
set_option maxHeartbeats 4000000
set_option maxRecDepth 10000
theorem FL.len {h : AHeap} {v : Value} {fs : List FM} (r : FL h v fs) (g : AHeap) : aLen Try.prog g 35 v = some (.int .i64 fs.length) := by
 obtain ⟨cs, c, _⟩ := r
 obtain ⟨a, k, rfl, _⟩ := c.sl; simp [aLen, Try.underlying35]
def fAddr (v : Value) (i : Nat) : Addr := elemAddr v (i * 2)
theorem FL.addr {h : AHeap} {v : Value} {fs : List FM} (r : FL h v fs) {k : IntKind} (i : Nat) (hi : i < fs.length) : aIndexAddr Try.prog 35 v (.int k i) = some (.pointer (some (fAddr v i))) := by
 obtain ⟨cs, c, _⟩ := r
 obtain ⟨a, k, rfl, hs⟩ := c.sl
 obtain ⟨a, rfl⟩ := Option.isSome_iff_exists.1 (hs (by omega))
 have h1 : (i : Int) < (fs.length : Int) := by omega
 simp [aIndexAddr, Try.underlying35, Try.underlying40, h1, fAddr, elemAddr, ts41]
theorem ff0 (a : Addr) : aField Try.prog 40 (.pointer (some a)) 0 = some (.pointer (some (aadd a 0))) := rfl
theorem ff1 (a : Addr) : aField Try.prog 40 (.pointer (some a)) 1 = some (.pointer (some (aadd a 1))) := rfl
theorem FL.get {h : AHeap} {v : Value} {fs : List FM} (r : FL h v fs) {i : Nat} {f : FM} (hf : fs[i]? = some f) :
  ∃ a b, (∀ g, Le h g → aload Try.prog g 22 (aadd (fAddr v i) 0) = some a ∧ aload Try.prog g 38 (aadd (fAddr v i) 1) = some b) ∧ PR h a f.edges ∧ RL isI h b f.feet := by
 obtain ⟨cs, c, hx⟩ := r
 obtain ⟨a, b, q1, q2, q3, q4⟩ := hx i f hf
 refine ⟨a, b, fun g l => ?_, q3, q4⟩
 have g1 := c.get _ _ q1
 have g2 := c.get _ _ q2
 obtain ⟨ad, k, rfl, hs⟩ := c.sl
 obtain ⟨ad, rfl⟩ := Option.isSome_iff_exists.1 (hs (by have := (List.getElem?_eq_some_iff.1 hf).1; omega))
 rw [aload_flat Try.underlying22 rfl, aload_flat Try.underlying38 rfl]
 rw [elemAddr_mk] at g1 g2
 refine ⟨?_, ?_⟩
 ·rw [fAddr, elemAddr_mk, aadd_aadd, Nat.add_zero]; exact l.read g1
 ·rw [fAddr, elemAddr_mk, aadd_aadd]; exact l.read g2
theorem Same_any (W0 : Base) (v w : Value) (fs gs : List FM) (h : AHeap) (hv : FL h v fs) (hw : FL h w gs) (hn : fs.length ≤ 100000) (hb : ∀ f ∈ fs, f.edges.length ≤ 100000 ∧ f.feet.length ≤ 100000) : AC Try.prog W0 58 [v, w] h fun x h' => BoolIs (fs = gs) x ∧ Le h h' := by
 refine AC.vc (fn := Try.f58) (c := _) ⟨Try.func58, rfl, by decide⟩ Try.ntmps58 Try.results58 (by simp) fun hwf => ?_
 simp only [argFrame, argFrom, Nat.reduceAdd]
 have lv := fun g => hv.len g
 have lw := fun g => hw.len g
 by_cases c : (fs.length : Int) = (gs.length : Int)
 rotate_left
 ·simp only [kS1, bLookup, bMapSet, wantA, isCall, stepOp, evalO, evalL, evalP, evalM, putDst, flat, kA, kB, Nat.reduceLT, ↓reduceIte, kC, Nat.reduceEqDiff, aBuiltin, abinG, guardFree, abin, aInt, aUn, aNilCheck, retQ, retQ1, aresults, aresultL, aresult, mkF, undefV, reduceCtorEq, kD, kE, kF, kG, kH, kI, kJ, kK, aExtract, calleeOf, lv, lw, bne, eq_false c]
  exact ⟨.f fun e => c (by rw [e]), Le.refl _⟩
 have c' : fs.length = gs.length := by omega
 simp only [kS1, bLookup, bMapSet, wantA, isCall, stepOp, evalO, evalL, evalP, evalM, putDst, flat, kA, kB, Nat.reduceLT, ↓reduceIte, kC, Nat.reduceEqDiff, aBuiltin, abinG, guardFree, abin, aInt, aUn, aNilCheck, retQ, retQ1, aresults, aresultL, aresult, mkF, undefV, reduceCtorEq, kD, kE, kF, kG, kH, kI, kJ, kK, aExtract, calleeOf, lv, lw, bne, eq_true c]
 refine KLoop.intro (fun k fr hh => ∃ i : Nat, k = fs.length - i ∧ i ≤ fs.length ∧ fr = mkF [(0, v), (1, w), (12, .int .i64 fs.length), (13, .int .i64 i)] ∧ Le h hh ∧ fs.take i = gs.take i)
  fs.length [(0, v), (1, w), (12, .int .i64 fs.length), (13, .int .i64 (0 : Nat))] (by simp only [hasAll, kS1, bLookup, bMapSet, wantA, isCall, stepOp, evalO, evalL, evalP, evalM, putDst, flat, kA, kB, Nat.reduceLT, ↓reduceIte, kC, Nat.reduceEqDiff, aBuiltin, abinG, guardFree, abin, aInt, aUn, aNilCheck, retQ, retQ1, aresults, aresultL, aresult, mkF, undefV, reduceCtorEq, kD, kE, kF, kG, kH, kI, kJ, kK, aExtract, calleeOf]; simp) ⟨0, rfl, Nat.zero_le _, rfl, Le.refl _, rfl⟩ ?_
 rintro k fr hh hwh ⟨i, rfl, hi, rfl, leh, he⟩
 simp only [kS1, bLookup, bMapSet, wantA, isCall, stepOp, evalO, evalL, evalP, evalM, putDst, flat, kA, kB, Nat.reduceLT, ↓reduceIte, kC, Nat.reduceEqDiff, aBuiltin, abinG, guardFree, abin, aInt, aUn, aNilCheck, retQ, retQ1, aresults, aresultL, aresult, mkF, undefV, reduceCtorEq, kD, kE, kF, kG, kH, kI, kJ, kK, aExtract, calleeOf]
 refine KCond.intro (fun ht => ?_) (fun hf => ?_)
 rotate_left
 ·have hge : fs.length ≤ i := lt_f hf
  rw [List.take_of_length_le hge, List.take_of_length_le (by omega)] at he
  simp only [kS1, bLookup, bMapSet, wantA, isCall, stepOp, evalO, evalL, evalP, evalM, putDst, flat, kA, kB, Nat.reduceLT, ↓reduceIte, kC, Nat.reduceEqDiff, aBuiltin, abinG, guardFree, abin, aInt, aUn, aNilCheck, retQ, retQ1, aresults, aresultL, aresult, mkF, undefV, reduceCtorEq, kD, kE, kF, kG, kH, kI, kJ, kK, aExtract, calleeOf]
  exact ⟨.t he, leh⟩
 have hlt : i < fs.length := lt_t ht
 clear ht
 have hfi := getElem?_of hlt
 have hgi := getElem?_of (show i < gs.length by omega)
 have t1 : fs.take (i + 1) = fs.take i ++ [fs[i]] := List.take_succ_eq_append_getElem hlt
 have t2 : gs.take (i + 1) = gs.take i ++ [gs[i]'(by omega)] := List.take_succ_eq_append_getElem (by omega)
 generalize fs[i] = f at hfi t1
 generalize gs[i]'(by omega) = g at hgi t2
 obtain ⟨a, b, hab, pa, pb⟩ := hv.get hfi
 obtain ⟨x, y, hxy, px, py⟩ := hw.get hgi
 have a1 := hv.addr (k := .i64) i hlt
 have a2 := hw.addr (k := .i64) i (by omega)
 obtain ⟨be, bf⟩ := hb f (List.mem_of_getElem? hfi)
 have L1 := hab hh leh
 have L2 := hxy hh leh
 have bad : f ≠ g → ¬ fs = gs := fun hne e => hne (by subst e; rw [hfi] at hgi; injection hgi)
 simp only [kS1, bLookup, bMapSet, wantA, isCall, stepOp, evalO, evalL, evalP, evalM, putDst, flat, kA, kB, Nat.reduceLT, ↓reduceIte, kC, Nat.reduceEqDiff, aBuiltin, abinG, guardFree, abin, aInt, aUn, aNilCheck, retQ, retQ1, aresults, aresultL, aresult, mkF, undefV, reduceCtorEq, kD, kE, kF, kG, kH, kI, kJ, kK, aExtract, calleeOf]
 refine KDraw.intro mixed (.fl 0 (.fl 1 (.fl 2 (.fl 3 (.fl 4 (.fl 5 (.fl 6 (.fl 7 (.fl 8 (.fl 9 (.ch 10 [4, 9] (.fl 11 (.fl 12 (.fl 13 (.fl 14 (.fl 15 (.fl 16 (.fl 17 (.fl 18 (.fl 19 (.fl 20 (.fl 21 (.fl 22 (.ch 23 [12, 17, 22] (.fl 24 (.fl 25 (.done))) .no))))))))))))) .no))))))))))) (by kernel_rfl) ?_
 simp only [kS1, bLookup, bMapSet, wantA, isCall, stepOp, evalO, evalL, evalP, evalM, putDst, flat, kA, kB, Nat.reduceLT, ↓reduceIte, kC, Nat.reduceEqDiff, aBuiltin, abinG, guardFree, abin, aInt, aUn, aNilCheck, retQ, retQ1, aresults, aresultL, aresult, mkF, undefV, reduceCtorEq, kD, kE, kF, kG, kH, kI, kJ, kK, aExtract, calleeOf, kD1, Nat.reduceBEq, HoldsAll, kL, kM, kN, kO, a1, a2, ff0, L1.1, L2.1]
 refine KGCall.intro (by simp only [kS1, bLookup, bMapSet, wantA, isCall, stepOp, evalO, evalL, evalP, evalM, putDst, flat, kA, kB, Nat.reduceLT, ↓reduceIte, kC, Nat.reduceEqDiff, aBuiltin, abinG, guardFree, abin, aInt, aUn, aNilCheck, retQ, retQ1, aresults, aresultL, aresult, mkF, undefV, reduceCtorEq, kD, kE, kF, kG, kH, kI, kJ, kK, aExtract, calleeOf] <;> rfl) ⟨Try.func24, rfl, by decide⟩ (SamePairs_any W0 a x f.edges g.edges hh (pa.le leh) (px.le leh) be) ?_
 rintro z h2 w2 ⟨rfl, rfl⟩
 by_cases c1 : f.edges = g.edges
 rotate_left
 ·have hne : decide (f.edges = g.edges) = false := decide_eq_false c1
  simp only [kS1, bLookup, bMapSet, wantA, isCall, stepOp, evalO, evalL, evalP, evalM, putDst, flat, kA, kB, Nat.reduceLT, ↓reduceIte, kC, Nat.reduceEqDiff, aBuiltin, abinG, guardFree, abin, aInt, aUn, aNilCheck, retQ, retQ1, aresults, aresultL, aresult, mkF, undefV, reduceCtorEq, kD, kE, kF, kG, kH, kI, kJ, kK, aExtract, calleeOf, kD1, Nat.reduceBEq, HoldsAll, kL, kM, kN, kO, a1, a2, ff0, L1.1, L2.1, hne]
  exact ⟨.f (bad fun e => c1 (by rw [e])), leh⟩
 have hye : decide (f.edges = g.edges) = true := decide_eq_true c1
 simp only [kS1, bLookup, bMapSet, wantA, isCall, stepOp, evalO, evalL, evalP, evalM, putDst, flat, kA, kB, Nat.reduceLT, ↓reduceIte, kC, Nat.reduceEqDiff, aBuiltin, abinG, guardFree, abin, aInt, aUn, aNilCheck, retQ, retQ1, aresults, aresultL, aresult, mkF, undefV, reduceCtorEq, kD, kE, kF, kG, kH, kI, kJ, kK, aExtract, calleeOf, kD1, Nat.reduceBEq, HoldsAll, kL, kM, kN, kO, a1, a2, ff0, ff1, L1.1, L2.1, L1.2, L2.2, hye]
 refine KGCall.intro (by simp only [kS1, bLookup, bMapSet, wantA, isCall, stepOp, evalO, evalL, evalP, evalM, putDst, flat, kA, kB, Nat.reduceLT, ↓reduceIte, kC, Nat.reduceEqDiff, aBuiltin, abinG, guardFree, abin, aInt, aUn, aNilCheck, retQ, retQ1, aresults, aresultL, aresult, mkF, undefV, reduceCtorEq, kD, kE, kF, kG, kH, kI, kJ, kK, aExtract, calleeOf] <;> rfl) ⟨Try.func25, rfl, by decide⟩ (SameInts_any W0 b y f.feet g.feet h2 (pb.le Stays.isI leh) (py.le Stays.isI leh) bf) ?_
 rintro z h3 w3 ⟨rfl, rfl⟩
 by_cases c2 : f.feet = g.feet
 rotate_left
 ·have hne : decide (f.feet = g.feet) = false := decide_eq_false c2
  simp only [kS1, bLookup, bMapSet, wantA, isCall, stepOp, evalO, evalL, evalP, evalM, putDst, flat, kA, kB, Nat.reduceLT, ↓reduceIte, kC, Nat.reduceEqDiff, aBuiltin, abinG, guardFree, abin, aInt, aUn, aNilCheck, retQ, retQ1, aresults, aresultL, aresult, mkF, undefV, reduceCtorEq, kD, kE, kF, kG, kH, kI, kJ, kK, aExtract, calleeOf, kD1, Nat.reduceBEq, HoldsAll, kL, kM, kN, kO, a1, a2, ff0, ff1, L1.1, L2.1, L1.2, L2.2, hye, hne]
  exact ⟨.f (bad fun e => c2 (by rw [e])), leh⟩
 have hye2 : decide (f.feet = g.feet) = true := decide_eq_true c2
 have hfg : f = g := by obtain ⟨_, _⟩ := f; obtain ⟨_, _⟩ := g; simp only at c1 c2; rw [c1, c2]
 simp only [kS1, bLookup, bMapSet, wantA, isCall, stepOp, evalO, evalL, evalP, evalM, putDst, flat, kA, kB, Nat.reduceLT, ↓reduceIte, kC, Nat.reduceEqDiff, aBuiltin, abinG, guardFree, abin, aInt, aUn, aNilCheck, retQ, retQ1, aresults, aresultL, aresult, mkF, undefV, reduceCtorEq, kD, kE, kF, kG, kH, kI, kJ, kK, aExtract, calleeOf, kD1, Nat.reduceBEq, HoldsAll, kL, kM, kN, kO, a1, a2, ff0, ff1, L1.1, L2.1, L1.2, L2.2, hye, hye2, awrap_succ i (by omega)]
 exact loop_again (fs.length - (i + 1)) [(0, v), (1, w), (12, .int .i64 fs.length), (13, .int .i64 (i + 1 : Nat))] (by omega) (by simp only [hasAll, kS1, bLookup, bMapSet, wantA, isCall, stepOp, evalO, evalL, evalP, evalM, putDst, flat, kA, kB, Nat.reduceLT, ↓reduceIte, kC, Nat.reduceEqDiff, aBuiltin, abinG, guardFree, abin, aInt, aUn, aNilCheck, retQ, retQ1, aresults, aresultL, aresult, mkF, undefV, reduceCtorEq, kD, kE, kF, kG, kH, kI, kJ, kK, aExtract, calleeOf]; simp) ⟨i + 1, rfl, hlt, rfl, leh, by rw [t1, t2, he, hfg]⟩
end Go.Fw
