/- One of the texts of the layer and the walks: it proves what its theorems say of the functions of the seat, with no condition beyond theirs. -/
import Derived.Test.YtmgcmoifdnkaoaaFwLN5
import Derived.Test.YtmgcmoifdnkaoaaFwLT9
set_option linter.unusedSimpArgs false
set_option linter.unusedVariables false
namespace Go.Fw
open Go.Proofs
set_option maxHeartbeats 16000000
set_option maxRecDepth 10000
def Ct (v : Value) (n : Nat) : Prop := ∃ a cap, v = .slice a n cap ∧ ((cap < UNK ∧ n ≤ cap) ∨ (cap = UNK + 2 ∧ a.isSome))
theorem GP.ct {h : AHeap} {v : Value} {ps : List Pr} (g : GP h v ps) : Ct v ps.length := by
  obtain ⟨_, ⟨rfl, h0⟩ | ⟨id, c, cap, rfl, _, _, hc⟩⟩ := g
  · exact ⟨none, 0, by rw [h0], .inl ⟨by decide, by omega⟩⟩
  · refine ⟨_, cap, rfl, ?_⟩
    rcases hc with hc | ⟨rfl, hl⟩
    · exact .inr ⟨hc, rfl⟩
    · exact .inl ⟨Nat.lt_of_lt_of_le hl (by decide), Nat.le_refl _⟩
theorem flatP_take (ps : List Pr) (i : Nat) : flatP (ps.take i) = (flatP ps).take (i * 2) := by
  induction ps generalizing i with
  | nil => simp [flatP]
  | cons p ps ih =>
    cases i with
    | zero => simp [flatP]
    | succ i =>
      have e : flatP (p :: ps) = .int .i64 p.1 :: .int .i64 p.2 :: flatP ps := rfl
      have e' : flatP (p :: ps.take i) = .int .i64 p.1 :: .int .i64 p.2 :: flatP (ps.take i) := rfl
      rw [List.take_succ_cons, e', e, ih, show (i + 1) * 2 = i * 2 + 1 + 1 by omega, List.take_succ_cons, List.take_succ_cons]
theorem flatP_drop (ps : List Pr) (i : Nat) : flatP (ps.drop i) = (flatP ps).drop (i * 2) := by
  induction ps generalizing i with
  | nil => simp [flatP]
  | cons p ps ih =>
    cases i with
    | zero => simp [flatP]
    | succ i =>
      have e : flatP (p :: ps) = .int .i64 p.1 :: .int .i64 p.2 :: flatP ps := rfl
      rw [List.drop_succ_cons, e, ih, show (i + 1) * 2 = i * 2 + 1 + 1 by omega, List.drop_succ_cons, List.drop_succ_cons]
theorem PR.take {h : AHeap} {a a' : Option Addr} {ps : List Pr} {cap cap' : Nat} (r : PR h (.slice a ps.length cap) ps) {i : Nat} (hi : i ≤ ps.length) (ha : 0 < i → ∀ x, a = some x → a' = some (aadd x 0)) : PR h (.slice a' i cap') (ps.take i) := by
  obtain ⟨_, _, e, hs⟩ := r.sl
  injection e with e1 e2 e3
  subst e1
  have hl : (ps.take i).length = i := by rw [List.length_take]; omega
  refine ⟨⟨a', cap', by rw [hl], fun h0 => ?_⟩, flatP_length _, fun j x hx => ?_⟩
  · rw [hl] at h0
    obtain ⟨y, hy⟩ := Option.isSome_iff_exists.1 (hs (by omega))
    rw [ha h0 y hy]; rfl
  · rw [flatP_take, List.getElem?_take] at hx
    split at hx
    · obtain ⟨y, hy⟩ := Option.isSome_iff_exists.1 (hs (by omega))
      have := CS.get r j x hx
      subst hy
      rw [ha (by omega) y rfl, elemAddr_mk]
      simpa [elemAddr_mk, aadd] using this
    · cases hx
theorem PR.drop {h : AHeap} {a a' : Option Addr} {ps : List Pr} {cap cap' : Nat} (r : PR h (.slice a ps.length cap) ps) {i m : Nat} (hi : i ≤ ps.length) (hm : m = ps.length - i) (ha : i < ps.length → ∀ x, a = some x → a' = some (aadd x (i * 2))) : PR h (.slice a' m cap') (ps.drop i) := by
  obtain ⟨_, _, e, hs⟩ := r.sl
  injection e with e1 e2 e3
  subst e1
  subst hm
  have hl : (ps.drop i).length = ps.length - i := List.length_drop
  refine ⟨⟨a', cap', by rw [hl], fun h0 => ?_⟩, flatP_length _, fun j x hx => ?_⟩
  · rw [hl] at h0
    obtain ⟨y, hy⟩ := Option.isSome_iff_exists.1 (hs (by omega))
    rw [ha (by omega) y hy]; rfl
  · rw [flatP_drop, List.getElem?_drop] at hx
    have hlt := (List.getElem?_eq_some_iff.1 hx).1
    rw [flatP_length] at hlt
    obtain ⟨y, hy⟩ := Option.isSome_iff_exists.1 (hs (by omega))
    have := CS.get r _ x hx
    subst hy
    rw [ha (by omega) y rfl, elemAddr_mk]
    simpa [elemAddr_mk, aadd, Nat.add_assoc] using this
theorem PR.lo {h : AHeap} {v : Value} {ps : List Pr} (r : PR h v ps) (ct : Ct v ps.length) {i : Nat} (hi : i ≤ ps.length) : ∃ v', aSlice Try.prog 22 v none (some (.int .i64 i)) none = some v' ∧ PR h v' (ps.take i) := by
  obtain ⟨a, cap, rfl, ⟨h1, h2⟩ | ⟨rfl, h1⟩⟩ := ct
  · have n1 : (i : Int) ≤ cap := by omega
    have n0 : (0 : Int) ≤ i := by omega
    have hno : ¬ UNK ≤ cap := by omega
    have he : aSlice Try.prog 22 (.slice a ps.length cap) none (some (.int .i64 i)) none = some (.slice (if cap = 0 then a else a.map (fun a => aadd a 0)) i cap) := by
      simp [aSlice, Try.underlying22, Try.underlying45, ts42, aBounds, aBound, n0, n1, hno, h2]
    refine ⟨_, he, r.take hi fun h0 x hx => ?_⟩
    subst hx
    have : cap ≠ 0 := by omega
    simp [this]
  · obtain ⟨a, rfl⟩ := Option.isSome_iff_exists.1 h1
    have n1 : (i : Int) ≤ ps.length := by omega
    have n0 : (0 : Int) ≤ i := by omega
    have he : aSlice Try.prog 22 (.slice (some a) ps.length (UNK + 2)) none (some (.int .i64 i)) none = some (.slice (some (aadd a 0)) i (UNK + 2)) := by
      simp [aSlice, Try.underlying22, Try.underlying45, ts42, aBounds, aBound, n0, n1]
    exact ⟨_, he, r.take hi fun h0 x hx => by injection hx with hx; rw [hx]⟩
theorem PR.up {h : AHeap} {v : Value} {ps : List Pr} (r : PR h v ps) (ct : Ct v ps.length) {i : Nat} (hi : i ≤ ps.length) : ∃ v', aSlice Try.prog 22 v (some (.int .i64 i)) none none = some v' ∧ PR h v' (ps.drop i) := by
  obtain ⟨a, cap, rfl, ⟨h1, h2⟩ | ⟨rfl, h1⟩⟩ := ct
  · have n1 : (i : Int) ≤ ps.length := by omega
    have n0 : (0 : Int) ≤ i := by omega
    have hno : ¬ UNK ≤ cap := by omega
    have he : aSlice Try.prog 22 (.slice a ps.length cap) (some (.int .i64 i)) none none = some (.slice (if cap = i then a else a.map (fun a => aadd a (i * 2))) (ps.length - i) (cap - i)) := by
      simp [aSlice, Try.underlying22, Try.underlying45, ts42, aBounds, aBound, n0, n1, hno, h2]
    refine ⟨_, he, r.drop hi rfl fun h0 x hx => ?_⟩
    subst hx
    have : cap ≠ i := by omega
    simp [this]
  · obtain ⟨a, rfl⟩ := Option.isSome_iff_exists.1 h1
    have n1 : (i : Int) ≤ ps.length := by omega
    have n0 : (0 : Int) ≤ i := by omega
    have he : aSlice Try.prog 22 (.slice (some a) ps.length (UNK + 2)) (some (.int .i64 i)) none none = some (.slice (some (aadd a (i * 2))) (ps.length - i) (UNK + 2)) := by
      simp [aSlice, Try.underlying22, Try.underlying45, ts42, aBounds, aBound, n0, n1]
    exact ⟨_, he, r.drop hi rfl fun h0 x hx => by injection hx with hx; rw [hx]⟩
theorem GX.join {h : AHeap} {X : Nat} {n : Int} {ev x : Value} {ps qs : List Pr} (g : GX h X n ev ps) (hw : WF h) (hx : PR h x qs) (hn : ps.length + qs.length ≤ 1000000000) :
    ∃ v' h5 h6, aAppend Try.prog h 22 22 ev x = some (v', h5) ∧ aStore Try.prog h5 22 (.pointer (some ⟨X, 1, none⟩)) v' = some h6 ∧
      GX h6 X n v' (ps ++ qs) ∧ WF h6 ∧ (∀ f, Le f h → f.own X = none → Apart f ev → Le f h6 ∧ Apart f v') ∧ (∀ f, Le f h → Apart f ev → Le f h5) ∧ h5.own X = some (.cells [.int .i64 n, ev]) := by
  obtain ⟨v', h5, e5, g5, w5, hf, hk⟩ := g.gp.join hw hx hn
  obtain ⟨ox5, nx5⟩ := hk X _ g.ox g.ne
  have one := g5.pr.sl.one
  have hc : v'.cells = #[v'] := by obtain ⟨_, _, rfl, _⟩ := g5.pr.sl; rfl
  have st := aStore1 (P := Try.prog) (t := 22) (x := v') Try.underlying22 (by kernel_rfl) ox5 (off := 1) (by simp) hc one
  refine ⟨v', h5, _, e5, st, ⟨AHeap.own_put_eq _ _ _, GS.put g5 _ nx5, nx5⟩, w5.put _ (w5.lt ox5), fun f lf nf af => ?_, fun f lf af => (hf f lf af).1, ox5⟩
  obtain ⟨l5, a5⟩ := hf f lf af
  exact ⟨l5.put _ nf, a5⟩
theorem nodup_mid {a b : List Pr} {p : Pr} (hnd : (a ++ p :: b).Nodup) : (a ++ p :: b).filter (fun q => decide (q ≠ p)) = a ++ b := by
  rw [List.filter_append, List.filter_cons]
  rw [List.nodup_append] at hnd
  obtain ⟨_, h2, h3⟩ := hnd
  rw [List.nodup_cons] at h2
  have e1 : a.filter (fun q => decide (q ≠ p)) = a := List.filter_eq_self.2 fun q hq => by
    simp only [ne_eq, decide_eq_true_eq]; exact fun e => h3 q hq p (by simp) e
  have e2 : b.filter (fun q => decide (q ≠ p)) = b := List.filter_eq_self.2 fun q hq => by
    simp only [ne_eq, decide_eq_true_eq]; rintro rfl; exact h2.1 hq
  rw [e1, e2, if_neg (by simp)]
theorem woE_at {es : List Pr} (nd : es.Nodup) {i : Nat} (hi : i < es.length) : es.take i ++ es.drop (i + 1) = woE es es[i] := by
  have he : es.take i ++ es[i] :: es.drop (i + 1) = es := by rw [← List.drop_eq_getElem_cons hi, List.take_append_drop]
  have := nodup_mid (a := es.take i) (b := es.drop (i + 1)) (p := es[i]) (by rw [he]; exact nd)
  rw [he] at this
  exact this.symm
end Go.Fw
namespace Go.Fw
open Go.Proofs
attribute [local irreducible] KO4 KO3 KO2 KO1 KO KN KX KE VK KCond KDraw KCall KLoop
set_option maxHeartbeats 16000000
set_option maxRecDepth 10000
theorem Asc.nodup {es : List Pr} (h : Asc es) : es.Nodup := by
  rw [List.nodup_iff_pairwise_ne]
  refine (asc_pair.1 h).imp ?_
  rintro x y h rfl
  omega
open Classical in
theorem RBridges_any (W0 : Base) (v : Value) (G : GM) (h : AHeap) (hg : GR h v G) (ct : ∀ ev, v = .agg #[.int .i64 G.n, ev] → Ct ev G.es.length) :
    AC Try.prog W0 20 [v] h fun x h' => Le h h' ∧ ((¬ RightG G ∧ x = .tuple #[.slice none 0 0, .int .i64 20]) ∨ (RightG G ∧ ∃ bv, x = .tuple #[bv, .int .i64 0] ∧ GP h' bv (bridgesM G.n.toNat G.es) ∧ Apart h bv)) := by
  have hg0 := hg
  obtain ⟨gn, es⟩ := G
  obtain ⟨ev, rfl, hp⟩ := hg.open
  have ct := ct ev rfl
  refine AC.vc (fn := Try.f20) (c := _) ⟨Try.func20, rfl, by decide⟩ Try.ntmps20 Try.results20 (by simp) fun hwf => ?_
  simp only [argFrame, argFrom, Nat.reduceAdd]
  obtain ⟨h1, b1, le1, wf1, -, lA⟩ := boxG (n := gn) hwf hp
  generalize h.next = B at *
  have lA1 := lA h1 (Le.refl _)
  simp only [kS1, bLookup, bMapSet, wantA, isCall, stepOp, evalO, evalL, evalP, evalM, putDst, flat, kA, kB, Nat.reduceLT, ↓reduceIte, kC, Nat.reduceEqDiff, aBuiltin, abinG, guardFree, abin, aInt, aUn, aNilCheck, retQ, retQ1, aresults, aresultL, aresult, mkF, undefV, reduceCtorEq, kD, kE, kF, kG, kH, kI, kJ, kK, aExtract, calleeOf, b1, lA1.1]
  refine KCall.intro (by simp only [kS1, bLookup, bMapSet, wantA, isCall, stepOp, evalO, evalL, evalP, evalM, putDst, flat, kA, kB, Nat.reduceLT, ↓reduceIte, kC, Nat.reduceEqDiff, aBuiltin, abinG, guardFree, abin, aInt, aUn, aNilCheck, retQ, retQ1, aresults, aresultL, aresult, mkF, undefV, reduceCtorEq, kD, kE, kF, kG, kH, kI, kJ, kK, aExtract, calleeOf] <;> rfl) ⟨Try.func56, rfl, by decide⟩ (RefRight_any W0 _ _ h1 (hg0.le le1)) ?_
  rintro x h2 w2 ⟨⟨bb, rfl, hbb⟩, l2⟩
  cases bb with
  | false =>
    simp only [kS1, bLookup, bMapSet, wantA, isCall, stepOp, evalO, evalL, evalP, evalM, putDst, flat, kA, kB, Nat.reduceLT, ↓reduceIte, kC, Nat.reduceEqDiff, aBuiltin, abinG, guardFree, abin, aInt, aUn, aNilCheck, retQ, retQ1, aresults, aresultL, aresult, mkF, undefV, reduceCtorEq, kD, kE, kF, kG, kH, kI, kJ, kK, aExtract, calleeOf]
    exact ⟨le1.trans l2, .inl ⟨(fun hr => by cases hbb.2 hr), trivial⟩⟩
  | true =>
  have hr := hbb.1 rfl
  have h0 : 0 ≤ gn := hr.n0
  obtain ⟨n, rfl⟩ := Int.eq_ofNat_of_zero_le h0
  have h200 : (n : Int) ≤ 200 := hr.n1
  have h594 : es.length ≤ 594 := hr.len
  have hR := hr.inR
  have hasc : Asc es := hr.asc
  have nd := hasc.nodup
  simp only [Int.toNat_natCast]
  have ap0 : Apart h1 (.slice none 0 0) := fun b hb => by cases hb
  have hlen := fun g => hp.len g
  simp only [kS1, bLookup, bMapSet, wantA, isCall, stepOp, evalO, evalL, evalP, evalM, putDst, flat, kA, kB, Nat.reduceLT, ↓reduceIte, kC, Nat.reduceEqDiff, aBuiltin, abinG, guardFree, abin, aInt, aUn, aNilCheck, retQ, retQ1, aresults, aresultL, aresult, mkF, undefV, reduceCtorEq, kD, kE, kF, kG, kH, kI, kJ, kK, aExtract, calleeOf]
  refine KLoop.intro (fun k fr hq => ∃ (i : Nat) (ov : Value), k = es.length - i ∧ i ≤ es.length ∧ fr = mkF [(1, .pointer (some ⟨B, 0, none⟩)), (4, ov), (5, .int .i64 i)] ∧
      GP hq ov ((es.take i).filter fun p => decide (Br es p)) ∧ Le h1 hq ∧ Apart h1 ov)
    es.length [(1, .pointer (some ⟨B, 0, none⟩)), (4, .slice none 0 0), (5, .int .i64 (0 : Nat))] (by simp only [hasAll, kS1, bLookup, bMapSet, wantA, isCall, stepOp, evalO, evalL, evalP, evalM, putDst, flat, kA, kB, Nat.reduceLT, ↓reduceIte, kC, Nat.reduceEqDiff, aBuiltin, abinG, guardFree, abin, aInt, aUn, aNilCheck, retQ, retQ1, aresults, aresultL, aresult, mkF, undefV, reduceCtorEq, kD, kE, kF, kG, kH, kI, kJ, kK, aExtract, calleeOf]; simp)
    ⟨0, _, rfl, Nat.zero_le _, rfl, GP.nil _, l2, ap0⟩ ?_
  rintro k fr hq hwq ⟨i, ov, rfl, hi, rfl, go, leq, ao⟩
  have lAq := lA hq leq
  simp only [kS1, bLookup, bMapSet, wantA, isCall, stepOp, evalO, evalL, evalP, evalM, putDst, flat, kA, kB, Nat.reduceLT, ↓reduceIte, kC, Nat.reduceEqDiff, aBuiltin, abinG, guardFree, abin, aInt, aUn, aNilCheck, retQ, retQ1, aresults, aresultL, aresult, mkF, undefV, reduceCtorEq, kD, kE, kF, kG, kH, kI, kJ, kK, aExtract, calleeOf, fg1, aadd, Nat.zero_add, lAq.2.2, hlen]
  refine KCond.intro (fun ht => ?_) (fun hf => ?_)
  rotate_left
  · have hge : es.length ≤ i := lt_f hf
    rw [List.take_of_length_le hge] at go
    simp only [kS1, bLookup, bMapSet, wantA, isCall, stepOp, evalO, evalL, evalP, evalM, putDst, flat, kA, kB, Nat.reduceLT, ↓reduceIte, kC, Nat.reduceEqDiff, aBuiltin, abinG, guardFree, abin, aInt, aUn, aNilCheck, retQ, retQ1, aresults, aresultL, aresult, mkF, undefV, reduceCtorEq, kD, kE, kF, kG, kH, kI, kJ, kK, aExtract, calleeOf]
    refine ⟨le1.trans leq, .inr ⟨hr, ov, rfl, ?_, fun b hb => le1.none (ao b hb)⟩⟩
    rw [bridges_eq hR hasc]; exact go
  have hlt : i < es.length := lt_t ht
  clear ht
  have hpi := getElem?_of hlt
  have htk : es.take (i + 1) = es.take i ++ [es[i]] := List.take_succ_eq_append_getElem hlt
  have hmore := more_iff hR (List.getElem_mem hlt)
  have hwo := woE_at nd hlt
  have hmem : es[i] ∈ es := List.getElem_mem hlt
  generalize es[i] = p at hpi htk hmore hwo hmem
  have hpq := hp.le (le1.trans leq)
  obtain ⟨h3, h4, e3, e4, l4, w4, nX, gx4⟩ := GX.new hwq (n : Int)
  have hp4 := hpq.le l4
  obtain ⟨xv, ex, px⟩ := hp4.lo ct (i := i) (by omega)
  obtain ⟨v5, h5, h6, e5, e6, gx6, w6, f6, f5, oX5⟩ := gx4.join w4 px (by simp; omega)
  generalize hq.next = X at *
  have aX : Apart hq (.slice none 0 0) := fun b hb => by cases hb
  obtain ⟨l6, a6⟩ := f6 hq l4 nX aX
  have hp6 := hpq.le l6
  obtain ⟨yv, ey, py⟩ := hp6.up ct (i := i + 1) (by omega)
  obtain ⟨v7, h7, h8, e7, e8, gx8, w8, f8, f7, oX7⟩ := gx6.join w6 py (by simp; omega)
  obtain ⟨l8, a8⟩ := f8 hq l6 nX a6
  have lA4 := lA h4 (leq.trans l4)
  have lA6 := lA h6 (leq.trans l6)
  have lA8 := lA h8 (leq.trans l8)
  have lA5 := lA h5 (leq.trans (f5 hq l4 aX))
  have lA7 := lA h7 (leq.trans (f7 hq l6 a6))
  have g5 : aload Try.prog h5 22 ⟨X, 1, none⟩ = some (.slice none 0 0) := aload_one Try.underlying22 rfl oX5
  have g7 : aload Try.prog h7 22 ⟨X, 1, none⟩ = some v5 := aload_one Try.underlying22 rfl oX7
  have g4 := gx4.ld
  have g6 := gx6.ld
  have g8 := gx8.ld
  rw [List.nil_append, hwo] at gx8
  simp only [kS1, bLookup, bMapSet, wantA, isCall, stepOp, evalO, evalL, evalP, evalM, putDst, flat, kA, kB, Nat.reduceLT, ↓reduceIte, kC, Nat.reduceEqDiff, aBuiltin, abinG, guardFree, abin, aInt, aUn, aNilCheck, retQ, retQ1, aresults, aresultL, aresult, mkF, undefV, reduceCtorEq, kD, kE, kF, kG, kH, kI, kJ, kK, aExtract, calleeOf, fg0, fg1, aadd, Nat.zero_add, lAq.2.1, build24e, e3, e4]
  refine KDraw.intro mixed (.fl 0 (.fl 1 (.fl 2 (.fl 3 (.fl 4 (.fl 5 (.ch 6 [1, 5] (.fl 7 (.ch 8 [0, 1, 2, 3, 4, 5, 6, 7] (.done) .no)) .no))))))) (by kernel_rfl) ?_
  simp only [kS1, bLookup, bMapSet, wantA, isCall, stepOp, evalO, evalL, evalP, evalM, putDst, flat, kA, kB, Nat.reduceLT, ↓reduceIte, kC, Nat.reduceEqDiff, aBuiltin, abinG, guardFree, abin, aInt, aUn, aNilCheck, retQ, retQ1, aresults, aresultL, aresult, mkF, undefV, reduceCtorEq, kD, kE, kF, kG, kH, kI, kJ, kK, aExtract, calleeOf, kD1, Nat.reduceBEq, HoldsAll, kL, kM, kN, kO, fg1, aadd, Nat.zero_add, g4.2.2, g5, lA4.2.2, lA5.2.2, ex, e5, e6]
  refine KDraw.intro mixed (.fl 0 (.fl 1 (.fl 2 (.fl 3 (.fl 4 (.fl 5 (.fl 6 (.ch 7 [1, 6] (.fl 8 (.ch 9 [0, 1, 2, 3, 4, 5, 6, 7, 8] (.done) .no)) .no)))))))) (by kernel_rfl) ?_
  simp only [kS1, bLookup, bMapSet, wantA, isCall, stepOp, evalO, evalL, evalP, evalM, putDst, flat, kA, kB, Nat.reduceLT, ↓reduceIte, kC, Nat.reduceEqDiff, aBuiltin, abinG, guardFree, abin, aInt, aUn, aNilCheck, retQ, retQ1, aresults, aresultL, aresult, mkF, undefV, reduceCtorEq, kD, kE, kF, kG, kH, kI, kJ, kK, aExtract, calleeOf, kD1, Nat.reduceBEq, HoldsAll, kL, kM, kN, kO, fg1, aadd, Nat.zero_add, g6.2.2, g7, lA6.2.2, lA7.2.2, ey, e7, e8, awrap_succ i (by omega)]
  refine KDraw.intro mixed (.fl 0 (.fl 3 (.ch 1 [0] (.fl 2 (.ch 4 [1, 3] (.fl 5 (.fl 6 (.done))) .no)) .no))) (by kernel_rfl) ?_
  simp only [kS1, bLookup, bMapSet, wantA, isCall, stepOp, evalO, evalL, evalP, evalM, putDst, flat, kA, kB, Nat.reduceLT, ↓reduceIte, kC, Nat.reduceEqDiff, aBuiltin, abinG, guardFree, abin, aInt, aUn, aNilCheck, retQ, retQ1, aresults, aresultL, aresult, mkF, undefV, reduceCtorEq, kD, kE, kF, kG, kH, kI, kJ, kK, aExtract, calleeOf, kD1, Nat.reduceBEq, HoldsAll, kL, kM, kN, kO, g8.1, lA8.1]
  have hr' : RightG ⟨(n : Int), woE es p⟩ := hr.sub List.filter_sublist
  refine KGCall.intro (by simp only [kS1, bLookup, bMapSet, wantA, isCall, stepOp, evalO, evalL, evalP, evalM, putDst, flat, kA, kB, Nat.reduceLT, ↓reduceIte, kC, Nat.reduceEqDiff, aBuiltin, abinG, guardFree, abin, aInt, aUn, aNilCheck, retQ, retQ1, aresults, aresultL, aresult, mkF, undefV, reduceCtorEq, kD, kE, kF, kG, kH, kI, kJ, kK, aExtract, calleeOf] <;> rfl) ⟨Try.func64, rfl, by decide⟩ (RParts_any W0 _ n (woE es p) h8 gx8.gr hr') ?_
  rintro x h9 w9 ⟨len9, l9⟩
  have lA9 := lA h9 (leq.trans (l8.trans l9))
  simp only [kS1, bLookup, bMapSet, wantA, isCall, stepOp, evalO, evalL, evalP, evalM, putDst, flat, kA, kB, Nat.reduceLT, ↓reduceIte, kC, Nat.reduceEqDiff, aBuiltin, abinG, guardFree, abin, aInt, aUn, aNilCheck, retQ, retQ1, aresults, aresultL, aresult, mkF, undefV, reduceCtorEq, kD, kE, kF, kG, kH, kI, kJ, kK, aExtract, calleeOf, kD1, Nat.reduceBEq, HoldsAll, kL, kM, kN, kO, len9, lA9.1]
  refine KGCall.intro (by simp only [kS1, bLookup, bMapSet, wantA, isCall, stepOp, evalO, evalL, evalP, evalM, putDst, flat, kA, kB, Nat.reduceLT, ↓reduceIte, kC, Nat.reduceEqDiff, aBuiltin, abinG, guardFree, abin, aInt, aUn, aNilCheck, retQ, retQ1, aresults, aresultL, aresult, mkF, undefV, reduceCtorEq, kD, kE, kF, kG, kH, kI, kJ, kK, aExtract, calleeOf] <;> rfl) ⟨Try.func64, rfl, by decide⟩ (RParts_any W0 _ n es h9 (hg0.le (le1.trans (leq.trans (l8.trans l9)))) hr) ?_
  rintro x h10 w10 ⟨len10, l10⟩
  have le10 := l8.trans (l9.trans l10)
  have lA10 := lA h10 (leq.trans le10)
  have go10 := go.le le10
  have hpl : ((es.take i).filter fun p => decide (Br es p)).length ≤ i := by have := List.length_filter_le (fun p => decide (Br es p)) (es.take i); simp at this; omega
  by_cases c : Br es p
  · have d : decide (((heads n (woE es p)).length : Int) > ((heads n es).length : Int)) = true := decide_eq_true (by have := hmore.2 c; omega)
    have hfl : (es.take (i + 1)).filter (fun p => decide (Br es p)) = (es.take i).filter (fun p => decide (Br es p)) ++ [p] := by rw [htk, List.filter_append]; simp [c]
    obtain ⟨v', g1, g2, q1, q2, gp2, wg2, lg1, fg, kg⟩ := go10.push w10 p (by omega)
    obtain ⟨lx, ax⟩ := fg h1 (leq.trans le10) ao
    have ad := hp.addr (k := .i64) i hlt
    have ld := (hpq.le le10).load hpi
    simp only [kS1, bLookup, bMapSet, wantA, isCall, stepOp, evalO, evalL, evalP, evalM, putDst, flat, kA, kB, Nat.reduceLT, ↓reduceIte, kC, Nat.reduceEqDiff, aBuiltin, abinG, guardFree, abin, aInt, aUn, aNilCheck, retQ, retQ1, aresults, aresultL, aresult, mkF, undefV, reduceCtorEq, kD, kE, kF, kG, kH, kI, kJ, kK, aExtract, calleeOf, kD1, Nat.reduceBEq, HoldsAll, kL, kM, kN, kO, len9, len10, d, fg1, aadd, Nat.zero_add, lA10.2.2, ad, ld, q1, q2, awrap_succ i (by omega)]
    exact loop_again (es.length - (i + 1)) [(1, .pointer (some ⟨B, 0, none⟩)), (4, v'), (5, .int .i64 (i + 1 : Nat))] (by omega) (by simp only [hasAll, kS1, bLookup, bMapSet, wantA, isCall, stepOp, evalO, evalL, evalP, evalM, putDst, flat, kA, kB, Nat.reduceLT, ↓reduceIte, kC, Nat.reduceEqDiff, aBuiltin, abinG, guardFree, abin, aInt, aUn, aNilCheck, retQ, retQ1, aresults, aresultL, aresult, mkF, undefV, reduceCtorEq, kD, kE, kF, kG, kH, kI, kJ, kK, aExtract, calleeOf]; simp)
      ⟨i + 1, v', rfl, hlt, rfl, by rw [hfl]; exact gp2, lx, ax⟩
  · have d : decide (((heads n (woE es p)).length : Int) > ((heads n es).length : Int)) = false := decide_eq_false (fun e => c (hmore.1 (by omega)))
    have hfl : (es.take (i + 1)).filter (fun p => decide (Br es p)) = (es.take i).filter (fun p => decide (Br es p)) := by rw [htk, List.filter_append]; simp [c]
    simp only [kS1, bLookup, bMapSet, wantA, isCall, stepOp, evalO, evalL, evalP, evalM, putDst, flat, kA, kB, Nat.reduceLT, ↓reduceIte, kC, Nat.reduceEqDiff, aBuiltin, abinG, guardFree, abin, aInt, aUn, aNilCheck, retQ, retQ1, aresults, aresultL, aresult, mkF, undefV, reduceCtorEq, kD, kE, kF, kG, kH, kI, kJ, kK, aExtract, calleeOf, kD1, Nat.reduceBEq, HoldsAll, kL, kM, kN, kO, len9, len10, d, awrap_succ i (by omega)]
    exact loop_again (es.length - (i + 1)) [(1, .pointer (some ⟨B, 0, none⟩)), (4, ov), (5, .int .i64 (i + 1 : Nat))] (by omega) (by simp only [hasAll, kS1, bLookup, bMapSet, wantA, isCall, stepOp, evalO, evalL, evalP, evalM, putDst, flat, kA, kB, Nat.reduceLT, ↓reduceIte, kC, Nat.reduceEqDiff, aBuiltin, abinG, guardFree, abin, aInt, aUn, aNilCheck, retQ, retQ1, aresults, aresultL, aresult, mkF, undefV, reduceCtorEq, kD, kE, kF, kG, kH, kI, kJ, kK, aExtract, calleeOf]; simp)
      ⟨i + 1, ov, rfl, hlt, rfl, by rw [hfl]; exact go10, leq.trans le10, ao⟩
end Go.Fw
