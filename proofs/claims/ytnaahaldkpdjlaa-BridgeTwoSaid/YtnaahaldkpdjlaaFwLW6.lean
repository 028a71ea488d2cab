/- A text of the proof. -/
import Derived.Test.YtnaahaldkpdjlaaFwLW4
import Derived.Test.YtnaahaldkpdjlaaFwLB18
import Derived.Test.YtnaahaldkpdjlaaFwLB23
import Derived.Test.YtnaahaldkpdjlaaFwLB8
import Derived.Test.YtnaahaldkpdjlaaFwLW8
import Derived.Test.YtnaahaldkpdjlaaFwLB9
import Derived.Test.YtnaahaldkpdjlaaFwLC12
set_option linter.unusedSimpArgs false
set_option linter.unusedVariables false
namespace Go.Fw
set_option maxRecDepth 10000
theorem keys_add (gs : List Gr) (f k : Int) (p : Pr) : k ∈ keysG (addG gs f p) ↔ k ∈ keysG gs ∨ k = f := by
 induction gs with
 | nil => simp [addG, keysG]
 | cons g gs ih =>
  obtain ⟨a, l⟩ := g
  simp only [addG]
  split
  ·rename_i h; subst h
   simp only [keysG, List.map_cons, List.mem_cons]
   constructor
   ·intro h; exact .inl h
   ·rintro (h | h)
    ·exact h
    ·exact .inl h
  ·simp only [keysG, List.map_cons, List.mem_cons] at ih ⊢
   rw [ih, or_assoc]
theorem keys_mem (fr : Pr → Nat → Int) (es web : List Pr) (k : Int) (i : Nat) : k ∈ keysG (grpsM fr es web i) ↔ ∃ (j : Nat) (p : Pr), j < i ∧ es[j]? = some p ∧ p ∉ web ∧ fr p j = k := by
 induction i with
 | zero => simp [grpsM, keysG]
 | succ i ih =>
  cases hp : es[i]? with
  | none =>
   have : grpsM fr es web (i + 1) = grpsM fr es web i := by simp [grpsM, hp]
   rw [this, ih]
   constructor
   ·rintro ⟨j, p, h1, h2⟩; exact ⟨j, p, by omega, h2⟩
   ·rintro ⟨j, p, h1, h2, h3⟩
    refine ⟨j, p, ?_, h2, h3⟩
    by_cases e : j = i
    ·subst e; rw [hp] at h2; cases h2
    ·omega
  | some q =>
   by_cases c : q ∈ web
   ·rw [grpsM_in hp c, ih]
    constructor
    ·rintro ⟨j, p, h1, h2⟩; exact ⟨j, p, by omega, h2⟩
    ·rintro ⟨j, p, h1, h2, h3, h4⟩
     refine ⟨j, p, ?_, h2, h3, h4⟩
     by_cases e : j = i
     ·subst e; rw [hp] at h2; injection h2 with h2; subst h2; exact absurd c h3
     ·omega
   ·rw [grpsM_out hp c, keys_add, ih]
    constructor
    ·rintro (⟨j, p, h1, h2⟩ | rfl)
     ·exact ⟨j, p, by omega, h2⟩
     ·exact ⟨i, q, by omega, hp, c, rfl⟩
    ·rintro ⟨j, p, h1, h2, h3, h4⟩
     by_cases e : j = i
     ·subst e; rw [hp] at h2; injection h2 with h2; subst h2; exact .inr h4.symm
     ·exact .inl ⟨j, p, by omega, h2, h3, h4⟩
end Go.Fw
namespace Go.Fw
open Go.Proofs Go.ChangeShapes Go.WideShapes Go.RowKit Go.ChangeAt
attribute [local irreducible] KO4 KO3 KO2 KO1 KO KN KX KE VK KCond KDraw KCall KLoop
open Go.Proofs.Ytnaahaldkpdjlaa
set_option maxHeartbeats 8000000
set_option maxRecDepth 100000
theorem right17_any (W0 : Base) (v : Value) (G : GM) (h : AHeap) (hg : GR h v G) : AC Try.prog W0 14 [v] h fun x h' => BoolIs (RightG G ∧ G.n ≤ 30) x ∧ Le h h' := by
 have hg0 := hg
 obtain ⟨gn, es⟩ := G
 obtain ⟨ev, rfl, hp⟩ := hg.open
 refine AC.vc (fn := Try.f14) (c := _) ⟨Try.func14, rfl, by decide⟩ Try.ntmps14 Try.results14 (by simp) fun hwf => ?_
 simp only [argFrame, argFrom, Nat.reduceAdd]
 obtain ⟨h1, b1, le1, wf1, -, lA⟩ := boxG (n := gn) hwf hp
 generalize h.next = B at *
 have lA1 := lA h1 (Le.refl _)
 simp only [kS1, bLookup, bMapSet, wantA, isCall, stepOp, evalO, evalL, evalP, evalM, putDst, flat, kA, kB, Nat.reduceLT, ↓reduceIte, kC, Nat.reduceEqDiff, aBuiltin, abinG, guardFree, abin, aInt, aUn, aNilCheck, retQ, retQ1, aresults, aresultL, aresult, mkF, undefV, reduceCtorEq, kD, kE, kF, kG, kH, kI, kJ, kK, aExtract, calleeOf, b1, lA1.1]
 refine KCall.intro (by simp only [kS1, bLookup, bMapSet, wantA, isCall, stepOp, evalO, evalL, evalP, evalM, putDst, flat, kA, kB, Nat.reduceLT, ↓reduceIte, kC, Nat.reduceEqDiff, aBuiltin, abinG, guardFree, abin, aInt, aUn, aNilCheck, retQ, retQ1, aresults, aresultL, aresult, mkF, undefV, reduceCtorEq, kD, kE, kF, kG, kH, kI, kJ, kK, aExtract, calleeOf] <;> rfl) ⟨Try.func57, rfl, by decide⟩ (Right_any W0 _ _ h1 (hg0.le le1)) ?_
 rintro x h2 wf2 ⟨⟨bb, rfl, hbb⟩, le2⟩
 have lA2 := lA h2 le2
 cases bb with
 | false =>
  simp only [kS1, bLookup, bMapSet, wantA, isCall, stepOp, evalO, evalL, evalP, evalM, putDst, flat, kA, kB, Nat.reduceLT, ↓reduceIte, kC, Nat.reduceEqDiff, aBuiltin, abinG, guardFree, abin, aInt, aUn, aNilCheck, retQ, retQ1, aresults, aresultL, aresult, mkF, undefV, reduceCtorEq, kD, kE, kF, kG, kH, kI, kJ, kK, aExtract, calleeOf]
  exact ⟨BoolIs.f (fun h => by cases hbb.2 h.1), le1.trans le2⟩
 | true =>
  simp only [kS1, bLookup, bMapSet, wantA, isCall, stepOp, evalO, evalL, evalP, evalM, putDst, flat, kA, kB, Nat.reduceLT, ↓reduceIte, kC, Nat.reduceEqDiff, aBuiltin, abinG, guardFree, abin, aInt, aUn, aNilCheck, retQ, retQ1, aresults, aresultL, aresult, mkF, undefV, reduceCtorEq, kD, kE, kF, kG, kH, kI, kJ, kK, aExtract, calleeOf, fg0, aadd, Nat.zero_add, lA2.2.1]
  exact ⟨⟨_, rfl, by simp [hbb.1 rfl]⟩, le1.trans le2⟩
theorem FL.load {h : AHeap} {v : Value} {fs : List FM} (r : FL h v fs) {i : Nat} {f : FM} (hf : fs[i]? = some f) :
  ∃ a b, (∀ g, Le h g → aload Try.prog g 40 (fAddr v i) = some (.agg #[a, b])) ∧ PR h a f.edges ∧ RL isI h b f.feet := by
 obtain ⟨cs, c, hx⟩ := r
 obtain ⟨a, b, q1, q2, q3, q4⟩ := hx i f hf
 refine ⟨a, b, fun g l => ?_, q3, q4⟩
 have g1 := l.read (c.get _ _ q1)
 have g2 := l.read (c.get _ _ q2)
 obtain ⟨ad, k, rfl, hs⟩ := c.sl
 obtain ⟨ad, rfl⟩ := Option.isSome_iff_exists.1 (hs (by have := (List.getElem?_eq_some_iff.1 hf).1; omega))
 have hrd : readN g (fAddr (.slice (some ad) fs.length k) i) 2 = some [a, b] := by
  refine readN_get [a, b] _ fun j x hx => ?_
  match j with
  | 0 => simp at hx; subst hx; simpa [fAddr, elemAddr_mk, aadd] using g1
  | 1 => simp at hx; subst hx; simpa [fAddr, elemAddr_mk, aadd, Nat.add_assoc] using g2
  | j + 2 => simp at hx
 simp only [aload, Try.underlying40, ts41, hrd]
 rfl
theorem alloc41 (h : AHeap) : aAlloc Try.prog h 40 = some (.pointer (some ⟨h.next, 0, none⟩), h.alloc (.cells [.slice none 0 0, .slice none 0 0])) := rfl
theorem new41 {h : AHeap} (hw : WF h) {a b : Value} {n m : Nat} (ha : isSl a n) (hb : isSl b m) : ∃ h1 h2, aAlloc Try.prog h 40 = some (.pointer (some ⟨h.next, 0, none⟩), h1) ∧ aStore Try.prog h1 40 (.pointer (some ⟨h.next, 0, none⟩)) (.agg #[a, b]) = some h2 ∧ Le h h2 ∧ WF h2 ∧
  ∀ g, Le h2 g → aload Try.prog g 40 ⟨h.next, 0, none⟩ = some (.agg #[a, b]) ∧ aload Try.prog g 22 ⟨h.next, 0, none⟩ = some a ∧ aload Try.prog g 38 ⟨h.next, 1, none⟩ = some b := by
 obtain ⟨h1, e1, l1, w1, o1⟩ := alloc_f hw [.slice none 0 0, .slice none 0 0]
 have nw : h.own h.next = none := (Le.refl h).next hw (Nat.le_refl _)
 have st : aStore Try.prog h1 40 (.pointer (some ⟨h.next, 0, none⟩)) (.agg #[a, b]) = some (h1.put h.next (.cells [a, b])) := by
  obtain ⟨_, _, rfl, _⟩ := ha
  obtain ⟨_, _, rfl, _⟩ := hb
  simp [aStore, o1, Value.cells, ts41, putCells, Try.underlying40]
  exact ⟨rfl, rfl⟩
 have ho : (h1.put h.next (.cells [a, b])).own h.next = some (.cells [a, b]) := AHeap.own_put_eq _ _ _
 refine ⟨h1, _, by rw [alloc41, e1], st, l1.put _ nw, w1.put _ (w1.lt o1), fun g l => ⟨?_, ?_, ?_⟩⟩
 ·rw [aload_own Try.underlying40 rfl ts41 (l.own _ _ ho) (by simp)]; rfl
 ·rw [aload_one Try.underlying22 rfl (l.own _ _ ho)]; rfl
 ·rw [aload_one Try.underlying38 rfl (l.own _ _ ho)]; rfl
end Go.Fw
namespace Go.Fw
set_option maxRecDepth 10000
theorem asc_pairwise {l : List Pr} : Asc l ↔ l.Pairwise fun p q => cmpP p q < 0 := by
 rw [List.pairwise_iff_getElem]
 constructor
 ·intro a i j hi hj hij; exact a i j _ _ hij (List.getElem?_eq_getElem hi) (List.getElem?_eq_getElem hj)
 ·intro a i j p q hij hp hq
  obtain ⟨h1, rfl⟩ := List.getElem?_eq_some_iff.1 hp
  obtain ⟨h2, rfl⟩ := List.getElem?_eq_some_iff.1 hq
  exact a i j h1 h2 hij
theorem Asc.sub {l l' : List Pr} (a : Asc l') (h : l.Sublist l') : Asc l := asc_pairwise.2 ((asc_pairwise.1 a).sublist h)
theorem sel_sub (es : List Pr) (S : List Bool) : ∀ i, (selM es S i).Sublist (es.take i)
 | 0 => by simp [selM]
 | i + 1 => by
  have ih := sel_sub es S i
  simp only [selM]
  cases hp : es[i]? with
  | none => simp only []; rw [List.take_of_length_le (by rw [List.getElem?_eq_none_iff] at hp; omega)]; exact ih.trans (List.take_sublist _ _)
  | some p =>
   have : es.take (i + 1) = es.take i ++ [p] := by rw [List.take_add_one, hp]; rfl
   simp only [this]
   split
   ·exact ih.append (List.Sublist.refl _)
   ·exact ih.trans (List.sublist_append_left _ _)
theorem sel_web {es : List Pr} (ha : Asc es) (S : List Bool) (i : Nat) : WebOK es (selM es S i) := by
 have hs := (sel_sub es S i).trans (List.take_sublist _ _)
 have ha' := ha.sub hs
 exact ⟨fun i p q hi hq => ha' i (i + 1) p q (by omega) hi hq, fun p hp => hs.subset hp⟩
structure FragIs (n : Nat) (es web : List Pr) (L : List Int) (k : Int) (f : FM) : Prop where
 edges : f.edges = fullU (fragM n (onF n web) L) es web k es.length
 feet : f.feet = nat64 (rfeet web f.edges n)
 ne : f.edges ≠ []
theorem full_sub (fr : Pr → Nat → Int) (es web : List Pr) (k : Int) : ∀ i, (fullU fr es web k i).Sublist (es.take i)
 | 0 => by simp [fullU]
 | i + 1 => by
  have ih := full_sub fr es web k i
  simp only [fullU]
  cases hp : es[i]? with
  | none => simp only []; rw [List.take_of_length_le (by rw [List.getElem?_eq_none_iff] at hp; omega)]; exact ih.trans (List.take_sublist _ _)
  | some p =>
   have : es.take (i + 1) = es.take i ++ [p] := by rw [List.take_add_one, hp]; rfl
   simp only [this]
   split
   ·exact ih.trans (List.sublist_append_left _ _)
   ·split
    ·exact ih.append (List.Sublist.refl _)
    ·exact ih.trans (List.sublist_append_left _ _)
theorem FragIs.sub {n : Nat} {es web : List Pr} {L : List Int} {k : Int} {f : FM} (h : FragIs n es web L k f) : f.edges.Sublist es := by
 rw [h.edges]; exact (full_sub _ _ _ _ _).trans (List.take_sublist _ _)
theorem FragIs.mem {n : Nat} {es web : List Pr} {L : List Int} {k : Int} {f : FM} (h : FragIs n es web L k f) (q : Pr) : q ∈ f.edges ↔ ∃ j, es[j]? = some q ∧ q ∉ web ∧ fragM n (onF n web) L q j = k := by
 rw [h.edges, full_mem]
 constructor
 ·rintro ⟨j, _, h⟩; exact ⟨j, h⟩
 ·rintro ⟨j, h1, h2⟩; exact ⟨j, (List.getElem?_eq_some_iff.1 h1).1, h1, h2⟩
theorem frags_is {n : Nat} {es web : List Pr} {L : List Int} (hR : InR n es) : ∃ ks : List Int, ks.Nodup ∧ ks.length = (FragsM n es web L).length ∧ (∀ (i : Nat) f, (FragsM n es web L)[i]? = some f → ∃ k, ks[i]? = some k ∧ FragIs n es web L k f) ∧
  ∀ (j : Nat) (p : Pr), es[j]? = some p → p ∉ web → fragM n (onF n web) L p j ∈ ks := by
 obtain ⟨nd, hne, _, _, _⟩ := grpsM_ok (fragM n (onF n web) L) es web es.length
 refine ⟨keysG (grpsM (fragM n (onF n web) L) es web es.length), nd, by rw [frags_r hR, FragsR]; simp [keysG], fun i f hf => ?_, fun j p hj hp => (keys_mem _ _ _ _ _).2 ⟨j, p, (List.getElem?_eq_some_iff.1 hj).1, hj, hp, rfl⟩⟩
 have hf0 := hf
 rw [frags_r hR, FragsR, List.getElem?_map, Option.map_eq_some_iff] at hf
 obtain ⟨g, hg, rfl⟩ := hf
 have hk : (keysG (grpsM (fragM n (onF n web) L) es web es.length))[i]? = some g.1 := by rw [keysG, List.getElem?_map, hg]; rfl
 refine ⟨g.1, hk, ?_, rfl, hne g (List.mem_of_getElem? hg)⟩
 have h1 := grps_map (fun l => l) (grpsM (fragM n (onF n web) L) es web es.length) nd
 have h2 : (List.map (fun g : Gr => g.2) (grpsM (fragM n (onF n web) L) es web es.length))[i]? = some g.2 := by rw [List.getElem?_map, hg]; rfl
 rw [h1, List.getElem?_map, hk] at h2
 simp only [Option.map_some, Option.some.injEq] at h2
 rw [← h2, lst_full]
theorem mem_rfeet {web l : List Pr} {n : Nat} {x : Int} : x ∈ nat64 (rfeet web l n) ↔ ∃ v : Nat, v < n ∧ x = (v : Int) ∧ onE web (v : Int) = true ∧ onE l (v : Int) = true := by
 simp only [nat64, rfeet, List.mem_map, List.mem_filter, List.mem_range, Bool.and_eq_true]
 constructor
 ·rintro ⟨v, ⟨h1, h2, h3⟩, rfl⟩; exact ⟨v, h1, rfl, h2, h3⟩
 ·rintro ⟨v, h1, rfl, h2, h3⟩; exact ⟨v, ⟨h1, h2, h3⟩, rfl⟩
theorem onE_ex {ps : List Pr} {v : Int} : onE ps v = true ↔ ∃ p ∈ ps, endB p v = true := by simp [onE]
theorem off_web {n : Nat} {web : List Pr} {x : Nat} (hx : x < n) (ho : onF n web x = false) {q : Pr} (hq : endB q x = true) : q ∉ web := by
 intro hm
 rw [onF, onM_getD hx] at ho
 have : onE web (x : Int) = true := onE_ex.2 ⟨q, hm, hq⟩
 rw [this] at ho; cases ho
theorem lab_iff {n : Nat} {on : Nat → Bool} {es : List Pr} {L : List Int} (hT : TogM n on es L) {u w : Nat} (hu : u < n) (hw : w < n) (ou : on u = false) (ow : on w = false) : L.getD u 0 = L.getD w 0 ↔ Cn on es u w := by
 rw [← hT.same u w hu hw ou ow]
 obtain ⟨k, _, h1, _⟩ := hT.off u hu ou
 obtain ⟨k', _, h2, _⟩ := hT.off w hw ow
 rw [List.getD_eq_getElem?_getD, List.getD_eq_getElem?_getD, h1, h2]; simp
end Go.Fw
namespace Go.Fw
open Go.Proofs
attribute [local irreducible] KO4 KO3 KO2 KO1 KO KN KX KE VK KCond KDraw KCall KLoop
set_option maxHeartbeats 8000000
set_option maxRecDepth 10000
theorem Chosen_any (W0 : Base) (v bv : Value) (G : GM) (bs : List Bool) (h : AHeap) (hg : GR h v G) (hb : RL isBo h bv bs) (hn : G.es.length ≤ 1000) :
  AC Try.prog W0 18 [v, bv] h fun x h' => GP h' x (selM G.es bs G.es.length) ∧ Le h h' ∧ Apart h x := by
 have hg0 := hg
 obtain ⟨gn, es⟩ := G
 obtain ⟨ev, rfl, hp⟩ := hg.open
 simp only at hn ⊢
 refine AC.vc (fn := Try.f18) (c := _) ⟨Try.func18, rfl, by decide⟩ Try.ntmps18 Try.results18 (by simp) fun hwf => ?_
 simp only [argFrame, argFrom, Nat.reduceAdd]
 obtain ⟨h1, b1, le1, wf1, -, lA⟩ := boxG (n := gn) hwf hp
 generalize h.next = B at *
 have lA1 := lA h1 (Le.refl _)
 have ll := fun g => hp.len g
 have lb := fun g => hb.len (P := Try.prog) Try.underlying25 g
 simp only [kS1, bLookup, bMapSet, wantA, isCall, stepOp, evalO, evalL, evalP, evalM, putDst, flat, kA, kB, Nat.reduceLT, ↓reduceIte, kC, Nat.reduceEqDiff, aBuiltin, abinG, guardFree, abin, aInt, aUn, aNilCheck, retQ, retQ1, aresults, aresultL, aresult, mkF, undefV, reduceCtorEq, kD, kE, kF, kG, kH, kI, kJ, kK, aExtract, calleeOf, b1, fg1, aadd, Nat.zero_add, lA1.2.2, ll]
 refine KLoop.intro (fun k fr hq => ∃ (i : Nat) (ov : Value), k = es.length - i ∧ i ≤ es.length ∧ fr = mkF [(1, bv), (5, ov), (9, ev), (10, .int .i64 es.length), (11, .int .i64 i)] ∧ GP hq ov (selM es bs i) ∧ Le h1 hq ∧ Apart h1 ov)
  es.length [(1, bv), (5, .slice none 0 0), (9, ev), (10, .int .i64 es.length), (11, .int .i64 (0 : Nat))] (by simp only [hasAll, kS1, bLookup, bMapSet, wantA, isCall, stepOp, evalO, evalL, evalP, evalM, putDst, flat, kA, kB, Nat.reduceLT, ↓reduceIte, kC, Nat.reduceEqDiff, aBuiltin, abinG, guardFree, abin, aInt, aUn, aNilCheck, retQ, retQ1, aresults, aresultL, aresult, mkF, undefV, reduceCtorEq, kD, kE, kF, kG, kH, kI, kJ, kK, aExtract, calleeOf]; simp) ⟨0, _, rfl, Nat.zero_le _, rfl, GP.nil h1, Le.refl _, fun b hb => by simp [blk] at hb⟩ ?_
 rintro k fr hq hwq ⟨i, ov, rfl, hi, rfl, gp, leq, ap⟩
 simp only [kS1, bLookup, bMapSet, wantA, isCall, stepOp, evalO, evalL, evalP, evalM, putDst, flat, kA, kB, Nat.reduceLT, ↓reduceIte, kC, Nat.reduceEqDiff, aBuiltin, abinG, guardFree, abin, aInt, aUn, aNilCheck, retQ, retQ1, aresults, aresultL, aresult, mkF, undefV, reduceCtorEq, kD, kE, kF, kG, kH, kI, kJ, kK, aExtract, calleeOf]
 refine KCond.intro (fun ht => ?_) (fun hf => ?_)
 rotate_left
 ·have hge : es.length ≤ i := lt_f hf
  obtain rfl : i = es.length := by omega
  simp only [kS1, bLookup, bMapSet, wantA, isCall, stepOp, evalO, evalL, evalP, evalM, putDst, flat, kA, kB, Nat.reduceLT, ↓reduceIte, kC, Nat.reduceEqDiff, aBuiltin, abinG, guardFree, abin, aInt, aUn, aNilCheck, retQ, retQ1, aresults, aresultL, aresult, mkF, undefV, reduceCtorEq, kD, kE, kF, kG, kH, kI, kJ, kK, aExtract, calleeOf]
  exact ⟨gp, le1.trans leq, fun b hb => le1.none (ap b hb)⟩
 have hlt : i < es.length := lt_t ht
 clear ht
 have hpi := getElem?_of hlt
 generalize es[i] = p at hpi
 have ad := hp.addr (k := .i64) i hlt
 have ld := (hp.le (le1.trans leq)).load hpi
 obtain ⟨h2, h3, a2, s2, l3, w3, o3⟩ := new42 hwq p
 have gp3 := gp.le l3
 have l13 := leq.trans l3
 have ld3 := own42 o3
 have hsl := selM_length es bs i
 by_cases c1 : (i : Int) < bs.length
 ·have hib : i < bs.length := by omega
  have adb := hb.addrBo (k := .i64) i hib
  have ldb := (hb.le Stays.isBo (le1.trans l13)).loadBo i hib
  have hbi : bs.getD i false = bs[i] := getD_of hib
  generalize bs[i] = bb at ldb hbi
  cases bb with
  | true =>
   obtain ⟨ov', h4, h5, e4, e5, g5, w5, l4, hf5, hk5⟩ := gp3.push w3 p (by omega)
   obtain ⟨l5, a5⟩ := hf5 h1 l13 ap
   simp only [kS1, bLookup, bMapSet, wantA, isCall, stepOp, evalO, evalL, evalP, evalM, putDst, flat, kA, kB, Nat.reduceLT, ↓reduceIte, kC, Nat.reduceEqDiff, aBuiltin, abinG, guardFree, abin, aInt, aUn, aNilCheck, retQ, retQ1, aresults, aresultL, aresult, mkF, undefV, reduceCtorEq, kD, kE, kF, kG, kH, kI, kJ, kK, aExtract, calleeOf, ad, ld, a2, s2, lb, c1, adb, ldb, ld3, e4, e5, awrap_succ i (by omega)]
   refine loop_again (es.length - (i + 1)) [(1, bv), (5, ov'), (9, ev), (10, .int .i64 es.length), (11, .int .i64 (i + 1 : Nat))] (by omega) (by simp only [hasAll, kS1, bLookup, bMapSet, wantA, isCall, stepOp, evalO, evalL, evalP, evalM, putDst, flat, kA, kB, Nat.reduceLT, ↓reduceIte, kC, Nat.reduceEqDiff, aBuiltin, abinG, guardFree, abin, aInt, aUn, aNilCheck, retQ, retQ1, aresults, aresultL, aresult, mkF, undefV, reduceCtorEq, kD, kE, kF, kG, kH, kI, kJ, kK, aExtract, calleeOf]; simp) ⟨i + 1, ov', rfl, hlt, rfl, ?_, l5, a5⟩
   simp only [selM, hpi, hbi, if_true]; exact g5
  | false =>
   simp only [kS1, bLookup, bMapSet, wantA, isCall, stepOp, evalO, evalL, evalP, evalM, putDst, flat, kA, kB, Nat.reduceLT, ↓reduceIte, kC, Nat.reduceEqDiff, aBuiltin, abinG, guardFree, abin, aInt, aUn, aNilCheck, retQ, retQ1, aresults, aresultL, aresult, mkF, undefV, reduceCtorEq, kD, kE, kF, kG, kH, kI, kJ, kK, aExtract, calleeOf, ad, ld, a2, s2, lb, c1, adb, ldb, awrap_succ i (by omega)]
   refine loop_again (es.length - (i + 1)) [(1, bv), (5, ov), (9, ev), (10, .int .i64 es.length), (11, .int .i64 (i + 1 : Nat))] (by omega) (by simp only [hasAll, kS1, bLookup, bMapSet, wantA, isCall, stepOp, evalO, evalL, evalP, evalM, putDst, flat, kA, kB, Nat.reduceLT, ↓reduceIte, kC, Nat.reduceEqDiff, aBuiltin, abinG, guardFree, abin, aInt, aUn, aNilCheck, retQ, retQ1, aresults, aresultL, aresult, mkF, undefV, reduceCtorEq, kD, kE, kF, kG, kH, kI, kJ, kK, aExtract, calleeOf]; simp) ⟨i + 1, ov, rfl, hlt, rfl, ?_, l13, ap⟩
   simp only [selM, hpi, hbi]; exact gp3
 ·have hbi : bs.getD i false = false := by rw [List.getD_eq_getElem?_getD, List.getElem?_eq_none (by omega)]; rfl
  simp only [kS1, bLookup, bMapSet, wantA, isCall, stepOp, evalO, evalL, evalP, evalM, putDst, flat, kA, kB, Nat.reduceLT, ↓reduceIte, kC, Nat.reduceEqDiff, aBuiltin, abinG, guardFree, abin, aInt, aUn, aNilCheck, retQ, retQ1, aresults, aresultL, aresult, mkF, undefV, reduceCtorEq, kD, kE, kF, kG, kH, kI, kJ, kK, aExtract, calleeOf, ad, ld, a2, s2, lb, c1, awrap_succ i (by omega)]
  refine loop_again (es.length - (i + 1)) [(1, bv), (5, ov), (9, ev), (10, .int .i64 es.length), (11, .int .i64 (i + 1 : Nat))] (by omega) (by simp only [hasAll, kS1, bLookup, bMapSet, wantA, isCall, stepOp, evalO, evalL, evalP, evalM, putDst, flat, kA, kB, Nat.reduceLT, ↓reduceIte, kC, Nat.reduceEqDiff, aBuiltin, abinG, guardFree, abin, aInt, aUn, aNilCheck, retQ, retQ1, aresults, aresultL, aresult, mkF, undefV, reduceCtorEq, kD, kE, kF, kG, kH, kI, kJ, kK, aExtract, calleeOf]; simp) ⟨i + 1, ov, rfl, hlt, rfl, ?_, l13, ap⟩
  simp only [selM, hpi, hbi]; exact gp3
end Go.Fw
namespace Go.Fw
open Go.Proofs
set_option maxHeartbeats 4000000
set_option maxRecDepth 10000
attribute [local irreducible] lowM bridgesM cutsM blocksM keyE
theorem leave {on : Nat → Bool} {es : List Pr} {S : Nat → Prop} {v w : Nat} (h : Cn on es v w) (hv : S v) (hw : ¬ S w) : ∃ z y, S z ∧ ¬ S y ∧ adj es z y ∧ Cn on es v y := by
 induction h with
 | refl _ => exact absurd hv hw
 | @step z y c a o ih =>
  by_cases q : S z
  ·exact ⟨z, y, q, hw, a, .step c a o⟩
  ·exact ih q
theorem adj_ne {n : Nat} {es : List Pr} (hr : InR n es) {a b : Nat} (h : adj es a b) : a ≠ b := fun e => by subst e; exact adj_irr hr h
theorem two_of {l : List Int} {x y : Int} (hx : x ∈ l) (hy : y ∈ l) (h : x ≠ y) : 2 ≤ l.length := by
 match l, hx, hy with
 | [a], hx, hy => rw [List.mem_singleton] at hx hy; exact absurd (hx.trans hy.symm) h
 | _ :: _ :: _, _, _ => simp
theorem frag_two {n : Nat} {es web : List Pr} {L : List Int} (hr : RightG ⟨(n : Int), es⟩) (hT : TogM n (onF n web) es L) {k : Int} {f : FM} (hF : FragIs n es web L k f) (h1 : (blocksM n es).length = 1) (hj : (heads n es).length = 1)
  (hne : web ≠ []) (hsub : ∀ p ∈ web, p ∈ es) : 2 ≤ f.feet.length := by
 have hR := hr.inR
 have foot : ∀ v : Nat, v < n → onF n web v = true → onE f.edges (v : Int) = true → ((v : Nat) : Int) ∈ f.feet := fun v hv ho he => by
  rw [hF.feet, mem_rfeet]
  exact ⟨v, hv, rfl, by rw [onF, onM_getD hv] at ho; exact ho, he⟩
 have two : ∀ a b : Nat, ((a : Nat) : Int) ∈ f.feet → ((b : Nat) : Int) ∈ f.feet → a ≠ b → 2 ≤ f.feet.length := fun a b ha hb h => two_of ha hb (by omega)
 obtain ⟨p, l, e⟩ := List.exists_cons_of_ne_nil hF.ne
 have hp : p ∈ f.edges := by rw [e]; exact List.mem_cons_self
 obtain ⟨i, hi, hpw, hk⟩ := (hF.mem p).1 hp
 have hpe := List.mem_of_getElem? hi
 obtain ⟨a, c, rfl, hac, hcn, hadj⟩ := ends hR hpe
 by_cases both : onF n web a = true ∧ onF n web c = true
 ·exact two a c (foot a (by omega) both.1 (onE_ex.2 ⟨_, hp, by simp [endB]⟩)) (foot c hcn both.2 (onE_ex.2 ⟨_, hp, by simp [endB]⟩)) (by omega)
 obtain ⟨v, hv, ov, ev⟩ : ∃ v : Nat, v < n ∧ onF n web v = false ∧ endB ((a : Int), (c : Int)) v = true := by
  by_cases q : onF n web a = true
  ·exact ⟨c, hcn, by cases z : onF n web c; rfl; exact absurd ⟨q, z⟩ both, by simp [endB]⟩
  ·exact ⟨a, by omega, by simpa using q, by simp [endB]⟩
 have hLv : L.getD v 0 = k := by rw [← hk, key_off hR hT hpe i hv ev ov]
 -- whoever is beside those that hang together with v off the web, and is on it, is a foot
 have out : ∀ z y : Nat, Cn (onF n web) es v z → ¬ Cn (onF n web) es v y → adj es z y → onF n web y = true ∧ ((y : Nat) : Int) ∈ f.feet := fun z y hz hy ha => by
  have oz := hz.off2
  have hzn := (ha.lt hR).1
  have hyn := (ha.lt hR).2
  have oy : onF n web y = true := by
   cases q : onF n web y
   ·exact absurd (.step hz ha q) hy
   ·rfl
  have hm := adj_mem' hR ha
  obtain ⟨j, hj'⟩ := List.mem_iff_getElem?.1 hm
  have e1 : endB (pairOf z y) (z : Int) = true := by rw [endB_iff, pairOf_of]; simp only; omega
  have e2 : endB (pairOf z y) (y : Int) = true := by rw [endB_iff, pairOf_of]; simp only; omega
  have hkz : fragM n (onF n web) L (pairOf z y) j = k := by
   rw [key_off hR hT hm j hzn e1 oz, ← hLv]
   exact ((lab_iff hT hv hzn ov oz).2 hz).symm
  have hin : pairOf z y ∈ f.edges := (hF.mem _).2 ⟨j, hj', off_web hzn oz e1, hkz⟩
  exact ⟨oy, foot y hyn oy (onE_ex.2 ⟨_, hin, e2⟩)⟩
 obtain ⟨q, lw, ew⟩ := List.exists_cons_of_ne_nil hne
 have hq : q ∈ web := by rw [ew]; exact List.mem_cons_self
 obtain ⟨wa, wb, rfl, hwab, hwn, _⟩ := ends hR (hsub q hq)
 have ona : onF n web wa = true := by rw [onF, onM_getD (by omega)]; exact onE_ex.2 ⟨_, hq, by simp [endB]⟩
 have onb : onF n web wb = true := by rw [onF, onM_getD hwn]; exact onE_ex.2 ⟨_, hq, by simp [endB]⟩
 have notS : ∀ y, onF n web y = true → ¬ Cn (onF n web) es v y := fun y ho hc => by rw [hc.off2] at ho; cases ho
 have Sv : Cn (onF n web) es v v := .refl ov
 obtain ⟨z0, x, hz0, hx0, ax, _⟩ := leave (heads_one hj hv (show wa < n by omega)) (S := fun y => Cn (onF n web) es v y) Sv (notS wa ona)
 obtain ⟨ox, fx⟩ := out z0 x hz0 hx0 ax
 have hxn := (ax.lt hR).2
 refine Classical.byContradiction fun hlt => ?_
 have only : ∀ y : Nat, ((y : Nat) : Int) ∈ f.feet → y = x := fun y hy => Classical.byContradiction fun hc => hlt (two y x hy fx hc)
 obtain ⟨w, hwn', ow, hwx⟩ : ∃ w, w < n ∧ onF n web w = true ∧ w ≠ x := by
  by_cases q : wa = x
  ·exact ⟨wb, hwn, onb, by omega⟩
  ·exact ⟨wa, by omega, ona, q⟩
 have hvx : v ≠ x := fun e => by rw [e] at ov; rw [ov] at ox; cases ox
 have apart : ¬ Cn (wo x) es v w := fun hc => by
  obtain ⟨z, y, hz, hy, ay, cy⟩ := leave hc (S := fun y => Cn (onF n web) es v y) Sv (notS w ow)
  have := only y (out z y hz hy ay).2
  have := cy.off2
  subst y
  simp [wo] at this
 have cut : Fo.Cut2 es x := by
  obtain ⟨a1, h1, c1⟩ := woV_reach (heads_one hj hxn hv) hvx
  obtain ⟨b1, h2, c2⟩ := woV_reach (heads_one hj hxn hwn') hwx
  refine ⟨a1, b1, h1, h2, fun hc => apart ?_⟩
  have n1 : a1 ≠ x := (adj_ne hR h1).symm
  have n2 : b1 ≠ x := (adj_ne hR h2).symm
  exact (((woV_con n1).1 c1).symm.trans hc).trans ((woV_con n2).1 c2)
 have := (inc_cut hR x).2 cut
 have h3 : incN n es x ≤ (blocksM n es).length := List.length_filter_le _ _
 omega
end Go.Fw
