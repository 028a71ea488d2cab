/- A text of the proof. -/
import Derived.Test.YtnaahaldkpdjlaaFwLW1
import Derived.Test.YtnaahaldkpdjlaaFwLB18
import Derived.Test.YtnaahaldkpdjlaaFwLB14
import Derived.Test.YtnaahaldkpdjlaaFwFrame
import Derived.Test.YtnaahaldkpdjlaaFwLB23
import Derived.Test.YtnaahaldkpdjlaaFwLB8
set_option linter.unusedSimpArgs false
set_option linter.unusedVariables false
namespace Go.Fw
set_option maxRecDepth 10000
theorem keys_add (gs : List Gr) (f k : Int) (p : Pr) : k ∈ keysG (addG gs f p) ↔ k ∈ keysG gs ∨ k = f := by
 induction gs with
 | nil => simp [addG, keysG]
 | cons g gs ih =>
  obtain ⟨a, l⟩ := g
  simp only [addG]
  split
  ·rename_i h; subst h
   simp only [keysG, List.map_cons, List.mem_cons]
   constructor
   ·intro h; exact .inl h
   ·rintro (h | h)
    ·exact h
    ·exact .inl h
  ·simp only [keysG, List.map_cons, List.mem_cons] at ih ⊢
   rw [ih, or_assoc]
theorem keys_mem (fr : Pr → Nat → Int) (es web : List Pr) (k : Int) (i : Nat) : k ∈ keysG (grpsM fr es web i) ↔ ∃ (j : Nat) (p : Pr), j < i ∧ es[j]? = some p ∧ p ∉ web ∧ fr p j = k := by
 induction i with
 | zero => simp [grpsM, keysG]
 | succ i ih =>
  cases hp : es[i]? with
  | none =>
   have : grpsM fr es web (i + 1) = grpsM fr es web i := by simp [grpsM, hp]
   rw [this, ih]
   constructor
   ·rintro ⟨j, p, h1, h2⟩; exact ⟨j, p, by omega, h2⟩
   ·rintro ⟨j, p, h1, h2, h3⟩
    refine ⟨j, p, ?_, h2, h3⟩
    by_cases e : j = i
    ·subst e; rw [hp] at h2; cases h2
    ·omega
  | some q =>
   by_cases c : q ∈ web
   ·rw [grpsM_in hp c, ih]
    constructor
    ·rintro ⟨j, p, h1, h2⟩; exact ⟨j, p, by omega, h2⟩
    ·rintro ⟨j, p, h1, h2, h3, h4⟩
     refine ⟨j, p, ?_, h2, h3, h4⟩
     by_cases e : j = i
     ·subst e; rw [hp] at h2; injection h2 with h2; subst h2; exact absurd c h3
     ·omega
   ·rw [grpsM_out hp c, keys_add, ih]
    constructor
    ·rintro (⟨j, p, h1, h2⟩ | rfl)
     ·exact ⟨j, p, by omega, h2⟩
     ·exact ⟨i, q, by omega, hp, c, rfl⟩
    ·rintro ⟨j, p, h1, h2, h3, h4⟩
     by_cases e : j = i
     ·subst e; rw [hp] at h2; injection h2 with h2; subst h2; exact .inr h4.symm
     ·exact .inl ⟨j, p, by omega, h2, h3, h4⟩
end Go.Fw
namespace Go.Fw
open Go.Proofs Go.ChangeShapes Go.WideShapes Go.RowKit Go.ChangeAt
attribute [local irreducible] KO4 KO3 KO2 KO1 KO KN KX KE VK KCond KDraw KCall KLoop
open Go.Proofs.Ytnaahaldkpdjlaa
set_option maxHeartbeats 8000000
set_option maxRecDepth 100000
theorem right17_any (W0 : Base) (v : Value) (G : GM) (h : AHeap) (hg : GR h v G) : AC Try.prog W0 14 [v] h fun x h' => BoolIs (RightG G ∧ G.n ≤ 30) x ∧ Le h h' := by
 have hg0 := hg
 obtain ⟨gn, es⟩ := G
 obtain ⟨ev, rfl, hp⟩ := hg.open
 refine AC.vc (fn := Try.f14) (c := _) ⟨Try.func14, rfl, by decide⟩ Try.ntmps14 Try.results14 (by simp) fun hwf => ?_
 simp only [argFrame, argFrom, Nat.reduceAdd]
 obtain ⟨h1, b1, le1, wf1, -, lA⟩ := boxG (n := gn) hwf hp
 generalize h.next = B at *
 have lA1 := lA h1 (Le.refl _)
 simp only [kS1, bLookup, bMapSet, wantA, isCall, stepOp, evalO, evalL, evalP, evalM, putDst, flat, kA, kB, Nat.reduceLT, ↓reduceIte, kC, Nat.reduceEqDiff, aBuiltin, abinG, guardFree, abin, aInt, aUn, aNilCheck, retQ, retQ1, aresults, aresultL, aresult, mkF, undefV, reduceCtorEq, kD, kE, kF, kG, kH, kI, kJ, kK, aExtract, calleeOf, b1, lA1.1]
 refine KCall.intro (by simp only [kS1, bLookup, bMapSet, wantA, isCall, stepOp, evalO, evalL, evalP, evalM, putDst, flat, kA, kB, Nat.reduceLT, ↓reduceIte, kC, Nat.reduceEqDiff, aBuiltin, abinG, guardFree, abin, aInt, aUn, aNilCheck, retQ, retQ1, aresults, aresultL, aresult, mkF, undefV, reduceCtorEq, kD, kE, kF, kG, kH, kI, kJ, kK, aExtract, calleeOf] <;> rfl) ⟨Try.func57, rfl, by decide⟩ (Right_any W0 _ _ h1 (hg0.le le1)) ?_
 rintro x h2 wf2 ⟨⟨bb, rfl, hbb⟩, le2⟩
 have lA2 := lA h2 le2
 cases bb with
 | false =>
  simp only [kS1, bLookup, bMapSet, wantA, isCall, stepOp, evalO, evalL, evalP, evalM, putDst, flat, kA, kB, Nat.reduceLT, ↓reduceIte, kC, Nat.reduceEqDiff, aBuiltin, abinG, guardFree, abin, aInt, aUn, aNilCheck, retQ, retQ1, aresults, aresultL, aresult, mkF, undefV, reduceCtorEq, kD, kE, kF, kG, kH, kI, kJ, kK, aExtract, calleeOf]
  exact ⟨BoolIs.f (fun h => by cases hbb.2 h.1), le1.trans le2⟩
 | true =>
  simp only [kS1, bLookup, bMapSet, wantA, isCall, stepOp, evalO, evalL, evalP, evalM, putDst, flat, kA, kB, Nat.reduceLT, ↓reduceIte, kC, Nat.reduceEqDiff, aBuiltin, abinG, guardFree, abin, aInt, aUn, aNilCheck, retQ, retQ1, aresults, aresultL, aresult, mkF, undefV, reduceCtorEq, kD, kE, kF, kG, kH, kI, kJ, kK, aExtract, calleeOf, fg0, aadd, Nat.zero_add, lA2.2.1]
  exact ⟨⟨_, rfl, by simp [hbb.1 rfl]⟩, le1.trans le2⟩
theorem FL.load {h : AHeap} {v : Value} {fs : List FM} (r : FL h v fs) {i : Nat} {f : FM} (hf : fs[i]? = some f) :
  ∃ a b, (∀ g, Le h g → aload Try.prog g 40 (fAddr v i) = some (.agg #[a, b])) ∧ PR h a f.edges ∧ RL isI h b f.feet := by
 obtain ⟨cs, c, hx⟩ := r
 obtain ⟨a, b, q1, q2, q3, q4⟩ := hx i f hf
 refine ⟨a, b, fun g l => ?_, q3, q4⟩
 have g1 := l.read (c.get _ _ q1)
 have g2 := l.read (c.get _ _ q2)
 obtain ⟨ad, k, rfl, hs⟩ := c.sl
 obtain ⟨ad, rfl⟩ := Option.isSome_iff_exists.1 (hs (by have := (List.getElem?_eq_some_iff.1 hf).1; omega))
 have hrd : readN g (fAddr (.slice (some ad) fs.length k) i) 2 = some [a, b] := by
  refine readN_get [a, b] _ fun j x hx => ?_
  match j with
  | 0 => simp at hx; subst hx; simpa [fAddr, elemAddr_mk, aadd] using g1
  | 1 => simp at hx; subst hx; simpa [fAddr, elemAddr_mk, aadd, Nat.add_assoc] using g2
  | j + 2 => simp at hx
 simp only [aload, Try.underlying40, ts41, hrd]
 rfl
theorem alloc41 (h : AHeap) : aAlloc Try.prog h 40 = some (.pointer (some ⟨h.next, 0, none⟩), h.alloc (.cells [.slice none 0 0, .slice none 0 0])) := rfl
theorem new41 {h : AHeap} (hw : WF h) {a b : Value} {n m : Nat} (ha : isSl a n) (hb : isSl b m) : ∃ h1 h2, aAlloc Try.prog h 40 = some (.pointer (some ⟨h.next, 0, none⟩), h1) ∧ aStore Try.prog h1 40 (.pointer (some ⟨h.next, 0, none⟩)) (.agg #[a, b]) = some h2 ∧ Le h h2 ∧ WF h2 ∧
  ∀ g, Le h2 g → aload Try.prog g 40 ⟨h.next, 0, none⟩ = some (.agg #[a, b]) ∧ aload Try.prog g 22 ⟨h.next, 0, none⟩ = some a ∧ aload Try.prog g 38 ⟨h.next, 1, none⟩ = some b := by
 obtain ⟨h1, e1, l1, w1, o1⟩ := alloc_f hw [.slice none 0 0, .slice none 0 0]
 have nw : h.own h.next = none := (Le.refl h).next hw (Nat.le_refl _)
 have st : aStore Try.prog h1 40 (.pointer (some ⟨h.next, 0, none⟩)) (.agg #[a, b]) = some (h1.put h.next (.cells [a, b])) := by
  obtain ⟨_, _, rfl, _⟩ := ha
  obtain ⟨_, _, rfl, _⟩ := hb
  simp [aStore, o1, Value.cells, ts41, putCells, Try.underlying40]
  exact ⟨rfl, rfl⟩
 have ho : (h1.put h.next (.cells [a, b])).own h.next = some (.cells [a, b]) := AHeap.own_put_eq _ _ _
 refine ⟨h1, _, by rw [alloc41, e1], st, l1.put _ nw, w1.put _ (w1.lt o1), fun g l => ⟨?_, ?_, ?_⟩⟩
 ·rw [aload_own Try.underlying40 rfl ts41 (l.own _ _ ho) (by simp)]; rfl
 ·rw [aload_one Try.underlying22 rfl (l.own _ _ ho)]; rfl
 ·rw [aload_one Try.underlying38 rfl (l.own _ _ ho)]; rfl
end Go.Fw
namespace Go.Fw
set_option maxRecDepth 10000
theorem asc_pairwise {l : List Pr} : Asc l ↔ l.Pairwise fun p q => cmpP p q < 0 := by
 rw [List.pairwise_iff_getElem]
 constructor
 ·intro a i j hi hj hij; exact a i j _ _ hij (List.getElem?_eq_getElem hi) (List.getElem?_eq_getElem hj)
 ·intro a i j p q hij hp hq
  obtain ⟨h1, rfl⟩ := List.getElem?_eq_some_iff.1 hp
  obtain ⟨h2, rfl⟩ := List.getElem?_eq_some_iff.1 hq
  exact a i j h1 h2 hij
theorem Asc.sub {l l' : List Pr} (a : Asc l') (h : l.Sublist l') : Asc l := asc_pairwise.2 ((asc_pairwise.1 a).sublist h)
theorem sel_sub (es : List Pr) (S : List Bool) : ∀ i, (selM es S i).Sublist (es.take i)
 | 0 => by simp [selM]
 | i + 1 => by
  have ih := sel_sub es S i
  simp only [selM]
  cases hp : es[i]? with
  | none => simp only []; rw [List.take_of_length_le (by rw [List.getElem?_eq_none_iff] at hp; omega)]; exact ih.trans (List.take_sublist _ _)
  | some p =>
   have : es.take (i + 1) = es.take i ++ [p] := by rw [List.take_add_one, hp]; rfl
   simp only [this]
   split
   ·exact ih.append (List.Sublist.refl _)
   ·exact ih.trans (List.sublist_append_left _ _)
theorem sel_web {es : List Pr} (ha : Asc es) (S : List Bool) (i : Nat) : WebOK es (selM es S i) := by
 have hs := (sel_sub es S i).trans (List.take_sublist _ _)
 have ha' := ha.sub hs
 exact ⟨fun i p q hi hq => ha' i (i + 1) p q (by omega) hi hq, fun p hp => hs.subset hp⟩
theorem right_sub {n : Nat} {es l : List Pr} (hr : RightG ⟨(n : Int), es⟩) (h : l.Sublist es) : RightG ⟨(n : Int), l⟩ := by
 refine ⟨hr.n0, hr.n1, Nat.le_trans (by simpa using h.length_le) hr.len, fun i hi p hp => ⟨hr.inR p (h.subset (List.mem_of_getElem? hp)), fun q hi0 hq => ?_⟩⟩
 exact (hr.asc.sub h) (i - 1) i q p (by omega) hq hp
structure FragIs (n : Nat) (es web : List Pr) (L : List Int) (k : Int) (f : FM) : Prop where
 edges : f.edges = fullU (fragM n (onF n web) L) es web k es.length
 feet : f.feet = nat64 (rfeet web f.edges n)
 ne : f.edges ≠ []
theorem full_sub (fr : Pr → Nat → Int) (es web : List Pr) (k : Int) : ∀ i, (fullU fr es web k i).Sublist (es.take i)
 | 0 => by simp [fullU]
 | i + 1 => by
  have ih := full_sub fr es web k i
  simp only [fullU]
  cases hp : es[i]? with
  | none => simp only []; rw [List.take_of_length_le (by rw [List.getElem?_eq_none_iff] at hp; omega)]; exact ih.trans (List.take_sublist _ _)
  | some p =>
   have : es.take (i + 1) = es.take i ++ [p] := by rw [List.take_add_one, hp]; rfl
   simp only [this]
   split
   ·exact ih.trans (List.sublist_append_left _ _)
   ·split
    ·exact ih.append (List.Sublist.refl _)
    ·exact ih.trans (List.sublist_append_left _ _)
theorem FragIs.sub {n : Nat} {es web : List Pr} {L : List Int} {k : Int} {f : FM} (h : FragIs n es web L k f) : f.edges.Sublist es := by
 rw [h.edges]; exact (full_sub _ _ _ _ _).trans (List.take_sublist _ _)
theorem FragIs.mem {n : Nat} {es web : List Pr} {L : List Int} {k : Int} {f : FM} (h : FragIs n es web L k f) (q : Pr) : q ∈ f.edges ↔ ∃ j, es[j]? = some q ∧ q ∉ web ∧ fragM n (onF n web) L q j = k := by
 rw [h.edges, full_mem]
 constructor
 ·rintro ⟨j, _, h⟩; exact ⟨j, h⟩
 ·rintro ⟨j, h1, h2⟩; exact ⟨j, (List.getElem?_eq_some_iff.1 h1).1, h1, h2⟩
theorem frags_is {n : Nat} {es web : List Pr} {L : List Int} (hR : InR n es) : ∃ ks : List Int, ks.Nodup ∧ ks.length = (FragsM n es web L).length ∧ (∀ (i : Nat) f, (FragsM n es web L)[i]? = some f → ∃ k, ks[i]? = some k ∧ FragIs n es web L k f) ∧
  ∀ (j : Nat) (p : Pr), es[j]? = some p → p ∉ web → fragM n (onF n web) L p j ∈ ks := by
 obtain ⟨nd, hne, _, _, _⟩ := grpsM_ok (fragM n (onF n web) L) es web es.length
 refine ⟨keysG (grpsM (fragM n (onF n web) L) es web es.length), nd, by rw [frags_r hR, FragsR]; simp [keysG], fun i f hf => ?_, fun j p hj hp => (keys_mem _ _ _ _ _).2 ⟨j, p, (List.getElem?_eq_some_iff.1 hj).1, hj, hp, rfl⟩⟩
 have hf0 := hf
 rw [frags_r hR, FragsR, List.getElem?_map, Option.map_eq_some_iff] at hf
 obtain ⟨g, hg, rfl⟩ := hf
 have hk : (keysG (grpsM (fragM n (onF n web) L) es web es.length))[i]? = some g.1 := by rw [keysG, List.getElem?_map, hg]; rfl
 refine ⟨g.1, hk, ?_, rfl, hne g (List.mem_of_getElem? hg)⟩
 have h1 := grps_map (fun l => l) (grpsM (fragM n (onF n web) L) es web es.length) nd
 have h2 : (List.map (fun g : Gr => g.2) (grpsM (fragM n (onF n web) L) es web es.length))[i]? = some g.2 := by rw [List.getElem?_map, hg]; rfl
 rw [h1, List.getElem?_map, hk] at h2
 simp only [Option.map_some, Option.some.injEq] at h2
 rw [← h2, lst_full]
theorem mem_rfeet {web l : List Pr} {n : Nat} {x : Int} : x ∈ nat64 (rfeet web l n) ↔ ∃ v : Nat, v < n ∧ x = (v : Int) ∧ onE web (v : Int) = true ∧ onE l (v : Int) = true := by
 simp only [nat64, rfeet, List.mem_map, List.mem_filter, List.mem_range, Bool.and_eq_true]
 constructor
 ·rintro ⟨v, ⟨h1, h2, h3⟩, rfl⟩; exact ⟨v, h1, rfl, h2, h3⟩
 ·rintro ⟨v, h1, rfl, h2, h3⟩; exact ⟨v, ⟨h1, h2, h3⟩, rfl⟩
theorem onE_ex {ps : List Pr} {v : Int} : onE ps v = true ↔ ∃ p ∈ ps, endB p v = true := by simp [onE]
theorem lab_iff {n : Nat} {on : Nat → Bool} {es : List Pr} {L : List Int} (hT : TogM n on es L) {u w : Nat} (hu : u < n) (hw : w < n) (ou : on u = false) (ow : on w = false) : L.getD u 0 = L.getD w 0 ↔ Cn on es u w := by
 rw [← hT.same u w hu hw ou ow]
 obtain ⟨k, _, h1, _⟩ := hT.off u hu ou
 obtain ⟨k', _, h2, _⟩ := hT.off w hw ow
 rw [List.getD_eq_getElem?_getD, List.getD_eq_getElem?_getD, h1, h2]; simp
end Go.Fw
