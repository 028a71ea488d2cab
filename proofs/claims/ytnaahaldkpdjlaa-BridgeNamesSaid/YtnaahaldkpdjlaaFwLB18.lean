/- A text of the proof. -/
import Derived.Test.YtnaahaldkpdjlaaFwLB16
set_option linter.unusedSimpArgs false
set_option linter.unusedVariables false
namespace Go.Fw
open Go.Proofs
attribute [local irreducible] KO4 KO3 KO2 KO1 KO KN KX KE VK KCond KDraw KCall KLoop
set_option maxHeartbeats 8000000
set_option maxRecDepth 10000
theorem alloc35 (h : AHeap) : aAlloc Try.prog h 25 = some (.pointer (some ⟨h.next, 0, none⟩), h.alloc (.cells [.slice none 0 0])) := rfl
theorem alloc39 (h : AHeap) : aAlloc Try.prog h 38 = some (.pointer (some ⟨h.next, 0, none⟩), h.alloc (.cells [.slice none 0 0])) := rfl
theorem newVar {h : AHeap} (hw : WF h) {t : TypeId} {d : TypeDesc} {z x : Value} (ha : ∀ g : AHeap, aAlloc Try.prog g t = some (.pointer (some ⟨g.next, 0, none⟩), g.alloc (.cells [z]))) (hu : Try.prog.underlying t = some d) (hs : tsize Try.prog t = 1) (hx : x.cells = #[x]) (h1 : x.oneCell' = true) :
  ∃ g1 g2, aAlloc Try.prog h t = some (.pointer (some ⟨h.next, 0, none⟩), g1) ∧ aStore Try.prog g1 t (.pointer (some ⟨h.next, 0, none⟩)) x = some g2 ∧ Le h g2 ∧ WF g2 ∧ g2.own h.next = some (.cells [x]) := by
 obtain ⟨g1, e1, l1, w1, o1⟩ := alloc_f hw [z]
 have nw : h.own h.next = none := (Le.refl h).next hw (Nat.le_refl _)
 refine ⟨g1, _, by rw [ha, e1], aStore1 hu hs o1 (by simp) hx h1, l1.put _ nw, w1.put _ (w1.lt o1), AHeap.own_put_eq _ _ _⟩
theorem read_kill {h : AHeap} {a : Addr} {F : Nat} (hne : a.spot = none → a.block ≠ F) : (h.kill F).read a = h.read a := by
 unfold AHeap.read
 cases hs : a.spot with
 | none => simp only [AHeap.own_kill_ne h F a.block (hne hs)]
 | some _ => rfl
theorem RS.kill {h : AHeap} {v : Value} {vs : List Value} {F : Nat} (r : RS h v vs) (hb : blk v ≠ some F) : RS (h.kill F) v vs := by
 refine ⟨r.sl, fun i x hx => ?_⟩
 have h1 := r.get i x hx
 obtain ⟨a, c, rfl, hs⟩ := r.sl
 obtain ⟨a, rfl⟩ := Option.isSome_iff_exists.1 (hs (by have := (List.getElem?_eq_some_iff.1 hx).1; omega))
 rw [elemAddr_mk] at h1 ⊢
 rw [read_kill]; exact h1
 intro hsp
 obtain ⟨b, o, s⟩ := a
 simp only [aadd] at hsp ⊢
 subst hsp
 intro e; subst e; exact hb rfl
theorem RL.killI {h : AHeap} {v : Value} {xs : List Int} {F : Nat} (r : RL isI h v xs) (hb : blk v ≠ some F) : RL isI (h.kill F) v xs := by
 obtain ⟨vs, r, hl, hr⟩ := r
 exact ⟨vs, r.kill hb, hl, hr⟩
theorem Le.kill_put {h h' : AHeap} (e : Le h h') (F : Nat) (o : AObj) : Le (h.kill F) ((h'.put F o).kill F) := ⟨e.ext, fun i o' hi => by
 by_cases c : i = F
 ·subst c; rw [AHeap.own_kill_eq] at hi; cases hi
 ·rw [AHeap.own_kill_ne _ _ _ c] at hi ⊢; rw [AHeap.own_put_ne _ _ _ _ c]; exact e.own _ _ hi⟩
theorem Le.put_kill {g h : AHeap} (e : Le g h) {F : Nat} (n : g.own F = Option.none) (o : AObj) : Le g ((h.put F o).kill F) := ⟨e.ext, fun i o' hi => by
 have c : i ≠ F := fun e => by subst e; rw [n] at hi; cases hi
 rw [AHeap.own_kill_ne _ _ _ c, AHeap.own_put_ne _ _ _ _ c]; exact e.own _ _ hi⟩
theorem build41 {a b : Value} {n m : Nat} (ha : isSl a n) (hb : isSl b m) : aBuild Try.prog 40 [(0, a), (1, b)] = some (.agg #[a, b]) := by
 obtain ⟨_, _, rfl, _⟩ := ha
 obtain ⟨_, _, rfl, _⟩ := hb
 kernel_rfl
def FragsM (n : Nat) (es web : List Pr) (L : List Int) : List FM :=
 (grpsM (fragM n (fun u => (onM n web).getD u false) L) es web es.length).map fun g => ⟨g.2, feetM (fun u => (onM n web).getD u false) g.2⟩
theorem Fragments_any (W0 : Base) (v wv : Value) (G : GM) (web : List Pr) (h : AHeap) (hg : GR h v G) (hw : PR h wv web) (hn : web.length ≤ 1000) :
  AC Try.prog W0 19 [v, wv] h fun x h' => Le h h' ∧ ∃ lv e, x = .tuple #[lv, .int .i64 e] ∧
   ((¬ RightG G ∧ lv = .slice none 0 0 ∧ e = 20) ∨ (RightG G ∧ ¬ WebOK G.es web ∧ lv = .slice none 0 0 ∧ e = 2) ∨
    (RightG G ∧ WebOK G.es web ∧ e = 0 ∧ ∃ L, TogM G.n.toNat (fun u => (onM G.n.toNat web).getD u false) G.es L ∧ FL h' lv (FragsM G.n.toNat G.es web L))) := by
 have hg0 := hg
 obtain ⟨gn, es⟩ := G
 obtain ⟨ev, rfl, hp⟩ := hg.open
 refine AC.vc (fn := Try.f19) (c := _) ⟨Try.func19, rfl, by decide⟩ Try.ntmps19 Try.results19 (by simp) fun hwf => ?_
 simp only [argFrame, argFrom, Nat.reduceAdd]
 obtain ⟨h1, b1, le1, wf1, -, lA⟩ := boxG (n := gn) hwf hp
 generalize h.next = B at *
 have lA1 := lA h1 (Le.refl _)
 simp only [kS1, bLookup, bMapSet, wantA, isCall, stepOp, evalO, evalL, evalP, evalM, putDst, flat, kA, kB, Nat.reduceLT, ↓reduceIte, kC, Nat.reduceEqDiff, aBuiltin, abinG, guardFree, abin, aInt, aUn, aNilCheck, retQ, retQ1, aresults, aresultL, aresult, mkF, undefV, reduceCtorEq, kD, kE, kF, kG, kH, kI, kJ, kK, aExtract, calleeOf, b1, lA1.1]
 refine KCall.intro (by simp only [kS1, bLookup, bMapSet, wantA, isCall, stepOp, evalO, evalL, evalP, evalM, putDst, flat, kA, kB, Nat.reduceLT, ↓reduceIte, kC, Nat.reduceEqDiff, aBuiltin, abinG, guardFree, abin, aInt, aUn, aNilCheck, retQ, retQ1, aresults, aresultL, aresult, mkF, undefV, reduceCtorEq, kD, kE, kF, kG, kH, kI, kJ, kK, aExtract, calleeOf] <;> rfl) ⟨Try.func57, rfl, by decide⟩ (Right_any W0 _ _ h1 (hg0.le le1)) ?_
 rintro x h2 wf2 ⟨⟨bb, rfl, hbb⟩, le2⟩
 cases bb with
 | false =>
  simp only [kS1, bLookup, bMapSet, wantA, isCall, stepOp, evalO, evalL, evalP, evalM, putDst, flat, kA, kB, Nat.reduceLT, ↓reduceIte, kC, Nat.reduceEqDiff, aBuiltin, abinG, guardFree, abin, aInt, aUn, aNilCheck, retQ, retQ1, aresults, aresultL, aresult, mkF, undefV, reduceCtorEq, kD, kE, kF, kG, kH, kI, kJ, kK, aExtract, calleeOf]
  exact ⟨le1.trans le2, _, _, rfl, .inl ⟨(fun hr => by cases hbb.2 hr), rfl, rfl⟩⟩
 | true =>
 have hr := hbb.1 rfl
 have h0 : 0 ≤ gn := hr.n0
 obtain ⟨n, rfl⟩ := Int.eq_ofNat_of_zero_le h0
 have h200 : (n : Int) ≤ 200 := hr.n1
 have h594 : es.length ≤ 594 := hr.len
 have hR := hr.inR
 have lA2 := lA h2 le2
 simp only [kS1, bLookup, bMapSet, wantA, isCall, stepOp, evalO, evalL, evalP, evalM, putDst, flat, kA, kB, Nat.reduceLT, ↓reduceIte, kC, Nat.reduceEqDiff, aBuiltin, abinG, guardFree, abin, aInt, aUn, aNilCheck, retQ, retQ1, aresults, aresultL, aresult, mkF, undefV, reduceCtorEq, kD, kE, kF, kG, kH, kI, kJ, kK, aExtract, calleeOf, lA2.1]
 refine KCall.intro (by simp only [kS1, bLookup, bMapSet, wantA, isCall, stepOp, evalO, evalL, evalP, evalM, putDst, flat, kA, kB, Nat.reduceLT, ↓reduceIte, kC, Nat.reduceEqDiff, aBuiltin, abinG, guardFree, abin, aInt, aUn, aNilCheck, retQ, retQ1, aresults, aresultL, aresult, mkF, undefV, reduceCtorEq, kD, kE, kF, kG, kH, kI, kJ, kK, aExtract, calleeOf] <;> rfl) ⟨Try.func63, rfl, by decide⟩ (split_any W0 _ wv _ web h2 (hg0.le (le1.trans le2)) (hw.le (le1.trans le2)) hr hn) ?_
 rintro x h3 wf3 ⟨⟨ov, nv, bo, rfl, nvc, hbo, hlists⟩, le3⟩
 obtain ⟨h4', h4, e4, e4s, le4, wf4, o4⟩ := newVar wf3 alloc35 Try.underlying25 (by kernel_rfl) nvc.1 nvc.2
 simp only [kS1, bLookup, bMapSet, wantA, isCall, stepOp, evalO, evalL, evalP, evalM, putDst, flat, kA, kB, Nat.reduceLT, ↓reduceIte, kC, Nat.reduceEqDiff, aBuiltin, abinG, guardFree, abin, aInt, aUn, aNilCheck, retQ, retQ1, aresults, aresultL, aresult, mkF, undefV, reduceCtorEq, kD, kE, kF, kG, kH, kI, kJ, kK, aExtract, calleeOf, e4, e4s]
 cases bo with
 | false =>
  simp only [kS1, bLookup, bMapSet, wantA, isCall, stepOp, evalO, evalL, evalP, evalM, putDst, flat, kA, kB, Nat.reduceLT, ↓reduceIte, kC, Nat.reduceEqDiff, aBuiltin, abinG, guardFree, abin, aInt, aUn, aNilCheck, retQ, retQ1, aresults, aresultL, aresult, mkF, undefV, reduceCtorEq, kD, kE, kF, kG, kH, kI, kJ, kK, aExtract, calleeOf]
  exact ⟨((le1.trans le2).trans le3).trans le4, _, _, rfl, .inr (.inl ⟨hr, (fun hk => by cases hbo.2 hk), rfl, rfl⟩)⟩
 | true =>
 have hweb := hbo.1 rfl
 obtain ⟨hov, hnv⟩ := hlists rfl
 have lA4 := lA h4 ((le2.trans le3).trans le4)
 have hnv4 := hnv.le Stays.isBo le4
 have lO : ∀ g, Le h4 g → aload Try.prog g 25 ⟨h3.next, 0, none⟩ = some nv := fun g l => by rw [aload_one Try.underlying25 rfl (l.own _ _ o4)]; rfl
 have lO4 := lO h4 (Le.refl _)
 generalize h3.next = O at *
 have le14 := ((le1.trans le2).trans le3).trans le4
 simp only [kS1, bLookup, bMapSet, wantA, isCall, stepOp, evalO, evalL, evalP, evalM, putDst, flat, kA, kB, Nat.reduceLT, ↓reduceIte, kC, Nat.reduceEqDiff, aBuiltin, abinG, guardFree, abin, aInt, aUn, aNilCheck, retQ, retQ1, aresults, aresultL, aresult, mkF, undefV, reduceCtorEq, kD, kE, kF, kG, kH, kI, kJ, kK, aExtract, calleeOf, lA4.1, lO4]
 have hbl : (onM n web).length = n := onM_length n web
 refine KCall.intro (by simp only [kS1, bLookup, bMapSet, wantA, isCall, stepOp, evalO, evalL, evalP, evalM, putDst, flat, kA, kB, Nat.reduceLT, ↓reduceIte, kC, Nat.reduceEqDiff, aBuiltin, abinG, guardFree, abin, aInt, aUn, aNilCheck, retQ, retQ1, aresults, aresultL, aresult, mkF, undefV, reduceCtorEq, kD, kE, kF, kG, kH, kI, kJ, kK, aExtract, calleeOf] <;> rfl) ⟨Try.func64, rfl, by decide⟩ (together_any W0 _ nv n es (onM n web) h4 (hg0.le le14) hr hnv4 hbl) ?_
 rintro tv h5 wf5 ⟨L, hL, hT, le5⟩
 have tvc := hL.sl.cells
 obtain ⟨h6', h6, e6, e6s, le6, wf6, o6⟩ := newVar wf5 alloc39 Try.underlying38 (by kernel_rfl) tvc hL.one
 have lT : ∀ g, Le h6 g → aload Try.prog g 38 ⟨h5.next, 0, none⟩ = some tv := fun g l => by rw [aload_one Try.underlying38 rfl (l.own _ _ o6)]; rfl
 generalize h5.next = T at *
 -- all that stays
 have le46 := le5.trans le6
 have le16 : Le h1 h6 := ((le2.trans le3).trans le4).trans le46
 have le06 := le1.trans le16
 have hp6 := hp.le le06
 have hov6 := hov.le Stays.isBo (le4.trans le46)
 have hnv6 := hnv4.le Stays.isBo le46
 have hL6 := hL.le Stays.isI le6
 obtain ⟨h7, e7, le7, wf7, o7⟩ : ∃ h7, h6.alloc (.map []) = h7 ∧ Le h6 h7 ∧ WF h7 ∧ h7.own h6.next = some (.map []) := ⟨_, rfl, (Le.refl h6).alloc wf6 _, wf6.alloc _, AHeap.own_alloc_eq _ _⟩
 obtain ⟨h8, e8, le8, wf8, o8⟩ := alloc_f wf7 []
 have bs0 : aBuildSlice Try.prog h7 38 0 [] = some (.slice (some ⟨h7.next, 0, none⟩) 0 0, h8) := by rw [← e8]; rfl
 have nM : h6.own h6.next = none := (Le.refl h6).next wf6 (Nat.le_refl _)
 have nC : h6.own h7.next = none := le7.next wf7 (Nat.le_refl _)
 have neMC : h7.next ≠ h6.next := fun e => by have := wf7.lt o7; omega
 have lA8 := lA h8 (le16.trans (le7.trans le8))
 have ll := fun g => hp.len g
 simp only [kS1, bLookup, bMapSet, wantA, isCall, stepOp, evalO, evalL, evalP, evalM, putDst, flat, kA, kB, Nat.reduceLT, ↓reduceIte, kC, Nat.reduceEqDiff, aBuiltin, abinG, guardFree, abin, aInt, aUn, aNilCheck, retQ, retQ1, aresults, aresultL, aresult, mkF, undefV, reduceCtorEq, kD, kE, kF, kG, kH, kI, kJ, kK, aExtract, calleeOf, e6, e6s, e7, bs0, fg1, aadd, Nat.zero_add, lA8.2.2, ll]
 have oM8 := le8.own _ _ o7
 generalize h6.next = M at *
 generalize h7.next = C at *
 let on : Nat → Bool := fun u => (onM n web).getD u false
 let fr : Pr → Nat → Int := fragM n on L
 have R0 : Grps h6 h8 M [] (grpsM fr es web 0) := ⟨oM8, rfl, fun j u g hu => by simp at hu, fun j u hu => by simp at hu, fun j k u u' b _ hu => by simp at hu, fun j u hu => by simp at hu, le7.trans le8, nM⟩
 have gC : GI h8 (.slice (some ⟨C, 0, none⟩) 0 0) (keysG (grpsM fr es web 0)) := GS.full o8 rfl (by decide)
 refine KLoop.intro (fun k frm hh => ∃ (i : Nat) (cv : Value) (us : List Value), k = es.length - i ∧ i ≤ es.length ∧ frm = mkF [(6, ov), (7, .pointer (some ⟨O, 0, none⟩)), (10, .func (.func 65) #[] #[.pointer (some ⟨B, 0, none⟩), .pointer (some ⟨O, 0, none⟩), .pointer (some ⟨T, 0, none⟩)]), (11, .map (some M)), (12, cv), (38, ev), (39, .int .i64 es.length), (40, .int .i64 i)] ∧
   Grps h6 hh M us (grpsM fr es web i) ∧ GI hh cv (keysG (grpsM fr es web i)) ∧ blk cv ≠ some M ∧ (∀ (j : Nat) u b, us[j]? = some u → blk u = some b → blk cv ≠ some b) ∧ Apart h6 cv)
  es.length [(6, ov), (7, .pointer (some ⟨O, 0, none⟩)), (10, .func (.func 65) #[] #[.pointer (some ⟨B, 0, none⟩), .pointer (some ⟨O, 0, none⟩), .pointer (some ⟨T, 0, none⟩)]), (11, .map (some M)), (12, .slice (some ⟨C, 0, none⟩) 0 0), (38, ev), (39, .int .i64 es.length), (40, .int .i64 (0 : Nat))] (by simp only [hasAll, kS1, bLookup, bMapSet, wantA, isCall, stepOp, evalO, evalL, evalP, evalM, putDst, flat, kA, kB, Nat.reduceLT, ↓reduceIte, kC, Nat.reduceEqDiff, aBuiltin, abinG, guardFree, abin, aInt, aUn, aNilCheck, retQ, retQ1, aresults, aresultL, aresult, mkF, undefV, reduceCtorEq, kD, kE, kF, kG, kH, kI, kJ, kK, aExtract, calleeOf]; simp)
  ⟨0, _, [], rfl, Nat.zero_le _, rfl, R0, gC, by simpa [blk] using neMC, fun j u b hu => by simp at hu, fun b hb => by simp [blk] at hb; subst hb; exact nC⟩ ?_
 clear R0 gC oM8 lA8 nC neMC bs0 o8 wf8 le8 e8 o7 wf7 le7 e7
 rintro k frm hh hwh ⟨i, cv, us, rfl, hi, rfl, R, gc, nc, dc, ac⟩
 have leh := R.le
 simp only [kS1, bLookup, bMapSet, wantA, isCall, stepOp, evalO, evalL, evalP, evalM, putDst, flat, kA, kB, Nat.reduceLT, ↓reduceIte, kC, Nat.reduceEqDiff, aBuiltin, abinG, guardFree, abin, aInt, aUn, aNilCheck, retQ, retQ1, aresults, aresultL, aresult, mkF, undefV, reduceCtorEq, kD, kE, kF, kG, kH, kI, kJ, kK, aExtract, calleeOf]
 refine KCond.intro (fun ht => ?_) (fun hf => ?_)
 rotate_left
 ·have hge : es.length ≤ i := lt_f hf
  obtain rfl : i = es.length := by omega
  obtain ⟨nd, gne, glen, gll, gmem⟩ := grpsM_ok fr es web es.length
  generalize hgs : grpsM fr es web es.length = gs at *
  have lc := fun g => gc.rl.len (P := Try.prog) Try.underlying38 g
  have hkl : (keysG gs).length = gs.length := by simp [keysG]
  rw [hkl] at lc
  obtain ⟨c0, mk, hc0⟩ := mkFr hh gs.length (by omega)
  obtain ⟨h9, e9, le9, wf9, o9⟩ := alloc_f hwh c0
  rw [e9] at mk
  have nF : hh.own hh.next = none := (Le.refl hh).next hwh (Nat.le_refl _)
  generalize hh.next = F at *
  simp only [kS1, bLookup, bMapSet, wantA, isCall, stepOp, evalO, evalL, evalP, evalM, putDst, flat, kA, kB, Nat.reduceLT, ↓reduceIte, kC, Nat.reduceEqDiff, aBuiltin, abinG, guardFree, abin, aInt, aUn, aNilCheck, retQ, retQ1, aresults, aresultL, aresult, mkF, undefV, reduceCtorEq, kD, kE, kF, kG, kH, kI, kJ, kK, aExtract, calleeOf, lc, mk]
  refine KLoop.intro (fun k frm hq => ∃ (j : Nat) (cs : List Value), k = gs.length - j ∧ j ≤ gs.length ∧ frm = mkF [(7, .pointer (some ⟨O, 0, none⟩)), (11, .map (some M)), (16, .slice (some ⟨F, 0, none⟩) gs.length gs.length), (73, cv), (74, .int .i64 gs.length), (75, .int .i64 j)] ∧
    Le hh hq ∧ hq.own F = some (.cells cs) ∧ cs.length = gs.length * 2 ∧ ∀ (a : Nat) g, a < j → gs[a]? = some g → ∃ x y, cs[a * 2]? = some x ∧ cs[a * 2 + 1]? = some y ∧ PR (hq.kill F) x g.2 ∧ RL isI (hq.kill F) y (feetM on g.2))
   gs.length [(7, .pointer (some ⟨O, 0, none⟩)), (11, .map (some M)), (16, .slice (some ⟨F, 0, none⟩) gs.length gs.length), (73, cv), (74, .int .i64 gs.length), (75, .int .i64 (0 : Nat))] (by simp only [hasAll, kS1, bLookup, bMapSet, wantA, isCall, stepOp, evalO, evalL, evalP, evalM, putDst, flat, kA, kB, Nat.reduceLT, ↓reduceIte, kC, Nat.reduceEqDiff, aBuiltin, abinG, guardFree, abin, aInt, aUn, aNilCheck, retQ, retQ1, aresults, aresultL, aresult, mkF, undefV, reduceCtorEq, kD, kE, kF, kG, kH, kI, kJ, kK, aExtract, calleeOf]; simp)
   ⟨0, c0, rfl, Nat.zero_le _, rfl, le9, o9, hc0, by omega⟩ ?_
  clear e9 o9 wf9 le9 mk hc0 c0 h9
  rintro k frm hq hwq ⟨j, cs, rfl, hj, rfl, leq, oF, hcs, hdone⟩
  simp only [kS1, bLookup, bMapSet, wantA, isCall, stepOp, evalO, evalL, evalP, evalM, putDst, flat, kA, kB, Nat.reduceLT, ↓reduceIte, kC, Nat.reduceEqDiff, aBuiltin, abinG, guardFree, abin, aInt, aUn, aNilCheck, retQ, retQ1, aresults, aresultL, aresult, mkF, undefV, reduceCtorEq, kD, kE, kF, kG, kH, kI, kJ, kK, aExtract, calleeOf]
  refine KCond.intro (fun ht => ?_) (fun hf => ?_)
  rotate_left
  ·have hge : gs.length ≤ j := lt_f hf
   simp only [kS1, bLookup, bMapSet, wantA, isCall, stepOp, evalO, evalL, evalP, evalM, putDst, flat, kA, kB, Nat.reduceLT, ↓reduceIte, kC, Nat.reduceEqDiff, aBuiltin, abinG, guardFree, abin, aInt, aUn, aNilCheck, retQ, retQ1, aresults, aresultL, aresult, mkF, undefV, reduceCtorEq, kD, kE, kF, kG, kH, kI, kJ, kK, aExtract, calleeOf]
   refine ⟨le06.trans (leh.trans leq), _, _, rfl, .inr (.inr ⟨hr, hweb, rfl, L, hT, ?_⟩)⟩
   have hFM : FragsM n es web L = gs.map fun g => ⟨g.2, feetM on g.2⟩ := by rw [← hgs]; rfl
   show FL hq _ (FragsM n es web L)
   rw [hFM]
   refine ⟨cs, ?_, fun a f ha => ?_⟩
   ·have := CS.own (k := 2) (off := 0) (n := gs.length) (cap := gs.length) oF (by omega)
    rw [List.drop_zero, List.take_of_length_le (by omega)] at this
    simpa using this
   ·rw [List.getElem?_map] at ha
    cases hga : gs[a]? with
    | none => rw [hga] at ha; cases ha
    | some g =>
     rw [hga] at ha; simp at ha; subst ha
     obtain ⟨x, y, q1, q2, q3, q4⟩ := hdone a g (by have := (List.getElem?_eq_some_iff.1 hga).1; omega) hga
     exact ⟨x, y, q1, q2, q3.le (Le.killed hq F), q4.le Stays.isI (Le.killed hq F)⟩
  have hjl : j < gs.length := lt_t ht
  clear ht
  have hgj := getElem?_of hjl
  generalize gs[j] = g at hgj
  obtain ⟨f, l⟩ := g
  have hkj : (keysG gs)[j]? = some f := by simp [keysG, hgj]
  have hjk := (List.getElem?_eq_some_iff.1 hkj).1
  have adk := gc.rl.addr (P := Try.prog) Try.underlying38 Try.underlying3 (by kernel_rfl) (k := .i64) j hjk
  have ldk := (gc.rl.le Stays.isI leq).loadI (P := Try.prog) Try.underlying3 rfl j hjk
  rw [(List.getElem?_eq_some_iff.1 hkj).2] at ldk
  have Rq := R.up leq
  obtain ⟨u, hu0, gu0⟩ := R.look f
  rw [lstG_get nd hgj] at gu0
  have hu : aLookup Try.prog hq 95 (.map (some M)) (.int .i64 f) false = some u := by rw [← hu0]; simp only [aLookup, Try.underlying95, Try.underlying3, Rq.oM, R.oM]
  have gu := gu0.le leq
  have lOq := lO hq (le46.trans (leh.trans leq))
  have hInl : InR n l := fun p hp => hR p (gmem _ (List.mem_of_getElem? hgj) p hp)
  have hll : l.length ≤ 1000 := by have := glen _ (List.mem_of_getElem? hgj); simp at this; omega
  have ixF : ∀ k : IntKind, aIndexAddr Try.prog 35 (.slice (some ⟨F, 0, none⟩) gs.length gs.length) (.int k j) = some (.pointer (some ⟨F, j * 2, none⟩)) := fun k => by
   have h1 : (j : Int) < (gs.length : Int) := by omega
   simp [aIndexAddr, Try.underlying35, Try.underlying40, h1, ts41, aadd]
  have feet := feet_any W0 u nv n l (onM n web) hq gu.pr (hnv6.le Stays.isBo (leh.trans leq)) hInl hbl hll
  simp only [kS1, bLookup, bMapSet, wantA, isCall, stepOp, evalO, evalL, evalP, evalM, putDst, flat, kA, kB, Nat.reduceLT, ↓reduceIte, kC, Nat.reduceEqDiff, aBuiltin, abinG, guardFree, abin, aInt, aUn, aNilCheck, retQ, retQ1, aresults, aresultL, aresult, mkF, undefV, reduceCtorEq, kD, kE, kF, kG, kH, kI, kJ, kK, aExtract, calleeOf, adk, ldk]
  refine KDraw.intro mixed (.fl 0 (.fl 1 (.fl 2 (.fl 3 (.fl 5 (.fl 6 (.fl 8 (.ch 4 [2, 3] (.ch 7 [5, 6] (.ch 9 [7, 8] (.fl 10 (.fl 11 (.ch 12 [0, 1, 2, 3, 4, 5, 6, 7, 8, 9, 10, 11] (.done) .no))) .no) .no) (.ch 7 [5, 6] (.ch 4 [2, 3] (.ch 9 [7, 8] (.fl 10 (.fl 11 (.ch 12 [0, 1, 2, 3, 4, 5, 6, 7, 8, 9, 10, 11] (.done) .no))) .no) (.ch 9 [7, 8] (.ch 4 [2, 3] (.fl 10 (.fl 11 (.ch 12 [0, 1, 2, 3, 4, 5, 6, 7, 8, 9, 10, 11] (.done) .no))) .no) .no)) .no))))))))) (by kernel_rfl) ?_
  simp only [kS1, bLookup, bMapSet, wantA, isCall, stepOp, evalO, evalL, evalP, evalM, putDst, flat, kA, kB, Nat.reduceLT, ↓reduceIte, kC, Nat.reduceEqDiff, aBuiltin, abinG, guardFree, abin, aInt, aUn, aNilCheck, retQ, retQ1, aresults, aresultL, aresult, mkF, undefV, reduceCtorEq, kD, kE, kF, kG, kH, kI, kJ, kK, aExtract, calleeOf, kD1, Nat.reduceBEq, HoldsAll, kL, kM, kN, kO, hu, lOq]
  refine ⟨?_, ?_, ?_⟩
  all_goals
   refine KGCall.intro (by simp only [kS1, bLookup, bMapSet, wantA, isCall, stepOp, evalO, evalL, evalP, evalM, putDst, flat, kA, kB, Nat.reduceLT, ↓reduceIte, kC, Nat.reduceEqDiff, aBuiltin, abinG, guardFree, abin, aInt, aUn, aNilCheck, retQ, retQ1, aresults, aresultL, aresult, mkF, undefV, reduceCtorEq, kD, kE, kF, kG, kH, kI, kJ, kK, aExtract, calleeOf] <;> rfl) ⟨Try.func66, rfl, by decide⟩ feet ?_
   rintro y hz wz ⟨hy, lz, ay⟩
   have huz : aLookup Try.prog hz 95 (.map (some M)) (.int .i64 f) false = some u := by rw [← hu]; simp only [aLookup, Try.underlying95, Try.underlying3, lz.own _ _ Rq.oM, Rq.oM]
   have sty := stFr (lz.own _ _ oF) (show j * 2 + 2 ≤ cs.length by omega) (gu.pr.le lz) hy
   have wz2 : Le hh (hz.put F (.cells ((cs.set (j * 2) u).set (j * 2 + 1) y))) := (leq.trans lz).put _ nF
   have bld := build41 gu.pr.sl hy.sl
   simp only [kS1, bLookup, bMapSet, wantA, isCall, stepOp, evalO, evalL, evalP, evalM, putDst, flat, kA, kB, Nat.reduceLT, ↓reduceIte, kC, Nat.reduceEqDiff, aBuiltin, abinG, guardFree, abin, aInt, aUn, aNilCheck, retQ, retQ1, aresults, aresultL, aresult, mkF, undefV, reduceCtorEq, kD, kE, kF, kG, kH, kI, kJ, kK, aExtract, calleeOf, kD1, Nat.reduceBEq, HoldsAll, kL, kM, kN, kO, huz, bld, ixF, sty, awrap_succ j (by omega)]
   refine loop_again (gs.length - (j + 1)) [(7, .pointer (some ⟨O, 0, none⟩)), (11, .map (some M)), (16, .slice (some ⟨F, 0, none⟩) gs.length gs.length), (73, cv), (74, .int .i64 gs.length), (75, .int .i64 (j + 1 : Nat))] (by omega) (by simp only [hasAll, kS1, bLookup, bMapSet, wantA, isCall, stepOp, evalO, evalL, evalP, evalM, putDst, flat, kA, kB, Nat.reduceLT, ↓reduceIte, kC, Nat.reduceEqDiff, aBuiltin, abinG, guardFree, abin, aInt, aUn, aNilCheck, retQ, retQ1, aresults, aresultL, aresult, mkF, undefV, reduceCtorEq, kD, kE, kF, kG, kH, kI, kJ, kK, aExtract, calleeOf]; simp)
    ⟨j + 1, (cs.set (j * 2) u).set (j * 2 + 1) y, rfl, hjl, rfl, wz2, AHeap.own_put_eq _ _ _, by simpa using hcs, fun a g ha hga => ?_⟩
   have hyF : blk y ≠ some F := fun hb => by have := ay F hb; rw [oF] at this; cases this
   by_cases e : a = j
   ·subst e
    rw [hgj] at hga; injection hga with hga; subst hga
    refine ⟨u, y, by rw [List.getElem?_set, if_neg (by omega), List.getElem?_set, if_pos rfl, if_pos (by omega)], by rw [List.getElem?_set, if_pos rfl, if_pos (by simp; omega)], gu0.pr.le ((leq.trans lz).put_kill nF _), ?_⟩
    refine RL.killI (F := F) ?_ hyF
    have h1 := (hy.killI hyF).le Stays.isI (h' := (hz.put F (.cells ((cs.set (a * 2) u).set (a * 2 + 1) y))).kill F) ((Le.refl hz).kill_put F _)
    exact h1.le Stays.isI (Le.killed _ F)
   ·obtain ⟨x', y', q1, q2, q3, q4⟩ := hdone a g (by omega) hga
    exact ⟨x', y', by rw [List.getElem?_set, if_neg (by omega), List.getElem?_set, if_neg (by omega)]; exact q1, by rw [List.getElem?_set, if_neg (by omega), List.getElem?_set, if_neg (by omega)]; exact q2, q3.le (lz.kill_put F _), q4.le Stays.isI (lz.kill_put F _)⟩
 have hlt : i < es.length := lt_t ht
 clear ht
 have hpi := getElem?_of hlt
 generalize es[i] = p at hpi
 have hpm := List.mem_of_getElem? hpi
 obtain ⟨p1, p2, p3⟩ := hR p hpm
 have hofi : (ofM es web)[i]? = some (decide (p ∈ web)) := by simp [ofM, hpi]
 have hofl : i < (ofM es web).length := by rw [ofM_length]; exact hlt
 have hph := hp6.le leh
 have ad := hp.addr (k := .i64) i hlt
 have ld := hph.load hpi
 obtain ⟨h7', h7, e7, e7s, le7, wf7, o7⟩ := new42 hwh p
 have nE6 : h6.own hh.next = none := leh.next hwh (Nat.le_refl _)
 have nEh : hh.own hh.next = none := (Le.refl hh).next hwh (Nat.le_refl _)
 have leh7 := leh.trans le7
 have oA : ∀ k : IntKind, aIndexAddr Try.prog 25 ov (.int k (i : Int)) = some (.pointer (some (elemAddr ov i))) := fun k => hov.addrBo i hofl
 have oL : aload Try.prog h7 4 (elemAddr ov i) = some (.bool (decide (p ∈ web))) := by
  rw [(hov6.le Stays.isBo leh7).loadBo i hofl, (List.getElem?_eq_some_iff.1 hofi).2]
 have R7 := R.up le7
 have gc7 := gc.le le7
 have nEM : hh.next ≠ M := fun e => by have := R.oM; rw [← e, nEh] at this; cases this
 have nEc : blk cv ≠ some hh.next := fun e => GS.blk_own gc e nEh
 have nEu : ∀ (j : Nat) u, us[j]? = some u → blk u ≠ some hh.next := fun j u hu e => by
  have hgs : ∃ q, (grpsM fr es web i)[j]? = some q := ⟨_, getElem?_of (by rw [← R.len]; exact (List.getElem?_eq_some_iff.1 hu).1)⟩
  obtain ⟨q, hq⟩ := hgs
  exact GS.blk_own (R.gp j u q hu hq) e nEh
 generalize hh.next = E at *
 by_cases c1 : p ∈ web
 ·rw [decide_eq_true c1] at oL
  rw [← grpsM_in hpi c1] at R7 gc7
  simp only [kS1, bLookup, bMapSet, wantA, isCall, stepOp, evalO, evalL, evalP, evalM, putDst, flat, kA, kB, Nat.reduceLT, ↓reduceIte, kC, Nat.reduceEqDiff, aBuiltin, abinG, guardFree, abin, aInt, aUn, aNilCheck, retQ, retQ1, aresults, aresultL, aresult, mkF, undefV, reduceCtorEq, kD, kE, kF, kG, kH, kI, kJ, kK, aExtract, calleeOf, ad, ld, e7, e7s, oA, oL, awrap_succ i (by omega)]
  exact loop_again (es.length - (i + 1)) [(6, ov), (7, .pointer (some ⟨O, 0, none⟩)), (10, .func (.func 65) #[] #[.pointer (some ⟨B, 0, none⟩), .pointer (some ⟨O, 0, none⟩), .pointer (some ⟨T, 0, none⟩)]), (11, .map (some M)), (12, cv), (38, ev), (39, .int .i64 es.length), (40, .int .i64 (i + 1 : Nat))] (by omega) (by simp only [hasAll, kS1, bLookup, bMapSet, wantA, isCall, stepOp, evalO, evalL, evalP, evalM, putDst, flat, kA, kB, Nat.reduceLT, ↓reduceIte, kC, Nat.reduceEqDiff, aBuiltin, abinG, guardFree, abin, aInt, aUn, aNilCheck, retQ, retQ1, aresults, aresultL, aresult, mkF, undefV, reduceCtorEq, kD, kE, kF, kG, kH, kI, kJ, kK, aExtract, calleeOf]; simp)
   ⟨i + 1, cv, us, rfl, hlt, rfl, R7, gc7, nc, dc, ac⟩
 rw [decide_eq_false c1] at oL
 simp only [kS1, bLookup, bMapSet, wantA, isCall, stepOp, evalO, evalL, evalP, evalM, putDst, flat, kA, kB, Nat.reduceLT, ↓reduceIte, kC, Nat.reduceEqDiff, aBuiltin, abinG, guardFree, abin, aInt, aUn, aNilCheck, retQ, retQ1, aresults, aresultL, aresult, mkF, undefV, reduceCtorEq, kD, kE, kF, kG, kH, kI, kJ, kK, aExtract, calleeOf, ad, ld, e7, e7s, oA, oL]
 have lA7 := lA h7 (le16.trans leh7)
 refine KCall.intro (by simp only [kS1, bLookup, bMapSet, wantA, isCall, stepOp, evalO, evalL, evalP, evalM, putDst, flat, kA, kB, Nat.reduceLT, ↓reduceIte, kC, Nat.reduceEqDiff, aBuiltin, abinG, guardFree, abin, aInt, aUn, aNilCheck, retQ, retQ1, aresults, aresultL, aresult, mkF, undefV, reduceCtorEq, kD, kE, kF, kG, kH, kI, kJ, kK, aExtract, calleeOf] <;> rfl) ⟨Try.func65, rfl, by decide⟩ (frag_any W0 ev nv tv n es (onM n web) L B O T i p h7 (hp6.le leh7) (hnv6.le Stays.isBo leh7) (hL6.le Stays.isI leh7) hR hbl hT.len lA7.2.1 lA7.2.2 (lO h7 (le46.trans leh7)) (lT h7 leh7) hpi (by omega) (by omega)) ?_
 rintro x h9 - ⟨rfl, rfl⟩
 obtain ⟨nd, gne, glen, gll, gmem⟩ := grpsM_ok fr es web i
 have hout := grpsM_out (fr := fr) hpi c1
 have hadd := keysG_add (grpsM fr es web i) (fr p i) p
 have hne := lstG_ne (f := fr p i) gne
 have hll := lstG_len (fr p i) _ _ glen
 have hfd : fragM n (fun u => (onM n web).getD u false) L p i = fr p i := rfl
 rw [hfd]
 generalize hgs : grpsM fr es web i = gs at *
 generalize fr p i = f at *
 have hkl : (keysG gs).length ≤ 1000 := by simp [keysG]; omega
 obtain ⟨u, hu, gu⟩ := R7.look f
 have lu := fun g => gu.pr.len g
 have usown : ∀ (j : Nat) a b, us[j]? = some a → blk a = some b → ∃ o, h9.own b = some o := fun j a b ha hb => by
  have hq : ∃ q, gs[j]? = some q := ⟨_, getElem?_of (by rw [← R7.len]; exact (List.getElem?_eq_some_iff.1 ha).1)⟩
  obtain ⟨q, hq⟩ := hq
  exact Option.ne_none_iff_exists'.1 (GS.blk_own (R7.gp j a q ha hq) hb)
 by_cases c2 : lstG gs f = []
 ·have lu0 : ∀ g, aLen Try.prog g 22 u = some (.int .i64 0) := fun g => by rw [lu g, c2]; rfl
  have hnk : f ∉ keysG gs := fun hm => hne.1 hm c2
  rw [if_neg hnk] at hadd
  obtain ⟨cv', g4, g5, e4, e5, gc5, w5, l4, hf5, hk5⟩ := gc7.push wf7 f (by omega)
  obtain ⟨l5, a5⟩ := hf5 h6 leh7 ac
  have R5 : Grps h6 g5 M us gs := R7.keep l5 fun b o ho hb => (hk5 b o ho (by
   rcases hb with rfl | ⟨j, a, ha, hb⟩
   ·exact nc
   ·exact dc j a b ha hb)).1
  obtain ⟨oE5, nE5⟩ := hk5 E _ o7 nEc
  have nM5 := (hk5 M _ R7.oM nc).2
  obtain ⟨u2, u2', q4, q5, q6, us', eu, eb, ea, em, Rn, wn, lq4, kq⟩ := R5.push w5 f p (by rw [c2]; simp)
  have LP5 := own42 oE5
  rw [← hadd] at gc5
  have ku : ∀ (j : Nat) a b, us[j]? = some a → blk a = some b → blk cv' ≠ some b := fun j a b ha hb => by
   obtain ⟨o, ho⟩ := usown j a b ha hb
   exact (hk5 b o ho (dc j a b ha hb)).2
  have gcn : GI q6 cv' (keysG (addG gs f p)) := GS.kept gc5 fun b o hb ho => (kq b o ho (fun e => nM5 (by rw [← e]; exact hb)) (fun j a ha hb2 => ku j a b ha hb2 hb)).2.1
  simp only [kS1, bLookup, bMapSet, wantA, isCall, stepOp, evalO, evalL, evalP, evalM, putDst, flat, kA, kB, Nat.reduceLT, ↓reduceIte, kC, Nat.reduceEqDiff, aBuiltin, abinG, guardFree, abin, aInt, aUn, aNilCheck, retQ, retQ1, aresults, aresultL, aresult, mkF, undefV, reduceCtorEq, kD, kE, kF, kG, kH, kI, kJ, kK, aExtract, calleeOf, hu, lu0, e4, e5, eu, LP5, eb, ea, em, awrap_succ i (by omega)]
  refine loop_again (es.length - (i + 1)) [(6, ov), (7, .pointer (some ⟨O, 0, none⟩)), (10, .func (.func 65) #[] #[.pointer (some ⟨B, 0, none⟩), .pointer (some ⟨O, 0, none⟩), .pointer (some ⟨T, 0, none⟩)]), (11, .map (some M)), (12, cv'), (38, ev), (39, .int .i64 es.length), (40, .int .i64 (i + 1 : Nat))] (by omega) (by simp only [hasAll, kS1, bLookup, bMapSet, wantA, isCall, stepOp, evalO, evalL, evalP, evalM, putDst, flat, kA, kB, Nat.reduceLT, ↓reduceIte, kC, Nat.reduceEqDiff, aBuiltin, abinG, guardFree, abin, aInt, aUn, aNilCheck, retQ, retQ1, aresults, aresultL, aresult, mkF, undefV, reduceCtorEq, kD, kE, kF, kG, kH, kI, kJ, kK, aExtract, calleeOf]; simp)
   ⟨i + 1, cv', us', rfl, hlt, rfl, ?_⟩
  rw [hout]
  refine ⟨Rn, gcn, nM5, fun j a b ha hb hc => ?_, a5⟩
  obtain ⟨o, ho⟩ := Option.ne_none_iff_exists'.1 (GS.blk_own gc5 hc)
  exact (kq b o ho (fun e => nM5 (by rw [← e]; exact hc)) (fun j a ha hb2 => ku j a b ha hb2 hc)).2.2 j a ha hb
 ·have hz : (((lstG gs f).length : Nat) : Int) ≠ 0 := by
   have : (lstG gs f).length ≠ 0 := fun e => c2 (List.length_eq_zero_iff.1 e)
   omega
  rw [if_pos (hne.2 c2)] at hadd
  obtain ⟨u2, u2', q4, q5, q6, us', eu, eb, ea, em, Rn, wn, lq4, kq⟩ := R7.push wf7 f p (by omega)
  obtain rfl : u = u2 := by rw [hu] at eu; injection eu
  have LP5 := own42 o7
  have gcn : GI q6 cv (keysG (addG gs f p)) := by
   rw [hadd]
   exact GS.kept gc7 fun b o hb ho => (kq b o ho (fun e => nc (by rw [← e]; exact hb)) (fun j a ha hb2 => dc j a b ha hb2 hb)).2.1
  simp only [kS1, bLookup, bMapSet, wantA, isCall, stepOp, evalO, evalL, evalP, evalM, putDst, flat, kA, kB, Nat.reduceLT, ↓reduceIte, kC, Nat.reduceEqDiff, aBuiltin, abinG, guardFree, abin, aInt, aUn, aNilCheck, retQ, retQ1, aresults, aresultL, aresult, mkF, undefV, reduceCtorEq, kD, kE, kF, kG, kH, kI, kJ, kK, aExtract, calleeOf, hu, lu, eq_false hz, LP5, eb, ea, em, awrap_succ i (by omega)]
  refine loop_again (es.length - (i + 1)) [(6, ov), (7, .pointer (some ⟨O, 0, none⟩)), (10, .func (.func 65) #[] #[.pointer (some ⟨B, 0, none⟩), .pointer (some ⟨O, 0, none⟩), .pointer (some ⟨T, 0, none⟩)]), (11, .map (some M)), (12, cv), (38, ev), (39, .int .i64 es.length), (40, .int .i64 (i + 1 : Nat))] (by omega) (by simp only [hasAll, kS1, bLookup, bMapSet, wantA, isCall, stepOp, evalO, evalL, evalP, evalM, putDst, flat, kA, kB, Nat.reduceLT, ↓reduceIte, kC, Nat.reduceEqDiff, aBuiltin, abinG, guardFree, abin, aInt, aUn, aNilCheck, retQ, retQ1, aresults, aresultL, aresult, mkF, undefV, reduceCtorEq, kD, kE, kF, kG, kH, kI, kJ, kK, aExtract, calleeOf]; simp)
   ⟨i + 1, cv, us', rfl, hlt, rfl, ?_⟩
  rw [hout]
  refine ⟨Rn, gcn, nc, fun j a b ha hb hc => ?_, ac⟩
  obtain ⟨o, ho⟩ := Option.ne_none_iff_exists'.1 (GS.blk_own gc7 hc)
  exact (kq b o ho (fun e => nc (by rw [← e]; exact hc)) (fun j a ha hb2 => dc j a b ha hb2 hc)).2.2 j a ha hb
end Go.Fw
