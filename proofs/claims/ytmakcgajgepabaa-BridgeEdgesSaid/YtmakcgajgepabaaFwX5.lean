/- One of the texts of the layer and the walks: it proves what its theorems say of the functions of the seat, with no condition beyond theirs. -/
import Derived.Test.YtmakcgajgepabaaFwX4
set_option linter.unusedSimpArgs false
set_option linter.unusedVariables false
namespace Go.Fw
open Go.Proofs
attribute [local irreducible] KO4 KO3 KO2 KO1 KO KN KX KE VK KCond KDraw KCall KLoop
set_option maxHeartbeats 8000000
set_option maxRecDepth 100000
theorem GX.put {h : AHeap} {X : Nat} {n : Int} {ev : Value} {ps : List Pr} (g : GX h X n ev ps) {id : Nat} (o : AObj) (h1 : X ≠ id) (h2 : blk ev ≠ some id) : GX (h.put id o) X n ev ps :=
  ⟨by rw [AHeap.own_put_ne _ _ _ _ h1]; exact g.ox, GS.put g.gp _ h2, g.ne⟩
theorem GX.push' {h : AHeap} {X : Nat} {n : Int} {ev : Value} {ps : List Pr} (g : GX h X n ev ps) (hw : WF h) (p : Pr) (hn : ps.length + 1 ≤ 100000) :
    ∃ v' h4 h5 h6, aBuildSlice Try.prog h 22 1 [(0, valP p)] = some (.slice (some ⟨h.next, 0, none⟩) 1 1, h4) ∧ aAppend Try.prog h4 22 22 ev (.slice (some ⟨h.next, 0, none⟩) 1 1) = some (v', h5) ∧ aStore Try.prog h5 22 (.pointer (some ⟨X, 1, none⟩)) v' = some h6 ∧
      GX h6 X n v' (ps ++ [p]) ∧ WF h6 ∧ Le h h4 ∧ (∀ f, Le f h → f.own X = none → Apart f ev → Le f h6 ∧ Apart f v') ∧ (∀ b o, h.own b = some o → b ≠ X → blk ev ≠ some b → h6.own b = some o ∧ blk v' ≠ some b) := by
  obtain ⟨v', h4, h5, e4, e5, g5, w5, l4, hf, hk⟩ := g.gp.push hw p hn
  obtain ⟨ox5, nx5⟩ := hk X _ g.ox g.ne
  have one := g5.pr.sl.one
  have hc : v'.cells = #[v'] := by obtain ⟨_, _, rfl, _⟩ := g5.pr.sl; rfl
  have st := aStore1 (P := Try.prog) (t := 22) (x := v') Try.underlying22 (by kernel_rfl) ox5 (off := 1) (by simp) hc one
  refine ⟨v', h4, h5, _, e4, e5, st, ⟨AHeap.own_put_eq _ _ _, GS.put g5 _ nx5, nx5⟩, w5.put _ (w5.lt ox5), l4, fun f lf nf af => ?_, fun b o hb hx he => ?_⟩
  · obtain ⟨l5, a5⟩ := hf f lf af
    exact ⟨l5.put _ nf, a5⟩
  · obtain ⟨q1, q2⟩ := hk b o hb he
    exact ⟨by rw [AHeap.own_put_ne _ _ _ _ hx]; exact q1, q2⟩
theorem GX.new' {h : AHeap} (hw : WF h) (n : Int) : ∃ h1 h2, aAlloc Try.prog h 24 = some (.pointer (some ⟨h.next, 0, none⟩), h1) ∧ aStore Try.prog h1 3 (.pointer (some ⟨h.next, 0, none⟩)) (.int .i64 n) = some h2 ∧ Le h h1 ∧ Le h h2 ∧ WF h2 ∧ h.own h.next = none ∧ GX h2 h.next n (.slice none 0 0) [] := by
  obtain ⟨h1, e1, l1, w1, o1⟩ := alloc_f hw [.int .i64 0, .slice none 0 0]
  have nw : h.own h.next = none := (Le.refl h).next hw (Nat.le_refl _)
  have st := aStore1 (P := Try.prog) (t := 3) (x := .int .i64 n) Try.underlying3 (by kernel_rfl) o1 (off := 0) (by simp) rfl rfl
  exact ⟨h1, _, by rw [alloc24, e1], st, l1, l1.put _ nw, w1.put _ (w1.lt o1), nw, ⟨AHeap.own_put_eq _ _ _, GP.nil _, by simp [blk]⟩⟩
theorem new41' {h : AHeap} (hw : WF h) {a b : Value} {n m : Nat} (ha : isSl a n) (hb : isSl b m) : ∃ h1 h2, aAlloc Try.prog h 41 = some (.pointer (some ⟨h.next, 0, none⟩), h1) ∧ aStore Try.prog h1 41 (.pointer (some ⟨h.next, 0, none⟩)) (.agg #[a, b]) = some h2 ∧ Le h h2 ∧ WF h2 ∧ h.own h.next = none ∧ h2.own h.next = some (.cells [a, b]) := by
  obtain ⟨h1, e1, l1, w1, o1⟩ := alloc_f hw [.slice none 0 0, .slice none 0 0]
  have nw : h.own h.next = none := (Le.refl h).next hw (Nat.le_refl _)
  have st : aStore Try.prog h1 41 (.pointer (some ⟨h.next, 0, none⟩)) (.agg #[a, b]) = some (h1.put h.next (.cells [a, b])) := by
    obtain ⟨_, _, rfl, _⟩ := ha
    obtain ⟨_, _, rfl, _⟩ := hb
    simp [aStore, o1, Value.cells, ts41, putCells, Try.underlying41]
    exact ⟨rfl, rfl⟩
  exact ⟨h1, _, by rw [alloc41, e1], st, l1.put _ nw, w1.put _ (w1.lt o1), nw, AHeap.own_put_eq _ _ _⟩
theorem ld41 {g : AHeap} {C : Nat} {a b : Value} (ho : g.own C = some (.cells [a, b])) : aload Try.prog g 41 ⟨C, 0, none⟩ = some (.agg #[a, b]) ∧ aload Try.prog g 22 ⟨C, 0, none⟩ = some a ∧ aload Try.prog g 39 ⟨C, 1, none⟩ = some b := by
  refine ⟨?_, ?_, ?_⟩
  · rw [aload_own Try.underlying41 rfl ts41 ho (by simp)]; rfl
  · rw [aload_one Try.underlying22 rfl ho]; rfl
  · rw [aload_one Try.underlying39 rfl ho]; rfl
def AtOK (n : Nat) (web : List Pr) (fs : List FM) (i : Nat) (al : List (Int × Int)) : Prop :=
  ∀ (v : Nat) k, lookK al (v : Int) = some k → ∃ (i' : Nat) (f : FM), i' < i ∧ k = (i' : Int) ∧ fs[i']? = some f ∧ ∃ p ∈ f.edges, endB p (v : Int) = true ∧ onF n web v = false
def OfOK (fs : List FM) (i : Nat) (more : List Pr) (ol : List (Pr × Int)) : Prop :=
  (ol.map (·.1)).Nodup ∧ ∀ p, p ∈ ol.map (·.1) ↔ (∃ (i' : Nat) (f : FM), i' < i ∧ fs[i']? = some f ∧ p ∈ f.edges) ∨ p ∈ more
theorem edges5_any (W0 : World) (v bv : Value) (G : GM) (bs : List Bool) (h : AHeap) (hg : GR h v G) (hb : RL isBo h bv bs) : AC Try.prog W0 5 [v, bv] h fun x h' => x = .bool true ∧ Le h h' := by
  have hg0 := hg
  obtain ⟨gn, es⟩ := G
  obtain ⟨ev, rfl, hp⟩ := hg.open
  refine AC.vc (fn := Try.f5) (c := _) ⟨Try.func5, rfl, by decide⟩ Try.ntmps5 Try.results5 (by simp) fun hwf => ?_
  simp only [argFrame, argFrom, Nat.reduceAdd]
  obtain ⟨h1, b1, le1, wf1, -, lA⟩ := boxG (n := gn) hwf hp
  generalize h.next = B at *
  have lA1 := lA h1 (Le.refl _)
  simp only [kS1, bLookup, bMapSet, wantA, isCall, stepOp, evalO, evalL, evalP, evalM, putDst, flat, kA, kB, Nat.reduceLT, ↓reduceIte, kC, Nat.reduceEqDiff, aBuiltin, abinG, guardFree, abin, aInt, aUn, aNilCheck, retQ, retQ1, aresults, aresultL, aresult, mkF, undefV, reduceCtorEq, kD, kE, kF, kG, kH, kI, kJ, kK, aExtract, calleeOf, b1, lA1.1]
  refine KCall.intro (by simp only [kS1, bLookup, bMapSet, wantA, isCall, stepOp, evalO, evalL, evalP, evalM, putDst, flat, kA, kB, Nat.reduceLT, ↓reduceIte, kC, Nat.reduceEqDiff, aBuiltin, abinG, guardFree, abin, aInt, aUn, aNilCheck, retQ, retQ1, aresults, aresultL, aresult, mkF, undefV, reduceCtorEq, kD, kE, kF, kG, kH, kI, kJ, kK, aExtract, calleeOf] <;> rfl) ⟨Try.func17, rfl, by decide⟩ (right17_any W0 _ _ h1 (hg0.le le1)) ?_
  rintro x h2 wf2 ⟨⟨bb, rfl, hbb⟩, le2⟩
  cases bb with
  | false =>
    simp only [kS1, bLookup, bMapSet, wantA, isCall, stepOp, evalO, evalL, evalP, evalM, putDst, flat, kA, kB, Nat.reduceLT, ↓reduceIte, kC, Nat.reduceEqDiff, aBuiltin, abinG, guardFree, abin, aInt, aUn, aNilCheck, retQ, retQ1, aresults, aresultL, aresult, mkF, undefV, reduceCtorEq, kD, kE, kF, kG, kH, kI, kJ, kK, aExtract, calleeOf]
    refine KCall.intro (by simp only [kS1, bLookup, bMapSet, wantA, isCall, stepOp, evalO, evalL, evalP, evalM, putDst, flat, kA, kB, Nat.reduceLT, ↓reduceIte, kC, Nat.reduceEqDiff, aBuiltin, abinG, guardFree, abin, aInt, aUn, aNilCheck, retQ, retQ1, aresults, aresultL, aresult, mkF, undefV, reduceCtorEq, kD, kE, kF, kG, kH, kI, kJ, kK, aExtract, calleeOf] <;> rfl) ⟨Try.func10, rfl, by decide⟩ (awake_any W0 h2) ?_
    rintro x h3 w3 ⟨rfl, l3⟩
    simp only [kS1, bLookup, bMapSet, wantA, isCall, stepOp, evalO, evalL, evalP, evalM, putDst, flat, kA, kB, Nat.reduceLT, ↓reduceIte, kC, Nat.reduceEqDiff, aBuiltin, abinG, guardFree, abin, aInt, aUn, aNilCheck, retQ, retQ1, aresults, aresultL, aresult, mkF, undefV, reduceCtorEq, kD, kE, kF, kG, kH, kI, kJ, kK, aExtract, calleeOf]
    exact ⟨trivial, (le1.trans le2).trans l3⟩
  | true =>
  obtain ⟨hr, h30⟩ := hbb.1 rfl
  have h0 : 0 ≤ gn := hr.n0
  obtain ⟨n, rfl⟩ := Int.eq_ofNat_of_zero_le h0
  have h594 : es.length ≤ 594 := hr.len
  simp only at h30
  have hR := hr.inR
  have hA := hr.asc
  have lA2 := lA h2 le2
  simp only [kS1, bLookup, bMapSet, wantA, isCall, stepOp, evalO, evalL, evalP, evalM, putDst, flat, kA, kB, Nat.reduceLT, ↓reduceIte, kC, Nat.reduceEqDiff, aBuiltin, abinG, guardFree, abin, aInt, aUn, aNilCheck, retQ, retQ1, aresults, aresultL, aresult, mkF, undefV, reduceCtorEq, kD, kE, kF, kG, kH, kI, kJ, kK, aExtract, calleeOf, lA2.1]
  refine KCall.intro (by simp only [kS1, bLookup, bMapSet, wantA, isCall, stepOp, evalO, evalL, evalP, evalM, putDst, flat, kA, kB, Nat.reduceLT, ↓reduceIte, kC, Nat.reduceEqDiff, aBuiltin, abinG, guardFree, abin, aInt, aUn, aNilCheck, retQ, retQ1, aresults, aresultL, aresult, mkF, undefV, reduceCtorEq, kD, kE, kF, kG, kH, kI, kJ, kK, aExtract, calleeOf] <;> rfl) ⟨Try.func18, rfl, by decide⟩ (Chosen_any W0 _ bv ⟨(n : Int), es⟩ bs h2 (hg0.le (le1.trans le2)) (hb.le Stays.isBo (le1.trans le2)) (by simp; omega)) ?_
  rintro wv h3 wf3 ⟨gw, le3, -⟩
  simp only at gw
  have hweb := sel_web hA bs es.length
  have hwl := selM_length es bs es.length
  have hwR : InR n (selM es bs es.length) := fun p hp => hR p (hweb.mem p hp)
  have hwnd : (selM es bs es.length).Nodup := edges_nodup (hA.sub ((sel_sub es bs es.length).trans (List.take_sublist _ _)))
  generalize selM es bs es.length = web at gw hweb hwl hwR hwnd
  have pw := gw.pr
  clear gw
  have lA3 := lA h3 (le2.trans le3)
  simp only [kS1, bLookup, bMapSet, wantA, isCall, stepOp, evalO, evalL, evalP, evalM, putDst, flat, kA, kB, Nat.reduceLT, ↓reduceIte, kC, Nat.reduceEqDiff, aBuiltin, abinG, guardFree, abin, aInt, aUn, aNilCheck, retQ, retQ1, aresults, aresultL, aresult, mkF, undefV, reduceCtorEq, kD, kE, kF, kG, kH, kI, kJ, kK, aExtract, calleeOf, lA3.1]
  refine KCall.intro (by simp only [kS1, bLookup, bMapSet, wantA, isCall, stepOp, evalO, evalL, evalP, evalM, putDst, flat, kA, kB, Nat.reduceLT, ↓reduceIte, kC, Nat.reduceEqDiff, aBuiltin, abinG, guardFree, abin, aInt, aUn, aNilCheck, retQ, retQ1, aresults, aresultL, aresult, mkF, undefV, reduceCtorEq, kD, kE, kF, kG, kH, kI, kJ, kK, aExtract, calleeOf] <;> rfl) ⟨Try.func12, rfl, by decide⟩ (Fragments_any W0 _ wv ⟨(n : Int), es⟩ web h3 (hg0.le (le1.trans (le2.trans le3))) pw (by omega)) ?_
  intro x h4 wf4 hx
  obtain ⟨le4, lv, e, rfl, hc⟩ := hx
  obtain ⟨rfl, L, hT, fl⟩ : e = 0 ∧ ∃ L, TogM n (onF n web) es L ∧ FL h4 lv (FragsM n es web L) := by
    rcases hc with ⟨h, _⟩ | ⟨_, h, _⟩ | ⟨_, _, h, h'⟩
    · exact absurd hr h
    · exact absurd hweb h
    · exact ⟨h, by simp only [Int.toNat_natCast] at h'; exact h'⟩
  clear hc
  have le14 := (le2.trans le3).trans le4
  have lA4 := lA h4 le14
  simp only [kS1, bLookup, bMapSet, wantA, isCall, stepOp, evalO, evalL, evalP, evalM, putDst, flat, kA, kB, Nat.reduceLT, ↓reduceIte, kC, Nat.reduceEqDiff, aBuiltin, abinG, guardFree, abin, aInt, aUn, aNilCheck, retQ, retQ1, aresults, aresultL, aresult, mkF, undefV, reduceCtorEq, kD, kE, kF, kG, kH, kI, kJ, kK, aExtract, calleeOf, fg0, aadd, Nat.zero_add, lA4.2.1]
  refine KCall.intro (by simp only [kS1, bLookup, bMapSet, wantA, isCall, stepOp, evalO, evalL, evalP, evalM, putDst, flat, kA, kB, Nat.reduceLT, ↓reduceIte, kC, Nat.reduceEqDiff, aBuiltin, abinG, guardFree, abin, aInt, aUn, aNilCheck, retQ, retQ1, aresults, aresultL, aresult, mkF, undefV, reduceCtorEq, kD, kE, kF, kG, kH, kI, kJ, kK, aExtract, calleeOf] <;> rfl) ⟨Try.func19, rfl, by decide⟩ (on_any W0 wv n web h4 (pw.le le4) hwR (by omega) (by omega)) ?_
  rintro nv h5 wf5 ⟨hnv, le5⟩
  have le15 := le14.trans le5
  have pw5 := pw.le (le4.trans le5)
  obtain ⟨h6, e6, l6, w6, o6⟩ : ∃ h', h5.alloc (.map []) = h' ∧ Le h5 h' ∧ WF h' ∧ h'.own h5.next = some (.map (mapP [])) := ⟨_, rfl, (Le.refl h5).alloc wf5 _, wf5.alloc _, AHeap.own_alloc_eq _ _⟩
  have nO : h5.own h5.next = none := (Le.refl h5).next wf5 (Nat.le_refl _)
  obtain ⟨h7, e7, l7, w7, o7⟩ := alloc_m w6
  have nT6 : h6.own h6.next = none := (Le.refl h6).next w6 (Nat.le_refl _)
  have nT : h5.own h6.next = none := l6.none nT6
  have neOT : h5.next ≠ h6.next := fun e => by rw [← e, o6] at nT6; cases nT6
  generalize hO : h5.next = O at *
  generalize hTn : h6.next = T at *
  obtain ⟨ks, hknd, hkl, hks, hkall⟩ := frags_is (web := web) (L := L) hR
  have hrise := fun (i : Nat) f f' (h1 : (FragsM n es web L)[i]? = some f) h2 p q hp hq => frags_rise (n := n) (web := web) (L := L) hA (i := i) (f := f) (f' := f') h1 h2 (p := p) (q := q) hp hq
  have hfb : (FragsM n es web L).length ≤ 594 := by
    have := (grpsM_ok (fragM n (fun u => (onM n web).getD u false) L) es web es.length).2.2.2.1
    rw [FragsM, List.length_map]; omega
  generalize FragsM n es web L = fs at fl hks hkl hfb hrise
  have fl5 := fl.le le5
  have lf := fun g => fl.len g
  simp only [kS1, bLookup, bMapSet, wantA, isCall, stepOp, evalO, evalL, evalP, evalM, putDst, flat, kA, kB, Nat.reduceLT, ↓reduceIte, kC, Nat.reduceEqDiff, aBuiltin, abinG, guardFree, abin, aInt, aUn, aNilCheck, retQ, retQ1, aresults, aresultL, aresult, mkF, undefV, reduceCtorEq, kD, kE, kF, kG, kH, kI, kJ, kK, aExtract, calleeOf, bne, e6, e7, hO, hTn, lf]
  have oO7 := l7.own _ _ o6
  refine KLoop.intro (fun k fr hq => ∃ (i : Nat) (ol : List (Pr × Int)) (al : List (Int × Int)), k = fs.length - i ∧ i ≤ fs.length ∧ fr = mkF [(2, .pointer (some ⟨B, 0, none⟩)), (5, wv), (6, lv), (8, nv), (9, .map (some O)), (10, .map (some T)), (44, lv), (45, .int .i64 fs.length), (46, .int .i64 i)] ∧ Le h5 hq ∧ hq.own O = some (.map (mapP ol)) ∧ hq.own T = some (.map (mapI al)) ∧ OfOK fs i [] ol ∧ AtOK n web fs i al)
    fs.length [(2, .pointer (some ⟨B, 0, none⟩)), (5, wv), (6, lv), (8, nv), (9, .map (some O)), (10, .map (some T)), (44, lv), (45, .int .i64 fs.length), (46, .int .i64 (0 : Nat))] (by simp only [hasAll, kS1, bLookup, bMapSet, wantA, isCall, stepOp, evalO, evalL, evalP, evalM, putDst, flat, kA, kB, Nat.reduceLT, ↓reduceIte, kC, Nat.reduceEqDiff, aBuiltin, abinG, guardFree, abin, aInt, aUn, aNilCheck, retQ, retQ1, aresults, aresultL, aresult, mkF, undefV, reduceCtorEq, kD, kE, kF, kG, kH, kI, kJ, kK, aExtract, calleeOf]; simp) ⟨0, [], [], rfl, Nat.zero_le _, rfl, l6.trans l7, oO7, o7, ⟨by simp, by simp⟩, fun v k h => by cases h⟩ ?_
  clear oO7 o7 w7 l7 e7 o6 w6 l6 e6 nT6 hO hTn
  rintro k fr hq hwq ⟨i, ol, al, rfl, hi, rfl, leq, oO, oT, OK, AK⟩
  simp only [kS1, bLookup, bMapSet, wantA, isCall, stepOp, evalO, evalL, evalP, evalM, putDst, flat, kA, kB, Nat.reduceLT, ↓reduceIte, kC, Nat.reduceEqDiff, aBuiltin, abinG, guardFree, abin, aInt, aUn, aNilCheck, retQ, retQ1, aresults, aresultL, aresult, mkF, undefV, reduceCtorEq, kD, kE, kF, kG, kH, kI, kJ, kK, aExtract, calleeOf]
  refine KCond.intro (fun ht => ?_) (fun hf => ?_)
  rotate_left
  · have hge : fs.length ≤ i := lt_f hf
    obtain rfl : i = fs.length := by omega
    have lAq := lA hq (le15.trans leq)
    have mlO := mapP_len oO
    have lw := fun g => pw.len g
    have le0 := fun g => hp.len g
    have hcount : (ol.map (·.1)).length + web.length = es.length := web_count hA hweb hwnd OK.1 fun p => by
      rw [OK.2 p]
      constructor
      · rintro (⟨i', f, _, hfi, hpf⟩ | h)
        · obtain ⟨k, _, hF⟩ := hks i' f hfi
          obtain ⟨j, hj, hpw, _⟩ := (hF.mem p).1 hpf
          exact ⟨List.mem_of_getElem? hj, hpw⟩
        · cases h
      · rintro ⟨hpe, hpw⟩
        obtain ⟨j, hj⟩ := List.mem_iff_getElem?.1 hpe
        obtain ⟨i', hi'⟩ := List.mem_iff_getElem?.1 (hkall j p hj hpw)
        have hil := (List.getElem?_eq_some_iff.1 hi').1
        have hfi := getElem?_of (show i' < fs.length by omega)
        obtain ⟨k, hk, hF⟩ := hks i' _ hfi
        rw [hi'] at hk; injection hk with hk
        exact .inl ⟨i', _, by omega, hfi, (hF.mem p).2 ⟨j, hj, hpw, hk⟩⟩
    rw [List.length_map] at hcount
    have aws : awrap .i64 ((ol.length : Int) + (web.length : Int)) = (es.length : Int) := by rw [awrap_i64 _ (by omega) (by omega)]; omega
    have dd : decide ((es.length : Int) = (es.length : Int)) = true := by simp
    simp only [kS1, bLookup, bMapSet, wantA, isCall, stepOp, evalO, evalL, evalP, evalM, putDst, flat, kA, kB, Nat.reduceLT, ↓reduceIte, kC, Nat.reduceEqDiff, aBuiltin, abinG, guardFree, abin, aInt, aUn, aNilCheck, retQ, retQ1, aresults, aresultL, aresult, mkF, undefV, reduceCtorEq, kD, kE, kF, kG, kH, kI, kJ, kK, aExtract, calleeOf, mlO, lw, aws, fg1, aadd, Nat.zero_add, lAq.2.2, le0, dd]
    refine KCall.intro (by simp only [kS1, bLookup, bMapSet, wantA, isCall, stepOp, evalO, evalL, evalP, evalM, putDst, flat, kA, kB, Nat.reduceLT, ↓reduceIte, kC, Nat.reduceEqDiff, aBuiltin, abinG, guardFree, abin, aInt, aUn, aNilCheck, retQ, retQ1, aresults, aresultL, aresult, mkF, undefV, reduceCtorEq, kD, kE, kF, kG, kH, kI, kJ, kK, aExtract, calleeOf] <;> rfl) ⟨Try.func10, rfl, by decide⟩ (awake_any W0 hq) ?_
    rintro x h9 w9 ⟨rfl, l9⟩
    simp only [kS1, bLookup, bMapSet, wantA, isCall, stepOp, evalO, evalL, evalP, evalM, putDst, flat, kA, kB, Nat.reduceLT, ↓reduceIte, kC, Nat.reduceEqDiff, aBuiltin, abinG, guardFree, abin, aInt, aUn, aNilCheck, retQ, retQ1, aresults, aresultL, aresult, mkF, undefV, reduceCtorEq, kD, kE, kF, kG, kH, kI, kJ, kK, aExtract, calleeOf]
    exact ⟨trivial, ((le1.trans le15).trans leq).trans l9⟩
  have hlt : i < fs.length := lt_t ht
  clear ht
  have hfi := getElem?_of hlt
  generalize fs[i] = f at hfi
  obtain ⟨k, hki, hF⟩ := hks i f hfi
  obtain ⟨ea, eb, hld, pa, pb⟩ := fl5.load hfi
  have adf := fl5.addr (k := .i64) i hlt
  obtain ⟨g1, g2, a2, s2, l2, w2, nC, oC⟩ := new41' hwq pa.sl pb.sl
  generalize hq.next = C at *
  have neCO : C ≠ O := fun e => by rw [e, oO] at nC; cases nC
  have neCT : C ≠ T := fun e => by rw [e, oT] at nC; cases nC
  have lC2 := ld41 oC
  have lA2' := lA g2 ((le15.trans leq).trans l2)
  have bld := build24 (n := (n : Int)) pa.sl
  obtain ⟨g3, g4, a3, s3, l4, w4, lD⟩ := newG (n := (n : Int)) w2 (pa.le (leq.trans l2))
  generalize g2.next = D at *
  have lC4 := ld41 (l4.own _ _ oC)
  have lD4 := lD g4 (Le.refl _)
  have lpe := fun g => pa.len g
  have le54 := (leq.trans l2).trans l4
  have hsub := hF.sub
  have hel : f.edges.length ≤ 594 := Nat.le_trans hsub.length_le h594
  have hne : f.edges.length ≠ 0 := fun e => hF.ne (List.eq_nil_of_length_eq_zero e)
  have hrf := right_sub hr hsub
  have hRf : InR n f.edges := fun r hr => hR r (hsub.subset hr)
  have d0 : decide (((f.edges.length : Nat) : Int) = 0) = false := decide_eq_false (by omega)
  simp only [kS1, bLookup, bMapSet, wantA, isCall, stepOp, evalO, evalL, evalP, evalM, putDst, flat, kA, kB, Nat.reduceLT, ↓reduceIte, kC, Nat.reduceEqDiff, aBuiltin, abinG, guardFree, abin, aInt, aUn, aNilCheck, retQ, retQ1, aresults, aresultL, aresult, mkF, undefV, reduceCtorEq, kD, kE, kF, kG, kH, kI, kJ, kK, aExtract, calleeOf, adf, hld hq leq, a2, s2, fg0, ff0, aadd, Nat.zero_add, lA2'.2.1, lC2.2.1, bld, a3, s3]
  apply byOne2 (F := fun (fr : AFrame) (h' : AHeap) => hasAll fr [(2, .pointer (some ⟨B, 0, none⟩)), (5, wv), (6, lv), (8, nv), (9, .map (some O)), (10, .map (some T)), (11, .int .i64 i), (12, .pointer (some ⟨C, 0, none⟩)), (44, lv), (45, .int .i64 fs.length), (46, .int .i64 i), (120, .bool false)] ∧ Le g4 h' ∧ WF h')
  · intro cont
    refine KDraw.intro mixed (.fl 0 (.fl 1 (.fl 2 (.fl 3 (.fl 4 (.fl 5 (.ch 6 [4, 5] (.fl 7 (.fl 8 (.fl 9 (.fl 10 (.fl 11 (.fl 12 (.fl 13 (.fl 14 (.fl 15 (.fl 16 (.fl 17 (.fl 18 (.fl 19 (.fl 20 (.fl 21 (.fl 22 (.fl 23 (.fl 24 (.fl 25 (.fl 26 (.fl 27 (.fl 28 (.fl 29 (.fl 30 (.fl 31 (.fl 32 (.fl 33 (.fl 34 (.fl 35 (.fl 36 (.fl 37 (.fl 38 (.fl 39 (.fl 40 (.fl 41 (.fl 42 (.fl 43 (.fl 44 (.fl 45 (.fl 46 (.fl 47 (.fl 48 (.fl 49 (.fl 50 (.fl 51 (.fl 52 (.fl 53 (.fl 54 (.fl 55 (.fl 56 (.fl 57 (.fl 58 (.fl 59 (.fl 60 (.fl 61 (.fl 62 (.fl 63 (.fl 64 (.done))))))))))))))))))))))))))))))))))))))))))))))))))))))))))) .no))))))) (by kernel_rfl) ?_
    have lC4' : aload Try.prog g4 22 (aadd ⟨C, 0, none⟩ 0) = some ea := lC4.2.1
    simp only [kS1, bLookup, bMapSet, wantA, isCall, stepOp, evalO, evalL, evalP, evalM, putDst, flat, kA, kB, Nat.reduceLT, ↓reduceIte, kC, Nat.reduceEqDiff, aBuiltin, abinG, guardFree, abin, aInt, aUn, aNilCheck, retQ, retQ1, aresults, aresultL, aresult, mkF, undefV, reduceCtorEq, kD, kE, kF, kG, kH, kI, kJ, kK, aExtract, calleeOf, kD1, Nat.reduceBEq, HoldsAll, kL, kM, kN, kO, ff0, lC4', lpe, d0, lD4.1]
    refine KGCall.intro (by simp only [kS1, bLookup, bMapSet, wantA, isCall, stepOp, evalO, evalL, evalP, evalM, putDst, flat, kA, kB, Nat.reduceLT, ↓reduceIte, kC, Nat.reduceEqDiff, aBuiltin, abinG, guardFree, abin, aInt, aUn, aNilCheck, retQ, retQ1, aresults, aresultL, aresult, mkF, undefV, reduceCtorEq, kD, kE, kF, kG, kH, kI, kJ, kK, aExtract, calleeOf] <;> rfl) ⟨Try.func21, rfl, by decide⟩ (Right_any W0 _ ⟨(n : Int), f.edges⟩ g4 ⟨ea, rfl, pa.le le54⟩) ?_
    rintro x g5 w5 ⟨⟨bb2, rfl, hbb2⟩, l5⟩
    obtain rfl : bb2 = true := hbb2.2 hrf
    have le55 := le54.trans l5
    have lC5 := (ld41 ((l4.trans l5).own _ _ oC)).2.1
    have lC5 : aload Try.prog g5 22 (aadd ⟨C, 0, none⟩ 0) = some ea := lC5
    have lD5 := lD g5 l5
    have hp0 := getElem?_of (show 0 < f.edges.length by omega)
    have ad0 : aIndexAddr Try.prog 22 ea (.int .i64 0) = some (.pointer (some (pAddr ea 0))) := pa.addr (k := .i64) 0 (by omega)
    have q0 := (pa.le le55).l0 hp0
    have q1 := (pa.le le55).l1 hp0
    generalize f.edges[0] = p0 at hp0 q0 q1
    rcases Nat.eq_zero_or_pos i with hi0 | hi0
    · have c0 : ¬ ((i : Int) > 0) := by omega
      simp only [kJ1, bLookup, bMapSet, wantA, isCall, stepOp, evalO, evalL, evalP, evalM, putDst, flat, kA, kB, Nat.reduceLT, ↓reduceIte, kC, Nat.reduceEqDiff, aBuiltin, abinG, guardFree, abin, aInt, aUn, aNilCheck, retQ, retQ1, aresults, aresultL, aresult, mkF, undefV, reduceCtorEq, kD, kE, kF, kG, kH, kI, kJ, kK, aExtract, calleeOf, kD1, Nat.reduceBEq, HoldsAll, kL, kM, kN, kO, bne, ff0, lC5, lpe, d0, lD5.1, c0]
      refine KN.gen2 fun fr' h' x y => cont fr' h' ?_
      subst x y
      exact ⟨(by simp only [hasAll, kS1, bLookup, bMapSet, wantA, isCall, stepOp, evalO, evalL, evalP, evalM, putDst, flat, kA, kB, Nat.reduceLT, ↓reduceIte, kC, Nat.reduceEqDiff, aBuiltin, abinG, guardFree, abin, aInt, aUn, aNilCheck, retQ, retQ1, aresults, aresultL, aresult, mkF, undefV, reduceCtorEq, kD, kE, kF, kG, kH, kI, kJ, kK, aExtract, calleeOf]; simp), l5, w5⟩
    · obtain ⟨i', hii⟩ : ∃ i', i = i' + 1 := ⟨i - 1, by omega⟩
      have c0 : ((i : Int) > 0) := by omega
      have aw1 : awrap .i64 ((i : Int) - 1) = ((i' : Nat) : Int) := by rw [awrap_i64 _ (by omega) (by omega)]; omega
      have hfp := getElem?_of (show i' < fs.length by omega)
      generalize fs[i'] = f' at hfp
      obtain ⟨k', _, hF'⟩ := hks i' f' hfp
      obtain ⟨ya, yb, hlp, qa, qb⟩ := fl5.get hfp
      have hlp5 := (hlp g5 le55).1
      have adp := fl5.addr (k := .i64) i' (by omega)
      have hne' : f'.edges.length ≠ 0 := fun e => hF'.ne (List.eq_nil_of_length_eq_zero e)
      have hp1 := getElem?_of (show 0 < f'.edges.length by omega)
      have ad1 : aIndexAddr Try.prog 22 ya (.int .i64 0) = some (.pointer (some (pAddr ya 0))) := qa.addr (k := .i64) 0 (by omega)
      have r0 := (qa.le le55).l0 hp1
      have r1 := (qa.le le55).l1 hp1
      generalize f'.edges[0] = p1 at hp1 r0 r1
      have hlt2 := (cmpP_lt p1 p0).1 (hrise i' f' f hfp (by rw [← hii]; exact hfi) p1 p0 hp1 hp0)
      by_cases c1 : p1.1 < p0.1
      · simp only [kJ1, bLookup, bMapSet, wantA, isCall, stepOp, evalO, evalL, evalP, evalM, putDst, flat, kA, kB, Nat.reduceLT, ↓reduceIte, kC, Nat.reduceEqDiff, aBuiltin, abinG, guardFree, abin, aInt, aUn, aNilCheck, retQ, retQ1, aresults, aresultL, aresult, mkF, undefV, reduceCtorEq, kD, kE, kF, kG, kH, kI, kJ, kK, aExtract, calleeOf, kD1, Nat.reduceBEq, HoldsAll, kL, kM, kN, kO, bne, ff0, lC5, lpe, d0, lD5.1, c0, aw1, adp, hlp5, ad1, ad0, pa0, pa1, r0, r1, q0, q1, c1]
        refine KN.gen2 fun fr' h' x y => cont fr' h' ?_
        subst x y
        exact ⟨(by simp only [hasAll, kS1, bLookup, bMapSet, wantA, isCall, stepOp, evalO, evalL, evalP, evalM, putDst, flat, kA, kB, Nat.reduceLT, ↓reduceIte, kC, Nat.reduceEqDiff, aBuiltin, abinG, guardFree, abin, aInt, aUn, aNilCheck, retQ, retQ1, aresults, aresultL, aresult, mkF, undefV, reduceCtorEq, kD, kE, kF, kG, kH, kI, kJ, kK, aExtract, calleeOf]; simp), l5, w5⟩
      · obtain ⟨c2, c3⟩ : p1.1 = p0.1 ∧ p1.2 < p0.2 := by omega
        have c2' : decide (p1.1 = p0.1) = true := by simpa using c2
        simp only [kJ1, bLookup, bMapSet, wantA, isCall, stepOp, evalO, evalL, evalP, evalM, putDst, flat, kA, kB, Nat.reduceLT, ↓reduceIte, kC, Nat.reduceEqDiff, aBuiltin, abinG, guardFree, abin, aInt, aUn, aNilCheck, retQ, retQ1, aresults, aresultL, aresult, mkF, undefV, reduceCtorEq, kD, kE, kF, kG, kH, kI, kJ, kK, aExtract, calleeOf, kD1, Nat.reduceBEq, HoldsAll, kL, kM, kN, kO, bne, ff0, lC5, lpe, d0, lD5.1, c0, aw1, adp, hlp5, ad1, ad0, pa0, pa1, r0, r1, q0, q1, c1, c2', c3]
        refine KN.gen2 fun fr' h' x y => cont fr' h' ?_
        subst x y
        exact ⟨(by simp only [hasAll, kS1, bLookup, bMapSet, wantA, isCall, stepOp, evalO, evalL, evalP, evalM, putDst, flat, kA, kB, Nat.reduceLT, ↓reduceIte, kC, Nat.reduceEqDiff, aBuiltin, abinG, guardFree, abin, aInt, aUn, aNilCheck, retQ, retQ1, aresults, aresultL, aresult, mkF, undefV, reduceCtorEq, kD, kE, kF, kG, kH, kI, kJ, kK, aExtract, calleeOf]; simp), l5, w5⟩
  rintro fr g5 ⟨hfr, l5, w5⟩
  simp only [hasAll] at hfr
  obtain ⟨f2, f5, f6, f8, f9, f10, f11, f12, f44, f45, f46, f120, -⟩ := hfr
  have le55 := le54.trans l5
  have lAg5 := lA g5 (le15.trans le55)
  obtain ⟨g6, g7, a6, s6, l6, l7, w7, nX, gx⟩ := GX.new' w5 (n : Int)
  generalize g5.next = X at *
  have lA6 := lA g6 (le15.trans (le55.trans l6))
  have oO5 := (l2.trans (l4.trans l5)).own _ _ oO
  have oT5 := (l2.trans (l4.trans l5)).own _ _ oT
  have oC5 := (l4.trans l5).own _ _ oC
  have neXO : X ≠ O := fun e => by rw [e, oO5] at nX; cases nX
  have neXT : X ≠ T := fun e => by rw [e, oT5] at nX; cases nX
  have hb5 : Le h5 (rem [O, T] g5) := le55.of_none fun b hb => by
    simp only [List.mem_cons, List.not_mem_nil, or_false] at hb
    rcases hb with rfl | rfl
    · exact nO
    · exact nT
  have hbC : (rem [O, T] g5).own C = some (.cells [ea, eb]) := rem_some.2 ⟨oC5, by simp [neCO, neCT]⟩
  have hbO : (rem [O, T] g5).own O = none := by rw [rem_own, if_pos (by simp)]
  have hbT : (rem [O, T] g5).own T = none := by rw [rem_own, if_pos (by simp)]
  have hbX : (rem [O, T] g5).own X = none := by rw [rem_own]; split <;> first | rfl | exact nX
  have hbl : Le (rem [O, T] g5) g7 := (rem_le _ _).trans l7
  have lC7 := (ld41 (l7.own _ _ oC5)).2.1
  simp only [kS1, bLookup, bMapSet, wantA, isCall, stepOp, evalO, evalL, evalP, evalM, putDst, flat, kA, kB, Nat.reduceLT, ↓reduceIte, kC, Nat.reduceEqDiff, aBuiltin, abinG, guardFree, abin, aInt, aUn, aNilCheck, retQ, retQ1, aresults, aresultL, aresult, mkF, undefV, reduceCtorEq, kD, kE, kF, kG, kH, kI, kJ, kK, aExtract, calleeOf, f2, f12, f120, a6, fg0, ff0, aadd, Nat.zero_add, lA6.2.1, s6, lC7, lpe]
  generalize rem [O, T] g5 = b5 at *
  refine KLoop.intro (fun k fr hh => ∃ (q : Nat) (ol : List (Pr × Int)) (al : List (Int × Int)) (xv : Value), k = f.edges.length - q ∧ q ≤ f.edges.length ∧ fr = mkF [(2, .pointer (some ⟨B, 0, none⟩)), (5, wv), (6, lv), (8, nv), (9, .map (some O)), (10, .map (some T)), (11, .int .i64 i), (12, .pointer (some ⟨C, 0, none⟩)), (14, .pointer (some ⟨X, 0, none⟩)), (44, lv), (45, .int .i64 fs.length), (46, .int .i64 i), (125, ea), (126, .int .i64 f.edges.length), (127, .int .i64 q)] ∧ Le b5 hh ∧ hh.own O = some (.map (mapP ol)) ∧ hh.own T = some (.map (mapI al)) ∧
      GX hh X (n : Int) xv ((f.edges.take q).filter (innB n web)) ∧ Apart b5 xv ∧ (blk xv ≠ some O ∧ blk xv ≠ some T) ∧ OfOK fs i (f.edges.take q) ol ∧ AtOK n web fs (i + 1) al)
    f.edges.length [(2, .pointer (some ⟨B, 0, none⟩)), (5, wv), (6, lv), (8, nv), (9, .map (some O)), (10, .map (some T)), (11, .int .i64 i), (12, .pointer (some ⟨C, 0, none⟩)), (14, .pointer (some ⟨X, 0, none⟩)), (44, lv), (45, .int .i64 fs.length), (46, .int .i64 i), (125, ea), (126, .int .i64 f.edges.length), (127, .int .i64 (0 : Nat))] (by simp only [hasAll, kS1, bLookup, bMapSet, wantA, isCall, stepOp, evalO, evalL, evalP, evalM, putDst, flat, kA, kB, Nat.reduceLT, ↓reduceIte, kC, Nat.reduceEqDiff, aBuiltin, abinG, guardFree, abin, aInt, aUn, aNilCheck, retQ, retQ1, aresults, aresultL, aresult, mkF, undefV, reduceCtorEq, kD, kE, kF, kG, kH, kI, kJ, kK, aExtract, calleeOf, f2, f5, f6, f8, f9, f10, f11, f12, f44, f45, f46]; simp)
    ⟨0, ol, al, _, rfl, Nat.zero_le _, rfl, hbl, l7.own _ _ oO5, l7.own _ _ oT5, by simpa using gx, fun b hb => by simp [blk] at hb, by simp [blk], by simpa using OK, fun v k h => by obtain ⟨i', f, h1, h2⟩ := AK v k h; exact ⟨i', f, by omega, h2⟩⟩ ?_
  clear f120 gx w7 l7 lC7 s6 a6 l6 lA6 oC5 oT5 oO5 lAg5 w5 l5 f2 f5 f6 f8 f9 f10 f11 f12 f44 f45 f46 fr le55 lD4 lC4 lD w4 l4 s3 a3 lA2' lC2 oC w2 l2 s2 a2 OK AK oO oT leq hwq nX le54 nC
  clear g7 g6 al ol hbl
  rintro k2 fr hh hwh ⟨q, ol, al, xv, rfl, hq', rfl, leh, oO, oT, gx, ax, nx, OK, AK⟩
  have leh5 := hb5.trans leh
  simp only [kS1, bLookup, bMapSet, wantA, isCall, stepOp, evalO, evalL, evalP, evalM, putDst, flat, kA, kB, Nat.reduceLT, ↓reduceIte, kC, Nat.reduceEqDiff, aBuiltin, abinG, guardFree, abin, aInt, aUn, aNilCheck, retQ, retQ1, aresults, aresultL, aresult, mkF, undefV, reduceCtorEq, kD, kE, kF, kG, kH, kI, kJ, kK, aExtract, calleeOf]
  refine KCond.intro (fun ht => ?_) (fun hf => ?_)
  rotate_left
  · have hge : f.edges.length ≤ q := lt_f hf
    rw [List.take_of_length_le hge] at gx OK
    have hFF := frag_feet hR hF
    have hsubI : (f.edges.filter (innB n web)).Sublist es := List.filter_sublist.trans hsub
    have lCh := ld41 (leh.own _ _ hbC)
    have hfl : f.feet.length ≤ 1000 := by
      have := rfeet_length web f.edges n
      rw [hF.feet, nat64_length]; omega
    simp only [kS1, bLookup, bMapSet, wantA, isCall, stepOp, evalO, evalL, evalP, evalM, putDst, flat, kA, kB, Nat.reduceLT, ↓reduceIte, kC, Nat.reduceEqDiff, aBuiltin, abinG, guardFree, abin, aInt, aUn, aNilCheck, retQ, retQ1, aresults, aresultL, aresult, mkF, undefV, reduceCtorEq, kD, kE, kF, kG, kH, kI, kJ, kK, aExtract, calleeOf, gx.ld.1, lCh.1]
    refine KCall.intro (by simp only [kS1, bLookup, bMapSet, wantA, isCall, stepOp, evalO, evalL, evalP, evalM, putDst, flat, kA, kB, Nat.reduceLT, ↓reduceIte, kC, Nat.reduceEqDiff, aBuiltin, abinG, guardFree, abin, aInt, aUn, aNilCheck, retQ, retQ1, aresults, aresultL, aresult, mkF, undefV, reduceCtorEq, kD, kE, kF, kG, kH, kI, kJ, kK, aExtract, calleeOf] <;> rfl) ⟨Try.func24, rfl, by decide⟩ (together24_any W0 _ ea eb nv n web (f.edges.filter (innB n web)) f.edges f.feet hh gx.gr (pa.le leh5) (pb.le Stays.isI leh5) (hnv.le Stays.isBo leh5) hRf (by omega) (by omega) hfl (right_sub hr hsubI) hFF.1 hFF.2 (frag_inner hR hT hF)) ?_
    rintro x h9 w9 ⟨rfl, l9⟩
    simp only [kS1, bLookup, bMapSet, wantA, isCall, stepOp, evalO, evalL, evalP, evalM, putDst, flat, kA, kB, Nat.reduceLT, ↓reduceIte, kC, Nat.reduceEqDiff, aBuiltin, abinG, guardFree, abin, aInt, aUn, aNilCheck, retQ, retQ1, aresults, aresultL, aresult, mkF, undefV, reduceCtorEq, kD, kE, kF, kG, kH, kI, kJ, kK, aExtract, calleeOf, awrap_succ i (by omega)]
    refine loop_again (fs.length - (i + 1)) [(2, .pointer (some ⟨B, 0, none⟩)), (5, wv), (6, lv), (8, nv), (9, .map (some O)), (10, .map (some T)), (44, lv), (45, .int .i64 fs.length), (46, .int .i64 (i + 1 : Nat))] (by omega) (by simp only [hasAll, kS1, bLookup, bMapSet, wantA, isCall, stepOp, evalO, evalL, evalP, evalM, putDst, flat, kA, kB, Nat.reduceLT, ↓reduceIte, kC, Nat.reduceEqDiff, aBuiltin, abinG, guardFree, abin, aInt, aUn, aNilCheck, retQ, retQ1, aresults, aresultL, aresult, mkF, undefV, reduceCtorEq, kD, kE, kF, kG, kH, kI, kJ, kK, aExtract, calleeOf]; simp) ⟨i + 1, ol, al, rfl, hlt, rfl, leh5.trans l9, l9.own _ _ oO, l9.own _ _ oT, ⟨OK.1, fun p => ?_⟩, AK⟩
    rw [OK.2 p]
    constructor
    · rintro (⟨i', f', h1, h2⟩ | h)
      · exact .inl ⟨i', f', by omega, h2⟩
      · exact .inl ⟨i, f, by omega, hfi, h⟩
    · rintro (⟨i', f', h1, h2, h3⟩ | h)
      · by_cases e : i' = i
        · subst e; rw [hfi] at h2; injection h2 with h2; subst h2; exact .inr h3
        · exact .inl ⟨i', f', by omega, h2, h3⟩
      · cases h
  have hltq : q < f.edges.length := lt_t ht
  clear ht
  have hpq := getElem?_of hltq
  have htk : f.edges.take (q + 1) = f.edges.take q ++ [f.edges[q]] := List.take_succ_eq_append_getElem hltq
  generalize f.edges[q] = p at hpq htk
  have hpm := List.mem_of_getElem? hpq
  obtain ⟨p1, p2, p3⟩ := hRf p hpm
  have adq := pa.addr (k := .i64) q hltq
  have ldq := (pa.le leh5).load hpq
  obtain ⟨g8, g9, a9, s9, l9, w9, o9⟩ := new42 hwh p
  have nE : hh.own hh.next = none := (Le.refl hh).next hwh (Nat.le_refl _)
  have nEb : b5.own hh.next = none := leh.none nE
  have neEO : hh.next ≠ O := fun e => by rw [e, oO] at nE; cases nE
  have neET : hh.next ≠ T := fun e => by rw [e, oT] at nE; cases nE
  have neEX : hh.next ≠ X := fun e => by rw [e, gx.ox] at nE; cases nE
  generalize hh.next = E at *
  obtain ⟨j, hj, hpw, hkp⟩ := (hF.mem p).1 hpm
  have hpes := List.mem_of_getElem? hj
  have hnk : lookK ol p = none := by
    cases hl : lookK ol p with
    | none => rfl
    | some b =>
      have := (OK.2 p).1 (lookK_mem.1 (by rw [hl]; simp))
      exfalso
      rcases this with ⟨i', f', h1, h2, h3⟩ | h
      · obtain ⟨k', hk', hF'⟩ := hks i' f' h2
        obtain ⟨j', hj', _, hkp'⟩ := (hF'.mem p).1 h3
        have : j = j' := hA.uniq hj hj'
        subst this
        have : i' = i := (List.getElem?_inj (List.getElem?_eq_some_iff.1 hk').1 hknd).1 (by rw [hk', hki, ← hkp, ← hkp'])
        omega
      · obtain ⟨q', hq''⟩ := List.mem_iff_getElem?.1 h
        rw [List.getElem?_take] at hq''
        split at hq''
        · rename_i hlt'
          have := (hA.sub hsub).uniq hq'' hpq
          omega
        · cases hq''
  have lkP := mapP_look (l9.own _ _ oO) p true
  rw [hnk] at lkP
  have lkP : aLookupA Try.prog g9 46 (.map (some O)) (valP p) true = some (.tuple #[.int .i64 0, .bool false]) := lkP
  have lkN := lookP_none (h := g9) (x := .map (some O)) p true
  have LP := own42 o9
  have m0 := own0 o9
  have m1 := own1 o9
  have leh9 := leh5.trans l9
  have lA9 := lA g9 (le15.trans leh9)
  obtain ⟨xa, xc⟩ := p
  simp only at p1 p2 p3 m0 m1
  obtain ⟨xa, rfl⟩ := Int.eq_ofNat_of_zero_le p1
  obtain ⟨xc, rfl⟩ := Int.eq_ofNat_of_zero_le (show 0 ≤ xc by omega)
  have hxa : xa < n := by omega
  have hxc : xc < n := by omega
  have adn : ∀ u, u < n → aIndexAddr Try.prog 35 nv (.int .i64 u) = some (.pointer (some (elemAddr nv u))) := fun u hu => hnv.addrBo (k := .i64) u (by rw [onM_length]; exact hu)
  have ldn : ∀ g, Le h5 g → ∀ u, u < n → aload Try.prog g 4 (elemAddr nv u) = some (.bool (onF n web u)) := fun g lg u hu => by
    rw [(hnv.le Stays.isBo lg).loadBo u (by rw [onM_length]; exact hu)]
    rw [onF, getD_of (by rw [onM_length]; exact hu)]
  have A0 := adn xa hxa
  have A1 := adn xc hxc
  have halone : onF n web xa = true → onF n web xc = true → f.edges.length ≤ 1 := fun h1 h2 => frag_alone hR hA hT hF hpm (by simpa using h1) (by simpa using h2)
  simp only [kS1, bLookup, bMapSet, wantA, isCall, stepOp, evalO, evalL, evalP, evalM, putDst, flat, kA, kB, Nat.reduceLT, ↓reduceIte, kC, Nat.reduceEqDiff, aBuiltin, abinG, guardFree, abin, aInt, aUn, aNilCheck, retQ, retQ1, aresults, aresultL, aresult, mkF, undefV, reduceCtorEq, kD, kE, kF, kG, kH, kI, kJ, kK, aExtract, calleeOf, adq, ldq, a9, s9, LP, lkN, lkP, pa0, pa1, aadd, Nat.zero_add, m0, m1, lA9.1]
  apply byOne2 (F := fun (fr : AFrame) (h' : AHeap) => hasAll fr [(2, .pointer (some ⟨B, 0, none⟩)), (5, wv), (6, lv), (8, nv), (9, .map (some O)), (10, .map (some T)), (11, .int .i64 i), (12, .pointer (some ⟨C, 0, none⟩)), (14, .pointer (some ⟨X, 0, none⟩)), (16, .pointer (some ⟨E, 0, none⟩)), (44, lv), (45, .int .i64 fs.length), (46, .int .i64 i), (125, ea), (126, .int .i64 f.edges.length), (127, .int .i64 q), (171, .bool false)] ∧ Le g9 h' ∧ WF h')
  · intro cont
    refine KCall.intro (by simp only [kS1, bLookup, bMapSet, wantA, isCall, stepOp, evalO, evalL, evalP, evalM, putDst, flat, kA, kB, Nat.reduceLT, ↓reduceIte, kC, Nat.reduceEqDiff, aBuiltin, abinG, guardFree, abin, aInt, aUn, aNilCheck, retQ, retQ1, aresults, aresultL, aresult, mkF, undefV, reduceCtorEq, kD, kE, kF, kG, kH, kI, kJ, kK, aExtract, calleeOf] <;> rfl) ⟨Try.func22, rfl, by decide⟩ (Has_any W0 _ ⟨(n : Int), es⟩ (xa : Int) (xc : Int) g9 (hg0.le (le1.trans (le15.trans leh9)))) ?_
    rintro x g10 w10 ⟨⟨b1', rfl, hb1⟩, l10⟩
    obtain rfl : b1' = true := hb1.2 ⟨hr, by rw [Int.min_eq_left (by omega), Int.max_eq_right (by omega)]; exact hpes⟩
    have LP10 := own42 (l10.own _ _ o9)
    simp only [kJ1, bLookup, bMapSet, wantA, isCall, stepOp, evalO, evalL, evalP, evalM, putDst, flat, kA, kB, Nat.reduceLT, ↓reduceIte, kC, Nat.reduceEqDiff, aBuiltin, abinG, guardFree, abin, aInt, aUn, aNilCheck, retQ, retQ1, aresults, aresultL, aresult, mkF, undefV, reduceCtorEq, kD, kE, kF, kG, kH, kI, kJ, kK, aExtract, calleeOf, kD1, Nat.reduceBEq, HoldsAll, kL, kM, kN, kO, LP10]
    refine KCall.intro (by simp only [kS1, bLookup, bMapSet, wantA, isCall, stepOp, evalO, evalL, evalP, evalM, putDst, flat, kA, kB, Nat.reduceLT, ↓reduceIte, kC, Nat.reduceEqDiff, aBuiltin, abinG, guardFree, abin, aInt, aUn, aNilCheck, retQ, retQ1, aresults, aresultL, aresult, mkF, undefV, reduceCtorEq, kD, kE, kF, kG, kH, kI, kJ, kK, aExtract, calleeOf] <;> rfl) ⟨Try.func23, rfl, by decide⟩ (Contains_any W0 wv web ((xa : Int), (xc : Int)) g10 (pw5.le (leh9.trans l10)) (by omega)) ?_
    rintro x g11 w11 ⟨hx11, l11⟩
    obtain rfl : x = .bool false := by rw [hx11, decide_eq_false hpw]
    have o11 := (l10.trans l11).own _ _ o9
    have n0 := own0 o11
    have n1 := own1 o11
    simp only at n0 n1
    have D0 := ldn g11 (leh9.trans (l10.trans l11)) xa hxa
    have D1 := ldn g11 (leh9.trans (l10.trans l11)) xc hxc
    have lC11 := (ld41 ((l9.trans (l10.trans l11)).own _ _ (leh.own _ _ hbC))).2.1
    cases h0 : onF n web xa with
    | false =>
      rw [h0] at D0
      simp only [kJ1, bLookup, bMapSet, wantA, isCall, stepOp, evalO, evalL, evalP, evalM, putDst, flat, kA, kB, Nat.reduceLT, ↓reduceIte, kC, Nat.reduceEqDiff, aBuiltin, abinG, guardFree, abin, aInt, aUn, aNilCheck, retQ, retQ1, aresults, aresultL, aresult, mkF, undefV, reduceCtorEq, kD, kE, kF, kG, kH, kI, kJ, kK, aExtract, calleeOf, kD1, Nat.reduceBEq, HoldsAll, kL, kM, kN, kO, pa0, pa1, aadd, Nat.zero_add, n0, n1, A0, A1, D0]
      refine KN.gen2 fun fr' h' x y => cont fr' h' ?_
      subst x y
      exact ⟨(by simp only [hasAll, kS1, bLookup, bMapSet, wantA, isCall, stepOp, evalO, evalL, evalP, evalM, putDst, flat, kA, kB, Nat.reduceLT, ↓reduceIte, kC, Nat.reduceEqDiff, aBuiltin, abinG, guardFree, abin, aInt, aUn, aNilCheck, retQ, retQ1, aresults, aresultL, aresult, mkF, undefV, reduceCtorEq, kD, kE, kF, kG, kH, kI, kJ, kK, aExtract, calleeOf]; simp), l10.trans l11, w11⟩
    | true =>
      rw [h0] at D0
      cases h1 : onF n web xc with
      | false =>
        rw [h1] at D1
        simp only [kJ1, bLookup, bMapSet, wantA, isCall, stepOp, evalO, evalL, evalP, evalM, putDst, flat, kA, kB, Nat.reduceLT, ↓reduceIte, kC, Nat.reduceEqDiff, aBuiltin, abinG, guardFree, abin, aInt, aUn, aNilCheck, retQ, retQ1, aresults, aresultL, aresult, mkF, undefV, reduceCtorEq, kD, kE, kF, kG, kH, kI, kJ, kK, aExtract, calleeOf, kD1, Nat.reduceBEq, HoldsAll, kL, kM, kN, kO, pa0, pa1, aadd, Nat.zero_add, n0, n1, A0, A1, D0, D1]
        refine KN.gen2 fun fr' h' x y => cont fr' h' ?_
        subst x y
        exact ⟨(by simp only [hasAll, kS1, bLookup, bMapSet, wantA, isCall, stepOp, evalO, evalL, evalP, evalM, putDst, flat, kA, kB, Nat.reduceLT, ↓reduceIte, kC, Nat.reduceEqDiff, aBuiltin, abinG, guardFree, abin, aInt, aUn, aNilCheck, retQ, retQ1, aresults, aresultL, aresult, mkF, undefV, reduceCtorEq, kD, kE, kF, kG, kH, kI, kJ, kK, aExtract, calleeOf]; simp), l10.trans l11, w11⟩
      | true =>
        rw [h1] at D1
        have := halone h0 h1
        have c0 : ¬ ((f.edges.length : Int) > 1) := by omega
        simp only [kJ1, bLookup, bMapSet, wantA, isCall, stepOp, evalO, evalL, evalP, evalM, putDst, flat, kA, kB, Nat.reduceLT, ↓reduceIte, kC, Nat.reduceEqDiff, aBuiltin, abinG, guardFree, abin, aInt, aUn, aNilCheck, retQ, retQ1, aresults, aresultL, aresult, mkF, undefV, reduceCtorEq, kD, kE, kF, kG, kH, kI, kJ, kK, aExtract, calleeOf, kD1, Nat.reduceBEq, HoldsAll, kL, kM, kN, kO, pa0, pa1, ff0, aadd, Nat.zero_add, n0, n1, A0, A1, D0, D1, lC11, lpe, c0]
        refine KN.gen2 fun fr' h' x y => cont fr' h' ?_
        subst x y
        exact ⟨(by simp only [hasAll, kS1, bLookup, bMapSet, wantA, isCall, stepOp, evalO, evalL, evalP, evalM, putDst, flat, kA, kB, Nat.reduceLT, ↓reduceIte, kC, Nat.reduceEqDiff, aBuiltin, abinG, guardFree, abin, aInt, aUn, aNilCheck, retQ, retQ1, aresults, aresultL, aresult, mkF, undefV, reduceCtorEq, kD, kE, kF, kG, kH, kI, kJ, kK, aExtract, calleeOf]; simp), l10.trans l11, w11⟩
  rintro fr g11 ⟨hfr, l11, w11⟩
  simp only [hasAll] at hfr
  obtain ⟨f2, f5, f6, f8, f9, f10, f11, f12, f14, f16, f44, f45, f46, f125, f126, f127, f171, -⟩ := hfr
  have l911 := l9.trans l11
  have oO11 := l911.own _ _ oO
  have oT11 := l911.own _ _ oT
  have oE11 := l11.own _ _ o9
  have st := mapP_set oO11 ((xa : Int), (xc : Int)) i
  have stN := setP_none (h := g11) (x := .map (some O)) (v := .int .i64 i) ((xa : Int), (xc : Int))
  have LP11 := own42 oE11
  have oE12 : (g11.put O (.map (mapP (setK ol ((xa : Int), (xc : Int)) i)))).own E = some (.cells (cellsP ((xa : Int), (xc : Int)))) := by rw [AHeap.own_put_ne _ _ _ _ neEO]; exact oE11
  have oT12 : (g11.put O (.map (mapP (setK ol ((xa : Int), (xc : Int)) i)))).own T = some (.map (mapI al)) := by rw [AHeap.own_put_ne _ _ _ _ (Ne.symm neOT)]; exact oT11
  have oO12 : (g11.put O (.map (mapP (setK ol ((xa : Int), (xc : Int)) i)))).own O = some (.map (mapP (setK ol ((xa : Int), (xc : Int)) i))) := AHeap.own_put_eq _ _ _
  have gx12 := (gx.le l911).put (.map (mapP (setK ol ((xa : Int), (xc : Int)) i))) neXO nx.1
  have w12 := w11.put (.map (mapP (setK ol ((xa : Int), (xc : Int)) i))) (w11.lt oO11)
  have lb12 : Le b5 (g11.put O (.map (mapP (setK ol ((xa : Int), (xc : Int)) i)))) := (leh.trans l911).put _ hbO
  have LP12 := own42 oE12
  simp only [kS1, bLookup, bMapSet, wantA, isCall, stepOp, evalO, evalL, evalP, evalM, putDst, flat, kA, kB, Nat.reduceLT, ↓reduceIte, kC, Nat.reduceEqDiff, aBuiltin, abinG, guardFree, abin, aInt, aUn, aNilCheck, retQ, retQ1, aresults, aresultL, aresult, mkF, undefV, reduceCtorEq, kD, kE, kF, kG, kH, kI, kJ, kK, aExtract, calleeOf, f9, f11, f16, f171, LP11, stN, st, LP12]
  have OK' : OfOK fs i (f.edges.take (q + 1)) (setK ol ((xa : Int), (xc : Int)) i) := by
    refine ⟨setK_nodup OK.1 _ _, fun p => ?_⟩
    rw [setK_keys, OK.2 p, htk, List.mem_append, List.mem_singleton]
    constructor
    · rintro (h | h | h)
      · exact .inr (.inr h)
      · exact .inl h
      · exact .inr (.inl h)
    · rintro (h | h | h)
      · exact .inr (.inl h)
      · exact .inr (.inr h)
      · exact .inl h
  clear OK st stN LP11 oE11 oT11 oO11 w11 LP12 lkP lkN hnk
  generalize g11.put O (.map (mapP (setK ol ((xa : Int), (xc : Int)) i))) = g12 at *
  generalize setK ol ((xa : Int), (xc : Int)) i = ol' at *
  have nT12 : (rem [T] g12).own T = none := by rw [rem_own, if_pos (by simp)]
  refine KLoop.intro (fun k fr hc => ∃ (r : Nat) (al : List (Int × Int)), k = 2 - r ∧ r ≤ 2 ∧ fr = mkF [(2, .pointer (some ⟨B, 0, none⟩)), (5, wv), (6, lv), (8, nv), (9, .map (some O)), (10, .map (some T)), (11, .int .i64 i), (12, .pointer (some ⟨C, 0, none⟩)), (14, .pointer (some ⟨X, 0, none⟩)), (16, .pointer (some ⟨E, 0, none⟩)), (44, lv), (45, .int .i64 fs.length), (46, .int .i64 i), (125, ea), (126, .int .i64 f.edges.length), (127, .int .i64 q), (175, valP ((xa : Int), (xc : Int))), (176, .int .i64 r)] ∧ Le (rem [T] g12) hc ∧ hc.own T = some (.map (mapI al)) ∧ AtOK n web fs (i + 1) al)
    2 [(2, .pointer (some ⟨B, 0, none⟩)), (5, wv), (6, lv), (8, nv), (9, .map (some O)), (10, .map (some T)), (11, .int .i64 i), (12, .pointer (some ⟨C, 0, none⟩)), (14, .pointer (some ⟨X, 0, none⟩)), (16, .pointer (some ⟨E, 0, none⟩)), (44, lv), (45, .int .i64 fs.length), (46, .int .i64 i), (125, ea), (126, .int .i64 f.edges.length), (127, .int .i64 q), (175, valP ((xa : Int), (xc : Int))), (176, .int .i64 (0 : Nat))] (by simp only [hasAll, kS1, bLookup, bMapSet, wantA, isCall, stepOp, evalO, evalL, evalP, evalM, putDst, flat, kA, kB, Nat.reduceLT, ↓reduceIte, kC, Nat.reduceEqDiff, aBuiltin, abinG, guardFree, abin, aInt, aUn, aNilCheck, retQ, retQ1, aresults, aresultL, aresult, mkF, undefV, reduceCtorEq, kD, kE, kF, kG, kH, kI, kJ, kK, aExtract, calleeOf, f2, f5, f6, f8, f9, f10, f11, f12, f14, f16, f44, f45, f46, f125, f126, f127]; simp) ⟨0, al, rfl, Nat.zero_le _, rfl, rem_le _ _, oT12, AK⟩ ?_
  clear f171 f127 f126 f125 f46 f45 f44 f16 f14 f12 f11 f10 f9 f8 f6 f5 f2 fr AK oT12 l911 l11 oT
  clear al
  rintro k3 fr hc hwc ⟨r, al, rfl, hr2, rfl, lec, oT, AK⟩
  have hrem : ∀ b o, g12.own b = some o → b ≠ T → hc.own b = some o := fun b o ho hb => lec.own _ _ (rem_some.2 ⟨ho, by simpa using hb⟩)
  have lbc : Le b5 hc := (lb12.of_none (l := [T]) fun b hb => by rw [List.mem_singleton] at hb; subst hb; exact hbT).trans lec
  have leh12 := hb5.trans lbc
  have oOc := hrem _ _ oO12 neOT
  have oEc := hrem _ _ oE12 neET
  by_cases c : r < 2
  rotate_left
  · have z : ((r : Int) < 2) = False := eq_false (by omega)
    obtain rfl : r = 2 := by omega
    have gxc : GX hc X (n : Int) xv ((f.edges.take q).filter (innB n web)) := by
      have : GX (rem [T] g12) X (n : Int) xv ((f.edges.take q).filter (innB n web)) := ⟨rem_some.2 ⟨gx12.ox, by simpa using neXT⟩, GS.to_rem gx12.gp fun b hb hm => by rw [List.mem_singleton] at hm; exact nx.2 (hm ▸ hb), gx12.ne⟩
      exact this.le lec
    have n0 := own0 oEc
    have n1 := own1 oEc
    have LPc := own42 oEc
    simp only at n0 n1
    have D0 := ldn hc leh12 xa hxa
    have D1 := ldn hc leh12 xc hxc
    have hfil : (f.edges.take (q + 1)).filter (innB n web) = if innB n web ((xa : Int), (xc : Int)) = true then (f.edges.take q).filter (innB n web) ++ [((xa : Int), (xc : Int))] else (f.edges.take q).filter (innB n web) := by
      rw [htk, List.filter_append]
      simp only [List.filter_cons, List.filter_nil]
      split <;> simp
    have hinn : innB n web ((xa : Int), (xc : Int)) = (!onF n web xa && !onF n web xc) := rfl
    rw [hinn] at hfil
    have hfw : ((f.edges.take q).filter (innB n web)).length ≤ 594 := by
      have := List.length_filter_le (innB n web) (f.edges.take q)
      rw [List.length_take] at this; omega
    clear hinn
    cases h0 : onF n web xa with
    | true =>
      rw [h0] at D0 hfil
      simp only [kS1, bLookup, bMapSet, wantA, isCall, stepOp, evalO, evalL, evalP, evalM, putDst, flat, kA, kB, Nat.reduceLT, ↓reduceIte, kC, Nat.reduceEqDiff, aBuiltin, abinG, guardFree, abin, aInt, aUn, aNilCheck, retQ, retQ1, aresults, aresultL, aresult, mkF, undefV, reduceCtorEq, kD, kE, kF, kG, kH, kI, kJ, kK, aExtract, calleeOf, z, pa0, pa1, aadd, Nat.zero_add, n0, n1, A0, A1, D0, awrap_succ q (by omega)]
      exact loop_again (f.edges.length - (q + 1)) [(2, .pointer (some ⟨B, 0, none⟩)), (5, wv), (6, lv), (8, nv), (9, .map (some O)), (10, .map (some T)), (11, .int .i64 i), (12, .pointer (some ⟨C, 0, none⟩)), (14, .pointer (some ⟨X, 0, none⟩)), (44, lv), (45, .int .i64 fs.length), (46, .int .i64 i), (125, ea), (126, .int .i64 f.edges.length), (127, .int .i64 (q + 1 : Nat))] (by omega) (by simp only [hasAll, kS1, bLookup, bMapSet, wantA, isCall, stepOp, evalO, evalL, evalP, evalM, putDst, flat, kA, kB, Nat.reduceLT, ↓reduceIte, kC, Nat.reduceEqDiff, aBuiltin, abinG, guardFree, abin, aInt, aUn, aNilCheck, retQ, retQ1, aresults, aresultL, aresult, mkF, undefV, reduceCtorEq, kD, kE, kF, kG, kH, kI, kJ, kK, aExtract, calleeOf]; simp) ⟨q + 1, ol', al, xv, rfl, hltq, rfl, lbc, oOc, oT, by rw [hfil]; exact gxc, ax, nx, OK', AK⟩
    | false =>
      cases h1 : onF n web xc with
      | true =>
        rw [h0] at D0 hfil
        rw [h1] at D1 hfil
        simp only [kS1, bLookup, bMapSet, wantA, isCall, stepOp, evalO, evalL, evalP, evalM, putDst, flat, kA, kB, Nat.reduceLT, ↓reduceIte, kC, Nat.reduceEqDiff, aBuiltin, abinG, guardFree, abin, aInt, aUn, aNilCheck, retQ, retQ1, aresults, aresultL, aresult, mkF, undefV, reduceCtorEq, kD, kE, kF, kG, kH, kI, kJ, kK, aExtract, calleeOf, z, pa0, pa1, aadd, Nat.zero_add, n0, n1, A0, A1, D0, D1, awrap_succ q (by omega)]
        exact loop_again (f.edges.length - (q + 1)) [(2, .pointer (some ⟨B, 0, none⟩)), (5, wv), (6, lv), (8, nv), (9, .map (some O)), (10, .map (some T)), (11, .int .i64 i), (12, .pointer (some ⟨C, 0, none⟩)), (14, .pointer (some ⟨X, 0, none⟩)), (44, lv), (45, .int .i64 fs.length), (46, .int .i64 i), (125, ea), (126, .int .i64 f.edges.length), (127, .int .i64 (q + 1 : Nat))] (by omega) (by simp only [hasAll, kS1, bLookup, bMapSet, wantA, isCall, stepOp, evalO, evalL, evalP, evalM, putDst, flat, kA, kB, Nat.reduceLT, ↓reduceIte, kC, Nat.reduceEqDiff, aBuiltin, abinG, guardFree, abin, aInt, aUn, aNilCheck, retQ, retQ1, aresults, aresultL, aresult, mkF, undefV, reduceCtorEq, kD, kE, kF, kG, kH, kI, kJ, kK, aExtract, calleeOf]; simp) ⟨q + 1, ol', al, xv, rfl, hltq, rfl, lbc, oOc, oT, by rw [hfil]; exact gxc, ax, nx, OK', AK⟩
      | false =>
        rw [h0] at D0 hfil
        rw [h1] at D1 hfil
        obtain ⟨xv', k4, k5, k6, e4, e5, s6, gx6, w6, _, hf6, hk6⟩ := gxc.push' hwc ((xa : Int), (xc : Int)) (by omega)
        obtain ⟨l6, a6⟩ := hf6 b5 lbc hbX ax
        have qO := hk6 O _ oOc (Ne.symm neXO) nx.1
        have qT := hk6 T _ oT (Ne.symm neXT) nx.2
        have ldx := gxc.ld.2.2
        simp only [kS1, bLookup, bMapSet, wantA, isCall, stepOp, evalO, evalL, evalP, evalM, putDst, flat, kA, kB, Nat.reduceLT, ↓reduceIte, kC, Nat.reduceEqDiff, aBuiltin, abinG, guardFree, abin, aInt, aUn, aNilCheck, retQ, retQ1, aresults, aresultL, aresult, mkF, undefV, reduceCtorEq, kD, kE, kF, kG, kH, kI, kJ, kK, aExtract, calleeOf, z, pa0, pa1, fg1, aadd, Nat.zero_add, n0, n1, A0, A1, D0, D1, ldx, LPc, e4, e5, s6, awrap_succ q (by omega)]
        exact loop_again (f.edges.length - (q + 1)) [(2, .pointer (some ⟨B, 0, none⟩)), (5, wv), (6, lv), (8, nv), (9, .map (some O)), (10, .map (some T)), (11, .int .i64 i), (12, .pointer (some ⟨C, 0, none⟩)), (14, .pointer (some ⟨X, 0, none⟩)), (44, lv), (45, .int .i64 fs.length), (46, .int .i64 i), (125, ea), (126, .int .i64 f.edges.length), (127, .int .i64 (q + 1 : Nat))] (by omega) (by simp only [hasAll, kS1, bLookup, bMapSet, wantA, isCall, stepOp, evalO, evalL, evalP, evalM, putDst, flat, kA, kB, Nat.reduceLT, ↓reduceIte, kC, Nat.reduceEqDiff, aBuiltin, abinG, guardFree, abin, aInt, aUn, aNilCheck, retQ, retQ1, aresults, aresultL, aresult, mkF, undefV, reduceCtorEq, kD, kE, kF, kG, kH, kI, kJ, kK, aExtract, calleeOf]; simp) ⟨q + 1, ol', al, xv', rfl, hltq, rfl, l6, qO.1, qT.1, by rw [hfil]; exact gx6, a6, ⟨qO.2, qT.2⟩, OK', AK⟩
  have z : ((r : Int) < 2) = True := eq_true (by omega)
  have ix := ix42 ((xa : Int), (xc : Int)) r c
  have hrng : 0 ≤ endAt ((xa : Int), (xc : Int)) r ∧ endAt ((xa : Int), (xc : Int)) r < (n : Int) := by unfold endAt; split <;> simp only <;> omega
  have hend : endB ((xa : Int), (xc : Int)) (endAt ((xa : Int), (xc : Int)) r) = true := by unfold endAt endB; split <;> simp
  generalize endAt ((xa : Int), (xc : Int)) r = x at ix hrng hend
  obtain ⟨v, rfl⟩ := Int.eq_ofNat_of_zero_le hrng.1
  have hv : v < n := by omega
  have Av := adn v hv
  have Dv := ldn hc leh12 v hv
  have lk := mapI_look oT (v : Int) true
  have ms := mapI_set oT (v : Int) i
  cases ho : onF n web v with
  | true =>
    rw [ho] at Dv
    cases hl : lookK al (v : Int) with
    | none =>
      rw [hl] at lk
      have lk : aLookup Try.prog hc 47 (.map (some T)) (.int .i64 (v : Int)) true = some (.tuple #[.int .i64 0, .bool false]) := lk
      simp only [kS1, bLookup, bMapSet, wantA, isCall, stepOp, evalO, evalL, evalP, evalM, putDst, flat, kA, kB, Nat.reduceLT, ↓reduceIte, kC, Nat.reduceEqDiff, aBuiltin, abinG, guardFree, abin, aInt, aUn, aNilCheck, retQ, retQ1, aresults, aresultL, aresult, mkF, undefV, reduceCtorEq, kD, kE, kF, kG, kH, kI, kJ, kK, aExtract, calleeOf, z, ix, lk, Av, Dv, awrap_succ r (by omega)]
      exact loop_again (2 - (r + 1)) [(2, .pointer (some ⟨B, 0, none⟩)), (5, wv), (6, lv), (8, nv), (9, .map (some O)), (10, .map (some T)), (11, .int .i64 i), (12, .pointer (some ⟨C, 0, none⟩)), (14, .pointer (some ⟨X, 0, none⟩)), (16, .pointer (some ⟨E, 0, none⟩)), (44, lv), (45, .int .i64 fs.length), (46, .int .i64 i), (125, ea), (126, .int .i64 f.edges.length), (127, .int .i64 q), (175, valP ((xa : Int), (xc : Int))), (176, .int .i64 (r + 1 : Nat))] (by omega) (by simp only [hasAll, kS1, bLookup, bMapSet, wantA, isCall, stepOp, evalO, evalL, evalP, evalM, putDst, flat, kA, kB, Nat.reduceLT, ↓reduceIte, kC, Nat.reduceEqDiff, aBuiltin, abinG, guardFree, abin, aInt, aUn, aNilCheck, retQ, retQ1, aresults, aresultL, aresult, mkF, undefV, reduceCtorEq, kD, kE, kF, kG, kH, kI, kJ, kK, aExtract, calleeOf]; simp) ⟨r + 1, al, rfl, c, rfl, lec, oT, AK⟩
    | some b =>
      rw [hl] at lk
      have lk : aLookup Try.prog hc 47 (.map (some T)) (.int .i64 (v : Int)) true = some (.tuple #[.int .i64 b, .bool true]) := lk
      simp only [kS1, bLookup, bMapSet, wantA, isCall, stepOp, evalO, evalL, evalP, evalM, putDst, flat, kA, kB, Nat.reduceLT, ↓reduceIte, kC, Nat.reduceEqDiff, aBuiltin, abinG, guardFree, abin, aInt, aUn, aNilCheck, retQ, retQ1, aresults, aresultL, aresult, mkF, undefV, reduceCtorEq, kD, kE, kF, kG, kH, kI, kJ, kK, aExtract, calleeOf, z, ix, lk, Av, Dv, awrap_succ r (by omega)]
      exact loop_again (2 - (r + 1)) [(2, .pointer (some ⟨B, 0, none⟩)), (5, wv), (6, lv), (8, nv), (9, .map (some O)), (10, .map (some T)), (11, .int .i64 i), (12, .pointer (some ⟨C, 0, none⟩)), (14, .pointer (some ⟨X, 0, none⟩)), (16, .pointer (some ⟨E, 0, none⟩)), (44, lv), (45, .int .i64 fs.length), (46, .int .i64 i), (125, ea), (126, .int .i64 f.edges.length), (127, .int .i64 q), (175, valP ((xa : Int), (xc : Int))), (176, .int .i64 (r + 1 : Nat))] (by omega) (by simp only [hasAll, kS1, bLookup, bMapSet, wantA, isCall, stepOp, evalO, evalL, evalP, evalM, putDst, flat, kA, kB, Nat.reduceLT, ↓reduceIte, kC, Nat.reduceEqDiff, aBuiltin, abinG, guardFree, abin, aInt, aUn, aNilCheck, retQ, retQ1, aresults, aresultL, aresult, mkF, undefV, reduceCtorEq, kD, kE, kF, kG, kH, kI, kJ, kK, aExtract, calleeOf]; simp) ⟨r + 1, al, rfl, c, rfl, lec, oT, AK⟩
  | false =>
    rw [ho] at Dv
    have AK' : AtOK n web fs (i + 1) (setK al (v : Int) i) := fun u k hu => by
      rw [lookK_set] at hu
      split at hu
      · rename_i e
        obtain rfl : v = u := by omega
        injection hu with hu
        exact ⟨i, f, by omega, hu.symm, hfi, _, hpm, hend, ho⟩
      · exact AK u k hu
    cases hl : lookK al (v : Int) with
    | none =>
      rw [hl] at lk
      have lk : aLookup Try.prog hc 47 (.map (some T)) (.int .i64 (v : Int)) true = some (.tuple #[.int .i64 0, .bool false]) := lk
      simp only [kS1, bLookup, bMapSet, wantA, isCall, stepOp, evalO, evalL, evalP, evalM, putDst, flat, kA, kB, Nat.reduceLT, ↓reduceIte, kC, Nat.reduceEqDiff, aBuiltin, abinG, guardFree, abin, aInt, aUn, aNilCheck, retQ, retQ1, aresults, aresultL, aresult, mkF, undefV, reduceCtorEq, kD, kE, kF, kG, kH, kI, kJ, kK, aExtract, calleeOf, z, ix, lk, Av, Dv, ms, awrap_succ r (by omega)]
      exact loop_again (2 - (r + 1)) [(2, .pointer (some ⟨B, 0, none⟩)), (5, wv), (6, lv), (8, nv), (9, .map (some O)), (10, .map (some T)), (11, .int .i64 i), (12, .pointer (some ⟨C, 0, none⟩)), (14, .pointer (some ⟨X, 0, none⟩)), (16, .pointer (some ⟨E, 0, none⟩)), (44, lv), (45, .int .i64 fs.length), (46, .int .i64 i), (125, ea), (126, .int .i64 f.edges.length), (127, .int .i64 q), (175, valP ((xa : Int), (xc : Int))), (176, .int .i64 (r + 1 : Nat))] (by omega) (by simp only [hasAll, kS1, bLookup, bMapSet, wantA, isCall, stepOp, evalO, evalL, evalP, evalM, putDst, flat, kA, kB, Nat.reduceLT, ↓reduceIte, kC, Nat.reduceEqDiff, aBuiltin, abinG, guardFree, abin, aInt, aUn, aNilCheck, retQ, retQ1, aresults, aresultL, aresult, mkF, undefV, reduceCtorEq, kD, kE, kF, kG, kH, kI, kJ, kK, aExtract, calleeOf]; simp) ⟨r + 1, _, rfl, c, rfl, lec.put _ nT12, AHeap.own_put_eq _ _ _, AK'⟩
    | some b =>
      rw [hl] at lk
      have lk : aLookup Try.prog hc 47 (.map (some T)) (.int .i64 (v : Int)) true = some (.tuple #[.int .i64 b, .bool true]) := lk
      obtain ⟨i', f', hi', rfl, hfi', p', hp', hend', ho'⟩ := AK v b hl
      obtain ⟨k', hk', hF'⟩ := hks i' f' hfi'
      have e1 := key_at hR hT hF hpm hv ho hend
      have e2 := key_at hR hT hF' hp' hv ho' hend'
      have : i' = i := (List.getElem?_inj (List.getElem?_eq_some_iff.1 hk').1 hknd).1 (by rw [hk', hki, ← e1, ← e2])
      rw [this] at lk
      have dd : decide ((i : Int) = (i : Int)) = true := by simp
      simp only [kS1, bLookup, bMapSet, wantA, isCall, stepOp, evalO, evalL, evalP, evalM, putDst, flat, kA, kB, Nat.reduceLT, ↓reduceIte, kC, Nat.reduceEqDiff, aBuiltin, abinG, guardFree, abin, aInt, aUn, aNilCheck, retQ, retQ1, aresults, aresultL, aresult, mkF, undefV, reduceCtorEq, kD, kE, kF, kG, kH, kI, kJ, kK, aExtract, calleeOf, z, bne, ix, lk, Av, Dv, dd, ms, awrap_succ r (by omega)]
      exact loop_again (2 - (r + 1)) [(2, .pointer (some ⟨B, 0, none⟩)), (5, wv), (6, lv), (8, nv), (9, .map (some O)), (10, .map (some T)), (11, .int .i64 i), (12, .pointer (some ⟨C, 0, none⟩)), (14, .pointer (some ⟨X, 0, none⟩)), (16, .pointer (some ⟨E, 0, none⟩)), (44, lv), (45, .int .i64 fs.length), (46, .int .i64 i), (125, ea), (126, .int .i64 f.edges.length), (127, .int .i64 q), (175, valP ((xa : Int), (xc : Int))), (176, .int .i64 (r + 1 : Nat))] (by omega) (by simp only [hasAll, kS1, bLookup, bMapSet, wantA, isCall, stepOp, evalO, evalL, evalP, evalM, putDst, flat, kA, kB, Nat.reduceLT, ↓reduceIte, kC, Nat.reduceEqDiff, aBuiltin, abinG, guardFree, abin, aInt, aUn, aNilCheck, retQ, retQ1, aresults, aresultL, aresult, mkF, undefV, reduceCtorEq, kD, kE, kF, kG, kH, kI, kJ, kK, aExtract, calleeOf]; simp) ⟨r + 1, _, rfl, c, rfl, lec.put _ nT12, AHeap.own_put_eq _ _ _, AK'⟩
end Go.Fw
