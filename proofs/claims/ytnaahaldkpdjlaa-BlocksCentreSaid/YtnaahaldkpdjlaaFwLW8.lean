/- A text of the proof. -/
import Derived.Test.YtnaahaldkpdjlaaFwLW4
import Derived.Test.YtnaahaldkpdjlaaFwLW1
set_option linter.unusedSimpArgs false
set_option linter.unusedVariables false
namespace Go.Fw
open Go.Proofs
set_option maxHeartbeats 8000000
set_option maxRecDepth 10000
structure FarI (n : Nat) (es : List Pr) (s : Nat) (L : List Int) (met : List Nat) (cl : Nat → Nat → Prop) : Prop where
 len : L.length = n
 val : ∀ (v : Nat) (x : Int), L[v]? = some x → x = -1 ∨ 0 ≤ x ∧ v ∈ met
 mm : ∀ v ∈ met, v < n ∧ Con es s v ∧ ∃ x : Int, L[v]? = some x ∧ 0 ≤ x
 nd : met.Nodup
 s0 : L[s]? = some 0
 ms : s ∈ met
 pre : ∀ (v : Nat) (x : Int), L[v]? = some x → 0 < x → ∃ w, adj es v w ∧ L[w]? = some (x - 1)
 zero : ∀ (v : Nat), L[v]? = some 0 → v = s
 cl : ∀ u w, cl u w → w ∈ met
 bd : ∀ (v : Nat) (x : Int), L[v]? = some x → x + 1 ≤ met.length
structure Far (n : Nat) (es : List Pr) (s : Nat) (L : List Int) : Prop where
 len : L.length = n
 pos : ∀ (v : Nat) (x : Int), L[v]? = some x → (0 ≤ x ↔ Con es s v)
 pre : ∀ (v : Nat) (x : Int), L[v]? = some x → 0 < x → ∃ w, adj es v w ∧ L[w]? = some (x - 1)
 zero : ∀ (v : Nat), L[v]? = some 0 → v = s
 bd : ∀ (v : Nat) (x : Int), L[v]? = some x → -1 ≤ x ∧ x + 1 ≤ n
theorem FarI.start {n : Nat} {es : List Pr} {s : Nat} (hs : s < n) (cl : Nat → Nat → Prop) (hcl : ∀ u w, ¬ cl u w) : FarI n es s ((List.replicate n (-1)).set s 0) [s] cl := by
 have gs : ∀ (v : Nat) (x : Int), ((List.replicate n (-1 : Int)).set s 0)[v]? = some x → v = s ∧ x = 0 ∨ x = -1 := by
  intro v x h
  rw [List.getElem?_set] at h
  split at h
  ·rename_i e; split at h
   ·injection h with h; exact .inl ⟨e.symm, h.symm⟩
   ·cases h
  ·rw [List.getElem?_replicate] at h
   split at h
   ·injection h with h; exact .inr h.symm
   ·cases h
 have h0 : ((List.replicate n (-1 : Int)).set s 0)[s]? = some 0 := by rw [List.getElem?_set]; simp [hs]
 refine ⟨by simp, fun v x h => ?_, fun v hv => ?_, by simp, h0, by simp, fun v x h hx => ?_, fun v h => ?_, fun u w h => absurd h (hcl u w), fun v x h => ?_⟩
 ·rcases gs v x h with ⟨rfl, rfl⟩ | rfl
  ·exact .inr ⟨Int.le_refl _, by simp⟩
  ·exact .inl rfl
 ·rw [List.mem_singleton] at hv; subst hv; exact ⟨hs, Con.refl es _, 0, h0, Int.le_refl _⟩
 ·rcases gs v x h with ⟨rfl, rfl⟩ | rfl <;> omega
 ·rcases gs v 0 h with ⟨rfl, _⟩ | e
  ·rfl
  ·omega
 ·rcases gs v x h with ⟨rfl, rfl⟩ | rfl <;> simp
theorem FarI.mono {n : Nat} {es : List Pr} {s : Nat} {L : List Int} {met : List Nat} {cl cl' : Nat → Nat → Prop} (t : FarI n es s L met cl) (h : ∀ u w, cl' u w → cl u w) : FarI n es s L met cl' :=
 { t with cl := fun u w hc => t.cl u w (h u w hc) }
theorem FarI.stay {n : Nat} {es : List Pr} {s : Nat} {L : List Int} {met : List Nat} {cl cl' : Nat → Nat → Prop} (t : FarI n es s L met cl) {w : Nat} {x : Int} (hx : L[w]? = some x) (h0 : 0 ≤ x) (h : ∀ a b, cl' a b → cl a b ∨ b = w) : FarI n es s L met cl' :=
 have hw : w ∈ met := by
  rcases t.val _ _ hx with h | h
  ·omega
  ·exact h.2
 { t with cl := fun a b hc => (h a b hc).elim (fun h => t.cl a b h) (fun e => by rw [e]; exact hw) }
theorem FarI.push {n : Nat} {es : List Pr} {s : Nat} {L : List Int} {met : List Nat} {cl cl' : Nat → Nat → Prop} (t : FarI n es s L met cl) {u w : Nat} {d x : Int} (hu : u ∈ met) (hd : L[u]? = some d) (ha : adj es u w) (hx : L[w]? = some x) (h0 : x < 0) (h : ∀ a b, cl' a b → cl a b ∨ b = w) :
  FarI n es s (L.set w (d + 1)) (met ++ [w]) cl' := by
 have hwl := (List.getElem?_eq_some_iff.1 hx).1
 have hd0 : 0 ≤ d := by obtain ⟨_, _, y, hy, h0⟩ := t.mm u hu; rw [hd] at hy; injection hy with hy; omega
 have hwm : w ∉ met := fun hm => by obtain ⟨_, _, y, hy, h0'⟩ := t.mm w hm; rw [hx] at hy; injection hy with hy; omega
 have keep : ∀ (v : Nat) (y : Int), L[v]? = some y → 0 ≤ y → (L.set w (d + 1))[v]? = some y := fun v y hy hy0 => by
  rw [List.getElem?_set]
  split
  ·rename_i e; subst e; rw [hx] at hy; injection hy with hy; omega
  ·exact hy
 have gs : ∀ (v : Nat) (y : Int), (L.set w (d + 1))[v]? = some y → v = w ∧ y = d + 1 ∨ v ≠ w ∧ L[v]? = some y := fun v y hy => by
  rw [List.getElem?_set] at hy
  split at hy
  ·rename_i e; injection hy with hy; exact .inl ⟨e.symm, hy.symm⟩
  ·rename_i e; exact .inr ⟨Ne.symm e, hy⟩
 refine ⟨by simp [t.len], fun v y hy => ?_, fun v hv => ?_, ?_, keep _ _ t.s0 (Int.le_refl _), List.mem_append_left _ t.ms, fun v y hy hy0 => ?_, fun v hv => ?_, fun a b hc => ?_, fun v y hy => ?_⟩
 ·rcases gs v y hy with ⟨rfl, rfl⟩ | ⟨_, hy⟩
  ·exact .inr ⟨by omega, by simp⟩
  ·rcases t.val v y hy with h | ⟨h1, h2⟩
   ·exact .inl h
   ·exact .inr ⟨h1, List.mem_append_left _ h2⟩
 ·rw [List.mem_append, List.mem_singleton] at hv
  rcases hv with hv | rfl
  ·obtain ⟨h1, h2, y, hy, hy0⟩ := t.mm v hv
   exact ⟨h1, h2, y, keep _ _ hy hy0, hy0⟩
  ·exact ⟨by rw [← t.len]; exact hwl, .step (t.mm u hu).2.1 ha rfl, d + 1, by rw [List.getElem?_set]; simp [hwl], by omega⟩
 ·rw [List.nodup_append]
  exact ⟨t.nd, by simp, fun a ham b hb e => by rw [List.mem_singleton] at hb; subst hb; subst e; exact hwm ham⟩
 ·rcases gs v y hy with ⟨rfl, rfl⟩ | ⟨_, hy⟩
  ·exact ⟨u, ha.symm, by rw [show d + 1 - 1 = d by omega]; exact keep _ _ hd hd0⟩
  ·obtain ⟨b, hb, hb2⟩ := t.pre v y hy hy0
   exact ⟨b, hb, keep _ _ hb2 (by omega)⟩
 ·rcases gs v 0 hv with ⟨_, e⟩ | ⟨_, hy⟩
  ·omega
  ·exact t.zero v hy
 ·rw [List.mem_append, List.mem_singleton]
  rcases h a b hc with h | rfl
  ·exact .inl (t.cl a b h)
  ·exact .inr rfl
 ·simp only [List.length_append, List.length_singleton]
  rcases gs v y hy with ⟨rfl, rfl⟩ | ⟨_, hy⟩
  ·have := t.bd u d hd; omega
  ·have := t.bd v y hy; omega
theorem FarI.len_met {n : Nat} {es : List Pr} {s : Nat} {L : List Int} {met : List Nat} {cl : Nat → Nat → Prop} (t : FarI n es s L met cl) : met.length ≤ n := by
 have := t.nd.length_le_of_subset (l₂ := List.range n) fun v hv => List.mem_range.2 (t.mm v hv).1
 simpa using this
theorem FarI.finish {n : Nat} {es : List Pr} {s : Nat} {L : List Int} {met : List Nat} {cl : Nat → Nat → Prop} (t : FarI n es s L met cl) (h : ∀ u w, u ∈ met → adj es u w → cl u w) : Far n es s L := by
 have all : ∀ v, Con es s v → v ∈ met := by
  intro v hc
  induction hc with
  | refl _ => exact t.ms
  | step _ a _ ih => exact t.cl _ _ (h _ _ ih a)
 refine ⟨t.len, fun v x hx => ⟨fun h0 => ?_, fun hc => ?_⟩, t.pre, t.zero, fun v x hx => ?_⟩
 ·rcases t.val v x hx with h | ⟨_, h⟩
  ·omega
  ·exact (t.mm v h).2.1
 ·obtain ⟨_, _, y, hy, h0⟩ := t.mm v (all v hc)
  rw [hx] at hy; injection hy with hy; omega
 ·have := t.bd v x hx
  have := t.len_met
  rcases t.val v x hx with h | ⟨h, _⟩ <;> omega
end Go.Fw
namespace Go.Fw
open Go.Proofs
attribute [local irreducible] KO4 KO3 KO2 KO1 KO KN KX KE VK KCond KDraw KCall KLoop
set_option maxHeartbeats 8000000
set_option maxRecDepth 10000
theorem away_any (W0 : Base) (bv : Value) (n s : Nat) (es : List Pr) (h : AHeap) (hb : RL (RL isI) h bv (besM n es)) (hR : InR n es) (hn : n ≤ 300) (hel : es.length ≤ 1000) (hs : s < n) :
  AC Try.prog W0 91 [bv, .int .i64 (s : Int)] h fun x h' => ∃ L, RL isI h' x L ∧ Far n es s L ∧ Le h h' := by
 refine AC.vc (fn := Try.f91) (c := _) ⟨Try.func91, rfl, by decide⟩ Try.ntmps91 Try.results91 (by simp) fun hwf => ?_
 simp only [argFrame, argFrom, Nat.reduceAdd]
 have lb := fun g => hb.len (P := Try.prog) Try.underlying32 g
 rw [besM_length] at lb
 obtain ⟨h1, e1, l1, w1, o1⟩ := alloc_f hwf [.int .i64 (-1)]
 simp only [kS1, bLookup, bMapSet, wantA, isCall, stepOp, evalO, evalL, evalP, evalM, putDst, flat, kA, kB, Nat.reduceLT, ↓reduceIte, kC, Nat.reduceEqDiff, aBuiltin, abinG, guardFree, abin, aInt, aUn, aNilCheck, retQ, retQ1, aresults, aresultL, aresult, mkF, undefV, reduceCtorEq, kD, kE, kF, kG, kH, kI, kJ, kK, aExtract, calleeOf, mk1, e1, lb]
 refine KCall.intro (by simp only [kS1, bLookup, bMapSet, wantA, isCall, stepOp, evalO, evalL, evalP, evalM, putDst, flat, kA, kB, Nat.reduceLT, ↓reduceIte, kC, Nat.reduceEqDiff, aBuiltin, abinG, guardFree, abin, aInt, aUn, aNilCheck, retQ, retQ1, aresults, aresultL, aresult, mkF, undefV, reduceCtorEq, kD, kE, kF, kG, kH, kI, kJ, kK, aExtract, calleeOf] <;> rfl) ⟨Try.func95, rfl, by decide⟩ (Repeat_any W0 _ n (by omega) h1 (RL.ofI (RS.whole o1 rfl))) ?_
 rintro x h2 w2 ⟨T, rfl, hT, o2, l2⟩
 have nT : h.own T = none := l1.next w1 hT
 have oT : h2.own T = some (.cells (I64 (List.replicate n (-1)))) := by rw [o2]; simp [I64]
 have ixT : ∀ (k : IntKind) (j : Nat), j < n → aIndexAddr Try.prog 38 (.slice (some ⟨T, 0, none⟩) n n) (.int k j) = some (.pointer (some ⟨T, j, none⟩)) := fun k j hj => by rw [aIdx Try.underlying38 Try.underlying3 (by kernel_rfl) j hj]; simp [aadd]
 have ldT : ∀ (g : AHeap) (L : List Int) (j : Nat) (l : Int), g.own T = some (.cells (I64 L)) → L[j]? = some l → aload Try.prog g 3 ⟨T, j, none⟩ = some (.int .i64 l) := fun g L j l ho hl => by
  rw [aload_one Try.underlying3 rfl ho]; simp [I64, hl]
 have st0 := aStore1 (P := Try.prog) (t := 3) (x := .int .i64 0) Try.underlying3 (by kernel_rfl) oT (off := s) (by simp [I64, hs]) rfl rfl
 rw [I64_set] at st0
 have w3 := w2.put (.cells (I64 ((List.replicate n (-1)).set s 0))) (w2.lt oT)
 have l3 : Le h (h2.put T (.cells (I64 ((List.replicate n (-1)).set s 0)))) := (l1.trans l2).put _ nT
 have oT3 : (h2.put T (.cells (I64 ((List.replicate n (-1)).set s 0)))).own T = some (.cells (I64 ((List.replicate n (-1)).set s 0))) := AHeap.own_put_eq _ _ _
 simp only [kS1, bLookup, bMapSet, wantA, isCall, stepOp, evalO, evalL, evalP, evalM, putDst, flat, kA, kB, Nat.reduceLT, ↓reduceIte, kC, Nat.reduceEqDiff, aBuiltin, abinG, guardFree, abin, aInt, aUn, aNilCheck, retQ, retQ1, aresults, aresultL, aresult, mkF, undefV, reduceCtorEq, kD, kE, kF, kG, kH, kI, kJ, kK, aExtract, calleeOf, ixT _ s hs, st0]
 generalize h2.put T (.cells (I64 ((List.replicate n (-1)).set s 0))) = h4 at *
 obtain ⟨h5, e5, le5, wf5, o5⟩ := alloc_f w3 [.int .i64 (s : Int)]
 have nM : h.own h4.next = none := l3.next w3 (Nat.le_refl _)
 have neM : T ≠ h4.next := fun e => by have := w3.lt oT3; omega
 simp only [kS1, bLookup, bMapSet, wantA, isCall, stepOp, evalO, evalL, evalP, evalM, putDst, flat, kA, kB, Nat.reduceLT, ↓reduceIte, kC, Nat.reduceEqDiff, aBuiltin, abinG, guardFree, abin, aInt, aUn, aNilCheck, retQ, retQ1, aresults, aresultL, aresult, mkF, undefV, reduceCtorEq, kD, kE, kF, kG, kH, kI, kJ, kK, aExtract, calleeOf, mk1, e5]
 have hTI := FarI.start (es := es) hs (fun a w => (∃ j, j < 0 ∧ [s][j]? = some a) ∧ adj es a w) (fun a w h => by obtain ⟨⟨j, h, _⟩, _⟩ := h; omega)
 have gM : GI h5 (.slice (some ⟨h4.next, 0, none⟩) 1 1) (nat64 [s]) := GS.full o5 rfl (show 1 < 1000000000000 by decide)
 refine KLoop.intro (fun k fr hq => ∃ (i : Nat) (L : List Int) (mv : Value) (met : List Nat), k = n - i ∧ i ≤ met.length ∧ fr = mkF [(0, bv), (5, .slice (some ⟨T, 0, none⟩) n n), (6, mv), (7, .int .i64 i)] ∧
   hq.own T = some (.cells (I64 L)) ∧ Le h hq ∧ GI hq mv (nat64 met) ∧ blk mv ≠ some T ∧ Apart h mv ∧ FarI n es s L met (fun a w => (∃ j, j < i ∧ met[j]? = some a) ∧ adj es a w))
  n [(0, bv), (5, .slice (some ⟨T, 0, none⟩) n n), (6, .slice (some ⟨h4.next, 0, none⟩) 1 1), (7, .int .i64 (0 : Nat))] (by simp only [hasAll, kS1, bLookup, bMapSet, wantA, isCall, stepOp, evalO, evalL, evalP, evalM, putDst, flat, kA, kB, Nat.reduceLT, ↓reduceIte, kC, Nat.reduceEqDiff, aBuiltin, abinG, guardFree, abin, aInt, aUn, aNilCheck, retQ, retQ1, aresults, aresultL, aresult, mkF, undefV, reduceCtorEq, kD, kE, kF, kG, kH, kI, kJ, kK, aExtract, calleeOf]; simp)
  ⟨0, _, _, [s], rfl, Nat.zero_le _, rfl, le5.own _ _ oT3, l3.trans le5, gM, by simp [blk, Ne.symm neM], fun b hb => by simp [blk] at hb; subst hb; exact nM, hTI⟩ ?_
 clear hTI gM neM nM o5 wf5 le5 e5 h5 oT3 l3 w3 st0 oT o2 l2 w2
 clear h4 h2
 rintro k fr hq hwq ⟨i, L, mv, met, rfl, hi, rfl, oT, leq, gm, nm, am, tI⟩
 have lm := fun g => gm.rl.len (P := Try.prog) Try.underlying38 g
 have hml := tI.len_met
 rw [nat64_length] at lm
 simp only [kS1, bLookup, bMapSet, wantA, isCall, stepOp, evalO, evalL, evalP, evalM, putDst, flat, kA, kB, Nat.reduceLT, ↓reduceIte, kC, Nat.reduceEqDiff, aBuiltin, abinG, guardFree, abin, aInt, aUn, aNilCheck, retQ, retQ1, aresults, aresultL, aresult, mkF, undefV, reduceCtorEq, kD, kE, kF, kG, kH, kI, kJ, kK, aExtract, calleeOf, lm]
 refine KCond.intro (fun ht => ?_) (fun hf => ?_)
 rotate_left
 ·have hge : met.length ≤ i := lt_f hf
  simp only [kS1, bLookup, bMapSet, wantA, isCall, stepOp, evalO, evalL, evalP, evalM, putDst, flat, kA, kB, Nat.reduceLT, ↓reduceIte, kC, Nat.reduceEqDiff, aBuiltin, abinG, guardFree, abin, aInt, aUn, aNilCheck, retQ, retQ1, aresults, aresultL, aresult, mkF, undefV, reduceCtorEq, kD, kE, kF, kG, kH, kI, kJ, kK, aExtract, calleeOf]
  refine ⟨L, RL.ofI (RS.whole oT (by simpa using tI.len)), tI.finish fun a w ha haw => ⟨?_, haw⟩, leq⟩
  obtain ⟨j, hj⟩ := List.mem_iff_getElem?.1 ha
  exact ⟨j, by have := (List.getElem?_eq_some_iff.1 hj).1; omega, hj⟩
 have hil : i < met.length := lt_t ht
 clear ht
 have hmi := getElem?_of hil
 have hgi := nat64_get hil
 have adm := gm.rl.addr (P := Try.prog) Try.underlying38 Try.underlying3 (by kernel_rfl) (k := .i64) i (by rw [nat64_length]; exact hil)
 have ldm := gm.rl.loadI (P := Try.prog) Try.underlying3 rfl i (by rw [nat64_length]; exact hil)
 rw [hgi] at ldm
 generalize met[i] = u at hmi ldm
 clear hgi
 have hum : u ∈ met := List.mem_of_getElem? hmi
 have hun : u < n := (tI.mm u hum).1
 have hul : u < (besM n es).length := by rw [besM_length]; exact hun
 have adr := hb.addr (P := Try.prog) Try.underlying32 Try.underlying38 (by kernel_rfl) (k := .i64) u hul
 obtain ⟨uv, ldr, hrow⟩ := hb.load' (P := Try.prog) Try.underlying38 rfl u hul
 have hrd : (besM n es).getD u [] = (besM n es)[u] := getD_of hul
 generalize (besM n es)[u] = row at hrow hrd
 have lr := fun g => hrow.len (P := Try.prog) Try.underlying38 g
 have hrl : row.length ≤ 3000 := by
  have := besM_rows n es row (by rw [← hrd, getD_of hul]; exact List.getElem_mem hul)
  omega
 simp only [kS1, bLookup, bMapSet, wantA, isCall, stepOp, evalO, evalL, evalP, evalM, putDst, flat, kA, kB, Nat.reduceLT, ↓reduceIte, kC, Nat.reduceEqDiff, aBuiltin, abinG, guardFree, abin, aInt, aUn, aNilCheck, retQ, retQ1, aresults, aresultL, aresult, mkF, undefV, reduceCtorEq, kD, kE, kF, kG, kH, kI, kJ, kK, aExtract, calleeOf, adm, ldm, adr, ldr hq leq, lr]
 have cl0 : FarI n es s L met (fun a w => ((∃ j, j < i ∧ met[j]? = some a) ∧ adj es a w) ∨ (a = u ∧ (w : Int) ∈ row.take 0)) := tI.mono fun a w h => by
  rcases h with h | ⟨_, h⟩
  ·exact h
  ·simp at h
 refine KLoop.intro (fun k fr hq => ∃ (q : Nat) (L : List Int) (mv : Value) (met : List Nat), k = row.length - q ∧ q ≤ row.length ∧ fr = mkF [(0, bv), (5, .slice (some ⟨T, 0, none⟩) n n), (6, mv), (7, .int .i64 i), (31, uv), (32, .int .i64 row.length), (33, .int .i64 q)] ∧
   hq.own T = some (.cells (I64 L)) ∧ Le h hq ∧ GI hq mv (nat64 met) ∧ blk mv ≠ some T ∧ Apart h mv ∧ met[i]? = some u ∧ FarI n es s L met (fun a w => ((∃ j, j < i ∧ met[j]? = some a) ∧ adj es a w) ∨ (a = u ∧ (w : Int) ∈ row.take q)))
  row.length [(0, bv), (5, .slice (some ⟨T, 0, none⟩) n n), (6, mv), (7, .int .i64 i), (31, uv), (32, .int .i64 row.length), (33, .int .i64 (0 : Nat))] (by simp only [hasAll, kS1, bLookup, bMapSet, wantA, isCall, stepOp, evalO, evalL, evalP, evalM, putDst, flat, kA, kB, Nat.reduceLT, ↓reduceIte, kC, Nat.reduceEqDiff, aBuiltin, abinG, guardFree, abin, aInt, aUn, aNilCheck, retQ, retQ1, aresults, aresultL, aresult, mkF, undefV, reduceCtorEq, kD, kE, kF, kG, kH, kI, kJ, kK, aExtract, calleeOf]; simp)
  ⟨0, L, mv, met, rfl, Nat.zero_le _, rfl, oT, leq, gm, nm, am, hmi, cl0⟩ ?_
 clear cl0 adm ldm lm
 clear hum hmi hil hml tI am nm gm leq oT hwq hi
 clear hq L mv met
 rintro k fr hq hwq ⟨q, L, mv, met, rfl, hql, rfl, oT, leq, gm, nm, am, hmi, tI⟩
 have hum : u ∈ met := List.mem_of_getElem? hmi
 have hml := tI.len_met
 have hil := (List.getElem?_eq_some_iff.1 hmi).1
 simp only [kS1, bLookup, bMapSet, wantA, isCall, stepOp, evalO, evalL, evalP, evalM, putDst, flat, kA, kB, Nat.reduceLT, ↓reduceIte, kC, Nat.reduceEqDiff, aBuiltin, abinG, guardFree, abin, aInt, aUn, aNilCheck, retQ, retQ1, aresults, aresultL, aresult, mkF, undefV, reduceCtorEq, kD, kE, kF, kG, kH, kI, kJ, kK, aExtract, calleeOf]
 refine KCond.intro (fun ht => ?_) (fun hf => ?_)
 rotate_left
 ·have hge : row.length ≤ q := lt_f hf
  simp only [kS1, bLookup, bMapSet, wantA, isCall, stepOp, evalO, evalL, evalP, evalM, putDst, flat, kA, kB, Nat.reduceLT, ↓reduceIte, kC, Nat.reduceEqDiff, aBuiltin, abinG, guardFree, abin, aInt, aUn, aNilCheck, retQ, retQ1, aresults, aresultL, aresult, mkF, undefV, reduceCtorEq, kD, kE, kF, kG, kH, kI, kJ, kK, aExtract, calleeOf, awrap_succ i (by omega)]
  refine loop_again (n - (i + 1)) [(0, bv), (5, .slice (some ⟨T, 0, none⟩) n n), (6, mv), (7, .int .i64 (i + 1 : Nat))] (by omega) (by simp only [hasAll, kS1, bLookup, bMapSet, wantA, isCall, stepOp, evalO, evalL, evalP, evalM, putDst, flat, kA, kB, Nat.reduceLT, ↓reduceIte, kC, Nat.reduceEqDiff, aBuiltin, abinG, guardFree, abin, aInt, aUn, aNilCheck, retQ, retQ1, aresults, aresultL, aresult, mkF, undefV, reduceCtorEq, kD, kE, kF, kG, kH, kI, kJ, kK, aExtract, calleeOf]; simp) ⟨i + 1, L, mv, met, rfl, hil, rfl, oT, leq, gm, nm, am, tI.mono fun a w h => ?_⟩
  obtain ⟨⟨j, hj, hja⟩, haw⟩ := h
  by_cases e : j = i
  ·subst e
   rw [hmi] at hja; injection hja with hja; subst hja
   exact .inr ⟨rfl, by rw [List.take_of_length_le hge, ← hrd]; exact (besM_mem hR u w).2 haw⟩
  ·exact .inl ⟨⟨j, by omega, hja⟩, haw⟩
 have hlq : q < row.length := lt_t ht
 clear ht
 have adq := hrow.addr (P := Try.prog) Try.underlying38 Try.underlying3 (by kernel_rfl) (k := .i64) q hlq
 have ldq := (hrow.le Stays.isI leq).loadI (P := Try.prog) Try.underlying3 rfl q hlq
 have htk : row.take (q + 1) = row.take q ++ [row[q]] := List.take_succ_eq_append_getElem hlq
 have hxm : row[q] ∈ (besM n es).getD u [] := by rw [hrd]; exact List.getElem_mem hlq
 generalize row[q] = x at ldq htk hxm
 obtain ⟨w, rfl, hwn⟩ := besM_nat hR hxm
 have haw := (besM_mem hR u w).1 hxm
 have hLw := getElem?_of (show w < L.length by rw [tI.len]; exact hwn)
 generalize L[w]'(by rw [tI.len]; exact hwn) = lw at hLw
 have ldw := ldT hq L w lw oT hLw
 have hcl : ∀ (met' : List Nat), (∀ j, j < met.length → met'[j]? = met[j]?) → ∀ a b, ((∃ j, j < i ∧ met'[j]? = some a) ∧ adj es a b) ∨ (a = u ∧ (b : Int) ∈ row.take (q + 1)) →
   (((∃ j, j < i ∧ met[j]? = some a) ∧ adj es a b) ∨ (a = u ∧ (b : Int) ∈ row.take q)) ∨ b = w := fun met' hm a b h => by
  rcases h with ⟨⟨j, hj, hja⟩, h2⟩ | ⟨h1, h2⟩
  ·exact .inl (.inl ⟨⟨j, hj, by rw [← hm j (by omega)]; exact hja⟩, h2⟩)
  ·rw [htk, List.mem_append, List.mem_singleton] at h2
   rcases h2 with h2 | h2
   ·exact .inl (.inr ⟨h1, h2⟩)
   ·exact .inr (by omega)
 by_cases c4 : lw < 0
 rotate_left
 ·simp only [kS1, bLookup, bMapSet, wantA, isCall, stepOp, evalO, evalL, evalP, evalM, putDst, flat, kA, kB, Nat.reduceLT, ↓reduceIte, kC, Nat.reduceEqDiff, aBuiltin, abinG, guardFree, abin, aInt, aUn, aNilCheck, retQ, retQ1, aresults, aresultL, aresult, mkF, undefV, reduceCtorEq, kD, kE, kF, kG, kH, kI, kJ, kK, aExtract, calleeOf, adq, ldq, ixT _ w hwn, ldw, c4, awrap_succ q (by omega)]
  exact loop_again (row.length - (q + 1)) [(0, bv), (5, .slice (some ⟨T, 0, none⟩) n n), (6, mv), (7, .int .i64 i), (31, uv), (32, .int .i64 row.length), (33, .int .i64 (q + 1 : Nat))] (by omega) (by simp only [hasAll, kS1, bLookup, bMapSet, wantA, isCall, stepOp, evalO, evalL, evalP, evalM, putDst, flat, kA, kB, Nat.reduceLT, ↓reduceIte, kC, Nat.reduceEqDiff, aBuiltin, abinG, guardFree, abin, aInt, aUn, aNilCheck, retQ, retQ1, aresults, aresultL, aresult, mkF, undefV, reduceCtorEq, kD, kE, kF, kG, kH, kI, kJ, kK, aExtract, calleeOf]; simp)
   ⟨q + 1, L, mv, met, rfl, hlq, rfl, oT, leq, gm, nm, am, hmi, tI.stay hLw (by omega) (hcl met fun _ _ => rfl)⟩
 obtain ⟨hun2, _, d, hd, hd0⟩ := tI.mm u hum
 have hdb := tI.bd u d hd
 have ldu := ldT hq L u d oT hd
 have adm := gm.rl.addr (P := Try.prog) Try.underlying38 Try.underlying3 (by kernel_rfl) (k := .i64) i (by rw [nat64_length]; exact hil)
 have ldm := gm.rl.loadI (P := Try.prog) Try.underlying3 rfl i (by rw [nat64_length]; exact hil)
 rw [nat64_get hil, show met[i] = u by rw [List.getElem?_eq_some_iff] at hmi; exact hmi.2] at ldm
 have awd : awrap .i64 (d + 1) = d + 1 := awrap_i64 _ (by omega) (by omega)
 have st1 : aStore Try.prog hq 3 (.pointer (some ⟨T, w, none⟩)) (.int .i64 (d + 1)) = some (hq.put T (.cells (I64 (L.set w (d + 1))))) := by
  rw [aStore1 (P := Try.prog) (t := 3) (x := .int .i64 (d + 1)) Try.underlying3 (by kernel_rfl) oT (off := w) (by rw [I64_length, tI.len]; exact hwn) rfl rfl, I64_set]
 have wf4 : WF (hq.put T (.cells (I64 (L.set w (d + 1))))) := hwq.put _ (hwq.lt oT)
 have le4 : Le h (hq.put T (.cells (I64 (L.set w (d + 1))))) := leq.put _ nT
 have oT4 : (hq.put T (.cells (I64 (L.set w (d + 1))))).own T = some (.cells (I64 (L.set w (d + 1)))) := AHeap.own_put_eq _ _ _
 have gm4 : GI (hq.put T (.cells (I64 (L.set w (d + 1))))) mv (nat64 met) := GS.put gm _ nm
 simp only [kS1, bLookup, bMapSet, wantA, isCall, stepOp, evalO, evalL, evalP, evalM, putDst, flat, kA, kB, Nat.reduceLT, ↓reduceIte, kC, Nat.reduceEqDiff, aBuiltin, abinG, guardFree, abin, aInt, aUn, aNilCheck, retQ, retQ1, aresults, aresultL, aresult, mkF, undefV, reduceCtorEq, kD, kE, kF, kG, kH, kI, kJ, kK, aExtract, calleeOf, adq, ldq, ixT _ w hwn, ldw, c4, adm, ldm, ixT _ u hun, ldu, awd, st1]
 generalize hq.put T (.cells (I64 (L.set w (d + 1)))) = h4 at *
 obtain ⟨mv', h5, h6, e5, e6, g6, w6, l5, hf, hk⟩ := gm4.push wf4 (w : Int) (by rw [nat64_length]; omega)
 obtain ⟨l6, a6⟩ := hf h le4 am
 obtain ⟨oT6, nm6⟩ := hk T _ oT4 nm
 have hnat : nat64 met ++ [(w : Int)] = nat64 (met ++ [w]) := by simp [nat64]
 rw [hnat] at g6
 simp only [kS1, bLookup, bMapSet, wantA, isCall, stepOp, evalO, evalL, evalP, evalM, putDst, flat, kA, kB, Nat.reduceLT, ↓reduceIte, kC, Nat.reduceEqDiff, aBuiltin, abinG, guardFree, abin, aInt, aUn, aNilCheck, retQ, retQ1, aresults, aresultL, aresult, mkF, undefV, reduceCtorEq, kD, kE, kF, kG, kH, kI, kJ, kK, aExtract, calleeOf, e5, e6, awrap_succ q (by omega)]
 exact loop_again (row.length - (q + 1)) [(0, bv), (5, .slice (some ⟨T, 0, none⟩) n n), (6, mv'), (7, .int .i64 i), (31, uv), (32, .int .i64 row.length), (33, .int .i64 (q + 1 : Nat))] (by omega) (by simp only [hasAll, kS1, bLookup, bMapSet, wantA, isCall, stepOp, evalO, evalL, evalP, evalM, putDst, flat, kA, kB, Nat.reduceLT, ↓reduceIte, kC, Nat.reduceEqDiff, aBuiltin, abinG, guardFree, abin, aInt, aUn, aNilCheck, retQ, retQ1, aresults, aresultL, aresult, mkF, undefV, reduceCtorEq, kD, kE, kF, kG, kH, kI, kJ, kK, aExtract, calleeOf]; simp)
  ⟨q + 1, _, mv', met ++ [w], rfl, hlq, rfl, oT6, l6, g6, nm6, a6, by rw [List.getElem?_append_left hil]; exact hmi, tI.push hum hd haw hLw c4 (hcl _ fun j hj => List.getElem?_append_left hj)⟩
theorem d20 : decide ((20 : Int) = 0) = false := by decide
theorem d2 : decide ((2 : Int) = 0) = false := by decide
theorem Away_any (W0 : Base) (v : Value) (G : GM) (s : Int) (h : AHeap) (hg : GR h v G) :
  AC Try.prog W0 54 [v, .int .i64 s] h fun x h' => Le h h' ∧ ∃ lv e, x = .tuple #[lv, .int .i64 e] ∧
   ((¬ RightG G ∧ lv = .slice none 0 0 ∧ e = 20) ∨ (RightG G ∧ ¬ (0 ≤ s ∧ s < G.n) ∧ lv = .slice none 0 0 ∧ e = 2) ∨
    (RightG G ∧ 0 ≤ s ∧ s < G.n ∧ e = 0 ∧ ∃ L, RL isI h' lv L ∧ Far G.n.toNat G.es s.toNat L)) := by
 have hg0 := hg
 obtain ⟨gn, es⟩ := G
 obtain ⟨ev, rfl, hp⟩ := hg.open
 refine AC.vc (fn := Try.f54) (c := _) ⟨Try.func54, rfl, by decide⟩ Try.ntmps54 Try.results54 (by simp) fun hwf => ?_
 simp only [argFrame, argFrom, Nat.reduceAdd]
 obtain ⟨h1, b1, le1, wf1, -, lA⟩ := boxG (n := gn) hwf hp
 generalize h.next = B at *
 have lA1 := lA h1 (Le.refl _)
 obtain ⟨h2, e2, l2, w2, o2⟩ := alloc_f wf1 [.int .i64 s]
 have rs : RL isI h2 (.slice (some ⟨h1.next, 0, none⟩) 1 1) [s] := RL.ofI (RS.whole o2 rfl)
 simp only [kS1, bLookup, bMapSet, wantA, isCall, stepOp, evalO, evalL, evalP, evalM, putDst, flat, kA, kB, Nat.reduceLT, ↓reduceIte, kC, Nat.reduceEqDiff, aBuiltin, abinG, guardFree, abin, aInt, aUn, aNilCheck, retQ, retQ1, aresults, aresultL, aresult, mkF, undefV, reduceCtorEq, kD, kE, kF, kG, kH, kI, kJ, kK, aExtract, calleeOf, b1, lA1.1, mk1, e2]
 generalize Value.slice (some ⟨h1.next, 0, none⟩) 1 1 = sv at *
 refine KCall.intro (by simp only [kS1, bLookup, bMapSet, wantA, isCall, stepOp, evalO, evalL, evalP, evalM, putDst, flat, kA, kB, Nat.reduceLT, ↓reduceIte, kC, Nat.reduceEqDiff, aBuiltin, abinG, guardFree, abin, aInt, aUn, aNilCheck, retQ, retQ1, aresults, aresultL, aresult, mkF, undefV, reduceCtorEq, kD, kE, kF, kG, kH, kI, kJ, kK, aExtract, calleeOf] <;> rfl) ⟨Try.func61, rfl, by decide⟩ (start_any W0 _ sv ⟨gn, es⟩ [s] h2 (hg0.le (le1.trans l2)) rs (by simp)) ?_
 rintro x h3 wf3 ⟨le3, lv, e, rfl, hc⟩
 have le03 := (le1.trans l2).trans le3
 rcases hc with ⟨hnr, rfl, rfl⟩ | ⟨hr, hns, rfl, rfl⟩ | ⟨hr, hs, rfl, hrows⟩
 ·simp only [kS1, bLookup, bMapSet, wantA, isCall, stepOp, evalO, evalL, evalP, evalM, putDst, flat, kA, kB, Nat.reduceLT, ↓reduceIte, kC, Nat.reduceEqDiff, aBuiltin, abinG, guardFree, abin, aInt, aUn, aNilCheck, retQ, retQ1, aresults, aresultL, aresult, mkF, undefV, reduceCtorEq, kD, kE, kF, kG, kH, kI, kJ, kK, aExtract, calleeOf, bne, d20]
  exact ⟨le03, _, _, rfl, .inl ⟨hnr, rfl, rfl⟩⟩
 ·simp only [kS1, bLookup, bMapSet, wantA, isCall, stepOp, evalO, evalL, evalP, evalM, putDst, flat, kA, kB, Nat.reduceLT, ↓reduceIte, kC, Nat.reduceEqDiff, aBuiltin, abinG, guardFree, abin, aInt, aUn, aNilCheck, retQ, retQ1, aresults, aresultL, aresult, mkF, undefV, reduceCtorEq, kD, kE, kF, kG, kH, kI, kJ, kK, aExtract, calleeOf, bne, d2]
  exact ⟨le03, _, _, rfl, .inr (.inl ⟨hr, by simpa using hns, rfl, rfl⟩)⟩
 ·have h0 : 0 ≤ gn := hr.n0
  obtain ⟨n, rfl⟩ := Int.eq_ofNat_of_zero_le h0
  have h200 : (n : Int) ≤ 200 := hr.n1
  have h594 : es.length ≤ 594 := hr.len
  have hs' := hs s (by simp)
  simp only at hs'
  obtain ⟨s, rfl⟩ := Int.eq_ofNat_of_zero_le hs'.1
  simp only [Int.toNat_natCast] at hrows
  simp only [kS1, bLookup, bMapSet, wantA, isCall, stepOp, evalO, evalL, evalP, evalM, putDst, flat, kA, kB, Nat.reduceLT, ↓reduceIte, kC, Nat.reduceEqDiff, aBuiltin, abinG, guardFree, abin, aInt, aUn, aNilCheck, retQ, retQ1, aresults, aresultL, aresult, mkF, undefV, reduceCtorEq, kD, kE, kF, kG, kH, kI, kJ, kK, aExtract, calleeOf, bne]
  refine KCall.intro (by simp only [kS1, bLookup, bMapSet, wantA, isCall, stepOp, evalO, evalL, evalP, evalM, putDst, flat, kA, kB, Nat.reduceLT, ↓reduceIte, kC, Nat.reduceEqDiff, aBuiltin, abinG, guardFree, abin, aInt, aUn, aNilCheck, retQ, retQ1, aresults, aresultL, aresult, mkF, undefV, reduceCtorEq, kD, kE, kF, kG, kH, kI, kJ, kK, aExtract, calleeOf] <;> rfl) ⟨Try.func91, rfl, by decide⟩ (away_any W0 lv n s es h3 hrows hr.inR (by omega) (by omega) (by omega)) ?_
  rintro x h4 wf4 ⟨L, hL, hF, le4⟩
  simp only [kS1, bLookup, bMapSet, wantA, isCall, stepOp, evalO, evalL, evalP, evalM, putDst, flat, kA, kB, Nat.reduceLT, ↓reduceIte, kC, Nat.reduceEqDiff, aBuiltin, abinG, guardFree, abin, aInt, aUn, aNilCheck, retQ, retQ1, aresults, aresultL, aresult, mkF, undefV, reduceCtorEq, kD, kE, kF, kG, kH, kI, kJ, kK, aExtract, calleeOf]
  exact ⟨le03.trans le4, _, _, rfl, .inr (.inr ⟨hr, hs'.1, hs'.2, rfl, L, hL, hF⟩)⟩
end Go.Fw
