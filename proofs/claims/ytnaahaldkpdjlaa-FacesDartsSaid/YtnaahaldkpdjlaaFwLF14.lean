/- A text of the proof. -/
import Derived.Test.YtnaahaldkpdjlaaFwLF11
import Derived.Test.YtnaahaldkpdjlaaFwLBR
import Derived.Test.YtnaahaldkpdjlaaFwPla
import Derived.Test.YtnaahaldkpdjlaaFwLW8
import Derived.Test.YtnaahaldkpdjlaaFwLB14
import Derived.Test.YtnaahaldkpdjlaaFwLB10
import Derived.Test.YtnaahaldkpdjlaaFwLB3
import Derived.Test.YtnaahaldkpdjlaaFwFrame
import Derived.Test.YtnaahaldkpdjlaaFwLB18
import Derived.Test.YtnaahaldkpdjlaaFwLW4
import Derived.Test.YtnaahaldkpdjlaaFwLT7
import Derived.Test.YtnaahaldkpdjlaaFwLT4
import Derived.Test.YtnaahaldkpdjlaaFwLF4
import Derived.Test.YtnaahaldkpdjlaaFwLF6
set_option linter.unusedSimpArgs false
set_option linter.unusedVariables false
namespace Go.Fw
open Go.Proofs
set_option maxHeartbeats 16000000
set_option maxRecDepth 10000
attribute [local instance] Classical.propDecidable
theorem GI.up {h : AHeap} {v : Value} {xs : List Int} (g : GI h v xs) {i : Nat} (hi : i ≤ xs.length) : ∃ v', aSlice Try.prog 38 v (some (.int .i64 i)) none none = some v' ∧ RL isI h v' (xs.drop i) := by
 have gc := GI.rl g
 obtain ⟨hl, ⟨rfl, hn⟩ | ⟨id, c, cap, rfl, ho, ht, hc⟩⟩ := g
 ·obtain rfl : xs = [] := List.eq_nil_of_length_eq_zero hn
  obtain rfl : i = 0 := by simpa using hi
  refine ⟨.slice none 0 0, ?_, by simpa using gc⟩
  have : ¬ UNK ≤ 0 := by decide
  simp [aSlice, Try.underlying38, Try.underlying3, this, aBounds, aBound]
 ·have n1 : (0 : Int) ≤ i := by omega
  have n2 : (i : Int) ≤ xs.length := by omega
  have ts : tsize Try.prog 3 = 1 := by kernel_rfl
  have rs := (RL.cellsI gc)
  have hx : (((xs.map (Value.int .i64)).drop i).take (xs.length - i)) = (xs.drop i).map (Value.int .i64) := by
   rw [← List.map_drop, List.take_of_length_le (by simp)]
  rcases hc with rfl | ⟨rfl, hn⟩
  ·have hp := rs.part (cap' := UNK + 1) (lo := i) (hi := xs.length) hi (Nat.le_refl _) (by simp)
   rw [hx] at hp
   refine ⟨.slice (some (aadd ⟨id, 0, none⟩ i)) (xs.length - i) (UNK + 1), ?_, RL.ofI hp⟩
   simp [aSlice, Try.underlying38, Try.underlying3, ts, aBounds, aBound, n1, n2]
  ·have hno : ¬ UNK ≤ xs.length := Nat.not_le.2 (Nat.lt_of_lt_of_le hn (by decide))
   have hp := rs.part (cap' := xs.length - i) (lo := i) (hi := xs.length) hi (Nat.le_refl _) (by simp)
   rw [hx] at hp
   by_cases c : xs.length = i
   ·refine ⟨.slice (some ⟨id, 0, none⟩) 0 0, ?_, ?_⟩
    ·simp [aSlice, Try.underlying38, Try.underlying3, aBounds, aBound, n1, n2, hno, c.symm]
    ·rw [List.drop_of_length_le (by omega)]; exact RL.ofI (RS.none' (a := none) (cap := 0) rfl)
   ·refine ⟨.slice (some (aadd ⟨id, 0, none⟩ i)) (xs.length - i) (xs.length - i), ?_, RL.ofI hp⟩
    simp [aSlice, Try.underlying38, Try.underlying3, ts, aBounds, aBound, n1, n2, hno, c]
section
variable {n : Nat} {es : List Pr} {rs ts : List (List Int)}
end
end Go.Fw
namespace Go.Fw
open Go.Proofs
attribute [local irreducible] KO4 KO3 KO2 KO1 KO KN KX KE VK KCond KDraw KCall KLoop
set_option maxHeartbeats 16000000
set_option maxRecDepth 10000
attribute [local instance] Classical.propDecidable
attribute [local irreducible] facesM PlaneM besM
theorem rlG_rl {h : AHeap} {v : Value} {rs : List (List Int)} (r : RL isG h v rs) : RL (RL isI) h v rs := r.map fun _ _ g => g.rl
theorem dart_len {n : Nat} {es : List Pr} {rs : List (List Int)} (hr : RightG ⟨(n : Int), es⟩) (G : RotG n es rs) : (facesM n rs).length ≤ 40000 ∧ ∀ f ∈ facesM n rs, f.length ≤ 40000 := by
 have h200 : (n : Int) ≤ 200 := hr.n1
 refine ⟨facesM_len (n := n) (es := es) (by omega), fun f hf => ?_⟩
 have R := G.isRot hr.inR hr.asc
 unfold facesM at hf
 rw [List.mem_map] at hf
 obtain ⟨g, hg, rfl⟩ := hf
 rw [facesF, List.mem_map] at hg
 obtain ⟨d, hd, rfl⟩ := hg
 have hd1 := (mem_hdsF R).1 hd
 have hdm : d ∈ dl n (rotN rs) := (mem_dl R).2 hd1.1
 have h1 := sub_len (orbL_nodup (phi_pm R) hdm) (B := ddl n (rotN rs)) fun z hz => (mem_ddl R).2 ((mem_dl R).1 ((phi_pm R).orb_mem hdm ((mem_orbL (phi_pm R) hdm).1 hz)))
 have h2 := rowsD_len n (rotN rs) n
 rw [rowsD_all] at h2
 have h3 : n * n ≤ 200 * 200 := Nat.mul_le_mul (by omega) (by omega)
 have h4 : (nat64 (faceF (rotN rs) d)).length = (orbL (fph (rotN rs)) d).length := by rw [nat64_length, faceF, List.length_map]
 omega
end Go.Fw
namespace Go.Fw
open Go.Proofs Go.ChangeShapes Go.WideShapes Go.RowKit
set_option maxRecDepth 100000
section
variable {H : Type} {enc : TypeId × Value → H} {W : World}
theorem rd_u16 {P : Program} {t : TypeId} (ht : P.underlying t = some (.int .u16)) : Rd enc P W t isH := by
 intro fuel cs x h
 obtain ⟨n, rfl, _, hw⟩ := DataW.trod_int ht h
 refine ⟨_, .int .u16 n, n, rfl, rfl, rfl, ?_⟩
 simp [Lit.wf, IntKind.min, IntKind.max, IntKind.signed, IntKind.bits] at hw
 omega
theorem open_u16s {v : Value} {d : DataW H} {ps : List MemPlace} {b0 : Nat} (hval : Value.okWide Try.prog W .any b0 50 v) (h : DataW.Trod enc Try.prog W 0 (fun _ => true) true 50 v d ps) (m : CMap) :
  ∃ u xs, VR 0 m u v ∧ RL isH (ext0 W) u xs := by
 obtain ⟨fuel, h⟩ := h
 obtain ⟨a, len, cap, rfl⟩ := okWide_slice Try.underlying50 hval
 obtain ⟨r', r, R, e0, t0, q0⟩ := rd_slice Try.underlying50 (by kernel_rfl) (rd_u16 Try.underlying110) _ _ _ h
 simp [Value.cells] at e0
 subst e0
 exact ⟨r, R, VR.of_tag t0, q0⟩
end
end Go.Fw
namespace Go.Fw
set_option maxHeartbeats 4000000
set_option maxRecDepth 10000
attribute [local instance] Classical.propDecidable
theorem dl_len {n : Nat} {s : Nat → List Nat} (S : IsRot n s) {l : List Pr} (nd : l.Nodup) (hl : InR n l) (h : ∀ v w, w ∈ s v ↔ adj l v w) : (dl n s).length = 2 * l.length := by
 have key : ∀ l : List Pr, (l.flatMap fun p => [(p.1.toNat, p.2.toNat), (p.2.toNat, p.1.toNat)]).length = 2 * l.length := by
  intro l
  induction l with
  | nil => rfl
  | cons p l ih => rw [List.flatMap_cons, List.length_append, ih]; simp; omega
 rw [← key l]
 refine (perm_of_mem (dl_nodup S) ?_ fun d => ?_).length_eq
 ·rw [List.nodup_iff_pairwise_ne, List.pairwise_flatMap]
  refine ⟨fun p hp => ?_, ?_⟩
  ·have := hl p hp
   simp only [List.pairwise_cons, List.mem_singleton, forall_eq, List.not_mem_nil, false_implies, implies_true, List.Pairwise.nil, and_true]
   intro e; injection e with e1 e2; omega
  ·rw [List.nodup_iff_pairwise_ne] at nd
   refine List.Pairwise.imp_of_mem (fun {p q} hp hq hne => ?_) nd
   have h1 := hl p hp
   have h2 := hl q hq
   have hne' : p.1 ≠ q.1 ∨ p.2 ≠ q.2 := Classical.byContradiction fun hc => hne (Prod.ext (by omega) (by omega))
   intro x hx y hy e
   subst e
   simp only [List.mem_cons, List.not_mem_nil, or_false] at hx hy
   rcases hx with rfl | rfl <;> rcases hy with e | e <;> (injection e with e1 e2; omega)
 ·rw [mem_dl S, h, List.mem_flatMap]
  obtain ⟨v, w⟩ := d
  simp only [adj, List.mem_cons, List.not_mem_nil, or_false, Prod.mk.injEq]
  constructor
  ·rintro (h | h)
   ·exact ⟨_, h, .inl ⟨by simp, by simp⟩⟩
   ·exact ⟨_, h, .inr ⟨by simp, by simp⟩⟩
  ·rintro ⟨p, hp, ⟨rfl, rfl⟩ | ⟨rfl, rfl⟩⟩
   ·have := hl p hp
    left
    rw [Int.toNat_of_nonneg (by omega), Int.toNat_of_nonneg (by omega)]; exact hp
   ·have := hl p hp
    right
    rw [Int.toNat_of_nonneg (by omega), Int.toNat_of_nonneg (by omega)]; exact hp
section
variable {n : Nat} {es : List Pr} {rs : List (List Int)} {a : Nat}
end
end Go.Fw
namespace Go.Fw
set_option maxHeartbeats 4000000
set_option maxRecDepth 10000
attribute [local instance] Classical.propDecidable
section
variable {n : Nat} {es : List Pr} {rs : List (List Int)}
theorem faces_sum (R : IsRot n (rotN rs)) : ((facesM n rs).map List.length).sum = (dl n (rotN rs)).length := by
 have p := phi_pm R
 have e : ((facesM n rs).map List.length).sum = ((hdsF n (rotN rs)).flatMap fun d => orbL (fph (rotN rs)) d).length := by
  unfold facesM facesF
  rw [List.map_map, List.map_map, List.length_flatMap]
  congr 1
  refine List.map_congr_left fun d _ => ?_
  simp only [Function.comp, nat64_length, faceF, List.length_map]
 rw [e]
 refine (perm_of_mem ?_ (dl_nodup R) fun d => ?_).length_eq
 ·rw [List.nodup_iff_pairwise_ne, List.pairwise_flatMap]
  refine ⟨fun d hd => (List.nodup_iff_pairwise_ne).1 (orbL_nodup p ((mem_dl R).2 ((mem_hdsF R).1 hd).1)), ?_⟩
  have nd : (hdsF n (rotN rs)).Nodup := (ddl_nodup n (rotN rs)).sublist List.filter_sublist
  rw [List.nodup_iff_pairwise_ne] at nd
  refine List.Pairwise.imp_of_mem (fun {d q} hd hq hne => ?_) nd
  intro x hx y hy exy
  subst exy
  have h1 := (mem_dl R).2 ((mem_hdsF R).1 hd).1
  have h2 := (mem_dl R).2 ((mem_hdsF R).1 hq).1
  have o1 := (mem_orbL p h1).1 hx
  have o2 := (mem_orbL p h2).1 hy
  exact hne (hd_uniq R hd hq (o1.trans (p.orb_symm h2 o2)))
 ·rw [List.mem_flatMap]
  constructor
  ·rintro ⟨q, hq, hm⟩
   have h2 := (mem_dl R).2 ((mem_hdsF R).1 hq).1
   exact p.orb_mem h2 ((mem_orbL p h2).1 hm)
  ·intro hd
   obtain ⟨q, hq, ho⟩ := hd_ex R hd
   have h2 := (mem_dl R).2 ((mem_hdsF R).1 hq).1
   exact ⟨q, hq, (mem_orbL p h2).2 (p.orb_symm hd ho)⟩
end
end Go.Fw
namespace Go.Fw
open Go.Proofs
set_option maxHeartbeats 16000000
set_option maxRecDepth 10000
attribute [local instance] Classical.propDecidable
def RevK (xs ys : List Int) (i : Nat) : Prop := ys.length = xs.length ∧ ∀ p, p < xs.length → ys[p]? = if p < i ∨ xs.length - i ≤ p then xs[xs.length - 1 - p]? else xs[p]?
theorem RevK.zero (xs : List Int) : RevK xs xs 0 := ⟨rfl, fun p hp => by rw [if_neg (by omega)]⟩
theorem RevK.step {xs ys : List Int} {i : Nat} (R : RevK xs ys i) (h : 2 * i + 1 < xs.length) (h1 : i < ys.length) (h2 : xs.length - 1 - i < ys.length) :
  RevK xs ((ys.set i ys[xs.length - 1 - i]).set (xs.length - 1 - i) ys[i]) (i + 1) := by
 refine ⟨by simp [R.1], fun p hp => ?_⟩
 have e1 : ys[xs.length - 1 - i]? = xs[xs.length - 1 - i]? := by rw [R.2 _ (by omega), if_neg (by omega)]
 have e2 : ys[i]? = xs[i]? := by rw [R.2 _ (by omega), if_neg (by omega)]
 rw [List.getElem?_eq_getElem h2] at e1
 rw [List.getElem?_eq_getElem h1] at e2
 by_cases c1 : p = xs.length - 1 - i
 ·subst c1
  rw [List.getElem?_set_self (by simp; omega), if_pos (by omega), e2]; congr 1; omega
 ·rw [List.getElem?_set_ne (Ne.symm c1)]
  by_cases c2 : p = i
  ·subst c2
   rw [List.getElem?_set_self h1, if_pos (by omega), e1]
  ·rw [List.getElem?_set_ne (Ne.symm c2), R.2 p hp]
   by_cases c3 : p < i ∨ xs.length - i ≤ p
   ·rw [if_pos c3, if_pos (by omega)]
   ·rw [if_neg c3, if_neg (by omega)]
end Go.Fw
namespace Go.Fw
open Go.Proofs
set_option maxHeartbeats 4000000
set_option maxRecDepth 10000
attribute [local instance] Classical.propDecidable
section
variable {n : Nat} {es : List Pr} {rs : List (List Int)}
theorem face_info (hr : InR n es) (ha : Asc es) (G : RotG n es rs) {p : Nat} (hp : p < (facesM n rs).length) : ∃ d : Dart, (hdsF n (rotN rs))[p]? = some d ∧ d ∈ dl n (rotN rs) ∧ ((facesM n rs)[p]).length = ordr (fph (rotN rs)) d ∧ 2 ≤ ordr (fph (rotN rs)) d ∧
  ∀ (j : Nat) (hj : j % ((facesM n rs)[p]).length < ((facesM n rs)[p]).length), ((facesM n rs)[p])[j % ((facesM n rs)[p]).length] = (((it (fph (rotN rs)) j d).1 : Nat) : Int) := by
 have R := G.isRot hr ha
 have hp' : p < (hdsF n (rotN rs)).length := by rw [facesM, facesF, List.length_map, List.length_map] at hp; exact hp
 have hd := List.getElem_mem hp'
 have hdm : (hdsF n (rotN rs))[p] ∈ dl n (rotN rs) := (mem_dl R).2 ((mem_hdsF R).1 hd).1
 have e : (facesM n rs)[p] = nat64 (faceF (rotN rs) (hdsF n (rotN rs))[p]) := by simp [facesM, facesF]
 have hl : ((facesM n rs)[p]).length = ordr (fph (rotN rs)) (hdsF n (rotN rs))[p] := by rw [e, nat64_length, faceF, List.length_map, orbL_len]
 refine ⟨_, List.getElem?_eq_getElem hp', hdm, hl, ordr_two R hdm, fun j hj => ?_⟩
 have h1 : ((facesM n rs)[p])[j % ((facesM n rs)[p]).length]? = some (((it (fph (rotN rs)) j (hdsF n (rotN rs))[p]).1 : Nat) : Int) := by
  rw [hl, e, ← face_list, it_mod (phi_pm R) hdm j, List.getElem?_map, List.getElem?_range (by rw [hl] at hj; exact hj)]; rfl
 rw [List.getElem?_eq_getElem hj] at h1
 injection h1
theorem hds_asc (n : Nat) (r : Nat → List Nat) : (hdsF n r).Pairwise ltD := (ddl_asc n r).filter _
theorem hds_uniq {r : Nat → List Nat} (R : IsRot n r) {p q : Nat} {d e x : Dart} (hp : (hdsF n r)[p]? = some d) (hq : (hdsF n r)[q]? = some e) (h1 : Orb (fph r) d x) (h2 : Orb (fph r) e x) : p = q := by
 have hd := List.mem_of_getElem? hp
 have he := List.mem_of_getElem? hq
 have hem : e ∈ dl n r := (mem_dl R).2 ((mem_hdsF R).1 he).1
 obtain rfl := hd_uniq R hd he (h1.trans ((phi_pm R).orb_symm hem h2))
 obtain ⟨a1, b1⟩ := List.getElem?_eq_some_iff.1 hp
 obtain ⟨a2, b2⟩ := List.getElem?_eq_some_iff.1 hq
 have nd := (List.nodup_iff_pairwise_ne).2 ((hds_asc n r).imp fun h e => by subst e; exact ltD_irr _ h)
 rw [List.nodup_iff_pairwise_ne, List.pairwise_iff_getElem] at nd
 rcases Nat.lt_trichotomy p q with c | c | c
 ·exact absurd (b1.trans b2.symm) (nd p q a1 a2 c)
 ·exact c
 ·exact absurd (b2.trans b1.symm) (nd q p a2 a1 c)
end
end Go.Fw
namespace Go.Fw
open Go.Proofs
attribute [local irreducible] KO4 KO3 KO2 KO1 KO KN KX KE VK KCond KDraw KCall KLoop
set_option maxHeartbeats 16000000
set_option maxRecDepth 10000
attribute [local instance] Classical.propDecidable
attribute [local irreducible] facesM PlaneM besM
def OfP (n : Nat) (r : Nat → List Nat) (m : List (Pr × Int)) (i : Nat) : Prop := ∀ (t : Nat) (d : Dart), t < i → (hdsF n r)[t]? = some d → ∀ e, Orb (fph r) d e → lookK m (castD e) = some (t : Int)
theorem OfP.zero (n : Nat) (r : Nat → List Nat) : OfP n r [] 0 := fun t _ h => absurd h (Nat.not_lt_zero t)
theorem OfP.put {n : Nat} {r : Nat → List Nat} (R : IsRot n r) {m : List (Pr × Int)} {i : Nat} (O : OfP n r m i) {d : Dart} (hi : (hdsF n r)[i]? = some d) (j : Nat) (v : Int) : OfP n r (setK m (castD (it (fph r) j d)) v) i := fun t e ht he x hx => by
 rw [lookK_set, if_neg]
 ·exact O t e ht he x hx
 ·intro q
  have := castD_inj q
  have := hds_uniq R hi he ⟨j, this⟩ hx
  omega
theorem OfP.next {n : Nat} {r : Nat → List Nat} (R : IsRot n r) {m : List (Pr × Int)} {i : Nat} (O : OfP n r m i) {d : Dart} (hi : (hdsF n r)[i]? = some d) (hj : ∀ s, s < ordr (fph r) d → lookK m (castD (it (fph r) s d)) = some (i : Int)) : OfP n r m (i + 1) := fun t e ht he x hx => by
 by_cases c : t = i
 ·subst c
  rw [hi] at he; injection he with he; subst he
  have hdm : d ∈ dl n r := (mem_dl R).2 ((mem_hdsF R).1 (List.mem_of_getElem? hi)).1
  obtain ⟨s, rfl⟩ := hx
  rw [it_mod (phi_pm R) hdm]
  exact hj _ (Nat.mod_lt _ (ordr_spec (phi_pm R) hdm).1)
 ·exact O t e (by omega) he x hx
end Go.Fw
namespace Go.Fw
open Go.Proofs
attribute [local irreducible] KO4 KO3 KO2 KO1 KO KN KX KE VK KCond KDraw KCall KLoop
set_option maxHeartbeats 16000000
set_option maxRecDepth 10000
attribute [local instance] Classical.propDecidable
attribute [local irreducible] facesM PlaneM besM
theorem less45_any (W0 : Base) (a b : Pr) (h : AHeap) : AC Try.prog W0 45 [valP a, valP b] h fun x h' => x = .bool (decide (a.1 < b.1 ∨ a.1 = b.1 ∧ a.2 < b.2)) ∧ Le h h' := by
 refine AC.vc (fn := Try.f45) (c := _) ⟨Try.func45, rfl, by decide⟩ Try.ntmps45 Try.results45 (by simp) fun hwf => ?_
 simp only [argFrame, argFrom, Nat.reduceAdd]
 obtain ⟨h1, e1, l1, w1, o1⟩ := alloc_f hwf (cellsP a)
 obtain ⟨h2, e2, l2, w2, o2⟩ := alloc_f w1 (cellsP b)
 have oa := l2.own _ _ o1
 have a0 := own0 oa
 have a1 := own1 oa
 have b0 := own0 o2
 have b1 := own1 o2
 by_cases c1 : a.1 < b.1
 ·have d1 : decide (a.1 < b.1) = true := decide_eq_true c1
  have dd : decide (a.1 < b.1 ∨ a.1 = b.1 ∧ a.2 < b.2) = true := decide_eq_true (.inl c1)
  simp only [kS1, bLookup, bMapSet, wantA, isCall, stepOp, evalO, evalL, evalP, evalM, putDst, flat, kA, kB, Nat.reduceLT, ↓reduceIte, kC, Nat.reduceEqDiff, aBuiltin, abinG, guardFree, abin, aInt, aUn, aNilCheck, retQ, retQ1, aresults, aresultL, aresult, mkF, undefV, reduceCtorEq, kD, kE, kF, kG, kH, kI, kJ, kK, aExtract, calleeOf, box42, e1, e2, pa0, pa1, aadd, Nat.zero_add, a0, b0, d1, dd]
  exact ⟨trivial, l1.trans l2⟩
 ·have d1 : decide (a.1 < b.1) = false := decide_eq_false c1
  by_cases c2 : a.1 = b.1
  ·have d2 : decide (a.1 = b.1) = true := decide_eq_true c2
   have dd : decide (a.1 < b.1 ∨ a.1 = b.1 ∧ a.2 < b.2) = decide (a.2 < b.2) := by
    rw [decide_eq_decide]; exact ⟨fun h => h.elim (fun h => absurd h c1) And.right, fun h => .inr ⟨c2, h⟩⟩
   simp only [kS1, bLookup, bMapSet, wantA, isCall, stepOp, evalO, evalL, evalP, evalM, putDst, flat, kA, kB, Nat.reduceLT, ↓reduceIte, kC, Nat.reduceEqDiff, aBuiltin, abinG, guardFree, abin, aInt, aUn, aNilCheck, retQ, retQ1, aresults, aresultL, aresult, mkF, undefV, reduceCtorEq, kD, kE, kF, kG, kH, kI, kJ, kK, aExtract, calleeOf, box42, e1, e2, pa0, pa1, aadd, Nat.zero_add, a0, b0, a1, b1, d1, d2, dd]
   exact ⟨trivial, l1.trans l2⟩
  ·have d2 : decide (a.1 = b.1) = false := decide_eq_false c2
   have dd : decide (a.1 < b.1 ∨ a.1 = b.1 ∧ a.2 < b.2) = false := decide_eq_false fun h => h.elim c1 fun h => c2 h.1
   simp only [kS1, bLookup, bMapSet, wantA, isCall, stepOp, evalO, evalL, evalP, evalM, putDst, flat, kA, kB, Nat.reduceLT, ↓reduceIte, kC, Nat.reduceEqDiff, aBuiltin, abinG, guardFree, abin, aInt, aUn, aNilCheck, retQ, retQ1, aresults, aresultL, aresult, mkF, undefV, reduceCtorEq, kD, kE, kF, kG, kH, kI, kJ, kK, aExtract, calleeOf, box42, e1, e2, pa0, pa1, aadd, Nat.zero_add, a0, b0, a1, b1, d1, d2, dd]
   exact ⟨trivial, l1.trans l2⟩
def SeenP (n : Nat) (r : Nat → List Nat) (m : List (Pr × Int)) (M : Dart → Prop) : Prop := ∀ e ∈ dl n r, (lookK m (castD e) = none ∧ ¬ M e) ∨ (lookK m (castD e) = some 1 ∧ M e)
theorem setK_new {l : List (Pr × Int)} {k : Pr} {v : Int} (h : lookK l k = none) : (setK l k v).length = l.length + 1 := by
 rcases setK_at l k v with ⟨_, h2⟩ | ⟨j, b, h1, _⟩
 ·rw [h2]; simp
 ·rw [h] at h1; cases h1
theorem SeenP.put {n : Nat} {r : Nat → List Nat} {m : List (Pr × Int)} {M M' : Dart → Prop} (S : SeenP n r m M) {d : Dart} (hd : d ∈ dl n r) (hn : ¬ M d) (hM : ∀ e, M' e ↔ M e ∨ e = d) : SeenP n r (setK m (castD d) 1) M' ∧ (setK m (castD d) 1).length = m.length + 1 := by
 refine ⟨fun e he => ?_, ?_⟩
 ·rw [lookK_set]
  by_cases c : castD d = castD e
  ·rw [if_pos c]; exact .inr ⟨rfl, (hM e).2 (.inr (castD_inj c).symm)⟩
  ·rw [if_neg c]
   rcases S e he with ⟨h1, h2⟩ | ⟨h1, h2⟩
   ·exact .inl ⟨h1, fun q => ((hM e).1 q).elim h2 fun q => c (by rw [q])⟩
   ·exact .inr ⟨h1, (hM e).2 (.inl h2)⟩
 ·rcases S d hd with ⟨h1, _⟩ | ⟨_, h2⟩
  ·exact setK_new h1
  ·exact absurd h2 hn
def Met2 (n : Nat) (r : Nat → List Nat) (p : Nat) (d : Dart) (i : Nat) (e : Dart) : Prop := (∃ q x, q < p ∧ (hdsF n r)[q]? = some x ∧ Orb (fph r) x e) ∨ ∃ s, s < i ∧ it (fph r) s d = e
theorem Met2.fin {n : Nat} {r : Nat → List Nat} (R : IsRot n r) {p : Nat} {d d' : Dart} (hp : (hdsF n r)[p]? = some d) (e : Dart) : Met2 n r p d (ordr (fph r) d) e ↔ Met2 n r (p + 1) d' 0 e := by
 have hdm : d ∈ dl n r := (mem_dl R).2 ((mem_hdsF R).1 (List.mem_of_getElem? hp)).1
 constructor
 ·rintro (⟨q, x, h1, h2, h3⟩ | ⟨s, h1, h2⟩)
  ·exact .inl ⟨q, x, by omega, h2, h3⟩
  ·exact .inl ⟨p, d, by omega, hp, s, h2⟩
 ·rintro (⟨q, x, h1, h2, h3⟩ | ⟨s, h1, h2⟩)
  ·by_cases c : q = p
   ·subst c
    rw [hp] at h2; injection h2 with h2; subst h2
    obtain ⟨k, rfl⟩ := h3
    refine .inr ⟨k % ordr (fph r) d, Nat.mod_lt _ (ordr_spec (phi_pm R) hdm).1, ?_⟩
    rw [← it_mod (phi_pm R) hdm]
   ·exact .inl ⟨q, x, by omega, h2, h3⟩
  ·omega
theorem Met2.no {n : Nat} {r : Nat → List Nat} (R : IsRot n r) {p : Nat} {d : Dart} (hp : (hdsF n r)[p]? = some d) {i : Nat} (hi : i < ordr (fph r) d) : ¬ Met2 n r p d i (it (fph r) i d) := by
 have hdm : d ∈ dl n r := (mem_dl R).2 ((mem_hdsF R).1 (List.mem_of_getElem? hp)).1
 rintro (⟨q, x, h1, h2, h3⟩ | ⟨s, h1, h2⟩)
 ·have := hds_uniq R h2 hp h3 ⟨i, rfl⟩
  omega
 ·exact it_first (phi_pm R) hdm hi h1 h2
theorem Met2.succ {n : Nat} {r : Nat → List Nat} {p : Nat} {d : Dart} {i : Nat} (e : Dart) : Met2 n r p d (i + 1) e ↔ Met2 n r p d i e ∨ e = it (fph r) i d := by
 constructor
 ·rintro (h | ⟨s, h1, h2⟩)
  ·exact .inl (.inl h)
  ·by_cases c : s = i
   ·subst c; exact .inr h2.symm
   ·exact .inl (.inr ⟨s, by omega, h2⟩)
 ·rintro ((h | ⟨s, h1, h2⟩) | h)
  ·exact .inl h
  ·exact .inr ⟨s, by omega, h2⟩
  ·exact .inr ⟨i, by omega, h.symm⟩
end Go.Fw
namespace Go.Fw
open Go.Proofs
attribute [local irreducible] KO4 KO3 KO2 KO1 KO KN KX KE VK KCond KDraw KCall KLoop
set_option maxHeartbeats 16000000
set_option maxRecDepth 10000
def Once (xs : List Int) (y : Int) (i : Nat) : Prop := xs[i]? = some y ∧ ∀ j : Nat, xs[j]? = some y → j = i
end Go.Fw
namespace Go.Fw
open Go.Proofs
attribute [local irreducible] KO4 KO3 KO2 KO1 KO KN KX KE VK KCond KDraw KCall KLoop
set_option maxHeartbeats 16000000
set_option maxRecDepth 10000
attribute [local instance] Classical.propDecidable
section
variable {n : Nat} {es : List Pr} {rs : List (List Int)}
theorem once_of_nodup {xs : List Int} (nd : xs.Nodup) {y : Int} (h : y ∈ xs) : ∃ i, Once xs y i := by
 obtain ⟨i, hi⟩ := List.mem_iff_getElem?.1 h
 refine ⟨i, hi, fun j hj => ?_⟩
 obtain ⟨a1, b1⟩ := List.getElem?_eq_some_iff.1 hi
 obtain ⟨a2, b2⟩ := List.getElem?_eq_some_iff.1 hj
 rw [List.nodup_iff_pairwise_ne, List.pairwise_iff_getElem] at nd
 rcases Nat.lt_trichotomy i j with c | c | c
 ·exact absurd (b1.trans b2.symm) (nd i j a1 a2 c)
 ·exact c.symm
 ·exact absurd (b2.trans b1.symm) (nd j i a2 a1 c)
end
end Go.Fw
namespace Go.Fw
open Go.Proofs
attribute [local irreducible] KO4 KO3 KO2 KO1 KO KN KX KE VK KCond KDraw KCall KLoop
set_option maxHeartbeats 16000000
set_option maxRecDepth 10000
attribute [local instance] Classical.propDecidable
theorem RotG.nodup {n : Nat} {es : List Pr} {rs : List (List Int)} (hr : InR n es) (ha : Asc es) (G : RotG n es rs) {v : Nat} (hv : v < n) : (rs.getD v []).Nodup :=
 (G.perm v hv).nodup_iff.2 (List.nodup_iff_pairwise_ne.2 ((besM_asc es hr ha v).imp fun h => by omega))
theorem beh_eq {n : Nat} {es : List Pr} {rs : List (List Int)} (hr : InR n es) (ha : Asc es) (G : RotG n es rs) {a b : Nat} (hd : b ∈ rotN rs a) :
  b < n ∧ ∃ i, Once (rs.getD b []) (a : Int) i ∧ ∀ hm : (i + 1) % (rs.getD b []).length < (rs.getD b []).length, (rs.getD b [])[(i + 1) % (rs.getD b []).length] = (((fph (rotN rs) (a, b)).2 : Nat) : Int) := by
 have R := G.isRot hr ha
 have hb := R.sy _ _ hd
 have hbn := R.lt _ _ hb
 refine ⟨hbn, ?_⟩
 obtain ⟨i, hi⟩ := List.mem_iff_getElem?.1 hb
 obtain ⟨hil, hie⟩ := List.getElem?_eq_some_iff.1 hi
 have hl : (rotN rs b).length = (rs.getD b []).length := by rw [rotN, List.length_map]
 obtain ⟨hj, ej⟩ := G.row hr b (j := i) (by omega)
 have hx : (rs.getD b [])[i]? = some (a : Int) := by rw [List.getElem?_eq_getElem (by omega), ej, hie]
 obtain ⟨q, hq⟩ := once_of_nodup (G.nodup hr ha hbn) (List.mem_of_getElem? hx)
 obtain rfl := hq.2 i hx
 refine ⟨i, hq, fun hm => ?_⟩
 obtain ⟨hj2, ej2⟩ := G.row hr b hm
 rw [ej2]
 congr 1
 have := nx_idx (R.nd b) hil
 rw [hie] at this
 rw [fph]
 simp only [this, hl]
theorem row_len {n : Nat} {es : List Pr} {rs : List (List Int)} (hr : RightG ⟨(n : Int), es⟩) (G : RotG n es rs) {v : Nat} (hv : v < n) : (rs.getD v []).length ≤ 100000 := by
 have h1 := row_small hr.inR hr.asc G hv
 have h2 : (n : Int) ≤ 200 := hr.n1
 omega
end Go.Fw
