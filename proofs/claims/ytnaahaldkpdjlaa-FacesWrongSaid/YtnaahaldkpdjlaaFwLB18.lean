/- A text of the proof. -/
import Derived.Test.YtnaahaldkpdjlaaFwLB14
import Derived.Test.YtnaahaldkpdjlaaFwLW8
import Derived.Test.YtnaahaldkpdjlaaFwLW4
import Derived.Test.YtnaahaldkpdjlaaFwLZ10
import Derived.Test.YtnaahaldkpdjlaaFwLT7
import Derived.Test.YtnaahaldkpdjlaaFwPla
set_option linter.unusedSimpArgs false
set_option linter.unusedVariables false
namespace Go.Fw
open Go.Proofs
attribute [local irreducible] KO4 KO3 KO2 KO1 KO KN KX KE VK KCond KDraw KCall KLoop
set_option maxHeartbeats 8000000
set_option maxRecDepth 10000
theorem newVar {h : AHeap} (hw : WF h) {t : TypeId} {d : TypeDesc} {z x : Value} (ha : ∀ g : AHeap, aAlloc Try.prog g t = some (.pointer (some ⟨g.next, 0, none⟩), g.alloc (.cells [z]))) (hu : Try.prog.underlying t = some d) (hs : tsize Try.prog t = 1) (hx : x.cells = #[x]) (h1 : x.oneCell' = true) :
  ∃ g1 g2, aAlloc Try.prog h t = some (.pointer (some ⟨h.next, 0, none⟩), g1) ∧ aStore Try.prog g1 t (.pointer (some ⟨h.next, 0, none⟩)) x = some g2 ∧ Le h g2 ∧ WF g2 ∧ g2.own h.next = some (.cells [x]) := by
 obtain ⟨g1, e1, l1, w1, o1⟩ := alloc_f hw [z]
 have nw : h.own h.next = none := (Le.refl h).next hw (Nat.le_refl _)
 refine ⟨g1, _, by rw [ha, e1], aStore1 hu hs o1 (by simp) hx h1, l1.put _ nw, w1.put _ (w1.lt o1), AHeap.own_put_eq _ _ _⟩
end Go.Fw
namespace Go.Fw
open Go.Proofs
set_option maxHeartbeats 4000000
set_option maxRecDepth 10000
inductive Gw (es web : List Pr) (e : Pr) : Nat → Prop
 | base {i : Nat} : es[i]? = some e → Gw es web e i
 | step {i k : Nat} {p q : Pr} : Gw es web e k → es[i]? = some p → es[k]? = some q → meetB p q web = true → Gw es web e i
def selM (es : List Pr) (S : List Bool) : Nat → List Pr
  | 0 => []
  | i + 1 => match es[i]? with
    | some p => if S.getD i false = true then selM es S i ++ [p] else selM es S i
    | none => selM es S i
theorem selM_length (es : List Pr) (S : List Bool) (i : Nat) : (selM es S i).length ≤ i := by
 induction i with
 | zero => simp [selM]
 | succ i ih =>
  simp only [selM]
  split
  ·split
   ·simp; omega
   ·omega
  ·omega
structure GI1 (es web : List Pr) (e : Pr) (S : List Bool) : Prop where
 len : S.length = es.length
 ok : ∀ i, S[i]? = some true → Gw es web e i
def Cl (es web : List Pr) (e : Pr) (S : List Bool) (i : Nat) : Prop := ∀ p, es[i]? = some p → S[i]? = some false → p ≠ e ∧ ∀ (k : Nat) q, es[k]? = some q → S[k]? = some true → meetB p q web = false
theorem GI1.full {es web : List Pr} {e : Pr} {S : List Bool} (g : GI1 es web e S) (h : ∀ i, i < es.length → Cl es web e S i) (i : Nat) : S[i]? = some true ↔ Gw es web e i := by
 refine ⟨g.ok i, fun w => ?_⟩
 have not_f : ∀ i p, es[i]? = some p → S[i]? = some true ∨ S[i]? = some false := fun i p hp => by
  have := getElem?_of (show i < S.length by rw [g.len]; exact (List.getElem?_eq_some_iff.1 hp).1)
  rw [this]; cases S[i]'(by rw [g.len]; exact (List.getElem?_eq_some_iff.1 hp).1) <;> simp
 induction w with
 | base hb =>
  rcases not_f _ _ hb with h1 | h1
  ·exact h1
  ·exact absurd rfl (h _ (List.getElem?_eq_some_iff.1 hb).1 _ hb h1).1
 | step _ hp hq hm ih =>
  rcases not_f _ _ hp with h1 | h1
  ·exact h1
  ·have := (h _ (List.getElem?_eq_some_iff.1 hp).1 _ hp h1).2 _ _ hq ih
   rw [hm] at this; cases this
end Go.Fw
namespace Go.Fw
open Go.Proofs
set_option maxHeartbeats 4000000
set_option maxRecDepth 10000
def rfeet (web l : List Pr) (n : Nat) : List Nat := (List.range n).filter fun v => onE web (v : Int) && onE l (v : Int)
structure SelP (es web : List Pr) (e : Pr) (S : List Bool) : Prop where
 len : S.length = es.length
 iff : ∀ j, S[j]? = some true ↔ Gw es web e j
inductive RO (es web : List Pr) (n : Nat) : Nat → List FM → List Pr → Prop
  | nil : RO es web n 0 [] []
  | skip {i : Nat} {fs : List FM} {done : List Pr} {p : Pr} : RO es web n i fs done → es[i]? = some p → (p ∈ web ∨ p ∈ done) → RO es web n (i + 1) fs done
  | take {i : Nat} {fs : List FM} {done : List Pr} {p : Pr} {S : List Bool} : RO es web n i fs done → es[i]? = some p → p ∉ web → p ∉ done → SelP es web p S →
      RO es web n (i + 1) (fs ++ [⟨selM es S es.length, nat64 (rfeet web (selM es S es.length) n)⟩]) (done ++ selM es S es.length)
theorem RO.len {es web : List Pr} {n i : Nat} {fs : List FM} {done : List Pr} (r : RO es web n i fs done) : done.length ≤ i * es.length ∧ fs.length ≤ i := by
 induction r with
 | nil => simp
 | skip _ _ _ ih => rw [Nat.succ_mul]; omega
 | @take i fs done p S _ _ _ _ _ ih =>
  have := selM_length es S es.length
  simp only [List.length_append, List.length_cons, List.length_nil, Nat.succ_mul]; omega
structure FG (b0 h : AHeap) (ov dv : Value) (fs : List FM) (done : List Pr) : Prop where
 ex : ∃ (f : AHeap) (c : List Value), GS 2 h ov fs.length c ∧ c.all (·.oneCell') = true ∧ Le b0 f ∧ Le f h ∧ Apart f ov ∧ Apart f dv ∧
  ∀ (i : Nat) x, fs[i]? = some x → ∃ a b, c[i * 2]? = some a ∧ c[i * 2 + 1]? = some b ∧ PR f a x.edges ∧ RL isI f b x.feet
 gd : GP h dv done
 ne : ∀ b, blk ov = some b → blk dv ≠ some b
theorem FG.le {b0 h : AHeap} {ov dv : Value} {fs : List FM} {done : List Pr} (r : FG b0 h ov dv fs done) : Le b0 h := by
 obtain ⟨f, c, _, _, l1, l2, _⟩ := r.ex; exact l1.trans l2
theorem FG.up {b0 h h' : AHeap} {ov dv : Value} {fs : List FM} {done : List Pr} (r : FG b0 h ov dv fs done) (e : Le h h') : FG b0 h' ov dv fs done := by
 obtain ⟨⟨f, c, g, c1, l1, l2, r⟩, gd, ne⟩ := r
 exact ⟨⟨f, c, g.le e, c1, l1, l2.trans e, r⟩, gd.le e, ne⟩
theorem FG.start (h : AHeap) : FG h h (.slice none 0 0) (.slice none 0 0) [] [] :=
 ⟨⟨h, [], GS.nil 2 h, rfl, Le.refl h, Le.refl h, fun b hb => by simp [blk] at hb, fun b hb => by simp [blk] at hb, fun i x hx => by simp at hx⟩, GP.nil h, fun b hb => by simp [blk] at hb⟩
theorem FG.join {b0 h : AHeap} {ov dv lv : Value} {fs : List FM} {done l : List Pr} (r : FG b0 h ov dv fs done) (hwf : WF h) (gl : GP h lv l) (hl : ∀ b, blk lv = some b → blk ov ≠ some b ∧ blk dv ≠ some b) (hn : done.length + l.length ≤ 1000000000) :
  ∃ dv' h', aAppend Try.prog h 22 22 dv lv = some (dv', h') ∧ WF h' ∧ FG b0 h' ov dv' fs (done ++ l) ∧ GP h' lv l ∧ ∀ b, blk lv = some b → blk ov ≠ some b ∧ blk dv' ≠ some b := by
 obtain ⟨⟨f, c, g, c1, l1, l2, ao, ad, hx⟩, gd, ne⟩ := r
 obtain ⟨dv', h5, e5, g5, w5, hf, hk⟩ := gd.join hwf gl.pr hn
 obtain ⟨lf5, ad5⟩ := hf f l2 ad
 refine ⟨dv', h5, e5, w5, ⟨⟨f, c, GS.kept g fun b o hb ho => (hk b o ho (ne b hb)).1, c1, l1, lf5, ao, ad5, hx⟩, g5, fun b hb => ?_⟩, GS.kept gl fun b o hb ho => (hk b o ho (hl b hb).2).1, fun b hb => ⟨(hl b hb).1, ?_⟩⟩
 ·obtain ⟨o, ho⟩ := Option.ne_none_iff_exists'.1 (GS.blk_own g hb)
  exact (hk b o ho (ne b hb)).2
 ·obtain ⟨o, ho⟩ := Option.ne_none_iff_exists'.1 (GS.blk_own gl hb)
  exact (hk b o ho (hl b hb).2).2
end Go.Fw
namespace Go.Fw
open Go.Proofs
set_option maxHeartbeats 8000000
set_option maxRecDepth 10000
structure WebR (n : Int) (es web : List Pr) : Prop where
 right : RightG ⟨n, web⟩
 mem : ∀ p ∈ web, p ∈ es
end Go.Fw
namespace Go.Fw
open Go.Proofs
attribute [local irreducible] KO4 KO3 KO2 KO1 KO KN KX KE VK KCond KDraw KCall KLoop
set_option maxHeartbeats 4000000
set_option maxRecDepth 10000
theorem FL.len {h : AHeap} {v : Value} {fs : List FM} (r : FL h v fs) (g : AHeap) : aLen Try.prog g 35 v = some (.int .i64 fs.length) := by
 obtain ⟨cs, c, _⟩ := r
 obtain ⟨a, k, rfl, _⟩ := c.sl; simp [aLen, Try.underlying35]
def fAddr (v : Value) (i : Nat) : Addr := elemAddr v (i * 2)
theorem FL.get {h : AHeap} {v : Value} {fs : List FM} (r : FL h v fs) {i : Nat} {f : FM} (hf : fs[i]? = some f) :
  ∃ a b, (∀ g, Le h g → aload Try.prog g 22 (aadd (fAddr v i) 0) = some a ∧ aload Try.prog g 38 (aadd (fAddr v i) 1) = some b) ∧ PR h a f.edges ∧ RL isI h b f.feet := by
 obtain ⟨cs, c, hx⟩ := r
 obtain ⟨a, b, q1, q2, q3, q4⟩ := hx i f hf
 refine ⟨a, b, fun g l => ?_, q3, q4⟩
 have g1 := c.get _ _ q1
 have g2 := c.get _ _ q2
 obtain ⟨ad, k, rfl, hs⟩ := c.sl
 obtain ⟨ad, rfl⟩ := Option.isSome_iff_exists.1 (hs (by have := (List.getElem?_eq_some_iff.1 hf).1; omega))
 rw [aload_flat Try.underlying22 rfl, aload_flat Try.underlying38 rfl]
 rw [elemAddr_mk] at g1 g2
 refine ⟨?_, ?_⟩
 ·rw [fAddr, elemAddr_mk, aadd_aadd, Nat.add_zero]; exact l.read g1
 ·rw [fAddr, elemAddr_mk, aadd_aadd]; exact l.read g2
end Go.Fw
namespace Go.Fw
open Go.Proofs
set_option maxHeartbeats 1000000
set_option maxRecDepth 10000
section
variable {n : Nat} {es web : List Pr} {L : List Int}
abbrev onF (n : Nat) (web : List Pr) : Nat → Bool := fun u => (onM n web).getD u false
end
end Go.Fw
namespace Go.Fw
open Go.Proofs
set_option maxHeartbeats 4000000
set_option maxRecDepth 10000
theorem bP (a b : Int) : aBuild Try.prog 61 [(0, .int .i64 a), (1, .int .i64 b)] = some (valP (a, b)) := by kernel_rfl
end Go.Fw
namespace Go.Fw
open Go.Proofs
set_option maxHeartbeats 4000000
set_option maxRecDepth 10000
attribute [local instance] Classical.propDecidable
theorem stp {a j : Nat} (h : j < a) : a - (j + 1) < a - j := by omega
def rotN (rs : List (List Int)) : Nat → List Nat := fun v => (rs.getD v []).map Int.toNat
structure RotG (n : Nat) (es : List Pr) (rs : List (List Int)) : Prop where
 len : rs.length = n
 perm : ∀ v, v < n → (rs.getD v []).Perm ((besM n es).getD v [])
section
variable {n : Nat} {es : List Pr} {rs : List (List Int)}
theorem RotG.nat (hr : InR n es) (G : RotG n es rs) {v : Nat} {x : Int} (hx : x ∈ rs.getD v []) : v < n ∧ ∃ w : Nat, x = (w : Int) ∧ w < n ∧ adj es v w := by
 by_cases hv : v < n
 ·have hm := (G.perm v hv).mem_iff.1 hx
  obtain ⟨w, rfl, hw⟩ := besM_nat hr hm
  exact ⟨hv, w, rfl, hw, (besM_mem hr v w).1 hm⟩
 ·rw [List.getD, List.getElem?_eq_none (by rw [G.len]; omega)] at hx; cases hx
theorem RotG.mem (hr : InR n es) (G : RotG n es rs) {v w : Nat} : w ∈ rotN rs v ↔ adj es v w := by
 rw [rotN, List.mem_map]
 constructor
 ·rintro ⟨x, hx, rfl⟩
  obtain ⟨_, w, rfl, _, h⟩ := G.nat hr hx
  exact h
 ·intro h
  have hv := (h.lt hr).1
  exact ⟨(w : Int), (G.perm v hv).mem_iff.2 ((besM_mem hr v w).2 h), rfl⟩
theorem RotG.back (hr : InR n es) (G : RotG n es rs) (v : Nat) : (rotN rs v).map (fun (x : Nat) => (x : Int)) = rs.getD v [] := by
 rw [rotN, List.map_map]
 conv => rhs; rw [← List.map_id (rs.getD v [])]
 refine List.map_congr_left fun x hx => ?_
 obtain ⟨_, w, rfl, _⟩ := G.nat hr hx
 rfl
theorem RotG.isRot (hr : InR n es) (ha : Asc es) (G : RotG n es rs) : IsRot n (rotN rs) := by
 refine ⟨fun v => ?_, fun v w h => (((G.mem hr).1 h).lt hr).1, fun v w h => (G.mem hr).2 ((G.mem hr).1 h).symm, fun v h => adj_irr hr ((G.mem hr).1 h)⟩
 by_cases hv : v < n
 ·have nd : (rs.getD v []).Nodup := (G.perm v hv).nodup_iff.2 (List.nodup_iff_pairwise_ne.2 ((besM_asc es hr ha v).imp fun h e => by omega))
  rw [rotN]
  rw [List.nodup_iff_pairwise_ne, List.pairwise_map]
  refine (List.nodup_iff_pairwise_ne.1 nd).imp_of_mem fun {a b} h1 h2 hne e => hne ?_
  obtain ⟨_, x, rfl, _⟩ := G.nat hr h1
  obtain ⟨_, y, rfl, _⟩ := G.nat hr h2
  rw [Int.toNat_natCast, Int.toNat_natCast] at e
  rw [e]
 ·rw [rotN, List.getD, List.getElem?_eq_none (by rw [G.len]; omega)]; exact List.nodup_nil
theorem RotG.len_eq (G : RotG n es rs) {v : Nat} (hv : v < n) : (rs.getD v []).length = ((besM n es).getD v []).length := (G.perm v hv).length_eq
theorem sort_bes (hr : InR n es) (ha : Asc es) {v : Nat} {l : List Int} : sortI l = (besM n es).getD v [] ↔ l.Perm ((besM n es).getD v []) := by
 constructor
 ·intro h
  rw [← h]; exact (List.mergeSort_perm _ _).symm
 ·intro p
  have hb := besM_asc es hr ha v
  have nd : l.Nodup := p.nodup_iff.2 (List.nodup_iff_pairwise_ne.2 (hb.imp fun h e => by omega))
  have h1 := sortI_le l
  have h2 : (sortI l).Nodup := (List.mergeSort_perm _ _).nodup_iff.2 nd
  rw [List.nodup_iff_pairwise_ne] at h2
  exact sorted_eq _ _ ((h1.and h2).imp fun h => by omega) hb fun x => by rw [sortI_mem, p.mem_iff]
def toldR (v : Nat) (l : List Int) : List Pr := (l.filter fun w => decide ((v : Int) < w)).map fun w => ((v : Int), w)
def toldE (rs : List (List Int)) : Nat → List Pr
 | 0 => []
 | k + 1 => toldE rs k ++ toldR k (rs.getD k [])
theorem mem_toldE {k : Nat} {p : Pr} : p ∈ toldE rs k ↔ ∃ v : Nat, v < k ∧ p.1 = (v : Int) ∧ p.2 ∈ rs.getD v [] ∧ p.1 < p.2 := by
 induction k with
 | zero => simp [toldE]
 | succ k ih =>
  rw [toldE, List.mem_append, ih, toldR]
  simp only [List.mem_map, List.mem_filter, decide_eq_true_eq]
  constructor
  ·rintro (⟨v, h1, h2⟩ | ⟨w, ⟨h1, h2⟩, rfl⟩)
   ·exact ⟨v, by omega, h2⟩
   ·exact ⟨k, by omega, rfl, h1, h2⟩
  ·rintro ⟨v, h1, h2, h3, h4⟩
   by_cases e : v = k
   ·subst e
    exact .inr ⟨p.2, ⟨h3, by omega⟩, Prod.ext h2.symm rfl⟩
   ·exact .inl ⟨v, by omega, h2, h3, h4⟩
theorem told_right (hR : RightG ⟨(n : Int), es⟩) (G : RotG n es rs) : NewOK (n : Int) (toldE rs n) ∧ sortP ((toldE rs n).map normP) = es := by
 have hr := hR.inR
 have hm : ∀ p, p ∈ toldE rs n ↔ p ∈ es := fun p => by
  rw [mem_toldE]
  constructor
  ·rintro ⟨v, hv, h1, h2, h3⟩
   obtain ⟨_, w, e, hw, ha⟩ := G.nat hr h2
   have := adj_mem' hr ha
   rw [pairOf_of, Nat.min_eq_left (by omega), Nat.max_eq_right (by omega)] at this
   rw [show p = ((v : Int), (w : Int)) from Prod.ext h1 e]; exact this
  ·intro hp
   obtain ⟨a, c, rfl, hac, hcn, ha⟩ := ends hr hp
   exact ⟨a, by omega, rfl, (G.perm a (by omega)).mem_iff.2 ((besM_mem hr a c).2 ha), by simp only; omega⟩
 have nd : (toldE rs n).Nodup := by
  have key : ∀ k, k ≤ n → (toldE rs k).Nodup := by
   intro k
   induction k with
   | zero => intro _; simp [toldE]
   | succ k ih =>
    intro hk
    rw [toldE, List.nodup_append]
    refine ⟨ih (by omega), ?_, fun a ha b hb e => ?_⟩
    ·rw [toldR, List.nodup_iff_pairwise_ne, List.pairwise_map]
     have nd : (rs.getD k []).Nodup := (G.perm k (by omega)).nodup_iff.2 (List.nodup_iff_pairwise_ne.2 ((besM_asc es hr hR.asc k).imp fun h e => by omega))
     exact ((List.nodup_iff_pairwise_ne.1 nd).filter _).imp fun h e => h (by injection e)
    ·subst e
     obtain ⟨v, hv, h1, _⟩ := mem_toldE.1 ha
     obtain ⟨w, _, rfl⟩ := List.mem_map.1 hb
     simp only at h1; omega
  exact key n (Nat.le_refl _)
 have hnorm : (toldE rs n).map normP = toldE rs n := by
  conv => rhs; rw [← List.map_id (toldE rs n)]
  refine List.map_congr_left fun p hp => ?_
  have := hr p ((hm p).1 hp)
  exact Prod.ext (by simp only [normP, id]; omega) (by simp only [normP, id]; omega)
 have hsort : sortP (toldE rs n) = es := by
  have h1 := sortP_le (toldE rs n)
  have h2 : (sortP (toldE rs n)).Nodup := (sortP_perm _).nodup_iff.2 nd
  rw [List.nodup_iff_pairwise_ne] at h2
  refine sortedP_eq _ _ ((h1.and h2).imp fun {x y} h => ?_) (asc_pair.1 hR.asc) fun p => by rw [sortP_mem, hm]
  obtain ⟨h1, h2⟩ := h
  rcases h1 with h1 | ⟨h1, h3⟩
  ·exact .inl h1
  ·refine .inr ⟨h1, ?_⟩
   have : x.2 ≠ y.2 := fun e => h2 (Prod.ext h1 e)
   omega
 have hlen : (toldE rs n).length = es.length := by
  have := congrArg List.length hsort
  rwa [sortP_length] at this
 refine ⟨⟨hR.n0, hR.n1, by rw [hlen]; exact hR.len, fun p hp => ?_, by rw [hnorm]; exact nd⟩, by rw [hnorm, hsort]⟩
 have := hr p ((hm p).1 hp)
 simp only [normP]; omega
theorem RotG.uniq {fs : List Pr} (hR : RightG ⟨(n : Int), es⟩) (hR' : RightG ⟨(n : Int), fs⟩) (G : RotG n es rs) (G' : RotG n fs rs) : es = fs := by
 rw [← (told_right hR G).2, ← (told_right hR' G').2]
end
end Go.Fw
