/- A text of the proof. -/
import Derived.Test.YtnaahaldkpdjlaaFwLB10
import Derived.Test.YtnaahaldkpdjlaaFwRow
import Derived.Test.YtnaahaldkpdjlaaFwLBR
import Derived.Test.YtnaahaldkpdjlaaFwFrame
set_option linter.unusedSimpArgs false
set_option linter.unusedVariables false
namespace Go.Proofs
open Go.Shelf
def Try.lays189_ren : Go.Shelf.Ren := ⟨fun | 189 => 21 | 125 => 70 | 257 => 69 | 128 => 108 | 129 => 109 | 294 => 99 | 295 => 100 | 296 => 101 | 297 => 102 | 298 => 103 | 299 => 104 | 216 => 105 | 300 => 106 | 301 => 107 | 328 => 120 | 329 => 121 | 330 => 122 | 331 => 123 | 332 => 124 | 215 => 125 | 343 => 138 | n => n, fun | 28 => 38 | 3 => 3 | 46 => 108 | 0 => 0 | 51 => 152 | 53 => 154 | 4 => 4 | 183 => 145 | 182 => 144 | 131 => 71 | 5 => 5 | 9 => 9 | 218 => 162 | 222 => 166 | 228 => 179 | 229 => 180 | n => n, fun | n => n⟩
theorem Try.lays189 : Go.Proofs.Lays.n189 Try.prog Try.lays189_ren := {
 mixed := by kernel_rfl
 f125 := Try.func70.trans (congrArg some (by kernel_rfl))
 f128 := Try.func108.trans (congrArg some (by kernel_rfl))
 f129 := Try.func109.trans (congrArg some (by kernel_rfl))
 f189 := Try.func21.trans (congrArg some (by kernel_rfl))
 f215 := Try.func125.trans (congrArg some (by kernel_rfl))
 f216 := Try.func105.trans (congrArg some (by kernel_rfl))
 f257 := Try.func69.trans (congrArg some (by kernel_rfl))
 f294 := Try.func99.trans (congrArg some (by kernel_rfl))
 f295 := Try.func100.trans (congrArg some (by kernel_rfl))
 f296 := Try.func101.trans (congrArg some (by kernel_rfl))
 f297 := Try.func102.trans (congrArg some (by kernel_rfl))
 f298 := Try.func103.trans (congrArg some (by kernel_rfl))
 f299 := Try.func104.trans (congrArg some (by kernel_rfl))
 f300 := Try.func106.trans (congrArg some (by kernel_rfl))
 f301 := Try.func107.trans (congrArg some (by kernel_rfl))
 f328 := Try.func120.trans (congrArg some (by kernel_rfl))
 f329 := Try.func121.trans (congrArg some (by kernel_rfl))
 f330 := Try.func122.trans (congrArg some (by kernel_rfl))
 f331 := Try.func123.trans (congrArg some (by kernel_rfl))
 f332 := Try.func124.trans (congrArg some (by kernel_rfl))
 f343 := Try.func138.trans (congrArg some (by kernel_rfl))
 t0 := Try.underlying0
 a0 := Try.isAgg0
 z0 := Try.sizeOf0
 v0 := Try.zeroValue0
 t3 := Try.underlying3
 a3 := Try.isAgg3
 z3 := Try.sizeOf3
 v3 := Try.zeroValue3
 t4 := Try.underlying4
 a4 := Try.isAgg4
 z4 := Try.sizeOf4
 v4 := Try.zeroValue4
 t5 := Try.underlying5
 a5 := Try.isAgg5
 z5 := Try.sizeOf5
 v5 := Try.zeroValue5
 t9 := Try.underlying9
 a9 := Try.isAgg9
 z9 := Try.sizeOf9
 v9 := Try.zeroValue9
 t28 := Try.underlying38
 a28 := Try.isAgg38
 z28 := Try.sizeOf38
 v28 := Try.zeroValue38
 t46 := Try.underlying108
 a46 := Try.isAgg108
 z46 := Try.sizeOf108
 v46 := Try.zeroValue108
 t51 := Try.underlying152
 a51 := Try.isAgg152
 z51 := Try.sizeOf152
 v51 := Try.zeroValue152
 t53 := Try.underlying154
 a53 := Try.isAgg154
 z53 := Try.sizeOf154
 v53 := Try.zeroValue154
 t131 := Try.underlying71
 a131 := Try.isAgg71
 z131 := Try.sizeOf71
 v131 := Try.zeroValue71
 t182 := Try.underlying144
 a182 := Try.isAgg144
 z182 := Try.sizeOf144
 v182 := Try.zeroValue144
 t183 := Try.underlying145
 a183 := Try.isAgg145
 z183 := Try.sizeOf145
 v183 := Try.zeroValue145
 t218 := Try.underlying162
 a218 := Try.isAgg162
 z218 := Try.sizeOf162
 v218 := Try.zeroValue162
 t222 := Try.underlying166
 a222 := Try.isAgg166
 z222 := Try.sizeOf166
 v222 := Try.zeroValue166
 t228 := Try.underlying179
 a228 := Try.isAgg179
 z228 := Try.sizeOf179
 v228 := Try.zeroValue179
 t229 := Try.underlying180
 a229 := Try.isAgg180
 z229 := Try.sizeOf180
 v229 := Try.zeroValue180 }
end Go.Proofs
namespace Go.Fw
open Go.Proofs
set_option maxHeartbeats 1000000
set_option maxRecDepth 10000
def sortI (l : List Int) : List Int := l.mergeSort fun x y => decide (x ≤ y)
theorem GI.cases {h : AHeap} {v : Value} {xs : List Int} (g : GI h v xs) (hn : xs.length ≤ 100000) : (∃ a cap, v = .slice a 0 cap ∧ xs = []) ∨ ∃ id c cap, v = .slice (some ⟨id, 0, none⟩) xs.length cap ∧ h.own id = some (.cells c) ∧ c.take xs.length = i64s xs ∧ (cap = UNK + 1 ∨ cap = xs.length ∧ xs.length < 1000000000000) ∧ 0 < xs.length ∧ xs.length ≤ cap ∧ xs.length ≤ c.length := by
 obtain ⟨hl, ⟨rfl, h0⟩ | ⟨id, c, cap, rfl, ho, ht, hc⟩⟩ := g
 ·exact .inl ⟨none, 0, rfl, List.length_eq_zero_iff.1 h0⟩
 ·by_cases h0 : xs.length = 0
  ·rw [h0]; exact .inl ⟨_, _, rfl, List.length_eq_zero_iff.1 h0⟩
  ·rw [Nat.mul_one] at ht hl
   have hcl : xs.length ≤ c.length := by have := congrArg List.length ht; rw [List.length_take, hl] at this; omega
   refine .inr ⟨id, c, cap, rfl, ho, ht, hc, by omega, ?_, hcl⟩
   rcases hc with rfl | ⟨rfl, _⟩
   ·have : (100000 : Nat) ≤ UNK := by decide
    omega
   ·exact Nat.le_refl _
theorem AC.ofNone {P : Program} {W0 : Base} {h : AHeap} {f : FuncId} {a : Option Addr} {cap : Nat} {out : Value} (hout : out = .tuple #[] ∨ out = .slice a 0 cap)
  (hC : ∀ (a' : Option Addr) (cap' : Nat) (w : World), Calls P f #[.slice a' 0 cap'] w fun e w' => (∃ v, e = .returned v ∧ (out = .tuple #[] ∧ v = .tuple #[] ∨ out ≠ .tuple #[] ∧ v = .slice a' 0 cap')) ∧ w' = w) :
  AC P W0 f [.slice a 0 cap] h fun x h' => x = out ∧ h' = h := by
 intro ex m w args' R va
 obtain ⟨v0, hv0, hvr⟩ := va.get (i := 0) rfl
 have hargs : args' = [v0] := by
  have hl1 := va.1
  match args', hl1 with
  | [x], _ => simp at hv0; rw [hv0]
 obtain ⟨a', cap', rfl⟩ := vr_zero hvr
 rw [hargs]
 refine (hC a' cap' w).mono ?_
 rintro e w' ⟨⟨v, rfl, hv⟩, rfl⟩
 refine ⟨out, v, m, _, rfl, R, Agree.refl _ _, Nat.le_refl _, ?_, rfl, rfl⟩
 rcases hv with ⟨h1, rfl⟩ | ⟨h1, rfl⟩
 ·rw [h1]; exact .tuple rfl (fun i v v' e => by simp at e)
 ·rcases hout with h2 | h2
  ·exact absurd h2 h1
  ·rw [h2]; exact hvr
theorem sortI_length (l : List Int) : (sortI l).length = l.length := by simp [sortI]
theorem Sort_any (W0 : Base) {h : AHeap} {v : Value} {xs : List Int} (g : GI h v xs) (hn : xs.length ≤ 100000) : AC Try.prog W0 21 [v] h fun x h' => x = .tuple #[] ∧ GI h' v (sortI xs) ∧ ∀ f, Le f h → Apart f v → Le f h' := by
 rcases g.cases hn with ⟨a, cap, rfl, rfl⟩ | ⟨id, c, cap, rfl, ho, ht, hc, h0, hlc, hcl⟩
 ·refine (AC.ofNone (out := .tuple #[]) (.inl rfl) fun a' cap' w => (Any.slices_Sort_int_none Try.lays189 a' cap' w).mono ?_).mono ?_
  ·rintro e w' ⟨rfl, rfl⟩; exact ⟨⟨_, rfl, .inl ⟨rfl, rfl⟩⟩, rfl⟩
  ·rintro x h' ⟨rfl, rfl⟩; exact ⟨rfl, by simpa [sortI] using g, fun f lf _ => lf⟩
 ·refine (AC.ofRow (xs := xs) (ys := sortI xs) (out := .tuple #[]) (k := 0) ho ht rfl (sortI_length xs) hcl hlc h0 (Nat.zero_le _) (.inl rfl) fun blk off cap' w hH hb hcap => (Any.slices_Sort_int Try.lays189 blk off cap' xs w hH hb (by omega)).mono ?_).mono ?_
  ·rintro e w' ⟨rfl, q, os, rfl⟩; exact ⟨⟨_, rfl, .inl ⟨rfl, rfl⟩⟩, q, os, rfl⟩
  ·rintro x h' ⟨rfl, rfl⟩
   refine ⟨rfl, ⟨by simp [I64, sortI_length], .inr ⟨id, _, cap, by rw [sortI_length], AHeap.own_put_eq _ _ _, ?_, by rw [sortI_length]; exact hc⟩⟩, fun f lf af => lf.put _ (af id rfl)⟩
   rw [Nat.mul_one, List.take_append_of_le_length (by simp [i64s_length]), List.take_of_length_le (by simp [i64s_length])]; rfl
end Go.Fw
namespace Go.Fw
open Go.Proofs
set_option maxHeartbeats 2000000
set_option maxRecDepth 10000
abbrev Gr := Int × List Pr
def addG : List Gr → Int → Pr → List Gr
 | [], f, p => [(f, [p])]
 | (k, l) :: r, f, p => if k = f then (k, l ++ [p]) :: r else (k, l) :: addG r f p
def mapG (gs : List Gr) (us : List Value) : List (Value × Value) := (gs.zip us).map fun x => (.int .i64 x.1.1, x.2)
structure Grps (b0 h : AHeap) (M : Nat) (us : List Value) (gs : List Gr) : Prop where
 oM : h.own M = some (.map (mapG gs us))
 len : us.length = gs.length
 gp : ∀ (j : Nat) u g, us[j]? = some u → gs[j]? = some g → GP h u g.2
 nM : ∀ (j : Nat) u, us[j]? = some u → blk u ≠ some M
 dis : ∀ (j k : Nat) u u' b, j ≠ k → us[j]? = some u → us[k]? = some u' → blk u = some b → blk u' ≠ some b
 ap : ∀ (j : Nat) u, us[j]? = some u → Apart b0 u
 le : Le b0 h
 bM : b0.own M = none
theorem Grps.keep {b0 h h' : AHeap} {M : Nat} {us : List Value} {gs : List Gr} (R : Grps b0 h M us gs) (le : Le b0 h') (hk : ∀ b o, h.own b = some o → (b = M ∨ ∃ (j : Nat) (u : Value), us[j]? = some u ∧ blk u = some b) → h'.own b = some o) : Grps b0 h' M us gs :=
 ⟨hk _ _ R.oM (.inl rfl), R.len, fun j u g hu hg => GS.kept (R.gp j u g hu hg) fun b o hb ho => hk b o ho (.inr ⟨j, u, hu, hb⟩), R.nM, R.dis, R.ap, le, R.bM⟩
theorem Grps.up {b0 h h' : AHeap} {M : Nat} {us : List Value} {gs : List Gr} (R : Grps b0 h M us gs) (e : Le h h') : Grps b0 h' M us gs := R.keep (R.le.trans e) fun b o ho _ => e.own _ _ ho
end Go.Fw
namespace Go.Fw
open Go.Proofs
set_option maxHeartbeats 4000000
set_option maxRecDepth 10000
def grpsM (fr : Pr → Nat → Int) (es web : List Pr) : Nat → List Gr
  | 0 => []
  | i + 1 => match es[i]? with
    | some p => if p ∈ web then grpsM fr es web i else addG (grpsM fr es web i) (fr p i) p
    | none => grpsM fr es web i
structure FM where
 edges : List Pr
 feet : List Int
def FL (h : AHeap) (v : Value) (fs : List FM) : Prop := ∃ cs, CS 2 h v fs.length cs ∧ ∀ (i : Nat) f, fs[i]? = some f → ∃ a b, cs[i * 2]? = some a ∧ cs[i * 2 + 1]? = some b ∧ PR h a f.edges ∧ RL isI h b f.feet
theorem FL.le {h h' : AHeap} {v : Value} {fs : List FM} (r : FL h v fs) (e : Le h h') : FL h' v fs := by
 obtain ⟨cs, h1, h2⟩ := r
 exact ⟨cs, h1.le e, fun i f hf => by obtain ⟨a, b, q1, q2, q3, q4⟩ := h2 i f hf; exact ⟨a, b, q1, q2, q3.le e, q4.le Stays.isI e⟩⟩
theorem FL.nil (h : AHeap) : FL h (.slice none 0 0) [] := ⟨[], CS.nil 2 h, fun i f hf => by simp at hf⟩
end Go.Fw
namespace Go.Fw
set_option maxRecDepth 10000
theorem Asc.lt {es : List Pr} (a : Asc es) {i j : Nat} {p q : Pr} (hij : i < j) (hi : es[i]? = some p) (hj : es[j]? = some q) : p.1 < q.1 ∨ p.1 = q.1 ∧ p.2 < q.2 := (cmpP_lt p q).1 (a i j p q hij hi hj)
theorem besM_asc' {n : Nat} : ∀ (k : Nat) (es : List Pr), es.length = k → InR n es → Asc es → ∀ u, ((besM n es).getD u []).Pairwise (· < ·) := by
 intro k
 induction k with
 | zero =>
  intro es hl0 _ _ u
  obtain rfl := List.eq_nil_of_length_eq_zero hl0
  have hnil : (besM n []).getD u [] = [] := by
   simp only [besM, List.foldl_nil, List.getD_eq_getElem?_getD, List.getElem?_replicate]; split <;> rfl
  rw [hnil]; exact .nil
 | succ k ih =>
  intro es0 hl0 hr ha u
  obtain ⟨es, p, rfl⟩ : ∃ es p, es0 = es ++ [p] := by
   rcases List.eq_nil_or_concat es0 with rfl | ⟨es, p, h⟩
   ·simp at hl0
   ·exact ⟨es, p, by simpa using h⟩
  have hr' : InR n es := fun q hq => hr q (by simp [hq])
  have ha' : Asc es := fun i j a b hij hi hj => ha i j a b hij (by rw [List.getElem?_append_left (List.getElem?_eq_some_iff.1 hi).1]; exact hi) (by rw [List.getElem?_append_left (List.getElem?_eq_some_iff.1 hj).1]; exact hj)
  have ih := ih es (by simpa using hl0) hr' ha'
  have hp := hr p (by simp)
  have low : ∀ u : Nat, ∀ x ∈ (besM n es).getD u [], ((u : Int) = p.1 → x < p.2) ∧ ((u : Int) = p.2 → x < p.1) := by
   intro u x hx
   obtain ⟨w, rfl, _⟩ := besM_nat hr' hx
   have hadj := (besM_mem hr' u w).1 hx
   have key : ∀ q ∈ es, q.1 < p.1 ∨ q.1 = p.1 ∧ q.2 < p.2 := by
    intro q hq
    obtain ⟨i, hi⟩ := List.mem_iff_getElem?.1 hq
    have hil := (List.getElem?_eq_some_iff.1 hi).1
    exact ha.lt (i := i) (j := es.length) hil (by rw [List.getElem?_append_left hil]; exact hi) (by simp)
   rcases hadj with h | h <;> have h1 := hr' _ h <;> have h2 := key _ h <;> simp only at h1 h2 <;> constructor <;> intro e <;> omega
  have gd : ∀ (rows : List (List Int)) (x : Int) (i : Nat), (rows.set i (rows.getD i [] ++ [x])).getD u [] = if i = u ∧ i < rows.length then rows.getD u [] ++ [x] else rows.getD u [] := by
   intro rows x i
   rw [getD_set]
   split
   ·rename_i h; rw [h.1]
   ·rfl
  rw [besM_snoc]
  have hl := besM_length n es
  have h1 : p.1.toNat < n := by omega
  have h2 : p.2.toNat < n := by omega
  simp only [besStep]
  rw [gd]
  simp only [List.length_set, hl]
  have g1 := gd (besM n es) p.2 p.1.toNat
  rw [hl] at g1
  rw [g1]
  by_cases e1 : p.1.toNat = u
  ·have e2 : ¬ p.2.toNat = u := by omega
   rw [if_neg (by simp [e2]), if_pos ⟨e1, h1⟩]
   rw [List.pairwise_append]
   refine ⟨ih u, by simp, fun x hx y hy => ?_⟩
   rw [List.mem_singleton] at hy; subst hy
   exact (low u x hx).1 (by omega)
  ·rw [if_neg (show ¬ (p.1.toNat = u ∧ p.1.toNat < n) by simp [e1])]
   by_cases e2 : p.2.toNat = u
   ·rw [if_pos ⟨e2, h2⟩, List.pairwise_append]
    refine ⟨ih u, by simp, fun x hx y hy => ?_⟩
    rw [List.mem_singleton] at hy; subst hy
    exact (low u x hx).2 (by omega)
   ·rw [if_neg (by simp [e2])]; exact ih u
theorem besM_asc {n : Nat} (es : List Pr) (hr : InR n es) (ha : Asc es) (u : Nat) : ((besM n es).getD u []).Pairwise (· < ·) := besM_asc' es.length es rfl hr ha u
def Full (es : List Pr) (o : List Nat) (x : Nat) : Prop := ∀ y, adj es x y → y ∈ o
inductive Dfs (n : Nat) (es : List Pr) (from_ : Nat) : List Nat → List Int → Prop
 | start : Dfs n es from_ [from_] (List.replicate n (-1))
 | step {o : List Nat} {up : List Int} {k v w : Nat} : Dfs n es from_ o up → o[k]? = some v → adj es v w → w ∉ o → (∀ y, adj es v y → y ∉ o → w ≤ y) → (∀ (j x : Nat), k < j → o[j]? = some x → Full es o x) → Dfs n es from_ (o ++ [w]) (up.set w (v : Int))
structure DfsFin (n : Nat) (es : List Pr) (from_ : Nat) (o : List Nat) (up : List Int) : Prop where
 dfs : Dfs n es from_ o up
 full : ∀ x ∈ o, Full es o x
theorem Dfs.len {n : Nat} {es : List Pr} {s : Nat} {o : List Nat} {up : List Int} (d : Dfs n es s o up) : 1 ≤ o.length ∧ up.length = n := by
 induction d with
 | start => simp
 | step _ _ _ _ _ _ ih => simp [ih.2]
theorem Dfs.same {n : Nat} {es : List Pr} {s : Nat} {o : List Nat} {up : List Int} (d : Dfs n es s o up) : ∀ {o' : List Nat} {up' : List Int}, Dfs n es s o' up' → o.length = o'.length → o = o' ∧ up = up' := by
 induction d with
 | start =>
  intro o' up' d' hl
  cases d' with
  | start => exact ⟨rfl, rfl⟩
  | step d1 _ _ _ _ _ => have := d1.len.1; simp at hl; rw [hl] at this; simp at this
 | @step o up k v w d hk ha hw hm hf ih =>
  intro o' up' d' hl
  cases d' with
  | start => have := d.len.1; simp at hl; rw [hl] at this; simp at this
  | @step o1 up1 k1 v1 w1 d1 hk1 ha1 hw1 hm1 hf1 =>
   obtain ⟨rfl, rfl⟩ := ih d1 (by simpa using hl)
   have hkk : k = k1 := by
    rcases Nat.lt_trichotomy k k1 with h | h | h
    ·exact absurd (hf k1 v1 h hk1 w1 ha1) hw1
    ·exact h
    ·exact absurd (hf1 k v h hk w ha) hw
   subst hkk
   rw [hk] at hk1; injection hk1 with hk1; subst hk1
   have := hm w1 ha1 hw1
   have := hm1 w ha hw
   obtain rfl : w = w1 := by omega
   exact ⟨rfl, rfl⟩
theorem Dfs.peel {n : Nat} {es : List Pr} {s : Nat} {o : List Nat} {up : List Int} (d : Dfs n es s o up) : ∀ m, 1 ≤ m → m < o.length → ∃ o' up', Dfs n es s o' up' ∧ o'.length = m ∧ ∃ x ∈ o', ¬ Full es o' x := by
 induction d with
 | start => intro m h1 h2; simp at h2; omega
 | @step o up k v w d hk ha hw hm hf ih =>
  intro m h1 h2
  by_cases h : m < o.length
  ·exact ih m h1 h
  ·simp at h2
   exact ⟨o, up, d, by omega, v, List.mem_of_getElem? hk, fun f => hw (f w ha)⟩
theorem DfsFin.uniq {n : Nat} {es : List Pr} {s : Nat} {o o' : List Nat} {up up' : List Int} (a : DfsFin n es s o up) (b : DfsFin n es s o' up') : o = o' ∧ up = up' := by
 have key : ∀ {o o' : List Nat} {up up' : List Int}, DfsFin n es s o up → DfsFin n es s o' up' → ¬ o.length < o'.length := by
  intro o o' up up' a b h
  obtain ⟨o2, up2, d2, hl, x, hx, hf⟩ := b.dfs.peel o.length a.dfs.len.1 h
  obtain ⟨rfl, rfl⟩ := a.dfs.same d2 hl.symm
  exact hf (a.full x hx)
 have h1 := key a b
 have h2 := key b a
 exact a.dfs.same b.dfs (by omega)
structure DS (n : Nat) (es : List Pr) (s : Nat) (met : List Bool) (tried : List Nat) (o opn : List Nat) (up : List Int) : Prop where
 dfs : Dfs n es s o up
 metl : met.length = n
 mm : ∀ v, v < n → (met[v]? = some true ↔ v ∈ o)
 trl : tried.length = n
 tr : ∀ v t, tried[v]? = some t → t ≤ ((besM n es).getD v []).length ∧ ∀ x ∈ ((besM n es).getD v []).take t, x.toNat ∈ o
 sub : opn.Sublist o
 closed : ∀ v ∈ o, v ∉ opn → Full es o v
 lt : ∀ v ∈ o, v < n
 nodup : o.Nodup
theorem DS.start {n : Nat} {es : List Pr} {s : Nat} (hs : s < n) : DS n es s ((List.replicate n false).set s true) (List.replicate n 0) [s] [s] (List.replicate n (-1)) where
 dfs := .start
 metl := by simp
 mm v hv := by
  rw [List.getElem?_set, List.mem_singleton]
  by_cases e : s = v
  ·subst e; simp [hs]
  ·simp [e, hv, Ne.symm e]
 trl := by simp
 tr v t ht := by
  rw [List.getElem?_replicate] at ht
  split at ht
  ·injection ht with ht; subst ht; simp
  ·cases ht
 sub := List.Sublist.refl _
 closed v hv hn := absurd hv hn
 lt v hv := by rw [List.mem_singleton] at hv; omega
 nodup := by simp
theorem DS.len_o {n : Nat} {es : List Pr} {s : Nat} {met : List Bool} {tried o opn : List Nat} {up : List Int} (d : DS n es s met tried o opn up) : o.length ≤ n := by
 have : o.length ≤ (List.range n).length := d.nodup.length_le_of_subset fun v hv => List.mem_range.2 (d.lt v hv)
 simpa using this
theorem DS.len_opn {n : Nat} {es : List Pr} {s : Nat} {met : List Bool} {tried o opn : List Nat} {up : List Int} (d : DS n es s met tried o opn up) : opn.length ≤ n := Nat.le_trans d.sub.length_le d.len_o
theorem DS.pop {n : Nat} {es : List Pr} {s : Nat} {met : List Bool} {tried o opn : List Nat} {up : List Int} {v : Nat} (hr : InR n es) (d : DS n es s met tried o (opn ++ [v]) up) (ht : tried[v]? = some ((besM n es).getD v []).length) : DS n es s met tried o opn up :=
 { d with
  sub := (List.sublist_append_left opn [v]).trans d.sub
  closed := fun x hx hn => by
   by_cases e : x = v
   ·subst e
    intro y hy
    have := (d.tr _ _ ht).2 y (by rw [List.take_length]; exact (besM_mem hr x y).2 hy)
    simpa using this
   ·exact d.closed x hx (by simp [hn, e]) }
theorem DS.skip {n : Nat} {es : List Pr} {s : Nat} {met : List Bool} {tried o opn : List Nat} {up : List Int} {v t : Nat} {x : Int} (d : DS n es s met tried o opn up) (ht : tried[v]? = some t) (hx : ((besM n es).getD v [])[t]? = some x) (hm : x.toNat ∈ o) : DS n es s met (tried.set v (t + 1)) o opn up :=
 { d with
  trl := by simp [d.trl]
  tr := fun u q hq => by
   rw [List.getElem?_set] at hq
   split at hq
   ·rename_i e; subst e
    split at hq
    ·injection hq with hq; subst hq
     have hl := (List.getElem?_eq_some_iff.1 hx).1
     refine ⟨hl, fun y hy => ?_⟩
     rw [List.take_add_one, hx] at hy
     simp at hy
     rcases hy with hy | hy
     ·exact (d.tr _ _ ht).2 y hy
     ·subst hy; exact hm
    ·cases hq
   ·exact d.tr u q hq }
theorem DS.last {n : Nat} {es : List Pr} {s : Nat} {met : List Bool} {tried o opn : List Nat} {up : List Int} {v : Nat} (d : DS n es s met tried o (opn ++ [v]) up) :
  ∃ k, o[k]? = some v ∧ ∀ (j x : Nat), k < j → o[j]? = some x → Full es o x := by
 obtain ⟨a, b, rfl, h1, h2⟩ := List.append_sublist_iff.1 d.sub
 have hv : v ∈ b := by simpa using h2
 obtain ⟨i, hi⟩ := List.mem_iff_getElem?.1 hv
 refine ⟨a.length + i, by rw [List.getElem?_append_right (by omega)]; simpa using hi, fun j x hj hx => ?_⟩
 have hxo : x ∈ a ++ b := List.mem_of_getElem? hx
 refine d.closed x hxo fun hxm => ?_
 rw [List.getElem?_append_right (by omega)] at hx
 have nd := d.nodup
 rw [List.nodup_append] at nd
 rw [List.mem_append, List.mem_singleton] at hxm
 rcases hxm with hxm | rfl
 ·exact nd.2.2 x (h1.subset hxm) x (List.mem_of_getElem? hx) rfl
 ·have : j - a.length = i := by
   have nb := nd.2.1
   exact (List.getElem?_inj (List.getElem?_eq_some_iff.1 hx).1 nb).1 (hx.trans hi.symm)
  omega
theorem DS.push {n : Nat} {es : List Pr} {s : Nat} {met : List Bool} {tried o opn : List Nat} {up : List Int} {v w t : Nat} (hr : InR n es) (ha : Asc es) (d : DS n es s met tried o (opn ++ [v]) up) (ht : tried[v]? = some t) (hx : ((besM n es).getD v [])[t]? = some (w : Int)) (hm : w ∉ o) :
  DS n es s (met.set w true) (tried.set v (t + 1)) (o ++ [w]) (opn ++ [v] ++ [w]) (up.set w (v : Int)) := by
 obtain ⟨k, hk, hf⟩ := d.last
 have hxm : (w : Int) ∈ (besM n es).getD v [] := List.mem_of_getElem? hx
 have hadj := (besM_mem hr v w).1 hxm
 have hwn := (hadj.lt hr).2
 have hrow := besM_asc es hr ha v
 refine ⟨.step d.dfs hk hadj hm (fun y hy hyo => ?_) hf, by simp [d.metl], fun u hu => ?_, by simp [d.trl], fun u q hq => ?_, d.sub.append (List.Sublist.refl _), fun u hu hn => ?_, fun u hu => ?_, ?_⟩
 ·obtain ⟨i, hi⟩ := List.mem_iff_getElem?.1 ((besM_mem hr v y).2 hy)
  rcases Nat.lt_trichotomy i t with h | h | h
  ·have := (d.tr v t ht).2 (y : Int) (List.mem_of_getElem? (i := i) (by rw [List.getElem?_take, if_pos h]; exact hi))
   exact absurd (by simpa using this) hyo
  ·subst h; rw [hx] at hi; injection hi with hi; omega
  ·rw [List.pairwise_iff_getElem] at hrow
   have h1 := (List.getElem?_eq_some_iff.1 hx)
   have h2 := (List.getElem?_eq_some_iff.1 hi)
   have := hrow t i h1.1 h2.1 h
   rw [h1.2, h2.2] at this; omega
 ·rw [List.getElem?_set, List.mem_append, List.mem_singleton]
  by_cases e : w = u
  ·subst e; simp [d.metl, hwn]
  ·rw [if_neg e, d.mm u hu]; simp [Ne.symm e]
 ·rw [List.getElem?_set] at hq
  split at hq
  ·rename_i e; subst e
   split at hq
   ·injection hq with hq; subst hq
    refine ⟨(List.getElem?_eq_some_iff.1 hx).1, fun y hy => ?_⟩
    rw [List.take_add_one, hx] at hy
    simp at hy
    rw [List.mem_append]
    rcases hy with hy | hy
    ·exact .inl ((d.tr _ _ ht).2 y hy)
    ·subst hy; right; simp
   ·cases hq
  ·obtain ⟨h1, h2⟩ := d.tr u q hq
   exact ⟨h1, fun y hy => List.mem_append_left _ (h2 y hy)⟩
 ·rw [List.mem_append, List.mem_singleton] at hu
  rcases hu with hu | rfl
  ·exact fun y hy => List.mem_append_left _ (d.closed u hu (fun h => hn (List.mem_append_left _ h)) y hy)
  ·exact absurd (by simp) hn
 ·rw [List.mem_append, List.mem_singleton] at hu
  rcases hu with hu | rfl
  ·exact d.lt u hu
  ·exact hwn
 ·rw [List.nodup_append]
  exact ⟨d.nodup, by simp, fun a ha b hb e => by rw [List.mem_singleton] at hb; subst hb; subst e; exact hm ha⟩
theorem DS.fin {n : Nat} {es : List Pr} {s : Nat} {met : List Bool} {tried o : List Nat} {up : List Int} (d : DS n es s met tried o [] up) : DfsFin n es s o up := ⟨d.dfs, fun x hx => d.closed x hx (by simp)⟩
end Go.Fw
namespace Go.Fw
open Go.Proofs
set_option maxHeartbeats 4000000
set_option maxRecDepth 10000
theorem sorted_eq : ∀ (a b : List Int), a.Pairwise (· < ·) → b.Pairwise (· < ·) → (∀ x, x ∈ a ↔ x ∈ b) → a = b
 | [], [], _, _, _ => rfl
 | [], y :: b, _, _, h => by have := (h y).2 (by simp); simp at this
 | x :: a, [], _, _, h => by have := (h x).1 (by simp); simp at this
 | x :: a, y :: b, ha, hb, h => by
  rw [List.pairwise_cons] at ha hb
  have e : x = y := by
   have h1 := (h x).1 (by simp)
   have h2 := (h y).2 (by simp)
   rw [List.mem_cons] at h1 h2
   rcases h1 with h1 | h1
   ·exact h1
   ·rcases h2 with h2 | h2
    ·exact h2.symm
    ·have := hb.1 x h1; have := ha.1 y h2; omega
  subst e
  rw [sorted_eq a b ha.2 hb.2 fun z => ?_]
  constructor
  ·intro hz
   have := (h z).1 (by simp [hz])
   rw [List.mem_cons] at this
   rcases this with rfl | h'
   ·have := ha.1 z hz; omega
   ·exact h'
  ·intro hz
   have := (h z).2 (by simp [hz])
   rw [List.mem_cons] at this
   rcases this with rfl | h'
   ·have := hb.1 z hz; omega
   ·exact h'
theorem sortI_mem (l : List Int) (x : Int) : x ∈ sortI l ↔ x ∈ l := by simp [sortI]
theorem sortI_le (l : List Int) : (sortI l).Pairwise (· ≤ ·) := by
 have := List.pairwise_mergeSort (le := fun x y : Int => decide (x ≤ y)) (fun a b c h1 h2 => by simp at *; omega) (fun a b => by simp; omega) l
 simpa [sortI] using this
end Go.Fw
namespace Go.Fw
open Go.Proofs
attribute [local irreducible] KO4 KO3 KO2 KO1 KO KN KX KE VK KCond KDraw KCall KLoop
set_option maxHeartbeats 8000000
set_option maxRecDepth 10000
theorem start_any (W0 : Base) (v wv : Value) (G : GM) (xs : List Int) (h : AHeap) (hg : GR h v G) (hw : RL isI h wv xs) (hn : xs.length ≤ 100000) :
  AC Try.prog W0 61 [v, wv] h fun x h' => Le h h' ∧ ∃ lv e, x = .tuple #[lv, .int .i64 e] ∧
   ((¬ RightG G ∧ lv = .slice none 0 0 ∧ e = 20) ∨ (RightG G ∧ (¬ ∀ x ∈ xs, 0 ≤ x ∧ x < G.n) ∧ lv = .slice none 0 0 ∧ e = 2) ∨
    (RightG G ∧ (∀ x ∈ xs, 0 ≤ x ∧ x < G.n) ∧ e = 0 ∧ RL (RL isI) h' lv (besM G.n.toNat G.es))) := by
 have hg0 := hg
 obtain ⟨gn, es⟩ := G
 obtain ⟨ev, rfl, hp⟩ := hg.open
 refine AC.vc (fn := Try.f61) (c := _) ⟨Try.func61, rfl, by decide⟩ Try.ntmps61 Try.results61 (by simp) fun hwf => ?_
 simp only [argFrame, argFrom, Nat.reduceAdd]
 obtain ⟨h1, b1, le1, wf1, -, lA⟩ := boxG (n := gn) hwf hp
 generalize h.next = B at *
 have lA1 := lA h1 (Le.refl _)
 simp only [kS1, bLookup, bMapSet, wantA, isCall, stepOp, evalO, evalL, evalP, evalM, putDst, flat, kA, kB, Nat.reduceLT, ↓reduceIte, kC, Nat.reduceEqDiff, aBuiltin, abinG, guardFree, abin, aInt, aUn, aNilCheck, retQ, retQ1, aresults, aresultL, aresult, mkF, undefV, reduceCtorEq, kD, kE, kF, kG, kH, kI, kJ, kK, aExtract, calleeOf, b1, lA1.1]
 refine KCall.intro (by simp only [kS1, bLookup, bMapSet, wantA, isCall, stepOp, evalO, evalL, evalP, evalM, putDst, flat, kA, kB, Nat.reduceLT, ↓reduceIte, kC, Nat.reduceEqDiff, aBuiltin, abinG, guardFree, abin, aInt, aUn, aNilCheck, retQ, retQ1, aresults, aresultL, aresult, mkF, undefV, reduceCtorEq, kD, kE, kF, kG, kH, kI, kJ, kK, aExtract, calleeOf] <;> rfl) ⟨Try.func57, rfl, by decide⟩ (Right_any W0 _ _ h1 (hg0.le le1)) ?_
 rintro x h2 wf2 ⟨⟨bb, rfl, hbb⟩, le2⟩
 cases bb with
 | false =>
  simp only [kS1, bLookup, bMapSet, wantA, isCall, stepOp, evalO, evalL, evalP, evalM, putDst, flat, kA, kB, Nat.reduceLT, ↓reduceIte, kC, Nat.reduceEqDiff, aBuiltin, abinG, guardFree, abin, aInt, aUn, aNilCheck, retQ, retQ1, aresults, aresultL, aresult, mkF, undefV, reduceCtorEq, kD, kE, kF, kG, kH, kI, kJ, kK, aExtract, calleeOf]
  exact ⟨le1.trans le2, _, _, rfl, .inl ⟨(fun hr => by cases hbb.2 hr), rfl, rfl⟩⟩
 | true =>
 have hr := hbb.1 rfl
 have h0 : 0 ≤ gn := hr.n0
 obtain ⟨n, rfl⟩ := Int.eq_ofNat_of_zero_le h0
 have lw := fun g => hw.len (P := Try.prog) Try.underlying38 g
 simp only [kS1, bLookup, bMapSet, wantA, isCall, stepOp, evalO, evalL, evalP, evalM, putDst, flat, kA, kB, Nat.reduceLT, ↓reduceIte, kC, Nat.reduceEqDiff, aBuiltin, abinG, guardFree, abin, aInt, aUn, aNilCheck, retQ, retQ1, aresults, aresultL, aresult, mkF, undefV, reduceCtorEq, kD, kE, kF, kG, kH, kI, kJ, kK, aExtract, calleeOf, lw]
 refine KLoop.intro (fun k fr hq => ∃ i : Nat, k = xs.length - i ∧ i ≤ xs.length ∧ fr = mkF [(2, .pointer (some ⟨B, 0, none⟩)), (11, wv), (12, .int .i64 xs.length), (13, .int .i64 i)] ∧ hq = h2 ∧ ∀ (j : Nat) x, j < i → xs[j]? = some x → 0 ≤ x ∧ x < (n : Int))
  xs.length [(2, .pointer (some ⟨B, 0, none⟩)), (11, wv), (12, .int .i64 xs.length), (13, .int .i64 (0 : Nat))] (by simp only [hasAll, kS1, bLookup, bMapSet, wantA, isCall, stepOp, evalO, evalL, evalP, evalM, putDst, flat, kA, kB, Nat.reduceLT, ↓reduceIte, kC, Nat.reduceEqDiff, aBuiltin, abinG, guardFree, abin, aInt, aUn, aNilCheck, retQ, retQ1, aresults, aresultL, aresult, mkF, undefV, reduceCtorEq, kD, kE, kF, kG, kH, kI, kJ, kK, aExtract, calleeOf]; simp) ⟨0, rfl, Nat.zero_le _, rfl, rfl, by omega⟩ ?_
 rintro k fr hq hwq ⟨i, rfl, hi, rfl, rfl, hall⟩
 have lA2 := lA hq le2
 simp only [kS1, bLookup, bMapSet, wantA, isCall, stepOp, evalO, evalL, evalP, evalM, putDst, flat, kA, kB, Nat.reduceLT, ↓reduceIte, kC, Nat.reduceEqDiff, aBuiltin, abinG, guardFree, abin, aInt, aUn, aNilCheck, retQ, retQ1, aresults, aresultL, aresult, mkF, undefV, reduceCtorEq, kD, kE, kF, kG, kH, kI, kJ, kK, aExtract, calleeOf]
 refine KCond.intro (fun ht => ?_) (fun hf => ?_)
 ·have hlt : i < xs.length := lt_t ht
  clear ht
  have hxi := getElem?_of hlt
  have ad := hw.addr (P := Try.prog) Try.underlying38 Try.underlying3 (by kernel_rfl) (k := .i64) i hlt
  have ld := (hw.le Stays.isI (le1.trans le2)).loadI (P := Try.prog) Try.underlying3 rfl i hlt
  generalize xs[i] = y at hxi ld
  by_cases c1 : y < 0
  ·simp only [kS1, bLookup, bMapSet, wantA, isCall, stepOp, evalO, evalL, evalP, evalM, putDst, flat, kA, kB, Nat.reduceLT, ↓reduceIte, kC, Nat.reduceEqDiff, aBuiltin, abinG, guardFree, abin, aInt, aUn, aNilCheck, retQ, retQ1, aresults, aresultL, aresult, mkF, undefV, reduceCtorEq, kD, kE, kF, kG, kH, kI, kJ, kK, aExtract, calleeOf, ad, ld, c1]
   exact ⟨le1.trans le2, _, _, rfl, .inr (.inl ⟨hr, fun hh => by have := hh y (List.mem_of_getElem? hxi); omega, rfl, rfl⟩)⟩
  by_cases c2 : y ≥ (n : Int)
  ·simp only [kS1, bLookup, bMapSet, wantA, isCall, stepOp, evalO, evalL, evalP, evalM, putDst, flat, kA, kB, Nat.reduceLT, ↓reduceIte, kC, Nat.reduceEqDiff, aBuiltin, abinG, guardFree, abin, aInt, aUn, aNilCheck, retQ, retQ1, aresults, aresultL, aresult, mkF, undefV, reduceCtorEq, kD, kE, kF, kG, kH, kI, kJ, kK, aExtract, calleeOf, ad, ld, c1, c2, fg0, aadd, Nat.zero_add, lA2.2.1]
   exact ⟨le1.trans le2, _, _, rfl, .inr (.inl ⟨hr, fun hh => by have := hh y (List.mem_of_getElem? hxi); omega, rfl, rfl⟩)⟩
  simp only [kS1, bLookup, bMapSet, wantA, isCall, stepOp, evalO, evalL, evalP, evalM, putDst, flat, kA, kB, Nat.reduceLT, ↓reduceIte, kC, Nat.reduceEqDiff, aBuiltin, abinG, guardFree, abin, aInt, aUn, aNilCheck, retQ, retQ1, aresults, aresultL, aresult, mkF, undefV, reduceCtorEq, kD, kE, kF, kG, kH, kI, kJ, kK, aExtract, calleeOf, ad, ld, c1, c2, fg0, aadd, Nat.zero_add, lA2.2.1, awrap_succ i (by omega)]
  exact loop_again (xs.length - (i + 1)) [(2, .pointer (some ⟨B, 0, none⟩)), (11, wv), (12, .int .i64 xs.length), (13, .int .i64 (i + 1 : Nat))] (by omega) (by simp only [hasAll, kS1, bLookup, bMapSet, wantA, isCall, stepOp, evalO, evalL, evalP, evalM, putDst, flat, kA, kB, Nat.reduceLT, ↓reduceIte, kC, Nat.reduceEqDiff, aBuiltin, abinG, guardFree, abin, aInt, aUn, aNilCheck, retQ, retQ1, aresults, aresultL, aresult, mkF, undefV, reduceCtorEq, kD, kE, kF, kG, kH, kI, kJ, kK, aExtract, calleeOf]; simp) ⟨i + 1, rfl, hlt, rfl, rfl, fun j x hj hx => by
   by_cases e : j = i
   ·subst e; rw [hxi] at hx; injection hx with hx; subst hx; omega
   ·exact hall j x (by omega) hx⟩
 ·have hge : xs.length ≤ i := lt_f hf
  simp only [kS1, bLookup, bMapSet, wantA, isCall, stepOp, evalO, evalL, evalP, evalM, putDst, flat, kA, kB, Nat.reduceLT, ↓reduceIte, kC, Nat.reduceEqDiff, aBuiltin, abinG, guardFree, abin, aInt, aUn, aNilCheck, retQ, retQ1, aresults, aresultL, aresult, mkF, undefV, reduceCtorEq, kD, kE, kF, kG, kH, kI, kJ, kK, aExtract, calleeOf, lA2.1]
  refine KCall.intro (by simp only [kS1, bLookup, bMapSet, wantA, isCall, stepOp, evalO, evalL, evalP, evalM, putDst, flat, kA, kB, Nat.reduceLT, ↓reduceIte, kC, Nat.reduceEqDiff, aBuiltin, abinG, guardFree, abin, aInt, aUn, aNilCheck, retQ, retQ1, aresults, aresultL, aresult, mkF, undefV, reduceCtorEq, kD, kE, kF, kG, kH, kI, kJ, kK, aExtract, calleeOf] <;> rfl) ⟨Try.func55, rfl, by decide⟩ (Beside_any W0 _ n es hq (hg0.le (le1.trans le2)) hr) ?_
  rintro rv h3 wf3 ⟨hrows, le3⟩
  simp only [kS1, bLookup, bMapSet, wantA, isCall, stepOp, evalO, evalL, evalP, evalM, putDst, flat, kA, kB, Nat.reduceLT, ↓reduceIte, kC, Nat.reduceEqDiff, aBuiltin, abinG, guardFree, abin, aInt, aUn, aNilCheck, retQ, retQ1, aresults, aresultL, aresult, mkF, undefV, reduceCtorEq, kD, kE, kF, kG, kH, kI, kJ, kK, aExtract, calleeOf]
  refine ⟨(le1.trans le2).trans le3, _, _, rfl, .inr (.inr ⟨hr, fun x hx => ?_, rfl, hrows⟩)⟩
  obtain ⟨j, hj⟩ := List.mem_iff_getElem?.1 hx
  exact hall j x (by have := (List.getElem?_eq_some_iff.1 hj).1; omega) hj
def GU (h : AHeap) (v : Value) (xs : List Int) : Prop := GT 1 h v xs.length (I64 xs)
theorem GU.le {h h' : AHeap} {v : Value} {xs : List Int} (g : GU h v xs) (e : Le h h') : GU h' v xs := GT.le g e
theorem GU.rl {h : AHeap} {v : Value} {xs : List Int} (g : GU h v xs) : RL isI h v xs := RL.ofI (GT.cs g).rs
theorem GU.push {h : AHeap} {v : Value} {xs : List Int} (g : GU h v xs) (hwf : WF h) (x : Int) (hn : xs.length ≤ 100000) :
  ∃ v' h4 h5, aBuildSlice Try.prog h 38 1 [(0, .int .i64 x)] = some (.slice (some ⟨h.next, 0, none⟩) 1 1, h4) ∧ aAppend Try.prog h4 38 38 v (.slice (some ⟨h.next, 0, none⟩) 1 1) = some (v', h5) ∧ GU h5 v' (xs ++ [x]) ∧ WF h5 ∧ Le h h4 ∧
   (∀ f, Le f h → Apart f v → Le f h5 ∧ Apart f v') ∧ (∀ b o, h.own b = some o → blk v ≠ some b → h5.own b = some o ∧ blk v' ≠ some b) := by
 obtain ⟨h4, e4, l4, w4, o4⟩ := alloc_f hwf [.int .i64 x]
 obtain ⟨v', h5, e5, g5, hf⟩ := (GT.le g l4).push (P := Try.prog) (t := 38) (by kernel_rfl) o4 (I64_one _) rfl (by omega)
 refine ⟨v', h4, h5, by rw [mk1, e4], e5, ?_, aAppend_wf w4 e5, l4, fun f lf af => hf f w4 (lf.trans l4) af, fun b o ho hb => keep_own hf w4 (l4.own _ _ ho) hb⟩
 have : I64 xs ++ [.int .i64 x] = I64 (xs ++ [x]) := by simp [I64]
 rw [GU, ← this, List.length_append]; exact g5
theorem GU.cut {h : AHeap} {v : Value} {xs : List Int} (g : GU h v xs) (m : Nat) (hm : m ≤ xs.length) : ∃ v', aSlice Try.prog 38 v none (some (.int .i64 m)) none = some v' ∧ GU h v' (xs.take m) ∧ blk v' = blk v := by
 obtain ⟨v', e, g', b⟩ := GT.cut (P := Try.prog) Try.underlying38 Try.underlying3 (by kernel_rfl) g m hm
 refine ⟨v', e, ?_, b⟩
 rw [GU, I64, List.map_take, List.length_take, Nat.min_eq_left hm]
 simpa [I64] using g'
theorem GU.kept {h h' : AHeap} {v : Value} {xs : List Int} (g : GU h v xs) (hk : ∀ b o, blk v = some b → h.own b = some o → h'.own b = some o) : GU h' v xs := GT.kept g hk
def Bo (l : List Bool) : List Value := l.map Value.bool
theorem Bo_length (l : List Bool) : (Bo l).length = l.length := by simp [Bo]
theorem Bo_set (l : List Bool) (i : Nat) (b : Bool) : (Bo l).set i (.bool b) = Bo (l.set i b) := by simp [Bo, List.map_set]
end Go.Fw
