/- A text of the proof. -/
import Derived.Test.YtnaahaldkpdjlaaFwLB13
import Derived.Test.YtnaahaldkpdjlaaFwRow
set_option linter.unusedSimpArgs false
set_option linter.unusedVariables false
namespace Go.Proofs
open Go.Shelf
def Try.lays189_ren : Go.Shelf.Ren := ⟨fun | 189 => 21 | 125 => 70 | 257 => 69 | 128 => 108 | 129 => 109 | 294 => 99 | 295 => 100 | 296 => 101 | 297 => 102 | 298 => 103 | 299 => 104 | 216 => 105 | 300 => 106 | 301 => 107 | 328 => 120 | 329 => 121 | 330 => 122 | 331 => 123 | 332 => 124 | 215 => 125 | 343 => 138 | n => n, fun | 28 => 38 | 3 => 3 | 46 => 108 | 0 => 0 | 51 => 152 | 53 => 154 | 4 => 4 | 183 => 145 | 182 => 144 | 131 => 71 | 5 => 5 | 9 => 9 | 218 => 162 | 222 => 166 | 228 => 179 | 229 => 180 | n => n, fun | n => n⟩
theorem Try.lays189 : Go.Proofs.Lays.n189 Try.prog Try.lays189_ren := {
 mixed := by kernel_rfl
 f125 := Try.func70.trans (congrArg some (by kernel_rfl))
 f128 := Try.func108.trans (congrArg some (by kernel_rfl))
 f129 := Try.func109.trans (congrArg some (by kernel_rfl))
 f189 := Try.func21.trans (congrArg some (by kernel_rfl))
 f215 := Try.func125.trans (congrArg some (by kernel_rfl))
 f216 := Try.func105.trans (congrArg some (by kernel_rfl))
 f257 := Try.func69.trans (congrArg some (by kernel_rfl))
 f294 := Try.func99.trans (congrArg some (by kernel_rfl))
 f295 := Try.func100.trans (congrArg some (by kernel_rfl))
 f296 := Try.func101.trans (congrArg some (by kernel_rfl))
 f297 := Try.func102.trans (congrArg some (by kernel_rfl))
 f298 := Try.func103.trans (congrArg some (by kernel_rfl))
 f299 := Try.func104.trans (congrArg some (by kernel_rfl))
 f300 := Try.func106.trans (congrArg some (by kernel_rfl))
 f301 := Try.func107.trans (congrArg some (by kernel_rfl))
 f328 := Try.func120.trans (congrArg some (by kernel_rfl))
 f329 := Try.func121.trans (congrArg some (by kernel_rfl))
 f330 := Try.func122.trans (congrArg some (by kernel_rfl))
 f331 := Try.func123.trans (congrArg some (by kernel_rfl))
 f332 := Try.func124.trans (congrArg some (by kernel_rfl))
 f343 := Try.func138.trans (congrArg some (by kernel_rfl))
 t0 := Try.underlying0
 a0 := Try.isAgg0
 z0 := Try.sizeOf0
 v0 := Try.zeroValue0
 t3 := Try.underlying3
 a3 := Try.isAgg3
 z3 := Try.sizeOf3
 v3 := Try.zeroValue3
 t4 := Try.underlying4
 a4 := Try.isAgg4
 z4 := Try.sizeOf4
 v4 := Try.zeroValue4
 t5 := Try.underlying5
 a5 := Try.isAgg5
 z5 := Try.sizeOf5
 v5 := Try.zeroValue5
 t9 := Try.underlying9
 a9 := Try.isAgg9
 z9 := Try.sizeOf9
 v9 := Try.zeroValue9
 t28 := Try.underlying38
 a28 := Try.isAgg38
 z28 := Try.sizeOf38
 v28 := Try.zeroValue38
 t46 := Try.underlying108
 a46 := Try.isAgg108
 z46 := Try.sizeOf108
 v46 := Try.zeroValue108
 t51 := Try.underlying152
 a51 := Try.isAgg152
 z51 := Try.sizeOf152
 v51 := Try.zeroValue152
 t53 := Try.underlying154
 a53 := Try.isAgg154
 z53 := Try.sizeOf154
 v53 := Try.zeroValue154
 t131 := Try.underlying71
 a131 := Try.isAgg71
 z131 := Try.sizeOf71
 v131 := Try.zeroValue71
 t182 := Try.underlying144
 a182 := Try.isAgg144
 z182 := Try.sizeOf144
 v182 := Try.zeroValue144
 t183 := Try.underlying145
 a183 := Try.isAgg145
 z183 := Try.sizeOf145
 v183 := Try.zeroValue145
 t218 := Try.underlying162
 a218 := Try.isAgg162
 z218 := Try.sizeOf162
 v218 := Try.zeroValue162
 t222 := Try.underlying166
 a222 := Try.isAgg166
 z222 := Try.sizeOf166
 v222 := Try.zeroValue166
 t228 := Try.underlying179
 a228 := Try.isAgg179
 z228 := Try.sizeOf179
 v228 := Try.zeroValue179
 t229 := Try.underlying180
 a229 := Try.isAgg180
 z229 := Try.sizeOf180
 v229 := Try.zeroValue180 }
def Try.laysNm220_ren : Go.Shelf.Ren := ⟨fun | 20 => 97 | n => n, fun | 22 => 38 | 3 => 3 | 4 => 4 | 0 => 0 | n => n, fun | n => n⟩
theorem Try.laysNm220 : Go.Proofs.Lays2.n20 Try.prog Try.laysNm220_ren := {
 mixed := by kernel_rfl
 f20 := Try.func97.trans (congrArg some (by kernel_rfl))
 t0 := Try.underlying0
 a0 := Try.isAgg0
 z0 := Try.sizeOf0
 v0 := Try.zeroValue0
 t3 := Try.underlying3
 a3 := Try.isAgg3
 z3 := Try.sizeOf3
 v3 := Try.zeroValue3
 t4 := Try.underlying4
 a4 := Try.isAgg4
 z4 := Try.sizeOf4
 v4 := Try.zeroValue4
 t22 := Try.underlying38
 a22 := Try.isAgg38
 z22 := Try.sizeOf38
 v22 := Try.zeroValue38
 i3 := by kernel_rfl }
end Go.Proofs
namespace Go.Fw
open Go.Proofs
set_option maxHeartbeats 1000000
set_option maxRecDepth 10000
def sortI (l : List Int) : List Int := l.mergeSort fun x y => decide (x ≤ y)
theorem GI.cases {h : AHeap} {v : Value} {xs : List Int} (g : GI h v xs) (hn : xs.length ≤ 100000) : (∃ a cap, v = .slice a 0 cap ∧ xs = []) ∨ ∃ id c cap, v = .slice (some ⟨id, 0, none⟩) xs.length cap ∧ h.own id = some (.cells c) ∧ c.take xs.length = i64s xs ∧ (cap = UNK + 1 ∨ cap = xs.length ∧ xs.length < 1000000000000) ∧ 0 < xs.length ∧ xs.length ≤ cap ∧ xs.length ≤ c.length := by
 obtain ⟨hl, ⟨rfl, h0⟩ | ⟨id, c, cap, rfl, ho, ht, hc⟩⟩ := g
 ·exact .inl ⟨none, 0, rfl, List.length_eq_zero_iff.1 h0⟩
 ·by_cases h0 : xs.length = 0
  ·rw [h0]; exact .inl ⟨_, _, rfl, List.length_eq_zero_iff.1 h0⟩
  ·rw [Nat.mul_one] at ht hl
   have hcl : xs.length ≤ c.length := by have := congrArg List.length ht; rw [List.length_take, hl] at this; omega
   refine .inr ⟨id, c, cap, rfl, ho, ht, hc, by omega, ?_, hcl⟩
   rcases hc with rfl | ⟨rfl, _⟩
   ·have : (100000 : Nat) ≤ UNK := by decide
    omega
   ·exact Nat.le_refl _
theorem AC.ofNone {P : Program} {W0 : Base} {h : AHeap} {f : FuncId} {a : Option Addr} {cap : Nat} {out : Value} (hout : out = .tuple #[] ∨ out = .slice a 0 cap)
  (hC : ∀ (a' : Option Addr) (cap' : Nat) (w : World), Calls P f #[.slice a' 0 cap'] w fun e w' => (∃ v, e = .returned v ∧ (out = .tuple #[] ∧ v = .tuple #[] ∨ out ≠ .tuple #[] ∧ v = .slice a' 0 cap')) ∧ w' = w) :
  AC P W0 f [.slice a 0 cap] h fun x h' => x = out ∧ h' = h := by
 intro ex m w args' R va
 obtain ⟨v0, hv0, hvr⟩ := va.get (i := 0) rfl
 have hargs : args' = [v0] := by
  have hl1 := va.1
  match args', hl1 with
  | [x], _ => simp at hv0; rw [hv0]
 obtain ⟨a', cap', rfl⟩ := vr_zero hvr
 rw [hargs]
 refine (hC a' cap' w).mono ?_
 rintro e w' ⟨⟨v, rfl, hv⟩, rfl⟩
 refine ⟨out, v, m, _, rfl, R, Agree.refl _ _, Nat.le_refl _, ?_, rfl, rfl⟩
 rcases hv with ⟨h1, rfl⟩ | ⟨h1, rfl⟩
 ·rw [h1]; exact .tuple rfl (fun i v v' e => by simp at e)
 ·rcases hout with h2 | h2
  ·exact absurd h2 h1
  ·rw [h2]; exact hvr
theorem sortI_length (l : List Int) : (sortI l).length = l.length := by simp [sortI]
theorem Sort_any (W0 : Base) {h : AHeap} {v : Value} {xs : List Int} (g : GI h v xs) (hn : xs.length ≤ 100000) : AC Try.prog W0 21 [v] h fun x h' => x = .tuple #[] ∧ GI h' v (sortI xs) ∧ ∀ f, Le f h → Apart f v → Le f h' := by
 rcases g.cases hn with ⟨a, cap, rfl, rfl⟩ | ⟨id, c, cap, rfl, ho, ht, hc, h0, hlc, hcl⟩
 ·refine (AC.ofNone (out := .tuple #[]) (.inl rfl) fun a' cap' w => (Any.slices_Sort_int_none Try.lays189 a' cap' w).mono ?_).mono ?_
  ·rintro e w' ⟨rfl, rfl⟩; exact ⟨⟨_, rfl, .inl ⟨rfl, rfl⟩⟩, rfl⟩
  ·rintro x h' ⟨rfl, rfl⟩; exact ⟨rfl, by simpa [sortI] using g, fun f lf _ => lf⟩
 ·refine (AC.ofRow (xs := xs) (ys := sortI xs) (out := .tuple #[]) (k := 0) ho ht rfl (sortI_length xs) hcl hlc h0 (Nat.zero_le _) (.inl rfl) fun blk off cap' w hH hb hcap => (Any.slices_Sort_int Try.lays189 blk off cap' xs w hH hb (by omega)).mono ?_).mono ?_
  ·rintro e w' ⟨rfl, q, os, rfl⟩; exact ⟨⟨_, rfl, .inl ⟨rfl, rfl⟩⟩, q, os, rfl⟩
  ·rintro x h' ⟨rfl, rfl⟩
   refine ⟨rfl, ⟨by simp [I64, sortI_length], .inr ⟨id, _, cap, by rw [sortI_length], AHeap.own_put_eq _ _ _, ?_, by rw [sortI_length]; exact hc⟩⟩, fun f lf af => lf.put _ (af id rfl)⟩
   rw [Nat.mul_one, List.take_append_of_le_length (by simp [i64s_length]), List.take_of_length_le (by simp [i64s_length])]; rfl
theorem compact_le (xs : List Int) : (Lib.compact xs).length ≤ xs.length := by
 have := List.length_filter_le (Lib.keeps xs.toArray) (List.range xs.length)
 simpa [Lib.compact, Lib.compactUpTo] using this
theorem Compact_any (W0 : Base) {h : AHeap} {v : Value} {xs : List Int} (g : GI h v xs) (hn : xs.length ≤ 100000) : AC Try.prog W0 97 [v] h fun x h' => RL isI h' x (Lib.compact xs) ∧ blk x = blk v ∧ ∀ f, Le f h → Apart f v → Le f h' := by
 rcases g.cases hn with ⟨a, cap, rfl, rfl⟩ | ⟨id, c, cap, rfl, ho, ht, hc, h0, hlc, hcl⟩
 ·refine (AC.ofNone (out := .slice a 0 cap) (.inr rfl) fun a' cap' w => (Any.slices_Compact_int_empty Try.laysNm220 a' cap' w).mono ?_).mono ?_
  ·rintro e w' ⟨rfl, rfl⟩; exact ⟨⟨_, rfl, .inr ⟨by simp, rfl⟩⟩, rfl⟩
  ·rintro x h' ⟨rfl, rfl⟩
   refine ⟨?_, rfl, fun f lf _ => lf⟩
   have : Lib.compact ([] : List Int) = [] := rfl
   rw [this]; exact g.rl
 ·have hk := compact_le xs
  refine (AC.ofRow (xs := xs) (ys := Lib.compact xs ++ List.replicate (xs.length - (Lib.compact xs).length) 0) (out := .slice (some ⟨id, 0, none⟩) (Lib.compact xs).length cap) (k := (Lib.compact xs).length) ho ht rfl (by simp; omega) hcl hlc h0 hk (.inr rfl)
   fun blk off cap' w hH hb hcap => (Any.slices_Compact_int Try.laysNm220 blk off cap' xs w hH (by omega) hcap).mono ?_).mono ?_
  ·rintro e w' ⟨rfl, q, rfl⟩; exact ⟨⟨_, rfl, .inr ⟨by simp, rfl⟩⟩, q, #[], by rw [Sort.grow_empty]⟩
  ·rintro x h' ⟨rfl, rfl⟩
   refine ⟨RL.ofI ?_, rfl, fun f lf af => lf.put _ (af id rfl)⟩
   have := RS.own (c := cap) (n := (Lib.compact xs).length) (AHeap.own_put_eq h id (.cells (i64s (Lib.compact xs ++ List.replicate (xs.length - (Lib.compact xs).length) 0) ++ c.drop xs.length))) (off := 0) (by simp [i64s_length]; omega)
   have e : ((i64s (Lib.compact xs ++ List.replicate (xs.length - (Lib.compact xs).length) 0) ++ c.drop xs.length).drop 0).take (Lib.compact xs).length = (Lib.compact xs).map (Value.int .i64) := by
    rw [List.drop_zero, List.take_append_of_le_length (by simp [i64s_length])]
    simp only [i64s, List.map_append]
    rw [List.take_append_of_le_length (by simp), List.take_of_length_le (by simp)]
   rw [e] at this; exact this
end Go.Fw
