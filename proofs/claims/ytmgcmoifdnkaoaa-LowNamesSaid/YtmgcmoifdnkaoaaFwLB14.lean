/- One of the texts of the layer and the walks: it proves what its theorems say of the functions of the seat, with no condition beyond theirs. -/
import Derived.Test.YtmgcmoifdnkaoaaFwLB12
import Derived.Test.YtmgcmoifdnkaoaaFwRow
set_option linter.unusedSimpArgs false
set_option linter.unusedVariables false
namespace Go.Proofs
open Go.Shelf
def Try.lays189_ren : Go.Shelf.Ren := ⟨fun | 189 => 82 | 125 => 90 | 257 => 94 | 128 => 105 | 129 => 106 | 294 => 108 | 295 => 109 | 296 => 110 | 297 => 111 | 298 => 112 | 299 => 113 | 216 => 114 | 300 => 115 | 301 => 116 | 328 => 124 | 329 => 118 | 330 => 119 | 331 => 125 | 332 => 126 | 215 => 91 | 343 => 128 | n => n, fun | 28 => 35 | 3 => 3 | 46 => 124 | 0 => 0 | 51 => 139 | 53 => 141 | 4 => 4 | 183 => 133 | 182 => 132 | 131 => 52 | 5 => 5 | 9 => 9 | 218 => 149 | 222 => 153 | 228 => 161 | 229 => 162 | n => n, fun | n => n⟩
theorem Try.lays189 : Go.Proofs.Lays.n189 Try.prog Try.lays189_ren := {
  mixed := by kernel_rfl
  f125 := Try.func90.trans (congrArg some (by kernel_rfl))
  f128 := Try.func105.trans (congrArg some (by kernel_rfl))
  f129 := Try.func106.trans (congrArg some (by kernel_rfl))
  f189 := Try.func82.trans (congrArg some (by kernel_rfl))
  f215 := Try.func91.trans (congrArg some (by kernel_rfl))
  f216 := Try.func114.trans (congrArg some (by kernel_rfl))
  f257 := Try.func94.trans (congrArg some (by kernel_rfl))
  f294 := Try.func108.trans (congrArg some (by kernel_rfl))
  f295 := Try.func109.trans (congrArg some (by kernel_rfl))
  f296 := Try.func110.trans (congrArg some (by kernel_rfl))
  f297 := Try.func111.trans (congrArg some (by kernel_rfl))
  f298 := Try.func112.trans (congrArg some (by kernel_rfl))
  f299 := Try.func113.trans (congrArg some (by kernel_rfl))
  f300 := Try.func115.trans (congrArg some (by kernel_rfl))
  f301 := Try.func116.trans (congrArg some (by kernel_rfl))
  f328 := Try.func124.trans (congrArg some (by kernel_rfl))
  f329 := Try.func118.trans (congrArg some (by kernel_rfl))
  f330 := Try.func119.trans (congrArg some (by kernel_rfl))
  f331 := Try.func125.trans (congrArg some (by kernel_rfl))
  f332 := Try.func126.trans (congrArg some (by kernel_rfl))
  f343 := Try.func128.trans (congrArg some (by kernel_rfl))
  t0 := Try.underlying0
  a0 := Try.isAgg0
  z0 := Try.sizeOf0
  v0 := Try.zeroValue0
  t3 := Try.underlying3
  a3 := Try.isAgg3
  z3 := Try.sizeOf3
  v3 := Try.zeroValue3
  t4 := Try.underlying4
  a4 := Try.isAgg4
  z4 := Try.sizeOf4
  v4 := Try.zeroValue4
  t5 := Try.underlying5
  a5 := Try.isAgg5
  z5 := Try.sizeOf5
  v5 := Try.zeroValue5
  t9 := Try.underlying9
  a9 := Try.isAgg9
  z9 := Try.sizeOf9
  v9 := Try.zeroValue9
  t28 := Try.underlying35
  a28 := Try.isAgg35
  z28 := Try.sizeOf35
  v28 := Try.zeroValue35
  t46 := Try.underlying124
  a46 := Try.isAgg124
  z46 := Try.sizeOf124
  v46 := Try.zeroValue124
  t51 := Try.underlying139
  a51 := Try.isAgg139
  z51 := Try.sizeOf139
  v51 := Try.zeroValue139
  t53 := Try.underlying141
  a53 := Try.isAgg141
  z53 := Try.sizeOf141
  v53 := Try.zeroValue141
  t131 := Try.underlying52
  a131 := Try.isAgg52
  z131 := Try.sizeOf52
  v131 := Try.zeroValue52
  t182 := Try.underlying132
  a182 := Try.isAgg132
  z182 := Try.sizeOf132
  v182 := Try.zeroValue132
  t183 := Try.underlying133
  a183 := Try.isAgg133
  z183 := Try.sizeOf133
  v183 := Try.zeroValue133
  t218 := Try.underlying149
  a218 := Try.isAgg149
  z218 := Try.sizeOf149
  v218 := Try.zeroValue149
  t222 := Try.underlying153
  a222 := Try.isAgg153
  z222 := Try.sizeOf153
  v222 := Try.zeroValue153
  t228 := Try.underlying161
  a228 := Try.isAgg161
  z228 := Try.sizeOf161
  v228 := Try.zeroValue161
  t229 := Try.underlying162
  a229 := Try.isAgg162
  z229 := Try.sizeOf162
  v229 := Try.zeroValue162 }
end Go.Proofs
namespace Go.Fw
open Go.Proofs
set_option maxHeartbeats 1000000
set_option maxRecDepth 10000
def sortI (l : List Int) : List Int := l.mergeSort fun x y => decide (x ≤ y)
theorem GI.cases {h : AHeap} {v : Value} {xs : List Int} (g : GI h v xs) (hn : xs.length ≤ 100000) : (∃ a cap, v = .slice a 0 cap ∧ xs = []) ∨ ∃ id c cap, v = .slice (some ⟨id, 0, none⟩) xs.length cap ∧ h.own id = some (.cells c) ∧ c.take xs.length = i64s xs ∧ (cap = UNK + 1 ∨ cap = xs.length ∧ xs.length < 1000000000000) ∧ 0 < xs.length ∧ xs.length ≤ cap ∧ xs.length ≤ c.length := by
  obtain ⟨hl, ⟨rfl, h0⟩ | ⟨id, c, cap, rfl, ho, ht, hc⟩⟩ := g
  · exact .inl ⟨none, 0, rfl, List.length_eq_zero_iff.1 h0⟩
  · by_cases h0 : xs.length = 0
    · rw [h0]; exact .inl ⟨_, _, rfl, List.length_eq_zero_iff.1 h0⟩
    · rw [Nat.mul_one] at ht hl
      have hcl : xs.length ≤ c.length := by have := congrArg List.length ht; rw [List.length_take, hl] at this; omega
      refine .inr ⟨id, c, cap, rfl, ho, ht, hc, by omega, ?_, hcl⟩
      rcases hc with rfl | ⟨rfl, _⟩
      · have : (100000 : Nat) ≤ UNK := by decide
        omega
      · exact Nat.le_refl _
theorem AC.ofNone {P : Program} {W0 : Base} {h : AHeap} {f : FuncId} {a : Option Addr} {cap : Nat} {out : Value} (hout : out = .tuple #[] ∨ out = .slice a 0 cap)
    (hC : ∀ (a' : Option Addr) (cap' : Nat) (w : World), Calls P f #[.slice a' 0 cap'] w fun e w' => (∃ v, e = .returned v ∧ (out = .tuple #[] ∧ v = .tuple #[] ∨ out ≠ .tuple #[] ∧ v = .slice a' 0 cap')) ∧ w' = w) :
    AC P W0 f [.slice a 0 cap] h fun x h' => x = out ∧ h' = h := by
  intro ex m w args' R va
  obtain ⟨v0, hv0, hvr⟩ := va.get (i := 0) rfl
  have hargs : args' = [v0] := by
    have hl1 := va.1
    match args', hl1 with
    | [x], _ => simp at hv0; rw [hv0]
  obtain ⟨a', cap', rfl⟩ := vr_zero hvr
  rw [hargs]
  refine (hC a' cap' w).mono ?_
  rintro e w' ⟨⟨v, rfl, hv⟩, rfl⟩
  refine ⟨out, v, m, _, rfl, R, Agree.refl _ _, Nat.le_refl _, ?_, rfl, rfl⟩
  rcases hv with ⟨h1, rfl⟩ | ⟨h1, rfl⟩
  · rw [h1]; exact .tuple rfl (fun i v v' e => by simp at e)
  · rcases hout with h2 | h2
    · exact absurd h2 h1
    · rw [h2]; exact hvr
theorem sortI_length (l : List Int) : (sortI l).length = l.length := by simp [sortI]
theorem Sort_any (W0 : Base) {h : AHeap} {v : Value} {xs : List Int} (g : GI h v xs) (hn : xs.length ≤ 100000) : AC Try.prog W0 82 [v] h fun x h' => x = .tuple #[] ∧ GI h' v (sortI xs) ∧ ∀ f, Le f h → Apart f v → Le f h' := by
  rcases g.cases hn with ⟨a, cap, rfl, rfl⟩ | ⟨id, c, cap, rfl, ho, ht, hc, h0, hlc, hcl⟩
  · refine (AC.ofNone (out := .tuple #[]) (.inl rfl) fun a' cap' w => (Any.slices_Sort_int_none Try.lays189 a' cap' w).mono ?_).mono ?_
    · rintro e w' ⟨rfl, rfl⟩; exact ⟨⟨_, rfl, .inl ⟨rfl, rfl⟩⟩, rfl⟩
    · rintro x h' ⟨rfl, rfl⟩; exact ⟨rfl, by simpa [sortI] using g, fun f lf _ => lf⟩
  · refine (AC.ofRow (xs := xs) (ys := sortI xs) (out := .tuple #[]) (k := 0) ho ht rfl (sortI_length xs) hcl hlc h0 (Nat.zero_le _) (.inl rfl) fun blk off cap' w hH hb hcap => (Any.slices_Sort_int Try.lays189 blk off cap' xs w hH hb (by omega)).mono ?_).mono ?_
    · rintro e w' ⟨rfl, q, os, rfl⟩; exact ⟨⟨_, rfl, .inl ⟨rfl, rfl⟩⟩, q, os, rfl⟩
    · rintro x h' ⟨rfl, rfl⟩
      refine ⟨rfl, ⟨by simp [I64, sortI_length], .inr ⟨id, _, cap, by rw [sortI_length], AHeap.own_put_eq _ _ _, ?_, by rw [sortI_length]; exact hc⟩⟩, fun f lf af => lf.put _ (af id rfl)⟩
      rw [Nat.mul_one, List.take_append_of_le_length (by simp [i64s_length]), List.take_of_length_le (by simp [i64s_length])]; rfl
theorem compact_le (xs : List Int) : (Lib.compact xs).length ≤ xs.length := by
  have := List.length_filter_le (Lib.keeps xs.toArray) (List.range xs.length)
  simpa [Lib.compact, Lib.compactUpTo] using this
end Go.Fw
