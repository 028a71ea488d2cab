/- A text of the proof. -/
import Derived.Test.YtnaahaldkpdjlaaFwLB15
set_option linter.unusedSimpArgs false
set_option linter.unusedVariables false
namespace Go.Fw
open Go.Proofs
set_option maxHeartbeats 2000000
set_option maxRecDepth 10000
abbrev Gr := Int × List Pr
def keysG (gs : List Gr) : List Int := gs.map (·.1)
def lstG : List Gr → Int → List Pr
 | [], _ => []
 | (k, l) :: r, f => if k = f then l else lstG r f
def addG : List Gr → Int → Pr → List Gr
 | [], f, p => [(f, [p])]
 | (k, l) :: r, f, p => if k = f then (k, l ++ [p]) :: r else (k, l) :: addG r f p
def mapG (gs : List Gr) (us : List Value) : List (Value × Value) := (gs.zip us).map fun x => (.int .i64 x.1.1, x.2)
theorem lookG (f : Int) : ∀ (gs : List Gr) (us : List Value) (i : Nat), us.length = gs.length →
  (f ∉ keysG gs ∧ mfind .i64 f (mapG gs us) i = some none ∧ lstG gs f = [] ∧ ∀ p, addG gs f p = gs ++ [(f, [p])]) ∨
  ∃ (j : Nat) (l : List Pr) (u : Value), gs[j]? = some (f, l) ∧ us[j]? = some u ∧ mfind .i64 f (mapG gs us) i = some (some (i + j, u)) ∧ lstG gs f = l ∧ ∀ p, addG gs f p = gs.set j (f, l ++ [p])
 | [], us, i, h => .inl (by simp [keysG, mapG, mfind, lstG, addG])
 | (k, l) :: gs, [], i, h => by simp at h
 | (k, l) :: gs, u :: us, i, h => by
  have e : mapG ((k, l) :: gs) (u :: us) = (.int .i64 k, u) :: mapG gs us := rfl
  by_cases c : f = k
  ·subst c
   exact .inr ⟨0, l, u, rfl, rfl, by rw [e, mfind, if_pos rfl, if_pos rfl]; rfl, by simp [lstG], fun p => by simp [addG]⟩
  ·have c' : ¬ k = f := fun h => c h.symm
   rcases lookG f gs us (i + 1) (by simpa using h) with ⟨h1, h2, h3, h4⟩ | ⟨j, l', u', h1, h2, h3, h4, h5⟩
   ·exact .inl ⟨by simp [keysG, c] at h1 ⊢; exact h1, by rw [e, mfind, if_pos rfl, if_neg c, h2], by rw [lstG, if_neg c', h3], fun p => by rw [addG, if_neg c', h4]; rfl⟩
   ·exact .inr ⟨j + 1, l', u', by simpa using h1, by simpa using h2, by rw [e, mfind, if_pos rfl, if_neg c, h3]; simp; omega, by rw [lstG, if_neg c', h4], fun p => by rw [addG, if_neg c', h5]; rfl⟩
theorem mapG_set {f : Int} {l l' : List Pr} {u' : Value} : ∀ (gs : List Gr) (us : List Value) (j : Nat), us.length = gs.length → gs[j]? = some (f, l) → mapG (gs.set j (f, l')) (us.set j u') = (mapG gs us).set j (.int .i64 f, u')
 | [], us, j, h, e => by simp at e
 | g :: gs, [], j, h, e => by simp at h
 | g :: gs, u :: us, 0, h, e => by simp at e; subst e; rfl
 | g :: gs, u :: us, j + 1, h, e => by
  have := mapG_set (l' := l') (u' := u') gs us j (by simpa using h) (by simpa using e)
  show (.int .i64 g.1, u) :: mapG (gs.set j (f, l')) (us.set j u') = (.int .i64 g.1, u) :: (mapG gs us).set j (.int .i64 f, u')
  rw [this]
theorem mapG_snoc {gs : List Gr} {us : List Value} (hl : us.length = gs.length) (g : Gr) (u : Value) : mapG (gs ++ [g]) (us ++ [u]) = mapG gs us ++ [(.int .i64 g.1, u)] := by
 rw [mapG, List.zip_append hl.symm]; simp [mapG]
structure Grps (b0 h : AHeap) (M : Nat) (us : List Value) (gs : List Gr) : Prop where
 oM : h.own M = some (.map (mapG gs us))
 len : us.length = gs.length
 gp : ∀ (j : Nat) u g, us[j]? = some u → gs[j]? = some g → GP h u g.2
 nM : ∀ (j : Nat) u, us[j]? = some u → blk u ≠ some M
 dis : ∀ (j k : Nat) u u' b, j ≠ k → us[j]? = some u → us[k]? = some u' → blk u = some b → blk u' ≠ some b
 ap : ∀ (j : Nat) u, us[j]? = some u → Apart b0 u
 le : Le b0 h
 bM : b0.own M = none
theorem Grps.keep {b0 h h' : AHeap} {M : Nat} {us : List Value} {gs : List Gr} (R : Grps b0 h M us gs) (le : Le b0 h') (hk : ∀ b o, h.own b = some o → (b = M ∨ ∃ (j : Nat) (u : Value), us[j]? = some u ∧ blk u = some b) → h'.own b = some o) : Grps b0 h' M us gs :=
 ⟨hk _ _ R.oM (.inl rfl), R.len, fun j u g hu hg => GS.kept (R.gp j u g hu hg) fun b o hb ho => hk b o ho (.inr ⟨j, u, hu, hb⟩), R.nM, R.dis, R.ap, le, R.bM⟩
theorem Grps.up {b0 h h' : AHeap} {M : Nat} {us : List Value} {gs : List Gr} (R : Grps b0 h M us gs) (e : Le h h') : Grps b0 h' M us gs := R.keep (R.le.trans e) fun b o ho _ => e.own _ _ ho
theorem azero22 : azero Try.prog 22 = some (.slice none 0 0) := by kernel_rfl
theorem Grps.look {b0 h : AHeap} {M : Nat} {us : List Value} {gs : List Gr} (R : Grps b0 h M us gs) (f : Int) : ∃ u, aLookup Try.prog h 95 (.map (some M)) (.int .i64 f) false = some u ∧ GP h u (lstG gs f) := by
 rcases lookG f gs us 0 R.len with ⟨h1, h2, h3, h4⟩ | ⟨j, l, u, h1, h2, h3, h4, h5⟩
 ·refine ⟨.slice none 0 0, ?_, by rw [h3]; exact GP.nil h⟩
  simp [aLookup, Try.underlying95, Try.underlying3, R.oM, azero22, h2, Fw.flat]
 ·refine ⟨u, ?_, by rw [h4]; exact R.gp j u _ h2 h1⟩
  simp [aLookup, Try.underlying95, Try.underlying3, R.oM, azero22, h3, Fw.flat]
theorem Grps.push {b0 h : AHeap} {M : Nat} {us : List Value} {gs : List Gr} (R : Grps b0 h M us gs) (hwf : WF h) (f : Int) (p : Pr) (hn : (lstG gs f).length + 1 ≤ 100000) :
  ∃ u u' h4 h5 h6 us', aLookup Try.prog h 95 (.map (some M)) (.int .i64 f) false = some u ∧ aBuildSlice Try.prog h 22 1 [(0, valP p)] = some (.slice (some ⟨h.next, 0, none⟩) 1 1, h4) ∧ aAppend Try.prog h4 22 22 u (.slice (some ⟨h.next, 0, none⟩) 1 1) = some (u', h5) ∧
   aMapSet Try.prog h5 95 (.map (some M)) (.int .i64 f) u' = some h6 ∧ Grps b0 h6 M us' (addG gs f p) ∧ WF h6 ∧ Le h h4 ∧
   (∀ b o, h.own b = some o → b ≠ M → (∀ (j : Nat) a, us[j]? = some a → blk a ≠ some b) → h5.own b = some o ∧ h6.own b = some o ∧ ∀ (j : Nat) a, us'[j]? = some a → blk a ≠ some b) := by
 rcases lookG f gs us 0 R.len with ⟨h1, h2, h3, h4⟩ | ⟨j, l, u, h1, h2, h3, h4, h5⟩
 ·obtain ⟨u', g4, g5, e4, e5, gp5, w5, l4, hf, hk⟩ := (GP.nil h).push hwf p (by simp)
  have hall : ∀ b o, h.own b = some o → g5.own b = some o ∧ blk u' ≠ some b := fun b o ho => hk b o ho (by simp [blk])
  obtain ⟨l5, a5⟩ := hf b0 R.le (fun b hb => by simp [blk] at hb)
  have oM5 := (hall _ _ R.oM).1
  refine ⟨.slice none 0 0, u', g4, g5, g5.put M (.map (mapG gs us ++ [(.int .i64 f, u')])), us ++ [u'], by simp [aLookup, Try.underlying95, Try.underlying3, R.oM, azero22, h2, Fw.flat], e4, e5, by simp only [aMapSet, Try.underlying95, Try.underlying3, oM5, h2], ?_, w5.put _ (w5.lt oM5), l4, fun b o ho hb hu => ⟨(hall b o ho).1, by rw [AHeap.own_put_ne _ _ _ _ hb]; exact (hall b o ho).1, fun k a ha => ?_⟩⟩
  ·rw [h4]
   have hz := mapG_snoc R.len (f, [p]) u'
   have hn' : ∀ (k : Nat) a, (us ++ [u'])[k]? = some a → (us[k]? = some a) ∨ (k = us.length ∧ a = u') := fun k a ha => by
    by_cases hkl : k < us.length
    ·rw [List.getElem?_append_left hkl] at ha; exact .inl ha
    ·rw [List.getElem?_append_right (by omega)] at ha
     have hk0 := (List.getElem?_eq_some_iff.1 ha).1
     simp at hk0
     have hkk : k = us.length := by omega
     subst hkk; simp at ha; exact .inr ⟨rfl, ha.symm⟩
   refine ⟨by rw [hz]; exact AHeap.own_put_eq _ _ _, by simp [R.len], fun k a g ha hg => ?_, fun k a ha => ?_, fun k k' a a' b hne ha ha' hb => ?_, fun k a ha => ?_, l5.put _ R.bM, R.bM⟩
   ·rcases hn' k a ha with xa | ⟨rfl, rfl⟩
    ·have hkl := (List.getElem?_eq_some_iff.1 xa).1
     rw [List.getElem?_append_left (by rw [← R.len]; exact hkl)] at hg
     exact GS.put (GS.kept (R.gp k a g xa hg) fun b o hb ho => (hall b o ho).1) _ (R.nM k a xa)
    ·rw [List.getElem?_append_right (by rw [R.len]; exact Nat.le_refl _), R.len] at hg
     simp at hg; subst hg
     have : ([] ++ [p] : List Pr) = [p] := rfl
     rw [this] at gp5
     exact GS.put gp5 _ (hall _ _ R.oM).2
   ·rcases hn' k a ha with xa | ⟨rfl, rfl⟩
    ·exact R.nM k a xa
    ·exact (hall _ _ R.oM).2
   ·rcases hn' k a ha with xa | ⟨rfl, rfl⟩
    ·rcases hn' k' a' ha' with xa' | ⟨rfl, rfl⟩
     ·exact R.dis k k' a a' b hne xa xa' hb
     ·have hgs : ∃ q, gs[k]? = some q := ⟨_, getElem?_of (by rw [← R.len]; exact (List.getElem?_eq_some_iff.1 xa).1)⟩
      obtain ⟨q, hq⟩ := hgs
      obtain ⟨o, ho⟩ := Option.ne_none_iff_exists'.1 (GS.blk_own (R.gp k a q xa hq) hb)
      exact (hall b o ho).2
    ·rcases hn' k' a' ha' with xa' | ⟨rfl, rfl⟩
     ·intro hb'
      have hgs : ∃ q, gs[k']? = some q := ⟨_, getElem?_of (by rw [← R.len]; exact (List.getElem?_eq_some_iff.1 xa').1)⟩
      obtain ⟨q, hq⟩ := hgs
      obtain ⟨o, ho⟩ := Option.ne_none_iff_exists'.1 (GS.blk_own (R.gp k' a' q xa' hq) hb')
      exact (hall b o ho).2 hb
     ·exact absurd rfl hne
   ·rcases hn' k a ha with xa | ⟨rfl, rfl⟩
    ·exact R.ap k a xa
    ·exact a5
  ·by_cases hkl : k < us.length
   ·rw [List.getElem?_append_left hkl] at ha; exact hu k a ha
   ·rw [List.getElem?_append_right (by omega)] at ha
    have hk0 := (List.getElem?_eq_some_iff.1 ha).1
    simp at hk0
    have hkk : k = us.length := by omega
    subst hkk; simp at ha; subst ha; exact (hall b o ho).2
 ·rw [h4] at hn
  have gu := R.gp j u _ h2 h1
  obtain ⟨u', g4, g5, e4, e5, gp5, w5, l4, hf, hk⟩ := GP.push gu hwf p hn
  obtain ⟨l5, a5⟩ := hf b0 R.le (R.ap j u h2)
  have oM5 := hk _ _ R.oM (R.nM j u h2)
  have hjl := (List.getElem?_eq_some_iff.1 h2).1
  have hset : ∀ (k : Nat) a, (us.set j u')[k]? = some a → (k ≠ j ∧ us[k]? = some a) ∨ (k = j ∧ a = u') := fun k a ha => by
   rw [List.getElem?_set] at ha
   by_cases e : j = k
   ·subst e; rw [if_pos rfl, if_pos hjl] at ha; injection ha with ha; exact .inr ⟨rfl, ha.symm⟩
   ·rw [if_neg e] at ha; exact .inl ⟨Ne.symm e, ha⟩
  have own : ∀ (k : Nat) a b, us[k]? = some a → blk a = some b → ∃ o, h.own b = some o := fun k a b ha hb => by
   have hgs : ∃ q, gs[k]? = some q := ⟨_, getElem?_of (by rw [← R.len]; exact (List.getElem?_eq_some_iff.1 ha).1)⟩
   obtain ⟨q, hq⟩ := hgs
   exact Option.ne_none_iff_exists'.1 (GS.blk_own (R.gp k a q ha hq) hb)
  refine ⟨u, u', g4, g5, g5.put M (.map ((mapG gs us).set (0 + j) (.int .i64 f, u'))), us.set j u', by simp [aLookup, Try.underlying95, Try.underlying3, R.oM, azero22, h3, Fw.flat], e4, e5, by simp only [aMapSet, Try.underlying95, Try.underlying3, oM5.1, h3], ?_, w5.put _ (w5.lt oM5.1), l4, fun b o ho hb hu => ⟨(hk b o ho (hu j u h2)).1, by rw [AHeap.own_put_ne _ _ _ _ hb]; exact (hk b o ho (hu j u h2)).1, fun k a ha => ?_⟩⟩
  ·rw [h5]
   have hz := mapG_set (l' := l ++ [p]) (u' := u') gs us j R.len h1
   have hgl := (List.getElem?_eq_some_iff.1 h1).1
   refine ⟨by rw [hz, Nat.zero_add]; exact AHeap.own_put_eq _ _ _, by simp [R.len], fun k a g ha hg => ?_, fun k a ha => ?_, fun k k' a a' b hne ha ha' hb => ?_, fun k a ha => ?_, l5.put _ R.bM, R.bM⟩
   ·rcases hset k a ha with ⟨e, xa⟩ | ⟨rfl, rfl⟩
    ·rw [List.getElem?_set, if_neg (Ne.symm e)] at hg
     exact GS.put (GS.kept (R.gp k a g xa hg) fun b o hb ho => (hk b o ho (fun hb' => R.dis k j a u b e xa h2 hb hb')).1) _ (R.nM k a xa)
    ·rw [List.getElem?_set, if_pos rfl, if_pos hgl] at hg
     injection hg with hg; subst hg
     exact GS.put gp5 _ oM5.2
   ·rcases hset k a ha with ⟨e, xa⟩ | ⟨rfl, rfl⟩
    ·exact R.nM k a xa
    ·exact oM5.2
   ·rcases hset k a ha with ⟨e, xa⟩ | ⟨rfl, rfl⟩
    ·rcases hset k' a' ha' with ⟨e', xa'⟩ | ⟨rfl, rfl⟩
     ·exact R.dis k k' a a' b hne xa xa' hb
     ·obtain ⟨o, ho⟩ := own k a b xa hb
      exact (hk b o ho (fun hb' => R.dis k k' a u b hne xa h2 hb hb')).2
    ·rcases hset k' a' ha' with ⟨e', xa'⟩ | ⟨rfl, rfl⟩
     ·intro hb'
      obtain ⟨o, ho⟩ := own k' a' b xa' hb'
      exact (hk b o ho (fun hb'' => R.dis k' k a' u b e' xa' h2 hb' hb'')).2 hb
     ·exact absurd rfl hne
   ·rcases hset k a ha with ⟨e, xa⟩ | ⟨rfl, rfl⟩
    ·exact R.ap k a xa
    ·exact a5
  ·rcases hset k a ha with ⟨_, xa⟩ | ⟨rfl, rfl⟩
   ·exact hu k a xa
   ·exact (hk b o ho (hu k u h2)).2
end Go.Fw
namespace Go.Fw
open Go.Proofs
set_option maxHeartbeats 4000000
set_option maxRecDepth 10000
theorem keysG_add (gs : List Gr) (f : Int) (p : Pr) : keysG (addG gs f p) = if f ∈ keysG gs then keysG gs else keysG gs ++ [f] := by
 induction gs with
 | nil => simp [keysG, addG]
 | cons g gs ih =>
  obtain ⟨k, l⟩ := g
  by_cases c : k = f
  ·subst c; simp [addG, keysG]
  ·have c' : ¬ f = k := fun h => c h.symm
   simp only [addG, if_neg c, keysG, List.map_cons, List.mem_cons, c', false_or] at ih ⊢
   rw [ih]; split <;> rename_i hc <;> simp [hc]
theorem keysG_nd {gs : List Gr} (h : (keysG gs).Nodup) (f : Int) (p : Pr) : (keysG (addG gs f p)).Nodup := by
 rw [keysG_add]; split
 ·exact h
 ·rename_i hn
  rw [List.nodup_append]; exact ⟨h, by simp, fun a ha b hb => by simp at hb; subst hb; exact fun e => hn (by rw [← e]; exact ha)⟩
theorem addG_ne {gs : List Gr} (h : ∀ g ∈ gs, g.2 ≠ []) (f : Int) (p : Pr) : ∀ g ∈ addG gs f p, g.2 ≠ [] := by
 induction gs with
 | nil => intro g hg; simp [addG] at hg; subst hg; simp
 | cons g gs ih =>
  obtain ⟨k, l⟩ := g
  intro x hx
  by_cases c : k = f
  ·simp only [addG, if_pos c, List.mem_cons] at hx
   rcases hx with rfl | hx
   ·simp
   ·exact h x (by simp [hx])
  ·simp only [addG, if_neg c, List.mem_cons] at hx
   rcases hx with rfl | hx
   ·exact h _ (by simp)
   ·exact ih (fun g hg => h g (by simp [hg])) x hx
theorem lstG_get {f : Int} {l : List Pr} : ∀ {gs : List Gr} {i : Nat}, (keysG gs).Nodup → gs[i]? = some (f, l) → lstG gs f = l
 | [], i, _, e => by simp at e
 | (k, l') :: gs, 0, _, e => by simp at e; obtain ⟨rfl, rfl⟩ := e; simp [lstG]
 | (k, l') :: gs, i + 1, h, e => by
  simp only [keysG, List.map_cons, List.nodup_cons] at h
  have hm : f ∈ keysG gs := List.mem_map.2 ⟨(f, l), List.mem_of_getElem? (by simpa using e), rfl⟩
  have hne : ¬ k = f := fun e => h.1 (by rw [e]; exact hm)
  rw [lstG, if_neg hne]
  exact lstG_get h.2 (by simpa using e)
theorem lstG_ne {f : Int} : ∀ {gs : List Gr}, (∀ g ∈ gs, g.2 ≠ []) → (f ∈ keysG gs ↔ lstG gs f ≠ [])
 | [], _ => by simp [keysG, lstG]
 | (k, l) :: gs, h => by
  by_cases c : k = f
  ·subst c; have h0 : l ≠ [] := h (k, l) (by simp); simp [keysG, lstG, h0]
  ·have c' : ¬ f = k := fun h => c h.symm
   have := lstG_ne (f := f) (gs := gs) fun g hg => h g (by simp [hg])
   rw [lstG, if_neg c, ← this]
   simp [keysG, c']
theorem lstG_len (f : Int) : ∀ (gs : List Gr) (m : Nat), (∀ g ∈ gs, g.2.length ≤ m) → (lstG gs f).length ≤ m
 | [], m, _ => by simp [lstG]
 | (k, l) :: gs, m, h => by
  by_cases c : k = f
  ·rw [lstG, if_pos c]; exact h (k, l) (by simp)
  ·rw [lstG, if_neg c]; exact lstG_len f gs m fun g hg => h g (by simp [hg])
theorem addG_len (f : Int) (p : Pr) : ∀ (gs : List Gr) (m : Nat), (∀ g ∈ gs, g.2.length ≤ m) → ∀ g ∈ addG gs f p, g.2.length ≤ m + 1
 | [], m, _ => fun g hg => by simp [addG] at hg; subst hg; simp
 | (k, l) :: gs, m, h => fun g hg => by
  have hl := h (k, l) (by simp)
  by_cases c : k = f
  ·simp only [addG, if_pos c, List.mem_cons] at hg
   rcases hg with rfl | hg
   ·simp at hl ⊢; omega
   ·have := h g (by simp [hg]); omega
  ·simp only [addG, if_neg c, List.mem_cons] at hg
   rcases hg with rfl | hg
   ·simp at hl ⊢; omega
   ·exact addG_len f p gs m (fun g hg => h g (by simp [hg])) g hg
def grpsM (fr : Pr → Nat → Int) (es web : List Pr) : Nat → List Gr
  | 0 => []
  | i + 1 => match es[i]? with
    | some p => if p ∈ web then grpsM fr es web i else addG (grpsM fr es web i) (fr p i) p
    | none => grpsM fr es web i
theorem grpsM_in {fr : Pr → Nat → Int} {es web : List Pr} {i : Nat} {p : Pr} (h : es[i]? = some p) (hw : p ∈ web) : grpsM fr es web (i + 1) = grpsM fr es web i := by simp [grpsM, h, hw]
theorem grpsM_out {fr : Pr → Nat → Int} {es web : List Pr} {i : Nat} {p : Pr} (h : es[i]? = some p) (hw : p ∉ web) : grpsM fr es web (i + 1) = addG (grpsM fr es web i) (fr p i) p := by simp [grpsM, h, hw]
theorem grpsM_ok (fr : Pr → Nat → Int) (es web : List Pr) (i : Nat) : (keysG (grpsM fr es web i)).Nodup ∧ (∀ g ∈ grpsM fr es web i, g.2 ≠ []) ∧ (∀ g ∈ grpsM fr es web i, g.2.length ≤ i) ∧ (grpsM fr es web i).length ≤ i ∧ ∀ g ∈ grpsM fr es web i, ∀ p ∈ g.2, p ∈ es := by
  have add_mem : ∀ (gs : List Gr) (f : Int) (p : Pr), (∀ g ∈ gs, ∀ q ∈ g.2, q ∈ es) → p ∈ es → ∀ g ∈ addG gs f p, ∀ q ∈ g.2, q ∈ es := by
    intro gs f p
    induction gs with
    | nil => intro _ hp g hg; simp [addG] at hg; subst hg; simpa using hp
    | cons g gs ih =>
      obtain ⟨k, l⟩ := g
      intro h hp x hx
      by_cases c : k = f
      · simp only [addG, if_pos c, List.mem_cons] at hx
        rcases hx with rfl | hx
        · intro q hq; simp only [List.mem_append, List.mem_singleton] at hq
          rcases hq with hq | rfl
          · exact h (k, l) (by simp) q hq
          · exact hp
        · exact h x (by simp [hx])
      · simp only [addG, if_neg c, List.mem_cons] at hx
        rcases hx with rfl | hx
        · exact h _ (by simp)
        · exact ih (fun g hg => h g (by simp [hg])) hp x hx
  have add_length : ∀ (gs : List Gr) (f : Int) (p : Pr), (addG gs f p).length ≤ gs.length + 1 := by
    intro gs f p
    induction gs with
    | nil => simp [addG]
    | cons g gs ih => obtain ⟨k, l⟩ := g; simp only [addG]; split <;> simp <;> omega
  induction i with
  | zero => simp [grpsM, keysG]
  | succ i ih =>
    obtain ⟨h1, h2, h3, h4, h5⟩ := ih
    have up : ∀ g ∈ grpsM fr es web i, g.2.length ≤ i + 1 := fun g hg => by have := h3 g hg; omega
    cases hp : es[i]? with
    | none => have : grpsM fr es web (i + 1) = grpsM fr es web i := by simp [grpsM, hp]
              rw [this]; exact ⟨h1, h2, up, by omega, h5⟩
    | some p =>
      by_cases c : p ∈ web
      · rw [grpsM_in hp c]; exact ⟨h1, h2, up, by omega, h5⟩
      · rw [grpsM_out hp c]
        exact ⟨keysG_nd h1 _ _, addG_ne h2 _ _, addG_len _ _ _ _ h3, by have := add_length (grpsM fr es web i) (fr p i) p; omega, add_mem _ _ _ h5 (List.mem_of_getElem? hp)⟩
structure FM where
 edges : List Pr
 feet : List Int
def FL (h : AHeap) (v : Value) (fs : List FM) : Prop := ∃ cs, CS 2 h v fs.length cs ∧ ∀ (i : Nat) f, fs[i]? = some f → ∃ a b, cs[i * 2]? = some a ∧ cs[i * 2 + 1]? = some b ∧ PR h a f.edges ∧ RL isI h b f.feet
theorem FL.le {h h' : AHeap} {v : Value} {fs : List FM} (r : FL h v fs) (e : Le h h') : FL h' v fs := by
 obtain ⟨cs, h1, h2⟩ := r
 exact ⟨cs, h1.le e, fun i f hf => by obtain ⟨a, b, q1, q2, q3, q4⟩ := h2 i f hf; exact ⟨a, b, q1, q2, q3.le e, q4.le Stays.isI e⟩⟩
theorem FL.nil (h : AHeap) : FL h (.slice none 0 0) [] := ⟨[], CS.nil 2 h, fun i f hf => by simp at hf⟩
theorem ts41 : tsize Try.prog 40 = 2 := by kernel_rfl
theorem mkFr (h : AHeap) (n : Nat) (hn : n ≤ 100000) : ∃ c, aMakeSlice Try.prog h 35 (.int .i64 (n : Int)) (.int .i64 (n : Int)) = some (.slice (some ⟨h.next, 0, none⟩) n n, h.alloc (.cells c)) ∧ c.length = n * 2 := by
 have hz : azero Try.prog 40 = some (.agg #[.slice none 0 0, .slice none 0 0]) := by kernel_rfl
 have hb : (Try.prog.bytesOf 40).ble 1000 = true := by kernel_rfl
 have b1 : (Try.prog.bytesOf 40 : Int) * n ≤ 140737488355328 := by
  have : Try.prog.bytesOf 40 * n ≤ 1000 * 1000000 := Nat.mul_le_mul (Nat.le_of_ble_eq_true hb) (by omega)
  have h2 : ((Try.prog.bytesOf 40 * n : Nat) : Int) ≤ 1000000000 := by omega
  rw [Int.natCast_mul] at h2; omega
 have b2 : (n : Int) ≤ 140737488355328 := by omega
 have hc : (Value.agg #[.slice none 0 0, .slice none 0 0]).cells = #[.slice none 0 0, .slice none 0 0] := rfl
 have ho : (zrow [Value.slice none 0 0, Value.slice none 0 0] n).all (·.oneCell') = true := by
  clear b1 b2 hn
  induction n with
  | zero => rfl
  | succ n ih => simp only [zrow, List.all_append, ih, Bool.and_true]; rfl
 refine ⟨zrow [.slice none 0 0, .slice none 0 0] n, ?_, by rw [zrow_length]; rfl⟩
 simp [aMakeSlice, Try.underlying35, Try.underlying40, hz, hc, ts41, b1, b2, aNewRow, ho, Fw.flat]
theorem stFr {h : AHeap} {F i : Nat} {c : List Value} {a b : Value} {ps : List Pr} {xs : List Int} (ho : h.own F = some (.cells c)) (hi : i * 2 + 2 ≤ c.length) (ha : PR h a ps) (hb : RL isI h b xs) :
  aStore Try.prog h 40 (.pointer (some ⟨F, i * 2, none⟩)) (.agg #[a, b]) = some (h.put F (.cells ((c.set (i * 2) a).set (i * 2 + 1) b))) := by
 have h1 := ha.sl.one
 have h2 := hb.one
 have hc : (Value.agg #[a, b]).cells = #[a, b] := rfl
 simp [aStore, ho, hc, ts41, putCells, Try.underlying40, h1, h2, hi]
end Go.Fw
