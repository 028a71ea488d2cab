/-
  No cell of these rows narrows 'for every input' (looked for: loops, veiled, ifaces, maps, wideKeys, modest, calm, conditions, laid).
  DERIVED. THE GIVEN ROWS OF THIS SEAT. 8 by the template 'for every input the law returns true; each argument reads behind the call as it read before'; 0 by the template 'total and deterministic' (their statements: YtnakkbhjoiheoaaGreatTotals.lean).
  GIVEN WITH THE SEED: the statements are not yours to turn. If you find one false, say at which input.
  Laid BY PROGRAM, IN A SANDBOX (cutbox-rows.mjs): the forced cells as the released guide's own fill.sh prints them over the translation 673d0e0fa25dbbdc… (all of the seat's roots in one cut). By AI agents, Wed Nov 11 2026. No macro, syntax, notation, axiom, sorry.
-/
import Derived.Test.YtnakkbhjoiheoaaGreatChecked
import GoSem.Claim
import GoSem.ClaimJoined
import GoSem.ClaimMapViews
import Derived.JoinedTies
import Derived.KernelRfl
namespace Go.Proofs.YtnakkbhjoiheoaaGreat
/- THE CELL 'sum', in the pinned program and in every row, IS THE sha256 OF THE DUMP (.gsa) THAT YtnakkbhjoiheoaaGreatProg.lean LOADS. Nothing in Lean hashes anything: it is a label: what it is worth is what the hold of that sum in a sandbox is worth. -/
noncomputable def Tryz.pinned : Pinned := { name := "ytnakkbhjoiheoaagreat", sum := "673d0e0fa25dbbdcffc5cf261425e357e2df2b4ec66194fe3d656f6080f56e13", checked := Tryz.checked }
namespace Rows
def none {H : Type} : Left H := { results := [], args := [] }

/-- 'fretworklaw11.PlanarTells': WHATEVER THE INPUT: true; the input reads as it did. -/
def planarTellsSpec : ChangeSpec := { name := "planarTells", fn := fun _ => fun
  | [d1, d2, d3] => { results := [.lit (.bool true)], args := [d1, d2, d3] }
  | _ => none }
def planarTellsRow : OpenClaim := { program := "ytnakkbhjoiheoaagreat", sum := "673d0e0fa25dbbdcffc5cf261425e357e2df2b4ec66194fe3d656f6080f56e13", func := "fretwork/fretworklaw11.PlanarTells", spec := "planarTells", unfollowed := true, recurses := true, plainKeys := false, apart := false }
def PlanarTellsSaid : Prop := planarTellsRow.holds Tryz.pinned (OpenSpec.ofChange planarTellsSpec)

/-- ITS FALSE NEIGHBOUR: 'it returns false'. Refute it at one input. -/
def planarTellsWrong : ChangeSpec := { name := "planarTells", fn := fun _ => fun
  | [d1, d2, d3] => { results := [.lit (.bool false)], args := [d1, d2, d3] }
  | _ => none }
def PlanarTellsWrongFalsely : Prop := planarTellsRow.holds Tryz.pinned (OpenSpec.ofChange planarTellsWrong)

/-- 'fretworklaw11.PlanarCertify': WHATEVER THE INPUT: true; the input reads as it did. -/
def planarCertifySpec : ChangeSpec := { name := "planarCertify", fn := fun _ => fun
  | [d1, d2, d3] => { results := [.lit (.bool true)], args := [d1, d2, d3] }
  | _ => none }
def planarCertifyRow : OpenClaim := { program := "ytnakkbhjoiheoaagreat", sum := "673d0e0fa25dbbdcffc5cf261425e357e2df2b4ec66194fe3d656f6080f56e13", func := "fretwork/fretworklaw11.PlanarCertify", spec := "planarCertify", unfollowed := true, recurses := true, plainKeys := false, apart := false }
def PlanarCertifySaid : Prop := planarCertifyRow.holds Tryz.pinned (OpenSpec.ofChange planarCertifySpec)

/-- ITS FALSE NEIGHBOUR: 'it returns false'. Refute it at one input. -/
def planarCertifyWrong : ChangeSpec := { name := "planarCertify", fn := fun _ => fun
  | [d1, d2, d3] => { results := [.lit (.bool false)], args := [d1, d2, d3] }
  | _ => none }
def PlanarCertifyWrongFalsely : Prop := planarCertifyRow.holds Tryz.pinned (OpenSpec.ofChange planarCertifyWrong)

/-- 'fretworklaw11.PlanarCheck': WHATEVER THE INPUT: true; the input reads as it did. -/
def planarCheckSpec : ChangeSpec := { name := "planarCheck", fn := fun _ => fun
  | [d1, d2, d3, d4] => { results := [.lit (.bool true)], args := [d1, d2, d3, d4] }
  | _ => none }
def planarCheckRow : OpenClaim := { program := "ytnakkbhjoiheoaagreat", sum := "673d0e0fa25dbbdcffc5cf261425e357e2df2b4ec66194fe3d656f6080f56e13", func := "fretwork/fretworklaw11.PlanarCheck", spec := "planarCheck", unfollowed := true, recurses := true, plainKeys := false, apart := false }
def PlanarCheckSaid : Prop := planarCheckRow.holds Tryz.pinned (OpenSpec.ofChange planarCheckSpec)

/-- ITS FALSE NEIGHBOUR: 'it returns false'. Refute it at one input. -/
def planarCheckWrong : ChangeSpec := { name := "planarCheck", fn := fun _ => fun
  | [d1, d2, d3, d4] => { results := [.lit (.bool false)], args := [d1, d2, d3, d4] }
  | _ => none }
def PlanarCheckWrongFalsely : Prop := planarCheckRow.holds Tryz.pinned (OpenSpec.ofChange planarCheckWrong)

/-- 'fretworklaw11.PlanarLess': WHATEVER THE INPUT: true; the input reads as it did. -/
def planarLessSpec : ChangeSpec := { name := "planarLess", fn := fun _ => fun
  | [d1, d2, d3, d4] => { results := [.lit (.bool true)], args := [d1, d2, d3, d4] }
  | _ => none }
def planarLessRow : OpenClaim := { program := "ytnakkbhjoiheoaagreat", sum := "673d0e0fa25dbbdcffc5cf261425e357e2df2b4ec66194fe3d656f6080f56e13", func := "fretwork/fretworklaw11.PlanarLess", spec := "planarLess", unfollowed := true, recurses := true, plainKeys := false, apart := false }
def PlanarLessSaid : Prop := planarLessRow.holds Tryz.pinned (OpenSpec.ofChange planarLessSpec)

/-- ITS FALSE NEIGHBOUR: 'it returns false'. Refute it at one input. -/
def planarLessWrong : ChangeSpec := { name := "planarLess", fn := fun _ => fun
  | [d1, d2, d3, d4] => { results := [.lit (.bool false)], args := [d1, d2, d3, d4] }
  | _ => none }
def PlanarLessWrongFalsely : Prop := planarLessRow.holds Tryz.pinned (OpenSpec.ofChange planarLessWrong)

/-- 'fretworklaw11.PlanarHung': WHATEVER THE INPUT: true; the input reads as it did. -/
def planarHungSpec : ChangeSpec := { name := "planarHung", fn := fun _ => fun
  | [d1, d2, d3, d4, d5] => { results := [.lit (.bool true)], args := [d1, d2, d3, d4, d5] }
  | _ => none }
def planarHungRow : OpenClaim := { program := "ytnakkbhjoiheoaagreat", sum := "673d0e0fa25dbbdcffc5cf261425e357e2df2b4ec66194fe3d656f6080f56e13", func := "fretwork/fretworklaw11.PlanarHung", spec := "planarHung", unfollowed := true, recurses := true, plainKeys := false, apart := false }
def PlanarHungSaid : Prop := planarHungRow.holds Tryz.pinned (OpenSpec.ofChange planarHungSpec)

/-- ITS FALSE NEIGHBOUR: 'it returns false'. Refute it at one input. -/
def planarHungWrong : ChangeSpec := { name := "planarHung", fn := fun _ => fun
  | [d1, d2, d3, d4, d5] => { results := [.lit (.bool false)], args := [d1, d2, d3, d4, d5] }
  | _ => none }
def PlanarHungWrongFalsely : Prop := planarHungRow.holds Tryz.pinned (OpenSpec.ofChange planarHungWrong)

/-- 'fretworklaw11.PlanarFaces': WHATEVER THE INPUT: true; the input reads as it did. -/
def planarFacesSpec : ChangeSpec := { name := "planarFaces", fn := fun _ => fun
  | [d] => { results := [.lit (.bool true)], args := [d] }
  | _ => none }
def planarFacesRow : OpenClaim := { program := "ytnakkbhjoiheoaagreat", sum := "673d0e0fa25dbbdcffc5cf261425e357e2df2b4ec66194fe3d656f6080f56e13", func := "fretwork/fretworklaw11.PlanarFaces", spec := "planarFaces", unfollowed := true, recurses := true, plainKeys := false, apart := false }
def PlanarFacesSaid : Prop := planarFacesRow.holds Tryz.pinned (OpenSpec.ofChange planarFacesSpec)

/-- ITS FALSE NEIGHBOUR: 'it returns false'. Refute it at one input. -/
def planarFacesWrong : ChangeSpec := { name := "planarFaces", fn := fun _ => fun
  | [d] => { results := [.lit (.bool false)], args := [d] }
  | _ => none }
def PlanarFacesWrongFalsely : Prop := planarFacesRow.holds Tryz.pinned (OpenSpec.ofChange planarFacesWrong)

/-- 'fretworklaw11.PlanarLarge': WHATEVER THE INPUT: true; the input reads as it did. -/
def planarLargeSpec : ChangeSpec := { name := "planarLarge", fn := fun _ => fun
  | [d1, d2] => { results := [.lit (.bool true)], args := [d1, d2] }
  | _ => none }
def planarLargeRow : OpenClaim := { program := "ytnakkbhjoiheoaagreat", sum := "673d0e0fa25dbbdcffc5cf261425e357e2df2b4ec66194fe3d656f6080f56e13", func := "fretwork/fretworklaw11.PlanarLarge", spec := "planarLarge", unfollowed := true, recurses := true, plainKeys := false, apart := false }
def PlanarLargeSaid : Prop := planarLargeRow.holds Tryz.pinned (OpenSpec.ofChange planarLargeSpec)

/-- ITS FALSE NEIGHBOUR: 'it returns false'. Refute it at one input. -/
def planarLargeWrong : ChangeSpec := { name := "planarLarge", fn := fun _ => fun
  | [d1, d2] => { results := [.lit (.bool false)], args := [d1, d2] }
  | _ => none }
def PlanarLargeWrongFalsely : Prop := planarLargeRow.holds Tryz.pinned (OpenSpec.ofChange planarLargeWrong)

/-- 'fretworklaw11.PlanarNames': WHATEVER THE INPUT: true; the input reads as it did. -/
def planarNamesSpec : ChangeSpec := { name := "planarNames", fn := fun _ => fun
  | [d1, d2] => { results := [.lit (.bool true)], args := [d1, d2] }
  | _ => none }
def planarNamesRow : OpenClaim := { program := "ytnakkbhjoiheoaagreat", sum := "673d0e0fa25dbbdcffc5cf261425e357e2df2b4ec66194fe3d656f6080f56e13", func := "fretwork/fretworklaw11.PlanarNames", spec := "planarNames", unfollowed := true, recurses := true, plainKeys := false, apart := false }
def PlanarNamesSaid : Prop := planarNamesRow.holds Tryz.pinned (OpenSpec.ofChange planarNamesSpec)

/-- ITS FALSE NEIGHBOUR: 'it returns false'. Refute it at one input. -/
def planarNamesWrong : ChangeSpec := { name := "planarNames", fn := fun _ => fun
  | [d1, d2] => { results := [.lit (.bool false)], args := [d1, d2] }
  | _ => none }
def PlanarNamesWrongFalsely : Prop := planarNamesRow.holds Tryz.pinned (OpenSpec.ofChange planarNamesWrong)

/- THE SECOND FORM. 'bulk': how many values and letters a reading holds, each counted each time it is reached (what is shared counts as often as it is met; a slice's spare places count too). A statement '..UptoSaid' is the law's where the arguments, and the package variables that the reading takes, are together of bulk at most 1048576: NARROWER than '..Said'. Prove '..Said' where nothing that the law and all that it calls make is longer than what came in: it says more and counts as full. Else prove '..UptoSaid'. A law counts once. -/
mutual
def uptoBulk {H : Type} : DataW H → Nat
  | .lit (.string bytes) => bytes.length + 1
  | .lit _ => 1
  | .nil => 1
  | .ptr d => uptoBulk d + 1
  | .slice elems spare => uptoBulkAll elems + uptoBulkAll spare + 1
  | .agg parts => uptoBulkAll parts + 1
  | .iface _ d => uptoBulk d + 1
  | .map entries => uptoBulkEntries entries + 1
  | .held _ => 1
def uptoBulkAll {H : Type} : List (DataW H) → Nat
  | [] => 0
  | d :: r => uptoBulk d + uptoBulkAll r
def uptoBulkEntries {H : Type} : List (Lit × DataW H) → Nat
  | [] => 0
  | x :: r => uptoBulkEntry x + uptoBulkEntries r
def uptoBulkEntry {H : Type} : Lit × DataW H → Nat
  | (.string bytes, d) => bytes.length + uptoBulk d + 1
  | (_, d) => uptoBulk d + 1
 end
def uptoSmall : (H : Type) → List (DataW H) → Bool := fun _ ds => decide (uptoBulkAll ds ≤ 1048576)
def OpenSpec.upto (s : _root_.Go.ChangeSpec) : _root_.Go.OpenSpec := { _root_.Go.OpenSpec.ofChange s with cond := some uptoSmall }

/-- 'fretworklaw11.PlanarTells', WHERE WHAT IT READS IS OF BULK AT MOST 1048576: true; the input reads as it did. -/
def planarTellsUptoRow : OpenClaim := { program := "ytnakkbhjoiheoaagreat", sum := "673d0e0fa25dbbdcffc5cf261425e357e2df2b4ec66194fe3d656f6080f56e13", func := "fretwork/fretworklaw11.PlanarTells", spec := "planarTells", unfollowed := true, recurses := true, plainKeys := false, apart := false, narrowed := true }
def PlanarTellsUptoSaid : Prop := planarTellsUptoRow.holds Tryz.pinned (OpenSpec.upto planarTellsSpec)

/-- 'fretworklaw11.PlanarCertify', WHERE WHAT IT READS IS OF BULK AT MOST 1048576: true; the input reads as it did. -/
def planarCertifyUptoRow : OpenClaim := { program := "ytnakkbhjoiheoaagreat", sum := "673d0e0fa25dbbdcffc5cf261425e357e2df2b4ec66194fe3d656f6080f56e13", func := "fretwork/fretworklaw11.PlanarCertify", spec := "planarCertify", unfollowed := true, recurses := true, plainKeys := false, apart := false, narrowed := true }
def PlanarCertifyUptoSaid : Prop := planarCertifyUptoRow.holds Tryz.pinned (OpenSpec.upto planarCertifySpec)

/-- 'fretworklaw11.PlanarCheck', WHERE WHAT IT READS IS OF BULK AT MOST 1048576: true; the input reads as it did. -/
def planarCheckUptoRow : OpenClaim := { program := "ytnakkbhjoiheoaagreat", sum := "673d0e0fa25dbbdcffc5cf261425e357e2df2b4ec66194fe3d656f6080f56e13", func := "fretwork/fretworklaw11.PlanarCheck", spec := "planarCheck", unfollowed := true, recurses := true, plainKeys := false, apart := false, narrowed := true }
def PlanarCheckUptoSaid : Prop := planarCheckUptoRow.holds Tryz.pinned (OpenSpec.upto planarCheckSpec)

/-- 'fretworklaw11.PlanarLess', WHERE WHAT IT READS IS OF BULK AT MOST 1048576: true; the input reads as it did. -/
def planarLessUptoRow : OpenClaim := { program := "ytnakkbhjoiheoaagreat", sum := "673d0e0fa25dbbdcffc5cf261425e357e2df2b4ec66194fe3d656f6080f56e13", func := "fretwork/fretworklaw11.PlanarLess", spec := "planarLess", unfollowed := true, recurses := true, plainKeys := false, apart := false, narrowed := true }
def PlanarLessUptoSaid : Prop := planarLessUptoRow.holds Tryz.pinned (OpenSpec.upto planarLessSpec)

/-- 'fretworklaw11.PlanarHung', WHERE WHAT IT READS IS OF BULK AT MOST 1048576: true; the input reads as it did. -/
def planarHungUptoRow : OpenClaim := { program := "ytnakkbhjoiheoaagreat", sum := "673d0e0fa25dbbdcffc5cf261425e357e2df2b4ec66194fe3d656f6080f56e13", func := "fretwork/fretworklaw11.PlanarHung", spec := "planarHung", unfollowed := true, recurses := true, plainKeys := false, apart := false, narrowed := true }
def PlanarHungUptoSaid : Prop := planarHungUptoRow.holds Tryz.pinned (OpenSpec.upto planarHungSpec)

/-- 'fretworklaw11.PlanarFaces', WHERE WHAT IT READS IS OF BULK AT MOST 1048576: true; the input reads as it did. -/
def planarFacesUptoRow : OpenClaim := { program := "ytnakkbhjoiheoaagreat", sum := "673d0e0fa25dbbdcffc5cf261425e357e2df2b4ec66194fe3d656f6080f56e13", func := "fretwork/fretworklaw11.PlanarFaces", spec := "planarFaces", unfollowed := true, recurses := true, plainKeys := false, apart := false, narrowed := true }
def PlanarFacesUptoSaid : Prop := planarFacesUptoRow.holds Tryz.pinned (OpenSpec.upto planarFacesSpec)

/-- 'fretworklaw11.PlanarLarge', WHERE WHAT IT READS IS OF BULK AT MOST 1048576: true; the input reads as it did. -/
def planarLargeUptoRow : OpenClaim := { program := "ytnakkbhjoiheoaagreat", sum := "673d0e0fa25dbbdcffc5cf261425e357e2df2b4ec66194fe3d656f6080f56e13", func := "fretwork/fretworklaw11.PlanarLarge", spec := "planarLarge", unfollowed := true, recurses := true, plainKeys := false, apart := false, narrowed := true }
def PlanarLargeUptoSaid : Prop := planarLargeUptoRow.holds Tryz.pinned (OpenSpec.upto planarLargeSpec)

/-- 'fretworklaw11.PlanarNames', WHERE WHAT IT READS IS OF BULK AT MOST 1048576: true; the input reads as it did. -/
def planarNamesUptoRow : OpenClaim := { program := "ytnakkbhjoiheoaagreat", sum := "673d0e0fa25dbbdcffc5cf261425e357e2df2b4ec66194fe3d656f6080f56e13", func := "fretwork/fretworklaw11.PlanarNames", spec := "planarNames", unfollowed := true, recurses := true, plainKeys := false, apart := false, narrowed := true }
def PlanarNamesUptoSaid : Prop := planarNamesUptoRow.holds Tryz.pinned (OpenSpec.upto planarNamesSpec)

end Rows
end Go.Proofs.YtnakkbhjoiheoaaGreat
