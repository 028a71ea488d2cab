/-
  No cell of these rows narrows 'for every input' (looked for: loops, veiled, ifaces, maps, wideKeys, modest, calm, conditions, laid).
  DERIVED. THE GIVEN ROWS OF THIS SEAT. 11 by the template 'for every input the law returns true; each argument reads behind the call as it read before'; 0 by the template 'total and deterministic' (their statements: YtnaahaldkpdjlaaTotals.lean).
  GIVEN WITH THE SEED: the statements are not yours to turn. If you find one false, say at which input.
  Laid BY PROGRAM, IN A SANDBOX (cutbox-rows.mjs): the forced cells as the released guide's own fill.sh prints them over the translation fdc4fbb8545bae57… (all of the seat's roots in one cut). By AI agents, Wed Nov 11 2026. No macro, syntax, notation, axiom, sorry.
-/
import Derived.Test.YtnaahaldkpdjlaaChecked
import GoSem.Claim
import GoSem.ClaimJoined
import GoSem.ClaimMapViews
import Derived.JoinedTies
import Derived.KernelRfl
namespace Go.Proofs.Ytnaahaldkpdjlaa
/- THE CELL 'sum', in the pinned program and in every row, IS THE sha256 OF THE DUMP (.gsa) THAT YtnaahaldkpdjlaaProg.lean LOADS. Nothing in Lean hashes anything: it is a label: what it is worth is what the hold of that sum in a sandbox is worth. -/
noncomputable def Try.pinned : Pinned := { name := "ytnaahaldkpdjlaa", sum := "fdc4fbb8545bae5776b0694884c085e797c749f461b414ad43ff2df5e66ec97a", checked := Try.checked }
namespace Rows
def none {H : Type} : Left H := { results := [], args := [] }

/-- 'fretworklaw08.BridgeTwo': WHATEVER THE INPUT: true; the input reads as it did. -/
def bridgeTwoSpec : ChangeSpec := { name := "bridgeTwo", fn := fun _ => fun
  | [d1, d2] => { results := [.lit (.bool true)], args := [d1, d2] }
  | _ => none }
def bridgeTwoRow : OpenClaim := { program := "ytnaahaldkpdjlaa", sum := "fdc4fbb8545bae5776b0694884c085e797c749f461b414ad43ff2df5e66ec97a", func := "fretwork/fretworklaw08.BridgeTwo", spec := "bridgeTwo", unfollowed := true, recurses := true, plainKeys := false, apart := false }
def BridgeTwoSaid : Prop := bridgeTwoRow.holds Try.pinned (OpenSpec.ofChange bridgeTwoSpec)

/-- ITS FALSE NEIGHBOUR: 'it returns false'. Refute it at one input. -/
def bridgeTwoWrong : ChangeSpec := { name := "bridgeTwo", fn := fun _ => fun
  | [d1, d2] => { results := [.lit (.bool false)], args := [d1, d2] }
  | _ => none }
def BridgeTwoWrongFalsely : Prop := bridgeTwoRow.holds Try.pinned (OpenSpec.ofChange bridgeTwoWrong)

/-- 'fretworklaw08.BridgeNames': WHATEVER THE INPUT: true; the input reads as it did. -/
def bridgeNamesSpec : ChangeSpec := { name := "bridgeNames", fn := fun _ => fun
  | [d1, d2, d3] => { results := [.lit (.bool true)], args := [d1, d2, d3] }
  | _ => none }
def bridgeNamesRow : OpenClaim := { program := "ytnaahaldkpdjlaa", sum := "fdc4fbb8545bae5776b0694884c085e797c749f461b414ad43ff2df5e66ec97a", func := "fretwork/fretworklaw08.BridgeNames", spec := "bridgeNames", unfollowed := true, recurses := true, plainKeys := false, apart := false }
def BridgeNamesSaid : Prop := bridgeNamesRow.holds Try.pinned (OpenSpec.ofChange bridgeNamesSpec)

/-- ITS FALSE NEIGHBOUR: 'it returns false'. Refute it at one input. -/
def bridgeNamesWrong : ChangeSpec := { name := "bridgeNames", fn := fun _ => fun
  | [d1, d2, d3] => { results := [.lit (.bool false)], args := [d1, d2, d3] }
  | _ => none }
def BridgeNamesWrongFalsely : Prop := bridgeNamesRow.holds Try.pinned (OpenSpec.ofChange bridgeNamesWrong)

/-- 'fretworklaw07.FacesTurned': WHATEVER THE INPUT: true; the input reads as it did. -/
def facesTurnedSpec : ChangeSpec := { name := "facesTurned", fn := fun _ => fun
  | [d1, d2, d3] => { results := [.lit (.bool true)], args := [d1, d2, d3] }
  | _ => none }
def facesTurnedRow : OpenClaim := { program := "ytnaahaldkpdjlaa", sum := "fdc4fbb8545bae5776b0694884c085e797c749f461b414ad43ff2df5e66ec97a", func := "fretwork/fretworklaw07.FacesTurned", spec := "facesTurned", unfollowed := true, recurses := true, plainKeys := false, apart := false }
def FacesTurnedSaid : Prop := facesTurnedRow.holds Try.pinned (OpenSpec.ofChange facesTurnedSpec)

/-- ITS FALSE NEIGHBOUR: 'it returns false'. Refute it at one input. -/
def facesTurnedWrong : ChangeSpec := { name := "facesTurned", fn := fun _ => fun
  | [d1, d2, d3] => { results := [.lit (.bool false)], args := [d1, d2, d3] }
  | _ => none }
def FacesTurnedWrongFalsely : Prop := facesTurnedRow.holds Try.pinned (OpenSpec.ofChange facesTurnedWrong)

/-- 'fretworklaw07.FacesTrees': WHATEVER THE INPUT: true; the input reads as it did. -/
def facesTreesSpec : ChangeSpec := { name := "facesTrees", fn := fun _ => fun
  | [d1, d2] => { results := [.lit (.bool true)], args := [d1, d2] }
  | _ => none }
def facesTreesRow : OpenClaim := { program := "ytnaahaldkpdjlaa", sum := "fdc4fbb8545bae5776b0694884c085e797c749f461b414ad43ff2df5e66ec97a", func := "fretwork/fretworklaw07.FacesTrees", spec := "facesTrees", unfollowed := true, recurses := true, plainKeys := false, apart := false }
def FacesTreesSaid : Prop := facesTreesRow.holds Try.pinned (OpenSpec.ofChange facesTreesSpec)

/-- ITS FALSE NEIGHBOUR: 'it returns false'. Refute it at one input. -/
def facesTreesWrong : ChangeSpec := { name := "facesTrees", fn := fun _ => fun
  | [d1, d2] => { results := [.lit (.bool false)], args := [d1, d2] }
  | _ => none }
def FacesTreesWrongFalsely : Prop := facesTreesRow.holds Try.pinned (OpenSpec.ofChange facesTreesWrong)

/-- 'fretworklaw07.FacesWrong': WHATEVER THE INPUT: true; the input reads as it did. -/
def facesWrongSpec : ChangeSpec := { name := "facesWrong", fn := fun _ => fun
  | [d1, d2, d3, d4] => { results := [.lit (.bool true)], args := [d1, d2, d3, d4] }
  | _ => none }
def facesWrongRow : OpenClaim := { program := "ytnaahaldkpdjlaa", sum := "fdc4fbb8545bae5776b0694884c085e797c749f461b414ad43ff2df5e66ec97a", func := "fretwork/fretworklaw07.FacesWrong", spec := "facesWrong", unfollowed := true, recurses := true, plainKeys := false, apart := false }
def FacesWrongSaid : Prop := facesWrongRow.holds Try.pinned (OpenSpec.ofChange facesWrongSpec)

/-- ITS FALSE NEIGHBOUR: 'it returns false'. Refute it at one input. -/
def facesWrongWrong : ChangeSpec := { name := "facesWrong", fn := fun _ => fun
  | [d1, d2, d3, d4] => { results := [.lit (.bool false)], args := [d1, d2, d3, d4] }
  | _ => none }
def FacesWrongWrongFalsely : Prop := facesWrongRow.holds Try.pinned (OpenSpec.ofChange facesWrongWrong)

/-- 'fretworklaw07.FacesPlane': WHATEVER THE INPUT: true; the input reads as it did. -/
def facesPlaneSpec : ChangeSpec := { name := "facesPlane", fn := fun _ => fun
  | [d1, d2] => { results := [.lit (.bool true)], args := [d1, d2] }
  | _ => none }
def facesPlaneRow : OpenClaim := { program := "ytnaahaldkpdjlaa", sum := "fdc4fbb8545bae5776b0694884c085e797c749f461b414ad43ff2df5e66ec97a", func := "fretwork/fretworklaw07.FacesPlane", spec := "facesPlane", unfollowed := true, recurses := true, plainKeys := false, apart := false }
def FacesPlaneSaid : Prop := facesPlaneRow.holds Try.pinned (OpenSpec.ofChange facesPlaneSpec)

/-- ITS FALSE NEIGHBOUR: 'it returns false'. Refute it at one input. -/
def facesPlaneWrong : ChangeSpec := { name := "facesPlane", fn := fun _ => fun
  | [d1, d2] => { results := [.lit (.bool false)], args := [d1, d2] }
  | _ => none }
def FacesPlaneWrongFalsely : Prop := facesPlaneRow.holds Try.pinned (OpenSpec.ofChange facesPlaneWrong)

/-- 'fretworklaw07.FacesTells': WHATEVER THE INPUT: true; the input reads as it did. -/
def facesTellsSpec : ChangeSpec := { name := "facesTells", fn := fun _ => fun
  | [d1, d2] => { results := [.lit (.bool true)], args := [d1, d2] }
  | _ => none }
def facesTellsRow : OpenClaim := { program := "ytnaahaldkpdjlaa", sum := "fdc4fbb8545bae5776b0694884c085e797c749f461b414ad43ff2df5e66ec97a", func := "fretwork/fretworklaw07.FacesTells", spec := "facesTells", unfollowed := true, recurses := true, plainKeys := false, apart := false }
def FacesTellsSaid : Prop := facesTellsRow.holds Try.pinned (OpenSpec.ofChange facesTellsSpec)

/-- ITS FALSE NEIGHBOUR: 'it returns false'. Refute it at one input. -/
def facesTellsWrong : ChangeSpec := { name := "facesTells", fn := fun _ => fun
  | [d1, d2] => { results := [.lit (.bool false)], args := [d1, d2] }
  | _ => none }
def FacesTellsWrongFalsely : Prop := facesTellsRow.holds Try.pinned (OpenSpec.ofChange facesTellsWrong)

/-- 'fretworklaw07.FacesMirror': WHATEVER THE INPUT: true; the input reads as it did. -/
def facesMirrorSpec : ChangeSpec := { name := "facesMirror", fn := fun _ => fun
  | [d1, d2] => { results := [.lit (.bool true)], args := [d1, d2] }
  | _ => none }
def facesMirrorRow : OpenClaim := { program := "ytnaahaldkpdjlaa", sum := "fdc4fbb8545bae5776b0694884c085e797c749f461b414ad43ff2df5e66ec97a", func := "fretwork/fretworklaw07.FacesMirror", spec := "facesMirror", unfollowed := true, recurses := true, plainKeys := false, apart := false }
def FacesMirrorSaid : Prop := facesMirrorRow.holds Try.pinned (OpenSpec.ofChange facesMirrorSpec)

/-- ITS FALSE NEIGHBOUR: 'it returns false'. Refute it at one input. -/
def facesMirrorWrong : ChangeSpec := { name := "facesMirror", fn := fun _ => fun
  | [d1, d2] => { results := [.lit (.bool false)], args := [d1, d2] }
  | _ => none }
def FacesMirrorWrongFalsely : Prop := facesMirrorRow.holds Try.pinned (OpenSpec.ofChange facesMirrorWrong)

/-- 'fretworklaw07.FacesDarts': WHATEVER THE INPUT: true; the input reads as it did. -/
def facesDartsSpec : ChangeSpec := { name := "facesDarts", fn := fun _ => fun
  | [d1, d2] => { results := [.lit (.bool true)], args := [d1, d2] }
  | _ => none }
def facesDartsRow : OpenClaim := { program := "ytnaahaldkpdjlaa", sum := "fdc4fbb8545bae5776b0694884c085e797c749f461b414ad43ff2df5e66ec97a", func := "fretwork/fretworklaw07.FacesDarts", spec := "facesDarts", unfollowed := true, recurses := true, plainKeys := false, apart := false }
def FacesDartsSaid : Prop := facesDartsRow.holds Try.pinned (OpenSpec.ofChange facesDartsSpec)

/-- ITS FALSE NEIGHBOUR: 'it returns false'. Refute it at one input. -/
def facesDartsWrong : ChangeSpec := { name := "facesDarts", fn := fun _ => fun
  | [d1, d2] => { results := [.lit (.bool false)], args := [d1, d2] }
  | _ => none }
def FacesDartsWrongFalsely : Prop := facesDartsRow.holds Try.pinned (OpenSpec.ofChange facesDartsWrong)

/-- 'fretworklaw06.BlocksCentre': WHATEVER THE INPUT: true; the input reads as it did. -/
def blocksCentreSpec : ChangeSpec := { name := "blocksCentre", fn := fun _ => fun
  | [d] => { results := [.lit (.bool true)], args := [d] }
  | _ => none }
def blocksCentreRow : OpenClaim := { program := "ytnaahaldkpdjlaa", sum := "fdc4fbb8545bae5776b0694884c085e797c749f461b414ad43ff2df5e66ec97a", func := "fretwork/fretworklaw06.BlocksCentre", spec := "blocksCentre", unfollowed := true, recurses := true, plainKeys := false, apart := false }
def BlocksCentreSaid : Prop := blocksCentreRow.holds Try.pinned (OpenSpec.ofChange blocksCentreSpec)

/-- ITS FALSE NEIGHBOUR: 'it returns false'. Refute it at one input. -/
def blocksCentreWrong : ChangeSpec := { name := "blocksCentre", fn := fun _ => fun
  | [d] => { results := [.lit (.bool false)], args := [d] }
  | _ => none }
def BlocksCentreWrongFalsely : Prop := blocksCentreRow.holds Try.pinned (OpenSpec.ofChange blocksCentreWrong)

/-- 'fretworklaw06.BlocksNames': WHATEVER THE INPUT: true; the input reads as it did. -/
def blocksNamesSpec : ChangeSpec := { name := "blocksNames", fn := fun _ => fun
  | [d1, d2] => { results := [.lit (.bool true)], args := [d1, d2] }
  | _ => none }
def blocksNamesRow : OpenClaim := { program := "ytnaahaldkpdjlaa", sum := "fdc4fbb8545bae5776b0694884c085e797c749f461b414ad43ff2df5e66ec97a", func := "fretwork/fretworklaw06.BlocksNames", spec := "blocksNames", unfollowed := true, recurses := true, plainKeys := false, apart := false }
def BlocksNamesSaid : Prop := blocksNamesRow.holds Try.pinned (OpenSpec.ofChange blocksNamesSpec)

/-- ITS FALSE NEIGHBOUR: 'it returns false'. Refute it at one input. -/
def blocksNamesWrong : ChangeSpec := { name := "blocksNames", fn := fun _ => fun
  | [d1, d2] => { results := [.lit (.bool false)], args := [d1, d2] }
  | _ => none }
def BlocksNamesWrongFalsely : Prop := blocksNamesRow.holds Try.pinned (OpenSpec.ofChange blocksNamesWrong)

/- THE SECOND FORM. 'bulk': how many values and letters a reading holds, each counted each time it is reached (what is shared counts as often as it is met; a slice's spare places count too). A statement '..UptoSaid' is the law's where the arguments, and the package variables that the reading takes, are together of bulk at most 1048576: NARROWER than '..Said'. Prove '..Said' where nothing that the law and all that it calls make is longer than what came in: it says more and counts as full. Else prove '..UptoSaid'. A law counts once. -/
mutual
def uptoBulk {H : Type} : DataW H → Nat
  | .lit (.string bytes) => bytes.length + 1
  | .lit _ => 1
  | .nil => 1
  | .ptr d => uptoBulk d + 1
  | .slice elems spare => uptoBulkAll elems + uptoBulkAll spare + 1
  | .agg parts => uptoBulkAll parts + 1
  | .iface _ d => uptoBulk d + 1
  | .map entries => uptoBulkEntries entries + 1
  | .held _ => 1
def uptoBulkAll {H : Type} : List (DataW H) → Nat
  | [] => 0
  | d :: r => uptoBulk d + uptoBulkAll r
def uptoBulkEntries {H : Type} : List (Lit × DataW H) → Nat
  | [] => 0
  | x :: r => uptoBulkEntry x + uptoBulkEntries r
def uptoBulkEntry {H : Type} : Lit × DataW H → Nat
  | (.string bytes, d) => bytes.length + uptoBulk d + 1
  | (_, d) => uptoBulk d + 1
 end
def uptoSmall : (H : Type) → List (DataW H) → Bool := fun _ ds => decide (uptoBulkAll ds ≤ 1048576)
def OpenSpec.upto (s : _root_.Go.ChangeSpec) : _root_.Go.OpenSpec := { _root_.Go.OpenSpec.ofChange s with cond := some uptoSmall }

/-- 'fretworklaw08.BridgeTwo', WHERE WHAT IT READS IS OF BULK AT MOST 1048576: true; the input reads as it did. -/
def bridgeTwoUptoRow : OpenClaim := { program := "ytnaahaldkpdjlaa", sum := "fdc4fbb8545bae5776b0694884c085e797c749f461b414ad43ff2df5e66ec97a", func := "fretwork/fretworklaw08.BridgeTwo", spec := "bridgeTwo", unfollowed := true, recurses := true, plainKeys := false, apart := false, narrowed := true }
def BridgeTwoUptoSaid : Prop := bridgeTwoUptoRow.holds Try.pinned (OpenSpec.upto bridgeTwoSpec)

/-- 'fretworklaw08.BridgeNames', WHERE WHAT IT READS IS OF BULK AT MOST 1048576: true; the input reads as it did. -/
def bridgeNamesUptoRow : OpenClaim := { program := "ytnaahaldkpdjlaa", sum := "fdc4fbb8545bae5776b0694884c085e797c749f461b414ad43ff2df5e66ec97a", func := "fretwork/fretworklaw08.BridgeNames", spec := "bridgeNames", unfollowed := true, recurses := true, plainKeys := false, apart := false, narrowed := true }
def BridgeNamesUptoSaid : Prop := bridgeNamesUptoRow.holds Try.pinned (OpenSpec.upto bridgeNamesSpec)

/-- 'fretworklaw07.FacesTurned', WHERE WHAT IT READS IS OF BULK AT MOST 1048576: true; the input reads as it did. -/
def facesTurnedUptoRow : OpenClaim := { program := "ytnaahaldkpdjlaa", sum := "fdc4fbb8545bae5776b0694884c085e797c749f461b414ad43ff2df5e66ec97a", func := "fretwork/fretworklaw07.FacesTurned", spec := "facesTurned", unfollowed := true, recurses := true, plainKeys := false, apart := false, narrowed := true }
def FacesTurnedUptoSaid : Prop := facesTurnedUptoRow.holds Try.pinned (OpenSpec.upto facesTurnedSpec)

/-- 'fretworklaw07.FacesTrees', WHERE WHAT IT READS IS OF BULK AT MOST 1048576: true; the input reads as it did. -/
def facesTreesUptoRow : OpenClaim := { program := "ytnaahaldkpdjlaa", sum := "fdc4fbb8545bae5776b0694884c085e797c749f461b414ad43ff2df5e66ec97a", func := "fretwork/fretworklaw07.FacesTrees", spec := "facesTrees", unfollowed := true, recurses := true, plainKeys := false, apart := false, narrowed := true }
def FacesTreesUptoSaid : Prop := facesTreesUptoRow.holds Try.pinned (OpenSpec.upto facesTreesSpec)

/-- 'fretworklaw07.FacesWrong', WHERE WHAT IT READS IS OF BULK AT MOST 1048576: true; the input reads as it did. -/
def facesWrongUptoRow : OpenClaim := { program := "ytnaahaldkpdjlaa", sum := "fdc4fbb8545bae5776b0694884c085e797c749f461b414ad43ff2df5e66ec97a", func := "fretwork/fretworklaw07.FacesWrong", spec := "facesWrong", unfollowed := true, recurses := true, plainKeys := false, apart := false, narrowed := true }
def FacesWrongUptoSaid : Prop := facesWrongUptoRow.holds Try.pinned (OpenSpec.upto facesWrongSpec)

/-- 'fretworklaw07.FacesPlane', WHERE WHAT IT READS IS OF BULK AT MOST 1048576: true; the input reads as it did. -/
def facesPlaneUptoRow : OpenClaim := { program := "ytnaahaldkpdjlaa", sum := "fdc4fbb8545bae5776b0694884c085e797c749f461b414ad43ff2df5e66ec97a", func := "fretwork/fretworklaw07.FacesPlane", spec := "facesPlane", unfollowed := true, recurses := true, plainKeys := false, apart := false, narrowed := true }
def FacesPlaneUptoSaid : Prop := facesPlaneUptoRow.holds Try.pinned (OpenSpec.upto facesPlaneSpec)

/-- 'fretworklaw07.FacesTells', WHERE WHAT IT READS IS OF BULK AT MOST 1048576: true; the input reads as it did. -/
def facesTellsUptoRow : OpenClaim := { program := "ytnaahaldkpdjlaa", sum := "fdc4fbb8545bae5776b0694884c085e797c749f461b414ad43ff2df5e66ec97a", func := "fretwork/fretworklaw07.FacesTells", spec := "facesTells", unfollowed := true, recurses := true, plainKeys := false, apart := false, narrowed := true }
def FacesTellsUptoSaid : Prop := facesTellsUptoRow.holds Try.pinned (OpenSpec.upto facesTellsSpec)

/-- 'fretworklaw07.FacesMirror', WHERE WHAT IT READS IS OF BULK AT MOST 1048576: true; the input reads as it did. -/
def facesMirrorUptoRow : OpenClaim := { program := "ytnaahaldkpdjlaa", sum := "fdc4fbb8545bae5776b0694884c085e797c749f461b414ad43ff2df5e66ec97a", func := "fretwork/fretworklaw07.FacesMirror", spec := "facesMirror", unfollowed := true, recurses := true, plainKeys := false, apart := false, narrowed := true }
def FacesMirrorUptoSaid : Prop := facesMirrorUptoRow.holds Try.pinned (OpenSpec.upto facesMirrorSpec)

/-- 'fretworklaw07.FacesDarts', WHERE WHAT IT READS IS OF BULK AT MOST 1048576: true; the input reads as it did. -/
def facesDartsUptoRow : OpenClaim := { program := "ytnaahaldkpdjlaa", sum := "fdc4fbb8545bae5776b0694884c085e797c749f461b414ad43ff2df5e66ec97a", func := "fretwork/fretworklaw07.FacesDarts", spec := "facesDarts", unfollowed := true, recurses := true, plainKeys := false, apart := false, narrowed := true }
def FacesDartsUptoSaid : Prop := facesDartsUptoRow.holds Try.pinned (OpenSpec.upto facesDartsSpec)

/-- 'fretworklaw06.BlocksCentre', WHERE WHAT IT READS IS OF BULK AT MOST 1048576: true; the input reads as it did. -/
def blocksCentreUptoRow : OpenClaim := { program := "ytnaahaldkpdjlaa", sum := "fdc4fbb8545bae5776b0694884c085e797c749f461b414ad43ff2df5e66ec97a", func := "fretwork/fretworklaw06.BlocksCentre", spec := "blocksCentre", unfollowed := true, recurses := true, plainKeys := false, apart := false, narrowed := true }
def BlocksCentreUptoSaid : Prop := blocksCentreUptoRow.holds Try.pinned (OpenSpec.upto blocksCentreSpec)

/-- 'fretworklaw06.BlocksNames', WHERE WHAT IT READS IS OF BULK AT MOST 1048576: true; the input reads as it did. -/
def blocksNamesUptoRow : OpenClaim := { program := "ytnaahaldkpdjlaa", sum := "fdc4fbb8545bae5776b0694884c085e797c749f461b414ad43ff2df5e66ec97a", func := "fretwork/fretworklaw06.BlocksNames", spec := "blocksNames", unfollowed := true, recurses := true, plainKeys := false, apart := false, narrowed := true }
def BlocksNamesUptoSaid : Prop := blocksNamesUptoRow.holds Try.pinned (OpenSpec.upto blocksNamesSpec)

end Rows
end Go.Proofs.Ytnaahaldkpdjlaa
