/-
  No cell of these rows narrows 'for every input' (looked for: loops, veiled, ifaces, maps, wideKeys, modest, calm, conditions, laid).
  DERIVED. THE GIVEN ROWS OF THIS SEAT. 7 by the template 'for every input the law returns true; each argument reads behind the call as it read before'; 0 by the template 'total and deterministic' (their statements: YtmakcgajgepabaaTotals.lean).
  GIVEN WITH THE SEED: the statements are not yours to turn. If you find one false, say at which input.
  Laid BY PROGRAM, IN A SANDBOX (cutbox-rows.mjs): the forced cells as the released guide's own fill.sh prints them over the translation a8b2a5b6dc607c2d… (all of the seat's roots in one cut). By AI agents, Wed Nov 11 2026. No macro, syntax, notation, axiom, sorry.
-/
import Derived.Test.YtmakcgajgepabaaChecked
import GoSem.Claim
import GoSem.ClaimJoined
import GoSem.ClaimMapViews
import Derived.JoinedTies
import Derived.KernelRfl
namespace Go.Proofs.Ytmakcgajgepabaa
/- THE CELL 'sum', in the pinned program and in every row, IS THE sha256 OF THE DUMP (.gsa) THAT YtmakcgajgepabaaProg.lean LOADS. Nothing in Lean hashes anything: it is a label: what it is worth is what the hold of that sum in a sandbox is worth. -/
noncomputable def Try.pinned : Pinned := { name := "ytmakcgajgepabaa", sum := "a8b2a5b6dc607c2d962abee38afe0cbfb5d95217787e3d2043b56478f7a9231d", checked := Try.checked }
namespace Rows
def none {H : Type} : Left H := { results := [], args := [] }

/-- 'fretworklaw08.BridgeTells': WHATEVER THE INPUT: true; the input reads as it did. -/
def bridgeTellsSpec : ChangeSpec := { name := "bridgeTells", fn := fun _ => fun
  | [d1, d2] => { results := [.lit (.bool true)], args := [d1, d2] }
  | _ => none }
def bridgeTellsRow : OpenClaim := { program := "ytmakcgajgepabaa", sum := "a8b2a5b6dc607c2d962abee38afe0cbfb5d95217787e3d2043b56478f7a9231d", func := "fretwork/fretworklaw08.BridgeTells", spec := "bridgeTells", unfollowed := true, recurses := true, plainKeys := false, apart := false }
def BridgeTellsSaid : Prop := bridgeTellsRow.holds Try.pinned (OpenSpec.ofChange bridgeTellsSpec)

/-- ITS FALSE NEIGHBOUR: 'it returns false'. Refute it at one input. -/
def bridgeTellsWrong : ChangeSpec := { name := "bridgeTells", fn := fun _ => fun
  | [d1, d2] => { results := [.lit (.bool false)], args := [d1, d2] }
  | _ => none }
def BridgeTellsWrongFalsely : Prop := bridgeTellsRow.holds Try.pinned (OpenSpec.ofChange bridgeTellsWrong)

/-- 'fretworklaw08.BridgeWays': WHATEVER THE INPUT: true; the input reads as it did. -/
def bridgeWaysSpec : ChangeSpec := { name := "bridgeWays", fn := fun _ => fun
  | [d1, d2] => { results := [.lit (.bool true)], args := [d1, d2] }
  | _ => none }
def bridgeWaysRow : OpenClaim := { program := "ytmakcgajgepabaa", sum := "a8b2a5b6dc607c2d962abee38afe0cbfb5d95217787e3d2043b56478f7a9231d", func := "fretwork/fretworklaw08.BridgeWays", spec := "bridgeWays", unfollowed := true, recurses := true, plainKeys := false, apart := false }
def BridgeWaysSaid : Prop := bridgeWaysRow.holds Try.pinned (OpenSpec.ofChange bridgeWaysSpec)

/-- ITS FALSE NEIGHBOUR: 'it returns false'. Refute it at one input. -/
def bridgeWaysWrong : ChangeSpec := { name := "bridgeWays", fn := fun _ => fun
  | [d1, d2] => { results := [.lit (.bool false)], args := [d1, d2] }
  | _ => none }
def BridgeWaysWrongFalsely : Prop := bridgeWaysRow.holds Try.pinned (OpenSpec.ofChange bridgeWaysWrong)

/-- 'fretworklaw08.BridgeEdges': WHATEVER THE INPUT: true; the input reads as it did. -/
def bridgeEdgesSpec : ChangeSpec := { name := "bridgeEdges", fn := fun _ => fun
  | [d1, d2] => { results := [.lit (.bool true)], args := [d1, d2] }
  | _ => none }
def bridgeEdgesRow : OpenClaim := { program := "ytmakcgajgepabaa", sum := "a8b2a5b6dc607c2d962abee38afe0cbfb5d95217787e3d2043b56478f7a9231d", func := "fretwork/fretworklaw08.BridgeEdges", spec := "bridgeEdges", unfollowed := true, recurses := true, plainKeys := false, apart := false }
def BridgeEdgesSaid : Prop := bridgeEdgesRow.holds Try.pinned (OpenSpec.ofChange bridgeEdgesSpec)

/-- ITS FALSE NEIGHBOUR: 'it returns false'. Refute it at one input. -/
def bridgeEdgesWrong : ChangeSpec := { name := "bridgeEdges", fn := fun _ => fun
  | [d1, d2] => { results := [.lit (.bool false)], args := [d1, d2] }
  | _ => none }
def BridgeEdgesWrongFalsely : Prop := bridgeEdgesRow.holds Try.pinned (OpenSpec.ofChange bridgeEdgesWrong)

/-- 'fretworklaw08.BridgeNone': WHATEVER THE INPUT: true; the input reads as it did. -/
def bridgeNoneSpec : ChangeSpec := { name := "bridgeNone", fn := fun _ => fun
  | [d] => { results := [.lit (.bool true)], args := [d] }
  | _ => none }
def bridgeNoneRow : OpenClaim := { program := "ytmakcgajgepabaa", sum := "a8b2a5b6dc607c2d962abee38afe0cbfb5d95217787e3d2043b56478f7a9231d", func := "fretwork/fretworklaw08.BridgeNone", spec := "bridgeNone", unfollowed := true, recurses := true, plainKeys := false, apart := false }
def BridgeNoneSaid : Prop := bridgeNoneRow.holds Try.pinned (OpenSpec.ofChange bridgeNoneSpec)

/-- ITS FALSE NEIGHBOUR: 'it returns false'. Refute it at one input. -/
def bridgeNoneWrong : ChangeSpec := { name := "bridgeNone", fn := fun _ => fun
  | [d] => { results := [.lit (.bool false)], args := [d] }
  | _ => none }
def BridgeNoneWrongFalsely : Prop := bridgeNoneRow.holds Try.pinned (OpenSpec.ofChange bridgeNoneWrong)

/-- 'fretworklaw08.BridgeTwo': WHATEVER THE INPUT: true; the input reads as it did. -/
def bridgeTwoSpec : ChangeSpec := { name := "bridgeTwo", fn := fun _ => fun
  | [d1, d2] => { results := [.lit (.bool true)], args := [d1, d2] }
  | _ => none }
def bridgeTwoRow : OpenClaim := { program := "ytmakcgajgepabaa", sum := "a8b2a5b6dc607c2d962abee38afe0cbfb5d95217787e3d2043b56478f7a9231d", func := "fretwork/fretworklaw08.BridgeTwo", spec := "bridgeTwo", unfollowed := true, recurses := true, plainKeys := false, apart := false }
def BridgeTwoSaid : Prop := bridgeTwoRow.holds Try.pinned (OpenSpec.ofChange bridgeTwoSpec)

/-- ITS FALSE NEIGHBOUR: 'it returns false'. Refute it at one input. -/
def bridgeTwoWrong : ChangeSpec := { name := "bridgeTwo", fn := fun _ => fun
  | [d1, d2] => { results := [.lit (.bool false)], args := [d1, d2] }
  | _ => none }
def BridgeTwoWrongFalsely : Prop := bridgeTwoRow.holds Try.pinned (OpenSpec.ofChange bridgeTwoWrong)

/-- 'fretworklaw08.BridgeNames': WHATEVER THE INPUT: true; the input reads as it did. -/
def bridgeNamesSpec : ChangeSpec := { name := "bridgeNames", fn := fun _ => fun
  | [d1, d2, d3] => { results := [.lit (.bool true)], args := [d1, d2, d3] }
  | _ => none }
def bridgeNamesRow : OpenClaim := { program := "ytmakcgajgepabaa", sum := "a8b2a5b6dc607c2d962abee38afe0cbfb5d95217787e3d2043b56478f7a9231d", func := "fretwork/fretworklaw08.BridgeNames", spec := "bridgeNames", unfollowed := true, recurses := true, plainKeys := false, apart := false }
def BridgeNamesSaid : Prop := bridgeNamesRow.holds Try.pinned (OpenSpec.ofChange bridgeNamesSpec)

/-- ITS FALSE NEIGHBOUR: 'it returns false'. Refute it at one input. -/
def bridgeNamesWrong : ChangeSpec := { name := "bridgeNames", fn := fun _ => fun
  | [d1, d2, d3] => { results := [.lit (.bool false)], args := [d1, d2, d3] }
  | _ => none }
def BridgeNamesWrongFalsely : Prop := bridgeNamesRow.holds Try.pinned (OpenSpec.ofChange bridgeNamesWrong)

/-- 'fretworklaw05.LowBridges': WHATEVER THE INPUT: true; the input reads as it did. -/
def lowBridgesSpec : ChangeSpec := { name := "lowBridges", fn := fun _ => fun
  | [d] => { results := [.lit (.bool true)], args := [d] }
  | _ => none }
def lowBridgesRow : OpenClaim := { program := "ytmakcgajgepabaa", sum := "a8b2a5b6dc607c2d962abee38afe0cbfb5d95217787e3d2043b56478f7a9231d", func := "fretwork/fretworklaw05.LowBridges", spec := "lowBridges", unfollowed := true, recurses := true, plainKeys := false, apart := false }
def LowBridgesSaid : Prop := lowBridgesRow.holds Try.pinned (OpenSpec.ofChange lowBridgesSpec)

/-- ITS FALSE NEIGHBOUR: 'it returns false'. Refute it at one input. -/
def lowBridgesWrong : ChangeSpec := { name := "lowBridges", fn := fun _ => fun
  | [d] => { results := [.lit (.bool false)], args := [d] }
  | _ => none }
def LowBridgesWrongFalsely : Prop := lowBridgesRow.holds Try.pinned (OpenSpec.ofChange lowBridgesWrong)

/- THE SECOND FORM. 'bulk': how many values and letters a reading holds, each counted each time it is reached (what is shared counts as often as it is met; a slice's spare places count too). A statement '..UptoSaid' is the law's where the arguments, and the package variables that the reading takes, are together of bulk at most 1048576: NARROWER than '..Said'. Prove '..Said' where nothing that the law and all that it calls make is longer than what came in: it says more and counts as full. Else prove '..UptoSaid'. A law counts once. -/
mutual
def uptoBulk {H : Type} : DataW H → Nat
  | .lit (.string bytes) => bytes.length + 1
  | .lit _ => 1
  | .nil => 1
  | .ptr d => uptoBulk d + 1
  | .slice elems spare => uptoBulkAll elems + uptoBulkAll spare + 1
  | .agg parts => uptoBulkAll parts + 1
  | .iface _ d => uptoBulk d + 1
  | .map entries => uptoBulkEntries entries + 1
  | .held _ => 1
def uptoBulkAll {H : Type} : List (DataW H) → Nat
  | [] => 0
  | d :: r => uptoBulk d + uptoBulkAll r
def uptoBulkEntries {H : Type} : List (Lit × DataW H) → Nat
  | [] => 0
  | x :: r => uptoBulkEntry x + uptoBulkEntries r
def uptoBulkEntry {H : Type} : Lit × DataW H → Nat
  | (.string bytes, d) => bytes.length + uptoBulk d + 1
  | (_, d) => uptoBulk d + 1
 end
def uptoSmall : (H : Type) → List (DataW H) → Bool := fun _ ds => decide (uptoBulkAll ds ≤ 1048576)
def OpenSpec.upto (s : _root_.Go.ChangeSpec) : _root_.Go.OpenSpec := { _root_.Go.OpenSpec.ofChange s with cond := some uptoSmall }

/-- 'fretworklaw08.BridgeTells', WHERE WHAT IT READS IS OF BULK AT MOST 1048576: true; the input reads as it did. -/
def bridgeTellsUptoRow : OpenClaim := { program := "ytmakcgajgepabaa", sum := "a8b2a5b6dc607c2d962abee38afe0cbfb5d95217787e3d2043b56478f7a9231d", func := "fretwork/fretworklaw08.BridgeTells", spec := "bridgeTells", unfollowed := true, recurses := true, plainKeys := false, apart := false, narrowed := true }
def BridgeTellsUptoSaid : Prop := bridgeTellsUptoRow.holds Try.pinned (OpenSpec.upto bridgeTellsSpec)

/-- 'fretworklaw08.BridgeWays', WHERE WHAT IT READS IS OF BULK AT MOST 1048576: true; the input reads as it did. -/
def bridgeWaysUptoRow : OpenClaim := { program := "ytmakcgajgepabaa", sum := "a8b2a5b6dc607c2d962abee38afe0cbfb5d95217787e3d2043b56478f7a9231d", func := "fretwork/fretworklaw08.BridgeWays", spec := "bridgeWays", unfollowed := true, recurses := true, plainKeys := false, apart := false, narrowed := true }
def BridgeWaysUptoSaid : Prop := bridgeWaysUptoRow.holds Try.pinned (OpenSpec.upto bridgeWaysSpec)

/-- 'fretworklaw08.BridgeEdges', WHERE WHAT IT READS IS OF BULK AT MOST 1048576: true; the input reads as it did. -/
def bridgeEdgesUptoRow : OpenClaim := { program := "ytmakcgajgepabaa", sum := "a8b2a5b6dc607c2d962abee38afe0cbfb5d95217787e3d2043b56478f7a9231d", func := "fretwork/fretworklaw08.BridgeEdges", spec := "bridgeEdges", unfollowed := true, recurses := true, plainKeys := false, apart := false, narrowed := true }
def BridgeEdgesUptoSaid : Prop := bridgeEdgesUptoRow.holds Try.pinned (OpenSpec.upto bridgeEdgesSpec)

/-- 'fretworklaw08.BridgeNone', WHERE WHAT IT READS IS OF BULK AT MOST 1048576: true; the input reads as it did. -/
def bridgeNoneUptoRow : OpenClaim := { program := "ytmakcgajgepabaa", sum := "a8b2a5b6dc607c2d962abee38afe0cbfb5d95217787e3d2043b56478f7a9231d", func := "fretwork/fretworklaw08.BridgeNone", spec := "bridgeNone", unfollowed := true, recurses := true, plainKeys := false, apart := false, narrowed := true }
def BridgeNoneUptoSaid : Prop := bridgeNoneUptoRow.holds Try.pinned (OpenSpec.upto bridgeNoneSpec)

/-- 'fretworklaw08.BridgeTwo', WHERE WHAT IT READS IS OF BULK AT MOST 1048576: true; the input reads as it did. -/
def bridgeTwoUptoRow : OpenClaim := { program := "ytmakcgajgepabaa", sum := "a8b2a5b6dc607c2d962abee38afe0cbfb5d95217787e3d2043b56478f7a9231d", func := "fretwork/fretworklaw08.BridgeTwo", spec := "bridgeTwo", unfollowed := true, recurses := true, plainKeys := false, apart := false, narrowed := true }
def BridgeTwoUptoSaid : Prop := bridgeTwoUptoRow.holds Try.pinned (OpenSpec.upto bridgeTwoSpec)

/-- 'fretworklaw08.BridgeNames', WHERE WHAT IT READS IS OF BULK AT MOST 1048576: true; the input reads as it did. -/
def bridgeNamesUptoRow : OpenClaim := { program := "ytmakcgajgepabaa", sum := "a8b2a5b6dc607c2d962abee38afe0cbfb5d95217787e3d2043b56478f7a9231d", func := "fretwork/fretworklaw08.BridgeNames", spec := "bridgeNames", unfollowed := true, recurses := true, plainKeys := false, apart := false, narrowed := true }
def BridgeNamesUptoSaid : Prop := bridgeNamesUptoRow.holds Try.pinned (OpenSpec.upto bridgeNamesSpec)

/-- 'fretworklaw05.LowBridges', WHERE WHAT IT READS IS OF BULK AT MOST 1048576: true; the input reads as it did. -/
def lowBridgesUptoRow : OpenClaim := { program := "ytmakcgajgepabaa", sum := "a8b2a5b6dc607c2d962abee38afe0cbfb5d95217787e3d2043b56478f7a9231d", func := "fretwork/fretworklaw05.LowBridges", spec := "lowBridges", unfollowed := true, recurses := true, plainKeys := false, apart := false, narrowed := true }
def LowBridgesUptoSaid : Prop := lowBridgesUptoRow.holds Try.pinned (OpenSpec.upto lowBridgesSpec)

end Rows
end Go.Proofs.Ytmakcgajgepabaa
