/-
  No cell of these rows narrows 'for every input' (looked for: loops, veiled, ifaces, maps, wideKeys, modest, calm, conditions, laid).
  DERIVED. THE GIVEN ROWS OF THIS SEAT. 12 by the template 'for every input the law returns true; each argument reads behind the call as it read before'; 0 by the template 'total and deterministic' (their statements: YtmgcmoifdnkaoaaTotals.lean).
  GIVEN WITH THE SEED: the statements are not yours to turn. If you find one false, say at which input.
  Laid BY PROGRAM, IN A SANDBOX (cutbox-rows.mjs): the forced cells as the released guide's own fill.sh prints them over the translation 8663edf5e78b0b7c… (all of the seat's roots in one cut). By AI agents, Wed Nov 11 2026. No macro, syntax, notation, axiom, sorry.
-/
import Derived.Test.YtmgcmoifdnkaoaaChecked
import GoSem.Claim
import GoSem.ClaimJoined
import GoSem.ClaimMapViews
import Derived.JoinedTies
import Derived.KernelRfl
namespace Go.Proofs.Ytmgcmoifdnkaoaa
/- THE CELL 'sum', in the pinned program and in every row, IS THE sha256 OF THE DUMP (.gsa) THAT YtmgcmoifdnkaoaaProg.lean LOADS. Nothing in Lean hashes anything: it is a label: what it is worth is what the hold of that sum in a sandbox is worth. -/
noncomputable def Try.pinned : Pinned := { name := "ytmgcmoifdnkaoaa", sum := "8663edf5e78b0b7cb7d93e9139cb5fb6d33f6a1274fad34eafa8280f92a7651b", checked := Try.checked }
namespace Rows
def none {H : Type} : Left H := { results := [], args := [] }

/-- 'fretworklaw05.LowTells': WHATEVER THE INPUT: true; the input reads as it did. -/
def lowTellsSpec : ChangeSpec := { name := "lowTells", fn := fun _ => fun
  | [d] => { results := [.lit (.bool true)], args := [d] }
  | _ => none }
def lowTellsRow : OpenClaim := { program := "ytmgcmoifdnkaoaa", sum := "8663edf5e78b0b7cb7d93e9139cb5fb6d33f6a1274fad34eafa8280f92a7651b", func := "fretwork/fretworklaw05.LowTells", spec := "lowTells", unfollowed := true, recurses := true, plainKeys := false, apart := false }
def LowTellsSaid : Prop := lowTellsRow.holds Try.pinned (OpenSpec.ofChange lowTellsSpec)

/-- ITS FALSE NEIGHBOUR: 'it returns false'. Refute it at one input. -/
def lowTellsWrong : ChangeSpec := { name := "lowTells", fn := fun _ => fun
  | [d] => { results := [.lit (.bool false)], args := [d] }
  | _ => none }
def LowTellsWrongFalsely : Prop := lowTellsRow.holds Try.pinned (OpenSpec.ofChange lowTellsWrong)

/-- 'fretworklaw05.LowLong': WHATEVER THE INPUT: true; the input reads as it did. -/
def lowLongSpec : ChangeSpec := { name := "lowLong", fn := fun _ => fun
  | [d] => { results := [.lit (.bool true)], args := [d] }
  | _ => none }
def lowLongRow : OpenClaim := { program := "ytmgcmoifdnkaoaa", sum := "8663edf5e78b0b7cb7d93e9139cb5fb6d33f6a1274fad34eafa8280f92a7651b", func := "fretwork/fretworklaw05.LowLong", spec := "lowLong", unfollowed := true, recurses := true, plainKeys := false, apart := false }
def LowLongSaid : Prop := lowLongRow.holds Try.pinned (OpenSpec.ofChange lowLongSpec)

/-- ITS FALSE NEIGHBOUR: 'it returns false'. Refute it at one input. -/
def lowLongWrong : ChangeSpec := { name := "lowLong", fn := fun _ => fun
  | [d] => { results := [.lit (.bool false)], args := [d] }
  | _ => none }
def LowLongWrongFalsely : Prop := lowLongRow.holds Try.pinned (OpenSpec.ofChange lowLongWrong)

/-- 'fretworklaw05.LowSearch': WHATEVER THE INPUT: true; the input reads as it did. -/
def lowSearchSpec : ChangeSpec := { name := "lowSearch", fn := fun _ => fun
  | [d] => { results := [.lit (.bool true)], args := [d] }
  | _ => none }
def lowSearchRow : OpenClaim := { program := "ytmgcmoifdnkaoaa", sum := "8663edf5e78b0b7cb7d93e9139cb5fb6d33f6a1274fad34eafa8280f92a7651b", func := "fretwork/fretworklaw05.LowSearch", spec := "lowSearch", unfollowed := true, recurses := true, plainKeys := false, apart := false }
def LowSearchSaid : Prop := lowSearchRow.holds Try.pinned (OpenSpec.ofChange lowSearchSpec)

/-- ITS FALSE NEIGHBOUR: 'it returns false'. Refute it at one input. -/
def lowSearchWrong : ChangeSpec := { name := "lowSearch", fn := fun _ => fun
  | [d] => { results := [.lit (.bool false)], args := [d] }
  | _ => none }
def LowSearchWrongFalsely : Prop := lowSearchRow.holds Try.pinned (OpenSpec.ofChange lowSearchWrong)

/-- 'fretworklaw05.LowBlocks': WHATEVER THE INPUT: true; the input reads as it did. -/
def lowBlocksSpec : ChangeSpec := { name := "lowBlocks", fn := fun _ => fun
  | [d] => { results := [.lit (.bool true)], args := [d] }
  | _ => none }
def lowBlocksRow : OpenClaim := { program := "ytmgcmoifdnkaoaa", sum := "8663edf5e78b0b7cb7d93e9139cb5fb6d33f6a1274fad34eafa8280f92a7651b", func := "fretwork/fretworklaw05.LowBlocks", spec := "lowBlocks", unfollowed := true, recurses := true, plainKeys := false, apart := false }
def LowBlocksSaid : Prop := lowBlocksRow.holds Try.pinned (OpenSpec.ofChange lowBlocksSpec)

/-- ITS FALSE NEIGHBOUR: 'it returns false'. Refute it at one input. -/
def lowBlocksWrong : ChangeSpec := { name := "lowBlocks", fn := fun _ => fun
  | [d] => { results := [.lit (.bool false)], args := [d] }
  | _ => none }
def LowBlocksWrongFalsely : Prop := lowBlocksRow.holds Try.pinned (OpenSpec.ofChange lowBlocksWrong)

/-- 'fretworklaw05.LowNames': WHATEVER THE INPUT: true; the input reads as it did. -/
def lowNamesSpec : ChangeSpec := { name := "lowNames", fn := fun _ => fun
  | [d1, d2] => { results := [.lit (.bool true)], args := [d1, d2] }
  | _ => none }
def lowNamesRow : OpenClaim := { program := "ytmgcmoifdnkaoaa", sum := "8663edf5e78b0b7cb7d93e9139cb5fb6d33f6a1274fad34eafa8280f92a7651b", func := "fretwork/fretworklaw05.LowNames", spec := "lowNames", unfollowed := true, recurses := true, plainKeys := false, apart := false }
def LowNamesSaid : Prop := lowNamesRow.holds Try.pinned (OpenSpec.ofChange lowNamesSpec)

/-- ITS FALSE NEIGHBOUR: 'it returns false'. Refute it at one input. -/
def lowNamesWrong : ChangeSpec := { name := "lowNames", fn := fun _ => fun
  | [d1, d2] => { results := [.lit (.bool false)], args := [d1, d2] }
  | _ => none }
def LowNamesWrongFalsely : Prop := lowNamesRow.holds Try.pinned (OpenSpec.ofChange lowNamesWrong)

/-- 'fretworklaw06.BlocksTells': WHATEVER THE INPUT: true; the input reads as it did. -/
def blocksTellsSpec : ChangeSpec := { name := "blocksTells", fn := fun _ => fun
  | [d1, d2] => { results := [.lit (.bool true)], args := [d1, d2] }
  | _ => none }
def blocksTellsRow : OpenClaim := { program := "ytmgcmoifdnkaoaa", sum := "8663edf5e78b0b7cb7d93e9139cb5fb6d33f6a1274fad34eafa8280f92a7651b", func := "fretwork/fretworklaw06.BlocksTells", spec := "blocksTells", unfollowed := true, recurses := true, plainKeys := false, apart := false }
def BlocksTellsSaid : Prop := blocksTellsRow.holds Try.pinned (OpenSpec.ofChange blocksTellsSpec)

/-- ITS FALSE NEIGHBOUR: 'it returns false'. Refute it at one input. -/
def blocksTellsWrong : ChangeSpec := { name := "blocksTells", fn := fun _ => fun
  | [d1, d2] => { results := [.lit (.bool false)], args := [d1, d2] }
  | _ => none }
def BlocksTellsWrongFalsely : Prop := blocksTellsRow.holds Try.pinned (OpenSpec.ofChange blocksTellsWrong)

/-- 'fretworklaw06.BlocksApart': WHATEVER THE INPUT: true; the input reads as it did. -/
def blocksApartSpec : ChangeSpec := { name := "blocksApart", fn := fun _ => fun
  | [d] => { results := [.lit (.bool true)], args := [d] }
  | _ => none }
def blocksApartRow : OpenClaim := { program := "ytmgcmoifdnkaoaa", sum := "8663edf5e78b0b7cb7d93e9139cb5fb6d33f6a1274fad34eafa8280f92a7651b", func := "fretwork/fretworklaw06.BlocksApart", spec := "blocksApart", unfollowed := true, recurses := true, plainKeys := false, apart := false }
def BlocksApartSaid : Prop := blocksApartRow.holds Try.pinned (OpenSpec.ofChange blocksApartSpec)

/-- ITS FALSE NEIGHBOUR: 'it returns false'. Refute it at one input. -/
def blocksApartWrong : ChangeSpec := { name := "blocksApart", fn := fun _ => fun
  | [d] => { results := [.lit (.bool false)], args := [d] }
  | _ => none }
def BlocksApartWrongFalsely : Prop := blocksApartRow.holds Try.pinned (OpenSpec.ofChange blocksApartWrong)

/-- 'fretworklaw06.BlocksRow': WHATEVER THE INPUT: true; the input reads as it did. -/
def blocksRowSpec : ChangeSpec := { name := "blocksRow", fn := fun _ => fun
  | [d] => { results := [.lit (.bool true)], args := [d] }
  | _ => none }
def blocksRowRow : OpenClaim := { program := "ytmgcmoifdnkaoaa", sum := "8663edf5e78b0b7cb7d93e9139cb5fb6d33f6a1274fad34eafa8280f92a7651b", func := "fretwork/fretworklaw06.BlocksRow", spec := "blocksRow", unfollowed := true, recurses := true, plainKeys := false, apart := false }
def BlocksRowSaid : Prop := blocksRowRow.holds Try.pinned (OpenSpec.ofChange blocksRowSpec)

/-- ITS FALSE NEIGHBOUR: 'it returns false'. Refute it at one input. -/
def blocksRowWrong : ChangeSpec := { name := "blocksRow", fn := fun _ => fun
  | [d] => { results := [.lit (.bool false)], args := [d] }
  | _ => none }
def BlocksRowWrongFalsely : Prop := blocksRowRow.holds Try.pinned (OpenSpec.ofChange blocksRowWrong)

/-- 'fretworklaw05.LowCuts': WHATEVER THE INPUT: true; the input reads as it did. -/
def lowCutsSpec : ChangeSpec := { name := "lowCuts", fn := fun _ => fun
  | [d] => { results := [.lit (.bool true)], args := [d] }
  | _ => none }
def lowCutsRow : OpenClaim := { program := "ytmgcmoifdnkaoaa", sum := "8663edf5e78b0b7cb7d93e9139cb5fb6d33f6a1274fad34eafa8280f92a7651b", func := "fretwork/fretworklaw05.LowCuts", spec := "lowCuts", unfollowed := true, recurses := true, plainKeys := false, apart := false }
def LowCutsSaid : Prop := lowCutsRow.holds Try.pinned (OpenSpec.ofChange lowCutsSpec)

/-- ITS FALSE NEIGHBOUR: 'it returns false'. Refute it at one input. -/
def lowCutsWrong : ChangeSpec := { name := "lowCuts", fn := fun _ => fun
  | [d] => { results := [.lit (.bool false)], args := [d] }
  | _ => none }
def LowCutsWrongFalsely : Prop := lowCutsRow.holds Try.pinned (OpenSpec.ofChange lowCutsWrong)

/-- 'fretworklaw05.LowForest': WHATEVER THE INPUT: true; the input reads as it did. -/
def lowForestSpec : ChangeSpec := { name := "lowForest", fn := fun _ => fun
  | [d] => { results := [.lit (.bool true)], args := [d] }
  | _ => none }
def lowForestRow : OpenClaim := { program := "ytmgcmoifdnkaoaa", sum := "8663edf5e78b0b7cb7d93e9139cb5fb6d33f6a1274fad34eafa8280f92a7651b", func := "fretwork/fretworklaw05.LowForest", spec := "lowForest", unfollowed := true, recurses := true, plainKeys := false, apart := false }
def LowForestSaid : Prop := lowForestRow.holds Try.pinned (OpenSpec.ofChange lowForestSpec)

/-- ITS FALSE NEIGHBOUR: 'it returns false'. Refute it at one input. -/
def lowForestWrong : ChangeSpec := { name := "lowForest", fn := fun _ => fun
  | [d] => { results := [.lit (.bool false)], args := [d] }
  | _ => none }
def LowForestWrongFalsely : Prop := lowForestRow.holds Try.pinned (OpenSpec.ofChange lowForestWrong)

/-- 'fretworklaw05.LowBridges': WHATEVER THE INPUT: true; the input reads as it did. -/
def lowBridgesSpec : ChangeSpec := { name := "lowBridges", fn := fun _ => fun
  | [d] => { results := [.lit (.bool true)], args := [d] }
  | _ => none }
def lowBridgesRow : OpenClaim := { program := "ytmgcmoifdnkaoaa", sum := "8663edf5e78b0b7cb7d93e9139cb5fb6d33f6a1274fad34eafa8280f92a7651b", func := "fretwork/fretworklaw05.LowBridges", spec := "lowBridges", unfollowed := true, recurses := true, plainKeys := false, apart := false }
def LowBridgesSaid : Prop := lowBridgesRow.holds Try.pinned (OpenSpec.ofChange lowBridgesSpec)

/-- ITS FALSE NEIGHBOUR: 'it returns false'. Refute it at one input. -/
def lowBridgesWrong : ChangeSpec := { name := "lowBridges", fn := fun _ => fun
  | [d] => { results := [.lit (.bool false)], args := [d] }
  | _ => none }
def LowBridgesWrongFalsely : Prop := lowBridgesRow.holds Try.pinned (OpenSpec.ofChange lowBridgesWrong)

/-- 'fretworklaw06.BlocksTree': WHATEVER THE INPUT: true; the input reads as it did. -/
def blocksTreeSpec : ChangeSpec := { name := "blocksTree", fn := fun _ => fun
  | [d] => { results := [.lit (.bool true)], args := [d] }
  | _ => none }
def blocksTreeRow : OpenClaim := { program := "ytmgcmoifdnkaoaa", sum := "8663edf5e78b0b7cb7d93e9139cb5fb6d33f6a1274fad34eafa8280f92a7651b", func := "fretwork/fretworklaw06.BlocksTree", spec := "blocksTree", unfollowed := true, recurses := true, plainKeys := false, apart := false }
def BlocksTreeSaid : Prop := blocksTreeRow.holds Try.pinned (OpenSpec.ofChange blocksTreeSpec)

/-- ITS FALSE NEIGHBOUR: 'it returns false'. Refute it at one input. -/
def blocksTreeWrong : ChangeSpec := { name := "blocksTree", fn := fun _ => fun
  | [d] => { results := [.lit (.bool false)], args := [d] }
  | _ => none }
def BlocksTreeWrongFalsely : Prop := blocksTreeRow.holds Try.pinned (OpenSpec.ofChange blocksTreeWrong)

/- THE SECOND FORM. 'bulk': how many values and letters a reading holds, each counted each time it is reached (what is shared counts as often as it is met; a slice's spare places count too). A statement '..UptoSaid' is the law's where the arguments, and the package variables that the reading takes, are together of bulk at most 1048576: NARROWER than '..Said'. Prove '..Said' where nothing that the law and all that it calls make is longer than what came in: it says more and counts as full. Else prove '..UptoSaid'. A law counts once. -/
mutual
def uptoBulk {H : Type} : DataW H → Nat
  | .lit (.string bytes) => bytes.length + 1
  | .lit _ => 1
  | .nil => 1
  | .ptr d => uptoBulk d + 1
  | .slice elems spare => uptoBulkAll elems + uptoBulkAll spare + 1
  | .agg parts => uptoBulkAll parts + 1
  | .iface _ d => uptoBulk d + 1
  | .map entries => uptoBulkEntries entries + 1
  | .held _ => 1
def uptoBulkAll {H : Type} : List (DataW H) → Nat
  | [] => 0
  | d :: r => uptoBulk d + uptoBulkAll r
def uptoBulkEntries {H : Type} : List (Lit × DataW H) → Nat
  | [] => 0
  | x :: r => uptoBulkEntry x + uptoBulkEntries r
def uptoBulkEntry {H : Type} : Lit × DataW H → Nat
  | (.string bytes, d) => bytes.length + uptoBulk d + 1
  | (_, d) => uptoBulk d + 1
 end
def uptoSmall : (H : Type) → List (DataW H) → Bool := fun _ ds => decide (uptoBulkAll ds ≤ 1048576)
def OpenSpec.upto (s : _root_.Go.ChangeSpec) : _root_.Go.OpenSpec := { _root_.Go.OpenSpec.ofChange s with cond := some uptoSmall }

/-- 'fretworklaw05.LowTells', WHERE WHAT IT READS IS OF BULK AT MOST 1048576: true; the input reads as it did. -/
def lowTellsUptoRow : OpenClaim := { program := "ytmgcmoifdnkaoaa", sum := "8663edf5e78b0b7cb7d93e9139cb5fb6d33f6a1274fad34eafa8280f92a7651b", func := "fretwork/fretworklaw05.LowTells", spec := "lowTells", unfollowed := true, recurses := true, plainKeys := false, apart := false, narrowed := true }
def LowTellsUptoSaid : Prop := lowTellsUptoRow.holds Try.pinned (OpenSpec.upto lowTellsSpec)

/-- 'fretworklaw05.LowLong', WHERE WHAT IT READS IS OF BULK AT MOST 1048576: true; the input reads as it did. -/
def lowLongUptoRow : OpenClaim := { program := "ytmgcmoifdnkaoaa", sum := "8663edf5e78b0b7cb7d93e9139cb5fb6d33f6a1274fad34eafa8280f92a7651b", func := "fretwork/fretworklaw05.LowLong", spec := "lowLong", unfollowed := true, recurses := true, plainKeys := false, apart := false, narrowed := true }
def LowLongUptoSaid : Prop := lowLongUptoRow.holds Try.pinned (OpenSpec.upto lowLongSpec)

/-- 'fretworklaw05.LowSearch', WHERE WHAT IT READS IS OF BULK AT MOST 1048576: true; the input reads as it did. -/
def lowSearchUptoRow : OpenClaim := { program := "ytmgcmoifdnkaoaa", sum := "8663edf5e78b0b7cb7d93e9139cb5fb6d33f6a1274fad34eafa8280f92a7651b", func := "fretwork/fretworklaw05.LowSearch", spec := "lowSearch", unfollowed := true, recurses := true, plainKeys := false, apart := false, narrowed := true }
def LowSearchUptoSaid : Prop := lowSearchUptoRow.holds Try.pinned (OpenSpec.upto lowSearchSpec)

/-- 'fretworklaw05.LowBlocks', WHERE WHAT IT READS IS OF BULK AT MOST 1048576: true; the input reads as it did. -/
def lowBlocksUptoRow : OpenClaim := { program := "ytmgcmoifdnkaoaa", sum := "8663edf5e78b0b7cb7d93e9139cb5fb6d33f6a1274fad34eafa8280f92a7651b", func := "fretwork/fretworklaw05.LowBlocks", spec := "lowBlocks", unfollowed := true, recurses := true, plainKeys := false, apart := false, narrowed := true }
def LowBlocksUptoSaid : Prop := lowBlocksUptoRow.holds Try.pinned (OpenSpec.upto lowBlocksSpec)

/-- 'fretworklaw05.LowNames', WHERE WHAT IT READS IS OF BULK AT MOST 1048576: true; the input reads as it did. -/
def lowNamesUptoRow : OpenClaim := { program := "ytmgcmoifdnkaoaa", sum := "8663edf5e78b0b7cb7d93e9139cb5fb6d33f6a1274fad34eafa8280f92a7651b", func := "fretwork/fretworklaw05.LowNames", spec := "lowNames", unfollowed := true, recurses := true, plainKeys := false, apart := false, narrowed := true }
def LowNamesUptoSaid : Prop := lowNamesUptoRow.holds Try.pinned (OpenSpec.upto lowNamesSpec)

/-- 'fretworklaw06.BlocksTells', WHERE WHAT IT READS IS OF BULK AT MOST 1048576: true; the input reads as it did. -/
def blocksTellsUptoRow : OpenClaim := { program := "ytmgcmoifdnkaoaa", sum := "8663edf5e78b0b7cb7d93e9139cb5fb6d33f6a1274fad34eafa8280f92a7651b", func := "fretwork/fretworklaw06.BlocksTells", spec := "blocksTells", unfollowed := true, recurses := true, plainKeys := false, apart := false, narrowed := true }
def BlocksTellsUptoSaid : Prop := blocksTellsUptoRow.holds Try.pinned (OpenSpec.upto blocksTellsSpec)

/-- 'fretworklaw06.BlocksApart', WHERE WHAT IT READS IS OF BULK AT MOST 1048576: true; the input reads as it did. -/
def blocksApartUptoRow : OpenClaim := { program := "ytmgcmoifdnkaoaa", sum := "8663edf5e78b0b7cb7d93e9139cb5fb6d33f6a1274fad34eafa8280f92a7651b", func := "fretwork/fretworklaw06.BlocksApart", spec := "blocksApart", unfollowed := true, recurses := true, plainKeys := false, apart := false, narrowed := true }
def BlocksApartUptoSaid : Prop := blocksApartUptoRow.holds Try.pinned (OpenSpec.upto blocksApartSpec)

/-- 'fretworklaw06.BlocksRow', WHERE WHAT IT READS IS OF BULK AT MOST 1048576: true; the input reads as it did. -/
def blocksRowUptoRow : OpenClaim := { program := "ytmgcmoifdnkaoaa", sum := "8663edf5e78b0b7cb7d93e9139cb5fb6d33f6a1274fad34eafa8280f92a7651b", func := "fretwork/fretworklaw06.BlocksRow", spec := "blocksRow", unfollowed := true, recurses := true, plainKeys := false, apart := false, narrowed := true }
def BlocksRowUptoSaid : Prop := blocksRowUptoRow.holds Try.pinned (OpenSpec.upto blocksRowSpec)

/-- 'fretworklaw05.LowCuts', WHERE WHAT IT READS IS OF BULK AT MOST 1048576: true; the input reads as it did. -/
def lowCutsUptoRow : OpenClaim := { program := "ytmgcmoifdnkaoaa", sum := "8663edf5e78b0b7cb7d93e9139cb5fb6d33f6a1274fad34eafa8280f92a7651b", func := "fretwork/fretworklaw05.LowCuts", spec := "lowCuts", unfollowed := true, recurses := true, plainKeys := false, apart := false, narrowed := true }
def LowCutsUptoSaid : Prop := lowCutsUptoRow.holds Try.pinned (OpenSpec.upto lowCutsSpec)

/-- 'fretworklaw05.LowForest', WHERE WHAT IT READS IS OF BULK AT MOST 1048576: true; the input reads as it did. -/
def lowForestUptoRow : OpenClaim := { program := "ytmgcmoifdnkaoaa", sum := "8663edf5e78b0b7cb7d93e9139cb5fb6d33f6a1274fad34eafa8280f92a7651b", func := "fretwork/fretworklaw05.LowForest", spec := "lowForest", unfollowed := true, recurses := true, plainKeys := false, apart := false, narrowed := true }
def LowForestUptoSaid : Prop := lowForestUptoRow.holds Try.pinned (OpenSpec.upto lowForestSpec)

/-- 'fretworklaw05.LowBridges', WHERE WHAT IT READS IS OF BULK AT MOST 1048576: true; the input reads as it did. -/
def lowBridgesUptoRow : OpenClaim := { program := "ytmgcmoifdnkaoaa", sum := "8663edf5e78b0b7cb7d93e9139cb5fb6d33f6a1274fad34eafa8280f92a7651b", func := "fretwork/fretworklaw05.LowBridges", spec := "lowBridges", unfollowed := true, recurses := true, plainKeys := false, apart := false, narrowed := true }
def LowBridgesUptoSaid : Prop := lowBridgesUptoRow.holds Try.pinned (OpenSpec.upto lowBridgesSpec)

/-- 'fretworklaw06.BlocksTree', WHERE WHAT IT READS IS OF BULK AT MOST 1048576: true; the input reads as it did. -/
def blocksTreeUptoRow : OpenClaim := { program := "ytmgcmoifdnkaoaa", sum := "8663edf5e78b0b7cb7d93e9139cb5fb6d33f6a1274fad34eafa8280f92a7651b", func := "fretwork/fretworklaw06.BlocksTree", spec := "blocksTree", unfollowed := true, recurses := true, plainKeys := false, apart := false, narrowed := true }
def BlocksTreeUptoSaid : Prop := blocksTreeUptoRow.holds Try.pinned (OpenSpec.upto blocksTreeSpec)

end Rows
end Go.Proofs.Ytmgcmoifdnkaoaa
