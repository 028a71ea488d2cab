/-
  No cell of these rows narrows 'for every input' (looked for: loops, veiled, ifaces, maps, wideKeys, modest, calm, conditions, laid).
  DERIVED. THE GIVEN ROWS OF THIS SEAT. 3 by the template 'for every input the law returns true; each argument reads behind the call as it read before'; 0 by the template 'total and deterministic' (their statements: YtdflaojabddalaaTotals.lean).
  GIVEN WITH THE SEED: the statements are not yours to turn. If you find one false, say at which input.
  Laid BY PROGRAM, IN A SANDBOX (cutbox-rows.mjs): the forced cells as the released guide's own fill.sh prints them over the translation c09e97b05d3859e3… (all of the seat's roots in one cut). By AI agents, Wed Nov 11 2026. No macro, syntax, notation, axiom, sorry.
-/
import Derived.Test.YtdflaojabddalaaChecked
import GoSem.Claim
import GoSem.ClaimJoined
import GoSem.ClaimMapViews
import Derived.JoinedTies
import Derived.KernelRfl
namespace Go.Proofs.Ytdflaojabddalaa
/- THE CELL 'sum', in the pinned program and in every row, IS THE sha256 OF THE DUMP (.gsa) THAT YtdflaojabddalaaProg.lean LOADS. Nothing in Lean hashes anything: it is a label: what it is worth is what the hold of that sum in a sandbox is worth. -/
noncomputable def Try.pinned : Pinned := { name := "ytdflaojabddalaa", sum := "c09e97b05d3859e31783d2034631a9cd75c7fdb3b0352727c701479eb83e42ce", checked := Try.checked }
namespace Rows
def none {H : Type} : Left H := { results := [], args := [] }

/-- 'fretworklaw17.RigidMaps': WHATEVER THE INPUT: true; the input reads as it did. -/
def rigidMapsSpec : ChangeSpec := { name := "rigidMaps", fn := fun _ => fun
  | [d1, d2, d3, d4, d5, d6] => { results := [.lit (.bool true)], args := [d1, d2, d3, d4, d5, d6] }
  | _ => none }
def rigidMapsRow : OpenClaim := { program := "ytdflaojabddalaa", sum := "c09e97b05d3859e31783d2034631a9cd75c7fdb3b0352727c701479eb83e42ce", func := "fretwork/fretworklaw17.RigidMaps", spec := "rigidMaps", inPlace := ["internal/bytealg.Compare"], unfollowed := true, recurses := true, apart := false }
def RigidMapsSaid : Prop := rigidMapsRow.holds Try.pinned (OpenSpec.ofChange rigidMapsSpec)

/-- ITS FALSE NEIGHBOUR: 'it returns false'. Refute it at one input. -/
def rigidMapsWrong : ChangeSpec := { name := "rigidMaps", fn := fun _ => fun
  | [d1, d2, d3, d4, d5, d6] => { results := [.lit (.bool false)], args := [d1, d2, d3, d4, d5, d6] }
  | _ => none }
def RigidMapsWrongFalsely : Prop := rigidMapsRow.holds Try.pinned (OpenSpec.ofChange rigidMapsWrong)

/-- 'fretworklaw17.RigidNames': WHATEVER THE INPUT: true; the input reads as it did. -/
def rigidNamesSpec : ChangeSpec := { name := "rigidNames", fn := fun _ => fun
  | [d1, d2, d3, d4] => { results := [.lit (.bool true)], args := [d1, d2, d3, d4] }
  | _ => none }
def rigidNamesRow : OpenClaim := { program := "ytdflaojabddalaa", sum := "c09e97b05d3859e31783d2034631a9cd75c7fdb3b0352727c701479eb83e42ce", func := "fretwork/fretworklaw17.RigidNames", spec := "rigidNames", inPlace := ["internal/bytealg.Compare"], unfollowed := true, recurses := true, apart := false }
def RigidNamesSaid : Prop := rigidNamesRow.holds Try.pinned (OpenSpec.ofChange rigidNamesSpec)

/-- ITS FALSE NEIGHBOUR: 'it returns false'. Refute it at one input. -/
def rigidNamesWrong : ChangeSpec := { name := "rigidNames", fn := fun _ => fun
  | [d1, d2, d3, d4] => { results := [.lit (.bool false)], args := [d1, d2, d3, d4] }
  | _ => none }
def RigidNamesWrongFalsely : Prop := rigidNamesRow.holds Try.pinned (OpenSpec.ofChange rigidNamesWrong)

/-- 'fretworklaw17.RigidTells': WHATEVER THE INPUT: true; the input reads as it did. -/
def rigidTellsSpec : ChangeSpec := { name := "rigidTells", fn := fun _ => fun
  | [d1, d2, d3, d4] => { results := [.lit (.bool true)], args := [d1, d2, d3, d4] }
  | _ => none }
def rigidTellsRow : OpenClaim := { program := "ytdflaojabddalaa", sum := "c09e97b05d3859e31783d2034631a9cd75c7fdb3b0352727c701479eb83e42ce", func := "fretwork/fretworklaw17.RigidTells", spec := "rigidTells", inPlace := ["internal/bytealg.Compare"], unfollowed := true, recurses := true, apart := false }
def RigidTellsSaid : Prop := rigidTellsRow.holds Try.pinned (OpenSpec.ofChange rigidTellsSpec)

/-- ITS FALSE NEIGHBOUR: 'it returns false'. Refute it at one input. -/
def rigidTellsWrong : ChangeSpec := { name := "rigidTells", fn := fun _ => fun
  | [d1, d2, d3, d4] => { results := [.lit (.bool false)], args := [d1, d2, d3, d4] }
  | _ => none }
def RigidTellsWrongFalsely : Prop := rigidTellsRow.holds Try.pinned (OpenSpec.ofChange rigidTellsWrong)

/- THE SECOND FORM. 'bulk': how many values and letters a reading holds, each counted each time it is reached (what is shared counts as often as it is met; a slice's spare places count too). A statement '..UptoSaid' is the law's where the arguments, and the package variables that the reading takes, are together of bulk at most 1048576: NARROWER than '..Said'. Prove '..Said' where nothing that the law and all that it calls make is longer than what came in: it says more and counts as full. Else prove '..UptoSaid'. A law counts once. -/
mutual
def uptoBulk {H : Type} : DataW H → Nat
  | .lit (.string bytes) => bytes.length + 1
  | .lit _ => 1
  | .nil => 1
  | .ptr d => uptoBulk d + 1
  | .slice elems spare => uptoBulkAll elems + uptoBulkAll spare + 1
  | .agg parts => uptoBulkAll parts + 1
  | .iface _ d => uptoBulk d + 1
  | .map entries => uptoBulkEntries entries + 1
  | .held _ => 1
def uptoBulkAll {H : Type} : List (DataW H) → Nat
  | [] => 0
  | d :: r => uptoBulk d + uptoBulkAll r
def uptoBulkEntries {H : Type} : List (Lit × DataW H) → Nat
  | [] => 0
  | x :: r => uptoBulkEntry x + uptoBulkEntries r
def uptoBulkEntry {H : Type} : Lit × DataW H → Nat
  | (.string bytes, d) => bytes.length + uptoBulk d + 1
  | (_, d) => uptoBulk d + 1
 end
def uptoSmall : (H : Type) → List (DataW H) → Bool := fun _ ds => decide (uptoBulkAll ds ≤ 1048576)
def OpenSpec.upto (s : _root_.Go.ChangeSpec) : _root_.Go.OpenSpec := { _root_.Go.OpenSpec.ofChange s with cond := some uptoSmall }

/-- 'fretworklaw17.RigidMaps', WHERE WHAT IT READS IS OF BULK AT MOST 1048576: true; the input reads as it did. -/
def rigidMapsUptoRow : OpenClaim := { program := "ytdflaojabddalaa", sum := "c09e97b05d3859e31783d2034631a9cd75c7fdb3b0352727c701479eb83e42ce", func := "fretwork/fretworklaw17.RigidMaps", spec := "rigidMaps", inPlace := ["internal/bytealg.Compare"], unfollowed := true, recurses := true, apart := false, narrowed := true }
def RigidMapsUptoSaid : Prop := rigidMapsUptoRow.holds Try.pinned (OpenSpec.upto rigidMapsSpec)

/-- 'fretworklaw17.RigidNames', WHERE WHAT IT READS IS OF BULK AT MOST 1048576: true; the input reads as it did. -/
def rigidNamesUptoRow : OpenClaim := { program := "ytdflaojabddalaa", sum := "c09e97b05d3859e31783d2034631a9cd75c7fdb3b0352727c701479eb83e42ce", func := "fretwork/fretworklaw17.RigidNames", spec := "rigidNames", inPlace := ["internal/bytealg.Compare"], unfollowed := true, recurses := true, apart := false, narrowed := true }
def RigidNamesUptoSaid : Prop := rigidNamesUptoRow.holds Try.pinned (OpenSpec.upto rigidNamesSpec)

/-- 'fretworklaw17.RigidTells', WHERE WHAT IT READS IS OF BULK AT MOST 1048576: true; the input reads as it did. -/
def rigidTellsUptoRow : OpenClaim := { program := "ytdflaojabddalaa", sum := "c09e97b05d3859e31783d2034631a9cd75c7fdb3b0352727c701479eb83e42ce", func := "fretwork/fretworklaw17.RigidTells", spec := "rigidTells", inPlace := ["internal/bytealg.Compare"], unfollowed := true, recurses := true, apart := false, narrowed := true }
def RigidTellsUptoSaid : Prop := rigidTellsUptoRow.holds Try.pinned (OpenSpec.upto rigidTellsSpec)

end Rows
end Go.Proofs.Ytdflaojabddalaa
