/-
  No cell of these rows narrows 'for every input' (looked for: loops, veiled, ifaces, maps, wideKeys, modest, calm, conditions, laid).
  DERIVED. THE GIVEN ROWS OF THIS SEAT. 14 by the template 'for every input the law returns true; each argument reads behind the call as it read before'; 0 by the template 'total and deterministic' (their statements: YtkccdnmaaelbiaaGreatTotals.lean).
  GIVEN WITH THE SEED: the statements are not yours to turn. If you find one false, say at which input.
  Laid BY PROGRAM, IN A SANDBOX (cutbox-rows.mjs): the forced cells as the released guide's own fill.sh prints them over the translation 0d205c4180e0f4f7… (all of the seat's roots in one cut). By AI agents, Wed Nov 11 2026. No macro, syntax, notation, axiom, sorry.
-/
import Derived.Test.YtkccdnmaaelbiaaGreatChecked
import GoSem.Claim
import GoSem.ClaimJoined
import GoSem.ClaimMapViews
import Derived.JoinedTies
import Derived.KernelRfl
namespace Go.Proofs.YtkccdnmaaelbiaaGreat
/- THE CELL 'sum', in the pinned program and in every row, IS THE sha256 OF THE DUMP (.gsa) THAT YtkccdnmaaelbiaaGreatProg.lean LOADS. Nothing in Lean hashes anything: it is a label: what it is worth is what the hold of that sum in a sandbox is worth. -/
noncomputable def Tryz.pinned : Pinned := { name := "ytkccdnmaaelbiaagreat", sum := "0d205c4180e0f4f7f75ee5301bef35f8bbd0cc7bdc3ef5488a8826cfaa57558c", checked := Tryz.checked }
namespace Rows
def none {H : Type} : Left H := { results := [], args := [] }

/-- 'fretworklaw09.EmbedTells': WHATEVER THE INPUT: true; the input reads as it did. -/
def embedTellsSpec : ChangeSpec := { name := "embedTells", fn := fun _ => fun
  | [d] => { results := [.lit (.bool true)], args := [d] }
  | _ => none }
def embedTellsRow : OpenClaim := { program := "ytkccdnmaaelbiaagreat", sum := "0d205c4180e0f4f7f75ee5301bef35f8bbd0cc7bdc3ef5488a8826cfaa57558c", func := "fretwork/fretworklaw09.EmbedTells", spec := "embedTells", unfollowed := true, recurses := true, plainKeys := false, apart := false }
def EmbedTellsSaid : Prop := embedTellsRow.holds Tryz.pinned (OpenSpec.ofChange embedTellsSpec)

/-- ITS FALSE NEIGHBOUR: 'it returns false'. Refute it at one input. -/
def embedTellsWrong : ChangeSpec := { name := "embedTells", fn := fun _ => fun
  | [d] => { results := [.lit (.bool false)], args := [d] }
  | _ => none }
def EmbedTellsWrongFalsely : Prop := embedTellsRow.holds Tryz.pinned (OpenSpec.ofChange embedTellsWrong)

/-- 'fretworklaw09.EmbedPlane': WHATEVER THE INPUT: true; the input reads as it did. -/
def embedPlaneSpec : ChangeSpec := { name := "embedPlane", fn := fun _ => fun
  | [d1, d2] => { results := [.lit (.bool true)], args := [d1, d2] }
  | _ => none }
def embedPlaneRow : OpenClaim := { program := "ytkccdnmaaelbiaagreat", sum := "0d205c4180e0f4f7f75ee5301bef35f8bbd0cc7bdc3ef5488a8826cfaa57558c", func := "fretwork/fretworklaw09.EmbedPlane", spec := "embedPlane", unfollowed := true, recurses := true, plainKeys := false, apart := false }
def EmbedPlaneSaid : Prop := embedPlaneRow.holds Tryz.pinned (OpenSpec.ofChange embedPlaneSpec)

/-- ITS FALSE NEIGHBOUR: 'it returns false'. Refute it at one input. -/
def embedPlaneWrong : ChangeSpec := { name := "embedPlane", fn := fun _ => fun
  | [d1, d2] => { results := [.lit (.bool false)], args := [d1, d2] }
  | _ => none }
def EmbedPlaneWrongFalsely : Prop := embedPlaneRow.holds Tryz.pinned (OpenSpec.ofChange embedPlaneWrong)

/-- 'fretworklaw09.EmbedLess': WHATEVER THE INPUT: true; the input reads as it did. -/
def embedLessSpec : ChangeSpec := { name := "embedLess", fn := fun _ => fun
  | [d1, d2] => { results := [.lit (.bool true)], args := [d1, d2] }
  | _ => none }
def embedLessRow : OpenClaim := { program := "ytkccdnmaaelbiaagreat", sum := "0d205c4180e0f4f7f75ee5301bef35f8bbd0cc7bdc3ef5488a8826cfaa57558c", func := "fretwork/fretworklaw09.EmbedLess", spec := "embedLess", unfollowed := true, recurses := true, plainKeys := false, apart := false }
def EmbedLessSaid : Prop := embedLessRow.holds Tryz.pinned (OpenSpec.ofChange embedLessSpec)

/-- ITS FALSE NEIGHBOUR: 'it returns false'. Refute it at one input. -/
def embedLessWrong : ChangeSpec := { name := "embedLess", fn := fun _ => fun
  | [d1, d2] => { results := [.lit (.bool false)], args := [d1, d2] }
  | _ => none }
def EmbedLessWrongFalsely : Prop := embedLessRow.holds Tryz.pinned (OpenSpec.ofChange embedLessWrong)

/-- 'fretworklaw09.EmbedTwisted': WHATEVER THE INPUT: true; the input reads as it did. -/
def embedTwistedSpec : ChangeSpec := { name := "embedTwisted", fn := fun _ => fun
  | [d1, d2, d3] => { results := [.lit (.bool true)], args := [d1, d2, d3] }
  | _ => none }
def embedTwistedRow : OpenClaim := { program := "ytkccdnmaaelbiaagreat", sum := "0d205c4180e0f4f7f75ee5301bef35f8bbd0cc7bdc3ef5488a8826cfaa57558c", func := "fretwork/fretworklaw09.EmbedTwisted", spec := "embedTwisted", unfollowed := true, recurses := true, plainKeys := false, apart := false }
def EmbedTwistedSaid : Prop := embedTwistedRow.holds Tryz.pinned (OpenSpec.ofChange embedTwistedSpec)

/-- ITS FALSE NEIGHBOUR: 'it returns false'. Refute it at one input. -/
def embedTwistedWrong : ChangeSpec := { name := "embedTwisted", fn := fun _ => fun
  | [d1, d2, d3] => { results := [.lit (.bool false)], args := [d1, d2, d3] }
  | _ => none }
def EmbedTwistedWrongFalsely : Prop := embedTwistedRow.holds Tryz.pinned (OpenSpec.ofChange embedTwistedWrong)

/-- 'fretworklaw09.EmbedLarge': WHATEVER THE INPUT: true; the input reads as it did. -/
def embedLargeSpec : ChangeSpec := { name := "embedLarge", fn := fun _ => fun
  | [d] => { results := [.lit (.bool true)], args := [d] }
  | _ => none }
def embedLargeRow : OpenClaim := { program := "ytkccdnmaaelbiaagreat", sum := "0d205c4180e0f4f7f75ee5301bef35f8bbd0cc7bdc3ef5488a8826cfaa57558c", func := "fretwork/fretworklaw09.EmbedLarge", spec := "embedLarge", unfollowed := true, recurses := true, plainKeys := false, apart := false }
def EmbedLargeSaid : Prop := embedLargeRow.holds Tryz.pinned (OpenSpec.ofChange embedLargeSpec)

/-- ITS FALSE NEIGHBOUR: 'it returns false'. Refute it at one input. -/
def embedLargeWrong : ChangeSpec := { name := "embedLarge", fn := fun _ => fun
  | [d] => { results := [.lit (.bool false)], args := [d] }
  | _ => none }
def EmbedLargeWrongFalsely : Prop := embedLargeRow.holds Tryz.pinned (OpenSpec.ofChange embedLargeWrong)

/-- 'fretworklaw09.EmbedMany': WHATEVER THE INPUT: true; the input reads as it did. -/
def embedManySpec : ChangeSpec := { name := "embedMany", fn := fun _ => fun
  | [d] => { results := [.lit (.bool true)], args := [d] }
  | _ => none }
def embedManyRow : OpenClaim := { program := "ytkccdnmaaelbiaagreat", sum := "0d205c4180e0f4f7f75ee5301bef35f8bbd0cc7bdc3ef5488a8826cfaa57558c", func := "fretwork/fretworklaw09.EmbedMany", spec := "embedMany", unfollowed := true, recurses := true, plainKeys := false, apart := false }
def EmbedManySaid : Prop := embedManyRow.holds Tryz.pinned (OpenSpec.ofChange embedManySpec)

/-- ITS FALSE NEIGHBOUR: 'it returns false'. Refute it at one input. -/
def embedManyWrong : ChangeSpec := { name := "embedMany", fn := fun _ => fun
  | [d] => { results := [.lit (.bool false)], args := [d] }
  | _ => none }
def EmbedManyWrongFalsely : Prop := embedManyRow.holds Tryz.pinned (OpenSpec.ofChange embedManyWrong)

/-- 'fretworklaw10.KuraTells': WHATEVER THE INPUT: true; the input reads as it did. -/
def kuraTellsSpec : ChangeSpec := { name := "kuraTells", fn := fun _ => fun
  | [d1, d2] => { results := [.lit (.bool true)], args := [d1, d2] }
  | _ => none }
def kuraTellsRow : OpenClaim := { program := "ytkccdnmaaelbiaagreat", sum := "0d205c4180e0f4f7f75ee5301bef35f8bbd0cc7bdc3ef5488a8826cfaa57558c", func := "fretwork/fretworklaw10.KuraTells", spec := "kuraTells", unfollowed := true, recurses := true, plainKeys := false, apart := false }
def KuraTellsSaid : Prop := kuraTellsRow.holds Tryz.pinned (OpenSpec.ofChange kuraTellsSpec)

/-- ITS FALSE NEIGHBOUR: 'it returns false'. Refute it at one input. -/
def kuraTellsWrong : ChangeSpec := { name := "kuraTells", fn := fun _ => fun
  | [d1, d2] => { results := [.lit (.bool false)], args := [d1, d2] }
  | _ => none }
def KuraTellsWrongFalsely : Prop := kuraTellsRow.holds Tryz.pinned (OpenSpec.ofChange kuraTellsWrong)

/-- 'fretworklaw10.KuraLeast': WHATEVER THE INPUT: true; the input reads as it did. -/
def kuraLeastSpec : ChangeSpec := { name := "kuraLeast", fn := fun _ => fun
  | [d1, d2] => { results := [.lit (.bool true)], args := [d1, d2] }
  | _ => none }
def kuraLeastRow : OpenClaim := { program := "ytkccdnmaaelbiaagreat", sum := "0d205c4180e0f4f7f75ee5301bef35f8bbd0cc7bdc3ef5488a8826cfaa57558c", func := "fretwork/fretworklaw10.KuraLeast", spec := "kuraLeast", unfollowed := true, recurses := true, plainKeys := false, apart := false }
def KuraLeastSaid : Prop := kuraLeastRow.holds Tryz.pinned (OpenSpec.ofChange kuraLeastSpec)

/-- ITS FALSE NEIGHBOUR: 'it returns false'. Refute it at one input. -/
def kuraLeastWrong : ChangeSpec := { name := "kuraLeast", fn := fun _ => fun
  | [d1, d2] => { results := [.lit (.bool false)], args := [d1, d2] }
  | _ => none }
def KuraLeastWrongFalsely : Prop := kuraLeastRow.holds Tryz.pinned (OpenSpec.ofChange kuraLeastWrong)

/-- 'fretworklaw10.KuraWrong': WHATEVER THE INPUT: true; the input reads as it did. -/
def kuraWrongSpec : ChangeSpec := { name := "kuraWrong", fn := fun _ => fun
  | [d] => { results := [.lit (.bool true)], args := [d] }
  | _ => none }
def kuraWrongRow : OpenClaim := { program := "ytkccdnmaaelbiaagreat", sum := "0d205c4180e0f4f7f75ee5301bef35f8bbd0cc7bdc3ef5488a8826cfaa57558c", func := "fretwork/fretworklaw10.KuraWrong", spec := "kuraWrong", unfollowed := true, recurses := true, plainKeys := false, apart := false }
def KuraWrongSaid : Prop := kuraWrongRow.holds Tryz.pinned (OpenSpec.ofChange kuraWrongSpec)

/-- ITS FALSE NEIGHBOUR: 'it returns false'. Refute it at one input. -/
def kuraWrongWrong : ChangeSpec := { name := "kuraWrong", fn := fun _ => fun
  | [d] => { results := [.lit (.bool false)], args := [d] }
  | _ => none }
def KuraWrongWrongFalsely : Prop := kuraWrongRow.holds Tryz.pinned (OpenSpec.ofChange kuraWrongWrong)

/-- 'fretworklaw10.KuraFind': WHATEVER THE INPUT: true; the input reads as it did. -/
def kuraFindSpec : ChangeSpec := { name := "kuraFind", fn := fun _ => fun
  | [d1, d2] => { results := [.lit (.bool true)], args := [d1, d2] }
  | _ => none }
def kuraFindRow : OpenClaim := { program := "ytkccdnmaaelbiaagreat", sum := "0d205c4180e0f4f7f75ee5301bef35f8bbd0cc7bdc3ef5488a8826cfaa57558c", func := "fretwork/fretworklaw10.KuraFind", spec := "kuraFind", unfollowed := true, recurses := true, plainKeys := false, apart := false }
def KuraFindSaid : Prop := kuraFindRow.holds Tryz.pinned (OpenSpec.ofChange kuraFindSpec)

/-- ITS FALSE NEIGHBOUR: 'it returns false'. Refute it at one input. -/
def kuraFindWrong : ChangeSpec := { name := "kuraFind", fn := fun _ => fun
  | [d1, d2] => { results := [.lit (.bool false)], args := [d1, d2] }
  | _ => none }
def KuraFindWrongFalsely : Prop := kuraFindRow.holds Tryz.pinned (OpenSpec.ofChange kuraFindWrong)

/-- 'fretworklaw10.KuraBlocks': WHATEVER THE INPUT: true; the input reads as it did. -/
def kuraBlocksSpec : ChangeSpec := { name := "kuraBlocks", fn := fun _ => fun
  | [d] => { results := [.lit (.bool true)], args := [d] }
  | _ => none }
def kuraBlocksRow : OpenClaim := { program := "ytkccdnmaaelbiaagreat", sum := "0d205c4180e0f4f7f75ee5301bef35f8bbd0cc7bdc3ef5488a8826cfaa57558c", func := "fretwork/fretworklaw10.KuraBlocks", spec := "kuraBlocks", unfollowed := true, recurses := true, plainKeys := false, apart := false }
def KuraBlocksSaid : Prop := kuraBlocksRow.holds Tryz.pinned (OpenSpec.ofChange kuraBlocksSpec)

/-- ITS FALSE NEIGHBOUR: 'it returns false'. Refute it at one input. -/
def kuraBlocksWrong : ChangeSpec := { name := "kuraBlocks", fn := fun _ => fun
  | [d] => { results := [.lit (.bool false)], args := [d] }
  | _ => none }
def KuraBlocksWrongFalsely : Prop := kuraBlocksRow.holds Tryz.pinned (OpenSpec.ofChange kuraBlocksWrong)

/-- 'fretworklaw09.EmbedNames': WHATEVER THE INPUT: true; the input reads as it did. -/
def embedNamesSpec : ChangeSpec := { name := "embedNames", fn := fun _ => fun
  | [d1, d2] => { results := [.lit (.bool true)], args := [d1, d2] }
  | _ => none }
def embedNamesRow : OpenClaim := { program := "ytkccdnmaaelbiaagreat", sum := "0d205c4180e0f4f7f75ee5301bef35f8bbd0cc7bdc3ef5488a8826cfaa57558c", func := "fretwork/fretworklaw09.EmbedNames", spec := "embedNames", unfollowed := true, recurses := true, plainKeys := false, apart := false }
def EmbedNamesSaid : Prop := embedNamesRow.holds Tryz.pinned (OpenSpec.ofChange embedNamesSpec)

/-- ITS FALSE NEIGHBOUR: 'it returns false'. Refute it at one input. -/
def embedNamesWrong : ChangeSpec := { name := "embedNames", fn := fun _ => fun
  | [d1, d2] => { results := [.lit (.bool false)], args := [d1, d2] }
  | _ => none }
def EmbedNamesWrongFalsely : Prop := embedNamesRow.holds Tryz.pinned (OpenSpec.ofChange embedNamesWrong)

/-- 'fretworklaw10.KuraMade': WHATEVER THE INPUT: true; the input reads as it did. -/
def kuraMadeSpec : ChangeSpec := { name := "kuraMade", fn := fun _ => fun
  | [d1, d2, d3, d4] => { results := [.lit (.bool true)], args := [d1, d2, d3, d4] }
  | _ => none }
def kuraMadeRow : OpenClaim := { program := "ytkccdnmaaelbiaagreat", sum := "0d205c4180e0f4f7f75ee5301bef35f8bbd0cc7bdc3ef5488a8826cfaa57558c", func := "fretwork/fretworklaw10.KuraMade", spec := "kuraMade", unfollowed := true, recurses := true, plainKeys := false, apart := false }
def KuraMadeSaid : Prop := kuraMadeRow.holds Tryz.pinned (OpenSpec.ofChange kuraMadeSpec)

/-- ITS FALSE NEIGHBOUR: 'it returns false'. Refute it at one input. -/
def kuraMadeWrong : ChangeSpec := { name := "kuraMade", fn := fun _ => fun
  | [d1, d2, d3, d4] => { results := [.lit (.bool false)], args := [d1, d2, d3, d4] }
  | _ => none }
def KuraMadeWrongFalsely : Prop := kuraMadeRow.holds Tryz.pinned (OpenSpec.ofChange kuraMadeWrong)

/-- 'fretworklaw10.KuraNames': WHATEVER THE INPUT: true; the input reads as it did. -/
def kuraNamesSpec : ChangeSpec := { name := "kuraNames", fn := fun _ => fun
  | [d1, d2, d3] => { results := [.lit (.bool true)], args := [d1, d2, d3] }
  | _ => none }
def kuraNamesRow : OpenClaim := { program := "ytkccdnmaaelbiaagreat", sum := "0d205c4180e0f4f7f75ee5301bef35f8bbd0cc7bdc3ef5488a8826cfaa57558c", func := "fretwork/fretworklaw10.KuraNames", spec := "kuraNames", unfollowed := true, recurses := true, plainKeys := false, apart := false }
def KuraNamesSaid : Prop := kuraNamesRow.holds Tryz.pinned (OpenSpec.ofChange kuraNamesSpec)

/-- ITS FALSE NEIGHBOUR: 'it returns false'. Refute it at one input. -/
def kuraNamesWrong : ChangeSpec := { name := "kuraNames", fn := fun _ => fun
  | [d1, d2, d3] => { results := [.lit (.bool false)], args := [d1, d2, d3] }
  | _ => none }
def KuraNamesWrongFalsely : Prop := kuraNamesRow.holds Tryz.pinned (OpenSpec.ofChange kuraNamesWrong)

/- THE SECOND FORM. 'bulk': how many values and letters a reading holds, each counted each time it is reached (what is shared counts as often as it is met; a slice's spare places count too). A statement '..UptoSaid' is the law's where the arguments, and the package variables that the reading takes, are together of bulk at most 1048576: NARROWER than '..Said'. Prove '..Said' where nothing that the law and all that it calls make is longer than what came in: it says more and counts as full. Else prove '..UptoSaid'. A law counts once. -/
mutual
def uptoBulk {H : Type} : DataW H → Nat
  | .lit (.string bytes) => bytes.length + 1
  | .lit _ => 1
  | .nil => 1
  | .ptr d => uptoBulk d + 1
  | .slice elems spare => uptoBulkAll elems + uptoBulkAll spare + 1
  | .agg parts => uptoBulkAll parts + 1
  | .iface _ d => uptoBulk d + 1
  | .map entries => uptoBulkEntries entries + 1
  | .held _ => 1
def uptoBulkAll {H : Type} : List (DataW H) → Nat
  | [] => 0
  | d :: r => uptoBulk d + uptoBulkAll r
def uptoBulkEntries {H : Type} : List (Lit × DataW H) → Nat
  | [] => 0
  | x :: r => uptoBulkEntry x + uptoBulkEntries r
def uptoBulkEntry {H : Type} : Lit × DataW H → Nat
  | (.string bytes, d) => bytes.length + uptoBulk d + 1
  | (_, d) => uptoBulk d + 1
 end
def uptoSmall : (H : Type) → List (DataW H) → Bool := fun _ ds => decide (uptoBulkAll ds ≤ 1048576)
def OpenSpec.upto (s : _root_.Go.ChangeSpec) : _root_.Go.OpenSpec := { _root_.Go.OpenSpec.ofChange s with cond := some uptoSmall }

/-- 'fretworklaw09.EmbedTells', WHERE WHAT IT READS IS OF BULK AT MOST 1048576: true; the input reads as it did. -/
def embedTellsUptoRow : OpenClaim := { program := "ytkccdnmaaelbiaagreat", sum := "0d205c4180e0f4f7f75ee5301bef35f8bbd0cc7bdc3ef5488a8826cfaa57558c", func := "fretwork/fretworklaw09.EmbedTells", spec := "embedTells", unfollowed := true, recurses := true, plainKeys := false, apart := false, narrowed := true }
def EmbedTellsUptoSaid : Prop := embedTellsUptoRow.holds Tryz.pinned (OpenSpec.upto embedTellsSpec)

/-- 'fretworklaw09.EmbedPlane', WHERE WHAT IT READS IS OF BULK AT MOST 1048576: true; the input reads as it did. -/
def embedPlaneUptoRow : OpenClaim := { program := "ytkccdnmaaelbiaagreat", sum := "0d205c4180e0f4f7f75ee5301bef35f8bbd0cc7bdc3ef5488a8826cfaa57558c", func := "fretwork/fretworklaw09.EmbedPlane", spec := "embedPlane", unfollowed := true, recurses := true, plainKeys := false, apart := false, narrowed := true }
def EmbedPlaneUptoSaid : Prop := embedPlaneUptoRow.holds Tryz.pinned (OpenSpec.upto embedPlaneSpec)

/-- 'fretworklaw09.EmbedLess', WHERE WHAT IT READS IS OF BULK AT MOST 1048576: true; the input reads as it did. -/
def embedLessUptoRow : OpenClaim := { program := "ytkccdnmaaelbiaagreat", sum := "0d205c4180e0f4f7f75ee5301bef35f8bbd0cc7bdc3ef5488a8826cfaa57558c", func := "fretwork/fretworklaw09.EmbedLess", spec := "embedLess", unfollowed := true, recurses := true, plainKeys := false, apart := false, narrowed := true }
def EmbedLessUptoSaid : Prop := embedLessUptoRow.holds Tryz.pinned (OpenSpec.upto embedLessSpec)

/-- 'fretworklaw09.EmbedTwisted', WHERE WHAT IT READS IS OF BULK AT MOST 1048576: true; the input reads as it did. -/
def embedTwistedUptoRow : OpenClaim := { program := "ytkccdnmaaelbiaagreat", sum := "0d205c4180e0f4f7f75ee5301bef35f8bbd0cc7bdc3ef5488a8826cfaa57558c", func := "fretwork/fretworklaw09.EmbedTwisted", spec := "embedTwisted", unfollowed := true, recurses := true, plainKeys := false, apart := false, narrowed := true }
def EmbedTwistedUptoSaid : Prop := embedTwistedUptoRow.holds Tryz.pinned (OpenSpec.upto embedTwistedSpec)

/-- 'fretworklaw09.EmbedLarge', WHERE WHAT IT READS IS OF BULK AT MOST 1048576: true; the input reads as it did. -/
def embedLargeUptoRow : OpenClaim := { program := "ytkccdnmaaelbiaagreat", sum := "0d205c4180e0f4f7f75ee5301bef35f8bbd0cc7bdc3ef5488a8826cfaa57558c", func := "fretwork/fretworklaw09.EmbedLarge", spec := "embedLarge", unfollowed := true, recurses := true, plainKeys := false, apart := false, narrowed := true }
def EmbedLargeUptoSaid : Prop := embedLargeUptoRow.holds Tryz.pinned (OpenSpec.upto embedLargeSpec)

/-- 'fretworklaw09.EmbedMany', WHERE WHAT IT READS IS OF BULK AT MOST 1048576: true; the input reads as it did. -/
def embedManyUptoRow : OpenClaim := { program := "ytkccdnmaaelbiaagreat", sum := "0d205c4180e0f4f7f75ee5301bef35f8bbd0cc7bdc3ef5488a8826cfaa57558c", func := "fretwork/fretworklaw09.EmbedMany", spec := "embedMany", unfollowed := true, recurses := true, plainKeys := false, apart := false, narrowed := true }
def EmbedManyUptoSaid : Prop := embedManyUptoRow.holds Tryz.pinned (OpenSpec.upto embedManySpec)

/-- 'fretworklaw10.KuraTells', WHERE WHAT IT READS IS OF BULK AT MOST 1048576: true; the input reads as it did. -/
def kuraTellsUptoRow : OpenClaim := { program := "ytkccdnmaaelbiaagreat", sum := "0d205c4180e0f4f7f75ee5301bef35f8bbd0cc7bdc3ef5488a8826cfaa57558c", func := "fretwork/fretworklaw10.KuraTells", spec := "kuraTells", unfollowed := true, recurses := true, plainKeys := false, apart := false, narrowed := true }
def KuraTellsUptoSaid : Prop := kuraTellsUptoRow.holds Tryz.pinned (OpenSpec.upto kuraTellsSpec)

/-- 'fretworklaw10.KuraLeast', WHERE WHAT IT READS IS OF BULK AT MOST 1048576: true; the input reads as it did. -/
def kuraLeastUptoRow : OpenClaim := { program := "ytkccdnmaaelbiaagreat", sum := "0d205c4180e0f4f7f75ee5301bef35f8bbd0cc7bdc3ef5488a8826cfaa57558c", func := "fretwork/fretworklaw10.KuraLeast", spec := "kuraLeast", unfollowed := true, recurses := true, plainKeys := false, apart := false, narrowed := true }
def KuraLeastUptoSaid : Prop := kuraLeastUptoRow.holds Tryz.pinned (OpenSpec.upto kuraLeastSpec)

/-- 'fretworklaw10.KuraWrong', WHERE WHAT IT READS IS OF BULK AT MOST 1048576: true; the input reads as it did. -/
def kuraWrongUptoRow : OpenClaim := { program := "ytkccdnmaaelbiaagreat", sum := "0d205c4180e0f4f7f75ee5301bef35f8bbd0cc7bdc3ef5488a8826cfaa57558c", func := "fretwork/fretworklaw10.KuraWrong", spec := "kuraWrong", unfollowed := true, recurses := true, plainKeys := false, apart := false, narrowed := true }
def KuraWrongUptoSaid : Prop := kuraWrongUptoRow.holds Tryz.pinned (OpenSpec.upto kuraWrongSpec)

/-- 'fretworklaw10.KuraFind', WHERE WHAT IT READS IS OF BULK AT MOST 1048576: true; the input reads as it did. -/
def kuraFindUptoRow : OpenClaim := { program := "ytkccdnmaaelbiaagreat", sum := "0d205c4180e0f4f7f75ee5301bef35f8bbd0cc7bdc3ef5488a8826cfaa57558c", func := "fretwork/fretworklaw10.KuraFind", spec := "kuraFind", unfollowed := true, recurses := true, plainKeys := false, apart := false, narrowed := true }
def KuraFindUptoSaid : Prop := kuraFindUptoRow.holds Tryz.pinned (OpenSpec.upto kuraFindSpec)

/-- 'fretworklaw10.KuraBlocks', WHERE WHAT IT READS IS OF BULK AT MOST 1048576: true; the input reads as it did. -/
def kuraBlocksUptoRow : OpenClaim := { program := "ytkccdnmaaelbiaagreat", sum := "0d205c4180e0f4f7f75ee5301bef35f8bbd0cc7bdc3ef5488a8826cfaa57558c", func := "fretwork/fretworklaw10.KuraBlocks", spec := "kuraBlocks", unfollowed := true, recurses := true, plainKeys := false, apart := false, narrowed := true }
def KuraBlocksUptoSaid : Prop := kuraBlocksUptoRow.holds Tryz.pinned (OpenSpec.upto kuraBlocksSpec)

/-- 'fretworklaw09.EmbedNames', WHERE WHAT IT READS IS OF BULK AT MOST 1048576: true; the input reads as it did. -/
def embedNamesUptoRow : OpenClaim := { program := "ytkccdnmaaelbiaagreat", sum := "0d205c4180e0f4f7f75ee5301bef35f8bbd0cc7bdc3ef5488a8826cfaa57558c", func := "fretwork/fretworklaw09.EmbedNames", spec := "embedNames", unfollowed := true, recurses := true, plainKeys := false, apart := false, narrowed := true }
def EmbedNamesUptoSaid : Prop := embedNamesUptoRow.holds Tryz.pinned (OpenSpec.upto embedNamesSpec)

/-- 'fretworklaw10.KuraMade', WHERE WHAT IT READS IS OF BULK AT MOST 1048576: true; the input reads as it did. -/
def kuraMadeUptoRow : OpenClaim := { program := "ytkccdnmaaelbiaagreat", sum := "0d205c4180e0f4f7f75ee5301bef35f8bbd0cc7bdc3ef5488a8826cfaa57558c", func := "fretwork/fretworklaw10.KuraMade", spec := "kuraMade", unfollowed := true, recurses := true, plainKeys := false, apart := false, narrowed := true }
def KuraMadeUptoSaid : Prop := kuraMadeUptoRow.holds Tryz.pinned (OpenSpec.upto kuraMadeSpec)

/-- 'fretworklaw10.KuraNames', WHERE WHAT IT READS IS OF BULK AT MOST 1048576: true; the input reads as it did. -/
def kuraNamesUptoRow : OpenClaim := { program := "ytkccdnmaaelbiaagreat", sum := "0d205c4180e0f4f7f75ee5301bef35f8bbd0cc7bdc3ef5488a8826cfaa57558c", func := "fretwork/fretworklaw10.KuraNames", spec := "kuraNames", unfollowed := true, recurses := true, plainKeys := false, apart := false, narrowed := true }
def KuraNamesUptoSaid : Prop := kuraNamesUptoRow.holds Tryz.pinned (OpenSpec.upto kuraNamesSpec)

end Rows
end Go.Proofs.YtkccdnmaaelbiaaGreat
