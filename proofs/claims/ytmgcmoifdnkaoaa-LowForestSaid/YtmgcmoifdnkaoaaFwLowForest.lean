/- Blocks and cut vertices are trees: the counting comes out at nought. -/
import Derived.Test.YtmgcmoifdnkaoaaRows
import Derived.Test.YtmgcmoifdnkaoaaFwLN16
namespace Go.Proofs.Ytmgcmoifdnkaoaa
theorem lowForest_holds : Rows.LowForestSaid := Go.Fw.lowForest_said
end Go.Proofs.Ytmgcmoifdnkaoaa
