/- The statement BlocksTreeSaid holds of the given program. -/
import Derived.Test.YtmgcmoifdnkaoaaRows
import Derived.Test.YtmgcmoifdnkaoaaFwLE5
namespace Go.Proofs.Ytmgcmoifdnkaoaa
theorem blocksTree_holds : Rows.BlocksTreeSaid := Go.Fw.blocksTree_said
end Go.Proofs.Ytmgcmoifdnkaoaa
