/- The statement BlocksRowSaid holds of the given program. -/
import Derived.Test.YtmgcmoifdnkaoaaRows
import Derived.Test.YtmgcmoifdnkaoaaFwLD4
namespace Go.Proofs.Ytmgcmoifdnkaoaa
theorem blocksRow_holds : Rows.BlocksRowSaid := Go.Fw.blocksRow_said
end Go.Proofs.Ytmgcmoifdnkaoaa
