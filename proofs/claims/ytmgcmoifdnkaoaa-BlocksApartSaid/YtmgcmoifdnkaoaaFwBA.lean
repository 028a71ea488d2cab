/- The statement BlocksApartSaid holds of the given program. -/
import Derived.Test.YtmgcmoifdnkaoaaRows
import Derived.Test.YtmgcmoifdnkaoaaFwLC21
namespace Go.Proofs.Ytmgcmoifdnkaoaa
theorem blocksApart_holds : Rows.BlocksApartSaid := Go.Fw.blocksApart_said
end Go.Proofs.Ytmgcmoifdnkaoaa
