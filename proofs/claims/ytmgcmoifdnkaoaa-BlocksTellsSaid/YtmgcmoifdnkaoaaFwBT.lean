/- The statement BlocksTellsSaid holds of the given program. -/
import Derived.Test.YtmgcmoifdnkaoaaRows
import Derived.Test.YtmgcmoifdnkaoaaFwLC19
namespace Go.Proofs.Ytmgcmoifdnkaoaa
theorem blocksTells_holds : Rows.BlocksTellsSaid := Go.Fw.blocksTells_said
end Go.Proofs.Ytmgcmoifdnkaoaa
