/- The tree of blocks of a graph and the centre of a tree are as the document defines. -/
import Derived.Test.YtmgcmoifdnkaoaaRows
import Derived.Test.YtmgcmoifdnkaoaaFwLC19
namespace Go.Proofs.Ytmgcmoifdnkaoaa
theorem blocksTells_holds : Rows.BlocksTellsSaid := Go.Fw.blocksTells_said
end Go.Proofs.Ytmgcmoifdnkaoaa
