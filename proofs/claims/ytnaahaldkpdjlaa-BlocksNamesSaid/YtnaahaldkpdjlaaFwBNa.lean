/- The statement BlocksNamesSaid holds of the given program. -/
import Derived.Test.YtnaahaldkpdjlaaRows
import Derived.Test.YtnaahaldkpdjlaaFwLE11
namespace Go.Proofs.Ytnaahaldkpdjlaa
theorem blocksNames_holds : Rows.BlocksNamesSaid := Go.Fw.blocksNames_said
end Go.Proofs.Ytnaahaldkpdjlaa
