/- The statement BlocksCentreSaid holds of the given program. -/
import Derived.Test.YtnaahaldkpdjlaaRows
import Derived.Test.YtnaahaldkpdjlaaFwLE10
namespace Go.Proofs.Ytnaahaldkpdjlaa
theorem blocksCentre_holds : Rows.BlocksCentreSaid := Go.Fw.blocksCentre_said
end Go.Proofs.Ytnaahaldkpdjlaa
