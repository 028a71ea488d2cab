/- The statement BridgeTwoSaid holds of the given program. -/
import Derived.Test.YtnaahaldkpdjlaaRows
import Derived.Test.YtnaahaldkpdjlaaFwLW17
namespace Go.Proofs.Ytnaahaldkpdjlaa
theorem bridgeTwo_holds : Rows.BridgeTwoSaid := Go.Fw.bridgeTwo_said
end Go.Proofs.Ytnaahaldkpdjlaa
