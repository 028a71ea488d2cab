/- The statement BridgeNamesSaid holds of the given program. -/
import Derived.Test.YtnaahaldkpdjlaaRows
import Derived.Test.YtnaahaldkpdjlaaFwLW22
namespace Go.Proofs.Ytnaahaldkpdjlaa
theorem bridgeNames_holds : Rows.BridgeNamesSaid := Go.Fw.bridgeNames_said
end Go.Proofs.Ytnaahaldkpdjlaa
