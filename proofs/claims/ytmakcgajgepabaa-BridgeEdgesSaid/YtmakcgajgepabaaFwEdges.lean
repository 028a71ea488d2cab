/- Each edge that is not of the web is in one fragment, with those with which it hangs together without the web: the given statement BridgeEdges, with no condition. -/
import Derived.Test.YtmakcgajgepabaaRows
import Derived.Test.YtmakcgajgepabaaFwX6
namespace Go.Proofs.Ytmakcgajgepabaa
theorem bridgeEdges_holds : Rows.BridgeEdgesSaid := Go.Fw.bridgeEdges_said
end Go.Proofs.Ytmakcgajgepabaa
