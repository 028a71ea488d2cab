/- Between two feet of a fragment there is a way that meets the web at its ends alone: the given statement BridgeWays, with no condition. -/
import Derived.Test.YtmakcgajgepabaaRows
import Derived.Test.YtmakcgajgepabaaFwW15
namespace Go.Proofs.Ytmakcgajgepabaa
theorem bridgeWays_holds : Rows.BridgeWaysSaid := Go.Fw.bridgeWays_said
end Go.Proofs.Ytmakcgajgepabaa
