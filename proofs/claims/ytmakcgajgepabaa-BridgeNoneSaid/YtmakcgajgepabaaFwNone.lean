/- Beside no web fragments are the parts that have an edge, beside all edges there are none: the given statement BridgeNone, with no condition. -/
import Derived.Test.YtmakcgajgepabaaRows
import Derived.Test.YtmakcgajgepabaaFwW7
namespace Go.Proofs.Ytmakcgajgepabaa
theorem bridgeNone_holds : Rows.BridgeNoneSaid := Go.Fw.bridgeNone_said
end Go.Proofs.Ytmakcgajgepabaa
