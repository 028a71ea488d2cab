/- The fragments beside a web are exactly as the document defines: the given statement BridgeTells, with no condition. -/
import Derived.Test.YtmakcgajgepabaaRows
import Derived.Test.YtmakcgajgepabaaFwB28
namespace Go.Proofs.Ytmakcgajgepabaa
theorem bridgeTells_holds : Rows.BridgeTellsSaid := Go.Fw.bridgeTells_said
end Go.Proofs.Ytmakcgajgepabaa
