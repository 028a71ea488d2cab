/- An edge of a right graph is told as a bridge just if there are more parts without it and just if it is a block by itself, for every graph that is handed in; no further condition. -/
import Derived.Test.YtmgcmoifdnkaoaaRows
import Derived.Test.YtmgcmoifdnkaoaaFwLM11
namespace Go.Proofs.Ytmgcmoifdnkaoaa
theorem lowBridges_holds : Rows.LowBridgesSaid := Go.Fw.lowBridges_said
end Go.Proofs.Ytmgcmoifdnkaoaa
