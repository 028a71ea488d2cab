/- Of a row of 3 to 200 vertices each edge is a bridge, and all but its ends are cut vertices; closed to a ring it is one block without any. -/
import Derived.Test.YtmgcmoifdnkaoaaRows
import Derived.Test.YtmgcmoifdnkaoaaFwLN20
namespace Go.Proofs.Ytmgcmoifdnkaoaa
theorem lowLong_holds : Rows.LowLongSaid := Go.Fw.lowLong_said
end Go.Proofs.Ytmgcmoifdnkaoaa
