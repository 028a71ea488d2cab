/- A vertex is a cut vertex just if there are more parts without it, and just if it is in two blocks or more, of any right graph of at most 24 vertices. -/
import Derived.Test.YtmgcmoifdnkaoaaRows
import Derived.Test.YtmgcmoifdnkaoaaFwLN18
namespace Go.Proofs.Ytmgcmoifdnkaoaa
theorem lowCuts_holds : Rows.LowCutsSaid := Go.Fw.lowCuts_said
end Go.Proofs.Ytmgcmoifdnkaoaa
