/- What a search tells of a right graph is what it must be, for every graph that is handed in; no further condition. -/
import Derived.Test.YtmgcmoifdnkaoaaRows
import Derived.Test.YtmgcmoifdnkaoaaFwLM5
namespace Go.Proofs.Ytmgcmoifdnkaoaa
theorem lowSearch_holds : Rows.LowSearchSaid := Go.Fw.lowSearch_said
end Go.Proofs.Ytmgcmoifdnkaoaa
