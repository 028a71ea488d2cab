/- Each edge of a right graph is in one block and two with a vertex in common are in one just if their other ends hang together without it, for every graph that is handed in; no further condition. -/
import Derived.Test.YtmgcmoifdnkaoaaRows
import Derived.Test.YtmgcmoifdnkaoaaFwLM9
namespace Go.Proofs.Ytmgcmoifdnkaoaa
theorem lowBlocks_holds : Rows.LowBlocksSaid := Go.Fw.lowBlocks_said
end Go.Proofs.Ytmgcmoifdnkaoaa
