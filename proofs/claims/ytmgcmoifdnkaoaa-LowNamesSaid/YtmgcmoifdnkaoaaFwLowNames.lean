/- However vertices are called, blocks, cut vertices and bridges stay, called alike, of any right graph of at most 24 vertices, with any permutation of these. -/
import Derived.Test.YtmgcmoifdnkaoaaRows
import Derived.Test.YtmgcmoifdnkaoaaFwLN22
namespace Go.Proofs.Ytmgcmoifdnkaoaa
theorem lowNames_holds : Rows.LowNamesSaid := Go.Fw.lowNames_said
end Go.Proofs.Ytmgcmoifdnkaoaa
