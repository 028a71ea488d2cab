/- The low numbers, bridges, cut vertices and blocks of a graph are as the document defines them. -/
import Derived.Test.YtmgcmoifdnkaoaaRows
import Derived.Test.YtmgcmoifdnkaoaaFwLN14
namespace Go.Proofs.Ytmgcmoifdnkaoaa
theorem lowTells_holds : Rows.LowTellsSaid := Go.Fw.lowTells_said
end Go.Proofs.Ytmgcmoifdnkaoaa
