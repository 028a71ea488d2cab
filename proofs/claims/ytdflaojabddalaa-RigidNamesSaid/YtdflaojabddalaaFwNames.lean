/- If the vertices are called otherwise, and each circle begins elsewhere, the codes are the same, and the least ones are told as often; in the mirror too: the given statement RigidNames, with no condition. -/
import Derived.Test.YtdflaojabddalaaRows
import Derived.Test.YtdflaojabddalaaFwRg56
namespace Go.Proofs.Ytdflaojabddalaa
theorem rigidNames_holds : Rows.RigidNamesSaid := Go.Fw.names_said
end Go.Proofs.Ytdflaojabddalaa
