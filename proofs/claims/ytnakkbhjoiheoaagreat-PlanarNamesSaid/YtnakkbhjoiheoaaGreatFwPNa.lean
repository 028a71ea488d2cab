/- The statement PlanarNamesSaid holds of the given program. -/
import Derived.Test.YtnakkbhjoiheoaaGreatRows
import Derived.Test.YtnakkbhjoiheoaaGreatFwPA4
namespace Go.Proofs.YtnakkbhjoiheoaaGreat
theorem planarNames_holds : Rows.PlanarNamesSaid := Go.Fw.planarNames_said
end Go.Proofs.YtnakkbhjoiheoaaGreat
