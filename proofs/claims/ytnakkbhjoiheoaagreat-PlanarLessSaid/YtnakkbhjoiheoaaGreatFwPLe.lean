/- The statement PlanarLessSaid holds of the given program. -/
import Derived.Test.YtnakkbhjoiheoaaGreatRows
import Derived.Test.YtnakkbhjoiheoaaGreatFwPA2
namespace Go.Proofs.YtnakkbhjoiheoaaGreat
theorem planarLess_holds : Rows.PlanarLessSaid := Go.Fw.planarLess_said
end Go.Proofs.YtnakkbhjoiheoaaGreat
