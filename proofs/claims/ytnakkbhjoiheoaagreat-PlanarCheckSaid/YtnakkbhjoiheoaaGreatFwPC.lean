/- The statement PlanarCheckSaid holds of the given program. -/
import Derived.Test.YtnakkbhjoiheoaaGreatRows
import Derived.Test.YtnakkbhjoiheoaaGreatFwPQ1
namespace Go.Proofs.YtnakkbhjoiheoaaGreat
theorem planarCheck_holds : Rows.PlanarCheckSaid := Go.Fw.planarCheck_said
end Go.Proofs.YtnakkbhjoiheoaaGreat
