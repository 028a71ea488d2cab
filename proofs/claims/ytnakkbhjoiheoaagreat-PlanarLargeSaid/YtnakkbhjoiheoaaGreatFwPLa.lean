/- The statement PlanarLargeSaid holds of the given program. -/
import Derived.Test.YtnakkbhjoiheoaaGreatRows
import Derived.Test.YtnakkbhjoiheoaaGreatFwPA1
namespace Go.Proofs.YtnakkbhjoiheoaaGreat
theorem planarLarge_holds : Rows.PlanarLargeSaid := Go.Fw.planarLarge_said
end Go.Proofs.YtnakkbhjoiheoaaGreat
