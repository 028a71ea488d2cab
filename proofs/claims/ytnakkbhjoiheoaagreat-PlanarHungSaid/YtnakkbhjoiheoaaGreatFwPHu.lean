/- The statement PlanarHungSaid holds of the given program. -/
import Derived.Test.YtnakkbhjoiheoaaGreatRows
import Derived.Test.YtnakkbhjoiheoaaGreatFwPA8
namespace Go.Proofs.YtnakkbhjoiheoaaGreat
theorem planarHung_holds : Rows.PlanarHungSaid := Go.Fw.planarHung_said
end Go.Proofs.YtnakkbhjoiheoaaGreat
