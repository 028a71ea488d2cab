/- The statement PlanarFacesSaid holds of the given program. -/
import Derived.Test.YtnakkbhjoiheoaaGreatRows
import Derived.Test.YtnakkbhjoiheoaaGreatFwPA5
namespace Go.Proofs.YtnakkbhjoiheoaaGreat
theorem planarFaces_holds : Rows.PlanarFacesSaid := Go.Fw.planarFaces_said
end Go.Proofs.YtnakkbhjoiheoaaGreat
