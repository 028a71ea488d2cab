/- The statement FacesTellsSaid holds of the given program. -/
import Derived.Test.YtnaahaldkpdjlaaRows
import Derived.Test.YtnaahaldkpdjlaaFwLH10
namespace Go.Proofs.Ytnaahaldkpdjlaa
theorem facesTells_holds : Rows.FacesTellsSaid := Go.Fw.facesTells_said
end Go.Proofs.Ytnaahaldkpdjlaa
