/- The statement FacesPlaneSaid holds of the given program. -/
import Derived.Test.YtnaahaldkpdjlaaRows
import Derived.Test.YtnaahaldkpdjlaaFwLF24
namespace Go.Proofs.Ytnaahaldkpdjlaa
theorem facesPlane_holds : Rows.FacesPlaneSaid := Go.Fw.facesPlane_said
end Go.Proofs.Ytnaahaldkpdjlaa
