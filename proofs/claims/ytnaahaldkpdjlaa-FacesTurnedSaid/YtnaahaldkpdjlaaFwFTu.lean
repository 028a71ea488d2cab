/- The statement FacesTurnedSaid holds of the given program. -/
import Derived.Test.YtnaahaldkpdjlaaRows
import Derived.Test.YtnaahaldkpdjlaaFwLF16
namespace Go.Proofs.Ytnaahaldkpdjlaa
theorem facesTurned_holds : Rows.FacesTurnedSaid := Go.Fw.facesTurned_said
end Go.Proofs.Ytnaahaldkpdjlaa
