/- The statement FacesMirrorSaid holds of the given program. -/
import Derived.Test.YtnaahaldkpdjlaaRows
import Derived.Test.YtnaahaldkpdjlaaFwLF32
namespace Go.Proofs.Ytnaahaldkpdjlaa
theorem facesMirror_holds : Rows.FacesMirrorSaid := Go.Fw.facesMirror_said
end Go.Proofs.Ytnaahaldkpdjlaa
