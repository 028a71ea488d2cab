/- The statement FacesDartsSaid holds of the given program. -/
import Derived.Test.YtnaahaldkpdjlaaRows
import Derived.Test.YtnaahaldkpdjlaaFwLF34
namespace Go.Proofs.Ytnaahaldkpdjlaa
theorem facesDarts_holds : Rows.FacesDartsSaid := Go.Fw.facesDarts_said
end Go.Proofs.Ytnaahaldkpdjlaa
