/- The statement FacesWrongSaid holds of the given program. -/
import Derived.Test.YtnaahaldkpdjlaaRows
import Derived.Test.YtnaahaldkpdjlaaFwLF38
namespace Go.Proofs.Ytnaahaldkpdjlaa
theorem facesWrong_holds : Rows.FacesWrongSaid := Go.Fw.facesWrong_said
end Go.Proofs.Ytnaahaldkpdjlaa
