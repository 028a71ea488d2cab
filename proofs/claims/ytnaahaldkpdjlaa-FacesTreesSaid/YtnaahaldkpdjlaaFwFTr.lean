/- The statement FacesTreesSaid holds of the given program. -/
import Derived.Test.YtnaahaldkpdjlaaRows
import Derived.Test.YtnaahaldkpdjlaaFwLF20
namespace Go.Proofs.Ytnaahaldkpdjlaa
theorem facesTrees_holds : Rows.FacesTreesSaid := Go.Fw.facesTrees_said
end Go.Proofs.Ytnaahaldkpdjlaa
