/- The statement EmbedPlaneSaid holds of the given program. -/
import Derived.Test.YtkccdnmaaelbiaaGreatRows
import Derived.Test.YtkccdnmaaelbiaaGreatFwLJ19
namespace Go.Proofs.YtkccdnmaaelbiaaGreat
theorem embedPlane_holds : Rows.EmbedPlaneSaid := Go.Fw.embedPlane_said
end Go.Proofs.YtkccdnmaaelbiaaGreat
