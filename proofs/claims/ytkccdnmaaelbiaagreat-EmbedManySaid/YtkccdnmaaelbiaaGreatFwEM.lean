/- The statement EmbedManySaid holds of the given program. -/
import Derived.Test.YtkccdnmaaelbiaaGreatRows
import Derived.Test.YtkccdnmaaelbiaaGreatFwLJ23
namespace Go.Proofs.YtkccdnmaaelbiaaGreat
theorem embedMany_holds : Rows.EmbedManySaid := Go.Fw.embedMany_said
end Go.Proofs.YtkccdnmaaelbiaaGreat
