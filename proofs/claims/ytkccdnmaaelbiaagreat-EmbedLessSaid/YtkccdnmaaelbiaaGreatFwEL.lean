/- The statement EmbedLessSaid holds of the given program. -/
import Derived.Test.YtkccdnmaaelbiaaGreatRows
import Derived.Test.YtkccdnmaaelbiaaGreatFwLQ3
namespace Go.Proofs.YtkccdnmaaelbiaaGreat
theorem embedLess_holds : Rows.EmbedLessSaid := Go.Fw.embedLess_said
end Go.Proofs.YtkccdnmaaelbiaaGreat
