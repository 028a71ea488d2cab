/- The statement EmbedLargeSaid holds of the given program. -/
import Derived.Test.YtkccdnmaaelbiaaGreatRows
import Derived.Test.YtkccdnmaaelbiaaGreatFwLQ3
namespace Go.Proofs.YtkccdnmaaelbiaaGreat
theorem embedLarge_holds : Rows.EmbedLargeSaid := Go.Fw.embedLarge_said
end Go.Proofs.YtkccdnmaaelbiaaGreat
