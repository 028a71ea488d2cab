/- The statement EmbedTwistedSaid holds of the given program. -/
import Derived.Test.YtkccdnmaaelbiaaGreatRows
import Derived.Test.YtkccdnmaaelbiaaGreatFwLR12
namespace Go.Proofs.YtkccdnmaaelbiaaGreat
theorem embedTwisted_holds : Rows.EmbedTwistedSaid := Go.Fw.embedTwisted_said
end Go.Proofs.YtkccdnmaaelbiaaGreat
