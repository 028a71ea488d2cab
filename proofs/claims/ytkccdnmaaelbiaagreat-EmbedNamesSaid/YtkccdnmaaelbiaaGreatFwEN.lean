/- The statement EmbedNamesSaid holds of the given program. -/
import Derived.Test.YtkccdnmaaelbiaaGreatRows
import Derived.Test.YtkccdnmaaelbiaaGreatFwLJ23
namespace Go.Proofs.YtkccdnmaaelbiaaGreat
theorem embedNames_holds : Rows.EmbedNamesSaid := Go.Fw.embedNames_said
end Go.Proofs.YtkccdnmaaelbiaaGreat
