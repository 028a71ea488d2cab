/- The statement EmbedTellsSaid holds of the given program. -/
import Derived.Test.YtkccdnmaaelbiaaGreatRows
import Derived.Test.YtkccdnmaaelbiaaGreatFwLU2
namespace Go.Proofs.YtkccdnmaaelbiaaGreat
theorem embedTells_holds : Rows.EmbedTellsSaid := Go.Fw.embedTells_said
end Go.Proofs.YtkccdnmaaelbiaaGreat
