/- The statement KuraBlocksSaid holds of the given program. -/
import Derived.Test.YtkccdnmaaelbiaaGreatRows
import Derived.Test.YtkccdnmaaelbiaaGreatFwKA7
namespace Go.Proofs.YtkccdnmaaelbiaaGreat
theorem kuraBlocks_holds : Rows.KuraBlocksSaid := Go.Fw.kuraBlocks_said
end Go.Proofs.YtkccdnmaaelbiaaGreat
