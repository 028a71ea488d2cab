/- The statement KuraLeastSaid holds of the given program. -/
import Derived.Test.YtkccdnmaaelbiaaGreatRows
import Derived.Test.YtkccdnmaaelbiaaGreatFwKD3
namespace Go.Proofs.YtkccdnmaaelbiaaGreat
theorem kuraLeast_holds : Rows.KuraLeastSaid := Go.Fw.kuraLeast_said
end Go.Proofs.YtkccdnmaaelbiaaGreat
