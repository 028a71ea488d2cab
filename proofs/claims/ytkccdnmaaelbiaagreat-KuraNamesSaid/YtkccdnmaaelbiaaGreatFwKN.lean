/- The statement KuraNamesSaid holds of the given program. -/
import Derived.Test.YtkccdnmaaelbiaaGreatRows
import Derived.Test.YtkccdnmaaelbiaaGreatFwKC2
namespace Go.Proofs.YtkccdnmaaelbiaaGreat
theorem kuraNames_holds : Rows.KuraNamesSaid := Go.Fw.kuraNames_said
end Go.Proofs.YtkccdnmaaelbiaaGreat
