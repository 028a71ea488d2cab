/- The statement KuraFindSaid holds of the given program. -/
import Derived.Test.YtkccdnmaaelbiaaGreatRows
import Derived.Test.YtkccdnmaaelbiaaGreatFwKB2
namespace Go.Proofs.YtkccdnmaaelbiaaGreat
theorem kuraFind_holds : Rows.KuraFindSaid := Go.Fw.kuraFind_said
end Go.Proofs.YtkccdnmaaelbiaaGreat
