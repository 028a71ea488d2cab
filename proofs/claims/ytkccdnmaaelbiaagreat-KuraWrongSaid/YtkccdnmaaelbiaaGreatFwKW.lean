/- The statement KuraWrongSaid holds of the given program. -/
import Derived.Test.YtkccdnmaaelbiaaGreatRows
import Derived.Test.YtkccdnmaaelbiaaGreatFwKA7
namespace Go.Proofs.YtkccdnmaaelbiaaGreat
theorem kuraWrong_holds : Rows.KuraWrongSaid := Go.Fw.kuraWrong_said
end Go.Proofs.YtkccdnmaaelbiaaGreat
