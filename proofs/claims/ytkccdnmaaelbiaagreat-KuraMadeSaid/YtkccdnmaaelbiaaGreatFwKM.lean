/- The statement KuraMadeSaid holds of the given program. -/
import Derived.Test.YtkccdnmaaelbiaaGreatRows
import Derived.Test.YtkccdnmaaelbiaaGreatFwKD5
namespace Go.Proofs.YtkccdnmaaelbiaaGreat
theorem kuraMade_holds : Rows.KuraMadeSaid := Go.Fw.kuraMade_said
end Go.Proofs.YtkccdnmaaelbiaaGreat
