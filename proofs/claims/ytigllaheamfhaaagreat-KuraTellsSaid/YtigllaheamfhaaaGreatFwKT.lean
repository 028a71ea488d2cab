/- The statement KuraTellsSaid holds of the given program. -/
import Derived.Test.YtigllaheamfhaaaGreatRows
import Derived.Test.YtigllaheamfhaaaGreatFwLU6
namespace Go.Proofs.YtigllaheamfhaaaGreat
theorem kuraTells_holds : Rows.KuraTellsSaid := Go.Fw.kuraTells_said
end Go.Proofs.YtigllaheamfhaaaGreat
