/- The statement PlanarCertifySaid holds of the given program. -/
import Derived.Test.YtnakkbhjoiheoaaGreatRows
import Derived.Test.YtnakkbhjoiheoaaGreatFwPA1
namespace Go.Proofs.YtnakkbhjoiheoaaGreat
theorem planarCertify_holds : Rows.PlanarCertifySaid := Go.Fw.planarCertify_said
end Go.Proofs.YtnakkbhjoiheoaaGreat
