/- Which skins are right, the walk from any dart, the lesser ones of it and its mirror, and the least ones of all, are exactly as the document defines: the given statement RigidTells, with no condition. -/
import Derived.Test.YtdflaojabddalaaRows
import Derived.Test.YtdflaojabddalaaFwRg41
namespace Go.Proofs.Ytdflaojabddalaa
theorem rigidTells_holds : Rows.RigidTellsSaid := Go.Fw.tells
end Go.Proofs.Ytdflaojabddalaa
