/- Two walks have the same code just if the one order goes to the other one by a map that keeps colours, darts and circles (turned about, if just one of them was in the mirror); all vertices are met, each once: the given statement RigidMaps, with no condition. -/
import Derived.Test.YtdflaojabddalaaRows
import Derived.Test.YtdflaojabddalaaFwRg65
namespace Go.Proofs.Ytdflaojabddalaa
theorem rigidMaps_holds : Rows.RigidMapsSaid := Go.Fw.maps_said
end Go.Proofs.Ytdflaojabddalaa
