/- A text. -/
import Derived.OpenShut
import Derived.Deep.Strs
import Derived.Test.YtkccdnmaaelbiaaGreatRows
import Derived.Test.YtkccdnmaaelbiaaGreatFwLB1
import Derived.Test.YtkccdnmaaelbiaaGreatFwBridge
set_option linter.all false
set_option maxRecDepth 99999
set_option maxHeartbeats 9999999
namespace Go.Fw
open Go.Proofs Go.ChangeShapes Go.WideShapes Go.RowKit Go.ChangeAt
open Go.Proofs.YtkccdnmaaelbiaaGreat
section
variable {H : Type} {enc : TypeId × Value → H} {W : World}
theorem ZV {v:Value} {d:DataW H} {ps:List MemPlace} {b0:Nat} (b:Value.okWide Tryz.prog W .any b0 49 v) (h:DataW.Trod enc Tryz.prog W 0 (fun _=>true) true 49 v d ps) (m:rC):
  ∃u xs,VR 0 m u v/\RL RP (MR W) u xs:=by
 obtain⟨fuel,h⟩:=h;obtain⟨a,len,cap,rfl⟩:=okWide_slice Ac b;obtain⟨e,r,R,c,f,g⟩:=Vd Ac Ji (rd_i64 Mb) _ _ _ h;simp[Value.cells]at c
 grind [VR.jC]
def aeS {P:Program} {w:World} {base:Nat} {spare:Nat->Bool} {held:Bool} {t:TypeId} {b:List TypeId} {v:Value} {vs:List Value} {d:DataW H} {ds:List (DataW H)} {p a:List MemPlace}
  (h:DataW.Trod enc P w base spare held t v d p) (hs:DataW.TrodAll enc P w base spare held b vs ds a):DataW.TrodAll enc P w base spare held (t::b) (v::vs) (d::ds) (p++a):=⟨p,a,h,hs,rfl⟩
end
end Go.Fw
