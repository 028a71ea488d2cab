/- A text. -/
import Derived.ProofKit
import Derived.Deep.Slices
import Derived.Test.YtkccdnmaaelbiaaGreatFwZB
set_option linter.all false
set_option maxRecDepth 99999
set_option maxHeartbeats 9999999
namespace Go.Fw
section
open Go.ChangeShapes Go.WideShapes Go.RowKit
def MR(W:World):aae:=⟨fun b off=>(W.cell? ⟨b,off,none⟩).bind tag,0,.leaf⟩
theorem Mn(W:World)(i:Nat):(MR W).own i=none:=by simp[MR,aae.own,Trie.get]
theorem Rel.start(W:World)(m:aad):Rel (LA.of W) m (MR W) W:=⟨qL0 _,fun _ _=>rfl,fun _ _=>rfl,(by grind[Mn]),(by grind[Mn]),(by grind[Mn]),(by grind[Mn]),rfl,rfl,⟨rfl,qL0 _⟩,⟨fun _ h=>(nomatch h),WA _,.nil,fun _ _ h=>(nomatch h),fun _ _ h=>(nomatch h),fun _ _ _ h=>(nomatch h)⟩⟩
theorem Rel.below{W w':World}{m:aad}{h:aae}(R:Rel (LA.of W) m h w'):Below W.heap.size W w':=⟨R.os,R.tape.1,R.output,R.size,R.qi⟩
section
variable{H:Type}{enc:TypeId×Value->H}{P:Program}{W:World}
theorem tL{a:Addr}(h:a.spot=none)(i:Nat):a.add i=⟨a.block,a.off+i,none⟩:=by obtain⟨b,off,sp⟩:=a;simp only at h;subst h;unfold Addr.add;grind
end
end
end Go.Fw
