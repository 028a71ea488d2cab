/- A text. -/
import Derived.Deep.Strs
import Derived.Test.YtkccdnmaaelbiaaGreatRows
import Derived.Test.YtkccdnmaaelbiaaGreatFwLB6
import Derived.Test.YtkccdnmaaelbiaaGreatFwBridge2
set_option linter.all false
set_option maxRecDepth 99999
set_option maxHeartbeats 9999999
namespace Go.Fw
section
open Go.Proofs Go.ChangeShapes Go.WideShapes Go.RowKit Go.ChangeAt
open Go.Proofs.YtkccdnmaaelbiaaGreat
section
variable{H:Type}{enc:TypeId×Value->H}{W:World}
theorem ajh:∀(n:Nat)(C:List Value),C.length=n*2->(∀i,i<n->∃a b,(C.drop (i*2)).take 2=[.int .i64 a,.int .i64 b])->∃ps:List Pr,ps.length=n/\C=Iu ps
 |0,C,c,_=>⟨[],rfl,Lm NH⟩
 |n+1,C,c,h=>by
  obtain⟨a,b,e⟩:=h 0 NH;obtain⟨ps,d,h2⟩:=ajh n (C.drop 2) (by simp;omega) fun i hi=>by grind[List.drop_drop]
  refine⟨(a,b)::ps,by simp[d],?_⟩;have:C=C.take 2++C.drop 2:=(qL92 2 C).symm;rw[this,h2];simp only[Nat.zero_mul,ti]at e;rw[e];rfl
theorem rd_pairs{fuel:Nat}{cs:List Value}{x:DataW H×List MemPlace}(h:DataW.trod enc Tryz.prog W 0 (fun _=>true) true fuel 22 cs=some x):∃v' v ps,cs=[v']/\tag v'=some v/\PR (MR W) v ps:=by obtain⟨v',v,n,C,a,h2,h3,b⟩:=alO eY Ji NH (rd_pair qS8 Ac Ji Ji) _ _ _ h;obtain⟨ps,c,rfl⟩:=ajh n C h3.len b;exact⟨v',v,ps,a,h2,by grind[PR.eq_1]⟩
def tcons{P:Program}{w:World}{base:Nat}{spare:Nat->Bool}{held:Bool}{t:TypeId}{b:List TypeId}{v:Value}{vs:List Value}{d:DataW H}{ds:List (DataW H)}{p a:List MemPlace}(h:DataW.Trod enc P w base spare held t v d p)(hs:DataW.TrodAll enc P w base spare held b vs ds a):DataW.TrodAll enc P w base spare held (t::b) (v::vs) (d::ds) (p++a):=⟨p,a,h,hs,rfl⟩
end
end
end Go.Fw
