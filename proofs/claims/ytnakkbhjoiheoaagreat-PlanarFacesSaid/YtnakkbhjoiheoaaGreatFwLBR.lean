/- A text. -/
import Derived.Deep.Strs
import Derived.Test.YtnakkbhjoiheoaaGreatRows
import Derived.Test.YtnakkbhjoiheoaaGreatFwLB1
import Derived.Test.YtnakkbhjoiheoaaGreatFwBridge2
set_option linter.all false
set_option maxRecDepth 99999
set_option maxHeartbeats 9999999
open Option renaming some→Z
open Bool renaming true→tT
open Go renaming Value→vV
open Go.Proofs.Tryz renaming prog→pG
namespace Go.Fw
section
open Go.Proofs Go.ChangeShapes Go.WideShapes Go.RowKit Go.ChangeAt
open Go.Proofs.YtnakkbhjoiheoaaGreat
section
variable{H:Type}{enc:TypeId×vV->H}{W:World}
theorem vI:∀(n:Nat)(C:xLV),C.length=n*2->(∀i,i<n->∃a b,(C.drop (i*2)).take 2=[.int .i64 a,.int .i64 b])->∃ps:xLP,ps.length=n/\C=Iu ps
 |0,C,c,_=>⟨[],rfl,QD NH⟩
 |n+1,C,c,h=>by
  obtain⟨a,b,e⟩:=h 0 NH;obtain⟨ps,d,h2⟩:=vI n (C.drop 2) (by simp;omega) fun i hi=>by grind[List.drop_drop]
  refine⟨(a,b)::ps,by simp[d],?_⟩;have:C=C.take 2++C.drop 2:=(qL88 2 C).symm;rw[this,h2];simp only[Nat.zero_mul,ai8]at e;rw[e];rfl
theorem rd_pairs{fuel:Nat}{cs:xLV}{x:DataW H×List MemPlace}(h:DataW.trod enc pG W 0 (fun _=>tT) tT fuel 22 cs=Z x):∃v' v ps,cs=[v']/\tag v'=Z v/\PR (MR W) v ps:=by obtain⟨v',v,n,C,a,h2,h3,b⟩:=Ku eY Ji NH (rd_pair qS6 Ac Ji Ji) _ _ _ h;obtain⟨ps,c,rfl⟩:=vI n C h3.len b;exact⟨v',v,ps,a,h2,by grind[PR.eq_1]⟩
def afp{v:vV}{d:DataW H}{ps:List MemPlace}{b0:Nat}(c:vV.okWide pG W .any b0 24 v)(h:DataW.Trod enc pG W 0 (fun _=>tT) tT 24 v d ps)(m:aaF):
  ∃u G,VR 0 m u v/\GR (MR W) u G:=by
 obtain⟨fuel,h⟩:=h;simp only[vV.okWide,qS7]at c;obtain⟨cs,rfl,e,_⟩:=c;have f:pG.cellsOf 24=2:=Ji;have p:pG.cellsOf 3=1:=Ji;have g:pG.cellsOf 22=1:=Ji;obtain⟨l⟩:=cs;rw[f]at e
 match l,e with
 |[x,y],_=>
  obtain⟨y0,y1,n,-,-,k,o⟩:=trod_struct2 qS7 h;simp only[p,g,vV.cells,ai8,List.drop_succ_cons,Bc,ajO,List.drop_nil,List.take_nil]at k o;obtain⟨a,ea,_,_⟩:=DataW.trod_int Ac k;obtain⟨v',v,V,j,t1,q⟩:=rd_pairs o;injection ea with ea;injection j with j;subst ea j;refine⟨_,⟨a,V⟩,?_,v,rfl,q⟩;refine .agg Ma fun i a b ha hb=>?_
  match i with
  |0=>simp at ha hb;subst ha hb;exact .flat rfl
  |1=>simp at ha hb;subst ha hb;exact VR.of_tag t1
  |i+2=>simp at ha
def tcons{P:Program}{w:World}{base:Nat}{spare:Nat->Bool}{held:Bool}{t:TypeId}{b:List TypeId}{v:vV}{vs:xLV}{d:DataW H}{ds:List (DataW H)}{p a:List MemPlace}(h:DataW.Trod enc P w base spare held t v d p)(hs:DataW.TrodAll enc P w base spare held b vs ds a):DataW.TrodAll enc P w base spare held (t::b) (v::vs) (d::ds) (p++a):=⟨p,a,h,hs,rfl⟩
end
end
end Go.Fw
