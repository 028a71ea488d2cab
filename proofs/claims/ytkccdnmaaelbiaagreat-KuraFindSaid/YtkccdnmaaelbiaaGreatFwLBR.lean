/- A text. -/
import Derived.Deep.Strs
import Derived.Test.YtkccdnmaaelbiaaGreatRows
import Derived.Test.YtkccdnmaaelbiaaGreatFwLB1
import Derived.Test.YtkccdnmaaelbiaaGreatFwBridge2
set_option linter.all false
set_option maxRecDepth 99999
set_option maxHeartbeats 9999999
namespace Go.Fw
open Go.Proofs Go.ChangeShapes Go.WideShapes Go.RowKit Go.ChangeAt
open Go.Proofs.YtkccdnmaaelbiaaGreat
section
variable {H : Type} {enc : TypeId × Value → H} {W : World}
theorem vI:∀(n:Nat) (C:List Value),C.length=n*2->(∀i,i<n->∃a b,(C.drop (i*2)).take 2=[.int .i64 a,.int .i64 b])->∃ps:List Pr,ps.length=n/\C=Iu ps
 |0,C,c,_=>⟨[],rfl,EH NH⟩
 |n+1,C,c,h=>by
  obtain⟨a,b,e⟩:=h 0 NH;obtain⟨ps,d,h2⟩:=vI n (C.drop 2) (by simp;omega) fun i hi=>by grind [List.drop_drop]
  refine⟨(a,b)::ps,by simp[d],?_⟩;have:C=C.take 2++C.drop 2:=(qL92 2 C).symm;rw[this,h2];simp only[Nat.zero_mul,Xz]at e;rw[e];rfl
theorem rd_pairs {fuel:Nat} {cs:List Value} {x:DataW H×List MemPlace} (h:DataW.trod enc Tryz.prog W 0 (fun _=>true) true fuel 22 cs=some x):∃v' v ps,cs=[v']/\tag v'=some v/\PR (MR W) v ps:=by
 obtain⟨v',v,n,C,a,h2,h3,b⟩:=Ku Uh Ji NH (rd_pair qS8 Mb Ji Ji) _ _ _ h;obtain⟨ps,c,rfl⟩:=vI n C h3.len b;exact⟨v',v,ps,a,h2,by grind [PR.eq_1]⟩
def afo {v:Value} {d:DataW H} {ps:List MemPlace} {b0:Nat} (b:Value.okWide Tryz.prog W .any b0 59 v) (h:DataW.Trod enc Tryz.prog W 0 (fun _=>true) true 59 v d ps) (m:rC):
  ∃u xs,VR 0 m u v/\RL sJ (MR W) u xs:=by
 obtain⟨fuel,h⟩:=h;obtain⟨a,len,cap,rfl⟩:=okWide_slice eY b;obtain⟨g,r,R,c,e,f⟩:=rd_slice eY Ji (rd_bool AV) _ _ _ h;simp[Value.cells]at c;subst c;exact⟨r,R,VR.jC e,f⟩
def afp {v:Value} {d:DataW H} {ps:List MemPlace} {b0:Nat} (c:Value.okWide Tryz.prog W .any b0 24 v) (h:DataW.Trod enc Tryz.prog W 0 (fun _=>true) true 24 v d ps) (m:rC):
  ∃u G,VR 0 m u v/\GR (MR W) u G:=by
 obtain⟨fuel,h⟩:=h;simp only[Value.okWide,UP]at c;obtain⟨cs,rfl,e,_⟩:=c;have f:Tryz.prog.cellsOf 24=2:=Ji;have p:Tryz.prog.cellsOf 3=1:=Ji;have g:Tryz.prog.cellsOf 22=1:=Ji;obtain⟨l⟩:=cs;rw[f]at e
 match l,e with
 |[x,y],_=>
  obtain⟨y0,y1,n,-,-,k,o⟩:=trod_struct2 UP h;simp only[p,g,Value.cells,Xz,List.drop_succ_cons,abW,ahO,List.drop_nil,List.take_nil]at k o;obtain⟨a,ea,_,_⟩:=DataW.trod_int Mb k;obtain⟨v',v,V,j,t1,q⟩:=rd_pairs o;injection ea with ea;injection j with j;subst ea j;refine⟨_,⟨a,V⟩,?_,v,rfl,q⟩;refine .agg Ma fun i a b ha hb=>?_
  match i with
  |0=>simp at ha hb;subst ha hb;exact .flat rfl
  |1=>simp at ha hb;subst ha hb;exact VR.jC t1
  |i+2=>simp at ha
def tcons {P:Program} {w:World} {base:Nat} {spare:Nat->Bool} {held:Bool} {t:TypeId} {b:List TypeId} {v:Value} {vs:List Value} {d:DataW H} {ds:List (DataW H)} {p a:List MemPlace}
  (h:DataW.Trod enc P w base spare held t v d p) (hs:DataW.TrodAll enc P w base spare held b vs ds a):DataW.TrodAll enc P w base spare held (t::b) (v::vs) (d::ds) (p++a):=⟨p,a,h,hs,rfl⟩
end
end Go.Fw
