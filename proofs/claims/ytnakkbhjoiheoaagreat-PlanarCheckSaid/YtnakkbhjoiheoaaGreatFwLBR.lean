/- A text. -/
import Derived.Deep.Strs
import Derived.Test.YtnakkbhjoiheoaaGreatRows
import Derived.Test.YtnakkbhjoiheoaaGreatFwLB1
import Derived.Test.YtnakkbhjoiheoaaGreatFwBridge2
set_option linter.all false
set_option maxRecDepth 99999
set_option maxHeartbeats 9999999
open Option renaming some→Z,none→Y
open Bool renaming true→tT
open Go.Value renaming pointer→pT
open Go renaming Value→vV
open Go.Proofs.Tryz renaming prog→pG
namespace Go.Fw
section
open Go.Proofs Go.ChangeShapes Go.WideShapes Go.RowKit Go.ChangeAt
open Go.Proofs.YtnakkbhjoiheoaaGreat
section
variable{H:Type}{enc:TypeId×vV->H}{W:World}
theorem vI:∀(n:Nat)(C:xLV),C.length=n*2->(∀i,i<n->∃a b,(C.drop (i*2)).take 2=[.int .i64 a,.int .i64 b])->∃ps:xLP,ps.length=n/\C=Iu ps
 |0,C,c,_=>⟨[],rfl,Yi NH⟩
 |n+1,C,c,h=>by
  obtain⟨a,b,e⟩:=h 0 NH;obtain⟨ps,d,h2⟩:=vI n (C.drop 2) (by simp;omega) fun i hi=>by grind[List.drop_drop]
  refine⟨(a,b)::ps,by simp[d],?_⟩;have:C=C.take 2++C.drop 2:=(qL91 2 C).symm;rw[this,h2];simp only[Nat.zero_mul,akv]at e;rw[e];rfl
theorem rd_pairs{fuel:Nat}{cs:xLV}{x:DataW H×List MemPlace}(h:DataW.trod enc pG W 0 (fun _=>tT) tT fuel 22 cs=Z x):∃v' v ps,cs=[v']/\tag v'=Z v/\PR (MR W) v ps:=by obtain⟨v',v,n,C,a,h2,h3,b⟩:=rd_sliceK eY Ji NH (rd_pair qS8 Ac Ji Ji) _ _ _ h;obtain⟨ps,c,rfl⟩:=vI n C h3.len b;exact⟨v',v,ps,a,h2,by grind[PR.eq_1]⟩
def akH{v:vV}{d:DataW H}{ps:List MemPlace}{b0:Nat}(b:vV.okWide pG W .any b0 41 v)(h:DataW.Trod enc pG W 0 (fun _=>tT) tT 41 v d ps)(m:abd):
  ∃u xs,VR 0 m u v/\RL sJ (MR W) u xs:=by
 obtain⟨fuel,h⟩:=h;obtain⟨a,len,cap,rfl⟩:=okWide_slice Uh b;obtain⟨g,r,R,c,e,f⟩:=akz Uh Ji (rd_bool AV) _ _ _ h;simp[vV.cells]at c;subst c;exact⟨r,R,VR.akj e,f⟩
def afp{v:vV}{d:DataW H}{ps:List MemPlace}{b0:Nat}(c:vV.okWide pG W .any b0 24 v)(h:DataW.Trod enc pG W 0 (fun _=>tT) tT 24 v d ps)(m:abd):
  ∃u G,VR 0 m u v/\GR (MR W) u G:=by
 obtain⟨fuel,h⟩:=h;simp only[vV.okWide,qS9]at c;obtain⟨cs,rfl,e,_⟩:=c;have f:pG.cellsOf 24=2:=Ji;have p:pG.cellsOf 3=1:=Ji;have g:pG.cellsOf 22=1:=Ji;obtain⟨l⟩:=cs;rw[f]at e
 match l,e with
 |[x,y],_=>
  obtain⟨y0,y1,n,-,-,k,o⟩:=trod_struct2 qS9 h;simp only[p,g,vV.cells,akv,List.drop_succ_cons,adE,agT,List.drop_nil,List.take_nil]at k o;obtain⟨a,ea,_,_⟩:=DataW.trod_int Ac k;obtain⟨v',v,V,j,t1,q⟩:=rd_pairs o;injection ea with ea;injection j with j;subst ea j;refine⟨_,⟨a,V⟩,?_,v,rfl,q⟩;refine .agg Ma fun i a b ha hb=>?_
  match i with
  |0=>simp at ha hb;subst ha hb;exact .flat rfl
  |1=>simp at ha hb;subst ha hb;exact VR.akj t1
  |i+2=>simp at ha
def akT{P:Program}{w:World}{base:Nat}{spare:Nat->Bool}{held:Bool}{t:TypeId}{b:List TypeId}{v:vV}{vs:xLV}{d:DataW H}{ds:List (DataW H)}{p a:List MemPlace}(h:DataW.Trod enc P w base spare held t v d p)(hs:DataW.TrodAll enc P w base spare held b vs ds a):DataW.TrodAll enc P w base spare held (t::b) (v::vs) (d::ds) (p++a):=⟨p,a,h,hs,rfl⟩
end
def akI(p:Pr):xLV:=[.int .u8 p.1,.int .u8 p.2]
def tsU8:UA pG 5=1:=Ji
def ua0(a:Addr):aao pG 48 (pT (Z a)) (.int .i64 0)=Z (pT (Z (Ip a 0))):=by simp[aao,qS36,qS14]
def ua1(a:Addr):aao pG 48 (pT (Z a)) (.int .i64 1)=Z (pT (Z (Ip a 1))):=by simp[aao,qS36,qS14,tsU8]
section
variable{H:Type}{enc:TypeId×vV->H}{W:World}
def rd_pairU{P:Program}{t e:TypeId}(p:P.underlying t=Z (.array 2 e))(j:P.underlying e=Z (.int .u8))(q:P.cellsOf e=1)(f:P.cellsOf t=2):
  RdK enc P W t 2 (fun us=>∃a b:Int,us=[.int .u8 a,.int .u8 b]/\0<=a/\a<256/\0<=b/\b<256):=by
 intro fuel cs x h;obtain⟨xs,m,_,_,k,g,l⟩:=DataW.trod_array p h;rw[f]at k
 match cs,k,xs,g with
 |[s,c1],_,[x0,x1],_=>
  have n:=l 0 NH;have o:=l 1 NH;simp[q]at n o;obtain⟨a,ea,_,r⟩:=DataW.trod_int j n;obtain⟨b,eb,_,w1⟩:=DataW.trod_int j o;injection ea with ea;injection eb with eb;subst ea eb;simp[Lit.wf,IntKind.min,IntKind.max,IntKind.signed,IntKind.bits]at r w1;refine⟨[.int .u8 a,.int .u8 b],rfl,rfl,fun i u v' c d=>?_,a,b,rfl,NH,NH,NH,NH⟩
  match i with
  |0=>simp at c d;subst c d;rfl
  |1=>simp at c d;subst c d;rfl
  |i+2=>simp at c
end
def U2(v:vV)(p:Pr):Prop:=v=.agg #[.int .u8 p.1,.int .u8 p.2]/\0<=p.1/\p.1<256/\0<=p.2/\p.2<256
section
variable{H:Type}{enc:TypeId×vV->H}{W:World}
def open_u82{v:vV}{d:DataW H}{ps:List MemPlace}{b0:Nat}(c:vV.okWide pG W .any b0 48 v)(h:DataW.Trod enc pG W 0 (fun _=>tT) tT 48 v d ps)(m:abd):
  ∃u p,VR 0 m u v/\U2 u p:=by
 obtain⟨fuel,h⟩:=h;simp only[vV.okWide,qS36]at c;obtain⟨cs,rfl,e,_⟩:=c;obtain⟨us,k,h2,h3,a,b,rfl,f⟩:=rd_pairU qS36 qS14 Ji Ji _ _ _ h;refine⟨.agg #[.int .u8 a,.int .u8 b],(a,b),.agg (by simpa[vV.cells]using h2.symm) fun i u v' g j=>?_,rfl,f⟩;exact VR.akj (h3 i u v' (by simpa using g) (by simpa[vV.cells]using j))
end
def box48{h:aai}(b:WF h)(p:Pr):∃a,zF h (.agg #[.int .u8 p.1,.int .u8 p.2])=Z (pT (Z h.next),a)/\Le h a/\WF a/\a.own h.next=Z (.cells (akI p)):=by obtain⟨a,c,l1,w1,d⟩:=Tt b (akI p);exact⟨a,by rw[<-c];rfl,l1,w1,d⟩
def ld48{g:aai}{M:Nat}{p:Pr}(o:g.own M=Z (.cells (akI p))):aaC pG g 5 ⟨M,0,Y⟩=Z (.int .u8 p.1)/\aaC pG g 5 ⟨M,1,Y⟩=Z (.int .u8 p.2):=⟨Fq qS14 rfl o,Fq qS14 rfl o⟩
end
end Go.Fw
