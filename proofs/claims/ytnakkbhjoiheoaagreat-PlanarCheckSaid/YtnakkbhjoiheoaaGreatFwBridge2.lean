/- A text. -/
import Derived.OpenShut
import Derived.Test.YtnakkbhjoiheoaaGreatFwBridge
set_option linter.all false
set_option maxRecDepth 99999
set_option maxHeartbeats 9999999
open Option renaming some→Z,none→Y
open Bool renaming true→tT
open Go.Value renaming slice→sL
open Go renaming Value→vV
namespace Go.Fw
section
open Go.ChangeShapes Go.WideShapes Go.RowKit
section
variable{H:Type}{enc:TypeId×vV->H}{P:Program}{W:World}
def RdK(enc:TypeId×vV->H)(P:Program)(W:World)(t:TypeId)(k:Nat)(Q:xLV->Prop):Prop:=∀fuel cs x,DataW.trod enc P W 0 (fun _=>tT) tT fuel t cs=Z x->∃us:xLV,us.length=k/\cs.length=k/\(∀(i:Nat) u v',us[i]?=Z u->cs[i]?=Z v'->tag v'=Z u)/\Q us
theorem rd_sliceK{t e:TypeId}{k:Nat}{Q:xLV->Prop}(s:P.underlying t=Z (.slice e))(G:P.cellsOf e=k)(I:0<k)(E:RdK enc P W e k Q):
  ∀fuel cs x,DataW.trod enc P W 0 (fun _=>tT) tT fuel t cs=Z x->∃v' v n C,cs=[v']/\tag v'=Z v/\CS k (MR W) v n C/\∀i,i<n->Q ((C.drop (i*k)).take k):=by
 intro fuel cs x h;rcases Go.Deep.open_slice s h with⟨rfl,_⟩|⟨a,len,cap,m,n,D,O,rfl,hb,R,J,o,_,w⟩
 .exact⟨_,.slice Y 0 0,0,[],rfl,rfl,CS.nil k _,fun i hi=>absurd hi NH⟩
 .simp only[if_true]at o;have p:=o.symm;subst p;rw[G]at w;have S:cap<UNK:=JR J WY;by_cases K:cap=0
  .subst K;have:len=0:=NH;subst this;refine⟨_,sL (Z ⟨a.block,a.off,Z 0⟩) 0 0,0,[],rfl,?_,⟨⟨_,0,rfl,Ma⟩,Ma,Ma⟩,fun i hi=>absurd hi NH⟩;obtain⟨b,off,sp⟩:=a;cases sp<;>grind[tag]
  .have y:a.spot=Y:=by
    obtain⟨f,r,h2⟩:=w 0 NH;obtain⟨us,_,L,_⟩:=E _ _ _ h2;obtain⟨_,hlen,c⟩:=World.cells?_some r;have g:=c 0 I;rw[show(a.add (0*k)).add 0=a from by simp[Addr.add]]at g;cases z:f[0]? with
    |none=>grind
    |some q=>
     rw[z]at g;simp only[World.cell?]at g;split at g
     .split at g
      .cases g
      .rename_i hs;simpa using hs
     .cases g
   have key:∀j,j<=len->∃C:xLV,C.length=j*k/\(∀(i:Nat) u,C[i]?=Z u->(MR W).read ⟨a.block,a.off+i,Z 0⟩=Z u)/\∀i,i<j->Q ((C.drop (i*k)).take k):=by
    intro j
    induction j with
    |zero=>intro _;exact⟨[],Ma,Ma,fun i hi=>absurd hi NH⟩
    |succ j M=>
     intro T;obtain⟨C,r,h2,h3⟩:=M NH;obtain⟨f,g,s⟩:=w j NH;obtain⟨us,l1,l2,l3,q⟩:=E _ _ _ s;obtain⟨_,hlen,c⟩:=World.cells?_some g;refine⟨C++us,hGr,fun i u hi=>?_,fun i hi=>?_⟩
     .by_cases A:i<j*k
      .grind
      .rw[AE NH,r]at hi;have N:i-j*k<k:=hGr;have l:=c (i-j*k) NH;have d:f[i-j*k]?=Z f[i-j*k]:=XJ NH;have F:=l3 _ u _ hi d;rw[d,tL y,tL rfl]at l;simp only at l;rw[show a.off+j*k+(i-j*k)=a.off+i by omega]at l;grind[aai.read,MR]
     .by_cases B:i<j
      .have A:i*k+k<=j*k:=by rw[<-Nat.succ_mul];exact Gg _ B
       grind
      grind
   obtain⟨C,r,h2,h3⟩:=key len (qL0 _);refine⟨_,sL (Z ⟨a.block,a.off,Z 0⟩) len cap,len,C,rfl,?_,⟨⟨_,cap,rfl,Ma⟩,r,fun i u hi=>?_⟩,h3⟩
   .obtain⟨b,off,sp⟩:=a;grind[tag]
   .rw[fA];exact h2 i u hi
def rd_bool{t:TypeId}(a:P.underlying t=Z .bool):Rd enc P W t (fun _ v (b:Bool)=>v=.bool b):=by intro fuel cs x h;obtain⟨b,rfl,_⟩:=DataW.trod_bool a h;exact⟨_,.bool b,b,rfl,rfl,rfl⟩
def rd_pair{t e:TypeId}(p:P.underlying t=Z (.array 2 e))(j:P.underlying e=Z (.int .i64))(q:P.cellsOf e=1)(f:P.cellsOf t=2):
  RdK enc P W t 2 (fun us=>∃a b,us=[.int .i64 a,.int .i64 b]):=by
 intro fuel cs x h;obtain⟨xs,m,_,_,k,g,l⟩:=DataW.trod_array p h;rw[f]at k
 match cs,k,xs,g with
 |[r,c1],_,[x0,x1],_=>
  have n:=l 0 NH;have o:=l 1 NH;simp[q]at n o;obtain⟨a,ea,_,_⟩:=DataW.trod_int j n;obtain⟨b,eb,_,_⟩:=DataW.trod_int j o;injection ea with ea;injection eb with eb;subst ea eb;refine⟨[.int .i64 a,.int .i64 b],rfl,rfl,fun i u v' c d=>?_,a,b,rfl⟩
  match i with
  |0=>simp at c d;subst c d;rfl
  |1=>simp at c d;subst c d;rfl
  |i+2=>simp at c
end
end
end Go.Fw
