/- A text. -/
import Derived.OpenShut
import Derived.Test.YtkccdnmaaelbiaaGreatFwBridge
set_option linter.all false
set_option maxRecDepth 99999
set_option maxHeartbeats 9999999
namespace Go.Fw
open Go.ChangeShapes Go.WideShapes Go.RowKit
section
variable {H : Type} {enc : TypeId × Value → H} {P : Program} {W : World}
def RdK (enc:TypeId×Value->H) (P:Program) (W:World) (t:TypeId) (k:Nat) (Q:List Value->Prop):Prop:=
 ∀fuel cs x,DataW.trod enc P W 0 (fun _=>true) true fuel t cs=some x->∃us:List Value,us.length=k/\cs.length=k/\(∀(i:Nat) u v',us[i]?=some u->cs[i]?=some v'->tag v'=some u)/\Q us
def vt {t e:TypeId} {k:Nat} {Q:List Value->Prop} (A:P.underlying t=some (.slice e)) (G:P.cellsOf e=k) (I:0<k) (F:RdK enc P W e k Q):
  ∀fuel cs x,DataW.trod enc P W 0 (fun _=>true) true fuel t cs=some x->∃v' v n C,cs=[v']/\tag v'=some v/\CS k (Nj W) v n C/\∀i,i<n->Q ((C.drop (i*k)).take k):=by
 intro fuel cs x h;rcases Go.Deep.open_slice A h with⟨rfl,_⟩|⟨a,len,cap,m,n,D,R,rfl,hb,S,J,r,_,B⟩
 .exact⟨_,.slice none 0 0,0,[],rfl,rfl,CS.nil k _,fun i hi=>absurd hi QT⟩
 .simp only [if_true] at r
  have s:=r.symm;subst s;rw[G]at B;have K:cap<km:=NV J xr;by_cases L:cap=0
  .subst L
   have:len=0:=QT;subst this;refine⟨_,.slice (some ⟨a.block,a.off,some 0⟩) 0 0,0,[],rfl,?_,⟨⟨_,0,rfl,YX⟩,YX,YX⟩,fun i hi=>absurd hi QT⟩;obtain⟨b,off,sp⟩:=a;cases sp with
   |none=>simp only[tag];rw[if_pos xr]
   |some k=>rfl
  .have o:a.spot=none:=by
    obtain⟨f,p,h2⟩:=B 0 QT;obtain⟨us,_,M,_⟩:=F _ _ _ h2;obtain⟨_,hlen,c⟩:=World.cells?_some p;have g:=c 0 I;rw[show(a.add (0*k)).add 0=a from by simp[Addr.add]]at g;cases w:f[0]? with
    |none=>rw[xz]at w;omega
    |some q=>
     rw[w]at g;simp only[World.cell?]at g;split at g
     .split at g
      .cases g
      .rename_i hs;simpa using hs
     .cases g
   have key:∀j,j<=len->∃C:List Value,C.length=j*k/\(∀(i:Nat) u,C[i]?=some u->(Nj W).read ⟨a.block,a.off+i,some 0⟩=some u)/\∀i,i<j->Q ((C.drop (i*k)).take k):=by
    intro j
    induction j with
    |zero=>intro _;exact⟨[],YX,YX,fun i hi=>absurd hi QT⟩
    |succ j N=>
     intro T;obtain⟨C,p,h2,h3⟩:=N QT;obtain⟨f,g,A⟩:=B j QT;obtain⟨us,l1,l2,l3,q⟩:=F _ _ _ A;obtain⟨_,hlen,c⟩:=World.cells?_some g;refine⟨C++us,by simp[p,l1,aaQ],fun i u hi=>?_,fun i hi=>?_⟩
     .by_cases E : i < j * k
      .rw[US QT]at hi;exact h2 i u hi
      .rw [kc QT, p] at hi
       have O:i-j*k<k:=by
        have:=(bH.1 hi).1;omega
       have l:=c (i-j*k) QT;have d:f[i-j*k]?=some f[i-j*k]:=dR QT;have y:=l3 _ u _ hi d;rw[d,zR o,zR rfl]at l;simp only at l;rw[show a.off+j*k+(i-j*k)=a.off+i by omega]at l;simp only[AHeap.read,Nj,l,Ns];exact y
     .by_cases z : i < j
      .have E : i * k + k <= j * k := by rw [<- aaQ]; exact Uj _ z
       rw[AL QT,wO (by simp;omega)];exact h3 i z
      .obtain rfl : i = j := QT
       rw[List.drop_append,show(C.drop (i*k))=[]from BH QT,p];simp only[iE,sQ,IT];rw[xV QT];exact q
   obtain⟨C,p,h2,h3⟩:=key len (J4 _);refine⟨_,.slice (some ⟨a.block,a.off,some 0⟩) len cap,len,C,rfl,?_,⟨⟨_,cap,rfl,YX⟩,p,fun i u hi=>?_⟩,h3⟩
   .obtain ⟨b, off, sp⟩ := a
    simp only at o;subst o;simp only[tag];rw[if_pos K]
   .rw [Tl]
    exact h2 i u hi
def rd_pair {t e:TypeId} (p:P.underlying t=some (.array 2 e)) (j:P.underlying e=some (.int .i64)) (q:P.cellsOf e=1) (f:P.cellsOf t=2):
  RdK enc P W t 2 (fun us=>∃a b,us=[.int .i64 a,.int .i64 b]):=by
 intro fuel cs x h;obtain⟨xs,m,_,_,k,g,l⟩:=DataW.trod_array p h;rw[f]at k
 match cs,k,xs,g with
 |[r,c1],_,[x0,x1],_=>
  have n:=l 0 QT;have o:=l 1 QT;simp[q]at n o;obtain⟨a,ea,_,_⟩:=DataW.trod_int j n;obtain⟨b,eb,_,_⟩:=DataW.trod_int j o;injection ea with ea;injection eb with eb;subst ea eb;refine⟨[.int .i64 a,.int .i64 b],rfl,rfl,fun i u v' c d=>?_,a,b,rfl⟩
  match i with
  |0=>simp at c d;subst c d;rfl
  |1=>simp at c d;subst c d;rfl
  |i+2=>simp at c
end
end Go.Fw
