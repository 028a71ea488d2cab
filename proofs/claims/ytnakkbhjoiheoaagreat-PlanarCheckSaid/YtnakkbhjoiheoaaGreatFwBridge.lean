/- A text. -/
import Derived.ProofKit
import Derived.Deep.Slices
import Derived.Test.YtnakkbhjoiheoaaGreatFwZB
set_option linter.all false
set_option maxRecDepth 99999
set_option maxHeartbeats 9999999
open Option renaming some→Z,none→Y
open Bool renaming true→tT
open Go.Value renaming slice→sL
open Go renaming Value→vV
namespace Go.Fw
section
open Go.ChangeShapes Go.WideShapes Go.RowKit
def MR(W:World):aai:=⟨fun b off=>(W.cell? ⟨b,off,Y⟩).bind tag,0,.leaf⟩
theorem Mn(W:World)(i:Nat):(MR W).own i=Y:=by simp[MR,aai.own,Trie.get]
theorem Rel.start(W:World)(m:abd):Rel (LA.of W) m (MR W) W:=⟨qL0 _,fun _ _=>rfl,fun _ _=>rfl,(by grind[Mn]),(by grind[Mn]),(by grind[Mn]),(by grind[Mn]),rfl,rfl,⟨rfl,qL0 _⟩,⟨fun _ h=>(nomatch h),abe _,.nil,fun _ _ h=>(nomatch h),fun _ _ h=>(nomatch h),fun _ _ _ h=>(nomatch h)⟩⟩
theorem Rel.below{W w':World}{m:abd}{h:aai}(R:Rel (LA.of W) m h w'):Below W.heap.size W w':=⟨R.os,R.tape.1,R.output,R.size,R.qi⟩
section
variable{H:Type}{enc:TypeId×vV->H}{P:Program}{W:World}
def Rd{α:Type}(enc:TypeId×vV->H)(P:Program)(W:World)(t:TypeId)(R:aai->vV->α->Prop):Prop:=∀fuel cs x,DataW.trod enc P W 0 (fun _=>tT) tT fuel t cs=Z x->∃v' v a,cs=[v']/\tag v'=Z v/\R (MR W) v a
theorem tL{a:Addr}(h:a.spot=Y)(i:Nat):a.add i=⟨a.block,a.off+i,Y⟩:=by obtain⟨b,off,sp⟩:=a;simp only at h;subst h;unfold Addr.add;grind
theorem akz{α:Type}{R:aai->vV->α->Prop}{t e:TypeId}(f:P.underlying t=Z (.slice e))(s:P.cellsOf e=1)(w:Rd enc P W e R):Rd enc P W t (RL R):=by
 intro fuel cs x h;rcases Go.Deep.open_slice1 f s h with⟨rfl,_⟩|⟨a,len,cap,m,n,V,D,J,rfl,hb,K,A,c,_,g⟩
 .exact⟨_,.slice Y 0 0,[],rfl,rfl,RL.nil⟩
 .simp only[if_true]at c;have d:=c.symm;subst d;have L:cap<UNK:=JR A WY;by_cases B:cap=0
  .subst B;have:len=0:=NH;subst this;refine⟨_,sL (Z ⟨a.block,a.off,Z 0⟩) 0 0,[],rfl,?_,[],⟨⟨_,0,rfl,Ma⟩,Ma⟩,rfl,Ma⟩;obtain⟨b,off,sp⟩:=a;cases sp<;>grind[tag]
  .have j:a.spot=Y:=by
    have:=(g 0 NH).1;rw[show a.add 0=a from rfl]at this;simp only[World.cell?]at this;split at this
    .split at this
     .cases this
     .rename_i hs;simpa using hs
    .cases this
   have key:∀k,k<=len->∃(vs:xLV)(xs:List α),vs.length=k/\xs.length=k/\(∀(i:Nat) u,vs[i]?=Z u->tag (V i)=Z u)/\∀(i:Nat) u y,vs[i]?=Z u->xs[i]?=Z y->R (MR W) u y:=by
    intro k
    induction k with
    |zero=>intro _;exact⟨[],[],rfl,rfl,Ma,Ma⟩
    |succ k C=>
     intro M;obtain⟨vs,xs,l,h2,h3,q⟩:=C NH;obtain⟨v',v,y,o,N,e3⟩:=w _ _ _ (g k NH).2;injection o with o;subst o;refine⟨vs++[v],xs++[y],by simp[l],by simp[h2],fun i u hi=>?_,fun i u z hi E=>?_⟩
     .by_cases p:i<k
      .grind
      .rw[AE NH]at hi;have:i=k:=hGr;grind
     .by_cases p:i<k
      .grind
      .rw[AE NH]at hi E;grind
   obtain⟨vs,xs,l,h2,h3,q⟩:=key len (qL0 _);refine⟨_,sL (Z ⟨a.block,a.off,Z 0⟩) len cap,xs,rfl,?_,vs,⟨⟨_,cap,by rw[l],Ma⟩,fun i u hi=>?_⟩,NH,fun i y u F G=>q i u y G F⟩
   .obtain⟨b,off,sp⟩:=a;grind[tag]
   .have I:i<len:=hGr;have r:=(g i NH).1;rw[tL j]at r;have f:=h3 i u hi;rw[fA];simp only[Ip,aai.read,MR,r,TN];exact f
end
end
end Go.Fw
