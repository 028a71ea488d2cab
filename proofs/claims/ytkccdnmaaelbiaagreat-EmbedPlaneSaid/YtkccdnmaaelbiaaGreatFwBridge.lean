/- A text. -/
import Derived.ProofKit
import Derived.Deep.Slices
import Derived.Test.YtkccdnmaaelbiaaGreatFwDraw
set_option linter.all false
set_option maxRecDepth 99999
set_option maxHeartbeats 9999999
namespace Go.Fw
open Go.ChangeShapes Go.WideShapes Go.RowKit
def Nj (W:World):AHeap:=⟨fun b off=>(W.cell? ⟨b,off,none⟩).bind tag,0,.leaf⟩
def vp (W:World) (i:Nat):(Nj W).own i=none:=by simp[Nj,AHeap.own,Trie.get]
def Rel.start (W:World) (m:Ti):Rel (Ac.of W) m (Nj W) W:=
 ⟨J4 _,fun _ _=>rfl,fun _ _=>rfl,fun i hi=>absurd (vp W i) hi,fun i hi=>absurd (vp W i) hi,fun i o hi=>by(rw[vp]at hi;cases hi),fun i j hi=>absurd (vp W i) hi,rfl,rfl,⟨rfl,J4 _⟩,⟨fun _ h=>(nomatch h),KW _,.nil,fun _ _ h=>(nomatch h),fun _ _ h=>(nomatch h),fun _ _ _ h=>(nomatch h)⟩⟩
def Rel.below {W w':World} {m:Ti} {h:AHeap} (R:Rel (Ac.of W) m h w'):Below W.heap.size W w':=⟨R.os,R.tape.1,R.output,R.size,R.cW⟩
section
variable {H : Type} {enc : TypeId × Value → H} {P : Program} {W : World}
def Rd {α:Type} (enc:TypeId×Value->H) (P:Program) (W:World) (t:TypeId) (R:AHeap->Value->α->Prop):Prop:=
 ∀fuel cs x,DataW.trod enc P W 0 (fun _=>true) true fuel t cs=some x->∃v' v a,cs=[v']/\tag v'=some v/\R (Nj W) v a
def rd_i64 {t:TypeId} (a:P.underlying t=some (.int .i64)):Rd enc P W t IJ:=by
 intro fuel cs x h;obtain⟨n,rfl,_,_⟩:=DataW.trod_int a h;exact⟨_,.int .i64 n,n,rfl,rfl,rfl⟩
def zR {a:Addr} (h:a.spot=none) (i:Nat):a.add i=⟨a.block,a.off+i,none⟩:=by
 obtain⟨b,off,sp⟩:=a;simp only at h;subst h;unfold Addr.add;split
 .rename_i h;subst h;rfl
 .rfl
def mU {α:Type} {R:AHeap->Value->α->Prop} {t e:TypeId} (l:P.underlying t=some (.slice e)) (w:P.cellsOf e=1) (A:Rd enc P W e R):Rd enc P W t (RL R):=by
 intro fuel cs x h;rcases Go.Deep.open_slice1 l w h with⟨rfl,_⟩|⟨a,len,cap,m,n,V,D,M,rfl,hb,N,B,d,_,o⟩
 .exact⟨_,.slice none 0 0,[],rfl,rfl,RL.nil⟩
 .simp only [if_true] at d
  have f:=d.symm;subst f;have C:cap<km:=NV B xr;by_cases E:cap=0
  .subst E
   have:len=0:=QT;subst this;refine⟨_,.slice (some ⟨a.block,a.off,some 0⟩) 0 0,[],rfl,?_,[],⟨⟨_,0,rfl,YX⟩,YX⟩,rfl,YX⟩;obtain⟨b,off,sp⟩:=a;cases sp with
   |none=>simp only[tag];rw[if_pos xr]
   |some k=>rfl
  .have c:a.spot=none:=by
    have:=(o 0 QT).1;rw[show a.add 0=a from rfl]at this;simp only[World.cell?]at this;split at this
    .split at this
     .cases this
     .rename_i hs;simpa using hs
    .cases this
   have key:∀k,k<=len->∃(vs:List Value) (xs:List α),vs.length=k/\xs.length=k/\(∀(i:Nat) u,vs[i]?=some u->tag (V i)=some u)/\∀(i:Nat) u y,vs[i]?=some u->xs[i]?=some y->R (Nj W) u y:=by
    intro k
    induction k with
    |zero=>intro _;exact⟨[],[],rfl,rfl,YX,YX⟩
    |succ k F=>
     intro O;obtain⟨vs,xs,g,h2,h3,p⟩:=F QT;obtain⟨v',v,y,q,G,I⟩:=A _ _ _ (o k QT).2;injection q with q;subst q;refine⟨vs++[v],xs++[y],by simp[g],by simp[h2],fun i u hi=>?_,fun i u z hi j=>?_⟩
     .by_cases r : i < k
      .rw[US QT]at hi;exact h3 i u hi
      .rw [kc QT] at hi
       have:i=k:=by
        have:=(bH.1 hi).1;simp at this;omega
       subst this;simp[g]at hi;subst hi;exact G
     .by_cases r : i < k
      .rw [US QT] at hi
       rw[US QT]at j;exact p i u z hi j
      .rw [kc QT] at hi j
       have:i=k:=by
        have:=(bH.1 hi).1;simp at this;omega
       subst this;simp[g]at hi;simp[h2]at j;subst hi j;exact I
   obtain⟨vs,xs,g,h2,h3,p⟩:=key len (J4 _);refine⟨_,.slice (some ⟨a.block,a.off,some 0⟩) len cap,xs,rfl,?_,vs,⟨⟨_,cap,by rw[g],YX⟩,fun i u hi=>?_⟩,QT,fun i y u J K=>p i u y K J⟩
   .obtain ⟨b, off, sp⟩ := a
    simp only at c;subst c;simp only[tag];rw[if_pos C]
   .have L : i < len := by have := (bH.1 hi).1; omega
    have s:=(o i QT).1;rw[zR c]at s;have l:=h3 i u hi;rw[Tl];simp only[Co,AHeap.read,Nj,s,Ns];exact l
end
end Go.Fw
