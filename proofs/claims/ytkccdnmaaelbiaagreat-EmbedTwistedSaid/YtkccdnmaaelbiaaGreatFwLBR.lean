/- A text. -/
import Derived.Deep.Strs
import Derived.Test.YtkccdnmaaelbiaaGreatRows
import Derived.Test.YtkccdnmaaelbiaaGreatFwLB1
import Derived.Test.YtkccdnmaaelbiaaGreatFwBridge2
set_option linter.all false
set_option maxRecDepth 99999
set_option maxHeartbeats 9999999
namespace Go.Fw
open Go.Proofs Go.ChangeShapes Go.WideShapes Go.RowKit Go.ChangeAt
open Go.Proofs.YtkccdnmaaelbiaaGreat
section
variable {H : Type} {enc : TypeId × Value → H} {W : World}
def abt {P:Program} {w:World} {base:Nat} {spare:Nat->Bool} {held:Bool} {t:TypeId} {b:List TypeId} {v:Value} {vs:List Value} {d:DataW H} {ds:List (DataW H)} {p a:List MemPlace}
  (h:DataW.Trod enc P w base spare held t v d p) (hs:DataW.TrodAll enc P w base spare held b vs ds a):DataW.TrodAll enc P w base spare held (t::b) (v::vs) (d::ds) (p++a):=⟨p,a,h,hs,rfl⟩
end
end Go.Fw
namespace Go.Fw
open Go.Proofs Go.ChangeShapes Go.WideShapes Go.RowKit Go.ChangeAt
open Go.Proofs.YtkccdnmaaelbiaaGreat
def aaw (p:Pr):List Value:=[.int .u8 p.1,.int .u8 p.2]
structure UR (h:AHeap) (v:Value) (ps:List Pr):Prop where
 cs:CS 2 h v ps.length (ps.flatMap aaw)
 ok:∀p∈ps,0<=p.1/\p.1<256/\0<=p.2/\p.2<256
theorem UR.le {h h':AHeap} {v:Value} {ps:List Pr} (r:UR h v ps) (e:Le h h'):UR h' v ps:=⟨r.cs.le e,r.ok⟩
def tsU:UA Tryz.prog 45=2:=Ji
def tsU8:UA Tryz.prog 5=1:=Ji
theorem UR.len {h:AHeap} {v:Value} {ps:List Pr} (r:UR h v ps) (g:AHeap):aLen Tryz.prog g 43 v=some (.int .i64 ps.length):=by
 obtain⟨a,c,rfl,_⟩:=r.cs.sl;simp[aLen,qS28]
theorem UR.addr {h:AHeap} {v:Value} {ps:List Pr} (r:UR h v ps) {k:IntKind} (i:Nat) (hi:i<ps.length):aIndexAddr Tryz.prog 43 v (.int k i)=some (.pointer (some (FK v i))):=by
 obtain⟨a,c,rfl,hs⟩:=r.cs.sl;obtain⟨a,rfl⟩:=xD.1 (hs NH);have b:(i:Int)<(ps.length:Int):=NH;simp[aIndexAddr,qS28,qS29,b,FK,elemAddr,tsU]
def ua0 (a:Addr):aIndexAddr Tryz.prog 45 (.pointer (some a)) (.int .i64 0)=some (.pointer (some (Ip a 0))):=by simp[aIndexAddr,qS29,qS5]
def ua1 (a:Addr):aIndexAddr Tryz.prog 45 (.pointer (some a)) (.int .i64 1)=some (.pointer (some (Ip a 1))):=by simp[aIndexAddr,qS29,qS5,tsU8]
def aaL:∀(ps:List Pr) (i:Nat) (p:Pr),ps[i]?=some p->(ps.flatMap aaw)[i*2]?=some (.int .u8 p.1)/\(ps.flatMap aaw)[i*2+1]?=some (.int .u8 p.2)
 |[],i,p,h=>by simp at h
 |q::ps,0,p,h=>by simp at h;subst h;simp[aaw]
 |q::ps,i+1,p,h=>by
  have:=aaL ps i p (by simpa using h);have e:(q::ps).flatMap aaw=.int .u8 q.1::.int .u8 q.2::ps.flatMap aaw:=rfl;rw[e,show(i+1)*2=(i*2+1)+1 by omega];simpa using this
def UR.ld {h:AHeap} {v:Value} {ps:List Pr} (r:UR h v ps) {i:Nat} {p:Pr} (b:ps[i]?=some p):
  aload Tryz.prog h 5 (Ip (FK v i) 0)=some (.int .u8 p.1)/\aload Tryz.prog h 5 (Ip (FK v i) 1)=some (.int .u8 p.2):=by
 rw[Bj qS5 rfl,Bj qS5 rfl];obtain⟨d,e⟩:=aaL ps i p b;have f:=CS.get r.cs _ _ d;have g:=CS.get r.cs _ _ e;obtain⟨a,c,rfl,hs⟩:=r.cs.sl;have hi:=(Ny.1 b).1;obtain⟨a,rfl⟩:=xD.1 (hs NH);simp only[FK,fA,Ip]at*;exact⟨by simpa using f,by simpa[PC]using g⟩
section
variable {H : Type} {enc : TypeId × Value → H} {W : World}
def abu {P:Program} {t e:TypeId} (p:P.underlying t=some (.array 2 e)) (j:P.underlying e=some (.int .u8)) (q:P.cellsOf e=1) (f:P.cellsOf t=2):
  RdK enc P W t 2 (fun us=>∃a b:Int,us=[.int .u8 a,.int .u8 b]/\0<=a/\a<256/\0<=b/\b<256):=by
 intro fuel cs x h;obtain⟨xs,m,_,_,k,g,l⟩:=DataW.trod_array p h;rw[f]at k
 match cs,k,xs,g with
 |[s,c1],_,[x0,x1],_=>
  have n:=l 0 NH;have o:=l 1 NH;simp[q]at n o;obtain⟨a,ea,_,r⟩:=DataW.trod_int j n;obtain⟨b,eb,_,w1⟩:=DataW.trod_int j o;injection ea with ea;injection eb with eb;subst ea eb;simp[Lit.wf,IntKind.min,IntKind.max,IntKind.signed,IntKind.bits]at r w1;refine⟨[.int .u8 a,.int .u8 b],rfl,rfl,fun i u v' c d=>?_,a,b,rfl,NH,NH,NH,NH⟩
  match i with
  |0=>simp at c d;subst c d;rfl
  |1=>simp at c d;subst c d;rfl
  |i+2=>simp at c
theorem aaB:∀(n:Nat) (C:List Value),C.length=n*2->(∀i,i<n->∃a b:Int,(C.drop (i*2)).take 2=[.int .u8 a,.int .u8 b]/\0<=a/\a<256/\0<=b/\b<256)->
  ∃ps:List Pr,ps.length=n/\C=ps.flatMap aaw/\∀p∈ps,0<=p.1/\p.1<256/\0<=p.2/\p.2<256
 |0,C,d,_=>⟨[],rfl,Qn NH,Ma⟩
 |n+1,C,d,h=>by
  obtain⟨a,b,e,o⟩:=h 0 NH;obtain⟨ps,f,h2,h3⟩:=aaB n (C.drop 2) (by simp;omega) fun i hi=>by grind [List.drop_drop]
  refine⟨(a,b)::ps,by simp[f],?_,?_⟩
  .have : C = C.take 2 ++ C.drop 2 := (qL81 2 C).symm
   rw[this,h2];simp only[Nat.zero_mul,pQ]at e;rw[e];rfl
  .intro p c
   rw[Z6]at c;rcases c with rfl|c
   .exact o
   .exact h3 p c
def abv {v:Value} {d:DataW H} {ps:List MemPlace} {b0:Nat} (b:Value.okWide Tryz.prog W .any b0 43 v) (h:DataW.Trod enc Tryz.prog W 0 (fun _=>true) true 43 v d ps) (m:rC):
  ∃u xs,VR 0 m u v/\UR (MR W) u xs:=by
 obtain⟨fuel,h⟩:=h;obtain⟨a,len,cap,rfl⟩:=okWide_slice qS28 b;obtain⟨k,r,n,C,c,e,h3,f⟩:=Ku qS28 Ji NH (abu qS29 qS5 Ji Ji) _ _ _ h;obtain⟨g,i,rfl,j⟩:=aaB n C h3.len f;simp[Value.cells]at c;subst c;exact⟨r,g,VR.jC e,by rw[i];exact h3,j⟩
end
end Go.Fw
