/- A text. -/
import Derived.Laws.AppendOwn
import Derived.Test.YtkccdnmaaelbiaaGreatFwZA
set_option linter.all false
set_option maxRecDepth 99999
set_option maxHeartbeats 9999999
namespace Go.Fw
inductive Trie (α:Type) where
 |leaf
 |node (v:Option α) (l r:Trie α)
def Trie.get {α:Type}:Trie α->Nat->Option α
 |.leaf,_=>none
 |.node v l r,n=>bif n==0 then v else bif n%2==1 then l.get (n / 2)else r.get (n / 2-1)
def Trie.put {α:Type}:Nat->Trie α->Nat->Option α->Trie α
 |0,t,_,_=>t
 |f+1,.leaf,n,x=>bif n==0 then .node x .leaf .leaf else bif n%2==1 then .node none (Trie.put f .leaf (n / 2) x) .leaf else .node none .leaf (Trie.put f .leaf (n / 2-1) x)
 |f+1,.node v l r,n,x=>bif n==0 then .node x l r else bif n%2==1 then .node v (Trie.put f l (n / 2) x) r else .node v l (Trie.put f r (n / 2-1) x)
def Trie.set {α:Type} (t:Trie α) (n:Nat) (x:α):Trie α:=Trie.put (n+1) t n (some x)
def Trie.del {α:Type} (t:Trie α) (n:Nat):Trie α:=Trie.put (n+1) t n none
def Trie.EL {α:Type}:∀(f:Nat) (t:Trie α) (n j:Nat) (x:Option α),n<f->(Trie.put f t n x).get j=if j=n then x else t.get j
 |0,_,n,_,_,h=>absurd h QT
 |f+1,t,n,j,x,h=>by
  by_cases c:n=0
  .subst c
   cases t with
   |leaf=>by_cases b:j=0<;>simp[Trie.put,Trie.get,b,cond_eq_ite]
   |node v l r=>by_cases b:j=0<;>simp[Trie.put,Trie.get,b,cond_eq_ite]
  .by_cases e : n % 2 = 1
   .have d := fun t j => Trie.EL f t (n / 2) j x QT
    cases t with
    |leaf=>
     simp only[Trie.put,cond_eq_ite,beq_iff_eq,c,e,if_true,if_false,Trie.get,d];by_cases b:j=0
     .have : ¬ j = n := QT
      simp[b,Hn c]
     .by_cases a : j % 2 = 1
      .have : (j / 2 = n / 2) ↔ j = n := QT
       simp[b,a,this]
      .have : ¬ j = n := QT
       simp[b,a,this]
    |node v l r=>
     simp only[Trie.put,cond_eq_ite,beq_iff_eq,c,e,if_true,if_false,Trie.get,d];by_cases b:j=0
     .have : ¬ j = n := QT
      simp[b,Hn c]
     .by_cases a : j % 2 = 1
      .have : (j / 2 = n / 2) ↔ j = n := QT
       simp[b,a,this]
      .have : ¬ j = n := QT
       simp[b,a,this]
   .have d := fun t j => Trie.EL f t (n / 2 - 1) j x QT
    cases t with
    |leaf=>
     simp only[Trie.put,cond_eq_ite,beq_iff_eq,c,e,if_false,Trie.get,d];by_cases b:j=0
     .have : ¬ j = n := QT
      simp[b,Hn c]
     .by_cases a : j % 2 = 1
      .have : ¬ j = n := QT
       simp[b,a,this]
      .have : (j / 2 - 1 = n / 2 - 1) ↔ j = n := QT
       simp[b,a,this]
    |node v l r=>
     simp only[Trie.put,cond_eq_ite,beq_iff_eq,c,e,if_false,Trie.get,d];by_cases b:j=0
     .have : ¬ j = n := QT
      simp[b,Hn c]
     .by_cases a : j % 2 = 1
      .have : ¬ j = n := QT
       simp[b,a,this]
      .have : (j / 2 - 1 = n / 2 - 1) ↔ j = n := QT
       simp[b,a,this]
def Trie.C5 {α:Type} (t:Trie α) (n j:Nat) (x:α):(t.set n x).get j=if j=n then some x else t.get j:=Trie.EL _ t n j _ QT
def Trie.QS {α:Type} (t:Trie α) (n:Nat) (x:α):(t.set n x).get n=some x:=by rw[Trie.C5,if_pos rfl]
def Trie.jI {α:Type} (t:Trie α) (n j:Nat) (x:α) (h:j≠n):(t.set n x).get j=t.get j:=by rw[Trie.C5,if_neg h]
def Trie.CL {α:Type} (t:Trie α) (n j:Nat):(t.del n).get j=if j=n then none else t.get j:=Trie.EL _ t n j _ QT
def Trie.AG {α:Type} (t:Trie α) (n:Nat):(t.del n).get n=none:=by rw[Trie.CL,if_pos rfl]
def Trie.D0 {α:Type} (t:Trie α) (n j:Nat) (h:j≠n):(t.del n).get j=t.get j:=by rw[Trie.CL,if_neg h]
inductive Uw where
 |cells (c:List Value)
 |map (es:List (Value×Value))
def km:Nat:=2^100
structure AHeap where
 ext:Nat->Nat->Option Value
 next:Nat
 t:Trie Uw
namespace AHeap
def own (h:AHeap) (i:Nat):Option Uw:=h.t.get i
def put (h:AHeap) (i:Nat) (o:Uw):AHeap:={h with t:=h.t.set i o}
def kill (h:AHeap) (i:Nat):AHeap:={h with t:=h.t.del i}
def alloc (h:AHeap) (o:Uw):AHeap:={h with next:=h.next+1,t:=h.t.set h.next o}
def read (h:AHeap) (a:Addr):Option Value:=
  match a.spot with
  |none=>match h.own a.block with
    |some (.cells c)=>c[a.off]?
    |_=>none
  |some _=>h.ext a.block a.off
def zm (h:AHeap) (i:Nat) (o:Uw):(h.put i o).own i=some o:=Trie.QS _ _ _
def Dz (h:AHeap) (i j:Nat) (o:Uw) (n:j≠i):(h.put i o).own j=h.own j:=Trie.jI _ _ _ _ n
def IV (h:AHeap) (i:Nat):(h.kill i).own i=none:=Trie.AG _ _
def pY (h:AHeap) (i j:Nat) (n:j≠i):(h.kill i).own j=h.own j:=Trie.D0 _ _ _ n
def vA (h:AHeap) (o:Uw):(h.alloc o).own h.next=some o:=Trie.QS _ _ _
def IB (h:AHeap) (j:Nat) (o:Uw) (n:j≠h.next):(h.alloc o).own j=h.own j:=Trie.jI _ _ _ _ n
end AHeap
structure Loc where
 blk:Nat
 base:Nat
 lim:Nat
abbrev Ti:=Nat->Loc
def flat:Value->Bool
 |.bool _|.int _ _|.string _|.pointer none|.map none|.nilFunc|.nilIface=>true
 |.slice none l c=>l==0&&c==0
 |_=>false
inductive VR (n:Nat) (m:Ti):Value->Value->Prop
  |flat {v:Value} (h:flat v=true):VR n m v v
  |ptr {id off:Nat} (h:id<n):VR n m (.pointer (some ⟨id,off,none⟩)) (.pointer (some ⟨(m id).blk,(m id).base+off,none⟩))
  |Gq {b off:Nat}:VR n m (.pointer (some ⟨b,off,some 0⟩)) (.pointer (some ⟨b,off,none⟩))
  |slice {id off len cap:Nat} (h:id<n) (hc:cap<km):VR n m (.slice (some ⟨id,off,none⟩) len cap) (.slice (some ⟨(m id).blk,(m id).base+off,none⟩) len cap)
  |buf {id off len k cap':Nat} {a':Addr} (h:id<n) (hl:len<=cap') (ha:(a'=⟨(m id).blk,(m id).base+off,none⟩/\(m id).base+off+cap'*k<=(m id).lim/\cap'<km)\/cap'=0):
      VR n m (.slice (some ⟨id,off,none⟩) len (km+k)) (.slice (some a') len cap')
  |XW {b off len cap:Nat} (hc:cap<km):VR n m (.slice (some ⟨b,off,some 0⟩) len cap) (.slice (some ⟨b,off,none⟩) len cap)
  |empty {a a':Addr}:VR n m (.slice (some a) 0 0) (.slice (some a') 0 0)
  |map {id:Nat} (h:id<n):VR n m (.map (some id)) (.map (some (m id).blk))
  |func {f:Fn} {a a' b b':Array Value} (ha:a.size=a'.size) (hb:b.size=b'.size)
      (h1:∀(i:Nat) (v v':Value),a[i]?=some v->a'[i]?=some v'->VR n m v v') (h2:∀(i:Nat) (v v':Value),b[i]?=some v->b'[i]?=some v'->VR n m v v'):
      VR n m (.func f a b) (.func f a' b')
  |iface {t:TypeId} {v v':Value} (h:VR n m v v'):VR n m (.iface t v) (.iface t v')
  |agg {a a':Array Value} (ha:a.size=a'.size) (h:∀(i:Nat) (v v':Value),a[i]?=some v->a'[i]?=some v'->VR n m v v'):VR n m (.agg a) (.agg a')
  |tuple {a a':Array Value} (ha:a.size=a'.size) (h:∀(i:Nat) (v v':Value),a[i]?=some v->a'[i]?=some v'->VR n m v v'):VR n m (.tuple a) (.tuple a')
def Yk (n:Nat) (m a:Ti):Prop:=∀i,i<n->a i=m i
def Yk.refl (n:Nat) (m:Ti):Yk n m m:=fun _ _=>rfl
def Yk.trans {n n':Nat} {m b a:Ti} (h:Yk n m b) (h':Yk n' b a) (c:n<=n'):Yk n m a:=
 fun i hi=>(h' i QT).trans (h i hi)
def VR.mono {n n':Nat} {m d:Ti} {v v':Value} (h:VR n m v v') (k:n<=n') (b:Yk n m d):VR n' d v v':=by
 induction h with
 |flat h=>exact .flat h
 |ptr h=>rw[<-b _ h];exact .ptr QT
 |Gq=>exact .Gq
 |slice h c=>rw[<-b _ h];exact .slice QT c
 |buf h f ha=>exact .buf QT f (by rw[b _ h];exact ha)
 |XW c=>exact .XW c
 |empty=>exact .empty
 |map h=>rw[<-b _ h];exact .map QT
 |func ha hb l h2 g j=>exact .func ha hb (fun i v v' e e'=>g i v v' e e') (fun i v v' e e'=>j i v v' e e')
 |iface _ a=>exact .iface a
 |agg ha h a=>exact .agg ha (fun i v v' e e'=>a i v v' e e')
 |tuple ha h a=>exact .tuple ha (fun i v v' e e'=>a i v v' e e')
def tag:Value->Option Value
 |.pointer (some ⟨b,off,none⟩)=>some (.pointer (some ⟨b,off,some 0⟩))
 |.slice (some ⟨b,off,none⟩) len cap=>if cap<km then some (.slice (some ⟨b,off,some 0⟩) len cap)else none
 |.slice (some ⟨b,off,some _⟩) 0 0=>some (.slice (some ⟨b,off,some 0⟩) 0 0)
 |v=>if flat v then some v else none
def VR.OA {n:Nat} {m:Ti} {v v':Value} (h:tag v'=some v):VR n m v v':=by
 unfold tag at h;split at h
 .injection h with h;subst h;exact .Gq
 .split at h
  .injection h with h;subst h;exact .XW (by assumption)
  .cases h
 .injection h with h;subst h;exact .empty
 .split at h
  .injection h with h;subst h;exact .flat (by assumption)
  .cases h
def xC (n:Nat) (m:Ti) (l l':List Value):Prop:=l.length=l'.length/\∀(i:Nat) (v v':Value),l[i]?=some v->l'[i]?=some v'->VR n m v v'
def xC.mono {n n':Nat} {m b:Ti} {v v':List Value} (h:xC n m v v') (c:n<=n') (d:Yk n m b):xC n' b v v':=
 ⟨h.1,fun i a a' e e'=>(h.2 i a a' e e').mono c d⟩
def xC.nil (n:Nat) (m:Ti):xC n m [] []:=⟨rfl,fun i v v' h=>by simp at h⟩
def xC.cons {n:Nat} {m:Ti} {v v':Value} {l l':List Value} (h:VR n m v v') (b:xC n m l l'):xC n m (v::l) (v'::l'):=by
 refine⟨by simp[b.1],fun i a a' e e'=>?_⟩;cases i with
 |zero=>simp at e e';subst e;subst e';exact h
 |succ i=>exact b.2 i a a' (by simpa using e) (by simpa using e')
def xC.append {n:Nat} {m:Ti} {a a' b c:List Value} (h:xC n m a a') (h2:xC n m b c):xC n m (a++b) (a'++c):=by
 refine⟨by simp[h.1,h2.1],fun i v v' e e'=>?_⟩;by_cases hi:i<a.length
 .rw [US hi] at e
  rw[US (by rw[<-h.1];exact hi)]at e';exact h.2 i v v' e e'
 .rw [kc QT] at e
  rw[kc (by have:=h.1;omega)]at e';exact h2.2 (i-a.length) v v' e (by rw[h.1];exact e')
def xC.take {n:Nat} {m:Ti} {a a':List Value} (h:xC n m a a') (k:Nat):xC n m (a.take k) (a'.take k):=by
 refine⟨by simp[h.1],fun i v v' e e'=>?_⟩;rw[IK]at e e';split at e
 .rename_i b;rw[if_pos b]at e';exact h.2 i v v' e e'
 .cases e
def xC.drop {n:Nat} {m:Ti} {a a':List Value} (h:xC n m a a') (k:Nat):xC n m (a.drop k) (a'.drop k):=by
 refine⟨by simp[h.1],fun i v v' e e'=>?_⟩;rw[G3]at e e';exact h.2 (k+i) v v' e e'
def xC.set {n:Nat} {m:Ti} {a a':List Value} (h:xC n m a a') (k:Nat) {x x':Value} (c:VR n m x x'):xC n m (a.set k x) (a'.set k x'):=by
 refine⟨by simp[h.1],fun i v v' e e'=>?_⟩;rw[v8]at e e';by_cases b:k=i
 .subst b
  simp only[if_true]at e e';split at e
  .rename_i d;rw[if_pos (by rw[<-h.1];exact d)]at e';injection e with e;injection e' with e';subst e;subst e';exact c
  .cases e
 .rw [if_neg b] at e e'
  exact h.2 i v v' e e'
def xC.get {n:Nat} {m:Ti} {a a':List Value} (h:xC n m a a') {i:Nat} {v:Value} (e:a[i]?=some v):∃v',a'[i]?=some v'/\VR n m v v':=by
 have hi:i<a.length:=(bH.1 e).1;have b:i<a'.length:=by rw[<-h.1];exact hi
 exact⟨a'[i],dR b,h.2 i v _ e (dR b)⟩
def VR.DA {n:Nat} {m:Ti} {a a':Array Value} (h:xC n m a.toList a'.toList):VR n m (.agg a) (.agg a'):=
 .agg (by simpa using h.1) (fun i v v' e e'=>h.2 i v v' (by simpa using e) (by simpa using e'))
def VR.WE {n:Nat} {m:Ti} {a a':Array Value} (h:xC n m a.toList a'.toList):VR n m (.tuple a) (.tuple a'):=
 .tuple (by simpa using h.1) (fun i v v' e e'=>h.2 i v v' (by simpa using e) (by simpa using e'))
def Bj (n:Nat) (m:Ti) (w:World) (loc:Loc):Uw->Prop
  |.cells c=>∃(C:Array Value) (e:TypeId) (lo hi:Nat),w.heap[loc.blk]?=some (.cells C e (lo,hi))/\C.size=loc.lim/\loc.base+c.length<=C.size/\
      xC n m c ((C.toList.drop loc.base).take c.length)/\(∀v∈C.toList,v.oneCell'=true)/\∀i,i<C.size->((lo<=i&&i<hi)=false/\lo<=hi)
  |.map es=>∃(E:Array MapEntry) (clock:Nat),w.heap[loc.blk]?=some (.map E clock)/\
      xC n m (es.map (·.1)) (E.toList.map (·.key))/\xC n m (es.map (·.2)) (E.toList.map (·.val))
structure Ac extends World where
 rw:List (Nat×Obj)
 n0:Nat
 m0:Ti
def Ac.add (a:Ac) (ex:List (Nat×Obj)):Ac:={a with rw:=ex++a.rw}
def Ac.of (W:World):Ac:={W with rw:=[],n0:=0,m0:=fun _=>⟨0,0,0⟩}
structure ZG (W0:Ac) (m:Ti) (h:AHeap) (w:World):Prop where
 agree:Yk W0.n0 W0.m0 m
 next:W0.n0<=h.next
 Uv:(W0.rw.map (·.1)).Nodup
 hi:∀b o,(b,o)∈W0.rw->W0.heap.size<=b
 held:∀b o,(b,o)∈W0.rw->w.heap[b]?=some o
 apart:∀b o i,(b,o)∈W0.rw->h.own i≠none->(m i).blk≠b
def ZG.put {a:Ac} {m:Ti} {h h':AHeap} {w w':World} (p:ZG a m h w) (hs:∀i,h'.own i≠none->h.own i≠none) (hw:∀b,b<w.heap.size->(∀i,h.own i≠none->(m i).blk≠b)->w'.heap[b]?=w.heap[b]?) (c:h.next<=h'.next:=by exact J4 _):ZG a m h' w':=
 ⟨p.agree,Jh p.next c,p.Uv,p.hi,fun b o hb=>(hw b (PY.1 (p.held b o hb)).1 (fun i hi=>p.apart b o i hb hi)).trans (p.held b o hb),fun b o i hb hi=>p.apart b o i hb (hs i hi)⟩
def ZG.lt {a:Ac} {m:Ti} {h:AHeap} {w:World} (p:ZG a m h w) {b:Nat} {o:Obj} (hb:(b,o)∈a.rw):b<w.heap.size:=(PY.1 (p.held b o hb)).1
structure Rel (W0:Ac) (m:Ti) (h:AHeap) (w:World):Prop where
 size:W0.heap.size<=w.heap.size
 cW:∀b,b<W0.heap.size->w.heap[b]?=W0.heap[b]?
 ext:∀b off,h.ext b off=(W0.cell? ⟨b,off,none⟩).bind tag
 lt:∀i,h.own i≠none->i<h.next
 new:∀i,h.own i≠none->W0.heap.size<=(m i).blk
 own:∀i o,h.own i=some o->Bj h.next m w (m i) o
 inj:∀i j,h.own i≠none->h.own j≠none->(m i).blk=(m j).blk->i=j
 os:w.os=W0.os
 output:w.output=W0.output
 tape:w.tape=W0.tape/\W0.drawn<=w.drawn
 Oi:ZG W0 m h w
end Go.Fw
namespace Go.Fw
inductive AR (n:Nat) (m:Ti):Addr->Addr->Prop
 |own {id off:Nat} (h:id<n):AR n m ⟨id,off,none⟩ ⟨(m id).blk,(m id).base+off,none⟩
 |ext {b off:Nat}:AR n m ⟨b,off,some 0⟩ ⟨b,off,none⟩
def AR.ptr {n:Nat} {m:Ti} {a a':Addr} (h:AR n m a a'):VR n m (.pointer (some a)) (.pointer (some a')):=by
 cases h with
 |own h=>exact .ptr h
 |ext=>exact .Gq
def VR.oK {n:Nat} {m:Ti} {a:Addr} {v':Value} (h:VR n m (.pointer (some a)) v'):∃a',v'=.pointer (some a')/\AR n m a a':=by
 cases h with
 |flat h=>simp[Fw.flat]at h
 |ptr h=>exact⟨_,rfl,.own h⟩
 |Gq=>exact⟨_,rfl,.ext⟩
def Co (a:Addr) (k:Nat):Addr:={a with off:=a.off+k}
def WZ (b o k:Nat):(⟨b,o,none⟩:Addr).add k=⟨b,o+k,none⟩:=by
 unfold Addr.add;split
 .rename_i a;subst a;rfl
 .rfl
def AR.add {n:Nat} {m:Ti} {a a':Addr} (h:AR n m a a') (k:Nat):AR n m (Co a k) (a'.add k):=by
 cases h with
 |own h=>rw[WZ,Lj];exact .own h
 |ext=>rw[WZ];exact .ext
variable {W0 : Ac} {m : Ti} {h : AHeap} {w : World}
def Rel.OS (R:Rel W0 m h w) {id off:Nat} {c:List Value} {v:Value} (g:h.own id=some (.cells c)) (f:c[off]?=some v):
  ∃v',w.cell? ⟨(m id).blk,(m id).base+off,none⟩=some v'/\VR h.next m v v':=by
 obtain⟨C,e,lo,hi,hb,hs,j,i,_,_⟩:=R.own id _ g;obtain⟨v',a,d⟩:=i.get f;refine⟨v',?_,d⟩;have b:off<c.length:=(bH.1 f).1;rw[IK,if_pos b,G3]at a;simp[World.cell?,hb];simpa using a
def Rel.read (R:Rel W0 m h w) {a a':Addr} {v:Value} (ha:AR h.next m a a') (d:h.read a=some v):∃v',w.cell? a'=some v'/\VR h.next m v v':=by
 cases ha with
 |own f=>
  simp only[AHeap.read]at d;split at d
  .rename_i c g;exact R.OS g d
  .cases d
 |@ext b off=>
  simp only[AHeap.read,R.ext]at d;cases e:W0.cell? ⟨b,off,none⟩with
  |none=>rw[e]at d;simp at d
  |some v'=>
   rw[e]at d;simp only[Ns]at d;have hb:b<W0.heap.size:=World.block_lt_of_cell? W0.toWorld ⟨b,off,none⟩ e;refine⟨v',?_,.OA d⟩;rw[World.cell?_of_block (w:=W0.toWorld) (R.cW b hb)];exact e
def readN (h:AHeap) (a:Addr):Nat->Option (List Value)
  |0=>some []
  |n+1=>match h.read a with
    |some v=>match readN h (Co a 1) n with
      |some l=>some (v::l)
      |none=>none
    |none=>none
def JT:∀(n:Nat) (h:AHeap) (a:Addr) (l:List Value),readN h a n=some l->l.length=n
 |0,_,_,l,e=>by simp[readN]at e;subst e;rfl
 |n+1,h,a,l,e=>by
  simp only[readN]at e;split at e
  .split at e
   .rename_i l' b;injection e with e;subst e;simp[JT n h _ l' b]
   .cases e
  .cases e
def Rel.readN (R:Rel W0 m h w):∀(n:Nat) {a a':Addr} {l:List Value},AR h.next m a a'->Fw.readN h a n=some l->
  ∃l',xC h.next m l l'/\∀(j:Nat) (v:Value),l'[j]?=some v->w.cell? (a'.add j)=some v
 |0,a,a',l,ha,e=>by simp[Fw.readN]at e;subst e;exact⟨[],.nil _ _,fun j v h=>by simp at h⟩
 |n+1,a,a',l,ha,e=>by
  simp only[Fw.readN]at e;split at e
  .rename_i v i
   split at e
   .rename_i t k
    injection e with e;subst e;obtain⟨v',o,b⟩:=R.read ha i;obtain⟨p,c,d⟩:=R.readN n (ha.add 1) k;refine⟨v'::p,.cons b c,fun j u f=>?_⟩;cases j with
    |zero=>simp at f;subst f;simpa[Addr.add]using o
    |succ j=>
     have:=d j u (by simpa using f);have e:(a'.add 1).add j=a'.add (j+1):=by
      unfold Addr.add;by_cases g:j=0
      .subst g;simp
      .simp[g];omega
     rwa[e]at this
   .cases e
  .cases e
def Rel.loadCells (R:Rel W0 m h w) (P:Program) {n:Nat} {a a':Addr} {l:List Value} (ha:AR h.next m a a') (e:Fw.readN h a n=some l):
  ∃l',xC h.next m l l'/\(Go.loadCells a' n).run P w=.ok l'.toArray w:=by
 obtain⟨l',b,c⟩:=R.readN n ha e;refine⟨l',b,?_⟩;have d:n=l'.length:=by rw[<-b.1,JT n h a l e]
 rw[d];exact run_loadCells_list w a' l' c
def JO (P:Program) (t:TypeId):Nat:=P.cellsOf t
def NL {P:Program} {t:TypeId} {d:TypeDesc} (a:P.underlying t=some d) (w:World):(sizeOf t).run P w=.ok (JO P t) w:=by
 unfold Program.underlying at a;cases hi:P.info? t with
 |none=>rw[hi]at a;cases a
 |some i=>simp[sizeOf,typeInfo,hi,JO,Program.cellsOf]
def isAggD:TypeDesc->Bool
 |.struct _|.array _ _=>true
 |_=>false
def bB {P:Program} {t:TypeId} {d:TypeDesc} (a:P.underlying t=some d) (w:World):(isAgg t).run P w=.ok (isAggD d) w:=by
 cases d<;>simp[isAgg,run_underlying a,isAggD]
def aload (P:Program) (h:AHeap) (t:TypeId) (a:Addr):Option Value:=
 match P.underlying t with
 |some d=>bif isAggD d then(match readN h a (JO P t)with|some l=>some (.agg l.toArray)|none=>none)else h.read a
 |none=>none
def Rel.loadVar (R:Rel W0 m h w) {P:Program} {t:TypeId} {a a':Addr} {v:Value} (ha:AR h.next m a a') (e:aload P h t a=some v):
  ∃v',(Go.loadVar t a').run P w=.ok v' w/\VR h.next m v v':=by
 unfold aload at e;split at e
 .rename_i d f
  cases c:isAggD d with
  |true=>
   simp only[c,cond_true]at e;split at e
   .rename_i l i
    injection e with e;subst e;obtain⟨l',j,b⟩:=R.loadCells P ha i;refine⟨.agg l'.toArray,?_,.DA (by simpa using j)⟩;simp[Go.loadVar,bB f,NL f,c,b]
   .cases e
  |false=>
   simp only[c,cond_false]at e;obtain⟨v',k,g⟩:=R.read ha e;refine⟨v',?_,g⟩;simp[Go.loadVar,bB f,c,k]
 .cases e
def VR.sP {n:Nat} {m:Ti} {v v':Value} (h:VR n m v v'):v'.oneCell'=v.oneCell':=by
 cases h<;>first|rfl|skip
def xC.wN {n:Nat} {m:Ti} {l l':List Value} (h:xC n m l l') (b:l.all (·.oneCell')=true):∀v∈l',v.oneCell'=true:=by
 intro v c;obtain⟨i,hi,rfl⟩:=iV.1 c;have a:i<l.length:=by rw[h.1];exact hi
 rw[(h.2 i l[i] l'[i] (dR a) (dR hi)).sP];exact jE.1 b _ (om a)
def Rel.y3 {n n':Nat} {m f:Ti} {w w':World} {loc:Loc} {o:Uw} (g:Bj n m w loc o) (a:n<=n') (b:Yk n m f) (hb:w'.heap[loc.blk]?=w.heap[loc.blk]?):Bj n' f w' loc o:=by
 cases o with
 |cells c=>
  obtain⟨C,e,lo,hi,d,h2,h3,i,j,k⟩:=g;exact⟨C,e,lo,hi,by rw[hb];exact d,h2,h3,i.mono a b,j,k⟩
 |map es=>
  obtain⟨E,clock,d,h2,h3⟩:=g;exact⟨E,clock,by rw[hb];exact d,h2.mono a b,h3.mono a b⟩
def cj (w:World) (a:Addr) (v:Value) (b:Nat) (hb:b≠a.block):(w.setCell a v).heap[b]?=w.heap[b]?:=by
 simp[World.setCell,Pb,Hn hb]
def Rel.write1 (R:Rel W0 m h w) {id off:Nat} {c:List Value} {v v':Value} (t:h.own id=some (.cells c)) (x:off<c.length)
  (y:VR h.next m v v') (z:v'.oneCell'=true):
  Rel W0 m (h.put id (.cells (c.set off v))) (w.setCell ⟨(m id).blk,(m id).base+off,none⟩ v'):=by
 have k:h.own id≠none:=by rw[t];simp
 obtain⟨C,e,lo,hi,hb,hs,A,B,n,hf⟩:=R.own id _ t;have a:∀i,(h.put id (.cells (c.set off v))).own i≠none->h.own i≠none:=by
  intro i d;by_cases f:i=id
  .subst f;exact k
  .rwa[AHeap.Dz _ _ _ _ f]at d
 have l:∀i,h.own i≠none->i≠id->(m i).blk≠(m id).blk:=fun i d f q=>f (R.inj i id d k q);refine⟨by simpa[World.setCell]using R.size,fun b AD=>?_,R.ext,fun i d=>R.lt i (a i d),fun i d=>R.new i (a i d),fun i o g=>?_,fun i j d r=>R.inj i j (a i d) (a j r),R.os,R.output,R.tape,R.Oi.put a (fun b _ hb=>cj _ _ _ _ (fun e=>hb id k e.symm))⟩
 .rw [cj]
  .exact R.cW b AD
  .have := R.new id k
   show b≠(m id).blk;omega
 .by_cases f : i = id
  .subst f
   rw[AHeap.zm]at g;injection g with g;subst g;refine⟨C.setIfInBounds ((m i).base+off) v',e,lo,hi,?_,by simpa using hs,by simpa using A,?_,?_,?_⟩
   .simp only[World.setCell,Pb,hb,if_true,pD];rfl
   .have D:((C.setIfInBounds ((m i).base+off) v').toList.drop (m i).base).take (c.set off v).length=((C.toList.drop (m i).base).take c.length).set off v':=by
     rw[qL218,qm,<-List.set_drop,aaV]
    rw[D];exact B.set off y
   .intro u p
    rw[qL218]at p;rcases zo p with p|rfl
    .exact n u p
    .exact z
   .intro j E;exact hf j (by simpa using E)
  .rw [AHeap.Dz _ _ _ _ f] at g
   have s:h.own i≠none:=by rw[g];simp
   exact Rel.y3 (R.own i o g) (J4 _) (Yk.refl _ _) (cj _ _ _ _ (l i s f))
def putCells (c:List Value) (off:Nat):List Value->List Value
 |[]=>c
 |v::vs=>putCells (c.set off v) (off+1) vs
def Am:∀(vs:List Value) (c:List Value) (off:Nat),(putCells c off vs).length=c.length
 |[],_,_=>rfl
 |v::vs,c,off=>by simp[putCells,Am vs]
def Rel.frozen (R:Rel W0 m h w) {id off:Nat} {c:List Value} (d:h.own id=some (.cells c)) (a:off<c.length):
  w.frozen? ⟨(m id).blk,(m id).base+off,none⟩=false:=by
 obtain⟨C,e,lo,hi,hb,hs,f,g,b,hf⟩:=R.own id _ d;simp only[World.frozen?,hb];exact(hf _ QT).1
def Rel.Qw (P:Program):∀(vs e:List Value) (i:Nat) {h:AHeap} {w:World} (_:Rel W0 m h w) {id off:Nat} {c:List Value},
  h.own id=some (.cells c)->off+i+vs.length<=c.length->xC h.next m vs e->(∀v∈e,v.oneCell'=true)->
  ∃w',(storeCells ⟨(m id).blk,(m id).base+off,none⟩ e i).run P w=.ok () w'/\Rel W0 m (h.put id (.cells (putCells c (off+i) vs))) w'
 |[],e,i,h,w,R,id,off,c,l,_,f,_=>by
  have:e=[]:=b7 (by rw[<-f.1];rfl);subst this;refine⟨w,by simp[storeCells],?_⟩;have C:h.own id≠none:=by rw[l];simp
  have g:∀j o,(h.put id (.cells c)).own j=some o↔h.own j=some o:=by
   intro j o;by_cases d:j=id
   .subst d;rw[AHeap.zm,l]
   .rw[AHeap.Dz _ _ _ _ d]
  have p:∀j,(h.put id (.cells c)).own j≠none->h.own j≠none:=by
   intro j d q;cases B:(h.put id (.cells c)).own j with
   |none=>exact d B
   |some o=>rw[(g j o).1 B]at q;cases q
  exact⟨R.size,R.cW,R.ext,fun j d=>R.lt j (p j d),fun j d=>R.new j (p j d),fun j o d=>R.own j o ((g j o).1 d),fun a b ha hb=>R.inj a b (p a ha) (p b hb),R.os,R.output,R.tape,R.Oi.put p (fun _ _ _=>rfl)⟩
 |v::vs,[],i,h,w,R,id,off,c,l,x,f,y=>by simp[xC]at f
 |v::vs,v'::e,i,h,w,R,id,off,c,l,x,f,y=>by
  have k:off+i<c.length:=by simp at x;omega
  have D:VR h.next m v v':=f.2 0 v v' rfl rfl
  have r:xC h.next m vs e:=by simpa using f.drop 1
  have s:=y v' YX;have E:=R.write1 l k D s;obtain⟨u,z,_⟩:=R.OS l (dR k);have hf:=R.frozen l k;obtain⟨w',A,R'⟩:=Rel.Qw P vs e (i+1) E (off:=off) (AHeap.zm h id (.cells (c.set (off+i) v))) (by simp at x ⊢;omega) r (fun u z=>y u (by simp[z]));have t:(⟨(m id).blk,(m id).base+off,none⟩:Addr).add i=⟨(m id).blk,(m id).base+(off+i),none⟩:=by
   rw[WZ,Lj]
  refine⟨w',?_,?_⟩
  .simp only [storeCells, Sem.run_bind, t]
   rw[run_store P w _ v' _ s];simp only[z,hf,Z2,if_false,Result.andThen_ok];exact A
  .have n:((h.put id (.cells (c.set (off+i) v))).put id (.cells (putCells (c.set (off+i) v) (off+(i+1)) vs))).own=(h.put id (.cells (putCells c (off+i) (v::vs)))).own:=by
    funext j;by_cases d:j=id
    .subst d;rw[AHeap.zm,AHeap.zm];rfl
    .rw[AHeap.Dz _ _ _ _ d,AHeap.Dz _ _ _ _ d,AHeap.Dz _ _ _ _ d]
   exact⟨R'.size,R'.cW,R'.ext,fun j d=>R'.lt j (by rw[n];exact d),fun j d=>R'.new j (by rw[n];exact d),fun j o d=>R'.own j o (by rw[n];exact d),fun a b ha hb=>R'.inj a b (by rw[n];exact ha) (by rw[n];exact hb),R'.os,R'.output,R'.tape,R'.Oi.put (fun j d=>by rw[n];exact d) (fun _ _ _=>rfl)⟩
section
variable {W0 : Ac} {m : Ti} {h : AHeap} {w : World}
def Zi (m:Ti) (k:Nat) (l:Loc):Ti:=fun i=>if i=k then l else m i
def Rp (m:Ti) (k:Nat) (l:Loc):Zi m k l k=l:=by simp[Zi]
def su (m:Ti) (k i:Nat) (l:Loc) (hi:i≠k):Zi m k l i=m i:=by simp[Zi,hi]
def B8 (m:Ti) (k:Nat) (l:Loc):Yk k m (Zi m k l):=fun i hi=>su _ _ _ _ QT
def Rel.drew (R:Rel W0 m h w):Rel W0 m h w.drew:=⟨R.size,R.cW,R.ext,R.lt,R.new,R.own,R.inj,R.os,R.output,⟨R.tape.1,Nat.le_succ_of_le R.tape.2⟩,R.Oi.put (fun _ hi=>hi) (fun _ _ _=>rfl)⟩
def Rel.kill (R:Rel W0 m h w) (id:Nat):Rel W0 m (h.kill id) w:=by
 have hs:∀i o,(h.kill id).own i=some o->h.own i=some o:=by
  intro i o hi;by_cases e:i=id
  .subst e;rw[AHeap.IV]at hi;cases hi
  .rwa[AHeap.pY _ _ _ e]at hi
 have a:∀i,(h.kill id).own i≠none->h.own i≠none:=by
  intro i hi b;cases c:(h.kill id).own i with
  |none=>exact hi c
  |some o=>rw[hs i o c]at b;cases b
 exact⟨R.size,R.cW,R.ext,fun i hi=>R.lt i (a i hi),fun i hi=>R.new i (a i hi),fun i o hi=>R.own i o (hs i o hi),fun i j hi d=>R.inj i j (a i hi) (a j d),R.os,R.output,R.tape,R.Oi.put a (fun _ _ _=>rfl)⟩
def Rel.add {w':World} (R:Rel W0 m h w) (loc:Loc) (o:Uw) (u:w.heap.size<=w'.heap.size) (hb:∀b,b≠loc.blk->b<w.heap.size->w'.heap[b]?=w.heap[b]?)
  (q:W0.heap.size<=loc.blk) (d:∀i,h.own i≠none->(m i).blk≠loc.blk) (F:Bj h.next m w' loc o)
  (v:w'.os=w.os) (r:w'.output=w.output) (k:w'.tape=w.tape/\w.drawn<=w'.drawn) (l:∀b x,(b,x)∈W0.rw->loc.blk≠b:=by exact fun b x hb e=>by(have:=R.Oi.lt hb;simp at e;omega)):Rel W0 (Zi m h.next loc) (h.alloc o) w':=by
 have a:∀i,(h.alloc o).own i≠none->i=h.next\/(i≠h.next/\h.own i≠none):=by
  intro i hi
  by_cases e:i=h.next
  .exact .inl e
  .exact .inr ⟨e,by rwa[AHeap.IB _ _ _ e]at hi⟩
 have n:=B8 m h.next loc
 refine⟨Jh R.size u,fun b s=>?_,R.ext,fun i hi=>?_,fun i hi=>?_,fun i y hi=>?_,fun i j hi G f=>?_,v.trans R.os,r.trans R.output,⟨k.1.trans R.tape.1,Jh R.tape.2 k.2⟩,⟨R.Oi.agree.trans n R.Oi.next,Nat.le_succ_of_le R.Oi.next,R.Oi.Uv,R.Oi.hi,fun b x g=>(hb b (fun e=>l b x g e.symm) (R.Oi.lt g)).trans (R.Oi.held b x g),fun b x i g hi=>?_⟩⟩
 .rw[hb b QT (K2 s R.size)];exact R.cW b s
 .rcases a i hi with e | ⟨_, e⟩
  .subst e;exact SP _
  .exact aaR (R.lt i e)
 .rcases a i hi with e | ⟨p, e⟩
  .subst e;rw[Rp];exact q
  .rw[su _ _ _ _ p];exact R.new i e
 .by_cases e : i = h.next
  .subst e
   rw[AHeap.vA]at hi;injection hi with hi;subst hi;rw[Rp];exact Rel.y3 F (Yl _) n rfl
  .rw [AHeap.IB _ _ _ e] at hi
   rw[su _ _ _ _ e];have z:h.own i≠none:=by rw[hi];simp
   have A:(m i).blk<w.heap.size:=by
    have D:=R.own i y hi;cases y with
    |cells c=>obtain⟨C,_,lo,H,B,_⟩:=D;exact(PY.1 B).1
    |map es=>obtain⟨E,clock,B,_⟩:=D;exact(PY.1 B).1
   exact Rel.y3 (R.own i y hi) (Yl _) n (hb _ (d i z) A)
 .rcases a i hi with e | ⟨p, e⟩ <;> rcases a j G with e' | ⟨t, e'⟩
  .rw[e,e']
  .subst e;rw[Rp,su _ _ _ _ t]at f;exact absurd f.symm (d j e')
  .subst e';rw[Rp,su _ _ _ _ p]at f;exact absurd f (d i e)
  .rw[su _ _ _ _ p,su _ _ _ _ t]at f;exact R.inj i j e e' f
 .rcases a i hi with e | ⟨p, e⟩
  .subst e;rw[Rp];exact l b x g
  .rw[su _ _ _ _ p];exact R.Oi.apart b x i g e
def Rel.pG (R:Rel W0 m h w) {i:Nat} (hi:h.own i≠none):(m i).blk<w.heap.size:=by
 cases b:h.own i with
 |none=>exact absurd b hi
 |some o=>
  have d:=R.own i o b;cases o with
  |cells c=>obtain⟨C,_,lo,e,a,_⟩:=d;exact(PY.1 a).1
  |map es=>obtain⟨E,clock,a,_⟩:=d;exact(PY.1 a).1
def Rel.alloc (R:Rel W0 m h w) {c:List Value} {C:Array Value} (e:TypeId) (a:xC h.next m c (C.toList.take c.length)) (hle:c.length<=C.size) (d:∀v∈C.toList,v.oneCell'=true):
  Rel W0 (Zi m h.next ⟨w.heap.size,0,C.size⟩) (h.alloc (.cells c)) (w.alloc (.cells C e)):=by
 refine R.add ⟨w.heap.size,0,C.size⟩ _ YX (fun b _ hb=>heap_alloc_old w _ b hb) R.size (fun i hi f=>?_) ?_ rfl rfl ⟨rfl,J4 _⟩
 .have:=R.pG hi;simp at f;omega
 .exact⟨C,e,0,0,heap_alloc_new w _,rfl,by simpa using hle,by simpa using a,d,fun i _=>by simp⟩
def Rel.allocMap (R:Rel W0 m h w):Rel W0 (Zi m h.next ⟨w.heap.size,0,0⟩) (h.alloc (.map [])) (w.alloc (.map #[] 0)):=by
 refine R.add ⟨w.heap.size,0,0⟩ _ YX (fun b _ hb=>heap_alloc_old w _ b hb) R.size (fun i hi a=>?_) ?_ rfl rfl ⟨rfl,J4 _⟩
 .have:=R.pG hi;simp at a;omega
 .exact⟨#[],0,heap_alloc_new w _,by simpa using xC.nil _ _,by simpa using xC.nil _ _⟩
def Rel.alloc_eq (R:Rel W0 m h w) {c C:List Value} (e:TypeId) (a:xC h.next m c C) (b:c.all (·.oneCell')=true):
  Rel W0 (Zi m h.next ⟨w.heap.size,0,C.length⟩) (h.alloc (.cells c)) (w.alloc (.cells C.toArray e)):=by
 have:=R.alloc (c:=c) (C:=C.toArray) e (by simpa[a.1,xV]using a) (by simp[a.1]) (by simpa using a.wN b);simpa using this
def Rel.Wm (R:Rel W0 m h w) {w':World} {id:Nat} {c:List Value} (n:h.own id=some (.cells c)) {C':Array Value} {e:TypeId} {lo hi:Nat} {base:Nat} {c2:List Value}
  (a:w'.heap=w.heap.setIfInBounds (m id).blk (.cells C' e (lo,hi))) (hs:C'.size=(m id).lim) (o:∀v∈C'.toList,v.oneCell'=true) (hf:∀i,i<C'.size->((lo<=i&&i<hi)=false/\lo<=hi))
  (p:base+c2.length<=C'.size) (q:xC h.next m c2 ((C'.toList.drop base).take c2.length)) (k:w'.os=w.os) (j:w'.output=w.output) (f:w'.tape=w.tape/\w.drawn<=w'.drawn):
  Rel W0 (Zi m h.next ⟨(m id).blk,base,(m id).lim⟩) ((h.kill id).alloc (.cells c2)) w':=by
 have d:h.own id≠none:=by rw[n];simp
 have l:=R.pG d;refine(R.kill id).add ⟨(m id).blk,base,(m id).lim⟩ (.cells c2) (by simp[a]) (fun b hb _=>?_) (R.new id d) (fun i g r=>?_) ⟨C',e,lo,hi,?_,hs,p,q,o,hf⟩ k j f (fun b x hb=>R.Oi.apart b x id hb d)
 .rw[a,Ce];simp[Hn hb]
 .by_cases e : i = id
  .subst e;exact g (AHeap.IV _ _)
  .rw[AHeap.pY _ _ _ e]at g;exact e (R.inj i id g d r)
 .rw[a,Ce];simp[l]
def blockPut (C:Array Value) (off:Nat):List Value->Array Value
 |[]=>C
 |v::vs=>blockPut (C.setIfInBounds off v) (off+1) vs
def E6:∀(vs:List Value) (C:Array Value) (off:Nat),(blockPut C off vs).size=C.size
 |[],_,_=>rfl
 |v::vs,C,off=>by simp[blockPut,E6 vs]
def XO:∀(vs:List Value) (C:Array Value) (off:Nat),(blockPut C off vs).toList=putCells C.toList off vs
 |[],_,_=>rfl
 |v::vs,C,off=>by simp[blockPut,putCells,XO vs]
def NT:∀(vs c:List Value) (off:Nat),off+vs.length<=c.length->putCells c off vs=c.take off++vs++c.drop (off+vs.length)
 |[],c,off,h=>by simp[putCells]
 |v::vs,c,off,h=>by
  simp at h;rw[putCells,NT vs _ (off+1) (by simp;omega)];have a:(c.set off v).take (off+1)=c.take off++[v]:=by
   rw[QM (by simp;omega),List.take_set_of_le (J4 _)];simp
  have b:(c.set off v).drop (off+1+vs.length)=c.drop (off+(v::vs).length):=by
   rw[List.drop_set_of_lt QT];congr 1;simp;omega
  rw[a,b];simp
def YG (P:Program) (g:Nat) (e:TypeId) (lo hi:Nat):∀(vs:List Value) (i off:Nat) (C:Array Value) (w:World),
  w.heap[g]?=some (.cells C e (lo,hi))->off+i+vs.length<=C.size->(∀v∈vs,v.oneCell'=true)->(∀i,i<C.size->((lo<=i&&i<hi)=false/\lo<=hi))->
  ∃w',(storeCells ⟨g,off,none⟩ vs i).run P w=.ok () w'/\w'.heap=w.heap.setIfInBounds g (.cells (blockPut C (off+i) vs) e (lo,hi))/\w'.os=w.os/\w'.output=w.output/\(w'.tape=w.tape/\w.drawn<=w'.drawn)
 |[],i,off,C,w,hg,_,_,_=>by
  refine⟨w,by simp[storeCells],?_,rfl,rfl,rfl,J4 _⟩;apply ud;intro j;rw[Ce];split
  .rename_i c;subst c;rw[hg,if_pos (PY.1 hg).1];rfl
  .rfl
 |v::vs,i,off,C,w,hg,o,p,hf=>by
  have k:=(PY.1 hg).1;have d:off+i<C.size:=by simp at o;omega
  have a:(w.setCell ⟨g,off+i,none⟩ v).heap=w.heap.setIfInBounds g (.cells (C.setIfInBounds (off+i) v) e (lo,hi)):=by
   apply ud;intro j;simp only[World.setCell,Pb,Ce];split
   .rename_i c;subst c;rw[hg];simp
   .rfl
  obtain⟨w',f,b,r,l,s⟩:=YG P g e lo hi vs (i+1) off (C.setIfInBounds (off+i) v) (w.setCell ⟨g,off+i,none⟩ v)
   (by rw[a,Ce];simp[k]) (by simp at o ⊢;omega) (fun u t=>p u (by simp[t])) (fun j c=>hf j (by simpa using c))
  refine⟨w',?_,?_,r,l,s⟩
  .have x:w.cell? ⟨g,off+i,none⟩=some C[off+i]:=by
    have q:=(PY.1 hg).2;simp[World.cell?,hg,d]
   have n:w.frozen? ⟨g,off+i,none⟩=false:=by simp only[World.frozen?,hg];exact(hf _ d).1
   simp only[storeCells,Sem.run_bind,WZ];rw[run_store P w _ v _ (p v YX)];simp only[x,n,Z2,if_false,Result.andThen_ok];exact f
  .rw [b, a]
   simp[blockPut,Lj]
def zrow (z:List Value):Nat->List Value
 |0=>[]
 |n+1=>z++zrow z n
def Kx (z:List Value):∀n,(zrow z n).length=n*z.length
 |0=>by simp[zrow]
 |n+1=>by simp[zrow,Kx z n,aaQ,aam]
def DY (z:List Value):∀(n i:Nat),i<n*z.length->(zrow z n)[i]?=z[i%z.length]?
 |0,i,h=>by simp at h
 |n+1,i,h=>by
  rw[zrow];by_cases hi:i<z.length
  .rw[US hi,bR hi]
  .rw [kc QT, DY z n (i - z.length) (by rw [aaQ] at h; omega)]
   congr 1
   conv=>rhs;rw[show i=(i-z.length)+z.length from by omega,Fa]
def QL (z:Array Value) (n k:Nat) (a:k=n*z.size):((Array.range k).map (fun i=>z[i%z.size]!)).toList=zrow z.toList n:=by
 apply Lc;intro i;by_cases hi:i<k
 .have c:0<z.size:=by
   rcases Al z.size with b|b
   .rw[b]at a;simp at a;omega
   .exact b
  rw[DY z.toList n i (by simpa[<-a]using hi)];have d:i%z.size<z.size:=JH _ c;simp[hi,d]
 .rw[Tz (by simpa using hi),Tz (by rw[Kx];simp[<-a];omega)]
def By (v:Value):∀n,zrow [v] n=List.replicate n v
 |0=>rfl
 |n+1=>by rw[zrow,By v n];rfl
def xC.flat {n:Nat} {m:Ti}:∀{l:List Value},l.all Fw.flat=true->xC n m l l
 |[],_=>.nil _ _
 |v::l,h=>by
  simp at h;exact .cons (.flat h.1) (xC.flat (by simpa using h.2))
def Dv (p:Value->Bool) (z:List Value) (h:z.all p=true):∀n,(zrow z n).all p=true
 |0=>rfl
 |n+1=>by rw[zrow,CM,h,Dv p z h n];rfl
def xG {v:Value} (h:flat v=true):v.oneCell'=true:=by
 cases v<;>simp_all [flat,Value.oneCell']
def wB {l:List Value} (h:l.all flat=true):l.all (·.oneCell')=true:=by
 rw[jE]at h ⊢;exact fun v a=>xG (h v a)
end
end Go.Fw
