/- A text. -/
import Derived.Laws.AppendOwn
import Derived.Test.YtkccdnmaaelbiaaGreatFwZA
set_option linter.all false
set_option maxRecDepth 99999
set_option maxHeartbeats 9999999
namespace Go.Fw
inductive Trie (α:Type) where
 |leaf
 |node (v:Option α) (l r:Trie α)
def Trie.get{α:Type}:Trie α->Nat->Option α
 |.leaf,_=>none
 |.node v l r,n=>bif n==0 then v else bif n%2==1 then l.get (n / 2)else r.get (n / 2-1)
def Trie.put{α:Type}:Nat->Trie α->Nat->Option α->Trie α
 |0,t,_,_=>t
 |f+1,.leaf,n,x=>bif n==0 then .node x .leaf .leaf else bif n%2==1 then .node none (Trie.put f .leaf (n / 2) x) .leaf else .node none .leaf (Trie.put f .leaf (n / 2-1) x)
 |f+1,.node v l r,n,x=>bif n==0 then .node x l r else bif n%2==1 then .node v (Trie.put f l (n / 2) x) r else .node v l (Trie.put f r (n / 2-1) x)
def Trie.set{α:Type}(t:Trie α)(n:Nat)(x:α):Trie α:=Trie.put (n+1) t n (some x)
def Trie.del{α:Type}(t:Trie α)(n:Nat):Trie α:=Trie.put (n+1) t n none
theorem Trie.Tl{α:Type}:∀(f:Nat)(t:Trie α)(n j:Nat)(x:Option α),n<f->(Trie.put f t n x).get j=if j=n then x else t.get j
 |0,_,n,_,_,h=>absurd h NH
 |f+1,t,n,j,x,h=>by
  by_cases a:n=0
  .subst a;cases t<;>grind[Trie.put,Trie.get]
  .by_cases c:n%2=1
   .have b:=fun t j=>Trie.Tl f t (n / 2) j x NH;cases t<;>grind[Trie.put,Trie.get]
   .have b:=fun t j=>Trie.Tl f t (n / 2-1) j x NH;cases t<;>grind[Trie.put,Trie.get]
theorem Trie.YO{α:Type}(t:Trie α)(n j:Nat)(x:α):(t.set n x).get j=if j=n then some x else t.get j:=Trie.Tl _ t n j _ NH
theorem Trie.Xw{α:Type}(t:Trie α)(n:Nat)(x:α):(t.set n x).get n=some x:=by grind[Trie.YO]
theorem Trie.bR{α:Type}(t:Trie α)(n j:Nat)(x:α)(h:j≠n):(t.set n x).get j=t.get j:=by grind[Trie.YO]
theorem Trie.Ik{α:Type}(t:Trie α)(n j:Nat):(t.del n).get j=if j=n then none else t.get j:=Trie.Tl _ t n j _ NH
theorem Trie.jd{α:Type}(t:Trie α)(n:Nat):(t.del n).get n=none:=by grind[Trie.Ik]
theorem Trie.RN{α:Type}(t:Trie α)(n j:Nat)(h:j≠n):(t.del n).get j=t.get j:=by grind[Trie.Ik]
inductive fK where
 |cells (c:List Value)
 |map (es:List (Value×Value))
def UNK:Nat:=2^100
structure aae where
 ext:Nat->Nat->Option Value
 next:Nat
 t:Trie fK
namespace aae
def own(h:aae)(i:Nat):Option fK:=h.t.get i
def put(h:aae)(i:Nat)(o:fK):aae:={h with t:=h.t.set i o}
def kill(h:aae)(i:Nat):aae:={h with t:=h.t.del i}
def alloc(h:aae)(o:fK):aae:={h with next:=h.next+1,t:=h.t.set h.next o}
def read(h:aae)(a:Addr):Option Value:=
  match a.spot with
  |none=>match h.own a.block with
    |some (.cells c)=>c[a.off]?
    |_=>none
  |some _=>h.ext a.block a.off
theorem Y3(h:aae)(i:Nat)(o:fK):(h.put i o).own i=some o:=Trie.Xw _ _ _
theorem By(h:aae)(i j:Nat)(o:fK)(n:j≠i):(h.put i o).own j=h.own j:=Trie.bR _ _ _ _ n
theorem Dg(h:aae)(i:Nat):(h.kill i).own i=none:=Trie.jd _ _
theorem xJ(h:aae)(i j:Nat)(n:j≠i):(h.kill i).own j=h.own j:=Trie.RN _ _ _ n
theorem zT(h:aae)(o:fK):(h.alloc o).own h.next=some o:=Trie.Xw _ _ _
theorem Ve(h:aae)(j:Nat)(o:fK)(n:j≠h.next):(h.alloc o).own j=h.own j:=Trie.bR _ _ _ _ n
end aae
structure Loc where
 blk:Nat
 base:Nat
 lim:Nat
abbrev aad:=Nat->Loc
def flat:Value->Bool
 |.bool _|.int _ _|.string _|.pointer none|.map none|.nilFunc|.nilIface=>true
 |.slice none l c=>l==0&&c==0
 |_=>false
inductive VR (n:Nat) (m:aad):Value->Value->Prop
  |flat {v:Value} (h:flat v=true):VR n m v v
  |ptr {id off:Nat} (h:id<n):VR n m (.pointer (some ⟨id,off,none⟩)) (.pointer (some ⟨(m id).blk,(m id).base+off,none⟩))
  |adN {b off:Nat}:VR n m (.pointer (some ⟨b,off,some 0⟩)) (.pointer (some ⟨b,off,none⟩))
  |slice {id off len cap:Nat} (h:id<n) (hc:cap<UNK):VR n m (.slice (some ⟨id,off,none⟩) len cap) (.slice (some ⟨(m id).blk,(m id).base+off,none⟩) len cap)
  |buf {id off len k cap':Nat} {a':Addr} (h:id<n) (hl:len<=cap') (ha:(a'=⟨(m id).blk,(m id).base+off,none⟩/\(m id).base+off+cap'*k<=(m id).lim/\cap'<UNK)\/cap'=0):
      VR n m (.slice (some ⟨id,off,none⟩) len (UNK+k)) (.slice (some a') len cap')
  |esl {b off len cap:Nat} (hc:cap<UNK):VR n m (.slice (some ⟨b,off,some 0⟩) len cap) (.slice (some ⟨b,off,none⟩) len cap)
  |empty {a a':Addr}:VR n m (.slice (some a) 0 0) (.slice (some a') 0 0)
  |map {id:Nat} (h:id<n):VR n m (.map (some id)) (.map (some (m id).blk))
  |func {f:Fn} {a a' b b':Array Value} (ha:a.size=a'.size) (hb:b.size=b'.size)
      (h1:∀(i:Nat)(v v':Value),a[i]?=some v->a'[i]?=some v'->VR n m v v') (h2:∀(i:Nat)(v v':Value),b[i]?=some v->b'[i]?=some v'->VR n m v v'):
      VR n m (.func f a b) (.func f a' b')
  |iface {t:TypeId} {v v':Value} (h:VR n m v v'):VR n m (.iface t v) (.iface t v')
  |agg {a a':Array Value} (ha:a.size=a'.size) (h:∀(i:Nat)(v v':Value),a[i]?=some v->a'[i]?=some v'->VR n m v v'):VR n m (.agg a) (.agg a')
  |tuple {a a':Array Value} (ha:a.size=a'.size) (h:∀(i:Nat)(v v':Value),a[i]?=some v->a'[i]?=some v'->VR n m v v'):VR n m (.tuple a) (.tuple a')
def ZK(n:Nat)(m a:aad):Prop:=∀i,i<n->a i=m i
theorem ZK.refl(n:Nat)(m:aad):ZK n m m:=fun _ _=>rfl
theorem ZK.trans{n n':Nat}{m b a:aad}(h:ZK n m b)(h':ZK n' b a)(c:n<=n'):ZK n m a:=fun i hi=>(h' i NH).trans (h i hi)
theorem VR.mono{n n':Nat}{m d:aad}{v v':Value}(h:VR n m v v')(k:n<=n')(b:ZK n m d):VR n' d v v':=by
 induction h with
 |flat h=>exact .flat h
 |ptr h=>rw[<-b _ h];exact .ptr NH
 |adN=>exact .adN
 |slice h c=>rw[<-b _ h];exact .slice NH c
 |buf h f ha=>exact .buf NH f (by rw[b _ h];exact ha)
 |esl c=>exact .esl c
 |empty=>exact .empty
 |map h=>rw[<-b _ h];exact .map NH
 |func ha hb l h2 g j=>exact .func ha hb (fun i v v' e e'=>g i v v' e e') (fun i v v' e e'=>j i v v' e e')
 |iface _ a=>exact .iface a
 |agg ha h a=>exact .agg ha (fun i v v' e e'=>a i v v' e e')
 |tuple ha h a=>exact .tuple ha (fun i v v' e e'=>a i v v' e e')
def tag:Value->Option Value
 |.pointer (some ⟨b,off,none⟩)=>some (.pointer (some ⟨b,off,some 0⟩))
 |.slice (some ⟨b,off,none⟩) len cap=>if cap<UNK then some (.slice (some ⟨b,off,some 0⟩) len cap)else none
 |.slice (some ⟨b,off,some _⟩) 0 0=>some (.slice (some ⟨b,off,some 0⟩) 0 0)
 |v=>if flat v then some v else none
theorem VR.of_tag{n:Nat}{m:aad}{v v':Value}(h:tag v'=some v):VR n m v v':=by
 unfold tag at h;split at h
 .injection h with h;subst h;exact .adN
 .split at h
  .injection h with h;subst h;exact .esl (by assumption)
  .cases h
 .injection h with h;subst h;exact .empty
 .split at h
  .injection h with h;subst h;exact .flat (by assumption)
  .cases h
def AK(n:Nat)(m:aad)(l l':List Value):Prop:=l.length=l'.length/\∀(i:Nat)(v v':Value),l[i]?=some v->l'[i]?=some v'->VR n m v v'
theorem AK.mono{n n':Nat}{m b:aad}{v v':List Value}(h:AK n m v v')(c:n<=n')(d:ZK n m b):AK n' b v v':=⟨h.1,fun i a a' e e'=>(h.2 i a a' e e').mono c d⟩
theorem AK.nil(n:Nat)(m:aad):AK n m [] []:=⟨rfl,fun i v v' h=>by simp at h⟩
theorem AK.cons{n:Nat}{m:aad}{v v':Value}{l l':List Value}(h:VR n m v v')(b:AK n m l l'):AK n m (v::l) (v'::l'):=by
 refine⟨by simp[b.1],fun i a a' e e'=>?_⟩;cases i with
 |zero=>grind
 |succ i=>exact b.2 i a a' (by simpa using e) pw
theorem AK.append{n:Nat}{m:aad}{a a' b c:List Value}(h:AK n m a a')(h2:AK n m b c):AK n m (a++b) (a'++c):=by
 refine⟨by simp[h.1,h2.1],fun i v v' e e'=>?_⟩;by_cases hi:i<a.length
 .rw[kc hi]at e;rw[kc (by rw[<-h.1];exact hi)]at e';exact h.2 i v v' e e'
 .rw[Og NH]at e;rw[Og (by have:=h.1;omega)]at e';exact h2.2 (i-a.length) v v' e (by rw[h.1];exact e')
theorem AK.take{n:Nat}{m:aad}{a a':List Value}(h:AK n m a a')(k:Nat):AK n m (a.take k) (a'.take k):=by
 refine⟨by simp[h.1],fun i v v' e e'=>?_⟩;rw[mg]at e e';split at e
 .rename_i b;rw[AE b]at e';exact h.2 i v v' e e'
 .cases e
theorem AK.drop{n:Nat}{m:aad}{a a':List Value}(h:AK n m a a')(k:Nat):AK n m (a.drop k) (a'.drop k):=by refine⟨by simp[h.1],fun i v v' e e'=>?_⟩;rw[im]at e e';exact h.2 (k+i) v v' e e'
theorem AK.set{n:Nat}{m:aad}{a a':List Value}(h:AK n m a a')(k:Nat){x x':Value}(c:VR n m x x'):AK n m (a.set k x) (a'.set k x'):=by
 refine⟨by simp[h.1],fun i v v' e e'=>?_⟩;rw[VU]at e e';by_cases b:k=i
 .grind
 .rw[aal b]at e e';exact h.2 i v v' e e'
theorem AK.get{n:Nat}{m:aad}{a a':List Value}(h:AK n m a a'){i:Nat}{v:Value}(e:a[i]?=some v):∃v',a'[i]?=some v'/\VR n m v v':=by
 have hi:i<a.length:=(Ny.1 e).1;have b:i<a'.length:=by rw[<-h.1];exact hi
 exact⟨a'[i],yY b,h.2 i v _ e (yY b)⟩
theorem VR.uk{n:Nat}{m:aad}{a a':Array Value}(h:AK n m a.toList a'.toList):VR n m (.agg a) (.agg a'):=
 .agg (by simpa using h.1) (fun i v v' e e'=>h.2 i v v' (by simpa using e) pw)
theorem VR.qY{n:Nat}{m:aad}{a a':Array Value}(h:AK n m a.toList a'.toList):VR n m (.tuple a) (.tuple a'):=
 .tuple (by simpa using h.1) (fun i v v' e e'=>h.2 i v v' (by simpa using e) pw)
def ac9(E:Array MapEntry)(clock:Nat):Prop:=clock=E.size/\∀(i:Nat)(a:MapEntry),E[i]?=some a->a.born=i
def ORel(n:Nat)(m:aad)(w:World)(loc:Loc):fK->Prop
  |.cells c=>∃(C:Array Value)(e:TypeId)(lo hi:Nat),w.heap[loc.blk]?=some (.cells C e (lo,hi))/\C.size=loc.lim/\loc.base+c.length<=C.size/\
      AK n m c ((C.toList.drop loc.base).take c.length)/\(∀v∈C.toList,v.oneCell'=true)/\∀i,i<C.size->((lo<=i&&i<hi)=false/\lo<=hi)
  |.map es=>∃(E:Array MapEntry)(clock:Nat),w.heap[loc.blk]?=some (.map E clock)/\
      AK n m (es.map (·.1)) (E.toList.map (·.key))/\AK n m (es.map (·.2)) (E.toList.map (·.val))/\ac9 E clock
structure LA extends World where
 rw:List (Nat×Obj)
 n0:Nat
 m0:aad
def LA.add(a:LA)(ex:List (Nat×Obj)):LA:={a with rw:=ex++a.rw}
def LA.of(W:World):LA:={W with rw:=[],n0:=0,m0:=fun _=>⟨0,0,0⟩}
structure Mj (W0:LA) (m:aad) (h:aae) (w:World):Prop where
 agree:ZK W0.n0 W0.m0 m
 next:W0.n0<=h.next
 VM:(W0.rw.map (·.1)).Nodup
 hi:∀b o,(b,o)∈W0.rw->W0.heap.size<=b
 held:∀b o,(b,o)∈W0.rw->w.heap[b]?=some o
 apart:∀b o i,(b,o)∈W0.rw->h.own i≠none->(m i).blk≠b
theorem Mj.put{a:LA}{m:aad}{h h':aae}{w w':World}(p:Mj a m h w)(hs:∀i,h'.own i≠none->h.own i≠none)(hw:∀b,b<w.heap.size->(∀i,h.own i≠none->(m i).blk≠b)->w'.heap[b]?=w.heap[b]?)(c:h.next<=h'.next:=by exact qL0 _):Mj a m h' w':=⟨p.agree,Tn p.next c,p.VM,p.hi,fun b o hb=>(hw b (xH.1 (p.held b o hb)).1 (fun i hi=>p.apart b o i hb hi)).trans (p.held b o hb),fun b o i hb hi=>p.apart b o i hb (hs i hi)⟩
theorem Mj.lt{a:LA}{m:aad}{h:aae}{w:World}(p:Mj a m h w){b:Nat}{o:Obj}(hb:(b,o)∈a.rw):b<w.heap.size:=(xH.1 (p.held b o hb)).1
structure Rel (W0:LA) (m:aad) (h:aae) (w:World):Prop where
 size:W0.heap.size<=w.heap.size
 qi:∀b,b<W0.heap.size->w.heap[b]?=W0.heap[b]?
 ext:∀b off,h.ext b off=(W0.cell? ⟨b,off,none⟩).bind tag
 lt:∀i,h.own i≠none->i<h.next
 new:∀i,h.own i≠none->W0.heap.size<=(m i).blk
 own:∀i o,h.own i=some o->ORel h.next m w (m i) o
 inj:∀i j,h.own i≠none->h.own j≠none->(m i).blk=(m j).blk->i=j
 os:w.os=W0.os
 output:w.output=W0.output
 tape:w.tape=W0.tape/\W0.drawn<=w.drawn
 Q0:Mj W0 m h w
end Go.Fw
namespace Go.Fw
instance:Coe Nat Addr:=⟨fun x=>⟨x,0,none⟩⟩
abbrev xLV:=List Value
instance:Coe Int Value:=⟨fun x=>.int .i64 x⟩
instance:Coe Nat Value:=⟨fun x=>.int .i64 x⟩
inductive AR (n:Nat) (m:aad):Addr->Addr->Prop
 |own {id off:Nat} (h:id<n):AR n m ⟨id,off,none⟩ ⟨(m id).blk,(m id).base+off,none⟩
 |ext {b off:Nat}:AR n m ⟨b,off,some 0⟩ ⟨b,off,none⟩
def AR.ptr{n:Nat}{m:aad}{a a':Addr}(h:AR n m a a'):VR n m (.pointer (some a)) (.pointer (some a')):=by
 cases h with
 |own h=>exact .ptr h
 |ext=>exact .adN
theorem VR.aie{n:Nat}{m:aad}{a:Addr}{v':Value}(h:VR n m (.pointer (some a)) v'):∃a',v'=.pointer (some a')/\AR n m a a':=by
 cases h with
 |flat h=>simp[Fw.flat]at h
 |ptr h=>exact⟨_,rfl,.own h⟩
 |adN=>exact⟨_,rfl,.ext⟩
def Ip(a:Addr)(k:Nat):Addr:={a with off:=a.off+k}
theorem zn(b o k:Nat):(⟨b,o,none⟩:Addr).add k=⟨b,o+k,none⟩:=by unfold Addr.add;grind
theorem AR.add{n:Nat}{m:aad}{a a':Addr}(h:AR n m a a')(k:Nat):AR n m (Ip a k) (a'.add k):=by
 cases h with
 |own h=>rw[zn,Nat.add_assoc];exact .own h
 |ext=>rw[zn];exact .ext
variable{W0:LA}{m:aad}{h:aae}{w:World}
theorem Rel.UL(R:Rel W0 m h w){id off:Nat}{c:List Value}{v:Value}(g:h.own id=some (.cells c))(f:c[off]?=some v):
  ∃v',w.cell? ⟨(m id).blk,(m id).base+off,none⟩=some v'/\VR h.next m v v':=by
 obtain⟨C,e,lo,hi,hb,hs,j,i,_,_⟩:=R.own id _ g;obtain⟨v',b,d⟩:=i.get f;refine⟨v',?_,d⟩;have a:off<c.length:=(Ny.1 f).1;rw[mg,AE a,im]at b;simp[World.cell?,hb];grind
theorem Rel.read(R:Rel W0 m h w){a a':Addr}{v:Value}(ha:AR h.next m a a')(c:h.read a=some v):∃v',w.cell? a'=some v'/\VR h.next m v v':=by
 cases ha with
 |own e=>grind[aae.read,Rel.UL]
 |@ext b off=>
  simp only[aae.read,R.ext]at c;cases d:W0.cell? ⟨b,off,none⟩with
  |none=>grind
  |some v'=>rw[d]at c;simp only[LN]at c;have hb:b<W0.heap.size:=World.block_lt_of_cell? W0.toWorld ⟨b,off,none⟩ d;grind[VR.of_tag,Go.World.cell?_of_block,Rel.qi]
def agK(h:aae)(a:Addr):Nat->Option (List Value)
  |0=>some []
  |n+1=>match h.read a with
    |some v=>match agK h (Ip a 1) n with
      |some l=>some (v::l)
      |none=>none
    |none=>none
theorem tF:∀(n:Nat)(h:aae)(a:Addr)(l:List Value),agK h a n=some l->l.length=n
 |0,_,_,l,e=>by grind[agK]
 |n+1,h,a,l,e=>by
  simp only[agK]at e;split at e
  .split at e
   .rename_i l' b;injection e with e;subst e;simp[tF n h _ l' b]
   .cases e
  .cases e
theorem Rel.agK(R:Rel W0 m h w):∀(n:Nat){a a':Addr}{l:List Value},AR h.next m a a'->Fw.agK h a n=some l->
  ∃l',AK h.next m l l'/\∀(j:Nat)(v:Value),l'[j]?=some v->w.cell? (a'.add j)=some v
 |0,a,a',l,ha,e=>by simp[Fw.agK]at e;subst e;exact⟨[],.nil _ _,fun j v h=>by simp at h⟩
 |n+1,a,a',l,ha,e=>by
  simp only[Fw.agK]at e;split at e
  .rename_i v g;split at e
   .rename_i t i;injection e with e;subst e;obtain⟨v',k,b⟩:=R.read ha g;obtain⟨o,c,d⟩:=R.agK n (ha.add 1) i;refine⟨v'::o,.cons b c,fun j u f=>?_⟩;cases j with
    |zero=>simp at f;subst f;simpa[Addr.add]using k
    |succ j=>
     have:=d j u pw;have e:(a'.add 1).add j=a'.add (j+1):=by unfold Addr.add;grind
     grind
   .cases e
  .cases e
theorem Rel.loadCells(R:Rel W0 m h w)(P:Program){n:Nat}{a a':Addr}{l:List Value}(ha:AR h.next m a a')(e:Fw.agK h a n=some l):
  ∃l',AK h.next m l l'/\(Go.loadCells a' n).run P w=.ok l'.toArray w:=by
 obtain⟨l',b,c⟩:=R.agK n ha e;refine⟨l',b,?_⟩;have d:n=l'.length:=by rw[<-b.1,tF n h a l e]
 grind[Go.run_loadCells_list]
def UA(P:Program)(t:TypeId):Nat:=P.cellsOf t
theorem IT{P:Program}{t:TypeId}{d:TypeDesc}(a:P.underlying t=some d)(w:World):(sizeOf t).run P w=.ok (UA P t) w:=by
 unfold Program.underlying at a;cases hi:P.info? t with
 |none=>grind
 |some i=>simp[sizeOf,typeInfo,hi,UA,Program.cellsOf]
def agS:TypeDesc->Bool
 |.struct _|.array _ _=>true
 |_=>false
def Rk{P:Program}{t:TypeId}{d:TypeDesc}(a:P.underlying t=some d)(w:World):(isAgg t).run P w=.ok (agS d) w:=by
 cases d<;>simp[isAgg,run_underlying a,agS]
def acd(P:Program)(h:aae)(t:TypeId)(a:Addr):Option Value:=
 match P.underlying t with
 |some d=>bif agS d then(match agK h a (UA P t)with|some l=>some (.agg l.toArray)|none=>none)else h.read a
 |none=>none
theorem Rel.loadVar(R:Rel W0 m h w){P:Program}{t:TypeId}{a a':Addr}{v:Value}(ha:AR h.next m a a')(e:acd P h t a=some v):
  ∃v',(Go.loadVar t a').run P w=.ok v' w/\VR h.next m v v':=by
 unfold acd at e;split at e
 .rename_i d c;cases hd:agS d with
  |true=>
   simp only[hd,cond_true]at e;split at e
   .rename_i l g;injection e with e;subst e;obtain⟨l',j,b⟩:=R.loadCells P ha g;refine⟨.agg l'.toArray,?_,.uk pw⟩;simp[Go.loadVar,Rk c,IT c,hd,b]
   .cases e
  |false=>simp only[hd,cond_false]at e;obtain⟨v',i,f⟩:=R.read ha e;refine⟨v',?_,f⟩;simp[Go.loadVar,Rk c,hd,i]
 .cases e
def VR.oneCell{n:Nat}{m:aad}{v v':Value}(h:VR n m v v'):v'.oneCell'=v.oneCell':=by
 cases h<;>first|rfl|skip
theorem AK.zK{n:Nat}{m:aad}{l l':List Value}(h:AK n m l l')(c:l.all (·.oneCell')=true):∀v∈l',v.oneCell'=true:=by
 intro v b;obtain⟨i,hi,rfl⟩:=fj.1 b;have a:i<l.length:=by rw[h.1];exact hi
 rw[(h.2 i l[i] l'[i] (yY a) (yY hi)).oneCell];grind
theorem Rel.JP{n n':Nat}{m f:aad}{w w':World}{loc:Loc}{o:fK}(g:ORel n m w loc o)(a:n<=n')(b:ZK n m f)(hb:w'.heap[loc.blk]?=w.heap[loc.blk]?):ORel n' f w' loc o:=by
 cases o with
 |cells c=>obtain⟨C,e,lo,hi,i,h2,h3,d,j,k⟩:=g;exact⟨C,e,lo,hi,pw,h2,h3,d.mono a b,j,k⟩
 |map es=>obtain⟨E,clock,i,h2,h3,d⟩:=g;exact⟨E,clock,pw,h2.mono a b,h3.mono a b,d⟩
theorem NK(w:World)(a:Addr)(v:Value)(b:Nat)(hb:b≠a.block):(w.setCell a v).heap[b]?=w.heap[b]?:=by simp[World.setCell,acQ,Hs hb]
theorem Rel.write1(R:Rel W0 m h w){id off:Nat}{c:List Value}{v v':Value}(r:h.own id=some (.cells c))(s:off<c.length)(u:VR h.next m v v')(z:v'.oneCell'=true):
  Rel W0 m (h.put id (.cells (c.set off v))) (w.setCell ⟨(m id).blk,(m id).base+off,none⟩ v'):=by
 have l:h.own id≠none:=by rw[r];simp
 obtain⟨C,e,lo,hi,hb,hs,A,x,t,hf⟩:=R.own id _ r;have a:∀i,(h.put id (.cells (c.set off v))).own i≠none->h.own i≠none:=by grind[aae.By]
 have k:∀i,h.own i≠none->i≠id->(m i).blk≠(m id).blk:=fun i d g n=>g (R.inj i id d l n);refine⟨by simpa[World.setCell]using R.size,fun b sZ=>?_,R.ext,fun i d=>R.lt i (a i d),fun i d=>R.new i (a i d),fun i o f=>?_,fun i j d p=>R.inj i j (a i d) (a j p),R.os,R.output,R.tape,R.Q0.put a (fun b _ hb=>NK _ _ _ _ (fun e=>hb id l e.symm))⟩
 .grind[NK,Rel.qi,Rel.new]
 .by_cases g:i=id
  .subst g;rw[aae.Y3]at f;injection f with f;subst f;refine⟨C.setIfInBounds ((m i).base+off) v',e,lo,hi,?_,pw,pw,?_,?_,?_⟩
   .simp only[World.setCell,acQ,hb,if_true,ai3];rfl
   .have y:((C.setIfInBounds ((m i).base+off) v').toList.drop (m i).base).take (c.set off v).length=((C.toList.drop (m i).base).take c.length).set off v':=by rw[Array.toList_setIfInBounds,Zw,<-List.set_drop,qL183]
    rw[y];exact x.set off u
   all_goals grind
  .rw[aae.By _ _ _ _ g]at f;have q:h.own i≠none:=pw;exact Rel.JP (R.own i o f) (qL0 _) (ZK.refl _ _) (NK _ _ _ _ (k i q g))
def putCells(c:List Value)(off:Nat):List Value->List Value
 |[]=>c
 |v::vs=>putCells (c.set off v) (off+1) vs
theorem aha:∀(vs:List Value)(c:List Value)(off:Nat),(putCells c off vs).length=c.length
 |[],_,_=>rfl
 |v::vs,c,off=>by simp[putCells,aha vs]
theorem Rel.frozen(R:Rel W0 m h w){id off:Nat}{c:List Value}(d:h.own id=some (.cells c))(a:off<c.length):
  w.frozen? ⟨(m id).blk,(m id).base+off,none⟩=false:=by
 obtain⟨C,e,lo,hi,hb,hs,f,g,b,hf⟩:=R.own id _ d;simp only[World.frozen?,hb];grind
theorem Rel.jW(P:Program):∀(vs d:List Value)(i:Nat){h:aae}{w:World}(_:Rel W0 m h w){id off:Nat}{c:List Value},
  h.own id=some (.cells c)->off+i+vs.length<=c.length->AK h.next m vs d->(∀v∈d,v.oneCell'=true)->
  ∃w',(storeCells ⟨(m id).blk,(m id).base+off,none⟩ d i).run P w=.ok () w'/\Rel W0 m (h.put id (.cells (putCells c (off+i) vs))) w'
 |[],d,i,h,w,R,id,off,c,l,_,f,_=>by
  have:d=[]:=Lm (by rw[<-f.1];rfl);subst this;refine⟨w,by simp[storeCells],?_⟩;have y:h.own id≠none:=by rw[l];simp
  have k:∀j o,(h.put id (.cells c)).own j=some o↔h.own j=some o:=by grind[aae.Y3,aae.By]
  have p:∀j,(h.put id (.cells c)).own j≠none->h.own j≠none:=by intro j e z;cases E:(h.put id (.cells c)).own j<;>grind
  exact⟨R.size,R.qi,R.ext,fun j e=>R.lt j (p j e),fun j e=>R.new j (p j e),fun j o e=>R.own j o ((k j o).1 e),fun a b ha hb=>R.inj a b (p a ha) (p b hb),R.os,R.output,R.tape,R.Q0.put p (fun _ _ _=>rfl)⟩
 |v::vs,[],i,h,w,R,id,off,c,l,A,f,s=>by grind[AK]
 |v::vs,v'::d,i,h,w,R,id,off,c,l,A,f,s=>by
  have g:off+i<c.length:=pw
  have B:VR h.next m v v':=f.2 0 v v' rfl rfl
  have q:AK h.next m vs d:=by simpa using f.drop 1
  have t:=s v' Ma;have C:=R.write1 l g B t;obtain⟨u,x,_⟩:=R.UL l (yY g);have hf:=R.frozen l g;obtain⟨w',D,R'⟩:=Rel.jW P vs d (i+1) C (off:=off) (aae.Y3 h id (.cells (c.set (off+i) v))) pw q (fun u x=>s u (by simp[x]));have r:(⟨(m id).blk,(m id).base+off,none⟩:Addr).add i=⟨(m id).blk,(m id).base+(off+i),none⟩:=by grind[zn]
  refine⟨w',?_,?_⟩
  .simp only[storeCells,Sem.run_bind,r];grind[Go.run_store,Go.Result.andThen_ok]
  .have n:((h.put id (.cells (c.set (off+i) v))).put id (.cells (putCells (c.set (off+i) v) (off+(i+1)) vs))).own=(h.put id (.cells (putCells c (off+i) (v::vs)))).own:=by
    funext j;by_cases e:j=id
    .subst e;rw[aae.Y3,aae.Y3];rfl
    grind[aae.By]
   exact⟨R'.size,R'.qi,R'.ext,fun j e=>R'.lt j (by rw[n];exact e),fun j e=>R'.new j (by rw[n];exact e),fun j o e=>R'.own j o (by rw[n];exact e),fun a b ha hb=>R'.inj a b (by rw[n];exact ha) (by rw[n];exact hb),R'.os,R'.output,R'.tape,R'.Q0.put (fun j e=>by rw[n];exact e) (fun _ _ _=>rfl)⟩
section
variable{W0:LA}{m:aad}{h:aae}{w:World}
def SG(m:aad)(k:Nat)(l:Loc):aad:=fun i=>if i=k then l else m i
theorem zf(m:aad)(k:Nat)(l:Loc):SG m k l k=l:=by simp[SG]
theorem ko(m:aad)(k i:Nat)(l:Loc)(hi:i≠k):SG m k l i=m i:=by simp[SG,hi]
theorem Qq(m:aad)(k:Nat)(l:Loc):ZK k m (SG m k l):=fun i hi=>by grind[ko]
theorem Rel.drew(R:Rel W0 m h w):Rel W0 m h w.drew:=⟨R.size,R.qi,R.ext,R.lt,R.new,R.own,R.inj,R.os,R.output,⟨R.tape.1,Nat.le_succ_of_le R.tape.2⟩,R.Q0.put (fun _ hi=>hi) (fun _ _ _=>rfl)⟩
theorem Rel.kill(R:Rel W0 m h w)(id:Nat):Rel W0 m (h.kill id) w:=by
 have hs:∀i o,(h.kill id).own i=some o->h.own i=some o:=by grind[aae.Dg,aae.xJ]
 have a:∀i,(h.kill id).own i≠none->h.own i≠none:=by intro i hi b;cases c:(h.kill id).own i<;>grind
 exact⟨R.size,R.qi,R.ext,fun i hi=>R.lt i (a i hi),(by grind[Rel.new]),fun i o hi=>R.own i o (hs i o hi),(by grind[Rel.inj]),R.os,R.output,R.tape,R.Q0.put a pw⟩
theorem Rel.add{w':World}(R:Rel W0 m h w)(loc:Loc)(o:fK)(k:w.heap.size<=w'.heap.size)(hb:∀b,b≠loc.blk->b<w.heap.size->w'.heap[b]?=w.heap[b]?)(s:W0.heap.size<=loc.blk)(l:∀i,h.own i≠none->(m i).blk≠loc.blk)(u:ORel h.next m w' loc o)(n:w'.os=w.os)(g:w'.output=w.output)(p:w'.tape=w.tape/\w.drawn<=w'.drawn)(q:∀b x,(b,x)∈W0.rw->loc.blk≠b:=by exact fun b x hb e=>by(have:=R.Q0.lt hb;simp at e;omega)):Rel W0 (SG m h.next loc) (h.alloc o) w':=by
 have a:∀i,(h.alloc o).own i≠none->i=h.next\/(i≠h.next/\h.own i≠none):=by grind[aae.Ve]
 have f:=Qq m h.next loc
 refine⟨Tn R.size k,fun b v=>?_,R.ext,fun i hi=>?_,fun i hi=>?_,fun i r hi=>?_,fun i j hi G y=>?_,n.trans R.os,g.trans R.output,(by grind[Rel.tape]),⟨R.Q0.agree.trans f R.Q0.next,Nat.le_succ_of_le R.Q0.next,R.Q0.VM,R.Q0.hi,fun b x d=>(hb b pw (R.Q0.lt d)).trans (R.Q0.held b x d),fun b x i d hi=>?_⟩⟩
 .grind[Rel.qi]
 .rcases a i hi with e|⟨_,e⟩
  .subst e;exact FD _
  .exact aeE (R.lt i e)
 .grind[zf,ko,Rel.new]
 .by_cases e:i=h.next
  .subst e;rw[aae.zT]at hi;injection hi with hi;subst hi;rw[zf];exact Rel.JP u (afq _) f rfl
  .rw[aae.Ve _ _ _ e]at hi;rw[ko _ _ _ _ e];have z:h.own i≠none:=by rw[hi];simp
   have A:(m i).blk<w.heap.size:=by
    have t:=R.own i r hi;cases r with
    |cells c=>obtain⟨C,_,lo,B,D,_⟩:=t;grind
    |map es=>obtain⟨E,clock,D,_⟩:=t;grind
   exact Rel.JP (R.own i r hi) (afq _) f pw
 .grind[zf,ko,Rel.inj]
 .rcases a i hi with e|⟨F,e⟩
  .grind[zf]
  .rw[ko _ _ _ _ F];exact R.Q0.apart b x i d e
theorem Rel.Hc(R:Rel W0 m h w){i:Nat}(hi:h.own i≠none):(m i).blk<w.heap.size:=by
 cases b:h.own i with
 |none=>grind
 |some o=>
  have a:=R.own i o b;cases o with
  |cells c=>obtain⟨C,_,lo,d,e,_⟩:=a;grind
  |map es=>obtain⟨E,clock,e,_⟩:=a;grind
theorem Rel.alloc(R:Rel W0 m h w){c:List Value}{C:Array Value}(e:TypeId)(b:AK h.next m c (C.toList.take c.length))(hle:c.length<=C.size)(a:∀v∈C.toList,v.oneCell'=true):
  Rel W0 (SG m h.next ⟨w.heap.size,0,C.size⟩) (h.alloc (.cells c)) (w.alloc (.cells C e)):=by
 refine R.add ⟨w.heap.size,0,C.size⟩ _ Ma (by grind[Go.heap_alloc_old]) R.size (fun i hi d=>?_) ?_ rfl rfl ⟨rfl,qL0 _⟩
 .grind[Rel.Hc]
 .exact⟨C,e,0,0,heap_alloc_new w _,rfl,pw,pw,a,pw⟩
theorem Rel.allocMap(R:Rel W0 m h w):Rel W0 (SG m h.next ⟨w.heap.size,0,0⟩) (h.alloc (.map [])) (w.alloc (.map #[] 0)):=by
 refine R.add ⟨w.heap.size,0,0⟩ _ Ma (by grind[Go.heap_alloc_old]) R.size (fun i hi a=>?_) ?_ rfl rfl ⟨rfl,qL0 _⟩
 .grind[Rel.Hc]
 .exact⟨#[],0,heap_alloc_new w _,by grind[AK.nil],by grind[AK.nil],rfl,pw⟩
theorem Rel.alloc_eq(R:Rel W0 m h w){c C:List Value}(e:TypeId)(a:AK h.next m c C)(b:c.all (·.oneCell')=true):
  Rel W0 (SG m h.next ⟨w.heap.size,0,C.length⟩) (h.alloc (.cells c)) (w.alloc (.cells C.toArray e)):=by
 have:=R.alloc (c:=c) (C:=C.toArray) e (by simpa[a.1,HV]using a) (by simp[a.1]) (by grind[AK.zK]);grind
theorem Rel.Dd(R:Rel W0 m h w){w':World}{id:Nat}{c:List Value}(k:h.own id=some (.cells c)){C':Array Value}{e:TypeId}{lo hi:Nat}{base:Nat}{c2:List Value}(a:w'.heap=w.heap.setIfInBounds (m id).blk (.cells C' e (lo,hi)))(hs:C'.size=(m id).lim)(l:∀v∈C'.toList,v.oneCell'=true)(hf:∀i,i<C'.size->((lo<=i&&i<hi)=false/\lo<=hi))(n:base+c2.length<=C'.size)(o:AK h.next m c2 ((C'.toList.drop base).take c2.length))(j:w'.os=w.os)(g:w'.output=w.output)(d:w'.tape=w.tape/\w.drawn<=w'.drawn):
  Rel W0 (SG m h.next ⟨(m id).blk,base,(m id).lim⟩) ((h.kill id).alloc (.cells c2)) w':=by
 have f:h.own id≠none:=by rw[k];simp
 have p:=R.Hc f;refine(R.kill id).add ⟨(m id).blk,base,(m id).lim⟩ (.cells c2) (by simp[a]) (fun b hb _=>?_) (R.new id f) (fun i q r=>?_) ⟨C',e,lo,hi,?_,hs,n,o,l,hf⟩ j g d (fun b x hb=>R.Q0.apart b x id hb f)
 .grind
 all_goals grind[aae.Dg,aae.xJ,Rel.inj]
def ag8(C:Array Value)(off:Nat):List Value->Array Value
 |[]=>C
 |v::vs=>ag8 (C.setIfInBounds off v) (off+1) vs
theorem aN:∀(vs:List Value)(C:Array Value)(off:Nat),(ag8 C off vs).size=C.size
 |[],_,_=>rfl
 |v::vs,C,off=>by simp[ag8,aN vs]
theorem GC:∀(vs:List Value)(C:Array Value)(off:Nat),(ag8 C off vs).toList=putCells C.toList off vs
 |[],_,_=>rfl
 |v::vs,C,off=>by simp[ag8,putCells,GC vs]
theorem IW:∀(vs c:List Value)(off:Nat),off+vs.length<=c.length->putCells c off vs=c.take off++vs++c.drop (off+vs.length)
 |[],c,off,h=>by simp[putCells]
 |v::vs,c,off,h=>by simp at h;rw[putCells,IW vs _ (off+1) (by simp;omega)];grind[List.take_succ_eq_append_getElem,List.take_set_of_le,List.drop_set_of_lt]
theorem HG(P:Program)(g:Nat)(e:TypeId)(lo hi:Nat):∀(vs:List Value)(i off:Nat)(C:Array Value)(w:World),
  w.heap[g]?=some (.cells C e (lo,hi))->off+i+vs.length<=C.size->(∀v∈vs,v.oneCell'=true)->(∀i,i<C.size->((lo<=i&&i<hi)=false/\lo<=hi))->
  ∃w',(storeCells ⟨g,off,none⟩ vs i).run P w=.ok () w'/\w'.heap=w.heap.setIfInBounds g (.cells (ag8 C (off+i) vs) e (lo,hi))/\w'.os=w.os/\w'.output=w.output/\(w'.tape=w.tape/\w.drawn<=w'.drawn)
 |[],i,off,C,w,hg,_,_,_=>by
  refine⟨w,by simp[storeCells],?_,rfl,rfl,rfl,qL0 _⟩;apply zd;intro j;rw[NC];split
  .rename_i k;subst k;rw[hg,AE (xH.1 hg).1];rfl
  .rfl
 |v::vs,i,off,C,w,hg,p,q,hf=>by
  have a:off+i<C.size:=pw;have d:(w.setCell ⟨g,off+i,none⟩ v).heap=w.heap.setIfInBounds g (.cells (C.setIfInBounds (off+i) v) e (lo,hi)):=by simp only[World.setCell,acQ,NC];grind
  obtain⟨w',f,b,l,c,n⟩:=HG P g e lo hi vs (i+1) off (C.setIfInBounds (off+i) v) (w.setCell ⟨g,off+i,none⟩ v)
   pw pw pw pw
  refine⟨w',?_,?_,l,c,n⟩
  .have r:w.cell? ⟨g,off+i,none⟩=some C[off+i]:=by simp[World.cell?,hg,a]
   have o:w.frozen? ⟨g,off+i,none⟩=false:=by simp only[World.frozen?,hg];grind
   simp only[storeCells,Sem.run_bind,zn];grind[Go.run_store,Go.Result.andThen_ok]
  grind[ag8]
def ahh(z:List Value):Nat->List Value
 |0=>[]
 |n+1=>z++ahh z n
theorem jY(z:List Value):∀n,(ahh z n).length=n*z.length
 |0=>by simp[ahh]
 |n+1=>by simp[ahh,jY z n,Nat.succ_mul,Nat.add_comm]
theorem X7(z:List Value):∀(n i:Nat),i<n*z.length->(ahh z n)[i]?=z[i%z.length]?
 |0,i,h=>by simp at h
 |n+1,i,h=>by
  rw[ahh];by_cases hi:i<z.length
  .grind[Nat.mod_eq_of_lt]
  .rw[Og NH,X7 z n (i-z.length) pw]
   conv=>rhs;rw[show i=(i-z.length)+z.length from by omega,JR]
theorem MI(z:Array Value)(n k:Nat)(a:k=n*z.size):((Array.range k).map (fun i=>z[i%z.size]!)).toList=ahh z.toList n:=by apply mJ;grind[X7,jY]
def HW(v:Value):∀n,ahh [v] n=List.replicate n v
 |0=>rfl
 |n+1=>by rw[ahh,HW v n];rfl
theorem AK.flat{n:Nat}{m:aad}:∀{l:List Value},l.all Fw.flat=true->AK n m l l
 |[],_=>.nil _ _
 |v::l,h=>by simp at h;exact .cons (.flat h.1) (AK.flat pw)
theorem Ew(p:Value->Bool)(z:List Value)(h:z.all p=true):∀n,(ahh z n).all p=true
 |0=>rfl
 |n+1=>by rw[ahh,agb,h,Ew p z h n];rfl
theorem flat_one{v:Value}(h:flat v=true):v.oneCell'=true:=by
 cases v<;>simp_all [flat,Value.oneCell']
theorem OO{l:List Value}(h:l.all flat=true):l.all (·.oneCell')=true:=by grind[flat_one]
end
end Go.Fw
