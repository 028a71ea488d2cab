/- A text. -/
import Derived.Laws.AppendOwn
import Derived.Test.YtnakkbhjoiheoaaGreatFwZA
set_option linter.all false
set_option maxRecDepth 99999
set_option maxHeartbeats 9999999
open Option renaming some→Z,none→Y
open Bool renaming true→tT,false→fF
open List renaming replicate→rP
open Go.Value renaming slice→sL,pointer→pT
open Go renaming Value→vV
namespace Go.Fw
inductive Trie (α:Type) where
 |leaf
 |node (v:Option α) (l r:Trie α)
def Trie.get{α:Type}:Trie α->Nat->Option α
 |.leaf,_=>Y
 |.node v l r,n=>bif n==0 then v else bif n%2==1 then l.get (n / 2)else r.get (n / 2-1)
def Trie.put{α:Type}:Nat->Trie α->Nat->Option α->Trie α
 |0,t,_,_=>t
 |f+1,.leaf,n,x=>bif n==0 then .node x .leaf .leaf else bif n%2==1 then .node Y (Trie.put f .leaf (n / 2) x) .leaf else .node Y .leaf (Trie.put f .leaf (n / 2-1) x)
 |f+1,.node v l r,n,x=>bif n==0 then .node x l r else bif n%2==1 then .node v (Trie.put f l (n / 2) x) r else .node v l (Trie.put f r (n / 2-1) x)
def Trie.set{α:Type}(t:Trie α)(n:Nat)(x:α):Trie α:=Trie.put (n+1) t n (Z x)
def Trie.del{α:Type}(t:Trie α)(n:Nat):Trie α:=Trie.put (n+1) t n Y
theorem Trie.Tl{α:Type}:∀(f:Nat)(t:Trie α)(n j:Nat)(x:Option α),n<f->(Trie.put f t n x).get j=if j=n then x else t.get j
 |0,_,n,_,_,h=>absurd h NH
 |f+1,t,n,j,x,h=>by
  by_cases a:n=0
  .subst a;cases t<;>grind[Trie.put,Trie.get]
  .by_cases c:n%2=1
   .have b:=fun t j=>Trie.Tl f t (n / 2) j x NH;cases t<;>grind[Trie.put,Trie.get]
   .have b:=fun t j=>Trie.Tl f t (n / 2-1) j x NH;cases t<;>grind[Trie.put,Trie.get]
theorem Trie.YO{α:Type}(t:Trie α)(n j:Nat)(x:α):(t.set n x).get j=if j=n then Z x else t.get j:=Trie.Tl _ t n j _ NH
theorem Trie.Xw{α:Type}(t:Trie α)(n:Nat)(x:α):(t.set n x).get n=Z x:=by grind[Trie.YO]
theorem Trie.bR{α:Type}(t:Trie α)(n j:Nat)(x:α)(h:j≠n):(t.set n x).get j=t.get j:=by grind[Trie.YO]
theorem Trie.Ik{α:Type}(t:Trie α)(n j:Nat):(t.del n).get j=if j=n then Y else t.get j:=Trie.Tl _ t n j _ NH
theorem Trie.jd{α:Type}(t:Trie α)(n:Nat):(t.del n).get n=Y:=by grind[Trie.Ik]
theorem Trie.ajv{α:Type}(t:Trie α)(n j:Nat)(h:j≠n):(t.del n).get j=t.get j:=by grind[Trie.Ik]
inductive fK where
 |cells (c:List vV)
 |map (es:List (vV×vV))
def UNK:Nat:=2^100
structure aai where
 ext:Nat->Nat->Option vV
 next:Nat
 t:Trie fK
namespace aai
def own(h:aai)(i:Nat):Option fK:=h.t.get i
def put(h:aai)(i:Nat)(o:fK):aai:={h with t:=h.t.set i o}
def kill(h:aai)(i:Nat):aai:={h with t:=h.t.del i}
def alloc(h:aai)(o:fK):aai:={h with next:=h.next+1,t:=h.t.set h.next o}
def read(h:aai)(a:Addr):Option vV:=
  match a.spot with
  |none=>match h.own a.block with
    |some (.cells c)=>c[a.off]?
    |_=>Y
  |some _=>h.ext a.block a.off
theorem Y3(h:aai)(i:Nat)(o:fK):(h.put i o).own i=Z o:=Trie.Xw _ _ _
theorem By(h:aai)(i j:Nat)(o:fK)(n:j≠i):(h.put i o).own j=h.own j:=Trie.bR _ _ _ _ n
theorem Dg(h:aai)(i:Nat):(h.kill i).own i=Y:=Trie.jd _ _
theorem xJ(h:aai)(i j:Nat)(n:j≠i):(h.kill i).own j=h.own j:=Trie.ajv _ _ _ n
theorem zT(h:aai)(o:fK):(h.alloc o).own h.next=Z o:=Trie.Xw _ _ _
theorem Ve(h:aai)(j:Nat)(o:fK)(n:j≠h.next):(h.alloc o).own j=h.own j:=Trie.bR _ _ _ _ n
end aai
structure Loc where
 blk:Nat
 base:Nat
 lim:Nat
abbrev abd:=Nat->Loc
def flat:vV->Bool
 |.bool _|.int _ _|.string _|.pointer Y|.map Y|.nilFunc|.nilIface=>tT
 |.slice Y l c=>l==0&&c==0
 |_=>fF
inductive VR (n:Nat) (m:abd):vV->vV->Prop
  |flat {v:vV} (h:flat v=tT):VR n m v v
  |ptr {id off:Nat} (h:id<n):VR n m (pT (Z ⟨id,off,Y⟩)) (pT (Z ⟨(m id).blk,(m id).base+off,Y⟩))
  |aeK {b off:Nat}:VR n m (pT (Z ⟨b,off,Z 0⟩)) (pT (Z ⟨b,off,Y⟩))
  |slice {id off len cap:Nat} (h:id<n) (hc:cap<UNK):VR n m (sL (Z ⟨id,off,Y⟩) len cap) (sL (Z ⟨(m id).blk,(m id).base+off,Y⟩) len cap)
  |buf {id off len k cap':Nat} {a':Addr} (h:id<n) (hl:len<=cap') (ha:(a'=⟨(m id).blk,(m id).base+off,Y⟩/\(m id).base+off+cap'*k<=(m id).lim/\cap'<UNK)\/cap'=0):
      VR n m (sL (Z ⟨id,off,Y⟩) len (UNK+k)) (sL (Z a') len cap')
  |esl {b off len cap:Nat} (hc:cap<UNK):VR n m (sL (Z ⟨b,off,Z 0⟩) len cap) (sL (Z ⟨b,off,Y⟩) len cap)
  |empty {a a':Addr}:VR n m (sL (Z a) 0 0) (sL (Z a') 0 0)
  |map {id:Nat} (h:id<n):VR n m (.map (Z id)) (.map (Z (m id).blk))
  |func {f:Fn} {a a' b b':Array vV} (ha:a.size=a'.size) (hb:b.size=b'.size)
      (h1:∀(i:Nat)(v v':vV),a[i]?=Z v->a'[i]?=Z v'->VR n m v v') (h2:∀(i:Nat)(v v':vV),b[i]?=Z v->b'[i]?=Z v'->VR n m v v'):
      VR n m (.func f a b) (.func f a' b')
  |iface {t:TypeId} {v v':vV} (h:VR n m v v'):VR n m (.iface t v) (.iface t v')
  |agg {a a':Array vV} (ha:a.size=a'.size) (h:∀(i:Nat)(v v':vV),a[i]?=Z v->a'[i]?=Z v'->VR n m v v'):VR n m (.agg a) (.agg a')
  |tuple {a a':Array vV} (ha:a.size=a'.size) (h:∀(i:Nat)(v v':vV),a[i]?=Z v->a'[i]?=Z v'->VR n m v v'):VR n m (.tuple a) (.tuple a')
def ZK(n:Nat)(m a:abd):Prop:=∀i,i<n->a i=m i
theorem ZK.refl(n:Nat)(m:abd):ZK n m m:=fun _ _=>rfl
theorem ZK.trans{n n':Nat}{m b a:abd}(h:ZK n m b)(h':ZK n' b a)(c:n<=n'):ZK n m a:=fun i hi=>(h' i NH).trans (h i hi)
theorem VR.mono{n n':Nat}{m d:abd}{v v':vV}(h:VR n m v v')(k:n<=n')(b:ZK n m d):VR n' d v v':=by
 induction h with
 |flat h=>exact .flat h
 |ptr h=>rw[<-b _ h];exact .ptr NH
 |aeK=>exact .aeK
 |slice h c=>rw[<-b _ h];exact .slice NH c
 |buf h f ha=>exact .buf NH f (by rw[b _ h];exact ha)
 |esl c=>exact .esl c
 |empty=>exact .empty
 |map h=>rw[<-b _ h];exact .map NH
 |func ha hb l h2 g j=>exact .func ha hb (fun i v v' e e'=>g i v v' e e') (fun i v v' e e'=>j i v v' e e')
 |iface _ a=>exact .iface a
 |agg ha h a=>exact .agg ha (fun i v v' e e'=>a i v v' e e')
 |tuple ha h a=>exact .tuple ha (fun i v v' e e'=>a i v v' e e')
def tag:vV->Option vV
 |.pointer (Z ⟨b,off,Y⟩)=>Z (pT (Z ⟨b,off,Z 0⟩))
 |.slice (Z ⟨b,off,Y⟩) len cap=>if cap<UNK then Z (sL (Z ⟨b,off,Z 0⟩) len cap)else Y
 |.slice (Z ⟨b,off,Z _⟩) 0 0=>Z (sL (Z ⟨b,off,Z 0⟩) 0 0)
 |v=>if flat v then Z v else Y
theorem VR.akj{n:Nat}{m:abd}{v v':vV}(h:tag v'=Z v):VR n m v v':=by
 unfold tag at h;split at h
 .injection h with h;subst h;exact .aeK
 .split at h
  .injection h with h;subst h;exact .esl (by assumption)
  .cases h
 .injection h with h;subst h;exact .empty
 .split at h
  .injection h with h;subst h;exact .flat (by assumption)
  .cases h
def AK(n:Nat)(m:abd)(l l':List vV):Prop:=l.length=l'.length/\∀(i:Nat)(v v':vV),l[i]?=Z v->l'[i]?=Z v'->VR n m v v'
theorem AK.mono{n n':Nat}{m b:abd}{v v':List vV}(h:AK n m v v')(c:n<=n')(d:ZK n m b):AK n' b v v':=⟨h.1,fun i a a' e e'=>(h.2 i a a' e e').mono c d⟩
theorem AK.nil(n:Nat)(m:abd):AK n m [] []:=⟨rfl,fun i v v' h=>by simp at h⟩
theorem AK.cons{n:Nat}{m:abd}{v v':vV}{l l':List vV}(h:VR n m v v')(b:AK n m l l'):AK n m (v::l) (v'::l'):=by
 refine⟨by simp[b.1],fun i a a' e e'=>?_⟩;cases i with
 |zero=>grind
 |succ i=>exact b.2 i a a' (by simpa using e) hGr
theorem AK.append{n:Nat}{m:abd}{a a' b c:List vV}(h:AK n m a a')(h2:AK n m b c):AK n m (a++b) (a'++c):=by
 refine⟨by simp[h.1,h2.1],fun i v v' e e'=>?_⟩;by_cases hi:i<a.length
 .rw[iy hi]at e;rw[iy (by rw[<-h.1];exact hi)]at e';exact h.2 i v v' e e'
 .rw[AE NH]at e;rw[AE (by have:=h.1;omega)]at e';exact h2.2 (i-a.length) v v' e (by rw[h.1];exact e')
theorem AK.take{n:Nat}{m:abd}{a a':List vV}(h:AK n m a a')(k:Nat):AK n m (a.take k) (a'.take k):=by
 refine⟨by simp[h.1],fun i v v' e e'=>?_⟩;rw[wV]at e e';split at e
 .rename_i b;rw[IE b]at e';exact h.2 i v v' e e'
 .cases e
theorem AK.drop{n:Nat}{m:abd}{a a':List vV}(h:AK n m a a')(k:Nat):AK n m (a.drop k) (a'.drop k):=by refine⟨by simp[h.1],fun i v v' e e'=>?_⟩;rw[b7]at e e';exact h.2 (k+i) v v' e e'
theorem AK.set{n:Nat}{m:abd}{a a':List vV}(h:AK n m a a')(k:Nat){x x':vV}(c:VR n m x x'):AK n m (a.set k x) (a'.set k x'):=by
 refine⟨by simp[h.1],fun i v v' e e'=>?_⟩;rw[Tn]at e e';by_cases b:k=i
 .grind
 .rw[yM b]at e e';exact h.2 i v v' e e'
theorem AK.get{n:Nat}{m:abd}{a a':List vV}(h:AK n m a a'){i:Nat}{v:vV}(e:a[i]?=Z v):∃v',a'[i]?=Z v'/\VR n m v v':=by
 have hi:i<a.length:=(Ny.1 e).1;have b:i<a'.length:=by rw[<-h.1];exact hi
 exact⟨a'[i],XJ b,h.2 i v _ e (XJ b)⟩
theorem VR.uk{n:Nat}{m:abd}{a a':Array vV}(h:AK n m a.toList a'.toList):VR n m (.agg a) (.agg a'):=
 .agg (by simpa using h.1) (fun i v v' e e'=>h.2 i v v' (by simpa using e) hGr)
theorem VR.qY{n:Nat}{m:abd}{a a':Array vV}(h:AK n m a.toList a'.toList):VR n m (.tuple a) (.tuple a'):=
 .tuple (by simpa using h.1) (fun i v v' e e'=>h.2 i v v' (by simpa using e) hGr)
def aek(E:Array MapEntry)(clock:Nat):Prop:=clock=E.size/\∀(i:Nat)(a:MapEntry),E[i]?=Z a->a.born=i
def ORel(n:Nat)(m:abd)(w:World)(loc:Loc):fK->Prop
  |.cells c=>∃(C:Array vV)(e:TypeId)(lo hi:Nat),w.heap[loc.blk]?=Z (.cells C e (lo,hi))/\C.size=loc.lim/\loc.base+c.length<=C.size/\
      AK n m c ((C.toList.drop loc.base).take c.length)/\(∀v∈C.toList,v.oneCell'=tT)/\∀i,i<C.size->((lo<=i&&i<hi)=fF/\lo<=hi)
  |.map es=>∃(E:Array MapEntry)(clock:Nat),w.heap[loc.blk]?=Z (.map E clock)/\
      AK n m (es.map (·.1)) (E.toList.map (·.key))/\AK n m (es.map (·.2)) (E.toList.map (·.val))/\aek E clock
structure LA extends World where
 rw:List (Nat×Obj)
 n0:Nat
 m0:abd
def LA.add(a:LA)(ex:List (Nat×Obj)):LA:={a with rw:=ex++a.rw}
def LA.of(W:World):LA:={W with rw:=[],n0:=0,m0:=fun _=>⟨0,0,0⟩}
structure Mj (W0:LA) (m:abd) (h:aai) (w:World):Prop where
 agree:ZK W0.n0 W0.m0 m
 next:W0.n0<=h.next
 VM:(W0.rw.map (·.1)).Nodup
 hi:∀b o,(b,o)∈W0.rw->W0.heap.size<=b
 held:∀b o,(b,o)∈W0.rw->w.heap[b]?=Z o
 apart:∀b o i,(b,o)∈W0.rw->h.own i≠Y->(m i).blk≠b
theorem Mj.put{a:LA}{m:abd}{h h':aai}{w w':World}(p:Mj a m h w)(hs:∀i,h'.own i≠Y->h.own i≠Y)(hw:∀b,b<w.heap.size->(∀i,h.own i≠Y->(m i).blk≠b)->w'.heap[b]?=w.heap[b]?)(c:h.next<=h'.next:=by exact qL0 _):Mj a m h' w':=⟨p.agree,EP p.next c,p.VM,p.hi,fun b o hb=>(hw b (iU.1 (p.held b o hb)).1 (fun i hi=>p.apart b o i hb hi)).trans (p.held b o hb),fun b o i hb hi=>p.apart b o i hb (hs i hi)⟩
theorem Mj.lt{a:LA}{m:abd}{h:aai}{w:World}(p:Mj a m h w){b:Nat}{o:Obj}(hb:(b,o)∈a.rw):b<w.heap.size:=(iU.1 (p.held b o hb)).1
structure Rel (W0:LA) (m:abd) (h:aai) (w:World):Prop where
 size:W0.heap.size<=w.heap.size
 qi:∀b,b<W0.heap.size->w.heap[b]?=W0.heap[b]?
 ext:∀b off,h.ext b off=(W0.cell? ⟨b,off,Y⟩).bind tag
 lt:∀i,h.own i≠Y->i<h.next
 new:∀i,h.own i≠Y->W0.heap.size<=(m i).blk
 own:∀i o,h.own i=Z o->ORel h.next m w (m i) o
 inj:∀i j,h.own i≠Y->h.own j≠Y->(m i).blk=(m j).blk->i=j
 os:w.os=W0.os
 output:w.output=W0.output
 tape:w.tape=W0.tape/\W0.drawn<=w.drawn
 aah:Mj W0 m h w
end Go.Fw
namespace Go.Fw
instance:Coe Nat Addr:=⟨fun x=>⟨x,0,none⟩⟩
abbrev xLV:=List Value
instance:Coe Int Value:=⟨fun x=>.int .i64 x⟩
instance:Coe Nat Value:=⟨fun x=>.int .i64 x⟩
inductive AR (n:Nat) (m:abd):Addr->Addr->Prop
 |own {id off:Nat} (h:id<n):AR n m ⟨id,off,Y⟩ ⟨(m id).blk,(m id).base+off,Y⟩
 |ext {b off:Nat}:AR n m ⟨b,off,Z 0⟩ ⟨b,off,Y⟩
def AR.ptr{n:Nat}{m:abd}{a a':Addr}(h:AR n m a a'):VR n m (pT (Z a)) (pT (Z a')):=by
 cases h with
 |own h=>exact .ptr h
 |ext=>exact .aeK
theorem VR.AP{n:Nat}{m:abd}{a:Addr}{v':vV}(h:VR n m (pT (Z a)) v'):∃a',v'=pT (Z a')/\AR n m a a':=by
 cases h with
 |flat h=>simp[Fw.flat]at h
 |ptr h=>exact⟨_,rfl,.own h⟩
 |aeK=>exact⟨_,rfl,.ext⟩
def Ip(a:Addr)(k:Nat):Addr:={a with off:=a.off+k}
theorem agQ(b o k:Nat):(⟨b,o,Y⟩:Addr).add k=⟨b,o+k,Y⟩:=by unfold Addr.add;grind
theorem AR.add{n:Nat}{m:abd}{a a':Addr}(h:AR n m a a')(k:Nat):AR n m (Ip a k) (a'.add k):=by
 cases h with
 |own h=>rw[agQ,qL235];exact .own h
 |ext=>rw[agQ];exact .ext
variable{W0:LA}{m:abd}{h:aai}{w:World}
theorem Rel.UL(R:Rel W0 m h w){id off:Nat}{c:xLV}{v:vV}(g:h.own id=Z (.cells c))(f:c[off]?=Z v):
  ∃v',w.cell? ⟨(m id).blk,(m id).base+off,Y⟩=Z v'/\VR h.next m v v':=by
 obtain⟨C,e,lo,hi,hb,hs,j,i,_,_⟩:=R.own id _ g;obtain⟨v',b,d⟩:=i.get f;refine⟨v',?_,d⟩;have a:off<c.length:=(Ny.1 f).1;rw[wV,IE a,b7]at b;simp[World.cell?,hb];grind
theorem Rel.read(R:Rel W0 m h w){a a':Addr}{v:vV}(ha:AR h.next m a a')(c:h.read a=Z v):∃v',w.cell? a'=Z v'/\VR h.next m v v':=by
 cases ha with
 |own e=>grind[aai.read,Rel.UL]
 |@ext b off=>
  simp only[aai.read,R.ext]at c;cases d:W0.cell? ⟨b,off,Y⟩with
  |none=>grind
  |some v'=>rw[d]at c;simp only[TN]at c;have hb:b<W0.heap.size:=World.block_lt_of_cell? W0.toWorld ⟨b,off,Y⟩ d;grind[VR.akj,Go.World.cell?_of_block,Rel.qi]
def abN(h:aai)(a:Addr):Nat->Option xLV
  |0=>Z []
  |n+1=>match h.read a with
    |some v=>match abN h (Ip a 1) n with
      |some l=>Z (v::l)
      |none=>Y
    |none=>Y
theorem tF:∀(n:Nat)(h:aai)(a:Addr)(l:xLV),abN h a n=Z l->l.length=n
 |0,_,_,l,e=>by grind[abN]
 |n+1,h,a,l,e=>by
  simp only[abN]at e;split at e
  .split at e
   .rename_i l' b;injection e with e;subst e;simp[tF n h _ l' b]
   .cases e
  .cases e
theorem Rel.abN(R:Rel W0 m h w):∀(n:Nat){a a':Addr}{l:xLV},AR h.next m a a'->Fw.abN h a n=Z l->
  ∃l',AK h.next m l l'/\∀(j:Nat)(v:vV),l'[j]?=Z v->w.cell? (a'.add j)=Z v
 |0,a,a',l,ha,e=>by simp[Fw.abN]at e;subst e;exact⟨[],.nil _ _,fun j v h=>by simp at h⟩
 |n+1,a,a',l,ha,e=>by
  simp only[Fw.abN]at e;split at e
  .rename_i v g;split at e
   .rename_i t i;injection e with e;subst e;obtain⟨v',k,b⟩:=R.read ha g;obtain⟨o,c,d⟩:=R.abN n (ha.add 1) i;refine⟨v'::o,.cons b c,fun j u f=>?_⟩;cases j with
    |zero=>simp at f;subst f;simpa[Addr.add]using k
    |succ j=>
     have:=d j u hGr;have e:(a'.add 1).add j=a'.add (j+1):=by unfold Addr.add;grind
     grind
   .cases e
  .cases e
theorem Rel.loadCells(R:Rel W0 m h w)(P:Program){n:Nat}{a a':Addr}{l:xLV}(ha:AR h.next m a a')(e:Fw.abN h a n=Z l):
  ∃l',AK h.next m l l'/\(Go.loadCells a' n).run P w=.ok l'.toArray w:=by
 obtain⟨l',b,c⟩:=R.abN n ha e;refine⟨l',b,?_⟩;have d:n=l'.length:=by rw[<-b.1,tF n h a l e]
 grind[Go.run_loadCells_list]
def UA(P:Program)(t:TypeId):Nat:=P.cellsOf t
theorem IT{P:Program}{t:TypeId}{d:TypeDesc}(a:P.underlying t=Z d)(w:World):(sizeOf t).run P w=.ok (UA P t) w:=by
 unfold Program.underlying at a;cases hi:P.info? t with
 |none=>grind
 |some i=>simp[sizeOf,typeInfo,hi,UA,Program.cellsOf]
def ab8:TypeDesc->Bool
 |.struct _|.array _ _=>tT
 |_=>fF
def Rk{P:Program}{t:TypeId}{d:TypeDesc}(a:P.underlying t=Z d)(w:World):(isAgg t).run P w=.ok (ab8 d) w:=by
 cases d<;>simp[isAgg,run_underlying a,ab8]
def aaC(P:Program)(h:aai)(t:TypeId)(a:Addr):Option vV:=
 match P.underlying t with
 |some d=>bif ab8 d then(match abN h a (UA P t)with|some l=>Z (.agg l.toArray)|none=>Y)else h.read a
 |none=>Y
theorem Rel.loadVar(R:Rel W0 m h w){P:Program}{t:TypeId}{a a':Addr}{v:vV}(ha:AR h.next m a a')(e:aaC P h t a=Z v):
  ∃v',(Go.loadVar t a').run P w=.ok v' w/\VR h.next m v v':=by
 unfold aaC at e;split at e
 .rename_i d c;cases hd:ab8 d with
  |true=>
   simp only[hd,cond_true]at e;split at e
   .rename_i l g;injection e with e;subst e;obtain⟨l',j,b⟩:=R.loadCells P ha g;refine⟨.agg l'.toArray,?_,.uk hGr⟩;simp[Go.loadVar,Rk c,IT c,hd,b]
   .cases e
  |false=>simp only[hd,cond_false]at e;obtain⟨v',i,f⟩:=R.read ha e;refine⟨v',?_,f⟩;simp[Go.loadVar,Rk c,hd,i]
 .cases e
def VR.oneCell{n:Nat}{m:abd}{v v':vV}(h:VR n m v v'):v'.oneCell'=v.oneCell':=by
 cases h<;>first|rfl|skip
theorem AK.zK{n:Nat}{m:abd}{l l':xLV}(h:AK n m l l')(c:l.all (·.oneCell')=tT):∀v∈l',v.oneCell'=tT:=by
 intro v b;obtain⟨i,hi,rfl⟩:=Q4.1 b;have a:i<l.length:=by rw[h.1];exact hi
 rw[(h.2 i l[i] l'[i] (XJ a) (XJ hi)).oneCell];grind
theorem Rel.JP{n n':Nat}{m f:abd}{w w':World}{loc:Loc}{o:fK}(g:ORel n m w loc o)(a:n<=n')(b:ZK n m f)(hb:w'.heap[loc.blk]?=w.heap[loc.blk]?):ORel n' f w' loc o:=by
 cases o with
 |cells c=>obtain⟨C,e,lo,hi,i,h2,h3,d,j,k⟩:=g;exact⟨C,e,lo,hi,hGr,h2,h3,d.mono a b,j,k⟩
 |map es=>obtain⟨E,clock,i,h2,h3,d⟩:=g;exact⟨E,clock,hGr,h2.mono a b,h3.mono a b,d⟩
theorem NK(w:World)(a:Addr)(v:vV)(b:Nat)(hb:b≠a.block):(w.setCell a v).heap[b]?=w.heap[b]?:=by simp[World.setCell,akp,j3 hb]
theorem Rel.write1(R:Rel W0 m h w){id off:Nat}{c:xLV}{v v':vV}(r:h.own id=Z (.cells c))(s:off<c.length)(u:VR h.next m v v')(z:v'.oneCell'=tT):
  Rel W0 m (h.put id (.cells (c.set off v))) (w.setCell ⟨(m id).blk,(m id).base+off,Y⟩ v'):=by
 have l:h.own id≠Y:=by rw[r];simp
 obtain⟨C,e,lo,hi,hb,hs,A,x,t,hf⟩:=R.own id _ r;have a:∀i,(h.put id (.cells (c.set off v))).own i≠Y->h.own i≠Y:=by grind[aai.By]
 have k:∀i,h.own i≠Y->i≠id->(m i).blk≠(m id).blk:=fun i d g n=>g (R.inj i id d l n);refine⟨by simpa[World.setCell]using R.size,fun b sZ=>?_,R.ext,fun i d=>R.lt i (a i d),fun i d=>R.new i (a i d),fun i o f=>?_,fun i j d p=>R.inj i j (a i d) (a j p),R.os,R.output,R.tape,R.aah.put a (fun b _ hb=>NK _ _ _ _ (fun e=>hb id l e.symm))⟩
 .grind[NK,Rel.qi,Rel.new]
 .by_cases g:i=id
  .subst g;rw[aai.Y3]at f;injection f with f;subst f;refine⟨C.setIfInBounds ((m i).base+off) v',e,lo,hi,?_,hGr,hGr,?_,?_,?_⟩
   .simp only[World.setCell,akp,hb,if_true,uu];rfl
   .have y:((C.setIfInBounds ((m i).base+off) v').toList.drop (m i).base).take (c.set off v).length=((C.toList.drop (m i).base).take c.length).set off v':=by rw[Array.toList_setIfInBounds,Yq,<-List.set_drop,qL236]
    rw[y];exact x.set off u
   all_goals grind
  .rw[aai.By _ _ _ _ g]at f;have q:h.own i≠Y:=hGr;exact Rel.JP (R.own i o f) (qL0 _) (ZK.refl _ _) (NK _ _ _ _ (k i q g))
def putCells(c:xLV)(off:Nat):xLV->xLV
 |[]=>c
 |v::vs=>putCells (c.set off v) (off+1) vs
theorem O7:∀(vs:xLV)(c:xLV)(off:Nat),(putCells c off vs).length=c.length
 |[],_,_=>rfl
 |v::vs,c,off=>by simp[putCells,O7 vs]
theorem Rel.frozen(R:Rel W0 m h w){id off:Nat}{c:xLV}(d:h.own id=Z (.cells c))(a:off<c.length):
  w.frozen? ⟨(m id).blk,(m id).base+off,Y⟩=fF:=by
 obtain⟨C,e,lo,hi,hb,hs,f,g,b,hf⟩:=R.own id _ d;simp only[World.frozen?,hb];grind
theorem Rel.jW(P:Program):∀(vs d:xLV)(i:Nat){h:aai}{w:World}(_:Rel W0 m h w){id off:Nat}{c:xLV},
  h.own id=Z (.cells c)->off+i+vs.length<=c.length->AK h.next m vs d->(∀v∈d,v.oneCell'=tT)->
  ∃w',(storeCells ⟨(m id).blk,(m id).base+off,Y⟩ d i).run P w=.ok () w'/\Rel W0 m (h.put id (.cells (putCells c (off+i) vs))) w'
 |[],d,i,h,w,R,id,off,c,l,_,f,_=>by
  have:d=[]:=Yi (by rw[<-f.1];rfl);subst this;refine⟨w,by simp[storeCells],?_⟩;have y:h.own id≠Y:=by rw[l];simp
  have k:∀j o,(h.put id (.cells c)).own j=Z o↔h.own j=Z o:=by grind[aai.Y3,aai.By]
  have p:∀j,(h.put id (.cells c)).own j≠Y->h.own j≠Y:=by intro j e z;cases E:(h.put id (.cells c)).own j<;>grind
  exact⟨R.size,R.qi,R.ext,fun j e=>R.lt j (p j e),fun j e=>R.new j (p j e),fun j o e=>R.own j o ((k j o).1 e),fun a b ha hb=>R.inj a b (p a ha) (p b hb),R.os,R.output,R.tape,R.aah.put p (fun _ _ _=>rfl)⟩
 |v::vs,[],i,h,w,R,id,off,c,l,A,f,s=>by grind[AK]
 |v::vs,v'::d,i,h,w,R,id,off,c,l,A,f,s=>by
  have g:off+i<c.length:=hGr
  have B:VR h.next m v v':=f.2 0 v v' rfl rfl
  have q:AK h.next m vs d:=by simpa using f.drop 1
  have t:=s v' Ma;have C:=R.write1 l g B t;obtain⟨u,x,_⟩:=R.UL l (XJ g);have hf:=R.frozen l g;obtain⟨w',D,R'⟩:=Rel.jW P vs d (i+1) C (off:=off) (aai.Y3 h id (.cells (c.set (off+i) v))) hGr q (fun u x=>s u (by simp[x]));have r:(⟨(m id).blk,(m id).base+off,Y⟩:Addr).add i=⟨(m id).blk,(m id).base+(off+i),Y⟩:=by grind[agQ]
  refine⟨w',?_,?_⟩
  .simp only[storeCells,Sem.run_bind,r];grind[Go.run_store,Go.Result.andThen_ok]
  .have n:((h.put id (.cells (c.set (off+i) v))).put id (.cells (putCells (c.set (off+i) v) (off+(i+1)) vs))).own=(h.put id (.cells (putCells c (off+i) (v::vs)))).own:=by
    funext j;by_cases e:j=id
    .subst e;rw[aai.Y3,aai.Y3];rfl
    grind[aai.By]
   exact⟨R'.size,R'.qi,R'.ext,fun j e=>R'.lt j (by rw[n];exact e),fun j e=>R'.new j (by rw[n];exact e),fun j o e=>R'.own j o (by rw[n];exact e),fun a b ha hb=>R'.inj a b (by rw[n];exact ha) (by rw[n];exact hb),R'.os,R'.output,R'.tape,R'.aah.put (fun j e=>by rw[n];exact e) (fun _ _ _=>rfl)⟩
section
variable{W0:LA}{m:abd}{h:aai}{w:World}
def upd(m:abd)(k:Nat)(l:Loc):abd:=fun i=>if i=k then l else m i
theorem zf(m:abd)(k:Nat)(l:Loc):upd m k l k=l:=by simp[upd]
theorem ko(m:abd)(k i:Nat)(l:Loc)(hi:i≠k):upd m k l i=m i:=by simp[upd,hi]
theorem Qq(m:abd)(k:Nat)(l:Loc):ZK k m (upd m k l):=fun i hi=>by grind[ko]
theorem Rel.drew(R:Rel W0 m h w):Rel W0 m h w.drew:=⟨R.size,R.qi,R.ext,R.lt,R.new,R.own,R.inj,R.os,R.output,⟨R.tape.1,Nat.le_succ_of_le R.tape.2⟩,R.aah.put (fun _ hi=>hi) (fun _ _ _=>rfl)⟩
theorem Rel.kill(R:Rel W0 m h w)(id:Nat):Rel W0 m (h.kill id) w:=by
 have hs:∀i o,(h.kill id).own i=Z o->h.own i=Z o:=by grind[aai.Dg,aai.xJ]
 have a:∀i,(h.kill id).own i≠Y->h.own i≠Y:=by intro i hi b;cases c:(h.kill id).own i<;>grind
 exact⟨R.size,R.qi,R.ext,fun i hi=>R.lt i (a i hi),(by grind[Rel.new]),fun i o hi=>R.own i o (hs i o hi),(by grind[Rel.inj]),R.os,R.output,R.tape,R.aah.put a hGr⟩
theorem Rel.add{w':World}(R:Rel W0 m h w)(loc:Loc)(o:fK)(k:w.heap.size<=w'.heap.size)(hb:∀b,b≠loc.blk->b<w.heap.size->w'.heap[b]?=w.heap[b]?)(s:W0.heap.size<=loc.blk)(l:∀i,h.own i≠Y->(m i).blk≠loc.blk)(u:ORel h.next m w' loc o)(n:w'.os=w.os)(g:w'.output=w.output)(p:w'.tape=w.tape/\w.drawn<=w'.drawn)(q:∀b x,(b,x)∈W0.rw->loc.blk≠b:=by exact fun b x hb e=>by(have:=R.aah.lt hb;simp at e;omega)):Rel W0 (upd m h.next loc) (h.alloc o) w':=by
 have a:∀i,(h.alloc o).own i≠Y->i=h.next\/(i≠h.next/\h.own i≠Y):=by grind[aai.Ve]
 have f:=Qq m h.next loc
 refine⟨EP R.size k,fun b v=>?_,R.ext,fun i hi=>?_,fun i hi=>?_,fun i r hi=>?_,fun i j hi G y=>?_,n.trans R.os,g.trans R.output,(by grind[Rel.tape]),⟨R.aah.agree.trans f R.aah.next,Nat.le_succ_of_le R.aah.next,R.aah.VM,R.aah.hi,fun b x d=>(hb b hGr (R.aah.lt d)).trans (R.aah.held b x d),fun b x i d hi=>?_⟩⟩
 .grind[Rel.qi]
 .rcases a i hi with e|⟨_,e⟩
  .subst e;exact afC _
  .exact ajP (R.lt i e)
 .grind[zf,ko,Rel.new]
 .by_cases e:i=h.next
  .subst e;rw[aai.zT]at hi;injection hi with hi;subst hi;rw[zf];exact Rel.JP u (afJ _) f rfl
  .rw[aai.Ve _ _ _ e]at hi;rw[ko _ _ _ _ e];have z:h.own i≠Y:=by rw[hi];simp
   have A:(m i).blk<w.heap.size:=by
    have t:=R.own i r hi;cases r with
    |cells c=>obtain⟨C,_,lo,B,D,_⟩:=t;grind
    |map es=>obtain⟨E,clock,D,_⟩:=t;grind
   exact Rel.JP (R.own i r hi) (afJ _) f hGr
 .grind[zf,ko,Rel.inj]
 .rcases a i hi with e|⟨F,e⟩
  .grind[zf]
  .rw[ko _ _ _ _ F];exact R.aah.apart b x i d e
theorem Rel.Hc(R:Rel W0 m h w){i:Nat}(hi:h.own i≠Y):(m i).blk<w.heap.size:=by
 cases b:h.own i with
 |none=>grind
 |some o=>
  have a:=R.own i o b;cases o with
  |cells c=>obtain⟨C,_,lo,d,e,_⟩:=a;grind
  |map es=>obtain⟨E,clock,e,_⟩:=a;grind
theorem Rel.alloc(R:Rel W0 m h w){c:xLV}{C:Array vV}(e:TypeId)(b:AK h.next m c (C.toList.take c.length))(hle:c.length<=C.size)(a:∀v∈C.toList,v.oneCell'=tT):
  Rel W0 (upd m h.next ⟨w.heap.size,0,C.size⟩) (h.alloc (.cells c)) (w.alloc (.cells C e)):=by
 refine R.add ⟨w.heap.size,0,C.size⟩ _ Ma (by grind[Go.heap_alloc_old]) R.size (fun i hi d=>?_) ?_ rfl rfl ⟨rfl,qL0 _⟩
 .grind[Rel.Hc]
 .exact⟨C,e,0,0,heap_alloc_new w _,rfl,hGr,hGr,a,hGr⟩
theorem Rel.allocMap(R:Rel W0 m h w):Rel W0 (upd m h.next ⟨w.heap.size,0,0⟩) (h.alloc (.map [])) (w.alloc (.map #[] 0)):=by
 refine R.add ⟨w.heap.size,0,0⟩ _ Ma (by grind[Go.heap_alloc_old]) R.size (fun i hi a=>?_) ?_ rfl rfl ⟨rfl,qL0 _⟩
 .grind[Rel.Hc]
 .exact⟨#[],0,heap_alloc_new w _,by grind[AK.nil],by grind[AK.nil],rfl,hGr⟩
theorem Rel.alloc_eq(R:Rel W0 m h w){c C:xLV}(e:TypeId)(a:AK h.next m c C)(b:c.all (·.oneCell')=tT):
  Rel W0 (upd m h.next ⟨w.heap.size,0,C.length⟩) (h.alloc (.cells c)) (w.alloc (.cells C.toArray e)):=by
 have:=R.alloc (c:=c) (C:=C.toArray) e (by simpa[a.1,HV]using a) (by simp[a.1]) (by grind[AK.zK]);grind
theorem Rel.Dd(R:Rel W0 m h w){w':World}{id:Nat}{c:xLV}(k:h.own id=Z (.cells c)){C':Array vV}{e:TypeId}{lo hi:Nat}{base:Nat}{c2:xLV}(a:w'.heap=w.heap.setIfInBounds (m id).blk (.cells C' e (lo,hi)))(hs:C'.size=(m id).lim)(l:∀v∈C'.toList,v.oneCell'=tT)(hf:∀i,i<C'.size->((lo<=i&&i<hi)=fF/\lo<=hi))(n:base+c2.length<=C'.size)(o:AK h.next m c2 ((C'.toList.drop base).take c2.length))(j:w'.os=w.os)(g:w'.output=w.output)(d:w'.tape=w.tape/\w.drawn<=w'.drawn):
  Rel W0 (upd m h.next ⟨(m id).blk,base,(m id).lim⟩) ((h.kill id).alloc (.cells c2)) w':=by
 have f:h.own id≠Y:=by rw[k];simp
 have p:=R.Hc f;refine(R.kill id).add ⟨(m id).blk,base,(m id).lim⟩ (.cells c2) (by simp[a]) (fun b hb _=>?_) (R.new id f) (fun i q r=>?_) ⟨C',e,lo,hi,?_,hs,n,o,l,hf⟩ j g d (fun b x hb=>R.aah.apart b x id hb f)
 .grind
 all_goals grind[aai.Dg,aai.xJ,Rel.inj]
def acC(C:Array vV)(off:Nat):xLV->Array vV
 |[]=>C
 |v::vs=>acC (C.setIfInBounds off v) (off+1) vs
theorem afB:∀(vs:xLV)(C:Array vV)(off:Nat),(acC C off vs).size=C.size
 |[],_,_=>rfl
 |v::vs,C,off=>by simp[acC,afB vs]
theorem GC:∀(vs:xLV)(C:Array vV)(off:Nat),(acC C off vs).toList=putCells C.toList off vs
 |[],_,_=>rfl
 |v::vs,C,off=>by simp[acC,putCells,GC vs]
theorem IW:∀(vs c:xLV)(off:Nat),off+vs.length<=c.length->putCells c off vs=c.take off++vs++c.drop (off+vs.length)
 |[],c,off,h=>by simp[putCells]
 |v::vs,c,off,h=>by simp at h;rw[putCells,IW vs _ (off+1) (by simp;omega)];grind[List.take_succ_eq_append_getElem,List.take_set_of_le,List.drop_set_of_lt]
theorem HG(P:Program)(g:Nat)(e:TypeId)(lo hi:Nat):∀(vs:xLV)(i off:Nat)(C:Array vV)(w:World),
  w.heap[g]?=Z (.cells C e (lo,hi))->off+i+vs.length<=C.size->(∀v∈vs,v.oneCell'=tT)->(∀i,i<C.size->((lo<=i&&i<hi)=fF/\lo<=hi))->
  ∃w',(storeCells ⟨g,off,Y⟩ vs i).run P w=.ok () w'/\w'.heap=w.heap.setIfInBounds g (.cells (acC C (off+i) vs) e (lo,hi))/\w'.os=w.os/\w'.output=w.output/\(w'.tape=w.tape/\w.drawn<=w'.drawn)
 |[],i,off,C,w,hg,_,_,_=>by
  refine⟨w,by simp[storeCells],?_,rfl,rfl,rfl,qL0 _⟩;apply qL197;intro j;rw[qL155];split
  .rename_i k;subst k;rw[hg,IE (iU.1 hg).1];rfl
  .rfl
 |v::vs,i,off,C,w,hg,p,q,hf=>by
  have a:off+i<C.size:=hGr;have d:(w.setCell ⟨g,off+i,Y⟩ v).heap=w.heap.setIfInBounds g (.cells (C.setIfInBounds (off+i) v) e (lo,hi)):=by simp only[World.setCell,akp,qL155];grind
  obtain⟨w',f,b,l,c,n⟩:=HG P g e lo hi vs (i+1) off (C.setIfInBounds (off+i) v) (w.setCell ⟨g,off+i,Y⟩ v)
   hGr hGr hGr hGr
  refine⟨w',?_,?_,l,c,n⟩
  .have r:w.cell? ⟨g,off+i,Y⟩=Z C[off+i]:=by simp[World.cell?,hg,a]
   have o:w.frozen? ⟨g,off+i,Y⟩=fF:=by simp only[World.frozen?,hg];grind
   simp only[storeCells,Sem.run_bind,agQ];grind[Go.run_store,Go.Result.andThen_ok]
  grind[acC]
def acY(z:xLV):Nat->xLV
 |0=>[]
 |n+1=>z++acY z n
theorem jY(z:xLV):∀n,(acY z n).length=n*z.length
 |0=>by simp[acY]
 |n+1=>by simp[acY,jY z n,Nat.succ_mul,Nat.add_comm]
theorem X7(z:xLV):∀(n i:Nat),i<n*z.length->(acY z n)[i]?=z[i%z.length]?
 |0,i,h=>by simp at h
 |n+1,i,h=>by
  rw[acY];by_cases hi:i<z.length
  .grind[Nat.mod_eq_of_lt]
  .rw[AE NH,X7 z n (i-z.length) hGr]
   conv=>rhs;rw[show i=(i-z.length)+z.length from by omega,TV]
theorem MI(z:Array vV)(n k:Nat)(a:k=n*z.size):((Array.range k).map (fun i=>z[i%z.size]!)).toList=acY z.toList n:=by apply wI;grind[X7,jY]
def HW(v:vV):∀n,acY [v] n=rP n v
 |0=>rfl
 |n+1=>by rw[acY,HW v n];rfl
theorem AK.flat{n:Nat}{m:abd}:∀{l:xLV},l.all Fw.flat=tT->AK n m l l
 |[],_=>.nil _ _
 |v::l,h=>by simp at h;exact .cons (.flat h.1) (AK.flat hGr)
theorem Ew(p:vV->Bool)(z:xLV)(h:z.all p=tT):∀n,(acY z n).all p=tT
 |0=>rfl
 |n+1=>by rw[acY,ai8,h,Ew p z h n];rfl
theorem flat_one{v:vV}(h:flat v=tT):v.oneCell'=tT:=by
 cases v<;>simp_all [flat,vV.oneCell']
theorem OO{l:xLV}(h:l.all flat=tT):l.all (·.oneCell')=tT:=by grind[flat_one]
end
end Go.Fw
