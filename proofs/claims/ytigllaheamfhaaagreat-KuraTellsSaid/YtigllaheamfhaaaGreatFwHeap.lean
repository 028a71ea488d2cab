/- A text. -/
import Derived.Laws.AppendOwn
import Derived.Laws.StructEq
import Derived.Test.YtigllaheamfhaaaGreatFwZA
set_option linter.all false
set_option maxRecDepth 99999
set_option maxHeartbeats 9999999
open Option renaming some→Z,none→Y
open Bool renaming true→tT,false→fF
open List renaming replicate→rP
open Go.Value renaming slice→sL,pointer→pT
open Go renaming Value→vV
open List
namespace Go.Fw
inductive Trie (α:Type) where
 |leaf
 |node (v:Option α) (l r:Trie α)
def Trie.get{α:Type}:Trie α->Nat->Option α
 |.leaf,_=>Y
 |.node v l r,n=>bif n==0 then v else bif n%2==1 then l.get (n / 2)else r.get (n / 2-1)
def Trie.put{α:Type}:Nat->Trie α->Nat->Option α->Trie α
 |0,t,_,_=>t
 |f+1,.leaf,n,x=>bif n==0 then .node x .leaf .leaf else bif n%2==1 then .node Y (Trie.put f .leaf (n / 2) x) .leaf else .node Y .leaf (Trie.put f .leaf (n / 2-1) x)
 |f+1,.node v l r,n,x=>bif n==0 then .node x l r else bif n%2==1 then .node v (Trie.put f l (n / 2) x) r else .node v l (Trie.put f r (n / 2-1) x)
def Trie.set{α:Type}(t:Trie α)(n:Nat)(x:α):Trie α:=Trie.put (n+1) t n (Z x)
def Trie.del{α:Type}(t:Trie α)(n:Nat):Trie α:=Trie.put (n+1) t n Y
theorem Trie.Tl{α:Type}:∀(f:Nat)(t:Trie α)(n j:Nat)(x:Option α),n<f->(Trie.put f t n x).get j=if j=n then x else t.get j
 |0,_,n,_,_,h=>absurd h NH
 |f+1,t,n,j,x,h=>by
  by_cases a:n=0
  .subst a;cases t<;>grind[Trie.put,Trie.get]
  .by_cases c:n%2=1
   .have b:=fun t j=>Trie.Tl f t (n / 2) j x NH;cases t<;>grind[Trie.put,Trie.get]
   .have b:=fun t j=>Trie.Tl f t (n / 2-1) j x NH;cases t<;>grind[Trie.put,Trie.get]
theorem Trie.YO{α:Type}(t:Trie α)(n j:Nat)(x:α):(t.set n x).get j=if j=n then Z x else t.get j:=Trie.Tl _ t n j _ NH
theorem Trie.Xw{α:Type}(t:Trie α)(n:Nat)(x:α):(t.set n x).get n=Z x:=by grind[Trie.YO]
theorem Trie.bR{α:Type}(t:Trie α)(n j:Nat)(x:α)(h:j≠n):(t.set n x).get j=t.get j:=by grind[Trie.YO]
theorem Trie.Ik{α:Type}(t:Trie α)(n j:Nat):(t.del n).get j=if j=n then Y else t.get j:=Trie.Tl _ t n j _ NH
theorem Trie.jd{α:Type}(t:Trie α)(n:Nat):(t.del n).get n=Y:=by grind[Trie.Ik]
theorem Trie.ajv{α:Type}(t:Trie α)(n j:Nat)(h:j≠n):(t.del n).get j=t.get j:=by grind[Trie.Ik]
inductive fK where
 |cells (c:List vV)
 |map (es:List (vV×vV))
 |iter (r since:Nat) (seen:II) (last:Nat)
def UNK:Nat:=2^100
structure aai where
 ext:Nat->Nat->Option vV
 next:Nat
 t:Trie fK
namespace aai
def own(h:aai)(i:Nat):Option fK:=h.t.get i
def put(h:aai)(i:Nat)(o:fK):aai:={h with t:=h.t.set i o}
def kill(h:aai)(i:Nat):aai:={h with t:=h.t.del i}
def alloc(h:aai)(o:fK):aai:={h with next:=h.next+1,t:=h.t.set h.next o}
def read(h:aai)(a:Addr):Option vV:=
  match a.spot with
  |none=>match h.own a.block with
    |some (.cells c)=>c[a.off]?
    |_=>Y
  |some _=>h.ext a.block a.off
theorem Y3(h:aai)(i:Nat)(o:fK):(h.put i o).own i=Z o:=Trie.Xw _ _ _
theorem By(h:aai)(i j:Nat)(o:fK)(n:j≠i):(h.put i o).own j=h.own j:=Trie.bR _ _ _ _ n
theorem Dg(h:aai)(i:Nat):(h.kill i).own i=Y:=Trie.jd _ _
theorem xJ(h:aai)(i j:Nat)(n:j≠i):(h.kill i).own j=h.own j:=Trie.ajv _ _ _ n
theorem zT(h:aai)(o:fK):(h.alloc o).own h.next=Z o:=Trie.Xw _ _ _
theorem Ve(h:aai)(j:Nat)(o:fK)(n:j≠h.next):(h.alloc o).own j=h.own j:=Trie.bR _ _ _ _ n
end aai
structure Loc where
 blk:Nat
 base:Nat
 lim:Nat
abbrev abd:=Nat->Loc
def flat:vV->Bool
 |.bool _|.int _ _|.string _|.pointer Y|.map Y|.nilFunc|.nilIface=>tT
 |.slice Y l c=>l==0&&c==0
 |_=>fF
inductive VR (n:Nat) (m:abd):vV->vV->Prop
  |flat {v:vV} (h:flat v=tT):VR n m v v
  |ptr {id off:Nat} (h:id<n):VR n m (pT (Z ⟨id,off,Y⟩)) (pT (Z ⟨(m id).blk,(m id).base+off,Y⟩))
  |aeK {b off:Nat}:VR n m (pT (Z ⟨b,off,Z 0⟩)) (pT (Z ⟨b,off,Y⟩))
  |slice {id off len cap:Nat} (h:id<n) (hc:cap<UNK):VR n m (sL (Z ⟨id,off,Y⟩) len cap) (sL (Z ⟨(m id).blk,(m id).base+off,Y⟩) len cap)
  |buf {id off len k cap':Nat} {a':Addr} (h:id<n) (hl:len<=cap') (ha:(a'=⟨(m id).blk,(m id).base+off,Y⟩/\(m id).base+off+cap'*k<=(m id).lim/\cap'<UNK)\/cap'=0):
      VR n m (sL (Z ⟨id,off,Y⟩) len (UNK+k)) (sL (Z a') len cap')
  |esl {b off len cap:Nat} (hc:cap<UNK):VR n m (sL (Z ⟨b,off,Z 0⟩) len cap) (sL (Z ⟨b,off,Y⟩) len cap)
  |empty {a a':Addr}:VR n m (sL (Z a) 0 0) (sL (Z a') 0 0)
  |map {id:Nat} (h:id<n):VR n m (.map (Z id)) (.map (Z (m id).blk))
  |func {f:Fn} {a a' b b':Array vV} (ha:a.size=a'.size) (hb:b.size=b'.size)
      (h1:∀(i:Nat)(v v':vV),a[i]?=Z v->a'[i]?=Z v'->VR n m v v') (h2:∀(i:Nat)(v v':vV),b[i]?=Z v->b'[i]?=Z v'->VR n m v v'):
      VR n m (.func f a b) (.func f a' b')
  |iface {t:TypeId} {v v':vV} (h:VR n m v v'):VR n m (.iface t v) (.iface t v')
  |agg {a a':Array vV} (ha:a.size=a'.size) (h:∀(i:Nat)(v v':vV),a[i]?=Z v->a'[i]?=Z v'->VR n m v v'):VR n m (.agg a) (.agg a')
  |tuple {a a':Array vV} (ha:a.size=a'.size) (h:∀(i:Nat)(v v':vV),a[i]?=Z v->a'[i]?=Z v'->VR n m v v'):VR n m (.tuple a) (.tuple a')
def ZK(n:Nat)(m a:abd):Prop:=∀i,i<n->a i=m i
theorem ZK.refl(n:Nat)(m:abd):ZK n m m:=fun _ _=>rfl
theorem ZK.trans{n b:Nat}{m c a:abd}(h:ZK n m c)(h':ZK b c a)(d:n<=b):ZK n m a:=fun i hi=>(h' i NH).trans (h i hi)
theorem VR.mono{n d:Nat}{m f:abd}{v v':vV}(h:VR n m v v')(l:n<=d)(b:ZK n m f):VR d f v v':=by
 induction h with
 |flat h=>exact .flat h
 |ptr h=>rw[<-b _ h];exact .ptr NH
 |aeK=>exact .aeK
 |slice h c=>rw[<-b _ h];exact .slice NH c
 |buf h g ha=>exact .buf NH g (by rw[b _ h];exact ha)
 |esl c=>exact .esl c
 |empty=>exact .empty
 |map h=>rw[<-b _ h];exact .map NH
 |func ha hb o h2 j k=>exact .func ha hb (fun i v v' e e'=>j i v v' e e') (fun i v v' e e'=>k i v v' e e')
 |iface _ a=>exact .iface a
 |agg ha h a=>exact .agg ha (fun i v v' e e'=>a i v v' e e')
 |tuple ha h a=>exact .tuple ha (fun i v v' e e'=>a i v v' e e')
def tag:vV->Option vV
 |.pointer (Z ⟨b,off,Y⟩)=>Z (pT (Z ⟨b,off,Z 0⟩))
 |.slice (Z ⟨b,off,Y⟩) len cap=>if cap<UNK then Z (sL (Z ⟨b,off,Z 0⟩) len cap)else Y
 |.slice (Z ⟨b,off,Z _⟩) 0 0=>Z (sL (Z ⟨b,off,Z 0⟩) 0 0)
 |v=>if flat v then Z v else Y
theorem VR.akj{n:Nat}{m:abd}{v v':vV}(h:tag v'=Z v):VR n m v v':=by
 unfold tag at h;split at h
 .injection h with h;subst h;exact .aeK
 .split at h
  .injection h with h;subst h;exact .esl (by assumption)
  .cases h
 .injection h with h;subst h;exact .empty
 .split at h
  .injection h with h;subst h;exact .flat (by assumption)
  .cases h
def AK(n:Nat)(m:abd)(l l':List vV):Prop:=l.length=l'.length/\∀(i:Nat)(v v':vV),l[i]?=Z v->l'[i]?=Z v'->VR n m v v'
theorem AK.mono{n b:Nat}{m c:abd}{v v':List vV}(h:AK n m v v')(d:n<=b)(f:ZK n m c):AK b c v v':=⟨h.1,fun i a a' e e'=>(h.2 i a a' e e').mono d f⟩
theorem AK.nil(n:Nat)(m:abd):AK n m [] []:=⟨rfl,fun i v v' h=>by simp at h⟩
theorem AK.cons{n:Nat}{m:abd}{v v':vV}{l l':List vV}(h:VR n m v v')(b:AK n m l l'):AK n m (v::l) (v'::l'):=by
 refine⟨by simp[b.1],fun i a a' e e'=>?_⟩;cases i with
 |zero=>grind
 |succ i=>exact b.2 i a a' (by simpa using e) hGr
theorem AK.append{n:Nat}{m:abd}{a a' b c:List vV}(h:AK n m a a')(h2:AK n m b c):AK n m (a++b) (a'++c):=by
 refine⟨by simp[h.1,h2.1],fun i v v' e e'=>?_⟩;by_cases hi:i<a.length
 .rw[si hi]at e;rw[si (by rw[<-h.1];exact hi)]at e';exact h.2 i v v' e e'
 .rw[AE NH]at e;rw[AE (by have:=h.1;omega)]at e';exact h2.2 (i-a.length) v v' e (by rw[h.1];exact e')
theorem AK.take{n:Nat}{m:abd}{a a':List vV}(h:AK n m a a')(k:Nat):AK n m (a.take k) (a'.take k):=by
 refine⟨by simp[h.1],fun i v v' e e'=>?_⟩;rw[anh]at e e';split at e
 .rename_i b;rw[abe b]at e';exact h.2 i v v' e e'
 .cases e
theorem AK.drop{n:Nat}{m:abd}{a a':List vV}(h:AK n m a a')(k:Nat):AK n m (a.drop k) (a'.drop k):=by refine⟨by simp[h.1],fun i v v' e e'=>?_⟩;rw[b7]at e e';exact h.2 (k+i) v v' e e'
theorem AK.set{n:Nat}{m:abd}{a a':List vV}(h:AK n m a a')(k:Nat){x x':vV}(c:VR n m x x'):AK n m (a.set k x) (a'.set k x'):=by
 refine⟨by simp[h.1],fun i v v' e e'=>?_⟩;rw[Tn]at e e';by_cases b:k=i
 .grind
 .rw[abE b]at e e';exact h.2 i v v' e e'
theorem AK.get{n:Nat}{m:abd}{a a':List vV}(h:AK n m a a'){i:Nat}{v:vV}(e:a[i]?=Z v):∃v',a'[i]?=Z v'/\VR n m v v':=by
 have hi:i<a.length:=(Ny.1 e).1;have b:i<a'.length:=by rw[<-h.1];exact hi
 exact⟨a'[i],qL7 b,h.2 i v _ e (qL7 b)⟩
theorem VR.uk{n:Nat}{m:abd}{a a':Array vV}(h:AK n m a.toList a'.toList):VR n m (.agg a) (.agg a'):=
 .agg (by simpa using h.1) (fun i v v' e e'=>h.2 i v v' (by simpa using e) hGr)
theorem VR.qY{n:Nat}{m:abd}{a a':Array vV}(h:AK n m a.toList a'.toList):VR n m (.tuple a) (.tuple a'):=
 .tuple (by simpa using h.1) (fun i v v' e e'=>h.2 i v v' (by simpa using e) hGr)
def aek(E:Array MapEntry)(clock:Nat):Prop:=clock=E.size/\∀(i:Nat)(a:MapEntry),E[i]?=Z a->a.born=i
def ORel(n:Nat)(m:abd)(w:World)(loc:Loc):fK->Prop
  |.cells c=>∃(C:Array vV)(e:TypeId)(lo hi:Nat),w.heap[loc.blk]?=Z (.cells C e (lo,hi))/\C.size=loc.lim/\loc.base+c.length<=C.size/\
      AK n m c ((C.toList.drop loc.base).take c.length)/\(∀v∈C.toList,v.oneCell'=tT)/\∀i,i<C.size->((lo<=i&&i<hi)=fF/\lo<=hi)
  |.map es=>∃(E:Array MapEntry)(clock:Nat),w.heap[loc.blk]?=Z (.map E clock)/\
      AK n m (es.map (·.1)) (E.toList.map (·.key))/\AK n m (es.map (·.2)) (E.toList.map (·.val))/\aek E clock
  |.iter r k seen last=>w.heap[loc.blk]?=Z (.mapIter (Z (m r).blk) k seen.toArray last)/\loc.base=0/\r<n
structure abw extends World where
 rw:List (Nat×Obj)
 n0:Nat
 m0:abd
def abw.add(a:abw)(ex:List (Nat×Obj)):abw:={a with rw:=ex++a.rw}
def abw.of(W:World):abw:={W with rw:=[],n0:=0,m0:=fun _=>⟨0,0,0⟩}
structure apE (W0:abw) (m:abd) (h:aai) (w:World):Prop where
 agree:ZK W0.n0 W0.m0 m
 next:W0.n0<=h.next
 VM:(W0.rw.map (·.1)).Nodup
 hi:∀b o,(b,o)∈W0.rw->W0.heap.size<=b
 held:∀b o,(b,o)∈W0.rw->w.heap[b]?=Z o
 apart:∀b o i,(b,o)∈W0.rw->h.own i≠Y->(m i).blk≠b
theorem apE.put{a:abw}{m:abd}{h h':aai}{w w':World}(p:apE a m h w)(hs:∀i,h'.own i≠Y->h.own i≠Y)(hw:∀b,b<w.heap.size->(∀i,h.own i≠Y->(m i).blk≠b)->w'.heap[b]?=w.heap[b]?)(c:h.next<=h'.next:=by exact qL0 _):apE a m h' w':=⟨p.agree,jz p.next c,p.VM,p.hi,fun b o hb=>(hw b (ah7.1 (p.held b o hb)).1 (fun i hi=>p.apart b o i hb hi)).trans (p.held b o hb),fun b o i hb hi=>p.apart b o i hb (hs i hi)⟩
theorem apE.lt{a:abw}{m:abd}{h:aai}{w:World}(p:apE a m h w){b:Nat}{o:Obj}(hb:(b,o)∈a.rw):b<w.heap.size:=(ah7.1 (p.held b o hb)).1
structure Rel (W0:abw) (m:abd) (h:aai) (w:World):Prop where
 size:W0.heap.size<=w.heap.size
 qi:∀b,b<W0.heap.size->w.heap[b]?=W0.heap[b]?
 ext:∀b off,h.ext b off=(W0.cell? ⟨b,off,Y⟩).bind tag
 lt:∀i,h.own i≠Y->i<h.next
 new:∀i,h.own i≠Y->W0.heap.size<=(m i).blk
 own:∀i o,h.own i=Z o->ORel h.next m w (m i) o
 inj:∀i j,h.own i≠Y->h.own j≠Y->(m i).blk=(m j).blk->i=j
 os:w.os=W0.os
 output:w.output=W0.output
 tape:w.tape=W0.tape/\W0.drawn<=w.drawn
 aah:apE W0 m h w
end Go.Fw
namespace Go.Fw
instance:Coe Nat Addr:=⟨fun x=>⟨x,0,none⟩⟩
abbrev xLV:=List Value
instance:Coe Int Value:=⟨fun x=>.int .i64 x⟩
instance:Coe Nat Value:=⟨fun x=>.int .i64 x⟩
inductive AR (n:Nat) (m:abd):Addr->Addr->Prop
 |own {id off:Nat} (h:id<n):AR n m ⟨id,off,Y⟩ ⟨(m id).blk,(m id).base+off,Y⟩
 |ext {b off:Nat}:AR n m ⟨b,off,Z 0⟩ ⟨b,off,Y⟩
def AR.ptr{n:Nat}{m:abd}{a a':Addr}(h:AR n m a a'):VR n m (pT (Z a)) (pT (Z a')):=by
 cases h with
 |own h=>exact .ptr h
 |ext=>exact .aeK
theorem VR.akS{n:Nat}{m:abd}{a:Addr}{v':vV}(h:VR n m (pT (Z a)) v'):∃a',v'=pT (Z a')/\AR n m a a':=by
 cases h with
 |flat h=>simp[Fw.flat]at h
 |ptr h=>exact⟨_,rfl,.own h⟩
 |aeK=>exact⟨_,rfl,.ext⟩
def Ip(a:Addr)(k:Nat):Addr:={a with off:=a.off+k}
theorem agQ(b o k:Nat):(⟨b,o,Y⟩:Addr).add k=⟨b,o+k,Y⟩:=by unfold Addr.add;grind
theorem AR.add{n:Nat}{m:abd}{a a':Addr}(h:AR n m a a')(k:Nat):AR n m (Ip a k) (a'.add k):=by
 cases h with
 |own h=>rw[agQ,qL240];exact .own h
 |ext=>rw[agQ];exact .ext
variable{W0:abw}{m:abd}{h:aai}{w:World}
theorem Rel.UL(R:Rel W0 m h w){id off:Nat}{c:xLV}{v:vV}(g:h.own id=Z (.cells c))(f:c[off]?=Z v):
  ∃v',w.cell? ⟨(m id).blk,(m id).base+off,Y⟩=Z v'/\VR h.next m v v':=by
 have⟨C,e,lo,hi,hb,hs,j,i,_,_⟩:=R.own id _ g;have⟨v',b,d⟩:=i.get f;refine⟨v',?_,d⟩;have a:off<c.length:=(Ny.1 f).1;rw[anh,abe a,b7]at b;simp[World.cell?,hb];grind
theorem Rel.read(R:Rel W0 m h w){a a':Addr}{v:vV}(ha:AR h.next m a a')(c:h.read a=Z v):∃v',w.cell? a'=Z v'/\VR h.next m v v':=by
 cases ha with
 |own e=>grind[aai.read,Rel.UL]
 |@ext b off=>
  simp only[aai.read,R.ext]at c;cases d:W0.cell? ⟨b,off,Y⟩with
  |none=>grind
  |some v'=>rw[d]at c;simp only[alC]at c;have hb:b<W0.heap.size:=World.block_lt_of_cell? W0.toWorld ⟨b,off,Y⟩ d;grind[VR.akj,Go.World.cell?_of_block,Rel.qi]
def abN(h:aai)(a:Addr):Nat->Option xLV
  |0=>Z []
  |n+1=>match h.read a with
    |some v=>match abN h (Ip a 1) n with
      |some l=>Z (v::l)
      |none=>Y
    |none=>Y
theorem tF:∀(n:Nat)(h:aai)(a:Addr)(l:xLV),abN h a n=Z l->l.length=n
 |0,_,_,l,e=>by grind[abN]
 |n+1,h,a,l,e=>by
  simp only[abN]at e;split at e
  .split at e
   .rename_i l' b;injection e with e;subst e;simp[tF n h _ l' b]
   .cases e
  .cases e
theorem Rel.abN(R:Rel W0 m h w):∀(n:Nat){a a':Addr}{l:xLV},AR h.next m a a'->Fw.abN h a n=Z l->
  ∃l',AK h.next m l l'/\∀(j:Nat)(v:vV),l'[j]?=Z v->w.cell? (a'.add j)=Z v
 |0,a,a',l,ha,e=>by simp[Fw.abN]at e;subst e;exact⟨[],.nil _ _,fun j v h=>by simp at h⟩
 |n+1,a,a',l,ha,e=>by
  simp only[Fw.abN]at e;split at e
  .rename_i v g;split at e
   .rename_i t i;injection e with e;subst e;have⟨v',k,b⟩:=R.read ha g;have⟨o,c,d⟩:=R.abN n (ha.add 1) i;refine⟨v'::o,.cons b c,fun j u f=>?_⟩;cases j with
    |zero=>simp at f;subst f;simpa[Addr.add]using k
    |succ j=>
     have:=d j u hGr;have e:(a'.add 1).add j=a'.add (j+1):=by unfold Addr.add;grind
     grind
   .cases e
  .cases e
theorem Rel.loadCells(R:Rel W0 m h w)(P:Program){n:Nat}{a a':Addr}{l:xLV}(ha:AR h.next m a a')(e:Fw.abN h a n=Z l):
  ∃l',AK h.next m l l'/\(Go.loadCells a' n).run P w=.ok l'.toArray w:=by
 have⟨l',b,c⟩:=R.abN n ha e;refine⟨l',b,?_⟩;have d:n=l'.length:=by rw[<-b.1,tF n h a l e]
 grind[Go.run_loadCells_list]
def UA(P:Program)(t:TypeId):Nat:=P.cellsOf t
theorem IT{P:Program}{t:TypeId}{d:TypeDesc}(a:P.underlying t=Z d)(w:World):(sizeOf t).run P w=.ok (UA P t) w:=by
 unfold Program.underlying at a;cases hi:P.info? t with
 |none=>grind
 |some i=>simp[sizeOf,typeInfo,hi,UA,Program.cellsOf]
def ab8:TypeDesc->Bool
 |.struct _|.array _ _=>tT
 |_=>fF
def Rk{P:Program}{t:TypeId}{d:TypeDesc}(a:P.underlying t=Z d)(w:World):(isAgg t).run P w=.ok (ab8 d) w:=by
 cases d<;>simp[isAgg,run_underlying a,ab8]
def aaC(P:Program)(h:aai)(t:TypeId)(a:Addr):Option vV:=
 match P.underlying t with
 |some d=>bif ab8 d then(match abN h a (UA P t)with|some l=>Z (.agg l.toArray)|none=>Y)else h.read a
 |none=>Y
theorem Rel.loadVar(R:Rel W0 m h w){P:Program}{t:TypeId}{a a':Addr}{v:vV}(ha:AR h.next m a a')(e:aaC P h t a=Z v):
  ∃v',(Go.loadVar t a').run P w=.ok v' w/\VR h.next m v v':=by
 unfold aaC at e;split at e
 .rename_i d c;cases hd:ab8 d with
  |true=>
   simp only[hd,cond_true]at e;split at e
   .rename_i l g;injection e with e;subst e;have⟨l',j,b⟩:=R.loadCells P ha g;refine⟨.agg l'.toArray,?_,.uk hGr⟩;simp[Go.loadVar,Rk c,IT c,hd,b]
   .cases e
  |false=>simp only[hd,cond_false]at e;have⟨v',i,f⟩:=R.read ha e;refine⟨v',?_,f⟩;simp[Go.loadVar,Rk c,hd,i]
 .cases e
def VR.oneCell{n:Nat}{m:abd}{v v':vV}(h:VR n m v v'):v'.oneCell'=v.oneCell':=by
 cases h<;>first|rfl|skip
theorem AK.zK{n:Nat}{m:abd}{l l':xLV}(h:AK n m l l')(c:l.all (·.oneCell')=tT):∀v∈l',v.oneCell'=tT:=by
 intro v b;obtain⟨i,hi,rfl⟩:=Yi.1 b;have a:i<l.length:=by rw[h.1];exact hi
 rw[(h.2 i l[i] l'[i] (qL7 a) (qL7 hi)).oneCell];grind
theorem Rel.JP{n i:Nat}{m j:abd}{w w':World}{loc:Loc}{o:fK}(d:ORel n m w loc o)(a:n<=i)(b:ZK n m j)(hb:w'.heap[loc.blk]?=w.heap[loc.blk]?):ORel i j w' loc o:=by
 cases o with
 |cells c=>have⟨C,e,lo,hi,f,h2,h3,g,l,p⟩:=d;exact⟨C,e,lo,hi,hGr,h2,h3,g.mono a b,l,p⟩
 |map es=>have⟨E,clock,f,h2,h3,g⟩:=d;exact⟨E,clock,hGr,h2.mono a b,h3.mono a b,g⟩
 |iter r k seen last=>have⟨f,h2,h3⟩:=d;exact⟨by rw[hb,b r h3];exact f,h2,V9 h3 a⟩
theorem NK(w:World)(a:Addr)(v:vV)(b:Nat)(hb:b≠a.block):(w.setCell a v).heap[b]?=w.heap[b]?:=by simp[World.setCell,dU,EH hb]
theorem Rel.write1(R:Rel W0 m h w){id off:Nat}{c:xLV}{v v':vV}(r:h.own id=Z (.cells c))(s:off<c.length)(u:VR h.next m v v')(z:v'.oneCell'=tT):
  Rel W0 m (h.put id (.cells (c.set off v))) (w.setCell ⟨(m id).blk,(m id).base+off,Y⟩ v'):=by
 have l:h.own id≠Y:=by rw[r];simp
 have⟨C,e,lo,hi,hb,hs,A,x,t,hf⟩:=R.own id _ r;have a:∀i,(h.put id (.cells (c.set off v))).own i≠Y->h.own i≠Y:=by grind[aai.By]
 have k:∀i,h.own i≠Y->i≠id->(m i).blk≠(m id).blk:=fun i d g n=>g (R.inj i id d l n);refine⟨by simpa[World.setCell]using R.size,fun b sZ=>?_,R.ext,fun i d=>R.lt i (a i d),fun i d=>R.new i (a i d),fun i o f=>?_,fun i j d p=>R.inj i j (a i d) (a j p),R.os,R.output,R.tape,R.aah.put a (fun b _ hb=>NK _ _ _ _ (fun e=>hb id l e.symm))⟩
 .grind[NK,Rel.qi,Rel.new]
 .by_cases g:i=id
  .subst g;rw[aai.Y3]at f;injection f with f;subst f;refine⟨C.setIfInBounds ((m i).base+off) v',e,lo,hi,?_,hGr,hGr,?_,?_,?_⟩
   .simp only[World.setCell,dU,hb,if_true,ahe];rfl
   .have y:((C.setIfInBounds ((m i).base+off) v').toList.drop (m i).base).take (c.set off v).length=((C.toList.drop (m i).base).take c.length).set off v':=by rw[Array.toList_setIfInBounds,Q9,<-List.set_drop,qL204]
    rw[y];exact x.set off u
   all_goals grind
  .rw[aai.By _ _ _ _ g]at f;have q:h.own i≠Y:=hGr;exact Rel.JP (R.own i o f) (qL0 _) (ZK.refl _ _) (NK _ _ _ _ (k i q g))
def putCells(c:xLV)(off:Nat):xLV->xLV
 |[]=>c
 |v::vs=>putCells (c.set off v) (off+1) vs
def afS:∀(vs:xLV)(c:xLV)(off:Nat),(putCells c off vs).length=c.length
 |[],_,_=>rfl
 |v::vs,c,off=>by simp[putCells,afS vs]
theorem Rel.frozen(R:Rel W0 m h w){id off:Nat}{c:xLV}(d:h.own id=Z (.cells c))(a:off<c.length):
  w.frozen? ⟨(m id).blk,(m id).base+off,Y⟩=fF:=by
 have⟨C,e,lo,hi,hb,hs,f,g,b,hf⟩:=R.own id _ d;simp only[World.frozen?,hb];grind
theorem Rel.jW(P:Program):∀(vs d:xLV)(i:Nat){h:aai}{w:World}(_:Rel W0 m h w){id off:Nat}{c:xLV},
  h.own id=Z (.cells c)->off+i+vs.length<=c.length->AK h.next m vs d->(∀v∈d,v.oneCell'=tT)->
  ∃w',(storeCells ⟨(m id).blk,(m id).base+off,Y⟩ d i).run P w=.ok () w'/\Rel W0 m (h.put id (.cells (putCells c (off+i) vs))) w'
 |[],d,i,h,w,R,id,off,c,l,_,f,_=>by
  have:d=[]:=Bn (by rw[<-f.1];rfl);subst this;refine⟨w,by simp[storeCells],?_⟩;have y:h.own id≠Y:=by rw[l];simp
  have k:∀j o,(h.put id (.cells c)).own j=Z o↔h.own j=Z o:=by grind[aai.Y3,aai.By]
  have p:∀j,(h.put id (.cells c)).own j≠Y->h.own j≠Y:=by intro j e z;cases E:(h.put id (.cells c)).own j<;>grind
  exact⟨R.size,R.qi,R.ext,fun j e=>R.lt j (p j e),fun j e=>R.new j (p j e),fun j o e=>R.own j o ((k j o).1 e),fun a b ha hb=>R.inj a b (p a ha) (p b hb),R.os,R.output,R.tape,R.aah.put p (fun _ _ _=>rfl)⟩
 |v::vs,[],i,h,w,R,id,off,c,l,A,f,s=>by grind[AK]
 |v::vs,v'::d,i,h,w,R,id,off,c,l,A,f,s=>by
  have g:off+i<c.length:=hGr
  have B:VR h.next m v v':=f.2 0 v v' rfl rfl
  have q:AK h.next m vs d:=by simpa using f.drop 1
  have t:=s v' Ma;have C:=R.write1 l g B t;have⟨u,x,_⟩:=R.UL l (qL7 g);have hf:=R.frozen l g;have⟨w',D,R'⟩:=Rel.jW P vs d (i+1) C (off:=off) (aai.Y3 h id (.cells (c.set (off+i) v))) hGr q (fun u x=>s u (by simp[x]));have r:(⟨(m id).blk,(m id).base+off,Y⟩:Addr).add i=⟨(m id).blk,(m id).base+(off+i),Y⟩:=by grind[agQ]
  refine⟨w',?_,?_⟩
  .simp only[storeCells,Sem.run_bind,r];grind[Go.run_store,Go.Result.andThen_ok]
  .have n:((h.put id (.cells (c.set (off+i) v))).put id (.cells (putCells (c.set (off+i) v) (off+(i+1)) vs))).own=(h.put id (.cells (putCells c (off+i) (v::vs)))).own:=by
    funext j;by_cases e:j=id
    .subst e;rw[aai.Y3,aai.Y3];rfl
    grind[aai.By]
   exact⟨R'.size,R'.qi,R'.ext,fun j e=>R'.lt j (by rw[n];exact e),fun j e=>R'.new j (by rw[n];exact e),fun j o e=>R'.own j o (by rw[n];exact e),fun a b ha hb=>R'.inj a b (by rw[n];exact ha) (by rw[n];exact hb),R'.os,R'.output,R'.tape,R'.aah.put (fun j e=>by rw[n];exact e) (fun _ _ _=>rfl)⟩
section
variable{W0:abw}{m:abd}{h:aai}{w:World}
def upd(m:abd)(k:Nat)(l:Loc):abd:=fun i=>if i=k then l else m i
theorem zf(m:abd)(k:Nat)(l:Loc):upd m k l k=l:=by simp[upd]
theorem ko(m:abd)(k i:Nat)(l:Loc)(hi:i≠k):upd m k l i=m i:=by simp[upd,hi]
theorem Qq(m:abd)(k:Nat)(l:Loc):ZK k m (upd m k l):=fun i hi=>by grind[ko]
def amh(w:World)(o:Obj)(i:Nat)(hi:i<w.heap.size):(w.alloc o).heap[i]?=w.heap[i]?:=by show(w.heap.push o)[i]?=_;rw[Array.getElem?_push,abE NH]
theorem Rel.drew(R:Rel W0 m h w):Rel W0 m h w.drew:=⟨R.size,R.qi,R.ext,R.lt,R.new,R.own,R.inj,R.os,R.output,⟨R.tape.1,Nat.le_succ_of_le R.tape.2⟩,R.aah.put (fun _ hi=>hi) (fun _ _ _=>rfl)⟩
theorem Rel.kill(R:Rel W0 m h w)(id:Nat):Rel W0 m (h.kill id) w:=by
 have hs:∀i o,(h.kill id).own i=Z o->h.own i=Z o:=by grind[aai.Dg,aai.xJ]
 have a:∀i,(h.kill id).own i≠Y->h.own i≠Y:=by intro i hi b;cases c:(h.kill id).own i<;>grind
 exact⟨R.size,R.qi,R.ext,fun i hi=>R.lt i (a i hi),(by grind[Rel.new]),fun i o hi=>R.own i o (hs i o hi),(by grind[Rel.inj]),R.os,R.output,R.tape,R.aah.put a hGr⟩
theorem Rel.add{w':World}(R:Rel W0 m h w)(loc:Loc)(o:fK)(n:w.heap.size<=w'.heap.size)(hb:∀b,b≠loc.blk->b<w.heap.size->w'.heap[b]?=w.heap[b]?)(z:W0.heap.size<=loc.blk)(p:∀i,h.own i≠Y->(m i).blk≠loc.blk)(B:ORel h.next m w' loc o)(q:w'.os=w.os)(g:w'.output=w.output)(t:w'.tape=w.tape/\w.drawn<=w'.drawn)(u:∀b x,(b,x)∈W0.rw->loc.blk≠b:=by exact fun b x hb e=>by(have:=R.aah.lt hb;simp at e;omega)):Rel W0 (upd m h.next loc) (h.alloc o) w':=by
 have a:∀i,(h.alloc o).own i≠Y->i=h.next\/(i≠h.next/\h.own i≠Y):=by grind[aai.Ve]
 have f:=Qq m h.next loc
 refine⟨jz R.size n,fun b D=>?_,R.ext,fun i hi=>?_,fun i hi=>?_,fun i v hi=>?_,fun i j hi K F=>?_,q.trans R.os,g.trans R.output,(by grind[Rel.tape]),⟨R.aah.agree.trans f R.aah.next,Nat.le_succ_of_le R.aah.next,R.aah.VM,R.aah.hi,fun b x d=>(hb b hGr (R.aah.lt d)).trans (R.aah.held b x d),fun b x i d hi=>?_⟩⟩
 .grind[Rel.qi]
 .rcases a i hi with e|⟨_,e⟩
  .subst e;exact afC _
  .exact qL206 (R.lt i e)
 .grind[zf,ko,Rel.new]
 .by_cases e:i=h.next
  .subst e;rw[aai.zT]at hi;injection hi with hi;subst hi;rw[zf];exact Rel.JP B (alu _) f rfl
  .rw[aai.Ve _ _ _ e]at hi;rw[ko _ _ _ _ e];have G:h.own i≠Y:=by rw[hi];simp
   have H:(m i).blk<w.heap.size:=by
    have y:=R.own i v hi;cases v with
    |cells c=>have⟨C,_,lo,I,A,_⟩:=y;grind
    |map es=>have⟨E,clock,A,_⟩:=y;grind
    |iter r k s l=>have⟨A,_⟩:=y;grind
   exact Rel.JP (R.own i v hi) (alu _) f hGr
 .grind[zf,ko,Rel.inj]
 .rcases a i hi with e|⟨J,e⟩
  .grind[zf]
  .rw[ko _ _ _ _ J];exact R.aah.apart b x i d e
theorem Rel.Hc(R:Rel W0 m h w){i:Nat}(hi:h.own i≠Y):(m i).blk<w.heap.size:=by
 cases d:h.own i with
 |none=>grind
 |some o=>
  have a:=R.own i o d;cases o with
  |cells c=>have⟨C,_,lo,e,b,_⟩:=a;grind
  |map es=>have⟨E,clock,b,_⟩:=a;grind
  |iter r k s l=>have⟨b,_⟩:=a;grind
theorem Rel.alloc(R:Rel W0 m h w){c:xLV}{C:Array vV}(e:TypeId)(b:AK h.next m c (C.toList.take c.length))(hle:c.length<=C.size)(a:∀v∈C.toList,v.oneCell'=tT):
  Rel W0 (upd m h.next ⟨w.heap.size,0,C.size⟩) (h.alloc (.cells c)) (w.alloc (.cells C e)):=by
 refine R.add ⟨w.heap.size,0,C.size⟩ _ Ma (by grind[Go.heap_alloc_old]) R.size (fun i hi d=>?_) ?_ rfl rfl ⟨rfl,qL0 _⟩
 .grind[Rel.Hc]
 .exact⟨C,e,0,0,heap_alloc_new w _,rfl,hGr,hGr,a,hGr⟩
theorem Rel.allocMap(R:Rel W0 m h w):Rel W0 (upd m h.next ⟨w.heap.size,0,0⟩) (h.alloc (.map [])) (w.alloc (.map #[] 0)):=by
 refine R.add ⟨w.heap.size,0,0⟩ _ Ma (by grind[Go.heap_alloc_old]) R.size (fun i hi a=>?_) ?_ rfl rfl ⟨rfl,qL0 _⟩
 .grind[Rel.Hc]
 .exact⟨#[],0,heap_alloc_new w _,by grind[AK.nil],by grind[AK.nil],rfl,hGr⟩
theorem Rel.alloc_eq(R:Rel W0 m h w){c C:xLV}(e:TypeId)(a:AK h.next m c C)(b:c.all (·.oneCell')=tT):
  Rel W0 (upd m h.next ⟨w.heap.size,0,C.length⟩) (h.alloc (.cells c)) (w.alloc (.cells C.toArray e)):=by
 have:=R.alloc (c:=c) (C:=C.toArray) e (by simpa[a.1,HV]using a) (by simp[a.1]) (by grind[AK.zK]);grind
theorem Rel.apF(R:Rel W0 m h w){w':World}{id:Nat}{c:xLV}(k:h.own id=Z (.cells c)){C':Array vV}{e:TypeId}{lo hi:Nat}{base:Nat}{c2:xLV}(a:w'.heap=w.heap.setIfInBounds (m id).blk (.cells C' e (lo,hi)))(hs:C'.size=(m id).lim)(l:∀v∈C'.toList,v.oneCell'=tT)(hf:∀i,i<C'.size->((lo<=i&&i<hi)=fF/\lo<=hi))(n:base+c2.length<=C'.size)(o:AK h.next m c2 ((C'.toList.drop base).take c2.length))(j:w'.os=w.os)(g:w'.output=w.output)(d:w'.tape=w.tape/\w.drawn<=w'.drawn):
  Rel W0 (upd m h.next ⟨(m id).blk,base,(m id).lim⟩) ((h.kill id).alloc (.cells c2)) w':=by
 have f:h.own id≠Y:=by rw[k];simp
 have p:=R.Hc f;refine(R.kill id).add ⟨(m id).blk,base,(m id).lim⟩ (.cells c2) (by simp[a]) (fun b hb _=>?_) (R.new id f) (fun i q r=>?_) ⟨C',e,lo,hi,?_,hs,n,o,l,hf⟩ j g d (fun b x hb=>R.aah.apart b x id hb f)
 .grind
 all_goals grind[aai.Dg,aai.xJ,Rel.inj]
def acC(C:Array vV)(off:Nat):xLV->Array vV
 |[]=>C
 |v::vs=>acC (C.setIfInBounds off v) (off+1) vs
theorem afB:∀(vs:xLV)(C:Array vV)(off:Nat),(acC C off vs).size=C.size
 |[],_,_=>rfl
 |v::vs,C,off=>by simp[acC,afB vs]
theorem GC:∀(vs:xLV)(C:Array vV)(off:Nat),(acC C off vs).toList=putCells C.toList off vs
 |[],_,_=>rfl
 |v::vs,C,off=>by simp[acC,putCells,GC vs]
theorem IW:∀(vs c:xLV)(off:Nat),off+vs.length<=c.length->putCells c off vs=c.take off++vs++c.drop (off+vs.length)
 |[],c,off,h=>by simp[putCells]
 |v::vs,c,off,h=>by simp at h;rw[putCells,IW vs _ (off+1) (by simp;omega)];grind[take_succ_eq_append_getElem,take_set_of_le,drop_set_of_lt]
theorem HG(P:Program)(g:Nat)(e:TypeId)(lo hi:Nat):∀(vs:xLV)(i off:Nat)(C:Array vV)(w:World),
  w.heap[g]?=Z (.cells C e (lo,hi))->off+i+vs.length<=C.size->(∀v∈vs,v.oneCell'=tT)->(∀i,i<C.size->((lo<=i&&i<hi)=fF/\lo<=hi))->
  ∃w',(storeCells ⟨g,off,Y⟩ vs i).run P w=.ok () w'/\w'.heap=w.heap.setIfInBounds g (.cells (acC C (off+i) vs) e (lo,hi))/\w'.os=w.os/\w'.output=w.output/\(w'.tape=w.tape/\w.drawn<=w'.drawn)
 |[],i,off,C,w,hg,_,_,_=>by
  refine⟨w,by simp[storeCells],?_,rfl,rfl,rfl,qL0 _⟩;apply Array.ext_getElem?;intro j;rw[qL157];split
  .rename_i k;subst k;rw[hg,abe (ah7.1 hg).1];rfl
  .rfl
 |v::vs,i,off,C,w,hg,p,q,hf=>by
  have a:off+i<C.size:=hGr;have d:(w.setCell ⟨g,off+i,Y⟩ v).heap=w.heap.setIfInBounds g (.cells (C.setIfInBounds (off+i) v) e (lo,hi)):=by simp only[World.setCell,dU,qL157];grind
  have⟨w',f,b,l,c,n⟩:=HG P g e lo hi vs (i+1) off (C.setIfInBounds (off+i) v) (w.setCell ⟨g,off+i,Y⟩ v)
   hGr hGr hGr hGr
  refine⟨w',?_,?_,l,c,n⟩
  .have r:w.cell? ⟨g,off+i,Y⟩=Z C[off+i]:=by simp[World.cell?,hg,a]
   have o:w.frozen? ⟨g,off+i,Y⟩=fF:=by simp only[World.frozen?,hg];grind
   simp only[storeCells,Sem.run_bind,agQ];grind[Go.run_store,Go.Result.andThen_ok]
  grind[acC]
def acY(z:xLV):Nat->xLV
 |0=>[]
 |n+1=>z++acY z n
theorem jY(z:xLV):∀n,(acY z n).length=n*z.length
 |0=>by simp[acY]
 |n+1=>by simp[acY,jY z n,Nat.succ_mul,qL242]
theorem X7(z:xLV):∀(n i:Nat),i<n*z.length->(acY z n)[i]?=z[i%z.length]?
 |0,i,h=>by simp at h
 |n+1,i,h=>by
  rw[acY];by_cases hi:i<z.length
  .grind[Nat.mod_eq_of_lt]
  .rw[AE NH,X7 z n (i-z.length) hGr]
   conv=>rhs;rw[show i=(i-z.length)+z.length from by omega,aoD]
theorem MI(z:Array vV)(n k:Nat)(a:k=n*z.size):((Array.range k).map (fun i=>z[i%z.size]!)).toList=acY z.toList n:=by apply mJ;grind[X7,jY]
def HW(v:vV):∀n,acY [v] n=rP n v
 |0=>rfl
 |n+1=>by rw[acY,HW v n];rfl
theorem AK.flat{n:Nat}{m:abd}:∀{l:xLV},l.all Fw.flat=tT->AK n m l l
 |[],_=>.nil _ _
 |v::l,h=>by simp at h;exact .cons (.flat h.1) (AK.flat hGr)
theorem Ew(p:vV->Bool)(z:xLV)(h:z.all p=tT):∀n,(acY z n).all p=tT
 |0=>rfl
 |n+1=>by rw[acY,qL217,h,Ew p z h n];rfl
theorem flat_one{v:vV}(h:flat v=tT):v.oneCell'=tT:=by
 cases v<;>simp_all [flat,vV.oneCell']
theorem apG{l:xLV}(h:l.all flat=tT):l.all (·.oneCell')=tT:=by grind[flat_one]
def aaY(k:IntKind)(n:Int):Int:=
 match k with
 |.i64=>if-9223372036854775808<=n/\n<=9223372036854775807 then n else IntKind.wrap .i64 n
 |.u8=>if 0<=n/\n<=255 then n else IntKind.wrap .u8 n
 |.u64=>if 0<=n/\n<=18446744073709551615 then n else IntKind.wrap .u64 n
 |k=>k.wrap n
def Qt(k:IntKind)(n:Int):aaY k n=k.wrap n:=by
 unfold aaY;split
 .split
  .rename_i a;simp[IntKind.wrap,IntKind.bits,IntKind.signed];omega
  .rfl
 .split
  .rename_i a;simp[IntKind.wrap,IntKind.bits,IntKind.signed];omega
  .rfl
 .split
  .rename_i a;simp[IntKind.wrap,IntKind.bits,IntKind.signed];omega
  .rfl
 .rfl
theorem ie(n:Int)(a:-9223372036854775808<=n)(h2:n<=9223372036854775807):aaY .i64 n=n:=by grind[aaY]
def adY(op:BinOp)(k:IntKind)(a b:Int):Option vV:=
 match op with
 |.add=>Z (.int k (aaY k (a+b)))
 |.sub=>Z (.int k (aaY k (a-b)))
 |.mul=>Z (.int k (aaY k (a*b)))
 |.quo=>if b=0 then Y else Z (.int k (aaY k (a.tdiv b)))
 |.rem=>if b=0 then Y else Z (.int k (a.tmod b))
 |.and=>Z (.int k (k.wrap (BitVec.ofInt k.bits a &&& BitVec.ofInt k.bits b).toNat))
 |.or=>Z (.int k (k.wrap (BitVec.ofInt k.bits a ||| BitVec.ofInt k.bits b).toNat))
 |.xor=>Z (.int k (k.wrap (BitVec.ofInt k.bits a ^^^ BitVec.ofInt k.bits b).toNat))
 |.andNot=>Z (.int k (k.wrap (BitVec.ofInt k.bits a &&& ~~~BitVec.ofInt k.bits b).toNat))
 |.eql=>Z (.bool (a==b))
 |.neq=>Z (.bool (a !=b))
 |.lss=>Z (.bool (a<b))
 |.leq=>Z (.bool (a<=b))
 |.gtr=>Z (.bool (b<a))
 |.geq=>Z (.bool (b<=a))
 |_=>Y
def acV(op:BinOp)(k:IntKind)(a b:Int):Option vV:=
 if b<0 then Y else
 match op with
 |.shl=>Z (.int k (aaY k (a*2^min b.toNat k.bits)))
 |.shr=>Z (.int k (a.fdiv (2^min b.toNat k.bits)))
 |_=>Y
def aa9:xLV->Option (List (IntKind×Int))
 |[]=>Z []
 |.int k n::r=>match aa9 r with|some l=>Z ((k,n)::l)|none=>Y
 |_=>Y
def aEq(P:Program)(t:TypeId)(x y:vV):Option Bool:=
 match P.underlying t,x,y with
 |some .bool,.bool a,.bool b=>Z (a==b)
 |some (.slice _),.slice a _ _,.slice Y _ _=>Z a.isNone
 |some (.pointer _),.pointer a,.pointer Y=>Z a.isNone
 |some (.map _ _),.map a,.map Y=>Z a.isNone
 |some (.func _ _ _),.nilFunc,.nilFunc=>Z tT
 |some (.func _ _ _),.func _ _ _,.nilFunc=>Z fF
 |some (.array len e),.agg xs,.agg ys=>
  match P.underlying e,aa9 xs.toList,aa9 ys.toList with
  |some (.int _),Z a,Z b=>if UA P e=1/\xs.size=len/\ys.size=len/\a.map (·.1)=b.map (·.1)then Z (a==b)else Y
  |_,_,_=>Y
 |_,_,_=>Y
def ae3(P:Program)(op:BinOp)(t:TypeId)(x y:vV):Option vV:=
 match op,x,y with
 |.shl,.int k a,.int _ b=>acV .shl k a b
 |.shr,.int k a,.int _ b=>acV .shr k a b
 |op,.int k a,.int c b=>if k=c then adY op k a b else Y
 |.eql,x,y=>match aEq P t x y with|some b=>Z (.bool b)|none=>Y
 |.neq,x,y=>match aEq P t x y with|some b=>Z (.bool (!b))|none=>Y
 |_,_,_=>Y
def nj(P:Program)(op:BinOp)(k:IntKind)(a:Int)(c:IntKind)(b:Int){v:vV}(e:acV op k a b=Z v)(w:World):
  (Op.shift op k a c b).run P w=.ok v w:=by
 unfold acV at e;split at e
 .cases e
 .rename_i hb;cases op<;>simp at e<;>subst e<;>simp[Op.shift,hb,Qt]
theorem aShl_run(P:Program)(k:IntKind)(a:Int)(c:IntKind)(b:Int)(t:TypeId){v:vV}(e:acV .shl k a b=Z v)(w:World):
  (binOp .shl t (.int k a) (.int c b)).run P w=.ok v w:=nj P .shl k a c b e w
theorem aShr_run(P:Program)(k:IntKind)(a:Int)(c:IntKind)(b:Int)(t:TypeId){v:vV}(e:acV .shr k a b=Z v)(w:World):
  (binOp .shr t (.int k a) (.int c b)).run P w=.ok v w:=nj P .shr k a c b e w
def aInt_run(P:Program)(op:BinOp)(k:IntKind)(a b:Int)(t:TypeId){v:vV}(e:adY op k a b=Z v)(w:World):
    (binOp op t (.int k a) (.int k b)).run P w=.ok v w:=by
  cases op<;>simp only[adY]at e
  all_goals first
    |cases e;done
    |(injection e with e;subst e;simp[binOp,Op.intArith,Op.intBits,Op.intCmp,Qt])
    | (split at e
       .cases e
       .rename_i hb;injection e with e;subst e;simp[binOp,Op.intDiv,hb,Qt])
theorem af0:∀(l:xLV)(a:List (IntKind×Int)),aa9 l=Z a->l=a.map (fun p=>vV.int p.1 p.2)
 |[],a,h=>by grind[aa9]
 |v::l,a,h=>by
  cases v<;>simp only[aa9]at h<;>try cases h
  rename_i k n;split at h
  .rename_i r b;injection h with h;subst h;simp[af0 l r b]
  .cases h
theorem C3(P:Program)(d:Nat)(t e:TypeId)(len:Nat)(x:IntKind)(y:P.underlying t=Z (.array len e))(f:P.underlying e=Z (.int x))(hs:UA P e=1)(a b:List (IntKind×Int))(ha:a.length=len)(hb:b.length=len)(z:a.map (·.1)=b.map (·.1))(w:World):
  (Op.equalIn (d+2) t (.agg (a.map (fun p=>vV.int p.1 p.2)).toArray) (.agg (b.map (fun p=>vV.int p.1 p.2)).toArray)).run P w=.ok (a==b) w:=by
 unfold Op.equalIn;simp only[Sem.run_bind,run_underlying y,Result.andThen_ok,IT f,hs,qL164,Std.Legacy.Range.size]
 have key:∀(n s:Nat),s+n=len->(forIn (m:=Sem) (List.range' s n) ((Y:Option Bool),PUnit.unit) fun i __s=>do
   let __do_lift <-part e (a.map (fun p=>vV.int p.1 p.2)).toArray (i*1);let __do_lift_1 <-part e (b.map (fun p=>vV.int p.1 p.2)).toArray (i*1);let __do_lift <-Op.equalIn (d+1) e __do_lift __do_lift_1
   if(!__do_lift)=tT then pure (ForInStep.done (Z fF,PUnit.unit))else pure (ForInStep.yield (Y,PUnit.unit))).run P w
   =.ok (if a.drop s==b.drop s then(Y,PUnit.unit)else(Z fF,PUnit.unit)) w:=by
  intro n
  induction n with
  |zero=>intro s g;have A:a.drop s=[]:=ahH NH;have h2:b.drop s=[]:=ahH NH;simp[A,h2]
  |succ n D=>
   intro s g;have u:s<a.length:=NH;have v:s<b.length:=NH;have j:a[s].1=b[s].1:=by have:=congrArg (fun l=>l[s]?) z;grind
   have k:∀w,(part e (a.map (fun p=>vV.int p.1 p.2)).toArray s).run P w=.ok (.int a[s].1 a[s].2) w:=by intro w;simp[part,Rk f,ab8,u]
   have o:∀w,(part e (b.map (fun p=>vV.int p.1 p.2)).toArray s).run P w=.ok (.int b[s].1 b[s].2) w:=by intro w;simp[part,Rk f,ab8,v]
   have heq:∀w,(Op.equalIn (d+1) e (.int a[s].1 a[s].2) (.int b[s].1 b[s].2)).run P w=.ok (a[s].2==b[s].2) w:=by grind[Go.run_equalIn_int]
   have B:a.drop s=a[s]::a.drop (s+1):=(AQ u);have C:b.drop s=b[s]::b.drop (s+1):=(AQ v);have q:(a[s]==b[s])=(a[s].2==b[s].2):=hGr;simp only[qL211,List.forIn_cons,Sem.run_bind,anN,k,o,heq,Result.andThen_ok];cases E:a[s].2==b[s].2 with
   |false=>have r:(a.drop s==b.drop s)=fF:=hGr;simp[r]
   |true=>grind[Go.Sem.run_pure,Go.Result.andThen_ok]
 have c:=key len 0 NH;simp only[agm]at c;rw[show((len-0+1-1) / 1)=len from by omega];rw[c];cases a==b<;>simp
theorem acN(P:Program)(t e:TypeId)(len:Nat)(a:IntKind)(b:P.underlying t=Z (.array len e))(c:P.underlying e=Z (.int a)):P.eqGuardType P.depth t=fF:=by have:∃d,P.depth=d+2:=⟨_,rfl⟩;have⟨d,hd⟩:=this;rw[hd];simp[Program.eqGuardType,b,c]
def B7(t:TypeId)(x y:vV):Op.equal t x y=Op.equalIn (9998+1+1) t x y:=rfl
theorem jN(P:Program)(t:TypeId)(x y:vV){r:Bool}(e:aEq P t x y=Z r)(w:World):(Op.equal t x y).run P w=.ok r w:=by
 unfold aEq at e
 split at e<;>(try cases e)
 .grind[Go.run_equal_bool]
 .rename_i a _ _ _ _ c;rw[B7];unfold Op.equalIn;cases a<;>simp only[Sem.run_bind,run_underlying c,Result.andThen_ok,Sem.run_pure]<;>rfl
 .rename_i a c;rw[B7];unfold Op.equalIn;cases a<;>simp only[Sem.run_bind,run_underlying c,Result.andThen_ok,Sem.run_pure]<;>rfl
 .rename_i a c;rw[B7];unfold Op.equalIn;cases a<;>simp only[Sem.run_bind,run_underlying c,Result.andThen_ok,Sem.run_pure]<;>rfl
 .rename_i c;rw[B7];unfold Op.equalIn;simp only[Sem.run_bind,run_underlying c,Result.andThen_ok,Sem.run_pure]
 .rename_i c;rw[B7];unfold Op.equalIn;simp only[Sem.run_bind,run_underlying c,Result.andThen_ok,Sem.run_pure]
 .rename_i len el xs ys c;split at e
  .rename_i k a b g ha hb;split at e
   .rename_i i;have⟨j,h2,h3,l⟩:=i;injection e with e;subst e;have d:=af0 _ _ ha;have f:=af0 _ _ hb;have ex:xs=(a.map (fun p=>vV.int p.1 p.2)).toArray:=by rw[<-d]
    have n:ys=(b.map (fun p=>vV.int p.1 p.2)).toArray:=by rw[<-f]
    subst ex;subst n;exact C3 P 9998 t el len k c g j a b hGr hGr l w
   .cases e
  .cases e
theorem Et{n:Nat}{m:abd}{P:Program}{t:TypeId}{x y x' q:vV}{r:Bool}(c:VR n m x x')(d:VR n m y q)(e:aEq P t x y=Z r):aEq P t x' q=Z r:=by
 have hints:∀{n:Nat}{m:abd}(l l':xLV),AK n m l l'->∀a,aa9 l=Z a->aa9 l'=Z a:=by
  intro n m l
  induction l with
  |nil=>intro l' h a ha;have:l'=[]:=Bn (by rw[<-h.1];rfl);grind
  |cons v l A=>
   intro l' h a ha;cases l' with
   |nil=>grind[AK]
   |cons v' l'=>
    have s:VR n m v v':=h.2 0 v v' rfl rfl;have B:AK n m l l':=by simpa using h.drop 1
    cases v<;>simp only[aa9]at ha<;>try cases ha
    split at ha
    .rename_i r C;cases s;grind[aa9]
    .cases ha
 unfold aEq at e;split at e
 .cases c;cases d;rename_i D h2 h3;simp_all [aEq]
 .rename_i f;cases d with|flat hf=>cases c<;>simp_all [aEq]
 .rename_i f;cases d with|flat hf=>cases c<;>simp_all [aEq]
 .rename_i f;cases d with|flat hf=>cases c<;>simp_all [aEq]
 .rename_i f;cases c;cases d;simp_all [aEq]
 .rename_i f;cases d;cases c<;>simp_all [aEq]
 .rename_i len el xs ys f;split at e
  .rename_i k a b u ha hb;split at e
   .rename_i z;cases c with
    |flat hf=>grind[flat]
    |agg g c=>
     cases d with
     |flat hf=>grind[flat]
     |agg j d=>rename_i o p;have mi:=hints xs.toList o.toList ⟨hGr,fun i v v' e e'=>c i v v' (by simpa using e) hGr⟩ a ha;have sZ:=hints ys.toList p.toList ⟨hGr,fun i v v' e e'=>d i v v' (by simpa using e) hGr⟩ b hb;simp only[aEq,f,u,mi,sZ,<-g,<-j,z,and_self,if_true];exact e
   .cases e
  .cases e
 .cases e
theorem agn(P:Program)(op:BinOp)(t:TypeId)(x y:Operand)(a b:vV)(w:World)(c:¬(a=.nilIface/\b=.nilIface))(d:∀xs ys,a=.agg xs->b=.agg ys->P.eqGuardType P.depth t=fF):
  (eqGuard op t x y a b).run P w=.ok () w:=by
 by_cases e:(!(op matches .eql|.neq))=tT
 .cases op<;>first|(simp[eqGuard];done)|grind
 .cases a with
  |nilIface=>cases b<;>first|(exact absurd ⟨rfl,rfl⟩ c)|(cases op<;>simp[eqGuard])
  |agg xs=>
   cases b with
   |agg ys=>grind[Go.run_eqGuard_agg]
   |_=>cases op<;>simp[eqGuard]
  |_=>cases op<;>simp[eqGuard]
def aci:vV->Bool
 |.nilIface=>fF
 |_=>tT
def mM(P:Program)(op:BinOp)(t:TypeId)(x y:vV):Option vV:=bif aci x then ae3 P op t x y else Y
theorem abin_rel{n:Nat}{m:abd}{P:Program}{op:BinOp}{t:TypeId}{x y x' c v:vV}(d:VR n m x x')(f:VR n m y c)(e:ae3 P op t x y=Z v):
    flat v=tT/\(∀w,(binOp op t x' c).run P w=.ok v w):=by
  unfold ae3 at e;split at e
  · cases d;cases f
    refine⟨?_,fun w=>?_⟩;rotate_left
    .grind[aShl_run]
    unfold acV at e;split at e
    .cases e
    .simp at e;subst e;rfl
  · cases d;cases f
    refine⟨?_,fun w=>?_⟩;rotate_left
    .grind[aShr_run]
    unfold acV at e;split at e
    .cases e
    .simp at e;subst e;rfl
  · split at e
    · rename_i k a j b _ _ i
      subst i;cases d;cases f;refine⟨?_,fun w=>aInt_run P _ _ _ _ t e w⟩;cases op<;>simp only[adY]at e
      all_goals first
        |cases e;done
        |(injection e with e;subst e;rfl)
        | (split at e
           .cases e
           .injection e with e;subst e;rfl)
    .cases e
  · split at e
    · rename_i b hb
      injection e with e;subst e;refine⟨rfl,fun w=>?_⟩;have g:=jN P t x' c (Et d f hb) w;have h2:=Et d f hb
      have:binOp .eql t x' c=(do pure (.bool (<-Op.equal t x' c))):=by
        unfold aEq at h2
        split at h2<;>first|rfl|cases h2
      rw[this];simp[g]
    .cases e
  · split at e
    · rename_i b hb
      injection e with e;subst e;refine⟨rfl,fun w=>?_⟩;have g:=jN P t x' c (Et d f hb) w;have h2:=Et d f hb
      have:binOp .neq t x' c=(do pure (.bool (!(<-Op.equal t x' c)))):=by
        unfold aEq at h2
        split at h2<;>first|rfl|cases h2
      rw[this];simp[g]
    .cases e
  .cases e
def VR.Ja{n:Nat}{m:abd}{k:IntKind}{i:Int}{v':vV}(h:VR n m (.int k i) v'):v'=.int k i:=by cases h;rfl
def VR.YE{n:Nat}{m:abd}{b:Bool}{v':vV}(h:VR n m (.bool b) v'):v'=.bool b:=by cases h;rfl
theorem VR.agg_inv{n:Nat}{m:abd}{a:Array vV}{v':vV}(h:VR n m (.agg a) v'):∃a',v'=.agg a'/\AK n m a.toList a'.toList:=by
 cases h with
 |flat h=>simp[Fw.flat]at h
 |agg hs h=>exact⟨_,rfl,hGr,fun i v v' e e'=>h i v v' (by simpa using e) hGr⟩
theorem VR.Vh{n:Nat}{m:abd}{a:Array vV}{v':vV}(h:VR n m (.tuple a) v'):∃a',v'=.tuple a'/\AK n m a.toList a'.toList:=by
 cases h with
 |flat h=>simp[Fw.flat]at h
 |tuple hs h=>exact⟨_,rfl,hGr,fun i v v' e e'=>h i v v' (by simpa using e) hGr⟩
def VR.YC{n:Nat}{m:abd}{a:Option Addr}{len cap:Nat}{v':vV}(h:VR n m (.slice a len cap) v'):∃a' cap',v'=.slice a' len cap'/\a'.isSome=a.isSome:=by
 cases h<;>exact⟨_,_,rfl,Ma⟩
def aUn(op:UnOp)(x:vV):Option vV:=
 match op,x with
 |.neg,.int k n=>Z (.int k (aaY k (0-n)))
 |.not,.bool b=>Z (.bool (!b))
 |_,_=>Y
def aUn_rel{n:Nat}{m:abd}{op:UnOp}{x x' v:vV}(P:Program)(a:VR n m x x')(e:aUn op x=Z v):flat v=tT/\∀w,(Op.unary op x').run P w=.ok v w:=by
 unfold aUn at e;split at e
 .cases a;injection e with e;subst e;exact⟨rfl,fun w=>by simp[Op.unary,Op.intArith,Qt]⟩
 .cases a;injection e with e;subst e;exact⟨rfl,fun w=>by simp[Op.unary]⟩
 .cases e
def abL(x:vV)(y:Nat):Option Nat:=
 match x with
 |.int _ i=>if 0<=i/\i<=(y:Int)then Z i.toNat else Y
 |_=>Y
def Kh{n:Nat}{m:abd}{x x':vV}{y a r:Nat}(P:Program)(d:VR n m x x')(e:abL x y=Z r)(f:y<=a)(c:BoundsCode)(w:World):
  (Instr.sliceBound x' a c).run P w=.ok r w/\r<=y:=by
 unfold abL at e;split at e
 .cases d;split at e
  .rename_i i _ hi;injection e with e;subst e;have b:0<=i/\i<=(a:Int):=NH;exact⟨by simp[Instr.sliceBound,asIntOf,b],NH⟩
  .cases e
 .cases e
def abm(len cap:Nat)(lo hi a:Option vV):Option (Nat×Nat×Nat):=
  match(match a with|some v=>abL v cap|none=>Z cap)with
  |none=>Y
  |some m=>match(match hi with|some v=>abL v m|none=>match a with|none=>Z len|some _=>Y)with
    |none=>Y
    |some h=>match(match lo with|some v=>abL v h|none=>Z 0)with
      |none=>Y
      |some l=>Z (l,h,m)
inductive VRo (n:Nat) (m:abd):Option vV->Option vV->Prop
 |none:VRo n m Y Y
 |some {v v':vV} (h:VR n m v v'):VRo n m (Z v) (Z v')
def Tx{n:Nat}{m:abd}{len cap cap':Nat}{lo hi s g i j:Option vV}{l h k:Nat}(P:Program)(b:Bool)(a:VRo n m lo g)(o:VRo n m hi i)(t:VRo n m s j)(x:cap<=cap')(B:len<=cap)(e:abm len cap lo hi s=Z (l,h,k))(w:World):
  (Instr.sliceBounds b len cap' g i j).run P w=.ok (l,h,if s.isSome then k else cap') w/\l<=h/\h<=k/\k<=cap/\(s=Y->k=cap):=by
 unfold abm at e;cases t with
 |none=>
  simp only[]at e;cases o with
  |none=>
   simp only[]at e;cases a with
   |none=>simp only[ag4,jf]at e;obtain⟨rfl,rfl,rfl⟩:=e;exact⟨by simp[Instr.sliceBounds],NH,NH,NH,fun _=>rfl⟩
   |some p=>
    simp only[]at e;split at e
    .cases e
    .rename_i r q;simp only[ag4,jf]at e;obtain⟨rfl,rfl,rfl⟩:=e;have⟨c,h2⟩:=Kh P p q (qL0 _) .sliceB w;exact⟨by simp[Instr.sliceBounds,c],h2,NH,NH,fun _=>rfl⟩
  |some p=>
   simp only[]at e;split at e
   .cases e
   .rename_i r q
    have⟨c,h2⟩:=Kh P p q x (if b then .sliceAcap else .sliceAlen) w
    cases a with
    |none=>simp only[ag4,jf]at e;obtain⟨rfl,rfl,rfl⟩:=e;exact⟨by simp[Instr.sliceBounds,c],NH,NH,NH,fun _=>rfl⟩
    |some d=>
     simp only[]at e;split at e
     .cases e
     .rename_i y f;simp only[ag4,jf]at e;obtain⟨rfl,rfl,rfl⟩:=e;have⟨h3,z⟩:=Kh P d f (qL0 _) .sliceB w;exact⟨by simp[Instr.sliceBounds,c,h3],NH,NH,NH,fun _=>rfl⟩
 |some u=>
  simp only[]at e;split at e
  .cases e
  .rename_i r q
   have⟨c,h2⟩:=Kh P u q x (if b then .slice3Acap else .slice3Alen) w
   cases o with
   |none=>simp at e
   |some p=>
    simp only[]at e;split at e
    .cases e
    .rename_i r2 v;have⟨h3,z⟩:=Kh P p v (qL0 _) .slice3B w;cases a with
     |none=>simp only[ag4,jf]at e;obtain⟨rfl,rfl,rfl⟩:=e;exact⟨by simp[Instr.sliceBounds,c,h3],NH,NH,NH,fun h=>by cases h⟩
     |some d=>
      simp only[]at e;split at e
      .cases e
      .rename_i y f;simp only[ag4,jf]at e;obtain⟨rfl,rfl,rfl⟩:=e;have⟨A,C⟩:=Kh P d f (qL0 _) .slice3C w;exact⟨by simp[Instr.sliceBounds,c,h3,A],NH,NH,NH,fun h=>by cases h⟩
def abf(P:Program)(t:TypeId)(x:vV)(lo hi b:Option vV):Option vV:=
  match P.underlying t,x with
  |some (.slice e),.slice a len cap=>
    if UNK<=cap then
      match a with
      |none=>Y
      |some a=>
        if cap=UNK+UA P e/\(P.underlying e).isSome then
          match abm len len lo hi b with
          |some (l,h,m)=>if b.isSome then(if m=0 then Z (sL (Z a) 0 0)else if m<UNK then Z (sL (Z (if m=l then a else Ip a (l*UA P e))) (h-l) (m-l))else Y)
            else Z (sL (Z (Ip a (l*UA P e))) (h-l) cap)
          |none=>Y
        else Y
    else if len<=cap/\(P.underlying e).isSome then
      match abm len cap lo hi b with
      |some (l,h,m)=>Z (.slice (if m=l then a else a.map (fun a=>Ip a (l*UA P e))) (h-l) (m-l))
      |none=>Y
    else Y
  |_,_=>Y
theorem AR.slice{n:Nat}{m:abd}{a a':Addr}{len cap:Nat}(h:AR n m a a')(b:cap<UNK):VR n m (sL (Z a) len cap) (sL (Z a') len cap):=by
 cases h with
 |own h=>exact .slice h b
 |ext=>exact .esl b
theorem AR.addIf{n:Nat}{m:abd}{a a':Addr}(h:AR n m a a')(p:Prop)[Decidable p](k:Nat):AR n m (if p then a else Ip a k) (if p then a' else a'.add k):=by grind[AR.add]
theorem jw{n:Nat}{m:abd}{P:Program}{t:TypeId}{x x' v:vV}{lo hi G p q r:Option vV}(N:VR n m x x')(z:VRo n m lo p)(A:VRo n m hi q)(s:VRo n m G r)(e:abf P t x lo hi G=Z v)(w:World):∃v',(Instr.sliceAt t x' p q r).run P w=.ok v' w/\VR n m v v':=by
 unfold abf at e;split at e
 .rename_i el a len cap F;split at e
  .rename_i B;split at e
   .cases e
   .rename_i a;split at e
    .rename_i i;obtain⟨i,u⟩:=i;obtain⟨d,hd⟩:=abV.1 u;split at e
     .rename_i l hh mm hb;cases N with
      |flat hf=>grind[flat]
      |slice f C=>omega
      |esl C=>omega
      |empty=>grind[UNK]
      |buf f O ha=>
       rename_i id off k cap' a';have R:k=UA P el:=NH;subst R;obtain⟨c,y,h2,h3,S⟩:=Tx P tT z A s O (qL0 _) hb w;have j:=IT (P:=P) hd w;split at e
       .rename_i o;rw[abe o]at c;split at e
        .rename_i D;injection e with e;subst e;subst D;have H:l=0:=NH;have I:hh=0:=NH;subst H;subst I;refine⟨sL (Z a') 0 0,?_,.empty⟩;simp[Instr.sliceAt,Instr.slice,run_underlying F,c,j]
        .rename_i D;split at e
         case isFalse=>cases e
         rename_i T;injection e with e;subst e;have J:cap'≠0:=NH;obtain⟨rfl,E⟩:=ha.resolve_right J;refine⟨_,by simp only[Instr.sliceAt,Instr.slice,run_underlying F,c,j,Sem.run_bind,Result.andThen_ok,Sem.run_pure];rfl,?_⟩;have U:mm-l<UNK:=NH;have:=(AR.own (m:=m) (off:=off) f).addIf (mm=l) (l*UA P el);grind[AR.slice]
       .rename_i o;rw[abE o]at c;injection e with e;subst e;refine⟨_,by simp only[Instr.sliceAt,Instr.slice,run_underlying F,c,j,Sem.run_bind,Result.andThen_ok,Sem.run_pure];rfl,?_⟩;rw[i];split
        .rename_i K;exact .buf f NH (.inr NH)
        .rename_i K;refine .buf f NH ?_;rcases ha with⟨rfl,E⟩|h0
         .refine .inl ⟨by grind[agQ],?_⟩;have:l*UA P el+(cap'-l)*UA P el=cap'*UA P el:=by rw[<-af2];grind
          grind
         grind
     .cases e
    .cases e
  .rename_i B;split at e
   .rename_i C;obtain⟨L,u⟩:=C;obtain⟨d,hd⟩:=abV.1 u;have j:=IT (P:=P) hd w;split at e
    .rename_i l hh mm hb;injection e with e;subst e;have V:cap<UNK:=NH
     have g:∀a',(∃c',x'=.slice a' len c'/\c'=cap)->(∃w',w'=w)->(Instr.sliceAt t x' p q r).run P w=.ok (.slice (if mm=l then a' else a'.map (·.add (l*UA P el))) (hh-l) (mm-l)) w/\l<=hh/\hh<=mm/\mm<=cap:=by
      rintro a' ⟨c',rfl,rfl⟩ _;obtain⟨c,y,h2,h3,S⟩:=Tx P tT z A s (qL0 _) L hb w;refine⟨?_,y,h2,h3⟩
      have W:(if G.isSome then mm else c')=mm:=by
       cases s<;>grind
      rw[W]at c;simp[Instr.sliceAt,Instr.slice,run_underlying F,c,j]
     cases N with
     |flat hf=>
      cases a with
      |some a=>grind[flat]
      |none=>obtain⟨c,y,h2,h3⟩:=g Y ⟨_,rfl,rfl⟩ ⟨w,rfl⟩;refine⟨_,c,?_⟩;simp[Fw.flat]at hf;have M:hh-l=0:=NH;have Q:mm-l=0:=NH;simp only[Option.map_none,ite_self,M,Q];exact .flat rfl
     |slice f C=>rename_i id off;obtain⟨c,y,h2,h3⟩:=g _ ⟨_,rfl,rfl⟩ ⟨w,rfl⟩;refine⟨_,c,?_⟩;have:=((AR.own (m:=m) (off:=off) f).addIf (mm=l) (l*UA P el)).slice (len:=hh-l) (cap:=mm-l) NH;grind
     |buf f O ha=>omega
     |esl C=>rename_i b off;obtain⟨c,y,h2,h3⟩:=g _ ⟨_,rfl,rfl⟩ ⟨w,rfl⟩;refine⟨_,c,?_⟩;have:=((AR.ext (n:=n) (m:=m) (b:=b) (off:=off)).addIf (mm=l) (l*UA P el)).slice (len:=hh-l) (cap:=mm-l) NH;grind
     |empty=>obtain⟨c,y,h2,h3⟩:=g _ ⟨_,rfl,rfl⟩ ⟨w,rfl⟩;refine⟨_,c,?_⟩;have X:mm=l:=NH;have M:hh-l=0:=NH;have Q:mm-l=0:=NH;simp only[X,if_true,M,aj3];exact .empty
    .cases e
   .cases e
 .cases e
def aao(P:Program)(t:TypeId)(x b:vV):Option vV:=
 match P.underlying t,x,b with
 |some (.slice e),sL (Z a) len _,.int _ i=>if 0<=i/\i<(len:Int)/\(P.underlying e).isSome then Z (pT (Z (Ip a (i.toNat*UA P e))))else Y
 |some (.array n e),pT (Z a),.int _ i=>if 0<=i/\i<(n:Int)/\(P.underlying e).isSome then Z (pT (Z (Ip a (i.toNat*UA P e))))else Y
 |_,_,_=>Y
theorem Bb{n:Nat}{m:abd}{P:Program}{t:TypeId}{x x' u l v:vV}(y:VR n m x x')(hi:VR n m u l)(e:aao P t x u=Z v)(w:World):
  ∃v',(Instr.indexAt t x' l).run P w=.ok v' w/\VR n m v v':=by
 unfold aao at e;split at e
 .rename_i el a len cap k i p;split at e
  .rename_i o;have⟨q,r,c⟩:=o;have⟨d,hd⟩:=abV.1 c;injection e with e;subst e;have:=hi.Ja;subst this;have f:=IT (P:=P) hd w;have g:0<=i/\i<(len:Int):=⟨q,r⟩;have b:∀a' c',(Instr.indexAt t (sL (Z a') len c') (.int k i)).run P w=.ok (pT (Z (a'.add (i.toNat*UA P el)))) w:=by
    intro a' c';simp[Instr.indexAt,asIntOf,run_underlying p,g,f]
   cases y with
   |flat hf=>grind[flat]
   |slice j o=>exact⟨_,b _ _,((AR.own j).add _).ptr⟩
   |buf j z ha=>obtain⟨rfl,_⟩:=ha.resolve_right NH;exact⟨_,b _ _,((AR.own j).add _).ptr⟩
   |esl o=>exact⟨_,b _ _,(AR.ext.add _).ptr⟩
   |empty=>grind
  .cases e
 .rename_i OT el a k i p;split at e
  .rename_i o;have⟨q,r,c⟩:=o;have⟨d,hd⟩:=abV.1 c;injection e with e;subst e;have:=hi.Ja;subst this;have f:=IT (P:=P) hd w;obtain⟨a',rfl,s⟩:=y.akS;have g:0<=i/\i<(OT:Int):=⟨q,r⟩;exact⟨pT (Z (a'.add (i.toNat*UA P el))),by simp[Instr.indexAt,asIntOf,run_underlying p,g,f,Instr.sureAddr],(s.add _).ptr⟩
  .cases e
 .cases e
def aca(P:Program)(s:TypeId)(x:vV)(f:Nat):Option vV:=
 match P.underlying s,x with
 |some (.struct b),pT (Z a)=>
  match b[f]? with
  |some fd=>if UA P fd.type≠0 then Z (pT (Z (Ip a fd.offset)))else Y
  |none=>Y
 |_,_=>Y
theorem Gy{P:Program}{t:TypeId}(h:UA P t≠0)(w:World):(sizeOf t).run P w=.ok (UA P t) w:=by
 unfold UA Program.cellsOf at*;cases hi:P.info? t with
 |none=>grind
 |some i=>simp[sizeOf,typeInfo,hi]
def afO{n:Nat}{m:abd}{P:Program}{s:TypeId}{x x' v:vV}{f:Nat}(d:VR n m x x')(e:aca P s x f=Z v)(w:World):
  ∃v',(Instr.fieldAt s x' f).run P w=.ok v' w/\VR n m v v':=by
 unfold aca at e;split at e
 .rename_i i a g;split at e
  .rename_i fd hf;split at e
   .rename_i c;injection e with e;subst e;obtain⟨a',rfl,b⟩:=d.akS;exact⟨pT (Z (a'.add fd.offset)),by simp[Instr.fieldAt,run_underlying g,hf,Instr.sureAddr,fieldPlace,Gy c,c],(b.add _).ptr⟩
   .cases e
  .cases e
 .cases e
def aPart(P:Program)(t:TypeId)(cs:Array vV)(off:Nat):Option vV:=
 match P.underlying t with
 |some d=>bif ab8 d then Z (.agg (cs.extract off (off+UA P t)))else cs[off]?
 |none=>Y
theorem apH{n:Nat}{m:abd}{P:Program}{t:TypeId}{cs a:Array vV}{off:Nat}{v:vV}(c:AK n m cs.toList a.toList)(e:aPart P t cs off=Z v)(w:World):
  ∃v',(part t a off).run P w=.ok v' w/\VR n m v v':=by
 unfold aPart at e;split at e
 .rename_i d b;cases hd:ab8 d with
  |true=>simp only[hd,cond_true]at e;injection e with e;subst e;refine⟨.agg (a.extract off (off+UA P t)),by simp[part,Rk b,hd,IT b],.uk ?_⟩;grind[Array.toList_extract,AK.drop,AK.take]
  |false=>simp only[hd,cond_false]at e;have⟨v',f,h2⟩:=c.get (i:=off) (v:=v) (by simpa using e);exact⟨v',by simp[part,Rk b,hd,show a[off]?=Z v' from by grind],h2⟩
 .cases e
def afh(P:Program)(t:TypeId)(x a:vV):Option vV:=
 match P.underlying t,x,a with
 |some (.array n e),.agg cs,.int _ i=>if 0<=i/\i<(n:Int)/\(P.underlying e).isSome then aPart P e cs (i.toNat*UA P e)else Y
 |_,_,_=>Y
def anU{n:Nat}{m:abd}{P:Program}{t:TypeId}{x x' j a v:vV}(l:VR n m x x')(hi:VR n m j a)(e:afh P t x j=Z v)(w:World):
  ∃v',(Instr.index t x' a).run P w=.ok v' w/\VR n m v v':=by
 unfold afh at e;split at e
 .rename_i OT el cs k i o;split at e
  .rename_i p;have⟨q,r,b⟩:=p;have⟨d,hd⟩:=abV.1 b;have:=hi.Ja;subst this;obtain⟨s,rfl,c⟩:=l.agg_inv;have⟨v',f,h2⟩:=apH c e w;have g:0<=i/\i<(OT:Int):=⟨q,r⟩;exact⟨v',by simp[Instr.index,asIntOf,run_underlying o,g,IT hd,f],h2⟩
  .cases e
 .cases e
def acW(x:vV)(i:Nat):Option vV:=match x with|.tuple vs=>vs[i]?|_=>Y
theorem VI{n:Nat}{m:abd}{P:Program}{x x' v:vV}{i:Nat}(c:VR n m x x')(e:acW x i=Z v)(w:World):
  ∃v',(Instr.extract x' i).run P w=.ok v' w/\VR n m v v':=by
 unfold acW at e;split at e
 .obtain⟨a,rfl,b⟩:=c.Vh;have⟨v',d,h2⟩:=b.get (i:=i) (v:=v) (by simpa using e);exact⟨v',by simp[Instr.extract,show a[i]?=Z v' from by grind],h2⟩
 .cases e
def afZ(place:Nat->Option (Nat×Nat))(cells:xLV):List (Nat×vV)->Option xLV
 |[]=>Z cells
 |(i,v)::rest=>
  match place i with
  |none=>Y
  |some (off,size)=>if v.cells.size=size/\off+size<=cells.length then afZ place (putCells cells off v.cells.toList) rest else Y
theorem apI(vs:xLV):∀(C:Array vV)(off s:Nat),((vs.zipIdx s).foldl (fun cs (c,j)=>cs.setIfInBounds (off+j) c) C).toList=putCells C.toList (off+s) vs:=by
 induction vs with
 |nil=>intro C off s;rfl
 |cons v vs a=>intro C off s;simp only[List.zipIdx_cons,iU,putCells];rw[a];grind
def VR.cells{n:Nat}{m:abd}{v v':vV}(h:VR n m v v'):AK n m v.cells.toList v'.cells.toList:=by
 cases h with
 |agg hs h=>exact⟨by simpa[vV.cells]using hs,fun i v v' e e'=>h i v v' (by simpa[vV.cells]using e) (by simpa[vV.cells]using e')⟩
 |@flat v hf=>
  have:v.cells=#[v]:=by cases v<;>first|rfl|simp[Fw.flat]at hf
  rw[this];exact .cons (.flat hf) (.nil _ _)
 |ptr h=>exact .cons (.ptr h) (.nil _ _)
 |aeK=>exact .cons .aeK (.nil _ _)
 |slice h f=>exact .cons (.slice h f) (.nil _ _)
 |buf h g ha=>exact .cons (.buf h g ha) (.nil _ _)
 |esl f=>exact .cons (.esl f) (.nil _ _)
 |empty=>exact .cons .empty (.nil _ _)
 |map h=>exact .cons (.map h) (.nil _ _)
 |func a b c d=>exact .cons (.func a b c d) (.nil _ _)
 |iface h=>exact .cons (.iface h) (.nil _ _)
 |tuple a b=>exact .cons (.tuple a b) (.nil _ _)
theorem AK.putCells{n:Nat}{m:abd}:∀{vs a:xLV}{c c':xLV}(off:Nat),AK n m c c'->AK n m vs a->AK n m (Fw.putCells c off vs) (Fw.putCells c' off a)
 |[],a,c,c',off,d,b=>by have:a=[]:=Bn (by rw[<-b.1];rfl);subst this;exact d
 |v::vs,[],c,c',off,d,b=>by grind[AK]
 |v::vs,v'::a,c,c',off,d,b=>AK.putCells (off+1) (d.set off (b.2 0 v v' rfl rfl)) (by simpa using b.drop 1)
inductive PRs (n:Nat) (m:abd):List (Nat×vV)->List (Nat×vV)->Prop
 |nil:PRs n m [] []
 |cons {i:Nat} {v v':vV} {l l':List (Nat×vV)} (h:VR n m v v') (hl:PRs n m l l'):PRs n m ((i,v)::l) ((i,v')::l')
theorem PT{n:Nat}{m:abd}(place:Nat->Option (Nat×Nat)){ps b:List (Nat×vV)}(k:PRs n m ps b):∀{c r:xLV}{C:Array vV},AK n m c C.toList->afZ place c ps=Z r->
  ∃R,Instr.fill place C b=Z R/\AK n m r R.toList:=by
 induction k with
 |nil=>intro c r C d e;simp[afZ]at e;subst e;exact⟨C,rfl,d⟩
 |@cons i v v' l l' o s p=>
  intro c r C d e;simp only[afZ]at e;split at e
  .cases e
  .rename_i off size f;split at e
   .rename_i hh;have⟨t,h2⟩:=hh;have a:=o.cells;have g:v'.cells.size=size:=by have:=a.1;grind
    have hlen:C.size=c.length:=by have:=d.1;grind
    have⟨R,hR,q⟩:=p (C:=v'.cells.toList.zipIdx.foldl (fun cs (c,j)=>cs.setIfInBounds (off+j) c) C) (by rw[apI];grind[AK.putCells]) e;refine⟨R,?_,q⟩;simp only[Instr.fill,f,g];grind[Array.toList_zipIdx]
   .cases e
end
end Go.Fw
