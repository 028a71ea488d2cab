/- A text. -/
import Derived.Laws.StructEq
import Derived.Laws.BytesString
import Derived.Test.YtnakkbhjoiheoaaGreatFwKur8
set_option linter.all false
set_option maxRecDepth 99999
set_option maxHeartbeats 9999999
open Option renaming some→Z,none→Y
open Bool renaming true→tT,false→fF
open List renaming replicate→rP
open Go.Value renaming slice→sL,pointer→pT
open Go renaming Value→vV
open List
namespace Go.Fw
instance:Coe Nat Addr:=⟨fun x=>⟨x,0,none⟩⟩
abbrev xLV:=List Value
instance:Coe Int Value:=⟨fun x=>.int .i64 x⟩
instance:Coe Nat Value:=⟨fun x=>.int .i64 x⟩
inductive AR (n:Nat) (m:abd):Addr->Addr->Prop
 |own {id off:Nat} (h:id<n):AR n m ⟨id,off,Y⟩ ⟨(m id).blk,(m id).base+off,Y⟩
 |ext {b off:Nat}:AR n m ⟨b,off,Z 0⟩ ⟨b,off,Y⟩
def AR.ptr{n:Nat}{m:abd}{a a':Addr}(h:AR n m a a'):VR n m (pT (Z a)) (pT (Z a')):=by
 cases h with
 |own h=>exact .ptr h
 |ext=>exact .aeK
theorem VR.AP{n:Nat}{m:abd}{a:Addr}{v':vV}(h:VR n m (pT (Z a)) v'):∃a',v'=pT (Z a')/\AR n m a a':=by
 cases h with
 |flat h=>simp[Fw.flat]at h
 |ptr h=>exact⟨_,rfl,.own h⟩
 |aeK=>exact⟨_,rfl,.ext⟩
def Ip(a:Addr)(k:Nat):Addr:={a with off:=a.off+k}
theorem agQ(b o k:Nat):(⟨b,o,Y⟩:Addr).add k=⟨b,o+k,Y⟩:=by unfold Addr.add;grind
theorem AR.add{n:Nat}{m:abd}{a a':Addr}(h:AR n m a a')(k:Nat):AR n m (Ip a k) (a'.add k):=by
 cases h with
 |own h=>rw[agQ,qL259];exact .own h
 |ext=>rw[agQ];exact .ext
variable{W0:LA}{m:abd}{h:aai}{w:World}
theorem Rel.UL(R:Rel W0 m h w){id off:Nat}{c:xLV}{v:vV}(g:h.own id=Z (.cells c))(f:c[off]?=Z v):
  ∃v',w.cell? ⟨(m id).blk,(m id).base+off,Y⟩=Z v'/\VR h.next m v v':=by
 have⟨C,e,lo,hi,hb,hs,j,i,_,_⟩:=R.own id _ g;have⟨v',b,d⟩:=i.get f;refine⟨v',?_,d⟩;have a:off<c.length:=(Ny.1 f).1;rw[Dj,Sb a,Ki]at b;simp[World.cell?,hb];grind
theorem Rel.read(R:Rel W0 m h w){a a':Addr}{v:vV}(ha:AR h.next m a a')(c:h.read a=Z v):∃v',w.cell? a'=Z v'/\VR h.next m v v':=by
 cases ha with
 |own e=>grind[aai.read,Rel.UL]
 |@ext b off=>
  simp only[aai.read,R.ext]at c;cases d:W0.cell? ⟨b,off,Y⟩with
  |none=>grind
  |some v'=>rw[d]at c;simp only[alL]at c;have hb:b<W0.heap.size:=World.block_lt_of_cell? W0.toWorld ⟨b,off,Y⟩ d;grind[VR.akj,Go.World.cell?_of_block,Rel.qi]
def abN(h:aai)(a:Addr):Nat->Option xLV
  |0=>Z []
  |n+1=>match h.read a with
    |some v=>match abN h (Ip a 1) n with
      |some l=>Z (v::l)
      |none=>Y
    |none=>Y
theorem tF:∀(n:Nat)(h:aai)(a:Addr)(l:xLV),abN h a n=Z l->l.length=n
 |0,_,_,l,e=>by grind[abN]
 |n+1,h,a,l,e=>by
  simp only[abN]at e;split at e
  .split at e
   .rename_i l' b;injection e with e;subst e;simp[tF n h _ l' b]
   .cases e
  .cases e
theorem Rel.abN(R:Rel W0 m h w):∀(n:Nat){a a':Addr}{l:xLV},AR h.next m a a'->Fw.abN h a n=Z l->
  ∃l',AK h.next m l l'/\∀(j:Nat)(v:vV),l'[j]?=Z v->w.cell? (a'.add j)=Z v
 |0,a,a',l,ha,e=>by simp[Fw.abN]at e;subst e;exact⟨[],.nil _ _,fun j v h=>by simp at h⟩
 |n+1,a,a',l,ha,e=>by
  simp only[Fw.abN]at e;split at e
  .rename_i v g;split at e
   .rename_i t i;injection e with e;subst e;have⟨v',k,b⟩:=R.read ha g;have⟨o,c,d⟩:=R.abN n (ha.add 1) i;refine⟨v'::o,.cons b c,fun j u f=>?_⟩;cases j with
    |zero=>simp at f;subst f;simpa[Addr.add]using k
    |succ j=>
     have:=d j u hGr;have e:(a'.add 1).add j=a'.add (j+1):=by unfold Addr.add;grind
     grind
   .cases e
  .cases e
theorem Rel.loadCells(R:Rel W0 m h w)(P:Program){n:Nat}{a a':Addr}{l:xLV}(ha:AR h.next m a a')(e:Fw.abN h a n=Z l):
  ∃l',AK h.next m l l'/\(Go.loadCells a' n).run P w=.ok l'.toArray w:=by
 have⟨l',b,c⟩:=R.abN n ha e;refine⟨l',b,?_⟩;have d:n=l'.length:=by rw[<-b.1,tF n h a l e]
 grind[Go.run_loadCells_list]
def UA(P:Program)(t:TypeId):Nat:=P.cellsOf t
theorem IT{P:Program}{t:TypeId}{d:TypeDesc}(a:P.underlying t=Z d)(w:World):(sizeOf t).run P w=.ok (UA P t) w:=by
 unfold Program.underlying at a;cases hi:P.info? t with
 |none=>grind
 |some i=>simp[sizeOf,typeInfo,hi,UA,Program.cellsOf]
def ab8:TypeDesc->Bool
 |.struct _|.array _ _=>tT
 |_=>fF
def Rk{P:Program}{t:TypeId}{d:TypeDesc}(a:P.underlying t=Z d)(w:World):(isAgg t).run P w=.ok (ab8 d) w:=by
 cases d<;>simp[isAgg,run_underlying a,ab8]
def aaC(P:Program)(h:aai)(t:TypeId)(a:Addr):Option vV:=
 match P.underlying t with
 |some d=>bif ab8 d then(match abN h a (UA P t)with|some l=>Z (.agg l.toArray)|none=>Y)else h.read a
 |none=>Y
theorem Rel.loadVar(R:Rel W0 m h w){P:Program}{t:TypeId}{a a':Addr}{v:vV}(ha:AR h.next m a a')(e:aaC P h t a=Z v):
  ∃v',(Go.loadVar t a').run P w=.ok v' w/\VR h.next m v v':=by
 unfold aaC at e;split at e
 .rename_i d c;cases hd:ab8 d with
  |true=>
   simp only[hd,cond_true]at e;split at e
   .rename_i l g;injection e with e;subst e;have⟨l',j,b⟩:=R.loadCells P ha g;refine⟨.agg l'.toArray,?_,.uk hGr⟩;simp[Go.loadVar,Rk c,IT c,hd,b]
   .cases e
  |false=>simp only[hd,cond_false]at e;have⟨v',i,f⟩:=R.read ha e;refine⟨v',?_,f⟩;simp[Go.loadVar,Rk c,hd,i]
 .cases e
def VR.oneCell{n:Nat}{m:abd}{v v':vV}(h:VR n m v v'):v'.oneCell'=v.oneCell':=by
 cases h<;>first|rfl|skip
theorem AK.zK{n:Nat}{m:abd}{l l':xLV}(h:AK n m l l')(c:l.all (·.oneCell')=tT):∀v∈l',v.oneCell'=tT:=by
 intro v b;obtain⟨i,hi,rfl⟩:=Bx.1 b;have a:i<l.length:=by rw[h.1];exact hi
 rw[(h.2 i l[i] l'[i] (Gc a) (Gc hi)).oneCell];grind
theorem Rel.JP{n n':Nat}{m f:abd}{w w':World}{loc:Loc}{o:fK}(g:ORel n m w loc o)(a:n<=n')(b:ZK n m f)(hb:w'.heap[loc.blk]?=w.heap[loc.blk]?):ORel n' f w' loc o:=by
 cases o with
 |cells c=>have⟨C,e,lo,hi,i,h2,h3,d,j,k⟩:=g;exact⟨C,e,lo,hi,hGr,h2,h3,d.mono a b,j,k⟩
 |map es=>have⟨E,clock,i,h2,h3,d⟩:=g;exact⟨E,clock,hGr,h2.mono a b,h3.mono a b,d⟩
theorem NK(w:World)(a:Addr)(v:vV)(b:Nat)(hb:b≠a.block):(w.setCell a v).heap[b]?=w.heap[b]?:=by simp[World.setCell,aeu,wI hb]
theorem Rel.write1(R:Rel W0 m h w){id off:Nat}{c:xLV}{v v':vV}(r:h.own id=Z (.cells c))(s:off<c.length)(u:VR h.next m v v')(z:v'.oneCell'=tT):
  Rel W0 m (h.put id (.cells (c.set off v))) (w.setCell ⟨(m id).blk,(m id).base+off,Y⟩ v'):=by
 have l:h.own id≠Y:=by rw[r];simp
 have⟨C,e,lo,hi,hb,hs,A,x,t,hf⟩:=R.own id _ r;have a:∀i,(h.put id (.cells (c.set off v))).own i≠Y->h.own i≠Y:=by grind[aai.By]
 have k:∀i,h.own i≠Y->i≠id->(m i).blk≠(m id).blk:=fun i d g n=>g (R.inj i id d l n);refine⟨by simpa[World.setCell]using R.size,fun b sZ=>?_,R.ext,fun i d=>R.lt i (a i d),fun i d=>R.new i (a i d),fun i o f=>?_,fun i j d p=>R.inj i j (a i d) (a j p),R.os,R.output,R.tape,R.aah.put a (fun b _ hb=>NK _ _ _ _ (fun e=>hb id l e.symm))⟩
 .grind[NK,Rel.qi,Rel.new]
 .by_cases g:i=id
  .subst g;rw[aai.Y3]at f;injection f with f;subst f;refine⟨C.setIfInBounds ((m i).base+off) v',e,lo,hi,?_,hGr,hGr,?_,?_,?_⟩
   .simp only[World.setCell,aeu,hb,if_true,V9];rfl
   .have y:((C.setIfInBounds ((m i).base+off) v').toList.drop (m i).base).take (c.set off v).length=((C.toList.drop (m i).base).take c.length).set off v':=by rw[Array.toList_setIfInBounds,WZ,<-List.set_drop,qL220]
    rw[y];exact x.set off u
   all_goals grind
  .rw[aai.By _ _ _ _ g]at f;have q:h.own i≠Y:=hGr;exact Rel.JP (R.own i o f) (qL0 _) (ZK.refl _ _) (NK _ _ _ _ (k i q g))
def putCells(c:xLV)(off:Nat):xLV->xLV
 |[]=>c
 |v::vs=>putCells (c.set off v) (off+1) vs
theorem O7:∀(vs:xLV)(c:xLV)(off:Nat),(putCells c off vs).length=c.length
 |[],_,_=>rfl
 |v::vs,c,off=>by simp[putCells,O7 vs]
theorem Rel.frozen(R:Rel W0 m h w){id off:Nat}{c:xLV}(d:h.own id=Z (.cells c))(a:off<c.length):
  w.frozen? ⟨(m id).blk,(m id).base+off,Y⟩=fF:=by
 have⟨C,e,lo,hi,hb,hs,f,g,b,hf⟩:=R.own id _ d;simp only[World.frozen?,hb];grind
theorem Rel.jW(P:Program):∀(vs d:xLV)(i:Nat){h:aai}{w:World}(_:Rel W0 m h w){id off:Nat}{c:xLV},
  h.own id=Z (.cells c)->off+i+vs.length<=c.length->AK h.next m vs d->(∀v∈d,v.oneCell'=tT)->
  ∃w',(storeCells ⟨(m id).blk,(m id).base+off,Y⟩ d i).run P w=.ok () w'/\Rel W0 m (h.put id (.cells (putCells c (off+i) vs))) w'
 |[],d,i,h,w,R,id,off,c,l,_,f,_=>by
  have:d=[]:=im (by rw[<-f.1];rfl);subst this;refine⟨w,by simp[storeCells],?_⟩;have y:h.own id≠Y:=by rw[l];simp
  have k:∀j o,(h.put id (.cells c)).own j=Z o↔h.own j=Z o:=by grind[aai.Y3,aai.By]
  have p:∀j,(h.put id (.cells c)).own j≠Y->h.own j≠Y:=by intro j e z;cases E:(h.put id (.cells c)).own j<;>grind
  exact⟨R.size,R.qi,R.ext,fun j e=>R.lt j (p j e),fun j e=>R.new j (p j e),fun j o e=>R.own j o ((k j o).1 e),fun a b ha hb=>R.inj a b (p a ha) (p b hb),R.os,R.output,R.tape,R.aah.put p (fun _ _ _=>rfl)⟩
 |v::vs,[],i,h,w,R,id,off,c,l,A,f,s=>by grind[AK]
 |v::vs,v'::d,i,h,w,R,id,off,c,l,A,f,s=>by
  have g:off+i<c.length:=hGr
  have B:VR h.next m v v':=f.2 0 v v' rfl rfl
  have q:AK h.next m vs d:=by simpa using f.drop 1
  have t:=s v' Ma;have C:=R.write1 l g B t;have⟨u,x,_⟩:=R.UL l (Gc g);have hf:=R.frozen l g;have⟨w',D,R'⟩:=Rel.jW P vs d (i+1) C (off:=off) (aai.Y3 h id (.cells (c.set (off+i) v))) hGr q (fun u x=>s u (by simp[x]));have r:(⟨(m id).blk,(m id).base+off,Y⟩:Addr).add i=⟨(m id).blk,(m id).base+(off+i),Y⟩:=by grind[agQ]
  refine⟨w',?_,?_⟩
  .simp only[storeCells,Sem.run_bind,r];grind[Go.run_store,Go.Result.andThen_ok]
  .have n:((h.put id (.cells (c.set (off+i) v))).put id (.cells (putCells (c.set (off+i) v) (off+(i+1)) vs))).own=(h.put id (.cells (putCells c (off+i) (v::vs)))).own:=by
    funext j;by_cases e:j=id
    .subst e;rw[aai.Y3,aai.Y3];rfl
    grind[aai.By]
   exact⟨R'.size,R'.qi,R'.ext,fun j e=>R'.lt j (by rw[n];exact e),fun j e=>R'.new j (by rw[n];exact e),fun j o e=>R'.own j o (by rw[n];exact e),fun a b ha hb=>R'.inj a b (by rw[n];exact ha) (by rw[n];exact hb),R'.os,R'.output,R'.tape,R'.aah.put (fun j e=>by rw[n];exact e) (fun _ _ _=>rfl)⟩
section
variable{W0:LA}{m:abd}{h:aai}{w:World}
def upd(m:abd)(k:Nat)(l:Loc):abd:=fun i=>if i=k then l else m i
theorem zf(m:abd)(k:Nat)(l:Loc):upd m k l k=l:=by simp[upd]
theorem ko(m:abd)(k i:Nat)(l:Loc)(hi:i≠k):upd m k l i=m i:=by simp[upd,hi]
theorem Qq(m:abd)(k:Nat)(l:Loc):ZK k m (upd m k l):=fun i hi=>by grind[ko]
theorem Rel.drew(R:Rel W0 m h w):Rel W0 m h w.drew:=⟨R.size,R.qi,R.ext,R.lt,R.new,R.own,R.inj,R.os,R.output,⟨R.tape.1,Nat.le_succ_of_le R.tape.2⟩,R.aah.put (fun _ hi=>hi) (fun _ _ _=>rfl)⟩
theorem Rel.kill(R:Rel W0 m h w)(id:Nat):Rel W0 m (h.kill id) w:=by
 have hs:∀i o,(h.kill id).own i=Z o->h.own i=Z o:=by grind[aai.Dg,aai.xJ]
 have a:∀i,(h.kill id).own i≠Y->h.own i≠Y:=by intro i hi b;cases c:(h.kill id).own i<;>grind
 exact⟨R.size,R.qi,R.ext,fun i hi=>R.lt i (a i hi),(by grind[Rel.new]),fun i o hi=>R.own i o (hs i o hi),(by grind[Rel.inj]),R.os,R.output,R.tape,R.aah.put a hGr⟩
theorem Rel.add{w':World}(R:Rel W0 m h w)(loc:Loc)(o:fK)(k:w.heap.size<=w'.heap.size)(hb:∀b,b≠loc.blk->b<w.heap.size->w'.heap[b]?=w.heap[b]?)(s:W0.heap.size<=loc.blk)(l:∀i,h.own i≠Y->(m i).blk≠loc.blk)(u:ORel h.next m w' loc o)(n:w'.os=w.os)(g:w'.output=w.output)(p:w'.tape=w.tape/\w.drawn<=w'.drawn)(q:∀b x,(b,x)∈W0.rw->loc.blk≠b:=by exact fun b x hb e=>by(have:=R.aah.lt hb;simp at e;omega)):Rel W0 (upd m h.next loc) (h.alloc o) w':=by
 have a:∀i,(h.alloc o).own i≠Y->i=h.next\/(i≠h.next/\h.own i≠Y):=by grind[aai.Ve]
 have f:=Qq m h.next loc
 refine⟨ff R.size k,fun b v=>?_,R.ext,fun i hi=>?_,fun i hi=>?_,fun i r hi=>?_,fun i j hi G y=>?_,n.trans R.os,g.trans R.output,(by grind[Rel.tape]),⟨R.aah.agree.trans f R.aah.next,Nat.le_succ_of_le R.aah.next,R.aah.VM,R.aah.hi,fun b x d=>(hb b hGr (R.aah.lt d)).trans (R.aah.held b x d),fun b x i d hi=>?_⟩⟩
 .grind[Rel.qi]
 .rcases a i hi with e|⟨_,e⟩
  .subst e;exact agh _
  .exact afJ (R.lt i e)
 .grind[zf,ko,Rel.new]
 .by_cases e:i=h.next
  .subst e;rw[aai.zT]at hi;injection hi with hi;subst hi;rw[zf];exact Rel.JP u (alS _) f rfl
  .rw[aai.Ve _ _ _ e]at hi;rw[ko _ _ _ _ e];have z:h.own i≠Y:=by rw[hi];simp
   have A:(m i).blk<w.heap.size:=by
    have t:=R.own i r hi;cases r with
    |cells c=>have⟨C,_,lo,B,D,_⟩:=t;grind
    |map es=>have⟨E,clock,D,_⟩:=t;grind
   exact Rel.JP (R.own i r hi) (alS _) f hGr
 .grind[zf,ko,Rel.inj]
 .rcases a i hi with e|⟨F,e⟩
  .grind[zf]
  .rw[ko _ _ _ _ F];exact R.aah.apart b x i d e
theorem Rel.Hc(R:Rel W0 m h w){i:Nat}(hi:h.own i≠Y):(m i).blk<w.heap.size:=by
 cases b:h.own i with
 |none=>grind
 |some o=>
  have a:=R.own i o b;cases o with
  |cells c=>have⟨C,_,lo,d,e,_⟩:=a;grind
  |map es=>have⟨E,clock,e,_⟩:=a;grind
theorem Rel.alloc(R:Rel W0 m h w){c:xLV}{C:Array vV}(e:TypeId)(b:AK h.next m c (C.toList.take c.length))(hle:c.length<=C.size)(a:∀v∈C.toList,v.oneCell'=tT):
  Rel W0 (upd m h.next ⟨w.heap.size,0,C.size⟩) (h.alloc (.cells c)) (w.alloc (.cells C e)):=by
 refine R.add ⟨w.heap.size,0,C.size⟩ _ Ma (by grind[Go.heap_alloc_old]) R.size (fun i hi d=>?_) ?_ rfl rfl ⟨rfl,qL0 _⟩
 .grind[Rel.Hc]
 .exact⟨C,e,0,0,heap_alloc_new w _,rfl,hGr,hGr,a,hGr⟩
theorem Rel.allocMap(R:Rel W0 m h w):Rel W0 (upd m h.next ⟨w.heap.size,0,0⟩) (h.alloc (.map [])) (w.alloc (.map #[] 0)):=by
 refine R.add ⟨w.heap.size,0,0⟩ _ Ma (by grind[Go.heap_alloc_old]) R.size (fun i hi a=>?_) ?_ rfl rfl ⟨rfl,qL0 _⟩
 .grind[Rel.Hc]
 .exact⟨#[],0,heap_alloc_new w _,by grind[AK.nil],by grind[AK.nil],rfl,hGr⟩
theorem Rel.alloc_eq(R:Rel W0 m h w){c C:xLV}(e:TypeId)(a:AK h.next m c C)(b:c.all (·.oneCell')=tT):
  Rel W0 (upd m h.next ⟨w.heap.size,0,C.length⟩) (h.alloc (.cells c)) (w.alloc (.cells C.toArray e)):=by
 have:=R.alloc (c:=c) (C:=C.toArray) e (by simpa[a.1,abe]using a) (by simp[a.1]) (by grind[AK.zK]);grind
theorem Rel.allocMove(R:Rel W0 m h w){w':World}{id:Nat}{c:xLV}(k:h.own id=Z (.cells c)){C':Array vV}{e:TypeId}{lo hi:Nat}{base:Nat}{c2:xLV}(a:w'.heap=w.heap.setIfInBounds (m id).blk (.cells C' e (lo,hi)))(hs:C'.size=(m id).lim)(l:∀v∈C'.toList,v.oneCell'=tT)(hf:∀i,i<C'.size->((lo<=i&&i<hi)=fF/\lo<=hi))(n:base+c2.length<=C'.size)(o:AK h.next m c2 ((C'.toList.drop base).take c2.length))(j:w'.os=w.os)(g:w'.output=w.output)(d:w'.tape=w.tape/\w.drawn<=w'.drawn):
  Rel W0 (upd m h.next ⟨(m id).blk,base,(m id).lim⟩) ((h.kill id).alloc (.cells c2)) w':=by
 have f:h.own id≠Y:=by rw[k];simp
 have p:=R.Hc f;refine(R.kill id).add ⟨(m id).blk,base,(m id).lim⟩ (.cells c2) (by simp[a]) (fun b hb _=>?_) (R.new id f) (fun i q r=>?_) ⟨C',e,lo,hi,?_,hs,n,o,l,hf⟩ j g d (fun b x hb=>R.aah.apart b x id hb f)
 .grind
 all_goals grind[aai.Dg,aai.xJ,Rel.inj]
def acC(C:Array vV)(off:Nat):xLV->Array vV
 |[]=>C
 |v::vs=>acC (C.setIfInBounds off v) (off+1) vs
theorem afB:∀(vs:xLV)(C:Array vV)(off:Nat),(acC C off vs).size=C.size
 |[],_,_=>rfl
 |v::vs,C,off=>by simp[acC,afB vs]
theorem GC:∀(vs:xLV)(C:Array vV)(off:Nat),(acC C off vs).toList=putCells C.toList off vs
 |[],_,_=>rfl
 |v::vs,C,off=>by simp[acC,putCells,GC vs]
theorem IW:∀(vs c:xLV)(off:Nat),off+vs.length<=c.length->putCells c off vs=c.take off++vs++c.drop (off+vs.length)
 |[],c,off,h=>by simp[putCells]
 |v::vs,c,off,h=>by simp at h;rw[putCells,IW vs _ (off+1) (by simp;omega)];grind[take_succ_eq_append_getElem,take_set_of_le,drop_set_of_lt]
theorem HG(P:Program)(g:Nat)(e:TypeId)(lo hi:Nat):∀(vs:xLV)(i off:Nat)(C:Array vV)(w:World),
  w.heap[g]?=Z (.cells C e (lo,hi))->off+i+vs.length<=C.size->(∀v∈vs,v.oneCell'=tT)->(∀i,i<C.size->((lo<=i&&i<hi)=fF/\lo<=hi))->
  ∃w',(storeCells ⟨g,off,Y⟩ vs i).run P w=.ok () w'/\w'.heap=w.heap.setIfInBounds g (.cells (acC C (off+i) vs) e (lo,hi))/\w'.os=w.os/\w'.output=w.output/\(w'.tape=w.tape/\w.drawn<=w'.drawn)
 |[],i,off,C,w,hg,_,_,_=>by
  refine⟨w,by simp[storeCells],?_,rfl,rfl,rfl,qL0 _⟩;apply Array.ext_getElem?;intro j;rw[qL170];split
  .rename_i k;subst k;rw[hg,Sb (Fu.1 hg).1];rfl
  .rfl
 |v::vs,i,off,C,w,hg,p,q,hf=>by
  have a:off+i<C.size:=hGr;have d:(w.setCell ⟨g,off+i,Y⟩ v).heap=w.heap.setIfInBounds g (.cells (C.setIfInBounds (off+i) v) e (lo,hi)):=by simp only[World.setCell,aeu,qL170];grind
  have⟨w',f,b,l,c,n⟩:=HG P g e lo hi vs (i+1) off (C.setIfInBounds (off+i) v) (w.setCell ⟨g,off+i,Y⟩ v)
   hGr hGr hGr hGr
  refine⟨w',?_,?_,l,c,n⟩
  .have r:w.cell? ⟨g,off+i,Y⟩=Z C[off+i]:=by simp[World.cell?,hg,a]
   have o:w.frozen? ⟨g,off+i,Y⟩=fF:=by simp only[World.frozen?,hg];grind
   simp only[storeCells,Sem.run_bind,agQ];grind[Go.run_store,Go.Result.andThen_ok]
  grind[acC]
def acY(z:xLV):Nat->xLV
 |0=>[]
 |n+1=>z++acY z n
theorem jY(z:xLV):∀n,(acY z n).length=n*z.length
 |0=>by simp[acY]
 |n+1=>by simp[acY,jY z n,Nat.succ_mul,Nat.add_comm]
theorem X7(z:xLV):∀(n i:Nat),i<n*z.length->(acY z n)[i]?=z[i%z.length]?
 |0,i,h=>by simp at h
 |n+1,i,h=>by
  rw[acY];by_cases hi:i<z.length
  .grind[Nat.mod_eq_of_lt]
  .rw[jf NH,X7 z n (i-z.length) hGr]
   conv=>rhs;rw[show i=(i-z.length)+z.length from by omega,alv]
theorem MI(z:Array vV)(n k:Nat)(a:k=n*z.size):((Array.range k).map (fun i=>z[i%z.size]!)).toList=acY z.toList n:=by apply EH;grind[X7,jY]
def HW(v:vV):∀n,acY [v] n=rP n v
 |0=>rfl
 |n+1=>by rw[acY,HW v n];rfl
theorem AK.flat{n:Nat}{m:abd}:∀{l:xLV},l.all Fw.flat=tT->AK n m l l
 |[],_=>.nil _ _
 |v::l,h=>by simp at h;exact .cons (.flat h.1) (AK.flat hGr)
theorem Ew(p:vV->Bool)(z:xLV)(h:z.all p=tT):∀n,(acY z n).all p=tT
 |0=>rfl
 |n+1=>by rw[acY,akb,h,Ew p z h n];rfl
theorem flat_one{v:vV}(h:flat v=tT):v.oneCell'=tT:=by
 cases v<;>simp_all [flat,vV.oneCell']
theorem flat_ones{l:xLV}(h:l.all flat=tT):l.all (·.oneCell')=tT:=by grind[flat_one]
def aaY(k:IntKind)(n:Int):Int:=
 match k with
 |.i64=>if-9223372036854775808<=n/\n<=9223372036854775807 then n else IntKind.wrap .i64 n
 |.u8=>if 0<=n/\n<=255 then n else IntKind.wrap .u8 n
 |.u64=>if 0<=n/\n<=18446744073709551615 then n else IntKind.wrap .u64 n
 |k=>k.wrap n
def Qt(k:IntKind)(n:Int):aaY k n=k.wrap n:=by
 unfold aaY;split
 .split
  .rename_i a;simp[IntKind.wrap,IntKind.bits,IntKind.signed];omega
  .rfl
 .split
  .rename_i a;simp[IntKind.wrap,IntKind.bits,IntKind.signed];omega
  .rfl
 .split
  .rename_i a;simp[IntKind.wrap,IntKind.bits,IntKind.signed];omega
  .rfl
 .rfl
theorem ie(n:Int)(a:-9223372036854775808<=n)(h2:n<=9223372036854775807):aaY .i64 n=n:=by grind[aaY]
def adY(op:BinOp)(k:IntKind)(a b:Int):Option vV:=
 match op with
 |.add=>Z (.int k (aaY k (a+b)))
 |.sub=>Z (.int k (aaY k (a-b)))
 |.mul=>Z (.int k (aaY k (a*b)))
 |.quo=>if b=0 then Y else Z (.int k (aaY k (a.tdiv b)))
 |.rem=>if b=0 then Y else Z (.int k (a.tmod b))
 |.and=>Z (.int k (k.wrap (BitVec.ofInt k.bits a &&& BitVec.ofInt k.bits b).toNat))
 |.or=>Z (.int k (k.wrap (BitVec.ofInt k.bits a ||| BitVec.ofInt k.bits b).toNat))
 |.xor=>Z (.int k (k.wrap (BitVec.ofInt k.bits a ^^^ BitVec.ofInt k.bits b).toNat))
 |.andNot=>Z (.int k (k.wrap (BitVec.ofInt k.bits a &&& ~~~BitVec.ofInt k.bits b).toNat))
 |.eql=>Z (.bool (a==b))
 |.neq=>Z (.bool (a !=b))
 |.lss=>Z (.bool (a<b))
 |.leq=>Z (.bool (a<=b))
 |.gtr=>Z (.bool (b<a))
 |.geq=>Z (.bool (b<=a))
 |_=>Y
def acV(op:BinOp)(k:IntKind)(a b:Int):Option vV:=
 if b<0 then Y else
 match op with
 |.shl=>Z (.int k (aaY k (a*2^min b.toNat k.bits)))
 |.shr=>Z (.int k (a.fdiv (2^min b.toNat k.bits)))
 |_=>Y
def aa9:xLV->Option (List (IntKind×Int))
 |[]=>Z []
 |.int k n::r=>match aa9 r with|some l=>Z ((k,n)::l)|none=>Y
 |_=>Y
def aEq(P:Program)(t:TypeId)(x y:vV):Option Bool:=
 match P.underlying t,x,y with
 |some .bool,.bool a,.bool b=>Z (a==b)
 |some (.slice _),.slice a _ _,.slice Y _ _=>Z a.isNone
 |some (.pointer _),.pointer a,.pointer Y=>Z a.isNone
 |some (.map _ _),.map a,.map Y=>Z a.isNone
 |some (.func _ _ _),.nilFunc,.nilFunc=>Z tT
 |some (.func _ _ _),.func _ _ _,.nilFunc=>Z fF
 |some (.array len e),.agg xs,.agg ys=>
  match P.underlying e,aa9 xs.toList,aa9 ys.toList with
  |some (.int _),Z a,Z b=>if UA P e=1/\xs.size=len/\ys.size=len/\a.map (·.1)=b.map (·.1)then Z (a==b)else Y
  |_,_,_=>Y
 |_,_,_=>Y
def ae3(P:Program)(op:BinOp)(t:TypeId)(x y:vV):Option vV:=
 match op,x,y with
 |.shl,.int k a,.int _ b=>acV .shl k a b
 |.shr,.int k a,.int _ b=>acV .shr k a b
 |op,.int k a,.int c b=>if k=c then adY op k a b else Y
 |.eql,x,y=>match aEq P t x y with|some b=>Z (.bool b)|none=>Y
 |.neq,x,y=>match aEq P t x y with|some b=>Z (.bool (!b))|none=>Y
 |_,_,_=>Y
def nj(P:Program)(op:BinOp)(k:IntKind)(a:Int)(c:IntKind)(b:Int){v:vV}(e:acV op k a b=Z v)(w:World):
  (Op.shift op k a c b).run P w=.ok v w:=by
 unfold acV at e;split at e
 .cases e
 .rename_i hb;cases op<;>simp at e<;>subst e<;>simp[Op.shift,hb,Qt]
theorem aShl_run(P:Program)(k:IntKind)(a:Int)(c:IntKind)(b:Int)(t:TypeId){v:vV}(e:acV .shl k a b=Z v)(w:World):
  (binOp .shl t (.int k a) (.int c b)).run P w=.ok v w:=nj P .shl k a c b e w
theorem aShr_run(P:Program)(k:IntKind)(a:Int)(c:IntKind)(b:Int)(t:TypeId){v:vV}(e:acV .shr k a b=Z v)(w:World):
  (binOp .shr t (.int k a) (.int c b)).run P w=.ok v w:=nj P .shr k a c b e w
def aInt_run(P:Program)(op:BinOp)(k:IntKind)(a b:Int)(t:TypeId){v:vV}(e:adY op k a b=Z v)(w:World):
    (binOp op t (.int k a) (.int k b)).run P w=.ok v w:=by
  cases op<;>simp only[adY]at e
  all_goals first
    |cases e;done
    |(injection e with e;subst e;simp[binOp,Op.intArith,Op.intBits,Op.intCmp,Qt])
    | (split at e
       .cases e
       .rename_i hb;injection e with e;subst e;simp[binOp,Op.intDiv,hb,Qt])
theorem af0:∀(l:xLV)(a:List (IntKind×Int)),aa9 l=Z a->l=a.map (fun p=>vV.int p.1 p.2)
 |[],a,h=>by grind[aa9]
 |v::l,a,h=>by
  cases v<;>simp only[aa9]at h<;>try cases h
  rename_i k n;split at h
  .rename_i r b;injection h with h;subst h;simp[af0 l r b]
  .cases h
theorem C3(P:Program)(d:Nat)(t e:TypeId)(len:Nat)(x:IntKind)(y:P.underlying t=Z (.array len e))(f:P.underlying e=Z (.int x))(hs:UA P e=1)(a b:List (IntKind×Int))(ha:a.length=len)(hb:b.length=len)(z:a.map (·.1)=b.map (·.1))(w:World):
  (Op.equalIn (d+2) t (.agg (a.map (fun p=>vV.int p.1 p.2)).toArray) (.agg (b.map (fun p=>vV.int p.1 p.2)).toArray)).run P w=.ok (a==b) w:=by
 unfold Op.equalIn;simp only[Sem.run_bind,run_underlying y,Result.andThen_ok,IT f,hs,qL182,Std.Legacy.Range.size]
 have key:∀(n s:Nat),s+n=len->(forIn (m:=Sem) (List.range' s n) ((Y:Option Bool),PUnit.unit) fun i __s=>do
   let __do_lift <-part e (a.map (fun p=>vV.int p.1 p.2)).toArray (i*1);let __do_lift_1 <-part e (b.map (fun p=>vV.int p.1 p.2)).toArray (i*1);let __do_lift <-Op.equalIn (d+1) e __do_lift __do_lift_1
   if(!__do_lift)=tT then pure (ForInStep.done (Z fF,PUnit.unit))else pure (ForInStep.yield (Y,PUnit.unit))).run P w
   =.ok (if a.drop s==b.drop s then(Y,PUnit.unit)else(Z fF,PUnit.unit)) w:=by
  intro n
  induction n with
  |zero=>intro s g;have A:a.drop s=[]:=alu NH;have h2:b.drop s=[]:=alu NH;simp[A,h2]
  |succ n D=>
   intro s g;have u:s<a.length:=NH;have v:s<b.length:=NH;have j:a[s].1=b[s].1:=by have:=congrArg (fun l=>l[s]?) z;grind
   have k:∀w,(part e (a.map (fun p=>vV.int p.1 p.2)).toArray s).run P w=.ok (.int a[s].1 a[s].2) w:=by intro w;simp[part,Rk f,ab8,u]
   have o:∀w,(part e (b.map (fun p=>vV.int p.1 p.2)).toArray s).run P w=.ok (.int b[s].1 b[s].2) w:=by intro w;simp[part,Rk f,ab8,v]
   have heq:∀w,(Op.equalIn (d+1) e (.int a[s].1 a[s].2) (.int b[s].1 b[s].2)).run P w=.ok (a[s].2==b[s].2) w:=by grind[Go.run_equalIn_int]
   have B:a.drop s=a[s]::a.drop (s+1):=(qL68 u);have C:b.drop s=b[s]::b.drop (s+1):=(qL68 v);have q:(a[s]==b[s])=(a[s].2==b[s].2):=hGr;simp only[qL227,List.forIn_cons,Sem.run_bind,akO,k,o,heq,Result.andThen_ok];cases E:a[s].2==b[s].2 with
   |false=>have r:(a.drop s==b.drop s)=fF:=hGr;simp[r]
   |true=>grind[Go.Sem.run_pure,Go.Result.andThen_ok]
 have c:=key len 0 NH;simp only[aiU]at c;rw[show((len-0+1-1) / 1)=len from by omega];rw[c];cases a==b<;>simp
theorem acN(P:Program)(t e:TypeId)(len:Nat)(a:IntKind)(b:P.underlying t=Z (.array len e))(c:P.underlying e=Z (.int a)):P.eqGuardType P.depth t=fF:=by have:∃d,P.depth=d+2:=⟨_,rfl⟩;have⟨d,hd⟩:=this;rw[hd];simp[Program.eqGuardType,b,c]
def B7(t:TypeId)(x y:vV):Op.equal t x y=Op.equalIn (9998+1+1) t x y:=rfl
theorem jN(P:Program)(t:TypeId)(x y:vV){r:Bool}(e:aEq P t x y=Z r)(w:World):(Op.equal t x y).run P w=.ok r w:=by
 unfold aEq at e
 split at e<;>(try cases e)
 .grind[Go.run_equal_bool]
 .rename_i a _ _ _ _ c;rw[B7];unfold Op.equalIn;cases a<;>simp only[Sem.run_bind,run_underlying c,Result.andThen_ok,Sem.run_pure]<;>rfl
 .rename_i a c;rw[B7];unfold Op.equalIn;cases a<;>simp only[Sem.run_bind,run_underlying c,Result.andThen_ok,Sem.run_pure]<;>rfl
 .rename_i a c;rw[B7];unfold Op.equalIn;cases a<;>simp only[Sem.run_bind,run_underlying c,Result.andThen_ok,Sem.run_pure]<;>rfl
 .rename_i c;rw[B7];unfold Op.equalIn;simp only[Sem.run_bind,run_underlying c,Result.andThen_ok,Sem.run_pure]
 .rename_i c;rw[B7];unfold Op.equalIn;simp only[Sem.run_bind,run_underlying c,Result.andThen_ok,Sem.run_pure]
 .rename_i len el xs ys c;split at e
  .rename_i k a b g ha hb;split at e
   .rename_i i;have⟨j,h2,h3,l⟩:=i;injection e with e;subst e;have d:=af0 _ _ ha;have f:=af0 _ _ hb;have ex:xs=(a.map (fun p=>vV.int p.1 p.2)).toArray:=by rw[<-d]
    have n:ys=(b.map (fun p=>vV.int p.1 p.2)).toArray:=by rw[<-f]
    subst ex;subst n;exact C3 P 9998 t el len k c g j a b hGr hGr l w
   .cases e
  .cases e
theorem Et{n:Nat}{m:abd}{P:Program}{t:TypeId}{x y x' q:vV}{r:Bool}(c:VR n m x x')(d:VR n m y q)(e:aEq P t x y=Z r):aEq P t x' q=Z r:=by
 have hints:∀{n:Nat}{m:abd}(l l':xLV),AK n m l l'->∀a,aa9 l=Z a->aa9 l'=Z a:=by
  intro n m l
  induction l with
  |nil=>intro l' h a ha;have:l'=[]:=im (by rw[<-h.1];rfl);grind
  |cons v l A=>
   intro l' h a ha;cases l' with
   |nil=>grind[AK]
   |cons v' l'=>
    have s:VR n m v v':=h.2 0 v v' rfl rfl;have B:AK n m l l':=by simpa using h.drop 1
    cases v<;>simp only[aa9]at ha<;>try cases ha
    split at ha
    .rename_i r C;cases s;grind[aa9]
    .cases ha
 unfold aEq at e;split at e
 .cases c;cases d;rename_i D h2 h3;simp_all [aEq]
 .rename_i f;cases d with|flat hf=>cases c<;>simp_all [aEq]
 .rename_i f;cases d with|flat hf=>cases c<;>simp_all [aEq]
 .rename_i f;cases d with|flat hf=>cases c<;>simp_all [aEq]
 .rename_i f;cases c;cases d;simp_all [aEq]
 .rename_i f;cases d;cases c<;>simp_all [aEq]
 .rename_i len el xs ys f;split at e
  .rename_i k a b u ha hb;split at e
   .rename_i z;cases c with
    |flat hf=>grind[flat]
    |agg g c=>
     cases d with
     |flat hf=>grind[flat]
     |agg j d=>rename_i o p;have mi:=hints xs.toList o.toList ⟨hGr,fun i v v' e e'=>c i v v' (by simpa using e) hGr⟩ a ha;have sZ:=hints ys.toList p.toList ⟨hGr,fun i v v' e e'=>d i v v' (by simpa using e) hGr⟩ b hb;simp only[aEq,f,u,mi,sZ,<-g,<-j,z,and_self,if_true];exact e
   .cases e
  .cases e
 .cases e
theorem agn(P:Program)(op:BinOp)(t:TypeId)(x y:Operand)(a b:vV)(w:World)(c:¬(a=.nilIface/\b=.nilIface))(d:∀xs ys,a=.agg xs->b=.agg ys->P.eqGuardType P.depth t=fF):
  (eqGuard op t x y a b).run P w=.ok () w:=by
 by_cases e:(!(op matches .eql|.neq))=tT
 .cases op<;>first|(simp[eqGuard];done)|grind
 .cases a with
  |nilIface=>cases b<;>first|(exact absurd ⟨rfl,rfl⟩ c)|(cases op<;>simp[eqGuard])
  |agg xs=>
   cases b with
   |agg ys=>grind[Go.run_eqGuard_agg]
   |_=>cases op<;>simp[eqGuard]
  |_=>cases op<;>simp[eqGuard]
def aci:vV->Bool
 |.nilIface=>fF
 |_=>tT
def mM(P:Program)(op:BinOp)(t:TypeId)(x y:vV):Option vV:=bif aci x then ae3 P op t x y else Y
theorem abin_rel{n:Nat}{m:abd}{P:Program}{op:BinOp}{t:TypeId}{x y x' c v:vV}(d:VR n m x x')(f:VR n m y c)(e:ae3 P op t x y=Z v):
    flat v=tT/\(∀w,(binOp op t x' c).run P w=.ok v w):=by
  unfold ae3 at e;split at e
  · cases d;cases f
    refine⟨?_,fun w=>?_⟩;rotate_left
    .grind[aShl_run]
    unfold acV at e;split at e
    .cases e
    .simp at e;subst e;rfl
  · cases d;cases f
    refine⟨?_,fun w=>?_⟩;rotate_left
    .grind[aShr_run]
    unfold acV at e;split at e
    .cases e
    .simp at e;subst e;rfl
  · split at e
    · rename_i k a j b _ _ i
      subst i;cases d;cases f;refine⟨?_,fun w=>aInt_run P _ _ _ _ t e w⟩;cases op<;>simp only[adY]at e
      all_goals first
        |cases e;done
        |(injection e with e;subst e;rfl)
        | (split at e
           .cases e
           .injection e with e;subst e;rfl)
    .cases e
  · split at e
    · rename_i b hb
      injection e with e;subst e;refine⟨rfl,fun w=>?_⟩;have g:=jN P t x' c (Et d f hb) w;have h2:=Et d f hb
      have:binOp .eql t x' c=(do pure (.bool (<-Op.equal t x' c))):=by
        unfold aEq at h2
        split at h2<;>first|rfl|cases h2
      rw[this];simp[g]
    .cases e
  · split at e
    · rename_i b hb
      injection e with e;subst e;refine⟨rfl,fun w=>?_⟩;have g:=jN P t x' c (Et d f hb) w;have h2:=Et d f hb
      have:binOp .neq t x' c=(do pure (.bool (!(<-Op.equal t x' c)))):=by
        unfold aEq at h2
        split at h2<;>first|rfl|cases h2
      rw[this];simp[g]
    .cases e
  .cases e
def VR.Ja{n:Nat}{m:abd}{k:IntKind}{i:Int}{v':vV}(h:VR n m (.int k i) v'):v'=.int k i:=by cases h;rfl
def VR.YE{n:Nat}{m:abd}{b:Bool}{v':vV}(h:VR n m (.bool b) v'):v'=.bool b:=by cases h;rfl
theorem VR.agg_inv{n:Nat}{m:abd}{a:Array vV}{v':vV}(h:VR n m (.agg a) v'):∃a',v'=.agg a'/\AK n m a.toList a'.toList:=by
 cases h with
 |flat h=>simp[Fw.flat]at h
 |agg hs h=>exact⟨_,rfl,hGr,fun i v v' e e'=>h i v v' (by simpa using e) hGr⟩
theorem VR.Vh{n:Nat}{m:abd}{a:Array vV}{v':vV}(h:VR n m (.tuple a) v'):∃a',v'=.tuple a'/\AK n m a.toList a'.toList:=by
 cases h with
 |flat h=>simp[Fw.flat]at h
 |tuple hs h=>exact⟨_,rfl,hGr,fun i v v' e e'=>h i v v' (by simpa using e) hGr⟩
def VR.YC{n:Nat}{m:abd}{a:Option Addr}{len cap:Nat}{v':vV}(h:VR n m (.slice a len cap) v'):∃a' cap',v'=.slice a' len cap'/\a'.isSome=a.isSome:=by
 cases h<;>exact⟨_,_,rfl,Ma⟩
def aUn(op:UnOp)(x:vV):Option vV:=
 match op,x with
 |.neg,.int k n=>Z (.int k (aaY k (0-n)))
 |.not,.bool b=>Z (.bool (!b))
 |_,_=>Y
def aUn_rel{n:Nat}{m:abd}{op:UnOp}{x x' v:vV}(P:Program)(a:VR n m x x')(e:aUn op x=Z v):flat v=tT/\∀w,(Op.unary op x').run P w=.ok v w:=by
 unfold aUn at e;split at e
 .cases a;injection e with e;subst e;exact⟨rfl,fun w=>by simp[Op.unary,Op.intArith,Qt]⟩
 .cases a;injection e with e;subst e;exact⟨rfl,fun w=>by simp[Op.unary]⟩
 .cases e
def abL(x:vV)(y:Nat):Option Nat:=
 match x with
 |.int _ i=>if 0<=i/\i<=(y:Int)then Z i.toNat else Y
 |_=>Y
def Kh{n:Nat}{m:abd}{x x':vV}{y a r:Nat}(P:Program)(d:VR n m x x')(e:abL x y=Z r)(f:y<=a)(c:BoundsCode)(w:World):
  (Instr.sliceBound x' a c).run P w=.ok r w/\r<=y:=by
 unfold abL at e;split at e
 .cases d;split at e
  .rename_i i _ hi;injection e with e;subst e;have b:0<=i/\i<=(a:Int):=NH;exact⟨by simp[Instr.sliceBound,asIntOf,b],NH⟩
  .cases e
 .cases e
def abm(len cap:Nat)(lo hi a:Option vV):Option (Nat×Nat×Nat):=
  match(match a with|some v=>abL v cap|none=>Z cap)with
  |none=>Y
  |some m=>match(match hi with|some v=>abL v m|none=>match a with|none=>Z len|some _=>Y)with
    |none=>Y
    |some h=>match(match lo with|some v=>abL v h|none=>Z 0)with
      |none=>Y
      |some l=>Z (l,h,m)
inductive VRo (n:Nat) (m:abd):Option vV->Option vV->Prop
 |none:VRo n m Y Y
 |some {v v':vV} (h:VR n m v v'):VRo n m (Z v) (Z v')
def Tx{n:Nat}{m:abd}{len cap cap':Nat}{lo hi s g i j:Option vV}{l h k:Nat}(P:Program)(b:Bool)(a:VRo n m lo g)(o:VRo n m hi i)(t:VRo n m s j)(x:cap<=cap')(B:len<=cap)(e:abm len cap lo hi s=Z (l,h,k))(w:World):
  (Instr.sliceBounds b len cap' g i j).run P w=.ok (l,h,if s.isSome then k else cap') w/\l<=h/\h<=k/\k<=cap/\(s=Y->k=cap):=by
 unfold abm at e;cases t with
 |none=>
  simp only[]at e;cases o with
  |none=>
   simp only[]at e;cases a with
   |none=>simp only[ah1,Gw]at e;obtain⟨rfl,rfl,rfl⟩:=e;exact⟨by simp[Instr.sliceBounds],NH,NH,NH,fun _=>rfl⟩
   |some p=>
    simp only[]at e;split at e
    .cases e
    .rename_i r q;simp only[ah1,Gw]at e;obtain⟨rfl,rfl,rfl⟩:=e;have⟨c,h2⟩:=Kh P p q (qL0 _) .sliceB w;exact⟨by simp[Instr.sliceBounds,c],h2,NH,NH,fun _=>rfl⟩
  |some p=>
   simp only[]at e;split at e
   .cases e
   .rename_i r q
    have⟨c,h2⟩:=Kh P p q x (if b then .sliceAcap else .sliceAlen) w
    cases a with
    |none=>simp only[ah1,Gw]at e;obtain⟨rfl,rfl,rfl⟩:=e;exact⟨by simp[Instr.sliceBounds,c],NH,NH,NH,fun _=>rfl⟩
    |some d=>
     simp only[]at e;split at e
     .cases e
     .rename_i y f;simp only[ah1,Gw]at e;obtain⟨rfl,rfl,rfl⟩:=e;have⟨h3,z⟩:=Kh P d f (qL0 _) .sliceB w;exact⟨by simp[Instr.sliceBounds,c,h3],NH,NH,NH,fun _=>rfl⟩
 |some u=>
  simp only[]at e;split at e
  .cases e
  .rename_i r q
   have⟨c,h2⟩:=Kh P u q x (if b then .slice3Acap else .slice3Alen) w
   cases o with
   |none=>simp at e
   |some p=>
    simp only[]at e;split at e
    .cases e
    .rename_i r2 v;have⟨h3,z⟩:=Kh P p v (qL0 _) .slice3B w;cases a with
     |none=>simp only[ah1,Gw]at e;obtain⟨rfl,rfl,rfl⟩:=e;exact⟨by simp[Instr.sliceBounds,c,h3],NH,NH,NH,fun h=>by cases h⟩
     |some d=>
      simp only[]at e;split at e
      .cases e
      .rename_i y f;simp only[ah1,Gw]at e;obtain⟨rfl,rfl,rfl⟩:=e;have⟨A,C⟩:=Kh P d f (qL0 _) .slice3C w;exact⟨by simp[Instr.sliceBounds,c,h3,A],NH,NH,NH,fun h=>by cases h⟩
def abf(P:Program)(t:TypeId)(x:vV)(lo hi b:Option vV):Option vV:=
  match P.underlying t,x with
  |some (.slice e),.slice a len cap=>
    if UNK<=cap then
      match a with
      |none=>Y
      |some a=>
        if cap=UNK+UA P e/\(P.underlying e).isSome then
          match abm len len lo hi b with
          |some (l,h,m)=>if b.isSome then(if m=0 then Z (sL (Z a) 0 0)else if m<UNK then Z (sL (Z (if m=l then a else Ip a (l*UA P e))) (h-l) (m-l))else Y)
            else Z (sL (Z (Ip a (l*UA P e))) (h-l) cap)
          |none=>Y
        else Y
    else if len<=cap/\(P.underlying e).isSome then
      match abm len cap lo hi b with
      |some (l,h,m)=>Z (.slice (if m=l then a else a.map (fun a=>Ip a (l*UA P e))) (h-l) (m-l))
      |none=>Y
    else Y
  |_,_=>Y
theorem AR.slice{n:Nat}{m:abd}{a a':Addr}{len cap:Nat}(h:AR n m a a')(b:cap<UNK):VR n m (sL (Z a) len cap) (sL (Z a') len cap):=by
 cases h with
 |own h=>exact .slice h b
 |ext=>exact .esl b
theorem AR.addIf{n:Nat}{m:abd}{a a':Addr}(h:AR n m a a')(p:Prop)[Decidable p](k:Nat):AR n m (if p then a else Ip a k) (if p then a' else a'.add k):=by grind[AR.add]
theorem jw{n:Nat}{m:abd}{P:Program}{t:TypeId}{x x' v:vV}{lo hi G p q r:Option vV}(N:VR n m x x')(z:VRo n m lo p)(A:VRo n m hi q)(s:VRo n m G r)(e:abf P t x lo hi G=Z v)(w:World):∃v',(Instr.sliceAt t x' p q r).run P w=.ok v' w/\VR n m v v':=by
 unfold abf at e;split at e
 .rename_i el a len cap F;split at e
  .rename_i B;split at e
   .cases e
   .rename_i a;split at e
    .rename_i i;obtain⟨i,u⟩:=i;obtain⟨d,hd⟩:=mJ.1 u;split at e
     .rename_i l hh mm hb;cases N with
      |flat hf=>grind[flat]
      |slice f C=>omega
      |esl C=>omega
      |empty=>grind[UNK]
      |buf f O ha=>
       rename_i id off k cap' a';have R:k=UA P el:=NH;subst R;obtain⟨c,y,h2,h3,S⟩:=Tx P tT z A s O (qL0 _) hb w;have j:=IT (P:=P) hd w;split at e
       .rename_i o;rw[Sb o]at c;split at e
        .rename_i D;injection e with e;subst e;subst D;have H:l=0:=NH;have I:hh=0:=NH;subst H;subst I;refine⟨sL (Z a') 0 0,?_,.empty⟩;simp[Instr.sliceAt,Instr.slice,run_underlying F,c,j]
        .rename_i D;split at e
         case isFalse=>cases e
         rename_i T;injection e with e;subst e;have J:cap'≠0:=NH;obtain⟨rfl,E⟩:=ha.resolve_right J;refine⟨_,by simp only[Instr.sliceAt,Instr.slice,run_underlying F,c,j,Sem.run_bind,Result.andThen_ok,Sem.run_pure];rfl,?_⟩;have U:mm-l<UNK:=NH;have:=(AR.own (m:=m) (off:=off) f).addIf (mm=l) (l*UA P el);grind[AR.slice]
       .rename_i o;rw[WA o]at c;injection e with e;subst e;refine⟨_,by simp only[Instr.sliceAt,Instr.slice,run_underlying F,c,j,Sem.run_bind,Result.andThen_ok,Sem.run_pure];rfl,?_⟩;rw[i];split
        .rename_i K;exact .buf f NH (.inr NH)
        .rename_i K;refine .buf f NH ?_;rcases ha with⟨rfl,E⟩|h0
         .refine .inl ⟨by grind[agQ],?_⟩;have:l*UA P el+(cap'-l)*UA P el=cap'*UA P el:=by rw[<-dU];grind
          grind
         grind
     .cases e
    .cases e
  .rename_i B;split at e
   .rename_i C;obtain⟨L,u⟩:=C;obtain⟨d,hd⟩:=mJ.1 u;have j:=IT (P:=P) hd w;split at e
    .rename_i l hh mm hb;injection e with e;subst e;have V:cap<UNK:=NH
     have g:∀a',(∃c',x'=.slice a' len c'/\c'=cap)->(∃w',w'=w)->(Instr.sliceAt t x' p q r).run P w=.ok (.slice (if mm=l then a' else a'.map (·.add (l*UA P el))) (hh-l) (mm-l)) w/\l<=hh/\hh<=mm/\mm<=cap:=by
      rintro a' ⟨c',rfl,rfl⟩ _;obtain⟨c,y,h2,h3,S⟩:=Tx P tT z A s (qL0 _) L hb w;refine⟨?_,y,h2,h3⟩
      have W:(if G.isSome then mm else c')=mm:=by
       cases s<;>grind
      rw[W]at c;simp[Instr.sliceAt,Instr.slice,run_underlying F,c,j]
     cases N with
     |flat hf=>
      cases a with
      |some a=>grind[flat]
      |none=>obtain⟨c,y,h2,h3⟩:=g Y ⟨_,rfl,rfl⟩ ⟨w,rfl⟩;refine⟨_,c,?_⟩;simp[Fw.flat]at hf;have M:hh-l=0:=NH;have Q:mm-l=0:=NH;simp only[Option.map_none,ite_self,M,Q];exact .flat rfl
     |slice f C=>rename_i id off;obtain⟨c,y,h2,h3⟩:=g _ ⟨_,rfl,rfl⟩ ⟨w,rfl⟩;refine⟨_,c,?_⟩;have:=((AR.own (m:=m) (off:=off) f).addIf (mm=l) (l*UA P el)).slice (len:=hh-l) (cap:=mm-l) NH;grind
     |buf f O ha=>omega
     |esl C=>rename_i b off;obtain⟨c,y,h2,h3⟩:=g _ ⟨_,rfl,rfl⟩ ⟨w,rfl⟩;refine⟨_,c,?_⟩;have:=((AR.ext (n:=n) (m:=m) (b:=b) (off:=off)).addIf (mm=l) (l*UA P el)).slice (len:=hh-l) (cap:=mm-l) NH;grind
     |empty=>obtain⟨c,y,h2,h3⟩:=g _ ⟨_,rfl,rfl⟩ ⟨w,rfl⟩;refine⟨_,c,?_⟩;have X:mm=l:=NH;have M:hh-l=0:=NH;have Q:mm-l=0:=NH;simp only[X,if_true,M,aiq];exact .empty
    .cases e
   .cases e
 .cases e
def aao(P:Program)(t:TypeId)(x ix:vV):Option vV:=
 match P.underlying t,x,ix with
 |some (.slice e),sL (Z a) len _,.int _ i=>if 0<=i/\i<(len:Int)/\(P.underlying e).isSome then Z (pT (Z (Ip a (i.toNat*UA P e))))else Y
 |some (.array n e),pT (Z a),.int _ i=>if 0<=i/\i<(n:Int)/\(P.underlying e).isSome then Z (pT (Z (Ip a (i.toNat*UA P e))))else Y
 |_,_,_=>Y
theorem Bb{n:Nat}{m:abd}{P:Program}{t:TypeId}{x x' ix l v:vV}(u:VR n m x x')(hi:VR n m ix l)(e:aao P t x ix=Z v)(w:World):
  ∃v',(Instr.indexAt t x' l).run P w=.ok v' w/\VR n m v v':=by
 unfold aao at e;split at e
 .rename_i el a len cap k i p;split at e
  .rename_i o;have⟨q,r,c⟩:=o;have⟨d,hd⟩:=mJ.1 c;injection e with e;subst e;have:=hi.Ja;subst this;have f:=IT (P:=P) hd w;have g:0<=i/\i<(len:Int):=⟨q,r⟩;have b:∀a' c',(Instr.indexAt t (sL (Z a') len c') (.int k i)).run P w=.ok (pT (Z (a'.add (i.toNat*UA P el)))) w:=by
    intro a' c';simp[Instr.indexAt,asIntOf,run_underlying p,g,f]
   cases u with
   |flat hf=>grind[flat]
   |slice j o=>exact⟨_,b _ _,((AR.own j).add _).ptr⟩
   |buf j y ha=>obtain⟨rfl,_⟩:=ha.resolve_right NH;exact⟨_,b _ _,((AR.own j).add _).ptr⟩
   |esl o=>exact⟨_,b _ _,(AR.ext.add _).ptr⟩
   |empty=>grind
  .cases e
 .rename_i OT el a k i p;split at e
  .rename_i o;have⟨q,r,c⟩:=o;have⟨d,hd⟩:=mJ.1 c;injection e with e;subst e;have:=hi.Ja;subst this;have f:=IT (P:=P) hd w;obtain⟨a',rfl,s⟩:=u.AP;have g:0<=i/\i<(OT:Int):=⟨q,r⟩;exact⟨pT (Z (a'.add (i.toNat*UA P el))),by simp[Instr.indexAt,asIntOf,run_underlying p,g,f,Instr.sureAddr],(s.add _).ptr⟩
  .cases e
 .cases e
def aca(P:Program)(s:TypeId)(x:vV)(f:Nat):Option vV:=
 match P.underlying s,x with
 |some (.struct b),pT (Z a)=>
  match b[f]? with
  |some fd=>if UA P fd.type≠0 then Z (pT (Z (Ip a fd.offset)))else Y
  |none=>Y
 |_,_=>Y
theorem Gy{P:Program}{t:TypeId}(h:UA P t≠0)(w:World):(sizeOf t).run P w=.ok (UA P t) w:=by
 unfold UA Program.cellsOf at*;cases hi:P.info? t with
 |none=>grind
 |some i=>simp[sizeOf,typeInfo,hi]
def afO{n:Nat}{m:abd}{P:Program}{s:TypeId}{x x' v:vV}{f:Nat}(d:VR n m x x')(e:aca P s x f=Z v)(w:World):
  ∃v',(Instr.fieldAt s x' f).run P w=.ok v' w/\VR n m v v':=by
 unfold aca at e;split at e
 .rename_i i a g;split at e
  .rename_i fd hf;split at e
   .rename_i c;injection e with e;subst e;obtain⟨a',rfl,b⟩:=d.AP;exact⟨pT (Z (a'.add fd.offset)),by simp[Instr.fieldAt,run_underlying g,hf,Instr.sureAddr,fieldPlace,Gy c,c],(b.add _).ptr⟩
   .cases e
  .cases e
 .cases e
def aPart(P:Program)(t:TypeId)(cs:Array vV)(off:Nat):Option vV:=
 match P.underlying t with
 |some d=>bif ab8 d then Z (.agg (cs.extract off (off+UA P t)))else cs[off]?
 |none=>Y
theorem aPart_rel{n:Nat}{m:abd}{P:Program}{t:TypeId}{cs a:Array vV}{off:Nat}{v:vV}(c:AK n m cs.toList a.toList)(e:aPart P t cs off=Z v)(w:World):
  ∃v',(part t a off).run P w=.ok v' w/\VR n m v v':=by
 unfold aPart at e;split at e
 .rename_i d b;cases hd:ab8 d with
  |true=>simp only[hd,cond_true]at e;injection e with e;subst e;refine⟨.agg (a.extract off (off+UA P t)),by simp[part,Rk b,hd,IT b],.uk ?_⟩;grind[Array.toList_extract,AK.drop,AK.take]
  |false=>simp only[hd,cond_false]at e;have⟨v',f,h2⟩:=c.get (i:=off) (v:=v) (by simpa using e);exact⟨v',by simp[part,Rk b,hd,show a[off]?=Z v' from by grind],h2⟩
 .cases e
def afh(P:Program)(t:TypeId)(x ix:vV):Option vV:=
 match P.underlying t,x,ix with
 |some (.array n e),.agg cs,.int _ i=>if 0<=i/\i<(n:Int)/\(P.underlying e).isSome then aPart P e cs (i.toNat*UA P e)else Y
 |_,_,_=>Y
def kg{n:Nat}{m:abd}{P:Program}{t:TypeId}{x x' ix a v:vV}(j:VR n m x x')(hi:VR n m ix a)(e:afh P t x ix=Z v)(w:World):
  ∃v',(Instr.index t x' a).run P w=.ok v' w/\VR n m v v':=by
 unfold afh at e;split at e
 .rename_i OT el cs k i l;split at e
  .rename_i o;have⟨p,q,b⟩:=o;have⟨d,hd⟩:=mJ.1 b;have:=hi.Ja;subst this;obtain⟨r,rfl,c⟩:=j.agg_inv;have⟨v',f,h2⟩:=aPart_rel c e w;have g:0<=i/\i<(OT:Int):=⟨p,q⟩;exact⟨v',by simp[Instr.index,asIntOf,run_underlying l,g,IT hd,f],h2⟩
  .cases e
 .cases e
def acW(x:vV)(i:Nat):Option vV:=match x with|.tuple vs=>vs[i]?|_=>Y
theorem VI{n:Nat}{m:abd}{P:Program}{x x' v:vV}{i:Nat}(c:VR n m x x')(e:acW x i=Z v)(w:World):
  ∃v',(Instr.extract x' i).run P w=.ok v' w/\VR n m v v':=by
 unfold acW at e;split at e
 .obtain⟨a,rfl,b⟩:=c.Vh;have⟨v',d,h2⟩:=b.get (i:=i) (v:=v) (by simpa using e);exact⟨v',by simp[Instr.extract,show a[i]?=Z v' from by grind],h2⟩
 .cases e
def afZ(place:Nat->Option (Nat×Nat))(cells:xLV):List (Nat×vV)->Option xLV
 |[]=>Z cells
 |(i,v)::rest=>
  match place i with
  |none=>Y
  |some (off,size)=>if v.cells.size=size/\off+size<=cells.length then afZ place (putCells cells off v.cells.toList) rest else Y
theorem foldl_put(vs:xLV):∀(C:Array vV)(off s:Nat),((vs.zipIdx s).foldl (fun cs (c,j)=>cs.setIfInBounds (off+j) c) C).toList=putCells C.toList (off+s) vs:=by
 induction vs with
 |nil=>intro C off s;rfl
 |cons v vs a=>intro C off s;simp only[List.zipIdx_cons,gK,putCells];rw[a];grind
def VR.cells{n:Nat}{m:abd}{v v':vV}(h:VR n m v v'):AK n m v.cells.toList v'.cells.toList:=by
 cases h with
 |agg hs h=>exact⟨by simpa[vV.cells]using hs,fun i v v' e e'=>h i v v' (by simpa[vV.cells]using e) (by simpa[vV.cells]using e')⟩
 |@flat v hf=>
  have:v.cells=#[v]:=by cases v<;>first|rfl|simp[Fw.flat]at hf
  rw[this];exact .cons (.flat hf) (.nil _ _)
 |ptr h=>exact .cons (.ptr h) (.nil _ _)
 |aeK=>exact .cons .aeK (.nil _ _)
 |slice h f=>exact .cons (.slice h f) (.nil _ _)
 |buf h g ha=>exact .cons (.buf h g ha) (.nil _ _)
 |esl f=>exact .cons (.esl f) (.nil _ _)
 |empty=>exact .cons .empty (.nil _ _)
 |map h=>exact .cons (.map h) (.nil _ _)
 |func a b c d=>exact .cons (.func a b c d) (.nil _ _)
 |iface h=>exact .cons (.iface h) (.nil _ _)
 |tuple a b=>exact .cons (.tuple a b) (.nil _ _)
theorem AK.putCells{n:Nat}{m:abd}:∀{vs a:xLV}{c c':xLV}(off:Nat),AK n m c c'->AK n m vs a->AK n m (Fw.putCells c off vs) (Fw.putCells c' off a)
 |[],a,c,c',off,d,b=>by have:a=[]:=im (by rw[<-b.1];rfl);subst this;exact d
 |v::vs,[],c,c',off,d,b=>by grind[AK]
 |v::vs,v'::a,c,c',off,d,b=>AK.putCells (off+1) (d.set off (b.2 0 v v' rfl rfl)) (by simpa using b.drop 1)
inductive PRs (n:Nat) (m:abd):List (Nat×vV)->List (Nat×vV)->Prop
 |nil:PRs n m [] []
 |cons {i:Nat} {v v':vV} {l l':List (Nat×vV)} (h:VR n m v v') (hl:PRs n m l l'):PRs n m ((i,v)::l) ((i,v')::l')
theorem PT{n:Nat}{m:abd}(place:Nat->Option (Nat×Nat)){ps b:List (Nat×vV)}(k:PRs n m ps b):∀{c r:xLV}{C:Array vV},AK n m c C.toList->afZ place c ps=Z r->
  ∃R,Instr.fill place C b=Z R/\AK n m r R.toList:=by
 induction k with
 |nil=>intro c r C d e;simp[afZ]at e;subst e;exact⟨C,rfl,d⟩
 |@cons i v v' l l' o s p=>
  intro c r C d e;simp only[afZ]at e;split at e
  .cases e
  .rename_i off size f;split at e
   .rename_i hh;have⟨t,h2⟩:=hh;have a:=o.cells;have g:v'.cells.size=size:=by have:=a.1;grind
    have hlen:C.size=c.length:=by have:=d.1;grind
    have⟨R,hR,q⟩:=p (C:=v'.cells.toList.zipIdx.foldl (fun cs (c,j)=>cs.setIfInBounds (off+j) c) C) (by rw[foldl_put];grind[AK.putCells]) e;refine⟨R,?_,q⟩;simp only[Instr.fill,f,g];grind[Array.toList_zipIdx]
   .cases e
def OK(P:Program)(W0:LA)(m:abd)(h:aai)(w:World)(s:Sem vV)(v:vV)(h':aai):Prop:=∃a v' w',s.run P w=.ok v' w'/\Rel W0 a h' w'/\ZK h.next m a/\h.next<=h'.next/\VR h'.next a v v'
def OK.pure{P:Program}{s:Sem vV}{v:vV}(R:Rel W0 m h w)(e:∃v',s.run P w=.ok v' w/\VR h.next m v v'):OK P W0 m h w s v h:=let⟨v',a,h2⟩:=e;⟨m,v',w,a,R,.refl _ _,qL0 _,h2⟩
def acd(P:Program)(t:TypeId):Option vV:=match P.info? t with|some i=>i.zero|none=>Y
def rn{P:Program}{t:TypeId}{z:vV}(a:acd P t=Z z)(w:World):(zeroValue t).run P w=.ok z w:=by
 unfold acd at a;split at a
 .rename_i i hi;simp[zeroValue,typeInfo,hi,a]
 .cases a
def IF(h:aai)(c:xLV):Option (Addr×aai):=if c.all (·.oneCell')then Z (⟨h.next,0,Y⟩,h.alloc (.cells c))else Y
def rT{P:Program}(R:Rel W0 m h w){c C:xLV}{a:Addr}{h':aai}(e:TypeId)(f:AK h.next m c C)(b:IF h c=Z (a,h')):
  ∃d a' w',(newRow e C.toArray).run P w=.ok a' w'/\Rel W0 d h' w'/\ZK h.next m d/\h.next<=h'.next/\AR h'.next d a a':=by
 unfold IF at b;split at b
 .rename_i g;injection b with b;simp only[Gw]at b;obtain⟨rfl,rfl⟩:=b
  refine⟨upd m h.next ⟨w.heap.size,0,C.length⟩,⟨w.heap.size,0,Y⟩,w.alloc (.cells C.toArray e),by simp[newRow],R.alloc_eq e f g,Qq _ _ _,alS _,?_⟩
  have:=AR.own (n:=h.next+1) (m:=upd m h.next ⟨w.heap.size,0,C.length⟩) (id:=h.next) (off:=0) (agh _)
  rw[zf]at this;exact this
 .cases b
def abO(P:Program)(h:aai)(t:TypeId):Option (vV×aai):=
 match acd P t with
 |some z=>if z.cells.toList.all flat then match IF h z.cells.toList with|some (a,h')=>Z (pT (Z a),h')|none=>Y else Y
 |none=>Y
theorem aAlloc_ok{P:Program}(R:Rel W0 m h w){t:TypeId}{v:vV}{h':aai}(e:abO P h t=Z (v,h')):OK P W0 m h w (Instr.alloc t tT (.tuple #[])) v h':=by
 unfold abO at e;split at e
 .rename_i z c;split at e
  .rename_i hf;split at e
   .rename_i a h2 d;injection e with e;simp only[Gw]at e;obtain⟨rfl,rfl⟩:=e;have⟨f,a',w',g,h2,h3,i,j⟩:=rT (P:=P) R t (AK.flat hf) d;refine⟨f,pT (Z a'),w',?_,h2,h3,i,j.ptr⟩;have b:(newRow t z.cells).run P w=.ok a' w':=by simpa using g
    simp[Instr.alloc,rn c,newVar,b]
   .cases e
  .cases e
 .cases e
def zF(h:aai)(x:vV):Option (vV×aai):=match IF h x.cells.toList with|some (a,h')=>Z (pT (Z a),h')|none=>Y
def aBox_ok{P:Program}(R:Rel W0 m h w){t:TypeId}{x x' v:vV}{h':aai}(c:VR h.next m x x')(e:zF h x=Z (v,h')):OK P W0 m h w (Instr.box t x') v h':=by
 unfold zF at e;split at e
 .rename_i a h2 d;injection e with e;simp only[Gw]at e;obtain⟨rfl,rfl⟩:=e;have⟨f,a',w',g,h2,h3,i,j⟩:=rT (P:=P) R t c.cells d;refine⟨f,pT (Z a'),w',?_,h2,h3,i,j.ptr⟩;have b:(newRow t x'.cells).run P w=.ok a' w':=by simpa using g
  simp[Instr.box,newVar,b]
 .cases e
def agV(P:Program)(t:TypeId):Option (Nat->Option (Nat×Nat)):=
 match P.underlying t with
 |some (.struct a)=>if a.toList.all (fun f=>(P.underlying f.type).isSome)then Z (fun i=>(a.map (fun f=>(f.offset,UA P f.type)))[i]?)else Y
 |some (.array _ e)=>if(P.underlying e).isSome then Z (fun i=>Z (i*UA P e,UA P e))else Y
 |_=>Y
def acB(P:Program)(t:TypeId)(parts:List (Nat×vV)):Option vV:=
 match acd P t,agV P t with
 |some z,Z pl=>if z.cells.toList.all flat then match afZ pl z.cells.toList parts with|some r=>Z (.agg r.toArray)|none=>Y else Y
 |_,_=>Y
def run_places{P:Program}(w:World):∀(a:List Field),a.all (fun f=>(P.underlying f.type).isSome)=tT->
  (a.mapM (m:=Sem) fun f=>do pure (f.offset,<-sizeOf f.type)).run P w=.ok (a.map (fun f=>(f.offset,UA P f.type))) w
 |[],_=>by simp
 |f::a,h=>by simp only[amf,Cg]at h;have⟨d,hd⟩:=mJ.1 h.1;simp only[mapM_cons,Sem.run_bind,IT hd,Result.andThen_ok,Sem.run_pure,run_places w a h.2,AQ]
theorem WX{n:Nat}{m:abd}{P:Program}{t:TypeId}{ps b:List (Nat×vV)}{v:vV}(l:PRs n m ps b)(e:acB P t ps=Z v)(w:World):
  ∃v',(Instr.build t b.toArray).run P w=.ok v' w/\VR n m v v':=by
 unfold acB at e;split at e
 .rename_i z pl o a;split at e
  .rename_i hf;split at e
   .rename_i r p;injection e with e;subst e;unfold agV at a;split at a
    .rename_i g i;split at a
     .rename_i c;injection a with a;subst a;have⟨R,hR,j⟩:=PT _ l (AK.flat hf) p
      have q:(Array.mapM (m:=Sem) (fun f=>do pure (f.offset,<-sizeOf f.type)) g).run P w=.ok (g.map (fun f=>(f.offset,UA P f.type))) w:=by have:=run_places (P:=P) w g.toList c;rw[qL226,map_eq_pure_bind,Sem.run_bind,this];simp only[Result.andThen_ok,Sem.run_pure];congr 1;grind
      refine⟨.agg R,?_,.uk hGr⟩;simp only[Instr.build,Sem.run_bind,rn o,Result.andThen_ok,run_underlying i,q];rw[hR];simp
     .cases a
    .rename_i OT el i;split at a
     .rename_i k;have⟨d,hd⟩:=mJ.1 k;injection a with a;subst a;have⟨R,hR,j⟩:=PT _ l (AK.flat hf) p;refine⟨.agg R,?_,.uk hGr⟩;simp only[Instr.build,Sem.run_bind,rn o,Result.andThen_ok,run_underlying i,IT hd];rw[hR];simp
     .cases a
    .cases a
   .cases e
  .cases e
 .cases e
def aas(P:Program)(h:aai)(t:TypeId)(len:Nat)(parts:List (Nat×vV)):Option (vV×aai):=
 match P.underlying t with
 |some (.slice e)=>
  match acd P e with
  |some z=>
   if z.cells.toList.all flat/\z.cells.size=UA P e/\(P.underlying e).isSome/\len*UA P e<=1000000/\len<=1000000 then
    match afZ (fun i=>Z (i*UA P e,UA P e)) (acY z.cells.toList len) parts with
    |some r=>match IF h r with|some (a,h')=>Z (sL (Z a) len len,h')|none=>Y
    |none=>Y
   else Y
  |none=>Y
 |_=>Y
theorem Mg{P:Program}(R:Rel W0 m h w){t:TypeId}{len:Nat}{ps b:List (Nat×vV)}{v:vV}{h':aai}(o:PRs h.next m ps b)(e:aas P h t len ps=Z (v,h')):OK P W0 m h w (Instr.buildSlice t len b.toArray) v h':=by
 unfold aas at e;split at e
 .rename_i el p;split at e
  .rename_i z q;split at e
   .rename_i s;have⟨hf,c,f,hlen,g⟩:=s;have⟨d,hd⟩:=mJ.1 f;split at e
    .rename_i r u;split at e
     .rename_i a h2 x;injection e with e;simp only[Gw]at e;obtain⟨rfl,rfl⟩:=e;have n:=MI z.cells len (len*UA P el) (by rw[c]);have⟨C,y,j⟩:=PT (C:=(Array.range (len*UA P el)).map (fun i=>z.cells[i%z.cells.size]!)) _ o (by grind[AK.flat,Ew]) u;have⟨A,a',w',B,h2,h3,D,E⟩:=rT (P:=P) R el j x;have k:(newRow el C).run P w=.ok a' w':=by simpa using B
      have l:len<UNK:=by grind[UNK]
      refine⟨A,sL (Z a') len len,w',?_,h2,h3,D,E.slice l⟩;have F:¬(2^24<len*UA P el):=NH;simp only[Instr.buildSlice,Sem.run_bind,run_underlying p,Result.andThen_ok,IT hd];rw[WA hGr];split
      .grind[Go.Sem.run_bind,Go.Sem.run_pure,Go.Result.andThen_ok]
      .simp only[Sem.run_bind,Sem.run_pure,Result.andThen_ok,rn q,y,k]
     .cases e
    .cases e
   .cases e
  .cases e
 .cases e
def aaK(P:Program)(h:aai)(t:TypeId)(a x:vV):Option aai:=
 match a with
 |.pointer (Z ⟨id,off,Y⟩)=>
  match h.own id with
  |some (.cells c)=>
   if x.cells.size=UA P t/\(P.underlying t).isSome/\off+x.cells.size<=c.length/\x.cells.toList.all (·.oneCell')then
    Z (h.put id (.cells (putCells c off x.cells.toList)))
   else Y
  |_=>Y
 |_=>Y
theorem VR.Pn{n:Nat}{m:abd}{v v':vV}(h:VR n m v v'):v'.cells.size=v.cells.size:=by have:=h.cells.1;grind
theorem aStore_ok{P:Program}(R:Rel W0 m h w){t:TypeId}{a a' x x':vV}{h':aai}(ha:VR h.next m a a')(f:VR h.next m x x')(e:aaK P h t a x=Z h'):
  ∃w',(Instr.storeAt t a' x').run P w=.ok () w'/\Rel W0 m h' w'/\h'.next=h.next:=by
 unfold aaK at e;split at e
 .rename_i id off;split at e
  .rename_i c g;split at e
   .rename_i i;obtain⟨l,h2,h3,j⟩:=i;obtain⟨d,hd⟩:=mJ.1 h2;injection e with e;subst e;cases ha with
    |flat hf=>grind[flat]
    |ptr k=>
     have b:x'.cells.size=UA P t:=by grind[VR.Pn]
     obtain⟨w',hw,R'⟩:=Rel.jW P x.cells.toList x'.cells.toList 0 R g (by simpa using h3) f.cells (f.cells.zK j);refine⟨w',?_,hGr,rfl⟩;simp[Instr.storeAt,Instr.sureAddr,storeVar,IT hd,b,hw]
   .cases e
  .cases e
 .cases e
def abl(P:Program)(h:aai)(t:TypeId)(l c:vV):Option (vV×aai):=
 match P.underlying t,l,c with
 |some (.slice e),.int _ l,.int _ c=>
  match acd P e with
  |some z=>
   if z.cells.toList.all flat/\z.cells.size=UA P e/\(P.underlying e).isSome/\0<=l/\l<=c/\(P.bytesOf e:Int)*c<=140737488355328/\c<=140737488355328 then
    match IF h (acY z.cells.toList c.toNat)with
    |some (a,h')=>Z (sL (Z a) l.toNat c.toNat,h')
    |none=>Y
   else Y
  |none=>Y
 |_,_,_=>Y
theorem info_of_underlying{P:Program}{t:TypeId}{d:TypeDesc}(a:P.underlying t=Z d):∃i,P.info? t=Z i/\P.bytesOf t=i.bytes/\UA P t=i.size:=by
 unfold Program.underlying at a;cases hi:P.info? t with
 |none=>grind
 |some i=>exact⟨i,rfl,by simp[Program.bytesOf,hi],by simp[UA,Program.cellsOf,hi]⟩
theorem ZU{P:Program}(R:Rel W0 m h w){t:TypeId}{l l' c c' v:vV}{h':aai}(x:VR h.next m l l')(y:VR h.next m c c')(e:abl P h t l c=Z (v,h')):OK P W0 m h w (Instr.makeSlice t l' c') v h':=by
 unfold abl at e;split at e
 .rename_i el k li k2 ci A;split at e
  .rename_i z B;split at e
   .rename_i b;have⟨hf,j,n,G,H,hb,C⟩:=b;have⟨d,hd⟩:=mJ.1 n;have⟨i,hi,o,D⟩:=info_of_underlying hd;split at e
    .rename_i a h2 E;injection e with e;simp only[Gw]at e;obtain⟨rfl,rfl⟩:=e;have:=x.Ja;subst this;have:=y.Ja;subst this;have f:=MI z.cells ci.toNat (ci.toNat*UA P el) (by rw[j]);have⟨F,a',w',g,p,q,r,s⟩:=rT (P:=P) R el (AK.flat (Ew _ _ hf ci.toNat)) E;have u:(newRow el ((Array.range (ci.toNat*UA P el)).map (fun i=>z.cells[i%z.cells.size]!))).run P w=.ok a' w':=by rw[<-f]at g;exact g
     refine⟨F,sL (Z a') li.toNat ci.toNat,w',?_,p,q,r,s.slice (by grind[UNK])⟩;have w1:IntKind.i64.wrap li=li:=by rw[<-Qt];grind[ie]
     have w2:IntKind.i64.wrap ci=ci:=by rw[<-Qt];grind[ie]
     rw[o]at hb;have n1:¬(ci<0):=NH;have I:(i.bytes:Int)*ci<=281474976710656:=NH;have n3:¬(li<0):=NH;have J:¬(ci<li):=NH;simp only[Instr.makeSlice,Sem.run_bind,run_underlying A,Result.andThen_ok,asInt,asIntOf,Sem.run_pure,typeInfo,run_program,hi,w1,w2];rw[WA hGr];simp only[Sem.run_bind,run_askRoom,Result.andThen_ok,IT hd];split
     .grind[Go.Sem.run_bind,Go.Sem.run_pure,Go.Result.andThen_ok]
     .simp only[Sem.run_bind,Sem.run_pure,Result.andThen_ok,rn B,u]
    .cases e
   .cases e
  .cases e
 .cases e
def acL:TypeDesc->Bool
 |.int _=>fF
 |_=>tT
theorem agv{P:Program}{t xt e:TypeId}{dx d:TypeDesc}(ty:TypeId)(f:P.underlying t=Z (.slice e))(g:P.underlying xt=Z dx)(i:acL dx=tT)(hd:P.underlying e=Z d){base:Option Addr}{sLen sCap n:Nat}{x':vV}{new:Array vV}{w w':World}(k:(Builtin.lenOf x').run P w=.ok n w)(c:(Builtin.firstCells (UA P e) n x').run P w=.ok new w)(b:sLen+n<=sCap)(j:(match base with|some a=>(storeCells (a.add (sLen*UA P e)) new.toList)|none=>pure ()).run P w=.ok () w'):
  (Builtin.append_ #[t,xt] ty #[.slice base sLen sCap,x']).run P w=.ok (.slice base (sLen+n) sCap) w':=by
 unfold Builtin.append_;simp only[Gg,pz,ah7,Sem.run_bind,run_underlying f,Result.andThen_ok,IT hd,Sem.run_pure,run_underlying g];grind[acL,Go.Result.andThen_ok,Go.Sem.run_bind,Go.Sem.run_pure]
theorem yD{P:Program}{t xt e:TypeId}{dx d:TypeDesc}(ty:TypeId){z:vV}(q:P.underlying t=Z (.slice e))(r:P.underlying xt=Z dx)(s:acL dx=tT)(hd:P.underlying e=Z d)(u:acd P e=Z z){base:Option Addr}{sLen sCap n:Nat}{x':vV}{qi new:Array vV}{w:World}(v:(Builtin.lenOf x').run P w=.ok n w)(c:(Builtin.firstCells (UA P e) n x').run P w.drew=.ok new w.drew)(hold:(Builtin.firstCells (UA P e) sLen (.slice base sLen sCap)).run P w.drew=.ok qi w.drew)(b:sCap<sLen+n)(hb:(sLen+n)*P.bytesOf e<=140737488355328)(A:sLen+n<=140737488355328):
  (Builtin.append_ #[t,xt] ty #[.slice base sLen sCap,x']).run P w=.ok (sL (Z ⟨w.heap.size,0,Y⟩) (sLen+n) (grownCap w (sLen+n) sCap e))
   (w.drew.alloc (.cells (qi++new++Builtin.zeroCells z.cells (grownCap w (sLen+n) sCap e-(sLen+n))) e)):=by
 have⟨i,hi,f,x⟩:=info_of_underlying hd;rw[f]at hb;have p:=growslice_fits b hb;have g:¬(sLen+n<=sCap):=NH;have j:¬(((sLen+n:Nat):Int)>IntKind.i64.max):=by simp[IntKind.max,IntKind.signed,IntKind.bits];omega
 have l:¬(Builtin.nextslicecap (sLen+n) sCap*i.bytes>2^48):=NH;have a:(Question.appendCap (sLen+n) sCap e).forced=fF:=rfl;have o:∀w,(typeInfo e).run P w=.ok i w:=fun w=>by simp[typeInfo,hi]
 unfold Builtin.append_;simp only[Gg,pz,ah7,Sem.run_bind,run_underlying q,Result.andThen_ok,IT hd,Sem.run_pure,run_underlying r];cases dx
 case int k=>grind[acL]
 all_goals
  simp only[ah9,if_false,v,Result.andThen_ok,g,Sem.run_bind,Sem.run_pure,qL253,if_true,o,j,false_and,l,run_choose,a,run_askRoom];have y:({w with drawn:=w.drawn+1}:World)=w.drew:=rfl;rw[y,hold];simp only[Result.andThen_ok,c,rn u,newRow,Sem.run_bind,run_newObj,Sem.run_pure];rfl
def aby(P:Program)(h:aai)(e:TypeId)(x:vV):Option (Nat×xLV):=
 match x with
 |.slice Y n _=>if n=0 then Z (0,[])else Y
 |.slice (Z a) n _=>match abN h a (n*UA P e)with|some l=>Z (n,l)|none=>Y
 |_=>Y
theorem VR.readable{n:Nat}{m:abd}{a:Addr}{len cap:Nat}{v':vV}(h:VR n m (sL (Z a) len cap) v'):
  ∃a' cap',v'=sL (Z a') len cap'/\(AR n m a a'\/len=0):=by
 cases h with
 |flat h=>simp[Fw.flat]at h
 |slice b c=>exact⟨_,_,rfl,.inl (.own b)⟩
 |buf b d ha=>exact⟨_,_,rfl,by rcases ha with⟨rfl,_⟩|e;exact .inl (.own b);grind⟩
 |esl c=>exact⟨_,_,rfl,.inl .ext⟩
 |empty=>grind
theorem VR.mh{n:Nat}{m:abd}{len cap:Nat}{v':vV}(h:VR n m (.slice Y len cap) v'):v'=.slice Y 0 0/\len=0/\cap=0:=by
 cases h with
 |flat h=>simp[Fw.flat]at h;obtain⟨rfl,rfl⟩:=h;exact⟨rfl,rfl,rfl⟩
def GB(h:aai)(size:Nat)(base:Option Addr)(len:Nat):Option xLV:=
 match base with
 |some a=>abN h a (len*size)
 |none=>Z []
def Rel.firstCells(R:Rel W0 m h w){P:Program}{a:Option Addr}{len cap size:Nat}{l:xLV}{x':vV}(d:VR h.next m (.slice a len cap) x')(c:GB h size a len=Z l):∃l',AK h.next m l l'/\(Builtin.firstCells size len x').run P w=.ok l'.toArray w:=by
 cases a with
 |none=>obtain⟨rfl,rfl,rfl⟩:=d.mh;simp[GB]at c;subst c;exact⟨[],.nil _ _,by simp[Builtin.firstCells]⟩
 |some a=>
  obtain⟨a',cap',rfl,b⟩:=d.readable;simp only[GB]at c;rcases b with b|e
  .obtain⟨l',f,h2⟩:=R.loadCells P b c;exact⟨l',f,by simpa[Builtin.firstCells]using h2⟩
  .subst e;simp[Fw.abN]at c;subst c;exact⟨[],.nil _ _,by simp[Builtin.firstCells,Go.loadCells,loadCellsFrom]⟩
def Vc(R:Rel W0 m h w){P:Program}{e:TypeId}{x x':vV}{n:Nat}{l:xLV}(b:VR h.next m x x')(hs:aby P h e x=Z (n,l)):
  (∀w,(Builtin.lenOf x').run P w=.ok n w)/\∃l',AK h.next m l l'/\(Builtin.firstCells (UA P e) n x').run P w=.ok l'.toArray w/\(x'≠.string ByteArray.empty->True):=by
 unfold aby at hs;split at hs
 .split at hs
  .rename_i f;subst f;simp at hs;obtain⟨rfl,rfl⟩:=hs;have⟨l',d,h2⟩:=R.firstCells (P:=P) (size:=UA P e) b (l:=[]) rfl;obtain⟨rfl,_,_⟩:=b.mh;exact⟨fun w=>by simp[Builtin.lenOf],l',d,h2,fun _=>trivial⟩
  .cases hs
 .rename_i a k c;split at hs
  .rename_i l0 g;simp at hs;obtain⟨rfl,rfl⟩:=hs;have⟨l',d,h2⟩:=R.firstCells (P:=P) (size:=UA P e) b (l:=l0) g;obtain⟨a',cap',rfl,i⟩:=b.readable;exact⟨fun w=>by simp[Builtin.lenOf],l',d,h2,fun _=>trivial⟩
  .cases hs
 .cases hs
def aaR(P:Program)(h:aai)(t xt:TypeId)(s x:vV):Option (vV×aai):=
 match P.underlying t,P.underlying xt,s with
 |some (.slice e),Z dx,.slice base len cap=>
  match acd P e,aby P h e x with
  |some z,Z (n,news)=>
   if z.cells.size=UA P e/\z.cells.toList.all (·.oneCell')/\(P.underlying e).isSome/\acL dx/\news.all (·.oneCell')/\(len+n)*P.bytesOf e<=140737488355328/\len+n<=140737488355328/\news.length=n*UA P e then
    if n=0 then(if len<=cap then Z (s,h)else Y)
    else if UNK<=cap then
     match base with
     |some ⟨id,off,Y⟩=>
      if cap=UNK+UA P e then
       match abN h ⟨id,off,Y⟩ (len*UA P e),h.own id with
       |some a,Z (.cells _)=>if a.all (·.oneCell')then Z (sL (Z h.next) (len+n) cap,(h.kill id).alloc (.cells (a++news)))else Y
       |_,_=>Y
      else Y
     |_=>Y
    else if len+n<=cap then
     match base with
     |some ⟨id,off,Y⟩=>
      match h.own id with
      |some (.cells c)=>if off+len*UA P e+news.length<=c.length then Z (.slice base (len+n) cap,h.put id (.cells (putCells c (off+len*UA P e) news)))else Y
      |_=>Y
     |_=>Y
    else
     match GB h (UA P e) base len with
     |some a=>if a.all (·.oneCell')then Z (sL (Z h.next) (len+n) (UNK+UA P e),h.alloc (.cells (a++news)))else Y
     |none=>Y
   else Y
  |_,_=>Y
 |_,_,_=>Y
theorem Jq{P:Program}(R:Rel W0 m h w){t xt e ty:TypeId}{dx d:TypeDesc}{z:vV}(O:P.underlying t=Z (.slice e))(B:P.underlying xt=Z dx)(D:acL dx=tT)(hd:P.underlying e=Z d)(Q:acd P e=Z z)(S:z.cells.size=UA P e)(E:z.cells.toList.all (·.oneCell')=tT){base:Option Addr}{len cap n:Nat}{x x' F:vV}{news a:xLV}{f:aai}(hs:VR h.next m (.slice base len cap) F)(T:VR h.next m x x')(s:aby P h e x=Z (n,news))(hold:GB h (UA P e) base len=Z a)(N:news.all (·.oneCell')=tT)(G:a.all (·.oneCell')=tT)(hb:(len+n)*P.bytesOf e<=140737488355328)(U:len+n<=140737488355328)(H:news.length=n*UA P e)(I:a.length=len*UA P e)(i:∀b c,F=.slice b len c->c<len+n)(J:f=h\/∃id,f=h.kill id):
  OK P W0 m h w (Builtin.append_ #[t,xt] ty #[F,x']) (sL (Z h.next) (len+n) (UNK+UA P e)) (f.alloc (.cells (a++news))):=by
 have⟨V,l',j,u,_⟩:=Vc R.drew T s;have⟨r,l,o⟩:=R.drew.firstCells (P:=P) hs hold;obtain⟨W,c',rfl,K⟩:=hs.YC;have hg:=i W c' rfl;have g:=yD (P:=P) ty O B D hd Q (V w) u o hg hb U;generalize y:grownCap w (len+n) c' e=C at g;have X:len+n<=C:=by grind[Go.grownCap_ge]
 have aa:C<UNK:=by
  have f:C<=maxLen:=by rw[<-y];exact grownCap_le_maxLen w (len+n) c' e (by unfold maxLen;omega)
  have h2:maxLen<UNK:=by decide
  omega
 have R1:Rel W0 m f w.drew:=by grind[Rel.drew,Rel.kill]
 have p:f.next=h.next:=by rcases J with A|⟨id,A⟩<;>rw[A]<;>rfl
 have L:(Builtin.zeroCells z.cells (C-(len+n))).toList=acY z.cells.toList (C-(len+n)):=MI _ _ _ rfl;have M:(Builtin.zeroCells z.cells (C-(len+n))).size=(C-(len+n))*UA P e:=by grind[jY]
 have R2:=R1.alloc (c:=a++news) (C:=r.toArray++l'.toArray++Builtin.zeroCells z.cells (C-(len+n))) e
  (by
   rw[p];have:(r.toArray++l'.toArray++Builtin.zeroCells z.cells (C-(len+n))).toList.take (a++news).length=r++l':=by
    have hlen:(a++news).length=(r++l').length:=by simp[l.1,j.1]
    grind
   grind[AK.append])
  (by simp[l.1,j.1])
  (by
   intro v q;simp only[Array.toList_append,vZ]at q;rcases q with(q|q)|q
   .grind[AK.zK]
   .grind[AK.zK]
   .rw[L]at q;exact QD.1 (Ew _ _ E _) v q)
 refine⟨_,_,_,g,R2,by grind[Qq],by show h.next<=f.next+1;omega,?_⟩
 show VR (f.next+1) _ _ _
 have:=VR.buf (n:=f.next+1) (m:=upd m f.next ⟨w.drew.heap.size,0,(r.toArray++l'.toArray++Builtin.zeroCells z.cells (C-(len+n))).size⟩) (id:=f.next) (off:=0) (len:=len+n) (k:=UA P e) (cap':=C) (a':=⟨w.heap.size,0,Y⟩) (agh _) X
  (.inl ⟨by rw[zf];rfl,by
   rw[zf];simp only[Array.size_append,size_toArray,M];have A:r.length=len*UA P e:=by rw[<-l.1,I]
   have e2:l'.length=n*UA P e:=by rw[<-j.1,H]
   rw[A,e2,<-dU,<-dU,show len+n+(C-(len+n))=C from by omega];grind⟩)
 grind
theorem Uk{P:Program}(R:Rel W0 m h w){t xt ty:TypeId}{s x s' x' v:vV}{h':aai}(hs:VR h.next m s s')(S:VR h.next m x x')(e:aaR P h t xt s x=Z (v,h')):
  OK P W0 m h w (Builtin.append_ #[t,xt] ty #[s',x']) v h':=by
 unfold aaR at e;split at e
 .rename_i el dx base len cap I q;split at e
  .rename_i z n news hz r;split at e
   .rename_i T;have⟨J,K,U,u,l,hb,hl,y⟩:=T;have⟨d,hd⟩:=mJ.1 U;have⟨V,l',A,B,_⟩:=Vc R S r;split at e
    .rename_i L;subst L;split at e
     .rename_i W;injection e with e;simp only[Gw]at e;obtain⟨rfl,rfl⟩:=e;obtain⟨b',c',rfl,X⟩:=hs.YC;have M:len<=c':=by
       cases hs<;>grind
      have aa:l'=[]:=im (by rw[<-A.1,y];simp);subst aa;have:=agv (P:=P) ty I q u hd (base:=b') (sLen:=len) (sCap:=c') (w':=w) (V w) B M (by cases b'<;>simp[storeCells]);exact⟨m,_,w,this,R,.refl _ _,qL0 _,hs⟩
     .cases e
    .rename_i L;split at e
     .rename_i N;split at e
      .rename_i id off;split at e
       .rename_i aF;split at e
        .rename_i o c hold p;split at e
         .rename_i f;injection e with e;simp only[Gw]at e;obtain⟨rfl,rfl⟩:=e;have g:=tF _ _ _ _ hold;have ae:=hs;cases hs with
          |flat hf=>grind[flat]
          |slice _ _=>omega
          |empty=>grind[UNK]
          |@buf _ _ _ k cap' a' D W ha=>
           have hk:k=UA P el:=NH;subst hk;by_cases a:len+n<=cap'
           .obtain⟨rfl,aH⟩:=ha.resolve_right NH;have⟨C,ce,lo,hi,O,aK,aL,aN,aP,ai⟩:=R.own id _ p;have aj:l'.length=n*UA P el:=by rw[<-A.1,y]
            have hmul:len*UA P el+n*UA P el<=cap'*UA P el:=by rw[<-dU];exact WS _ a
            have⟨w',aT,aq,ar,av,ay⟩:=HG P (m id).blk ce lo hi l' 0 ((m id).base+off+len*UA P el) C w O hGr (A.zK l) ai;have i:=agv (P:=P) ty I q u hd (base:=Z ⟨(m id).blk,(m id).base+off,Y⟩) (sLen:=len) (sCap:=cap') (w':=w') (V w) B a (by grind[agQ]);have aW:(m id).base+off+len*UA P el+l'.length<=C.toList.length:=hGr;have Q:(acC C ((m id).base+off+len*UA P el+0) l').toList=C.toList.take ((m id).base+off+len*UA P el)++l'++C.toList.drop ((m id).base+off+len*UA P el+l'.length):=by grind[GC,IW]
            have⟨H,E,az⟩:=R.abN _ (AR.own D) hold;have F:(C.toList.drop ((m id).base+off)).take (len*UA P el)=H:=by
             apply EH;intro j;by_cases hj:j<len*UA P el
             .have aC:j<H.length:=by rw[<-E.1,g];exact hj
              have:=az j H[j] (Gc aC);rw[agQ]at this;simp only[World.cell?,O]at this;grind
             .rw[Qn (by simp;omega),Qn (by rw[<-E.1,g];omega)]
            have G:=R.allocMove (w':=w') (id:=id) p (C':=acC C ((m id).base+off+len*UA P el+0) l') (e:=ce) (lo:=lo) (hi:=hi) (base:=(m id).base+off) (c2:=o++news)
             aq (by grind[afB])
             (by grind[AK.zK])
             (by grind[afB])
             (by grind[afB])
             (by
              have:((acC C ((m id).base+off+len*UA P el+0) l').toList.drop ((m id).base+off)).take (o++news).length=H++l':=by
               rw[Q,ah6,drop_append_of_le_length hGr];have e1:(C.toList.take ((m id).base+off+len*UA P el)).drop ((m id).base+off)=H:=by rw[<-F,qL254];grind
               rw[e1,aaf,g,y,<-ah6];have e2:len*UA P el+n*UA P el=(H++l').length:=by rw[aaf,<-E.1,g,aj]
               grind
              grind[AK.append])
             ar av ay
            refine⟨_,_,w',i,G,Qq _ _ _,alS _,?_⟩
            have hv:=VR.buf (n:=h.next+1) (m:=upd m h.next ⟨(m id).blk,(m id).base+off,(m id).lim⟩) (id:=h.next) (off:=0) (len:=len+n) (k:=UA P el) (cap':=cap') (a':=⟨(m id).blk,(m id).base+off,Y⟩) (agh _) a
             (.inl ⟨by grind[zf],by grind[zf]⟩)
            exact hv
           .exact Jq R I q u hd hz J K ae S r hold l f hb hl y g hGr (.inr ⟨id,rfl⟩)
         .cases e
        .cases e
       .cases e
      .cases e
     .rename_i N;split at e
      .rename_i a;split at e
       .rename_i id off;split at e
        .rename_i c p;split at e
         .rename_i aJ;injection e with e;simp only[Gw]at e;obtain⟨rfl,rfl⟩:=e;cases hs with
          |flat hf=>grind[flat]
          |buf _ _ _=>omega
          |empty=>omega
          |slice D T=>have⟨w',hw,R'⟩:=Rel.jW P news l' 0 R (off:=off+len*UA P el) p hGr A (A.zK l);have i:=agv (P:=P) ty I q u hd (base:=Z ⟨(m id).blk,(m id).base+off,Y⟩) (sLen:=len) (sCap:=cap) (w':=w') (V w) B a (by grind[agQ]);exact⟨m,_,w',i,hGr,.refl _ _,qL0 _,.slice D T⟩
         .cases e
        .cases e
       .cases e
      .rename_i a;split at e
       .rename_i o hold;split at e
        .rename_i f;injection e with e;simp only[Gw]at e;obtain⟨rfl,rfl⟩:=e;have g:o.length=len*UA P el:=by
          cases base<;>grind[VR.mh,GB,tF]
         refine Jq R I q u hd hz J K hs S r hold l f hb hl y g ?_ (.inl rfl);intro b c aD;subst aD;cases hs<;>grind
        .cases e
       .cases e
   .cases e
  .cases e
 .cases e
def afj:vV->Option Nat
 |.slice _ n _=>Z n
 |_=>Y
def Ak{n:Nat}{m:abd}{P:Program}{x x':vV}{k:Nat}(a:VR n m x x')(e:afj x=Z k)(w:World):(Builtin.lenOf x').run P w=.ok k w:=by
 unfold afj at e;split at e
 .injection e with e;subst e;obtain⟨a',c',rfl,_⟩:=a.YC;simp[Builtin.lenOf]
 .cases e
def afE(h:aai)(size n:Nat)(x:vV):Option xLV:=
 match x with
 |.slice (Z a) len _=>if n<=len then abN h a (n*size)else Y
 |_=>Y
def Y8(R:Rel W0 m h w){P:Program}{size n:Nat}{x x':vV}{l:xLV}(b:VR h.next m x x')(d:n≠0)(e:afE h size n x=Z l):
  ∃l',AK h.next m l l'/\(Builtin.firstCells size n x').run P w=.ok l'.toArray w:=by
 unfold afE at e;split at e
 .split at e
  .rename_i hle;obtain⟨a',c',rfl,a⟩:=b.readable;have⟨l',c,h2⟩:=R.loadCells P (a.resolve_right NH) e;exact⟨l',c,by simpa[Builtin.firstCells]using h2⟩
  .cases e
 .cases e
def afo(P:Program)(h:aai)(t:TypeId)(dst src:vV):Option (vV×aai):=
 match P.underlying t,dst,afj src with
 |some (.slice e),.slice base a _,Z sLen=>
  if(P.underlying e).isSome then
   if min sLen a=0/\UA P e≠0 then Z (.int .i64 0,h)
   else
    match base,afE h (UA P e) (min sLen a) src with
    |some ⟨id,off,Y⟩,Z l=>
     match h.own id with
     |some (.cells c)=>if off+l.length<=c.length/\l.all (·.oneCell')/\min sLen a≠0 then Z (.int .i64 (min sLen a:Nat),h.put id (.cells (putCells c off l)))else Y
     |_=>Y
    |_,_=>Y
  else Y
 |_,_,_=>Y
theorem aCopy_ok{P:Program}(R:Rel W0 m h w){t:TypeId}{ats:Array TypeId}(g:ats[0]?=Z t){ty:TypeId}{d s y p v:vV}{h':aai}(hd:VR h.next m d y)(hs:VR h.next m s p)(e:afo P h t d s=Z (v,h')):
  OK P W0 m h w (Builtin.copy_ ats ty #[y,p]) v h':=by
 unfold afo at e;split at e
 .rename_i el base a z sLen A b;split at e
  .rename_i q;have⟨I,i⟩:=mJ.1 q;have B:=Ak (P:=P) hs b;split at e
   .rename_i r;have⟨r,D⟩:=r;injection e with e;simp only[Gw]at e;obtain⟨rfl,rfl⟩:=e;obtain⟨a',c',rfl,_⟩:=hd.YC;have hf:(Builtin.firstCells (UA P el) 0 p).run P w=.ok #[] w:=by
     unfold afj at b;split at b
     .obtain⟨E,F,rfl,_⟩:=hs.YC;cases E<;>simp[Builtin.firstCells,Go.loadCells,loadCellsFrom]
     .cases b
    refine OK.pure R ⟨.int .i64 0,?_,.flat rfl⟩;unfold Builtin.copy_;simp only[g,Gg,pz,ah7,Sem.run_bind,run_underlying A,Result.andThen_ok,B,IT i];rw[show Nat.min sLen a=0 from r,hf];cases a'<;>simp[storeCells,goInt]
   .split at e
    .rename_i id off l u;split at e
     .rename_i c j;split at e
      .rename_i G;have⟨C,k,x⟩:=G;injection e with e;simp only[Gw]at e;obtain⟨rfl,rfl⟩:=e;have⟨l',n,o⟩:=Y8 R (P:=P) hs x u;obtain⟨a',c',rfl,f⟩:=hd.readable;have f:=f.resolve_right NH;cases f with
       |own H=>have⟨w',hw,R'⟩:=Rel.jW P l l' 0 R (off:=off) j hGr n (n.zK k);refine⟨m,(min sLen a:Nat),w',?_,hGr,.refl _ _,qL0 _,.flat rfl⟩;unfold Builtin.copy_;simp only[g,Gg,pz,ah7,Sem.run_bind,run_underlying A,Result.andThen_ok,B,IT i];rw[show Nat.min sLen a=min sLen a from rfl,o];simp only[Result.andThen_ok,hw,Sem.run_pure,goInt]
      .cases e
     .cases e
    .cases e
  .cases e
 .cases e
def aeh(P:Program)(h:aai)(t:TypeId)(x:vV):Option vV:=
 match P.underlying t,x with
 |some (.array n _),_=>Z (.int .i64 n)
 |some (.slice _),.slice _ n _=>Z (.int .i64 n)
 |some (.map _ _),.map Y=>Z (.int .i64 0)
 |some (.map _ _),.map (Z r)=>match h.own r with|some (.map es)=>Z (.int .i64 es.length)|_=>Y
 |_,_=>Y
def Rel.mD(R:Rel W0 m h w){r:Nat}{es:List (vV×vV)}(b:h.own r=Z (.map es)){P:Program}:
  ∃E clock,w.heap[(m r).blk]?=Z (.map E clock)/\(getObj (m r).blk).run P w=.ok (.map E clock) w/\AK h.next m (es.map (·.1)) (E.toList.map (·.key))/\AK h.next m (es.map (·.2)) (E.toList.map (·.val)):=by
 obtain⟨E,clock,a,h2,h3,-⟩:=R.own r _ b;exact⟨E,clock,a,by simp[getObj,Sem.run,a],h2,h3⟩
def Rel.born(R:Rel W0 m h w){r:Nat}{es:List (vV×vV)}(b:h.own r=Z (.map es)){E:Array MapEntry}{clock:Nat}(hb:w.heap[(m r).blk]?=Z (.map E clock)):aek E clock:=by have⟨E',clock',a,h2,h3,c⟩:=R.own r _ b;rw[hb]at a;injection a with a;injection a with a d;subst a d;exact c
theorem aek.push{E:Array MapEntry}{clock:Nat}(b:aek E clock)(k v:vV):aek (E.push {key:=k,val:=v,born:=clock}) (clock+1):=by
 obtain⟨rfl,h⟩:=b;refine⟨Ma,fun i a e=>?_⟩;rw[Array.getElem?_push]at e;split at e
 .rename_i hi;injection e with e;subst e;exact hi.symm
 .exact h i a e
def aek.modify{E:Array MapEntry}{clock:Nat}(b:aek E clock)(j:Nat)(f:MapEntry->MapEntry)(hf:∀a,(f a).born=a.born):aek (E.modify j f) clock:=by
 obtain⟨rfl,h⟩:=b;refine⟨Ma,fun i a e=>?_⟩;rw[aeu]at e;split at e
 .cases c:E[i]? with
  |none=>rw[c]at e;cases e
  |some x=>rw[c]at e;injection e with e;subst e;rw[hf];exact h i x c
 .exact h i a e
theorem aLen_rel(R:Rel W0 m h w){P:Program}{t:TypeId}{x x' v:vV}{ats:Array TypeId}(b:ats[0]?=Z t){ty:TypeId}(f:VR h.next m x x')(e:aeh P h t x=Z v):
  ∃v',(Builtin.len_ ats ty #[x']).run P w=.ok v' w/\VR h.next m v v':=by
 unfold aeh at e;split at e
 .rename_i n el d;injection e with e;subst e;refine⟨n,?_,.flat rfl⟩;unfold Builtin.len_;simp only[b,Gg,pz,Sem.run_bind,run_underlying d,Result.andThen_ok,Sem.run_pure,goInt]
 .rename_i el a n c d;injection e with e;subst e;obtain⟨a',c',rfl,_⟩:=f.YC;exact⟨_,by simp[Builtin.len_,b,run_underlying d,goInt],.flat rfl⟩
 .rename_i d;injection e with e;subst e;cases f with|flat _=>exact⟨_,by simp[Builtin.len_,b,run_underlying d,goInt],.flat rfl⟩
 .rename_i r d;split at e
  .rename_i es g;injection e with e;subst e;cases f with
   |flat hf=>grind[flat]
   |map j=>
    have⟨E,clock,_,i,h2,_⟩:=R.mD (P:=P) g;have hlen:E.size=es.length:=by have:=h2.1;grind
    exact⟨es.length,by simp[Builtin.len_,b,run_underlying d,i,goInt,hlen],.flat rfl⟩
  .cases e
 .cases e
def agw:vV->xLV->Option vV
 |x,[]=>Z x
 |.int k a,.int c b::r=>if k=c then agw (.int k (if b<a then b else a)) r else Y
 |_,_=>Y
def LZ:vV->xLV->Option vV
 |x,[]=>Z x
 |.int k a,.int c b::r=>if k=c then LZ (.int k (if b>a then b else a)) r else Y
 |_,_=>Y
theorem TZ{n:Nat}{m:abd}{P:Program}:∀(r c:xLV){x x' v:vV},VR n m x x'->AK n m r c->agw x r=Z v->∀w,∃v',(c.foldlM Builtin.min2 x').run P w=.ok v' w/\VR n m v v'
 |[],c,x,x',v,f,d,e,w=>by have:c=[]:=im (by rw[<-d.1];rfl);subst this;simp[agw]at e;subst e;exact⟨x',Ma,f⟩
 |y::r,[],x,x',v,f,d,e,w=>by grind[AK]
 |y::r,i::c,x,x',v,f,d,e,w=>by
  have j:VR n m y i:=d.2 0 y i rfl rfl;have g:AK n m r c:=by simpa using d.drop 1
  cases x<;>cases y<;>simp only[agw]at e<;>try cases e
  split at e
  .rename_i k a p b l;subst l;have:=f.Ja;subst this;have:=j.Ja;subst this;obtain⟨v',o,h2⟩:=TZ r c (.flat rfl) g e w;exact⟨v',by simp only[List.foldlM_cons,Builtin.min2,Sem.run_bind,Sem.run_pure,Result.andThen_ok];exact o,h2⟩
  .cases e
theorem td{n:Nat}{m:abd}{P:Program}:∀(r c:xLV){x x' v:vV},VR n m x x'->AK n m r c->LZ x r=Z v->∀w,∃v',(c.foldlM Builtin.max2 x').run P w=.ok v' w/\VR n m v v'
 |[],c,x,x',v,f,d,e,w=>by have:c=[]:=im (by rw[<-d.1];rfl);subst this;simp[LZ]at e;subst e;exact⟨x',Ma,f⟩
 |y::r,[],x,x',v,f,d,e,w=>by grind[AK]
 |y::r,i::c,x,x',v,f,d,e,w=>by
  have j:VR n m y i:=d.2 0 y i rfl rfl;have g:AK n m r c:=by simpa using d.drop 1
  cases x<;>cases y<;>simp only[LZ]at e<;>try cases e
  split at e
  .rename_i k a p b l;subst l;have:=f.Ja;subst this;have:=j.Ja;subst this;obtain⟨v',o,h2⟩:=td r c (.flat rfl) g e w;exact⟨v',by simp only[List.foldlM_cons,Builtin.max2,Sem.run_bind,Sem.run_pure,Result.andThen_ok];exact o,h2⟩
  .cases e
def acX(P:Program)(h:aai)(src dst:TypeId)(x:vV):Option (vV×aai):=
 match P.underlying src,P.underlying dst,x with
 |some _,Z (.int k),.int _ n=>Z (.int k (aaY k n),h)
 |_,_,_=>Y
theorem Mu{P:Program}(R:Rel W0 m h w){src dst:TypeId}{x x' v:vV}{h':aai}(hx:VR h.next m x x')(e:acX P h src dst x=Z (v,h')) :
  OK P W0 m h w (convert src dst x') v h':=by
 unfold acX at e
 split at e
 ·rename_i ds k k0 n hs hd
  injection e with e; simp only [Prod.mk.injEq] at e; obtain ⟨rfl,rfl⟩:=e
  have:=hx.Ja; subst this
  refine OK.pure R ⟨.int k (aaY k n),?_,.flat rfl⟩
  unfold convert
  simp only [Sem.run_bind,run_underlying hs,run_underlying hd,Result.andThen_ok]
  cases ds <;> simp [Conv.intToInt,Qt]
 ·cases e
def aeU(k:IntKind)(z:Int):List (vV×vV)->Nat->Option (Option (Nat×vV))
 |[],_=>Z Y
 |(.int a z',v)::r,i=>if k=a then(if z=z' then Z (Z (i,v))else aeU k z r (i+1))else Y
 |_::_,_=>Y
theorem pX{n:Nat}{m:abd}{kk k:IntKind}{z:Int}:∀(es:List (vV×vV))(E:List MapEntry)(i:Nat),AK n m (es.map (·.1)) (E.map (·.key))->AK n m (es.map (·.2)) (E.map (·.val))->∀r,aeU k z es i=Z r->
  (r=Y/\Instr.findNow (.int kk) (.int k z) E i=Z Y)\/∃j v v',r=Z (j,v)/\Instr.findNow (.int kk) (.int k z) E i=Z (Z (j,v'))/\VR n m v v'/\i<=j/\(es[j-i]?).map (·.1)=Z (.int k z)
 |[],E,i,b,c,r,e=>by
  have:E=[]:=by have:=b.1;grind
  subst this;simp[aeU]at e;subst e;exact .inl ⟨rfl,rfl⟩
 |(a,v)::es,[],i,b,c,r,e=>by grind[AK]
 |(a,v)::es,d::E,i,b,c,r,e=>by
  cases a<;>simp only[aeU]at e<;>try cases e
  rename_i x z';have y:VR n m (.int x z') d.key:=b.2 0 _ _ rfl rfl;have h2:VR n m v d.val:=c.2 0 _ _ rfl rfl;have p:=y.Ja;split at e
  .rename_i f;subst f;split at e
   .rename_i q;subst q;injection e with e;subst e;refine .inr ⟨i,v,d.val,rfl,?_,h2,qL0 _,Ma⟩;simp[Instr.findNow,Instr.sameNow,p]
   .rename_i q;have g:AK n m (es.map (·.1)) (E.map (·.key)):=by simpa using b.drop 1
    have l:AK n m (es.map (·.2)) (E.map (·.val)):=by simpa using c.drop 1
    have o:(z==z')=fF:=hGr;have hs:Instr.findNow (.int kk) (.int k z) (d::E) i=Instr.findNow (.int kk) (.int k z) E (i+1):=by simp[Instr.findNow,Instr.sameNow,p,o]
    rcases pX es E (i+1) g l r e with⟨s,t⟩|⟨j,u,u',s,t,A,B,C⟩
    .exact .inl ⟨s,hs.trans t⟩
    grind
  .cases e
def acR(P:Program)(h:aai)(t:TypeId)(x i:vV)(ok:Bool):Option vV:=
 match P.underlying t,x,i with
 |some (.map b c),.map (Z r),.int k z=>
  match P.underlying b,h.own r,acd P c with
  |some (.int _),Z (.map es),Z a=>
   if flat a then
    match aeU k z es 0 with
    |some (Z (_,v))=>Z (bif ok then .tuple #[v,.bool tT]else v)
    |some Y=>Z (bif ok then .tuple #[a,.bool fF]else a)
    |none=>Y
   else Y
  |_,_,_=>Y
 |_,_,_=>Y
def BD{P:Program}{a:TypeId}{kk k:IntKind}{z:Int}(c:P.underlying a=Z (.int kk))(b:Bool)(n:Nat)(w:World):(Instr.checkKey b (n+1) a (.int k z)).run P w=.ok () w:=by unfold Instr.checkKey;rw[Sem.run_bind,run_underlying c];simp
theorem agp{P:Program}(R:Rel W0 m h w){t:TypeId}{x i x' f v:vV}{ok:Bool}(n:VR h.next m x x')(hi:VR h.next m i f)(e:acR P h t x i ok=Z v):
  ∃v',(Instr.lookup t x' f ok).run P w=.ok v' w/\VR h.next m v v':=by
 unfold acR at e;split at e
 .rename_i p s r k z y;split at e
  .rename_i kk es g d A B;split at e
   .rename_i c;have:=hi.Ja;subst this;cases n with
    |flat hf=>grind[flat]
    |map G=>
     have⟨E,clock,_,C,h2,h3⟩:=R.mD (P:=P) A
     have a:(Instr.lookup t (.map (Z (m r).blk)) (.int k z) ok).run P w=((do
       let(v,o) <-match<-Instr.findKey p (.int k z) E.toList with
        |some (_,v)=>pure (v,tT)
        |none=>pure (<-zeroValue s,fF)
       pure (if ok then .tuple #[v,.bool o]else v):Sem vV)).run P w:=by
      unfold Instr.lookup;simp only[Sem.run_bind,run_underlying y,Result.andThen_ok,C,Sem.run_pure];rw[BD d];rfl
     split at e
     .rename_i j u hf;injection e with e;subst e;rcases pX (kk:=kk) es E.toList 0 h2 h3 _ hf with⟨q,_⟩|⟨D,u1,u',b,F,l,_⟩
      .cases q
      .injection b with b;simp only[Gw]at b;obtain⟨rfl,rfl⟩:=b
       refine⟨if ok then .tuple #[u',.bool tT]else u',?_,?_⟩
       .rw[a];simp only[Instr.findKey,Sem.run_bind,run_underlying d,Result.andThen_ok,F,Sem.run_pure]
       .cases ok
        .exact l
        .exact .qY (.cons l (.cons (.flat rfl) (.nil _ _)))
     .rename_i hf;injection e with e;subst e;rcases pX (kk:=kk) es E.toList 0 h2 h3 _ hf with⟨_,q⟩|⟨D,u1,u',b,_⟩
      .refine⟨if ok then .tuple #[g,.bool fF]else g,?_,?_⟩
       .rw[a];simp only[Instr.findKey,Sem.run_bind,run_underlying d,Result.andThen_ok,q,Sem.run_pure,rn B]
       .cases ok
        .exact .flat c
        .exact .qY (.cons (.flat c) (.cons (.flat rfl) (.nil _ _)))
      .cases b
     .cases e
   .cases e
  .cases e
 .cases e
def acM(P:Program)(h:aai)(t:TypeId)(x i v:vV):Option aai:=
 match P.underlying t,x,i with
 |some (.map a _),.map (Z r),.int k z=>
  match P.underlying a,h.own r with
  |some (.int _),Z (.map es)=>
   match aeU k z es 0 with
   |some (Z (j,_))=>Z (h.put r (.map (es.set j (.int k z,v))))
   |some Y=>Z (h.put r (.map (es++[(.int k z,v)])))
   |none=>Y
  |_,_=>Y
 |_,_,_=>Y
theorem Rel.HF(R:Rel W0 m h w){r:Nat}{es f:List (vV×vV)}{E E':Array MapEntry}{clock clock':Nat}(p:h.own r=Z (.map es))(hb:w.heap[(m r).blk]?=Z (.map E clock))(q:AK h.next m (f.map (·.1)) (E'.toList.map (·.key)))(s:AK h.next m (f.map (·.2)) (E'.toList.map (·.val)))(hB:aek E' clock'):
  Rel W0 m (h.put r (.map f)) {w with heap:=w.heap.setIfInBounds (m r).blk (.map E' clock')}:=by
 have l:h.own r≠Y:=by rw[p];simp
 have a:∀i,(h.put r (.map f)).own i≠Y->h.own i≠Y:=by grind[aai.By]
 have t:(m r).blk<w.heap.size:=(Fu.1 hb).1;have g:∀b,b≠(m r).blk->(w.heap.setIfInBounds (m r).blk (.map E' clock'))[b]?=w.heap[b]?:=fun b u=>by grind
 refine⟨by simpa using R.size,fun b sZ=>?_,R.ext,fun i d=>R.lt i (a i d),fun i d=>R.new i (a i d),fun i o c=>?_,fun i j d n=>R.inj i j (a i d) (a j n),R.os,R.output,R.tape,R.aah.put a (fun b _ hb=>g b (fun e=>hb r l e.symm))⟩
 .grind[Rel.new,Rel.qi]
 .by_cases k:i=r
  .subst k;rw[aai.Y3]at c;injection c with c;subst c;exact⟨E',clock',hGr,q,s,hB⟩
  .rw[aai.By _ _ _ _ k]at c;exact Rel.JP (R.own i o c) (qL0 _) (ZK.refl _ _) (g _ (fun e=>k (R.inj i r hGr l e)))
theorem run_setObj_map{P:Program}{w:World}{r:Nat}{es:Array MapEntry}{clock:Nat}(o:Obj)(hb:w.heap[r]?=Z (.map es clock)):(setObj r o).run P w=.ok () {w with heap:=w.heap.setIfInBounds r o}:=by simp[setObj,Sem.run,hb]
theorem Um{P:Program}(R:Rel W0 m h w){t:TypeId}{x i v x' g v':vV}{h':aai}(p:VR h.next m x x')(hi:VR h.next m i g)(s:VR h.next m v v')(e:acM P h t x i v=Z h'):
  ∃w',(Instr.mapUpdate t x' g v').run P w=.ok () w'/\Rel W0 m h' w'/\h'.next=h.next:=by
 unfold acM at e;split at e
 .rename_i H I r k z l;split at e
  .rename_i kk es d b;have:=hi.Ja;subst this;cases p with
   |flat hf=>grind[flat]
   |map J=>
    have⟨E,clock,hb,n,h2,h3⟩:=R.mD (P:=P) b;split at e
    .rename_i j u hf;injection e with e;subst e;rcases pX (kk:=kk) es E.toList 0 h2 h3 _ hf with⟨q,_⟩|⟨y,u1,u',a,A,K,_,B⟩
     .cases q
     .injection a with a;simp only[Gw]at a;obtain⟨rfl,rfl⟩:=a;rw[qL261]at B;have C:j<es.length:=by
       cases L:es[j]?<;>grind
      have hlen:E.toList.length=es.length:=by have:=h2.1;grind
      have D:j<E.size:=hGr;have hold:E[j].key=.int k z:=by have o:es[j].1=.int k z:=hGr;have:=h2.2 j (.int k z) E[j].key hGr hGr;exact this.Ja
      have f:((E[j]?).map (·.key)).getD (.int k z)=.int k z:=hGr;refine⟨_,?_,R.HF (E':=E.modify j fun c=>{c with key:=.int k z,val:=v'}) (clock':=clock) b hb ?_ ?_ ((R.born b hb).modify _ _ fun _=>rfl),rfl⟩
      .unfold Instr.mapUpdate;simp only[Sem.run_bind,run_underlying l,Result.andThen_ok,n];rw[BD d];simp only[Result.andThen_ok,Instr.findKey,Sem.run_bind,run_underlying d,A,Sem.run_pure,f];have F:(Instr.keyThatStays (.int k z) (.int k z)).run P w=.ok (.int k z) w:=by simp[Instr.keyThatStays,Instr.sameBits]
       grind[Go.Result.andThen_ok,run_setObj_map]
      .have:=h2.set j (x:=.int k z) (x':=.int k z) (.flat rfl);refine(?_:AK _ _ _ _);have o:(es.set j (.int k z,v)).map (·.1)=(es.map (·.1)).set j (.int k z):=by rw[ak3]
       have G:((E.modify j fun c=>{c with key:=.int k z,val:=v'}).toList.map (·.key))=(E.toList.map (·.key)).set j (.int k z):=by apply EH;grind
       grind
      .have:=h3.set j (x:=v) (x':=v') s;have o:(es.set j (.int k z,v)).map (·.2)=(es.map (·.2)).set j v:=by rw[ak3]
       have G:((E.modify j fun c=>{c with key:=.int k z,val:=v'}).toList.map (·.val))=(E.toList.map (·.val)).set j v':=by apply EH;grind
       grind
    .rename_i hf;injection e with e;subst e;rcases pX (kk:=kk) es E.toList 0 h2 h3 _ hf with⟨_,q⟩|⟨y,u1,u',a,_⟩
     .refine⟨_,?_,R.HF (E':=E.push {key:=.int k z,val:=v',born:=clock}) (clock':=clock+1) b hb ?_ ?_ ((R.born b hb).push _ _),rfl⟩
      .unfold Instr.mapUpdate;simp only[Sem.run_bind,run_underlying l,Result.andThen_ok,n];rw[BD d];simp only[Result.andThen_ok,Instr.findKey,Sem.run_bind,run_underlying d,q,Sem.run_pure];grind[run_setObj_map]
      all_goals grind[AK.append,AK.cons,AK.nil]
     .cases a
    .cases e
  .cases e
 .cases e
end
end Go.Fw
