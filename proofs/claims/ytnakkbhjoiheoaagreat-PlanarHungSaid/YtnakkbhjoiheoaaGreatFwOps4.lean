/- A text. -/
import Derived.Laws.BytesString
import Derived.Test.YtnakkbhjoiheoaaGreatFwZE
set_option linter.all false
set_option maxRecDepth 99999
set_option maxHeartbeats 9999999
open Option renaming some→Z,none→Y
open Bool renaming true→tT,false→fF
open Go.Value renaming slice→sL,pointer→pT
open Go renaming Value→vV
open List
namespace Go.Fw
section
variable{W0:LA}{m:abd}{h:aai}{w:World}
def OK(P:Program)(W0:LA)(m:abd)(h:aai)(w:World)(s:Sem vV)(v:vV)(h':aai):Prop:=∃a v' w',s.run P w=.ok v' w'/\Rel W0 a h' w'/\ZK h.next m a/\h.next<=h'.next/\VR h'.next a v v'
def OK.pure{P:Program}{s:Sem vV}{v:vV}(R:Rel W0 m h w)(e:∃v',s.run P w=.ok v' w/\VR h.next m v v'):OK P W0 m h w s v h:=let⟨v',a,h2⟩:=e;⟨m,v',w,a,R,.refl _ _,qL0 _,h2⟩
def acd(P:Program)(t:TypeId):Option vV:=match P.info? t with|some i=>i.zero|none=>Y
def rn{P:Program}{t:TypeId}{z:vV}(a:acd P t=Z z)(w:World):(zeroValue t).run P w=.ok z w:=by
 unfold acd at a;split at a
 .rename_i i hi;simp[zeroValue,typeInfo,hi,a]
 .cases a
def IF(h:aai)(c:xLV):Option (Addr×aai):=if c.all (·.oneCell')then Z (⟨h.next,0,Y⟩,h.alloc (.cells c))else Y
def rT{P:Program}(R:Rel W0 m h w){c C:xLV}{a:Addr}{h':aai}(e:TypeId)(f:AK h.next m c C)(b:IF h c=Z (a,h')):
  ∃d a' w',(newRow e C.toArray).run P w=.ok a' w'/\Rel W0 d h' w'/\ZK h.next m d/\h.next<=h'.next/\AR h'.next d a a':=by
 unfold IF at b;split at b
 .rename_i g;injection b with b;simp only[abW]at b;obtain⟨rfl,rfl⟩:=b
  refine⟨upd m h.next ⟨w.heap.size,0,C.length⟩,⟨w.heap.size,0,Y⟩,w.alloc (.cells C.toArray e),by simp[newRow],R.alloc_eq e f g,Qq _ _ _,ahG _,?_⟩
  have:=AR.own (n:=h.next+1) (m:=upd m h.next ⟨w.heap.size,0,C.length⟩) (id:=h.next) (off:=0) (adN _)
  rw[zf]at this;exact this
 .cases b
def abO(P:Program)(h:aai)(t:TypeId):Option (vV×aai):=
 match acd P t with
 |some z=>if z.cells.toList.all flat then match IF h z.cells.toList with|some (a,h')=>Z (pT (Z a),h')|none=>Y else Y
 |none=>Y
theorem aAlloc_ok{P:Program}(R:Rel W0 m h w){t:TypeId}{v:vV}{h':aai}(e:abO P h t=Z (v,h')):OK P W0 m h w (Instr.alloc t tT (.tuple #[])) v h':=by
 unfold abO at e;split at e
 .rename_i z c;split at e
  .rename_i hf;split at e
   .rename_i a h2 d;injection e with e;simp only[abW]at e;obtain⟨rfl,rfl⟩:=e;have⟨f,a',w',g,h2,h3,i,j⟩:=rT (P:=P) R t (AK.flat hf) d;refine⟨f,pT (Z a'),w',?_,h2,h3,i,j.ptr⟩;have b:(newRow t z.cells).run P w=.ok a' w':=by simpa using g
    simp[Instr.alloc,rn c,newVar,b]
   .cases e
  .cases e
 .cases e
def zF(h:aai)(x:vV):Option (vV×aai):=match IF h x.cells.toList with|some (a,h')=>Z (pT (Z a),h')|none=>Y
def aBox_ok{P:Program}(R:Rel W0 m h w){t:TypeId}{x x' v:vV}{h':aai}(c:VR h.next m x x')(e:zF h x=Z (v,h')):OK P W0 m h w (Instr.box t x') v h':=by
 unfold zF at e;split at e
 .rename_i a h2 d;injection e with e;simp only[abW]at e;obtain⟨rfl,rfl⟩:=e;have⟨f,a',w',g,h2,h3,i,j⟩:=rT (P:=P) R t c.cells d;refine⟨f,pT (Z a'),w',?_,h2,h3,i,j.ptr⟩;have b:(newRow t x'.cells).run P w=.ok a' w':=by simpa using g
  simp[Instr.box,newVar,b]
 .cases e
def agV(P:Program)(t:TypeId):Option (Nat->Option (Nat×Nat)):=
 match P.underlying t with
 |some (.struct a)=>if a.toList.all (fun f=>(P.underlying f.type).isSome)then Z (fun i=>(a.map (fun f=>(f.offset,UA P f.type)))[i]?)else Y
 |some (.array _ e)=>if(P.underlying e).isSome then Z (fun i=>Z (i*UA P e,UA P e))else Y
 |_=>Y
def acB(P:Program)(t:TypeId)(parts:List (Nat×vV)):Option vV:=
 match acd P t,agV P t with
 |some z,Z pl=>if z.cells.toList.all flat then match afZ pl z.cells.toList parts with|some r=>Z (.agg r.toArray)|none=>Y else Y
 |_,_=>Y
def run_places{P:Program}(w:World):∀(a:List Field),a.all (fun f=>(P.underlying f.type).isSome)=tT->
  (a.mapM (m:=Sem) fun f=>do pure (f.offset,<-sizeOf f.type)).run P w=.ok (a.map (fun f=>(f.offset,UA P f.type))) w
 |[],_=>by simp
 |f::a,h=>by simp only[ajq,ae7]at h;have⟨d,hd⟩:=mJ.1 h.1;simp only[mapM_cons,Sem.run_bind,IT hd,Result.andThen_ok,Sem.run_pure,run_places w a h.2,QD]
theorem WX{n:Nat}{m:abd}{P:Program}{t:TypeId}{ps b:List (Nat×vV)}{v:vV}(l:PRs n m ps b)(e:acB P t ps=Z v)(w:World):
  ∃v',(Instr.build t b.toArray).run P w=.ok v' w/\VR n m v v':=by
 unfold acB at e;split at e
 .rename_i z pl o a;split at e
  .rename_i hf;split at e
   .rename_i r p;injection e with e;subst e;unfold agV at a;split at a
    .rename_i g i;split at a
     .rename_i c;injection a with a;subst a;have⟨R,hR,j⟩:=PT _ l (AK.flat hf) p
      have q:(Array.mapM (m:=Sem) (fun f=>do pure (f.offset,<-sizeOf f.type)) g).run P w=.ok (g.map (fun f=>(f.offset,UA P f.type))) w:=by have:=run_places (P:=P) w g.toList c;rw[qL221,map_eq_pure_bind,Sem.run_bind,this];simp only[Result.andThen_ok,Sem.run_pure];congr 1;grind
      refine⟨.agg R,?_,.uk hGr⟩;simp only[Instr.build,Sem.run_bind,rn o,Result.andThen_ok,run_underlying i,q];rw[hR];simp
     .cases a
    .rename_i OT el i;split at a
     .rename_i k;have⟨d,hd⟩:=mJ.1 k;injection a with a;subst a;have⟨R,hR,j⟩:=PT _ l (AK.flat hf) p;refine⟨.agg R,?_,.uk hGr⟩;simp only[Instr.build,Sem.run_bind,rn o,Result.andThen_ok,run_underlying i,IT hd];rw[hR];simp
     .cases a
    .cases a
   .cases e
  .cases e
 .cases e
def aas(P:Program)(h:aai)(t:TypeId)(len:Nat)(parts:List (Nat×vV)):Option (vV×aai):=
 match P.underlying t with
 |some (.slice e)=>
  match acd P e with
  |some z=>
   if z.cells.toList.all flat/\z.cells.size=UA P e/\(P.underlying e).isSome/\len*UA P e<=1000000/\len<=1000000 then
    match afZ (fun i=>Z (i*UA P e,UA P e)) (acY z.cells.toList len) parts with
    |some r=>match IF h r with|some (a,h')=>Z (sL (Z a) len len,h')|none=>Y
    |none=>Y
   else Y
  |none=>Y
 |_=>Y
theorem Mg{P:Program}(R:Rel W0 m h w){t:TypeId}{len:Nat}{ps b:List (Nat×vV)}{v:vV}{h':aai}(o:PRs h.next m ps b)(e:aas P h t len ps=Z (v,h')):OK P W0 m h w (Instr.buildSlice t len b.toArray) v h':=by
 unfold aas at e;split at e
 .rename_i el p;split at e
  .rename_i z q;split at e
   .rename_i s;have⟨hf,c,f,hlen,g⟩:=s;have⟨d,hd⟩:=mJ.1 f;split at e
    .rename_i r u;split at e
     .rename_i a h2 x;injection e with e;simp only[abW]at e;obtain⟨rfl,rfl⟩:=e;have n:=MI z.cells len (len*UA P el) (by rw[c]);have⟨C,y,j⟩:=PT (C:=(Array.range (len*UA P el)).map (fun i=>z.cells[i%z.cells.size]!)) _ o (by grind[AK.flat,Ew]) u;have⟨A,a',w',B,h2,h3,D,E⟩:=rT (P:=P) R el j x;have k:(newRow el C).run P w=.ok a' w':=by simpa using B
      have l:len<UNK:=by grind[UNK]
      refine⟨A,sL (Z a') len len,w',?_,h2,h3,D,E.slice l⟩;have F:¬(2^24<len*UA P el):=NH;simp only[Instr.buildSlice,Sem.run_bind,run_underlying p,Result.andThen_ok,IT hd];rw[IE hGr];split
      .grind[Go.Sem.run_bind,Go.Sem.run_pure,Go.Result.andThen_ok]
      .simp only[Sem.run_bind,Sem.run_pure,Result.andThen_ok,rn q,y,k]
     .cases e
    .cases e
   .cases e
  .cases e
 .cases e
def aaK(P:Program)(h:aai)(t:TypeId)(a x:vV):Option aai:=
 match a with
 |.pointer (Z ⟨id,off,Y⟩)=>
  match h.own id with
  |some (.cells c)=>
   if x.cells.size=UA P t/\(P.underlying t).isSome/\off+x.cells.size<=c.length/\x.cells.toList.all (·.oneCell')then
    Z (h.put id (.cells (putCells c off x.cells.toList)))
   else Y
  |_=>Y
 |_=>Y
theorem VR.Pn{n:Nat}{m:abd}{v v':vV}(h:VR n m v v'):v'.cells.size=v.cells.size:=by have:=h.cells.1;grind
theorem aStore_ok{P:Program}(R:Rel W0 m h w){t:TypeId}{a a' x x':vV}{h':aai}(ha:VR h.next m a a')(f:VR h.next m x x')(e:aaK P h t a x=Z h'):
  ∃w',(Instr.storeAt t a' x').run P w=.ok () w'/\Rel W0 m h' w'/\h'.next=h.next:=by
 unfold aaK at e;split at e
 .rename_i id off;split at e
  .rename_i c g;split at e
   .rename_i i;obtain⟨l,h2,h3,j⟩:=i;obtain⟨d,hd⟩:=mJ.1 h2;injection e with e;subst e;cases ha with
    |flat hf=>grind[flat]
    |ptr k=>
     have b:x'.cells.size=UA P t:=by grind[VR.Pn]
     obtain⟨w',hw,R'⟩:=Rel.jW P x.cells.toList x'.cells.toList 0 R g (by simpa using h3) f.cells (f.cells.zK j);refine⟨w',?_,hGr,rfl⟩;simp[Instr.storeAt,Instr.sureAddr,storeVar,IT hd,b,hw]
   .cases e
  .cases e
 .cases e
def abl(P:Program)(h:aai)(t:TypeId)(l c:vV):Option (vV×aai):=
 match P.underlying t,l,c with
 |some (.slice e),.int _ l,.int _ c=>
  match acd P e with
  |some z=>
   if z.cells.toList.all flat/\z.cells.size=UA P e/\(P.underlying e).isSome/\0<=l/\l<=c/\(P.bytesOf e:Int)*c<=140737488355328/\c<=140737488355328 then
    match IF h (acY z.cells.toList c.toNat)with
    |some (a,h')=>Z (sL (Z a) l.toNat c.toNat,h')
    |none=>Y
   else Y
  |none=>Y
 |_,_,_=>Y
theorem info_of_underlying{P:Program}{t:TypeId}{d:TypeDesc}(a:P.underlying t=Z d):∃i,P.info? t=Z i/\P.bytesOf t=i.bytes/\UA P t=i.size:=by
 unfold Program.underlying at a;cases hi:P.info? t with
 |none=>grind
 |some i=>exact⟨i,rfl,by simp[Program.bytesOf,hi],by simp[UA,Program.cellsOf,hi]⟩
theorem ZU{P:Program}(R:Rel W0 m h w){t:TypeId}{l l' c c' v:vV}{h':aai}(x:VR h.next m l l')(y:VR h.next m c c')(e:abl P h t l c=Z (v,h')):OK P W0 m h w (Instr.makeSlice t l' c') v h':=by
 unfold abl at e;split at e
 .rename_i el k li k2 ci A;split at e
  .rename_i z B;split at e
   .rename_i b;have⟨hf,j,n,G,H,hb,C⟩:=b;have⟨d,hd⟩:=mJ.1 n;have⟨i,hi,o,D⟩:=info_of_underlying hd;split at e
    .rename_i a h2 E;injection e with e;simp only[abW]at e;obtain⟨rfl,rfl⟩:=e;have:=x.Ja;subst this;have:=y.Ja;subst this;have f:=MI z.cells ci.toNat (ci.toNat*UA P el) (by rw[j]);have⟨F,a',w',g,p,q,r,s⟩:=rT (P:=P) R el (AK.flat (Ew _ _ hf ci.toNat)) E;have u:(newRow el ((Array.range (ci.toNat*UA P el)).map (fun i=>z.cells[i%z.cells.size]!))).run P w=.ok a' w':=by rw[<-f]at g;exact g
     refine⟨F,sL (Z a') li.toNat ci.toNat,w',?_,p,q,r,s.slice (by grind[UNK])⟩;have w1:IntKind.i64.wrap li=li:=by rw[<-Qt];grind[ie]
     have w2:IntKind.i64.wrap ci=ci:=by rw[<-Qt];grind[ie]
     rw[o]at hb;have n1:¬(ci<0):=NH;have I:(i.bytes:Int)*ci<=281474976710656:=NH;have n3:¬(li<0):=NH;have J:¬(ci<li):=NH;simp only[Instr.makeSlice,Sem.run_bind,run_underlying A,Result.andThen_ok,asInt,asIntOf,Sem.run_pure,typeInfo,run_program,hi,w1,w2];rw[IE hGr];simp only[Sem.run_bind,run_askRoom,Result.andThen_ok,IT hd];split
     .grind[Go.Sem.run_bind,Go.Sem.run_pure,Go.Result.andThen_ok]
     .simp only[Sem.run_bind,Sem.run_pure,Result.andThen_ok,rn B,u]
    .cases e
   .cases e
  .cases e
 .cases e
def acL:TypeDesc->Bool
 |.int _=>fF
 |_=>tT
theorem agv{P:Program}{t xt e:TypeId}{dx d:TypeDesc}(ty:TypeId)(f:P.underlying t=Z (.slice e))(g:P.underlying xt=Z dx)(i:acL dx=tT)(hd:P.underlying e=Z d){base:Option Addr}{sLen sCap n:Nat}{x':vV}{new:Array vV}{w w':World}(k:(Builtin.lenOf x').run P w=.ok n w)(c:(Builtin.firstCells (UA P e) n x').run P w=.ok new w)(b:sLen+n<=sCap)(j:(match base with|some a=>(storeCells (a.add (sLen*UA P e)) new.toList)|none=>pure ()).run P w=.ok () w'):
  (Builtin.append_ #[t,xt] ty #[.slice base sLen sCap,x']).run P w=.ok (.slice base (sLen+n) sCap) w':=by
 unfold Builtin.append_;simp only[acg,MY,dZ,Sem.run_bind,run_underlying f,Result.andThen_ok,IT hd,Sem.run_pure,run_underlying g];grind[acL,Go.Result.andThen_ok,Go.Sem.run_bind,Go.Sem.run_pure]
theorem yD{P:Program}{t xt e:TypeId}{dx d:TypeDesc}(ty:TypeId){z:vV}(q:P.underlying t=Z (.slice e))(r:P.underlying xt=Z dx)(s:acL dx=tT)(hd:P.underlying e=Z d)(u:acd P e=Z z){base:Option Addr}{sLen sCap n:Nat}{x':vV}{qi new:Array vV}{w:World}(v:(Builtin.lenOf x').run P w=.ok n w)(c:(Builtin.firstCells (UA P e) n x').run P w.drew=.ok new w.drew)(hold:(Builtin.firstCells (UA P e) sLen (.slice base sLen sCap)).run P w.drew=.ok qi w.drew)(b:sCap<sLen+n)(hb:(sLen+n)*P.bytesOf e<=140737488355328)(A:sLen+n<=140737488355328):
  (Builtin.append_ #[t,xt] ty #[.slice base sLen sCap,x']).run P w=.ok (sL (Z ⟨w.heap.size,0,Y⟩) (sLen+n) (grownCap w (sLen+n) sCap e))
   (w.drew.alloc (.cells (qi++new++Builtin.zeroCells z.cells (grownCap w (sLen+n) sCap e-(sLen+n))) e)):=by
 have⟨i,hi,f,x⟩:=info_of_underlying hd;rw[f]at hb;have p:=growslice_fits b hb;have g:¬(sLen+n<=sCap):=NH;have j:¬(((sLen+n:Nat):Int)>IntKind.i64.max):=by simp[IntKind.max,IntKind.signed,IntKind.bits];omega
 have l:¬(Builtin.nextslicecap (sLen+n) sCap*i.bytes>2^48):=NH;have a:(Question.appendCap (sLen+n) sCap e).forced=fF:=rfl;have o:∀w,(typeInfo e).run P w=.ok i w:=fun w=>by simp[typeInfo,hi]
 unfold Builtin.append_;simp only[acg,MY,dZ,Sem.run_bind,run_underlying q,Result.andThen_ok,IT hd,Sem.run_pure,run_underlying r];cases dx
 case int k=>grind[acL]
 all_goals
  simp only[aeu,if_false,v,Result.andThen_ok,g,Sem.run_bind,Sem.run_pure,qL247,if_true,o,j,false_and,l,run_choose,a,run_askRoom];have y:({w with drawn:=w.drawn+1}:World)=w.drew:=rfl;rw[y,hold];simp only[Result.andThen_ok,c,rn u,newRow,Sem.run_bind,run_newObj,Sem.run_pure];rfl
def aby(P:Program)(h:aai)(e:TypeId)(x:vV):Option (Nat×xLV):=
 match x with
 |.slice Y n _=>if n=0 then Z (0,[])else Y
 |.slice (Z a) n _=>match abN h a (n*UA P e)with|some l=>Z (n,l)|none=>Y
 |_=>Y
theorem VR.readable{n:Nat}{m:abd}{a:Addr}{len cap:Nat}{v':vV}(h:VR n m (sL (Z a) len cap) v'):
  ∃a' cap',v'=sL (Z a') len cap'/\(AR n m a a'\/len=0):=by
 cases h with
 |flat h=>simp[Fw.flat]at h
 |slice b c=>exact⟨_,_,rfl,.inl (.own b)⟩
 |buf b d ha=>exact⟨_,_,rfl,by rcases ha with⟨rfl,_⟩|e;exact .inl (.own b);grind⟩
 |esl c=>exact⟨_,_,rfl,.inl .ext⟩
 |empty=>grind
theorem VR.mh{n:Nat}{m:abd}{len cap:Nat}{v':vV}(h:VR n m (.slice Y len cap) v'):v'=.slice Y 0 0/\len=0/\cap=0:=by
 cases h with
 |flat h=>simp[Fw.flat]at h;obtain⟨rfl,rfl⟩:=h;exact⟨rfl,rfl,rfl⟩
def GB(h:aai)(size:Nat)(base:Option Addr)(len:Nat):Option xLV:=
 match base with
 |some a=>abN h a (len*size)
 |none=>Z []
def Rel.firstCells(R:Rel W0 m h w){P:Program}{a:Option Addr}{len cap size:Nat}{l:xLV}{x':vV}(d:VR h.next m (.slice a len cap) x')(c:GB h size a len=Z l):∃l',AK h.next m l l'/\(Builtin.firstCells size len x').run P w=.ok l'.toArray w:=by
 cases a with
 |none=>obtain⟨rfl,rfl,rfl⟩:=d.mh;simp[GB]at c;subst c;exact⟨[],.nil _ _,by simp[Builtin.firstCells]⟩
 |some a=>
  obtain⟨a',cap',rfl,b⟩:=d.readable;simp only[GB]at c;rcases b with b|e
  .obtain⟨l',f,h2⟩:=R.loadCells P b c;exact⟨l',f,by simpa[Builtin.firstCells]using h2⟩
  .subst e;simp[Fw.abN]at c;subst c;exact⟨[],.nil _ _,by simp[Builtin.firstCells,Go.loadCells,loadCellsFrom]⟩
def Vc(R:Rel W0 m h w){P:Program}{e:TypeId}{x x':vV}{n:Nat}{l:xLV}(b:VR h.next m x x')(hs:aby P h e x=Z (n,l)):
  (∀w,(Builtin.lenOf x').run P w=.ok n w)/\∃l',AK h.next m l l'/\(Builtin.firstCells (UA P e) n x').run P w=.ok l'.toArray w/\(x'≠.string ByteArray.empty->True):=by
 unfold aby at hs;split at hs
 .split at hs
  .rename_i f;subst f;simp at hs;obtain⟨rfl,rfl⟩:=hs;have⟨l',d,h2⟩:=R.firstCells (P:=P) (size:=UA P e) b (l:=[]) rfl;obtain⟨rfl,_,_⟩:=b.mh;exact⟨fun w=>by simp[Builtin.lenOf],l',d,h2,fun _=>trivial⟩
  .cases hs
 .rename_i a k c;split at hs
  .rename_i l0 g;simp at hs;obtain⟨rfl,rfl⟩:=hs;have⟨l',d,h2⟩:=R.firstCells (P:=P) (size:=UA P e) b (l:=l0) g;obtain⟨a',cap',rfl,i⟩:=b.readable;exact⟨fun w=>by simp[Builtin.lenOf],l',d,h2,fun _=>trivial⟩
  .cases hs
 .cases hs
def aaR(P:Program)(h:aai)(t xt:TypeId)(s x:vV):Option (vV×aai):=
 match P.underlying t,P.underlying xt,s with
 |some (.slice e),Z dx,.slice base len cap=>
  match acd P e,aby P h e x with
  |some z,Z (n,news)=>
   if z.cells.size=UA P e/\z.cells.toList.all (·.oneCell')/\(P.underlying e).isSome/\acL dx/\news.all (·.oneCell')/\(len+n)*P.bytesOf e<=140737488355328/\len+n<=140737488355328/\news.length=n*UA P e then
    if n=0 then(if len<=cap then Z (s,h)else Y)
    else if UNK<=cap then
     match base with
     |some ⟨id,off,Y⟩=>
      if cap=UNK+UA P e then
       match abN h ⟨id,off,Y⟩ (len*UA P e),h.own id with
       |some a,Z (.cells _)=>if a.all (·.oneCell')then Z (sL (Z h.next) (len+n) cap,(h.kill id).alloc (.cells (a++news)))else Y
       |_,_=>Y
      else Y
     |_=>Y
    else if len+n<=cap then
     match base with
     |some ⟨id,off,Y⟩=>
      match h.own id with
      |some (.cells c)=>if off+len*UA P e+news.length<=c.length then Z (.slice base (len+n) cap,h.put id (.cells (putCells c (off+len*UA P e) news)))else Y
      |_=>Y
     |_=>Y
    else
     match GB h (UA P e) base len with
     |some a=>if a.all (·.oneCell')then Z (sL (Z h.next) (len+n) (UNK+UA P e),h.alloc (.cells (a++news)))else Y
     |none=>Y
   else Y
  |_,_=>Y
 |_,_,_=>Y
theorem Jq{P:Program}(R:Rel W0 m h w){t xt e ty:TypeId}{dx d:TypeDesc}{z:vV}(O:P.underlying t=Z (.slice e))(B:P.underlying xt=Z dx)(D:acL dx=tT)(hd:P.underlying e=Z d)(Q:acd P e=Z z)(S:z.cells.size=UA P e)(E:z.cells.toList.all (·.oneCell')=tT){base:Option Addr}{len cap n:Nat}{x x' F:vV}{news a:xLV}{f:aai}(hs:VR h.next m (.slice base len cap) F)(T:VR h.next m x x')(s:aby P h e x=Z (n,news))(hold:GB h (UA P e) base len=Z a)(N:news.all (·.oneCell')=tT)(G:a.all (·.oneCell')=tT)(hb:(len+n)*P.bytesOf e<=140737488355328)(U:len+n<=140737488355328)(H:news.length=n*UA P e)(I:a.length=len*UA P e)(i:∀b c,F=.slice b len c->c<len+n)(J:f=h\/∃id,f=h.kill id):
  OK P W0 m h w (Builtin.append_ #[t,xt] ty #[F,x']) (sL (Z h.next) (len+n) (UNK+UA P e)) (f.alloc (.cells (a++news))):=by
 have⟨V,l',j,u,_⟩:=Vc R.drew T s;have⟨r,l,o⟩:=R.drew.firstCells (P:=P) hs hold;obtain⟨W,c',rfl,K⟩:=hs.YC;have hg:=i W c' rfl;have g:=yD (P:=P) ty O B D hd Q (V w) u o hg hb U;generalize y:grownCap w (len+n) c' e=C at g;have X:len+n<=C:=by grind[Go.grownCap_ge]
 have aa:C<UNK:=by
  have f:C<=maxLen:=by rw[<-y];exact grownCap_le_maxLen w (len+n) c' e (by unfold maxLen;omega)
  have h2:maxLen<UNK:=by decide
  omega
 have R1:Rel W0 m f w.drew:=by grind[Rel.drew,Rel.kill]
 have p:f.next=h.next:=by rcases J with A|⟨id,A⟩<;>rw[A]<;>rfl
 have L:(Builtin.zeroCells z.cells (C-(len+n))).toList=acY z.cells.toList (C-(len+n)):=MI _ _ _ rfl;have M:(Builtin.zeroCells z.cells (C-(len+n))).size=(C-(len+n))*UA P e:=by grind[jY]
 have R2:=R1.alloc (c:=a++news) (C:=r.toArray++l'.toArray++Builtin.zeroCells z.cells (C-(len+n))) e
  (by
   rw[p];have:(r.toArray++l'.toArray++Builtin.zeroCells z.cells (C-(len+n))).toList.take (a++news).length=r++l':=by
    have hlen:(a++news).length=(r++l').length:=by simp[l.1,j.1]
    grind
   grind[AK.append])
  (by simp[l.1,j.1])
  (by
   intro v q;simp only[Array.toList_append,yM]at q;rcases q with(q|q)|q
   .grind[AK.zK]
   .grind[AK.zK]
   .rw[L]at q;exact vY.1 (Ew _ _ E _) v q)
 refine⟨_,_,_,g,R2,by grind[Qq],by show h.next<=f.next+1;omega,?_⟩
 show VR (f.next+1) _ _ _
 have:=VR.buf (n:=f.next+1) (m:=upd m f.next ⟨w.drew.heap.size,0,(r.toArray++l'.toArray++Builtin.zeroCells z.cells (C-(len+n))).size⟩) (id:=f.next) (off:=0) (len:=len+n) (k:=UA P e) (cap':=C) (a':=⟨w.heap.size,0,Y⟩) (adN _) X
  (.inl ⟨by rw[zf];rfl,by
   rw[zf];simp only[Array.size_append,size_toArray,M];have A:r.length=len*UA P e:=by rw[<-l.1,I]
   have e2:l'.length=n*UA P e:=by rw[<-j.1,H]
   rw[A,e2,<-kS,<-kS,show len+n+(C-(len+n))=C from by omega];grind⟩)
 grind
theorem Uk{P:Program}(R:Rel W0 m h w){t xt ty:TypeId}{s x s' x' v:vV}{h':aai}(hs:VR h.next m s s')(S:VR h.next m x x')(e:aaR P h t xt s x=Z (v,h')):
  OK P W0 m h w (Builtin.append_ #[t,xt] ty #[s',x']) v h':=by
 unfold aaR at e;split at e
 .rename_i el dx base len cap I q;split at e
  .rename_i z n news hz r;split at e
   .rename_i T;have⟨J,K,U,u,l,hb,hl,y⟩:=T;have⟨d,hd⟩:=mJ.1 U;have⟨V,l',A,B,_⟩:=Vc R S r;split at e
    .rename_i L;subst L;split at e
     .rename_i W;injection e with e;simp only[abW]at e;obtain⟨rfl,rfl⟩:=e;obtain⟨b',c',rfl,X⟩:=hs.YC;have M:len<=c':=by
       cases hs<;>grind
      have aa:l'=[]:=im (by rw[<-A.1,y];simp);subst aa;have:=agv (P:=P) ty I q u hd (base:=b') (sLen:=len) (sCap:=c') (w':=w) (V w) B M (by cases b'<;>simp[storeCells]);exact⟨m,_,w,this,R,.refl _ _,qL0 _,hs⟩
     .cases e
    .rename_i L;split at e
     .rename_i N;split at e
      .rename_i id off;split at e
       .rename_i aF;split at e
        .rename_i o c hold p;split at e
         .rename_i f;injection e with e;simp only[abW]at e;obtain⟨rfl,rfl⟩:=e;have g:=tF _ _ _ _ hold;have ae:=hs;cases hs with
          |flat hf=>grind[flat]
          |slice _ _=>omega
          |empty=>grind[UNK]
          |@buf _ _ _ k cap' a' D W ha=>
           have hk:k=UA P el:=NH;subst hk;by_cases a:len+n<=cap'
           .obtain⟨rfl,aH⟩:=ha.resolve_right NH;have⟨C,ce,lo,hi,O,aK,aL,aN,aP,ai⟩:=R.own id _ p;have aj:l'.length=n*UA P el:=by rw[<-A.1,y]
            have hmul:len*UA P el+n*UA P el<=cap'*UA P el:=by rw[<-kS];exact WZ _ a
            have⟨w',aT,aq,ar,av,ay⟩:=HG P (m id).blk ce lo hi l' 0 ((m id).base+off+len*UA P el) C w O hGr (A.zK l) ai;have i:=agv (P:=P) ty I q u hd (base:=Z ⟨(m id).blk,(m id).base+off,Y⟩) (sLen:=len) (sCap:=cap') (w':=w') (V w) B a (by grind[agQ]);have aW:(m id).base+off+len*UA P el+l'.length<=C.toList.length:=hGr;have Q:(acC C ((m id).base+off+len*UA P el+0) l').toList=C.toList.take ((m id).base+off+len*UA P el)++l'++C.toList.drop ((m id).base+off+len*UA P el+l'.length):=by grind[GC,IW]
            have⟨H,E,az⟩:=R.abN _ (AR.own D) hold;have F:(C.toList.drop ((m id).base+off)).take (len*UA P el)=H:=by
             apply EH;intro j;by_cases hj:j<len*UA P el
             .have aC:j<H.length:=by rw[<-E.1,g];exact hj
              have:=az j H[j] (Gc aC);rw[agQ]at this;simp only[World.cell?,O]at this;grind
             .rw[AQ (by simp;omega),AQ (by rw[<-E.1,g];omega)]
            have G:=R.allocMove (w':=w') (id:=id) p (C':=acC C ((m id).base+off+len*UA P el+0) l') (e:=ce) (lo:=lo) (hi:=hi) (base:=(m id).base+off) (c2:=o++news)
             aq (by grind[afB])
             (by grind[AK.zK])
             (by grind[afB])
             (by grind[afB])
             (by
              have:((acC C ((m id).base+off+len*UA P el+0) l').toList.drop ((m id).base+off)).take (o++news).length=H++l':=by
               rw[Q,Cg,drop_append_of_le_length hGr];have e1:(C.toList.take ((m id).base+off+len*UA P el)).drop ((m id).base+off)=H:=by rw[<-F,qL248];grind
               rw[e1,aaf,g,y,<-Cg];have e2:len*UA P el+n*UA P el=(H++l').length:=by rw[aaf,<-E.1,g,aj]
               grind
              grind[AK.append])
             ar av ay
            refine⟨_,_,w',i,G,Qq _ _ _,ahG _,?_⟩
            have hv:=VR.buf (n:=h.next+1) (m:=upd m h.next ⟨(m id).blk,(m id).base+off,(m id).lim⟩) (id:=h.next) (off:=0) (len:=len+n) (k:=UA P el) (cap':=cap') (a':=⟨(m id).blk,(m id).base+off,Y⟩) (adN _) a
             (.inl ⟨by grind[zf],by grind[zf]⟩)
            exact hv
           .exact Jq R I q u hd hz J K ae S r hold l f hb hl y g hGr (.inr ⟨id,rfl⟩)
         .cases e
        .cases e
       .cases e
      .cases e
     .rename_i N;split at e
      .rename_i a;split at e
       .rename_i id off;split at e
        .rename_i c p;split at e
         .rename_i aJ;injection e with e;simp only[abW]at e;obtain⟨rfl,rfl⟩:=e;cases hs with
          |flat hf=>grind[flat]
          |buf _ _ _=>omega
          |empty=>omega
          |slice D T=>have⟨w',hw,R'⟩:=Rel.jW P news l' 0 R (off:=off+len*UA P el) p hGr A (A.zK l);have i:=agv (P:=P) ty I q u hd (base:=Z ⟨(m id).blk,(m id).base+off,Y⟩) (sLen:=len) (sCap:=cap) (w':=w') (V w) B a (by grind[agQ]);exact⟨m,_,w',i,hGr,.refl _ _,qL0 _,.slice D T⟩
         .cases e
        .cases e
       .cases e
      .rename_i a;split at e
       .rename_i o hold;split at e
        .rename_i f;injection e with e;simp only[abW]at e;obtain⟨rfl,rfl⟩:=e;have g:o.length=len*UA P el:=by
          cases base<;>grind[VR.mh,GB,tF]
         refine Jq R I q u hd hz J K hs S r hold l f hb hl y g ?_ (.inl rfl);intro b c aD;subst aD;cases hs<;>grind
        .cases e
       .cases e
   .cases e
  .cases e
 .cases e
def afj:vV->Option Nat
 |.slice _ n _=>Z n
 |_=>Y
def Ak{n:Nat}{m:abd}{P:Program}{x x':vV}{k:Nat}(a:VR n m x x')(e:afj x=Z k)(w:World):(Builtin.lenOf x').run P w=.ok k w:=by
 unfold afj at e;split at e
 .injection e with e;subst e;obtain⟨a',c',rfl,_⟩:=a.YC;simp[Builtin.lenOf]
 .cases e
def afE(h:aai)(size n:Nat)(x:vV):Option xLV:=
 match x with
 |.slice (Z a) len _=>if n<=len then abN h a (n*size)else Y
 |_=>Y
def Y8(R:Rel W0 m h w){P:Program}{size n:Nat}{x x':vV}{l:xLV}(b:VR h.next m x x')(d:n≠0)(e:afE h size n x=Z l):
  ∃l',AK h.next m l l'/\(Builtin.firstCells size n x').run P w=.ok l'.toArray w:=by
 unfold afE at e;split at e
 .split at e
  .rename_i hle;obtain⟨a',c',rfl,a⟩:=b.readable;have⟨l',c,h2⟩:=R.loadCells P (a.resolve_right NH) e;exact⟨l',c,by simpa[Builtin.firstCells]using h2⟩
  .cases e
 .cases e
def afo(P:Program)(h:aai)(t:TypeId)(dst src:vV):Option (vV×aai):=
 match P.underlying t,dst,afj src with
 |some (.slice e),.slice base a _,Z sLen=>
  if(P.underlying e).isSome then
   if min sLen a=0/\UA P e≠0 then Z (.int .i64 0,h)
   else
    match base,afE h (UA P e) (min sLen a) src with
    |some ⟨id,off,Y⟩,Z l=>
     match h.own id with
     |some (.cells c)=>if off+l.length<=c.length/\l.all (·.oneCell')/\min sLen a≠0 then Z (.int .i64 (min sLen a:Nat),h.put id (.cells (putCells c off l)))else Y
     |_=>Y
    |_,_=>Y
  else Y
 |_,_,_=>Y
theorem aCopy_ok{P:Program}(R:Rel W0 m h w){t:TypeId}{ats:Array TypeId}(g:ats[0]?=Z t){ty:TypeId}{d s y p v:vV}{h':aai}(hd:VR h.next m d y)(hs:VR h.next m s p)(e:afo P h t d s=Z (v,h')):
  OK P W0 m h w (Builtin.copy_ ats ty #[y,p]) v h':=by
 unfold afo at e;split at e
 .rename_i el base a z sLen A b;split at e
  .rename_i q;have⟨I,i⟩:=mJ.1 q;have B:=Ak (P:=P) hs b;split at e
   .rename_i r;have⟨r,D⟩:=r;injection e with e;simp only[abW]at e;obtain⟨rfl,rfl⟩:=e;obtain⟨a',c',rfl,_⟩:=hd.YC;have hf:(Builtin.firstCells (UA P el) 0 p).run P w=.ok #[] w:=by
     unfold afj at b;split at b
     .obtain⟨E,F,rfl,_⟩:=hs.YC;cases E<;>simp[Builtin.firstCells,Go.loadCells,loadCellsFrom]
     .cases b
    refine OK.pure R ⟨.int .i64 0,?_,.flat rfl⟩;unfold Builtin.copy_;simp only[g,acg,MY,dZ,Sem.run_bind,run_underlying A,Result.andThen_ok,B,IT i];rw[show Nat.min sLen a=0 from r,hf];cases a'<;>simp[storeCells,goInt]
   .split at e
    .rename_i id off l u;split at e
     .rename_i c j;split at e
      .rename_i G;have⟨C,k,x⟩:=G;injection e with e;simp only[abW]at e;obtain⟨rfl,rfl⟩:=e;have⟨l',n,o⟩:=Y8 R (P:=P) hs x u;obtain⟨a',c',rfl,f⟩:=hd.readable;have f:=f.resolve_right NH;cases f with
       |own H=>have⟨w',hw,R'⟩:=Rel.jW P l l' 0 R (off:=off) j hGr n (n.zK k);refine⟨m,(min sLen a:Nat),w',?_,hGr,.refl _ _,qL0 _,.flat rfl⟩;unfold Builtin.copy_;simp only[g,acg,MY,dZ,Sem.run_bind,run_underlying A,Result.andThen_ok,B,IT i];rw[show Nat.min sLen a=min sLen a from rfl,o];simp only[Result.andThen_ok,hw,Sem.run_pure,goInt]
      .cases e
     .cases e
    .cases e
  .cases e
 .cases e
def aeh(P:Program)(h:aai)(t:TypeId)(x:vV):Option vV:=
 match P.underlying t,x with
 |some (.array n _),_=>Z (.int .i64 n)
 |some (.slice _),.slice _ n _=>Z (.int .i64 n)
 |some (.map _ _),.map Y=>Z (.int .i64 0)
 |some (.map _ _),.map (Z r)=>match h.own r with|some (.map es)=>Z (.int .i64 es.length)|_=>Y
 |_,_=>Y
def Rel.mD(R:Rel W0 m h w){r:Nat}{es:List (vV×vV)}(b:h.own r=Z (.map es)){P:Program}:
  ∃E clock,w.heap[(m r).blk]?=Z (.map E clock)/\(getObj (m r).blk).run P w=.ok (.map E clock) w/\AK h.next m (es.map (·.1)) (E.toList.map (·.key))/\AK h.next m (es.map (·.2)) (E.toList.map (·.val)):=by
 obtain⟨E,clock,a,h2,h3,-⟩:=R.own r _ b;exact⟨E,clock,a,by simp[getObj,Sem.run,a],h2,h3⟩
def Rel.born(R:Rel W0 m h w){r:Nat}{es:List (vV×vV)}(b:h.own r=Z (.map es)){E:Array MapEntry}{clock:Nat}(hb:w.heap[(m r).blk]?=Z (.map E clock)):aek E clock:=by have⟨E',clock',a,h2,h3,c⟩:=R.own r _ b;rw[hb]at a;injection a with a;injection a with a d;subst a d;exact c
theorem aek.push{E:Array MapEntry}{clock:Nat}(b:aek E clock)(k v:vV):aek (E.push {key:=k,val:=v,born:=clock}) (clock+1):=by
 obtain⟨rfl,h⟩:=b;refine⟨Ma,fun i a e=>?_⟩;rw[Array.getElem?_push]at e;split at e
 .rename_i hi;injection e with e;subst e;exact hi.symm
 .exact h i a e
def aek.modify{E:Array MapEntry}{clock:Nat}(b:aek E clock)(j:Nat)(f:MapEntry->MapEntry)(hf:∀a,(f a).born=a.born):aek (E.modify j f) clock:=by
 obtain⟨rfl,h⟩:=b;refine⟨Ma,fun i a e=>?_⟩;rw[aj8]at e;split at e
 .cases c:E[i]? with
  |none=>rw[c]at e;cases e
  |some x=>rw[c]at e;injection e with e;subst e;rw[hf];exact h i x c
 .exact h i a e
theorem aLen_rel(R:Rel W0 m h w){P:Program}{t:TypeId}{x x' v:vV}{ats:Array TypeId}(b:ats[0]?=Z t){ty:TypeId}(f:VR h.next m x x')(e:aeh P h t x=Z v):
  ∃v',(Builtin.len_ ats ty #[x']).run P w=.ok v' w/\VR h.next m v v':=by
 unfold aeh at e;split at e
 .rename_i n el d;injection e with e;subst e;refine⟨n,?_,.flat rfl⟩;unfold Builtin.len_;simp only[b,acg,MY,Sem.run_bind,run_underlying d,Result.andThen_ok,Sem.run_pure,goInt]
 .rename_i el a n c d;injection e with e;subst e;obtain⟨a',c',rfl,_⟩:=f.YC;exact⟨_,by simp[Builtin.len_,b,run_underlying d,goInt],.flat rfl⟩
 .rename_i d;injection e with e;subst e;cases f with|flat _=>exact⟨_,by simp[Builtin.len_,b,run_underlying d,goInt],.flat rfl⟩
 .rename_i r d;split at e
  .rename_i es g;injection e with e;subst e;cases f with
   |flat hf=>grind[flat]
   |map j=>
    have⟨E,clock,_,i,h2,_⟩:=R.mD (P:=P) g;have hlen:E.size=es.length:=by have:=h2.1;grind
    exact⟨es.length,by simp[Builtin.len_,b,run_underlying d,i,goInt,hlen],.flat rfl⟩
  .cases e
 .cases e
def agw:vV->xLV->Option vV
 |x,[]=>Z x
 |.int k a,.int c b::r=>if k=c then agw (.int k (if b<a then b else a)) r else Y
 |_,_=>Y
def LZ:vV->xLV->Option vV
 |x,[]=>Z x
 |.int k a,.int c b::r=>if k=c then LZ (.int k (if b>a then b else a)) r else Y
 |_,_=>Y
theorem TZ{n:Nat}{m:abd}{P:Program}:∀(r c:xLV){x x' v:vV},VR n m x x'->AK n m r c->agw x r=Z v->∀w,∃v',(c.foldlM Builtin.min2 x').run P w=.ok v' w/\VR n m v v'
 |[],c,x,x',v,f,d,e,w=>by have:c=[]:=im (by rw[<-d.1];rfl);subst this;simp[agw]at e;subst e;exact⟨x',Ma,f⟩
 |y::r,[],x,x',v,f,d,e,w=>by grind[AK]
 |y::r,i::c,x,x',v,f,d,e,w=>by
  have j:VR n m y i:=d.2 0 y i rfl rfl;have g:AK n m r c:=by simpa using d.drop 1
  cases x<;>cases y<;>simp only[agw]at e<;>try cases e
  split at e
  .rename_i k a p b l;subst l;have:=f.Ja;subst this;have:=j.Ja;subst this;obtain⟨v',o,h2⟩:=TZ r c (.flat rfl) g e w;exact⟨v',by simp only[List.foldlM_cons,Builtin.min2,Sem.run_bind,Sem.run_pure,Result.andThen_ok];exact o,h2⟩
  .cases e
theorem td{n:Nat}{m:abd}{P:Program}:∀(r c:xLV){x x' v:vV},VR n m x x'->AK n m r c->LZ x r=Z v->∀w,∃v',(c.foldlM Builtin.max2 x').run P w=.ok v' w/\VR n m v v'
 |[],c,x,x',v,f,d,e,w=>by have:c=[]:=im (by rw[<-d.1];rfl);subst this;simp[LZ]at e;subst e;exact⟨x',Ma,f⟩
 |y::r,[],x,x',v,f,d,e,w=>by grind[AK]
 |y::r,i::c,x,x',v,f,d,e,w=>by
  have j:VR n m y i:=d.2 0 y i rfl rfl;have g:AK n m r c:=by simpa using d.drop 1
  cases x<;>cases y<;>simp only[LZ]at e<;>try cases e
  split at e
  .rename_i k a p b l;subst l;have:=f.Ja;subst this;have:=j.Ja;subst this;obtain⟨v',o,h2⟩:=td r c (.flat rfl) g e w;exact⟨v',by simp only[List.foldlM_cons,Builtin.max2,Sem.run_bind,Sem.run_pure,Result.andThen_ok];exact o,h2⟩
  .cases e
def acX(P:Program)(h:aai)(src dst:TypeId)(x:vV):Option (vV×aai):=
 match P.underlying src,P.underlying dst,x with
 |some _,Z (.int k),.int _ n=>Z (.int k (aaY k n),h)
 |_,_,_=>Y
theorem Mu{P:Program}(R:Rel W0 m h w){src dst:TypeId}{x x' v:vV}{h':aai}(hx:VR h.next m x x')(e:acX P h src dst x=Z (v,h')) :
  OK P W0 m h w (convert src dst x') v h':=by
 unfold acX at e
 split at e
 ·rename_i ds k k0 n hs hd
  injection e with e; simp only [Prod.mk.injEq] at e; obtain ⟨rfl,rfl⟩:=e
  have:=hx.Ja; subst this
  refine OK.pure R ⟨.int k (aaY k n),?_,.flat rfl⟩
  unfold convert
  simp only [Sem.run_bind,run_underlying hs,run_underlying hd,Result.andThen_ok]
  cases ds <;> simp [Conv.intToInt,Qt]
 ·cases e
def adA(k:IntKind)(z:Int):List (vV×vV)->Nat->Option (Option (Nat×vV))
 |[],_=>Z Y
 |(.int a z',v)::r,i=>if k=a then(if z=z' then Z (Z (i,v))else adA k z r (i+1))else Y
 |_::_,_=>Y
theorem pX{n:Nat}{m:abd}{kk k:IntKind}{z:Int}:∀(es:List (vV×vV))(E:List MapEntry)(i:Nat),AK n m (es.map (·.1)) (E.map (·.key))->AK n m (es.map (·.2)) (E.map (·.val))->∀r,adA k z es i=Z r->
  (r=Y/\Instr.findNow (.int kk) (.int k z) E i=Z Y)\/∃j v v',r=Z (j,v)/\Instr.findNow (.int kk) (.int k z) E i=Z (Z (j,v'))/\VR n m v v'/\i<=j/\(es[j-i]?).map (·.1)=Z (.int k z)
 |[],E,i,b,c,r,e=>by
  have:E=[]:=by have:=b.1;grind
  subst this;simp[adA]at e;subst e;exact .inl ⟨rfl,rfl⟩
 |(a,v)::es,[],i,b,c,r,e=>by grind[AK]
 |(a,v)::es,d::E,i,b,c,r,e=>by
  cases a<;>simp only[adA]at e<;>try cases e
  rename_i x z';have y:VR n m (.int x z') d.key:=b.2 0 _ _ rfl rfl;have h2:VR n m v d.val:=c.2 0 _ _ rfl rfl;have p:=y.Ja;split at e
  .rename_i f;subst f;split at e
   .rename_i q;subst q;injection e with e;subst e;refine .inr ⟨i,v,d.val,rfl,?_,h2,qL0 _,Ma⟩;simp[Instr.findNow,Instr.sameNow,p]
   .rename_i q;have g:AK n m (es.map (·.1)) (E.map (·.key)):=by simpa using b.drop 1
    have l:AK n m (es.map (·.2)) (E.map (·.val)):=by simpa using c.drop 1
    have o:(z==z')=fF:=hGr;have hs:Instr.findNow (.int kk) (.int k z) (d::E) i=Instr.findNow (.int kk) (.int k z) E (i+1):=by simp[Instr.findNow,Instr.sameNow,p,o]
    rcases pX es E (i+1) g l r e with⟨s,t⟩|⟨j,u,u',s,t,A,B,C⟩
    .exact .inl ⟨s,hs.trans t⟩
    grind
  .cases e
def acR(P:Program)(h:aai)(t:TypeId)(x i:vV)(ok:Bool):Option vV:=
 match P.underlying t,x,i with
 |some (.map b c),.map (Z r),.int k z=>
  match P.underlying b,h.own r,acd P c with
  |some (.int _),Z (.map es),Z a=>
   if flat a then
    match adA k z es 0 with
    |some (Z (_,v))=>Z (bif ok then .tuple #[v,.bool tT]else v)
    |some Y=>Z (bif ok then .tuple #[a,.bool fF]else a)
    |none=>Y
   else Y
  |_,_,_=>Y
 |_,_,_=>Y
def BD{P:Program}{a:TypeId}{kk k:IntKind}{z:Int}(c:P.underlying a=Z (.int kk))(b:Bool)(n:Nat)(w:World):(Instr.checkKey b (n+1) a (.int k z)).run P w=.ok () w:=by unfold Instr.checkKey;rw[Sem.run_bind,run_underlying c];simp
theorem agp{P:Program}(R:Rel W0 m h w){t:TypeId}{x i x' f v:vV}{ok:Bool}(n:VR h.next m x x')(hi:VR h.next m i f)(e:acR P h t x i ok=Z v):
  ∃v',(Instr.lookup t x' f ok).run P w=.ok v' w/\VR h.next m v v':=by
 unfold acR at e;split at e
 .rename_i p s r k z y;split at e
  .rename_i kk es g d A B;split at e
   .rename_i c;have:=hi.Ja;subst this;cases n with
    |flat hf=>grind[flat]
    |map G=>
     have⟨E,clock,_,C,h2,h3⟩:=R.mD (P:=P) A
     have a:(Instr.lookup t (.map (Z (m r).blk)) (.int k z) ok).run P w=((do
       let(v,o) <-match<-Instr.findKey p (.int k z) E.toList with
        |some (_,v)=>pure (v,tT)
        |none=>pure (<-zeroValue s,fF)
       pure (if ok then .tuple #[v,.bool o]else v):Sem vV)).run P w:=by
      unfold Instr.lookup;simp only[Sem.run_bind,run_underlying y,Result.andThen_ok,C,Sem.run_pure];rw[BD d];rfl
     split at e
     .rename_i j u hf;injection e with e;subst e;rcases pX (kk:=kk) es E.toList 0 h2 h3 _ hf with⟨q,_⟩|⟨D,u1,u',b,F,l,_⟩
      .cases q
      .injection b with b;simp only[abW]at b;obtain⟨rfl,rfl⟩:=b
       refine⟨if ok then .tuple #[u',.bool tT]else u',?_,?_⟩
       .rw[a];simp only[Instr.findKey,Sem.run_bind,run_underlying d,Result.andThen_ok,F,Sem.run_pure]
       .cases ok
        .exact l
        .exact .qY (.cons l (.cons (.flat rfl) (.nil _ _)))
     .rename_i hf;injection e with e;subst e;rcases pX (kk:=kk) es E.toList 0 h2 h3 _ hf with⟨_,q⟩|⟨D,u1,u',b,_⟩
      .refine⟨if ok then .tuple #[g,.bool fF]else g,?_,?_⟩
       .rw[a];simp only[Instr.findKey,Sem.run_bind,run_underlying d,Result.andThen_ok,q,Sem.run_pure,rn B]
       .cases ok
        .exact .flat c
        .exact .qY (.cons (.flat c) (.cons (.flat rfl) (.nil _ _)))
      .cases b
     .cases e
   .cases e
  .cases e
 .cases e
def acM(P:Program)(h:aai)(t:TypeId)(x i v:vV):Option aai:=
 match P.underlying t,x,i with
 |some (.map a _),.map (Z r),.int k z=>
  match P.underlying a,h.own r with
  |some (.int _),Z (.map es)=>
   match adA k z es 0 with
   |some (Z (j,_))=>Z (h.put r (.map (es.set j (.int k z,v))))
   |some Y=>Z (h.put r (.map (es++[(.int k z,v)])))
   |none=>Y
  |_,_=>Y
 |_,_,_=>Y
theorem Rel.HF(R:Rel W0 m h w){r:Nat}{es f:List (vV×vV)}{E E':Array MapEntry}{clock clock':Nat}(p:h.own r=Z (.map es))(hb:w.heap[(m r).blk]?=Z (.map E clock))(q:AK h.next m (f.map (·.1)) (E'.toList.map (·.key)))(s:AK h.next m (f.map (·.2)) (E'.toList.map (·.val)))(hB:aek E' clock'):
  Rel W0 m (h.put r (.map f)) {w with heap:=w.heap.setIfInBounds (m r).blk (.map E' clock')}:=by
 have l:h.own r≠Y:=by rw[p];simp
 have a:∀i,(h.put r (.map f)).own i≠Y->h.own i≠Y:=by grind[aai.By]
 have t:(m r).blk<w.heap.size:=(gK.1 hb).1;have g:∀b,b≠(m r).blk->(w.heap.setIfInBounds (m r).blk (.map E' clock'))[b]?=w.heap[b]?:=fun b u=>by grind
 refine⟨by simpa using R.size,fun b sZ=>?_,R.ext,fun i d=>R.lt i (a i d),fun i d=>R.new i (a i d),fun i o c=>?_,fun i j d n=>R.inj i j (a i d) (a j n),R.os,R.output,R.tape,R.aah.put a (fun b _ hb=>g b (fun e=>hb r l e.symm))⟩
 .grind[Rel.new,Rel.qi]
 .by_cases k:i=r
  .subst k;rw[aai.Y3]at c;injection c with c;subst c;exact⟨E',clock',hGr,q,s,hB⟩
  .rw[aai.By _ _ _ _ k]at c;exact Rel.JP (R.own i o c) (qL0 _) (ZK.refl _ _) (g _ (fun e=>k (R.inj i r hGr l e)))
theorem run_setObj_map{P:Program}{w:World}{r:Nat}{es:Array MapEntry}{clock:Nat}(o:Obj)(hb:w.heap[r]?=Z (.map es clock)):(setObj r o).run P w=.ok () {w with heap:=w.heap.setIfInBounds r o}:=by simp[setObj,Sem.run,hb]
theorem Um{P:Program}(R:Rel W0 m h w){t:TypeId}{x i v x' g v':vV}{h':aai}(p:VR h.next m x x')(hi:VR h.next m i g)(s:VR h.next m v v')(e:acM P h t x i v=Z h'):
  ∃w',(Instr.mapUpdate t x' g v').run P w=.ok () w'/\Rel W0 m h' w'/\h'.next=h.next:=by
 unfold acM at e;split at e
 .rename_i H I r k z l;split at e
  .rename_i kk es d b;have:=hi.Ja;subst this;cases p with
   |flat hf=>grind[flat]
   |map J=>
    have⟨E,clock,hb,n,h2,h3⟩:=R.mD (P:=P) b;split at e
    .rename_i j u hf;injection e with e;subst e;rcases pX (kk:=kk) es E.toList 0 h2 h3 _ hf with⟨q,_⟩|⟨y,u1,u',a,A,K,_,B⟩
     .cases q
     .injection a with a;simp only[abW]at a;obtain⟨rfl,rfl⟩:=a;rw[qL259]at B;have C:j<es.length:=by
       cases L:es[j]?<;>grind
      have hlen:E.toList.length=es.length:=by have:=h2.1;grind
      have D:j<E.size:=hGr;have hold:E[j].key=.int k z:=by have o:es[j].1=.int k z:=hGr;have:=h2.2 j (.int k z) E[j].key hGr hGr;exact this.Ja
      have f:((E[j]?).map (·.key)).getD (.int k z)=.int k z:=hGr;refine⟨_,?_,R.HF (E':=E.modify j fun c=>{c with key:=.int k z,val:=v'}) (clock':=clock) b hb ?_ ?_ ((R.born b hb).modify _ _ fun _=>rfl),rfl⟩
      .unfold Instr.mapUpdate;simp only[Sem.run_bind,run_underlying l,Result.andThen_ok,n];rw[BD d];simp only[Result.andThen_ok,Instr.findKey,Sem.run_bind,run_underlying d,A,Sem.run_pure,f];have F:(Instr.keyThatStays (.int k z) (.int k z)).run P w=.ok (.int k z) w:=by simp[Instr.keyThatStays,Instr.sameBits]
       grind[Go.Result.andThen_ok,run_setObj_map]
      .have:=h2.set j (x:=.int k z) (x':=.int k z) (.flat rfl);refine(?_:AK _ _ _ _);have o:(es.set j (.int k z,v)).map (·.1)=(es.map (·.1)).set j (.int k z):=by rw[alw]
       have G:((E.modify j fun c=>{c with key:=.int k z,val:=v'}).toList.map (·.key))=(E.toList.map (·.key)).set j (.int k z):=by apply EH;grind
       grind
      .have:=h3.set j (x:=v) (x':=v') s;have o:(es.set j (.int k z,v)).map (·.2)=(es.map (·.2)).set j v:=by rw[alw]
       have G:((E.modify j fun c=>{c with key:=.int k z,val:=v'}).toList.map (·.val))=(E.toList.map (·.val)).set j v':=by apply EH;grind
       grind
    .rename_i hf;injection e with e;subst e;rcases pX (kk:=kk) es E.toList 0 h2 h3 _ hf with⟨_,q⟩|⟨y,u1,u',a,_⟩
     .refine⟨_,?_,R.HF (E':=E.push {key:=.int k z,val:=v',born:=clock}) (clock':=clock+1) b hb ?_ ?_ ((R.born b hb).push _ _),rfl⟩
      .unfold Instr.mapUpdate;simp only[Sem.run_bind,run_underlying l,Result.andThen_ok,n];rw[BD d];simp only[Result.andThen_ok,Instr.findKey,Sem.run_bind,run_underlying d,q,Sem.run_pure];grind[run_setObj_map]
      all_goals grind[AK.append,AK.cons,AK.nil]
     .cases a
    .cases e
  .cases e
 .cases e
def ac4(P:Program)(a:TypeId)(x:vV):Bool:=
  match P.underlying a,x with
  |some (.array len e),.agg xs=>match P.underlying e,aa9 xs.toList with
    |some (.int _),Z _=>UA P e==1&&xs.size==len
    |_,_=>fF
  |_,_=>fF
def adC(P:Program)(a:TypeId)(key:vV):List (vV×vV)->Nat->Option (Option (Nat×vV))
  |[],_=>Z Y
  |(k,v)::r,i=>match aEq P a key k with
    |some tT=>Z (Z (i,v))
    |some fF=>adC P a key r (i+1)
    |none=>Y
def adH(P:Program)(h:aai)(t:TypeId)(x i:vV)(ok:Bool):Option vV:=
 match P.underlying t,x with
 |some (.map b c),.map (Z r)=>
  if ac4 P b i then
   match h.own r,acd P c with
   |some (.map es),Z a=>
    match adC P b i es 0 with
    |some (Z (_,v))=>Z (bif ok then .tuple #[v,.bool tT]else v)
    |some Y=>if flat a then Z (bif ok then .tuple #[a,.bool fF]else a)else Y
    |none=>Y
   |_,_=>Y
  else Y
 |_,_=>Y
def aea(P:Program)(h:aai)(t:TypeId)(x i v:vV):Option aai:=
 match P.underlying t,x with
 |some (.map a _),.map (Z r)=>
  if ac4 P a i then
   match h.own r with
   |some (.map es)=>
    match adC P a i es 0 with
    |some (Z (j,_))=>Z (h.put r (.map (es.set j (i,v))))
    |some Y=>Z (h.put r (.map (es++[(i,v)])))
    |none=>Y
   |_=>Y
  else Y
 |_,_=>Y
theorem DM{n:Nat}{m:abd}:∀{l l':xLV}{a:List (IntKind×Int)},AK n m l l'->aa9 l=Z a->l'=l
 |[],l',a,h,_=>by have:l'=[]:=im (by rw[<-h.1];rfl);rw[this]
 |v::l,[],a,h,ha=>by grind[AK]
 |v::l,v'::l',a,h,ha=>by
  have b:VR n m v v':=h.2 0 v v' rfl rfl;have c:AK n m l l':=by simpa using h.drop 1
  cases v<;>simp only[aa9]at ha<;>try cases ha
  split at ha
  .rename_i r d;have:=b.Ja;subst this;rw[DM c d]
  .cases ha
theorem SX{P:Program}{b:TypeId}{x:vV}(c:ac4 P b x=tT):
  ∃len e k xs a,P.underlying b=Z (.array len e)/\x=.agg xs/\P.underlying e=Z (.int k)/\aa9 xs.toList=Z a/\UA P e=1/\xs.size=len:=by
 unfold ac4 at c;grind
theorem VR.agg_inv'{n:Nat}{m:abd}{xs:Array vV}{v':vV}(h:VR n m (.agg xs) v'):∃a,v'=.agg a/\AK n m xs.toList a.toList:=by
 cases h with
 |flat hf=>simp[Fw.flat]at hf
 |agg ha h=>exact⟨_,rfl,hGr,fun i v v' e e'=>h i v v' (by simpa using e) hGr⟩
theorem CW{P:Program}{a:TypeId}{x x':vV}{n:Nat}{m:abd}(b:ac4 P a x=tT)(c:VR n m x x'):x'=x:=by grind[SX,VR.agg_inv',DM,Array.toList_inj]
def z7{P:Program}(f:Nat->Sem (ForInStep PUnit)):∀(n s:Nat)(w:World),(∀i w,s<=i->i<s+n->(f i).run P w=.ok (.yield PUnit.unit) w)->(forIn (m:=Sem) (List.range' s n) PUnit.unit fun i _=>f i).run P w=.ok PUnit.unit w
 |0,s,w,_=>by simp
 |n+1,s,w,hf=>by rw[qL222];simp only[forIn_cons,Sem.run_bind,hf s w (qL0 _) NH,Result.andThen_ok];exact z7 f n (s+1) w fun i w a h2=>hf i w NH NH
theorem pD:∀{l:xLV}{a:List (IntKind×Int)},aa9 l=Z a->∀i,i<l.length->∃k z,l[i]?=Z (.int k z)
 |[],_,_,i,hi=>absurd hi Ma
 |v::l,a,ha,i,hi=>by
  cases v<;>simp only[aa9]at ha<;>try cases ha
  split at ha
  .rename_i k z _ r b;cases i with
   |zero=>grind
   |succ i=>simpa using pD b i hGr
  .cases ha
theorem mo{P:Program}{g:TypeId}{x:vV}(l:ac4 P g x=tT)(b:Bool)(n:Nat)(w:World):(Instr.checkKey b (n+2) g x).run P w=.ok () w:=by
 obtain⟨len,e,k,xs,a,o,rfl,c,ha,hs,p⟩:=SX l;unfold Instr.checkKey;rw[Sem.run_bind,run_underlying o];simp only[Result.andThen_ok,qL174,Std.Legacy.Range.size];rw[Sem.run_bind,z7 (P:=P) _ _ 0 w fun i w q h2=>?_]
 .simp
 .have d:i<xs.toList.length:=by simp;omega
  have⟨j,z,hi⟩:=pD ha i d;have f:∀w,(part e xs i).run P w=.ok (.int j z) w:=fun w=>by have:xs[i]?=Z (.int j z):=hGr;simp[part,Rk c,ab8,this]
  simp only[Sem.run_bind,IT c,hs,ajX,f,BD c,Result.andThen_ok,Sem.run_pure]
theorem aa0{P:Program}{n:Nat}{m:abd}{c:TypeId}{key:vV}(b:VR n m key key):∀(es:List (vV×vV))(E:List MapEntry)(i:Nat)(w:World),AK n m (es.map (·.1)) (E.map (·.key))->AK n m (es.map (·.2)) (E.map (·.val))->∀r,adC P c key es i=Z r->
  (r=Y/\(Instr.findAsking c key E i).run P w=.ok Y w)\/∃j v v',r=Z (j,v)/\(Instr.findAsking c key E i).run P w=.ok (Z (j,v')) w/\VR n m v v'/\i<=j/\∃f k2,(es[j-i]?).map (·.1)=Z f/\(E[j-i]?).map (·.key)=Z k2/\VR n m f k2/\aEq P c key f=Z tT
 |[],E,i,w,g,k,r,e=>by
  have:E=[]:=by have:=g.1;grind
  subst this;simp[adC]at e;subst e;exact .inl ⟨rfl,by simp[Instr.findAsking]⟩
 |(a,v)::es,[],i,w,g,k,r,e=>by grind[AK]
 |(a,v)::es,d::E,i,w,g,k,r,e=>by
  have l:VR n m a d.key:=g.2 0 _ _ rfl rfl;have h2:VR n m v d.val:=k.2 0 _ _ rfl rfl;have o:AK n m (es.map (·.1)) (E.map (·.key)):=by simpa using g.drop 1
  have p:AK n m (es.map (·.2)) (E.map (·.val)):=by simpa using k.drop 1
  simp only[adC]at e;split at e
  .rename_i ha;injection e with e;subst e;have:=jN P c key d.key (Et b l ha) w;refine .inr ⟨i,v,d.val,rfl,?_,h2,qL0 _,a,d.key,Ma,Ma,l,ha⟩;unfold Instr.findAsking;grind[Go.Sem.run_bind,Go.Result.andThen_ok,Go.Sem.run_pure]
  .rename_i ha;have:=jN P c key d.key (Et b l ha) w;have hs:(Instr.findAsking c key (d::E) i).run P w=(Instr.findAsking c key E (i+1)).run P w:=by
    conv=>lhs;unfold Instr.findAsking
    grind[Go.Sem.run_bind,Go.Result.andThen_ok]
   rcases aa0 b es E (i+1) w o p r e with⟨q,s⟩|⟨j,u,u',q,s,t,y,f,k2,z,A,x⟩
   .grind
   .refine .inr ⟨j,u,u',q,hs.trans s,t,NH,f,k2,?_,?_,x⟩
    all_goals grind
  .cases e
theorem aa2{P:Program}{b:TypeId}{key:vV}(c:ac4 P b key=tT)(E:List MapEntry)(w:World):(Instr.findKey b key E).run P w=(Instr.findAsking b key E).run P w:=by
 obtain⟨len,e,k,xs,a,d,rfl,f,ha,hs,g⟩:=SX c;unfold Instr.findKey;rw[Sem.run_bind,run_underlying d];simp only[Result.andThen_ok];cases E with
 |nil=>simp[Instr.findNow,Instr.findAsking]
 |cons i E=>simp[Instr.findNow,Instr.sameNow]
theorem qK{n:Nat}{m:abd}:∀{l:xLV}{a:List (IntKind×Int)},aa9 l=Z a->AK n m l l
 |[],_,_=>.nil _ _
 |v::l,a,ha=>by
  cases v<;>simp only[aa9]at ha<;>try cases ha
  split at ha
  .rename_i r b;exact .cons (.flat rfl) (qK b)
  .cases ha
theorem Wd{P:Program}{a:TypeId}{x:vV}{n:Nat}{m:abd}(b:ac4 P a x=tT):VR n m x x:=by grind[SX,VR.uk,qK]
theorem agi{P:Program}(R:Rel W0 m h w){t:TypeId}{x i x' f v:vV}{ok:Bool}(l:VR h.next m x x')(hi:VR h.next m i f)(e:adH P h t x i ok=Z v):
  ∃v',(Instr.lookup t x' f ok).run P w=.ok v' w/\VR h.next m v v':=by
 unfold adH at e;split at e
 .rename_i n p r s;split at e
  .rename_i a;split at e
   .rename_i es g y z;have:=CW a hi;subst this;cases l with
    |flat hf=>grind[flat]
    |map C=>
     have⟨E,clock,_,A,h2,h3⟩:=R.mD (P:=P) y
     have c:(Instr.lookup t (.map (Z (m r).blk)) f ok).run P w=((do
       let(v,o) <-match<-Instr.findAsking n f E.toList with
        |some (_,v)=>pure (v,tT)
        |none=>pure (<-zeroValue p,fF)
       pure (if ok then .tuple #[v,.bool o]else v):Sem vV)).run P w:=by
      unfold Instr.lookup;simp only[Sem.run_bind,run_underlying s,Result.andThen_ok,A,Sem.run_pure];grind[mo,Go.Result.andThen_ok,aa2]
     split at e
     .rename_i j u hf;injection e with e;subst e;rcases aa0 (Wd a) es E.toList 0 w h2 h3 _ hf with⟨q,_⟩|⟨B,u1,u',b,D,k,_⟩
      .cases q
      .injection b with b;simp only[abW]at b;obtain⟨rfl,rfl⟩:=b
       refine⟨if ok then .tuple #[u',.bool tT]else u',?_,?_⟩
       .grind[Go.Sem.run_bind,Go.Result.andThen_ok,Go.Sem.run_pure]
       .cases ok
        .exact k
        .exact .qY (.cons k (.cons (.flat rfl) (.nil _ _)))
     .rename_i hf;split at e
      .rename_i d;injection e with e;subst e;rcases aa0 (Wd a) es E.toList 0 w h2 h3 _ hf with⟨_,q⟩|⟨B,u1,u',b,_⟩
       .refine⟨if ok then .tuple #[g,.bool fF]else g,?_,?_⟩
        .rw[c];simp only[Sem.run_bind,q,Result.andThen_ok,Sem.run_pure,rn z]
        .cases ok
         .exact .flat d
         .exact .qY (.cons (.flat d) (.cons (.flat rfl) (.nil _ _)))
       .cases b
      .cases e
     .cases e
   .cases e
  .cases e
 .cases e
theorem wN:∀{l l':xLV}{a:List (IntKind×Int)},aa9 l=Z a->aa9 l'=Z a->l=l'
 |[],[],_,_,_=>rfl
 |[],v::l',a,h,h'=>by
  simp only[aa9,ah1]at h;subst h
  cases v<;>simp only[aa9]at h'<;>try cases h'
  grind
 |v::l,[],a,h,h'=>by
  simp only[aa9,ah1]at h';subst h'
  cases v<;>simp only[aa9]at h<;>try cases h
  grind
 |v::l,v'::l',a,h,h'=>by
  cases v<;>simp only[aa9]at h<;>try cases h
  cases v'<;>simp only[aa9]at h'<;>try cases h'
  split at h
  .rename_i r c;split at h'
   .rename_i f b;injection h with h;injection h' with h';subst h;injection h' with d h2;injection d with h3 e;subst h2 h3 e;rw[wN c b]
   .cases h'
  .cases h
theorem fI{P:Program}{c:TypeId}{key b:vV}(d:ac4 P c key=tT)(e:aEq P c key b=Z tT):b=key:=by
 obtain⟨len,el,k,xs,a,f,rfl,g,ha,hs,i⟩:=SX d
 cases b<;>simp only[aEq,f]at e<;>try cases e
 grind[wN,Array.toList_inj]
theorem tK:∀{l:xLV}{a:List (IntKind×Int)},aa9 l=Z a->∀n,((l.zip l).all fun(x,y)=>Instr.sameBits n x y)=tT
 |[],_,_,_=>rfl
 |v::l,a,ha,n=>by
  cases v<;>simp only[aa9]at ha<;>try cases ha
  split at ha
  .rename_i k z _ r b;have:=tK b n;have c:Instr.sameBits n (.int k z) (.int k z)=tT:=by cases n<;>simp[Instr.sameBits]
   grind[zip_cons_cons]
  .cases ha
theorem uG{P:Program}{b:TypeId}{key:vV}(c:ac4 P b key=tT)(w:World):(Instr.keyThatStays key key).run P w=.ok key w:=by
 obtain⟨len,el,k,xs,a,d,rfl,e,ha,hs,f⟩:=SX c;have:Instr.sameBits 10000 (.agg xs) (.agg xs)=tT:=by have:=tK ha 9999;show(xs.size==xs.size&&_)=tT;grind
 unfold Instr.keyThatStays;rw[WA this];simp
theorem jy{P:Program}(R:Rel W0 m h w){t:TypeId}{x i v x' f v':vV}{h':aai}(l:VR h.next m x x')(hi:VR h.next m i f)(n:VR h.next m v v')(e:aea P h t x i v=Z h'):
  ∃w',(Instr.mapUpdate t x' f v').run P w=.ok () w'/\Rel W0 m h' w'/\h'.next=h.next:=by
 unfold aea at e;split at e
 .rename_i G H r g;split at e
  .rename_i a;split at e
   .rename_i es c;have:=CW a hi;subst this;cases l with
    |flat hf=>grind[flat]
    |map I=>
     have⟨E,clock,hb,k,h2,h3⟩:=R.mD (P:=P) c;split at e
     .rename_i j u hf;injection e with e;subst e;rcases aa0 (Wd a) es E.toList 0 w h2 h3 _ hf with⟨q,_⟩|⟨o,u1,u',b,J,K,_,L,k2,p,s,y,z⟩
      .cases q
      .injection b with b;simp only[abW]at b;obtain⟨rfl,rfl⟩:=b;rw[qL259]at p s;obtain rfl:=fI a z;obtain rfl:=CW a y;have A:j<es.length:=by
        cases M:es[j]?<;>grind
       have hlen:E.toList.length=es.length:=by have:=h2.1;grind
       have B:j<E.size:=hGr;have C:((E[j]?).map (·.key)).getD k2=k2:=hGr;refine⟨_,?_,R.HF (E':=E.modify j fun d=>{d with key:=k2,val:=v'}) (clock':=clock) c hb ?_ ?_ ((R.born c hb).modify _ _ fun _=>rfl),rfl⟩
       .unfold Instr.mapUpdate;simp only[Sem.run_bind,run_underlying g,Result.andThen_ok,k];grind[mo,Go.Result.andThen_ok,aa2,Go.Sem.run_bind,uG,run_setObj_map]
       .have:=h2.set j (x:=k2) (x':=k2) (Wd a);refine(?_:AK _ _ _ _);have D:(es.set j (k2,v)).map (·.1)=(es.map (·.1)).set j k2:=by rw[alw]
        have F:((E.modify j fun d=>{d with key:=k2,val:=v'}).toList.map (·.key))=(E.toList.map (·.key)).set j k2:=by apply EH;grind
        grind
       .have:=h3.set j (x:=v) (x':=v') n;have D:(es.set j (k2,v)).map (·.2)=(es.map (·.2)).set j v:=by rw[alw]
        have F:((E.modify j fun d=>{d with key:=k2,val:=v'}).toList.map (·.val))=(E.toList.map (·.val)).set j v':=by apply EH;grind
        grind
     .rename_i hf;injection e with e;subst e;rcases aa0 (Wd a) es E.toList 0 w h2 h3 _ hf with⟨_,q⟩|⟨o,u1,u',b,_⟩
      .refine⟨_,?_,R.HF (E':=E.push {key:=f,val:=v',born:=clock}) (clock':=clock+1) c hb ?_ ?_ ((R.born c hb).push _ _),rfl⟩
       .unfold Instr.mapUpdate;simp only[Sem.run_bind,run_underlying g,Result.andThen_ok,k];grind[mo,Go.Result.andThen_ok,aa2,run_setObj_map]
       all_goals grind[AK.append,AK.cons,AK.nil]
      .cases b
     .cases e
   .cases e
  .cases e
 .cases e
def aer(P:Program)(h:aai)(t:TypeId)(x i:vV)(ok:Bool):Option vV:=
 match acR P h t x i ok with
 |some v=>Z v
 |none=>adH P h t x i ok
def aet(P:Program)(h:aai)(t:TypeId)(x i v:vV):Option aai:=
 match acM P h t x i v with
 |some v=>Z v
 |none=>aea P h t x i v
theorem AJ{P:Program}(R:Rel W0 m h w){t:TypeId}{x i x' a v:vV}{ok:Bool}(b:VR h.next m x x')(hi:VR h.next m i a)(e:aer P h t x i ok=Z v):
  ∃v',(Instr.lookup t x' a ok).run P w=.ok v' w/\VR h.next m v v':=by grind[aer,agp,agi]
theorem DZ{P:Program}(R:Rel W0 m h w){t:TypeId}{x i v x' a v':vV}{h':aai}(b:VR h.next m x x')(hi:VR h.next m i a)(c:VR h.next m v v')(e:aet P h t x i v=Z h'):
  ∃w',(Instr.mapUpdate t x' a v').run P w=.ok () w'/\Rel W0 m h' w'/\h'.next=h.next:=by grind[aet,Um,jy]
def ad9(P:Program)(h:aai)(t:TypeId)(x i:vV):Option (vV×aai):=
 match P.underlying t,x with
 |some (.map b c),.map (Z r)=>
  if ac4 P b i then
   match h.own r,acd P c with
   |some (.map es),Z a=>
    match adC P b i es 0 with
    |some (Z (j,v))=>Z (.tuple #[v,j],h.put r (.map es))
    |some Y=>if flat a then Z (.tuple #[a,es.length],h.put r (.map (es++[(i,a)])))else Y
    |none=>Y
   |_,_=>Y
  else Y
 |_,_=>Y
def acT(h:aai)(x s v:vV):Option aai:=
 match x,s with
 |.map (Z r),.int .i64 j=>
  match h.own r with
  |some (.map es)=>
   if 0<=j then
    match es[j.toNat]? with
    |some p=>Z (h.put r (.map (es.set j.toNat (p.1,v))))
    |none=>Y
   else Y
  |_=>Y
 |_,_=>Y
theorem ael{P:Program}(R:Rel W0 m h w){t:TypeId}{x i x' k v:vV}{h':aai}(A:VR h.next m x x')(hi:VR h.next m i k)(e:ad9 P h t x i=Z (v,h')):
  OK P W0 m h w (Instr.mapEntry t x' k) v h':=by
 unfold ad9 at e;split at e
 .rename_i L M r y;split at e
  .rename_i a;split at e
   .rename_i es f g B;have:=CW a hi;subst this;cases A with
    |flat hf=>grind[flat]
    |map N=>
     have⟨E,clock,hb,z,h2,h3⟩:=R.mD (P:=P) g;have hB:=R.born g hb;split at e
     .rename_i j u hf;injection e with e;simp only[abW]at e;obtain⟨rfl,rfl⟩:=e;rcases aa0 (Wd a) es E.toList 0 w h2 h3 _ hf with⟨q,_⟩|⟨C,u1,u',c,D,F,_,O,k2,G,H,I,J⟩
      .cases q
      .injection c with c;simp only[abW]at c;obtain⟨rfl,rfl⟩:=c;rw[qL259]at G H;obtain rfl:=fI a J;obtain rfl:=CW a I;have l:((E[j]?).map (·.key)).getD k2=k2:=hGr;have n:((E[j]?).map fun x=>(x.born:Int)).getD 0=(j:Int):=by
        cases K:E[j]? with
        |none=>grind
        |some b=>have:=hB.2 j b K;simp[this]
       have o:((E.modify j fun b=>{b with key:=k2}).toList.map (·.key))=E.toList.map (·.key):=by apply EH;grind
       have p:((E.modify j fun b=>{b with key:=k2}).toList.map (·.val))=E.toList.map (·.val):=by apply EH;grind
       refine⟨m,.tuple #[u',j],_,?_,R.HF (E':=E.modify j fun b=>{b with key:=k2}) (clock':=clock) g hb (by rw[o];exact h2) (by rw[p];exact h3) (hB.modify _ _ fun _=>rfl),.refl _ _,qL0 _,.qY (.cons F (.cons (.flat rfl) (.nil _ _)))⟩;unfold Instr.mapEntry;simp only[Sem.run_bind,run_underlying y,Result.andThen_ok,z];rw[mo a];simp only[Result.andThen_ok,aa2 a,Sem.run_bind,D,l,uG a,run_setObj_map _ hb,Sem.run_pure,n,goInt]
     .rename_i hf;split at e
      .rename_i d;injection e with e;simp only[abW]at e;obtain⟨rfl,rfl⟩:=e;rcases aa0 (Wd a) es E.toList 0 w h2 h3 _ hf with⟨_,q⟩|⟨C,u1,u',c,_⟩
       .have hlen:E.size=es.length:=by have:=h2.1;grind
        have s:clock=es.length:=hB.1.trans hlen;refine⟨m,.tuple #[f,es.length],_,?_,R.HF (E':=E.push {key:=k,val:=f,born:=clock}) (clock':=clock+1) g hb ?_ ?_ (hB.push _ _),.refl _ _,qL0 _,.qY (.cons (.flat d) (.cons (.flat rfl) (.nil _ _)))⟩
        .unfold Instr.mapEntry;simp only[Sem.run_bind,run_underlying y,Result.andThen_ok,z];rw[mo a];simp only[Result.andThen_ok,aa2 a,Sem.run_bind,q,rn B,run_setObj_map _ hb,Sem.run_pure,s,goInt]
        .grind[AK.append,AK.cons,AK.nil]
        .have:VR h.next m f f:=.flat d
         grind[AK.append,AK.cons,AK.nil]
       .cases c
      .cases e
     .cases e
   .cases e
  .cases e
 .cases e
theorem ac6{P:Program}(R:Rel W0 m h w){t:TypeId}{x s v x' k v':vV}{h':aai}(n:VR h.next m x x')(hs:VR h.next m s k)(o:VR h.next m v v')(e:acT h x s v=Z h'):
  ∃w',(Instr.entryStore t x' k v').run P w=.ok () w'/\Rel W0 m h' w'/\h'.next=h.next:=by
 unfold acT at e;split at e
 .rename_i r j;split at e
  .rename_i es c;split at e
   .rename_i q;split at e
    .rename_i p l;injection e with e;subst e;have:=hs.Ja;subst this;cases n with
     |flat hf=>grind[flat]
     |map y=>
      have⟨E,clock,hb,u,h2,h3⟩:=R.mD (P:=P) c;have hB:=R.born c hb;obtain⟨j,rfl⟩:=Sb q;rw[vZ]at l ⊢;have hlen:E.size=es.length:=by have:=h2.1;grind
      have b:j<E.size:=by rw[hlen];exact(Ny.1 l).1
      have d:E.findIdx? (fun a=>((a.born:Int)==(j:Int)))=Z j:=by
       rw[Array.findIdx?_eq_some_iff_getElem];refine⟨b,?_,fun i hi=>?_⟩
       .have:=hB.2 j E[j] (aex b);simp[this]
       .have:=hB.2 i E[i] (aex NH);simp[this];omega
      refine⟨_,?_,R.HF (E':=E.modify j fun a=>{a with val:=v'}) (clock':=clock) c hb ?_ ?_ (hB.modify _ _ fun _=>rfl),rfl⟩
      .unfold Instr.entryStore;simp only[Sem.run_bind,u,Result.andThen_ok,asInt,asIntOf,Sem.run_pure,d];exact run_setObj_map _ hb
      .have f:(es.set j (p.1,v)).map (·.1)=es.map (·.1):=by
        rw[alw];refine EH fun i=>?_;grind
       have g:((E.modify j fun a=>{a with val:=v'}).toList.map (·.key))=E.toList.map (·.key):=by apply EH;grind
       rw[f,g];exact h2
      .have:=h3.set j (x:=v) (x':=v') o;have f:(es.set j (p.1,v)).map (·.2)=(es.map (·.2)).set j v:=by rw[alw]
       have g:((E.modify j fun a=>{a with val:=v'}).toList.map (·.val))=(E.toList.map (·.val)).set j v':=by apply EH;grind
       rw[f,g];exact this
    .cases e
   .cases e
  .cases e
 .cases e
def ae9(P:Program)(h:aai)(t:TypeId)(x:vV):Option (vV×aai):=
 match P.underlying t,x with
 |some (.slice e),.slice a n _=>
  bif n==0 then Z (.tuple #[],h)else
  match a,acd P e with
  |some ⟨id,off,Y⟩,Z z=>
   match h.own id with
   |some (.cells c)=>bif z.cells.toList.all flat&&decide (off+n*z.cells.size<=c.length)then Z (.tuple #[],h.put id (.cells (putCells c off (acY z.cells.toList n))))else Y
   |_=>Y
  |_,_=>Y
 |_,_=>Y
theorem aClear_ok{P:Program}(R:Rel W0 m h w){t:TypeId}{ats:Array TypeId}(b:ats[0]?=Z t){ty:TypeId}{x x' v:vV}{h':aai}(p:VR h.next m x x')(e:ae9 P h t x=Z (v,h')):
  OK P W0 m h w (Builtin.clear_ ats ty #[x']) v h':=by
 unfold ae9 at e;split at e
 .rename_i el a n cap q;by_cases s:n=0
  .subst s;simp only[beq_self_eq_true,cond_true]at e;injection e with e;simp only[abW]at e;obtain⟨rfl,rfl⟩:=e;obtain⟨u,c',rfl,f⟩:=p.YC;refine⟨m,.tuple #[],w,?_,R,.refl _ _,qL0 _,.qY (.nil _ _)⟩;unfold Builtin.clear_;cases u<;>simp[b,run_underlying q]
  .have g:(n==0)=fF:=hGr;rw[g,cond_false]at e;split at e
   .rename_i id off z y;split at e
    .rename_i c A;cases i:(z.cells.toList.all Fw.flat&&decide (off+n*z.cells.size<=c.length))with
     |false=>grind
     |true=>
      rw[i,cond_true]at e;injection e with e;simp only[abW]at e;obtain⟨rfl,rfl⟩:=e;rw[ae7,uV]at i;have⟨j,r⟩:=i;have d:=Ew Fw.flat _ j n;have⟨w',hw,R'⟩:=Rel.jW P (acY z.cells.toList n) (acY z.cells.toList n) 0 R (off:=off) A (by grind[jY]) (AK.flat d) (fun v B=>vY.1 (flat_ones d) v B);obtain⟨k,rfl⟩:∃k,n=k+1:=⟨n-1,NH⟩;have l:(Builtin.zeroCells z.cells (k+1)).toList=acY z.cells.toList (k+1):=MI _ _ _ rfl;refine⟨m,.tuple #[],w',?_,hGr,.refl _ _,qL0 _,.qY (.nil _ _)⟩;have o:∃c',x'=sL (Z ⟨(m id).blk,(m id).base+off,Y⟩) (k+1) c':=by
       cases p with
       |flat hf=>grind[flat]
       |slice _ _=>grind
       |buf _ C ha=>
        rcases ha with⟨rfl,_⟩|D
        all_goals grind
      obtain⟨c',rfl⟩:=o;unfold Builtin.clear_;simp only[b,acg,MY,Sem.run_bind,run_underlying q,Result.andThen_ok,rn y,l,hw];rfl
    .cases e
   .cases e
 .cases e
abbrev aam:=Trie vV
def aa6(fr:aam):Operand->Option vV
 |.tmp t=>fr.get t
 |.const v=>bif flat v then Z v else Y
 |.func f=>Z (.func (.func f) #[] #[])
 |.global _=>Y
def FR(n:Nat)(m:abd)(fr:aam)(tmps:Array vV):Prop:=∀k v,fr.get k=Z v->∃v',tmps[k]?=Z v'/\VR n m v v'
theorem FR.mono{n n':Nat}{m a:abd}{fr:aam}{t:Array vV}(F:FR n m fr t)(b:n<=n')(c:ZK n m a):FR n' a fr t:=fun k v e=>let⟨v',d,h2⟩:=F k v e;⟨v',d,h2.mono b c⟩
theorem Ns{n:Nat}{m:abd}{fr:aam}{a:Act}(F:FR n m fr a.tmps){o:Operand}{v:vV}(e:aa6 fr o=Z v):VR n m v (a.eval o):=by
 cases o with
 |tmp t=>
  have⟨v',b,h2⟩:=F t v e;have:a.eval (.tmp t)=v':=by simp[Act.eval,Ex,b]
  grind
 |const c=>
  simp only[aa6]at e;cases hf:flat c with
  |true=>rw[hf]at e;simp at e;subst e;exact .flat hf
  |false=>grind
 |global g=>grind[aa6]
 |func f=>simp only[aa6]at e;injection e with e;subst e;exact .func rfl rfl (fun i v v' h=>by simp at h) (fun i v v' h=>by simp at h)
def acZ(fr:aam):List Operand->Option xLV
  |[]=>Z []
  |o::r=>match aa6 fr o with
    |some v=>match acZ fr r with|some l=>Z (v::l)|none=>Y
    |none=>Y
theorem PZ{n:Nat}{m:abd}{fr:aam}{a:Act}(F:FR n m fr a.tmps):∀{l:List Operand}{vs:xLV},acZ fr l=Z vs->AK n m vs (l.map a.eval)
 |[],vs,e=>by grind[acZ,AK.nil]
 |o::r,vs,e=>by
  simp only[acZ]at e;split at e
  .rename_i v b;split at e
   .rename_i l c;injection e with e;subst e;exact .cons (Ns F b) (PZ F c)
   .cases e
  .cases e
def aeb(fr:aam):List (Nat×Operand)->Option (List (Nat×vV))
  |[]=>Z []
  |(i,o)::r=>match aa6 fr o with
    |some v=>match aeb fr r with|some l=>Z ((i,v)::l)|none=>Y
    |none=>Y
def He{n:Nat}{m:abd}{fr:aam}{a:Act}(F:FR n m fr a.tmps):∀{l:List (Nat×Operand)}{vs:List (Nat×vV)},aeb fr l=Z vs->PRs n m vs (l.map fun p=>(p.1,a.eval p.2))
 |[],vs,e=>by simp[aeb]at e;subst e;exact .nil
 |(i,o)::r,vs,e=>by
  simp only[aeb]at e;split at e
  .rename_i v b;split at e
   .rename_i l c;injection e with e;subst e;exact .cons (Ns F b) (He F c)
   .cases e
  .cases e
def aec(fr:aam):Option Operand->Option (Option vV)
 |none=>Z Y
 |some o=>match aa6 fr o with|some v=>Z (Z v)|none=>Y
def Oh{n:Nat}{m:abd}{fr:aam}{a:Act}(F:FR n m fr a.tmps){o:Option Operand}{v:Option vV}(e:aec fr o=Z v):VRo n m v (o.map a.eval):=by
 cases o with
 |none=>simp[aec]at e;subst e;exact .none
 |some o=>
  simp only[aec]at e;split at e
  .rename_i u b;injection e with e;subst e;exact .some (Ns F b)
  .cases e
def Yx:vV:=.tuple #[]
def acy(x:vV):Option vV:=
 match x with
 |.pointer (Z a)=>Z (pT (Z a))
 |.func (.func f) a b=>Z (.func (.func f) a b)
 |_=>Y
def aeZ(P:Program)(h:aai)(b:Builtin)(ats:List TypeId)(args:xLV):Option (vV×aai):=
 match b,ats,args with
 |.append,[t,xt],[s,x]=>aaR P h t xt s x
 |.len,t::_,[x]=>match aeh P h t x with|some v=>Z (v,h)|none=>Y
 |.copy,t::_,[d,s]=>afo P h t d s
 |.clear,t::_,[s]=>ae9 P h t s
 |.min,_,x::r=>match agw x r with|some v=>Z (v,h)|none=>Y
 |.max,_,x::r=>match LZ x r with|some v=>Z (v,h)|none=>Y
 |_,_,_=>Y
def abr(P:Program)(fr:aam)(h:aai)(o:Oper):Option (vV×aai):=
  match o.op with
  |.move x|.assign x=>match aa6 fr x with|some v=>Z (v,h)|none=>Y
  |.pick c a b=>match aa6 fr c with
    |some (.bool t)=>match aa6 fr (bif t then a else b)with|some v=>Z (v,h)|none=>Y
    |_=>Y
  |.alloc t=>abO P h t
  |.box _ x=>match aa6 fr x with|some v=>zF h v|none=>Y
  |.build t ps=>match aeb fr ps.toList with
    |some l=>match acB P t l with|some v=>Z (v,h)|none=>Y
    |none=>Y
  |.buildSlice t len ps=>match aeb fr ps.toList with|some l=>aas P h t len l|none=>Y
  |.load t a=>match aa6 fr a with
    |some (pT (Z ad))=>match aaC P h t ad with|some v=>Z (v,h)|none=>Y
    |_=>Y
  |.store t a x=>match aa6 fr a,aa6 fr x with
    |some e,Z g=>match aaK P h t e g with|some h'=>Z (Yx,h')|none=>Y
    |_,_=>Y
  |.nilCheck x=>match aa6 fr x with
    |some v=>match acy v with|some v=>Z (v,h)|none=>Y
    |none=>Y
  |.binOp op t x y _=>match aa6 fr x,aa6 fr y with
    |some a,Z b=>match mM P op t a b with|some v=>Z (v,h)|none=>Y
    |_,_=>Y
  |.unOp op _ x=>match aa6 fr x with
    |some a=>match aUn op a with|some v=>Z (v,h)|none=>Y
    |none=>Y
  |.convert s d x=>match aa6 fr x with|some a=>acX P h s d a|none=>Y
  |.makeFunc fn first cap=>match acZ fr first.toList,acZ fr cap.toList with
    |some a,Z b=>Z (.func fn a.toArray b.toArray,h)
    |_,_=>Y
  |.makeMap t r=>match r with
    |none=>Z (.map (Z h.next),h.alloc (.map []))
    |some o=>match aa6 fr o,P.underlying t with
      |some (.int _ _),Z (.map _ _)=>Z (.map (Z h.next),h.alloc (.map []))
      |_,_=>Y
  |.makeSlice t l c=>match aa6 fr l,aa6 fr c with
    |some a,Z b=>abl P h t a b
    |_,_=>Y
  |.slice t x lo hi j=>match aa6 fr x,aec fr lo,aec fr hi,aec fr j with
    |some a,Z l,Z r,Z k=>match abf P t a l r k with|some v=>Z (v,h)|none=>Y
    |_,_,_,_=>Y
  |.fieldAddr s x f=>match aa6 fr x with
    |some a=>match aca P s a f with|some v=>Z (v,h)|none=>Y
    |none=>Y
  |.indexAddr t x i=>match aa6 fr x,aa6 fr i with
    |some a,Z b=>match aao P t a b with|some v=>Z (v,h)|none=>Y
    |_,_=>Y
  |.index t x i=>match aa6 fr x,aa6 fr i with
    |some a,Z b=>match afh P t a b with|some v=>Z (v,h)|none=>Y
    |_,_=>Y
  |.extract x i=>match aa6 fr x with
    |some a=>match acW a i with|some v=>Z (v,h)|none=>Y
    |none=>Y
  |.lookup t x i ok=>match aa6 fr x,aa6 fr i with
    |some a,Z b=>match aer P h t a b ok with|some v=>Z (v,h)|none=>Y
    |_,_=>Y
  |.mapUpdate t x k y=>match aa6 fr x,aa6 fr k,aa6 fr y with
    |some a,Z b,Z c=>match aet P h t a b c with|some h'=>Z (Yx,h')|none=>Y
    |_,_,_=>Y
  |.call {callee:=.builtin b,args,argTypes}=>match acZ fr args.toList with
    |some vs=>aeZ P h b argTypes.toList vs
    |none=>Y
  |.mapEntry t x k=>match aa6 fr x,aa6 fr k with
    |some a,Z b=>ad9 P h t a b
    |_,_=>Y
  |.entryStore _ x s y=>match aa6 fr x,aa6 fr s,aa6 fr y with
    |some a,Z b,Z c=>match acT h a b c with|some h'=>Z (Yx,h')|none=>Y
    |_,_,_=>Y
  |_=>Y
def Ot(P:Program)(W0:LA)(m:abd)(h:aai)(w:World)(s:Sem Next)(v:vV)(h':aai):Prop:=∃a v' w',(s.run P w=.ok (.value v') w'\/(s.run P w=.ok .skip w'/\v'=undef))/\Rel W0 a h' w'/\ZK h.next m a/\h.next<=h'.next/\VR h'.next a v v'
theorem Ot.TJ{P:Program}{s:Sem vV}{v:vV}{h':aai}(e:OK P W0 m h w s v h'):Ot P W0 m h w (do pure (.value (<-s))) v h':=by have⟨a,v',w',b,h2,h3,c,d⟩:=e;exact⟨a,v',w',.inl (by simp[b]),h2,h3,c,d⟩
def Ot.J0{P:Program}{s:Sem vV}{v:vV}(R:Rel W0 m h w)(e:∃v',s.run P w=.ok v' w/\VR h.next m v v'):Ot P W0 m h w (do pure (.value (<-s))) v h:=
 .TJ (OK.pure R e)
theorem Ot.val{P:Program}{v v':vV}(R:Rel W0 m h w)(e:VR h.next m v v'):Ot P W0 m h w (pure (.value v')) v h:=⟨m,v',w,.inl Ma,R,.refl _ _,qL0 _,e⟩
theorem Dm{P:Program}(R:Rel W0 m h w){b:Builtin}{ats:Array TypeId}{ty:TypeId}{cs:Array Bool}{args a:xLV}{v:vV}{h':aai}(ha:AK h.next m args a)(e:aeZ P h b ats.toList args=Z (v,h')):Ot P W0 m h w (builtin b ats ty cs a.toArray) v h':=by
 unfold aeZ at e;split at e
 .rename_i t xt s x c;have g:ats=#[t,xt]:=hGr;subst g
  match a,ha with
  |[i,x'],ha=>exact .TJ (Uk R (ha.2 0 s i rfl rfl) (ha.2 1 x x' rfl rfl) e)
  |[],ha|[_],ha|_::_::_::_,ha=>grind[AK]
 .rename_i t r x c;have f:ats[0]?=Z t:=by rw[<-Gg,c];rfl
  match a,ha with
  |[x'],ha=>
   split at e
   .rename_i n j;injection e with e;simp only[abW]at e;obtain⟨rfl,rfl⟩:=e;exact .J0 R (aLen_rel R f (ha.2 0 x x' rfl rfl) j)
   .cases e
  |[],ha|_::_::_,ha=>grind[AK]
 .rename_i t r d s c;have f:ats[0]?=Z t:=by rw[<-Gg,c];rfl
  match a,ha with
  |[o,i],ha=>exact .TJ (aCopy_ok R f (ha.2 0 d o rfl rfl) (ha.2 1 s i rfl rfl) e)
  |[],ha|[_],ha|_::_::_::_,ha=>grind[AK]
 .rename_i t r s c;have f:ats[0]?=Z t:=by rw[<-Gg,c];rfl
  match a,ha with
  |[i],ha=>exact .TJ (aClear_ok R f (ha.2 0 s i rfl rfl) e)
  |[],ha|_::_::_,ha=>grind[AK]
 .rename_i x r
  match a,ha with
  |x'::k,ha=>
   split at e
   .rename_i n j;injection e with e;simp only[abW]at e;obtain⟨rfl,rfl⟩:=e;have⟨v',l,h2⟩:=TZ (P:=P) r k (ha.2 0 x x' rfl rfl) (by simpa using ha.drop 1) j w;exact .J0 R ⟨v',by simpa[Builtin.min_]using l,h2⟩
   .cases e
  |[],ha=>grind[AK]
 .rename_i x r
  match a,ha with
  |x'::k,ha=>
   split at e
   .rename_i n j;injection e with e;simp only[abW]at e;obtain⟨rfl,rfl⟩:=e;have⟨v',l,h2⟩:=td (P:=P) r k (ha.2 0 x x' rfl rfl) (by simpa using ha.drop 1) j w;exact .J0 R ⟨v',by simpa[Builtin.max_]using l,h2⟩
   .cases e
  |[],ha=>grind[AK]
 .cases e
theorem aEq_agg{P:Program}{t:TypeId}{xs ys:Array vV}{r:Bool}(e:aEq P t (.agg xs) (.agg ys)=Z r):P.eqGuardType P.depth t=fF:=by unfold aEq at e;grind[acN]
theorem V1{P:Program}(R:Rel W0 m h w){op:BinOp}{t:TypeId}{x y:Operand}{a b a' c v:vV}(ha:VR h.next m a a')(hb:VR h.next m b c)(e:mM P op t a b=Z v):
  Ot P W0 m h w (do pure (.value (<-(do eqGuard op t x y a' c;binOp op t a' c)))) v h:=by
 unfold mM at e;cases hg:aci a with
 |false=>grind
 |true=>
  rw[hg]at e;simp only[cond_true]at e;have⟨hf,d⟩:=abin_rel ha hb e;refine .J0 R ⟨v,?_,.flat hf⟩;have f:(eqGuard op t x y a' c).run P w=.ok () w:=by
   refine agn P op t x y a' c w ?_ ?_
   .rintro⟨rfl,_⟩;cases ha<;>grind[aci]
   .rintro g i rfl rfl;cases ha with
    |flat hh=>grind[flat]
    |agg _ _=>
     cases hb with
     |flat hh=>grind[flat]
     |agg _ _=>
      rename_i xs ys _ _ _ _
      cases op<;>simp only[ae3]at e<;>(try cases e)
      all_goals grind[aEq_agg]
  rw[Sem.run_bind,f];exact d w
theorem ae4{P:Program}{a:Act}{fr:aam}{o:Oper}{v:vV}{h':aai}(R:Rel W0 m h w)(F:FR h.next m fr a.tmps)(e:abr P fr h o=Z (v,h')):
  Ot P W0 m h w (execOp a.eval o) v h':=by
 unfold abr at e;unfold execOp;split at e
 .grind[Ot.val,Ns]
 .grind[Ot.val,Ns]
 .rename_i c x y g;simp only[g];split at e
  .rename_i t U;split at e
   .rename_i u A;injection e with e;simp only[abW]at e;obtain⟨rfl,rfl⟩:=e;have G:=(Ns F U).YE;have B:=Ns F A
    refine⟨m,a.eval (bif t then x else y),w,.inl ?_,R,.refl _ _,qL0 _,B⟩
    simp only[G,asBool,Sem.run_bind,Sem.run_pure,Result.andThen_ok];grind
   .cases e
  .cases e
 .grind[Ot.TJ,aAlloc_ok]
 .rename_i t x g;simp only[g];split at e
  .rename_i u A;exact .TJ (aBox_ok R (Ns F A) e)
  .cases e
 .rename_i t ps g;simp only[g];split at e
  .rename_i l H;split at e
   .rename_i u A;injection e with e;simp only[abW]at e;obtain⟨rfl,rfl⟩:=e;have:=WX (P:=P) (He F H) A w;refine .J0 R ?_
    have K:(ps.map fun x=>match x with|(i,x)=>(i,a.eval x))=(ps.toList.map fun p=>(p.1,a.eval p.2)).toArray:=hGr
    grind
   .cases e
  .cases e
 .rename_i t len ps g;simp only[g];split at e
  .rename_i l H;have:=Mg (P:=P) R (He F H) e
   have K:(ps.map fun x=>match x with|(i,x)=>(i,a.eval x))=(ps.toList.map fun p=>(p.1,a.eval p.2)).toArray:=hGr
   grind[Ot.TJ]
  .cases e
 .rename_i t x g;simp only[g];split at e
  .rename_i ad L;split at e
   .rename_i u A;injection e with e;simp only[abW]at e;obtain⟨rfl,rfl⟩:=e;have⟨a',mi,M⟩:=(Ns F L).AP;have⟨v',D,h2⟩:=R.loadVar (P:=P) M A;exact .J0 R ⟨v',by rw[mi];simp[Instr.loadAt,Instr.sureAddr,D],h2⟩
   .cases e
  .cases e
 .rename_i t x y g;simp only[g];split at e
  .rename_i av xv N O;split at e
   .rename_i h2 E;injection e with e;simp only[abW]at e;obtain⟨rfl,rfl⟩:=e;have⟨w',D,R',T⟩:=aStore_ok (P:=P) R (Ns F N) (Ns F O) E;exact⟨m,undef,w',.inr ⟨by simp[D],rfl⟩,R',.refl _ _,NH,.tuple rfl (fun i v v' h=>by simp at h)⟩
   .cases e
  .cases e
 .rename_i x g;simp only[g];split at e
  .rename_i u A;split at e
   .rename_i u' B;injection e with e;simp only[abW]at e;obtain⟨rfl,rfl⟩:=e;have I:=Ns F A;unfold acy at B;split at B
    .grind[VR.AP,Ot.val]
    .injection B with B;subst B;generalize a.eval x=x' at I ⊢;cases I with
     |flat hf=>grind[flat]
     |func D h2 h3 V=>exact .val R (.func D h2 h3 V)
    .cases B
   .cases e
  .cases e
 .rename_i op t x y yt g;simp only[g];split at e
  .rename_i p q j C;split at e
   .rename_i u A;injection e with e;simp only[abW]at e;obtain⟨rfl,rfl⟩:=e;exact V1 R (Ns F j) (Ns F C) A
   .cases e
  .cases e
 .rename_i op t x g;simp only[g];split at e
  .rename_i p j;split at e
   .rename_i u A;injection e with e;simp only[abW]at e;obtain⟨rfl,rfl⟩:=e;have⟨D,h2⟩:=aUn_rel P (Ns F j) A;exact .J0 R ⟨u,h2 w,.flat D⟩
   .cases e
  .cases e
 .rename_i s d x g;simp only[g];split at e
  .rename_i p j;exact .TJ (Mu R (Ns F j) e)
  .cases e
 .rename_i fn first cap g;simp only[g]
  split at e
  .rename_i p q j C;injection e with e;simp only[abW]at e;obtain⟨rfl,rfl⟩:=e;have D:=PZ F j;have h2:=PZ F C
   refine .J0 R ⟨.func fn (first.map a.eval) (cap.map a.eval),by simp[Instr.makeFunc],.func ?_ ?_ (fun i v v' e e'=>D.2 i v v' (by simpa using e) hGr) (fun i v v' e e'=>h2.2 i v v' (by simpa using e) hGr)⟩
   .have:=D.1;grind
   .have:=h2.1;grind
  .cases e
 .rename_i t r g;simp only[g];split at e
  .injection e with e;simp only[abW]at e;obtain⟨rfl,rfl⟩:=e;refine .TJ ⟨_,.map (Z w.heap.size),_,by simp[Instr.makeMap],R.allocMap,Qq _ _ _,ahG _,?_⟩
   have:=VR.map (n:=h.next+1) (m:=upd m h.next ⟨w.heap.size,0,0⟩) (id:=h.next) (adN _)
   rw[zf]at this;exact this
  .split at e
   .rename_i r x y k i dk de j A;injection e with e;simp only[abW]at e;obtain⟨rfl,rfl⟩:=e;have I:=Ns F j;have Q:a.eval r=.int k i:=by
     generalize a.eval r=z at I;cases I;rfl
    refine .TJ ⟨_,.map (Z w.heap.size),_,?_,R.allocMap,Qq _ _ _,ahG _,?_⟩
    .rw[ahD,Q];simp[Instr.makeMap,Sem.run_bind,run_underlying A,asInt,asIntOf]
    .have:=VR.map (n:=h.next+1) (m:=upd m h.next ⟨w.heap.size,0,0⟩) (id:=h.next) (adN _)
     rw[zf]at this;exact this
   .cases e
 .rename_i t l c g;simp only[g];split at e
  .rename_i p q j C;exact .TJ (ZU R (Ns F j) (Ns F C) e)
  .cases e
 .rename_i t x lo hi mx g;simp only[g];split at e
  .rename_i p l r k j H W X;split at e
   .rename_i u A;injection e with e;simp only[abW]at e;obtain⟨rfl,rfl⟩:=e;exact .J0 R (jw (Ns F j) (Oh F H) (Oh F W) (Oh F X) A w)
   .cases e
  .cases e
 .rename_i s x f g;simp only[g];split at e
  .rename_i p j;split at e
   .rename_i u A;injection e with e;simp only[abW]at e;obtain⟨rfl,rfl⟩:=e;exact .J0 R (afO (Ns F j) A w)
   .cases e
  .cases e
 .rename_i t x i g;simp only[g];split at e
  .rename_i p q j C;split at e
   .rename_i u A;injection e with e;simp only[abW]at e;obtain⟨rfl,rfl⟩:=e;exact .J0 R (Bb (Ns F j) (Ns F C) A w)
   .cases e
  .cases e
 .rename_i t x i g;simp only[g];split at e
  .rename_i p q j C;split at e
   .rename_i u A;injection e with e;simp only[abW]at e;obtain⟨rfl,rfl⟩:=e;exact .J0 R (kg (Ns F j) (Ns F C) A w)
   .cases e
  .cases e
 .rename_i x i g;simp only[g];split at e
  .rename_i p j;split at e
   .rename_i u A;injection e with e;simp only[abW]at e;obtain⟨rfl,rfl⟩:=e;exact .J0 R (VI (Ns F j) A w)
   .cases e
  .cases e
 .rename_i t x i ok g;simp only[g];split at e
  .rename_i p q j C;split at e
   .rename_i u A;injection e with e;simp only[abW]at e;obtain⟨rfl,rfl⟩:=e;exact .J0 R (AJ R (Ns F j) (Ns F C) A)
   .cases e
  .cases e
 .rename_i t x k y g;simp only[g];split at e
  .rename_i p q c j C G;split at e
   .rename_i h2 E;injection e with e;simp only[abW]at e;obtain⟨rfl,rfl⟩:=e;have⟨w',D,R',T⟩:=DZ (P:=P) R (Ns F j) (Ns F C) (Ns F G) E;exact⟨m,undef,w',.inr ⟨by simp[D],rfl⟩,R',.refl _ _,NH,.tuple rfl (fun i v v' h=>by simp at h)⟩
   .cases e
  .cases e
 .rename_i b args ats g;simp only[g];split at e
  .rename_i vs S;have J:=PZ F S;have:=Dm (P:=P) R (ats:=ats) (ty:=o.type) (cs:=args.map fun|.const _=>tT|_=>fF) J e;have K:(args.toList.map a.eval).toArray=args.map a.eval:=hGr;rw[K]at this;exact this
  .cases e
 .rename_i t x k g;simp only[g];split at e
  .rename_i p q j C;exact .TJ (ael R (Ns F j) (Ns F C) e)
  .cases e
 .rename_i t x s y g;simp only[g];split at e
  .rename_i p q c j C G;split at e
   .rename_i h2 E;injection e with e;simp only[abW]at e;obtain⟨rfl,rfl⟩:=e;have⟨w',D,R',T⟩:=ac6 (P:=P) (t:=t) R (Ns F j) (Ns F C) (Ns F G) E;exact⟨m,undef,w',.inr ⟨by simp[D],rfl⟩,R',.refl _ _,NH,.tuple rfl (fun i v v' h=>by simp at h)⟩
   .cases e
  .cases e
 .cases e
end
end Go.Fw
