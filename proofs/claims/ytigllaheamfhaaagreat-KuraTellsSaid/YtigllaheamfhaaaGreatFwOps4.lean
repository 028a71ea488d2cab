/- A text. -/
import Derived.Laws.BytesString
import Derived.Test.YtigllaheamfhaaaGreatFwHeap
set_option linter.all false
set_option maxRecDepth 99999
set_option maxHeartbeats 9999999
open Option renaming some→Z,none→Y
open Bool renaming true→tT,false→fF
open Go.Value renaming slice→sL,pointer→pT
open Go renaming Value→vV
open List
namespace Go.Fw
section
variable{W0:abw}{m:abd}{h:aai}{w:World}
def OK(P:Program)(W0:abw)(m:abd)(h:aai)(w:World)(s:Sem vV)(v:vV)(h':aai):Prop:=∃a v' w',s.run P w=.ok v' w'/\Rel W0 a h' w'/\ZK h.next m a/\h.next<=h'.next/\VR h'.next a v v'
def OK.pure{P:Program}{s:Sem vV}{v:vV}(R:Rel W0 m h w)(e:∃v',s.run P w=.ok v' w/\VR h.next m v v'):OK P W0 m h w s v h:=let⟨v',a,h2⟩:=e;⟨m,v',w,a,R,.refl _ _,qL0 _,h2⟩
def acd(P:Program)(t:TypeId):Option vV:=match P.info? t with|some i=>i.zero|none=>Y
def rn{P:Program}{t:TypeId}{z:vV}(a:acd P t=Z z)(w:World):(zeroValue t).run P w=.ok z w:=by
 unfold acd at a;split at a
 .rename_i i hi;simp[zeroValue,typeInfo,hi,a]
 .cases a
def IF(h:aai)(c:xLV):Option (Addr×aai):=if c.all (·.oneCell')then Z (⟨h.next,0,Y⟩,h.alloc (.cells c))else Y
def rT{P:Program}(R:Rel W0 m h w){c C:xLV}{a:Addr}{h':aai}(e:TypeId)(f:AK h.next m c C)(b:IF h c=Z (a,h')):
  ∃d a' w',(newRow e C.toArray).run P w=.ok a' w'/\Rel W0 d h' w'/\ZK h.next m d/\h.next<=h'.next/\AR h'.next d a a':=by
 unfold IF at b;split at b
 .rename_i g;injection b with b;simp only[jf]at b;obtain⟨rfl,rfl⟩:=b
  refine⟨upd m h.next ⟨w.heap.size,0,C.length⟩,⟨w.heap.size,0,Y⟩,w.alloc (.cells C.toArray e),by simp[newRow],R.alloc_eq e f g,Qq _ _ _,alu _,?_⟩
  have:=AR.own (n:=h.next+1) (m:=upd m h.next ⟨w.heap.size,0,C.length⟩) (id:=h.next) (off:=0) (afC _)
  rw[zf]at this;exact this
 .cases b
def abO(P:Program)(h:aai)(t:TypeId):Option (vV×aai):=
 match acd P t with
 |some z=>if z.cells.toList.all flat then match IF h z.cells.toList with|some (a,h')=>Z (pT (Z a),h')|none=>Y else Y
 |none=>Y
theorem apJ{P:Program}(R:Rel W0 m h w){t:TypeId}{v:vV}{h':aai}(e:abO P h t=Z (v,h')):OK P W0 m h w (Instr.alloc t tT (.tuple #[])) v h':=by
 unfold abO at e;split at e
 .rename_i z c;split at e
  .rename_i hf;split at e
   .rename_i a h2 d;injection e with e;simp only[jf]at e;obtain⟨rfl,rfl⟩:=e;have⟨f,a',w',g,h2,h3,i,j⟩:=rT (P:=P) R t (AK.flat hf) d;refine⟨f,pT (Z a'),w',?_,h2,h3,i,j.ptr⟩;have b:(newRow t z.cells).run P w=.ok a' w':=by simpa using g
    simp[Instr.alloc,rn c,newVar,b]
   .cases e
  .cases e
 .cases e
def zF(h:aai)(x:vV):Option (vV×aai):=match IF h x.cells.toList with|some (a,h')=>Z (pT (Z a),h')|none=>Y
def aBox_ok{P:Program}(R:Rel W0 m h w){t:TypeId}{x x' v:vV}{h':aai}(c:VR h.next m x x')(e:zF h x=Z (v,h')):OK P W0 m h w (Instr.box t x') v h':=by
 unfold zF at e;split at e
 .rename_i a h2 d;injection e with e;simp only[jf]at e;obtain⟨rfl,rfl⟩:=e;have⟨f,a',w',g,h2,h3,i,j⟩:=rT (P:=P) R t c.cells d;refine⟨f,pT (Z a'),w',?_,h2,h3,i,j.ptr⟩;have b:(newRow t x'.cells).run P w=.ok a' w':=by simpa using g
  simp[Instr.box,newVar,b]
 .cases e
def agV(P:Program)(t:TypeId):Option (Nat->Option (Nat×Nat)):=
 match P.underlying t with
 |some (.struct a)=>if a.toList.all (fun f=>(P.underlying f.type).isSome)then Z (fun i=>(a.map (fun f=>(f.offset,UA P f.type)))[i]?)else Y
 |some (.array _ e)=>if(P.underlying e).isSome then Z (fun i=>Z (i*UA P e,UA P e))else Y
 |_=>Y
def acB(P:Program)(t:TypeId)(parts:List (Nat×vV)):Option vV:=
 match acd P t,agV P t with
 |some z,Z pl=>if z.cells.toList.all flat then match afZ pl z.cells.toList parts with|some r=>Z (.agg r.toArray)|none=>Y else Y
 |_,_=>Y
def run_places{P:Program}(w:World):∀(a:List Field),a.all (fun f=>(P.underlying f.type).isSome)=tT->
  (a.mapM (m:=Sem) fun f=>do pure (f.offset,<-sizeOf f.type)).run P w=.ok (a.map (fun f=>(f.offset,UA P f.type))) w
 |[],_=>by simp
 |f::a,h=>by simp only[aoH,rY]at h;have⟨d,hd⟩:=abV.1 h.1;simp only[mapM_cons,Sem.run_bind,IT hd,Result.andThen_ok,Sem.run_pure,run_places w a h.2,QD]
theorem WX{n:Nat}{m:abd}{P:Program}{t:TypeId}{ps b:List (Nat×vV)}{v:vV}(l:PRs n m ps b)(e:acB P t ps=Z v)(w:World):
  ∃v',(Instr.build t b.toArray).run P w=.ok v' w/\VR n m v v':=by
 unfold acB at e;split at e
 .rename_i z pl o a;split at e
  .rename_i hf;split at e
   .rename_i r p;injection e with e;subst e;unfold agV at a;split at a
    .rename_i g i;split at a
     .rename_i c;injection a with a;subst a;have⟨R,hR,j⟩:=PT _ l (AK.flat hf) p
      have q:(Array.mapM (m:=Sem) (fun f=>do pure (f.offset,<-sizeOf f.type)) g).run P w=.ok (g.map (fun f=>(f.offset,UA P f.type))) w:=by have:=run_places (P:=P) w g.toList c;rw[qL210,map_eq_pure_bind,Sem.run_bind,this];simp only[Result.andThen_ok,Sem.run_pure];congr 1;grind
      refine⟨.agg R,?_,.uk hGr⟩;simp only[Instr.build,Sem.run_bind,rn o,Result.andThen_ok,run_underlying i,q];rw[hR];simp
     .cases a
    .rename_i OT el i;split at a
     .rename_i k;have⟨d,hd⟩:=abV.1 k;injection a with a;subst a;have⟨R,hR,j⟩:=PT _ l (AK.flat hf) p;refine⟨.agg R,?_,.uk hGr⟩;simp only[Instr.build,Sem.run_bind,rn o,Result.andThen_ok,run_underlying i,IT hd];rw[hR];simp
     .cases a
    .cases a
   .cases e
  .cases e
 .cases e
def aas(P:Program)(h:aai)(t:TypeId)(len:Nat)(parts:List (Nat×vV)):Option (vV×aai):=
 match P.underlying t with
 |some (.slice e)=>
  match acd P e with
  |some z=>
   if z.cells.toList.all flat/\z.cells.size=UA P e/\(P.underlying e).isSome/\len*UA P e<=1000000/\len<=1000000 then
    match afZ (fun i=>Z (i*UA P e,UA P e)) (acY z.cells.toList len) parts with
    |some r=>match IF h r with|some (a,h')=>Z (sL (Z a) len len,h')|none=>Y
    |none=>Y
   else Y
  |none=>Y
 |_=>Y
theorem Mg{P:Program}(R:Rel W0 m h w){t:TypeId}{len:Nat}{ps b:List (Nat×vV)}{v:vV}{h':aai}(o:PRs h.next m ps b)(e:aas P h t len ps=Z (v,h')):OK P W0 m h w (Instr.buildSlice t len b.toArray) v h':=by
 unfold aas at e;split at e
 .rename_i el p;split at e
  .rename_i z q;split at e
   .rename_i s;have⟨hf,c,f,hlen,g⟩:=s;have⟨d,hd⟩:=abV.1 f;split at e
    .rename_i r u;split at e
     .rename_i a h2 x;injection e with e;simp only[jf]at e;obtain⟨rfl,rfl⟩:=e;have n:=MI z.cells len (len*UA P el) (by rw[c]);have⟨C,y,j⟩:=PT (C:=(Array.range (len*UA P el)).map (fun i=>z.cells[i%z.cells.size]!)) _ o (by grind[AK.flat,Ew]) u;have⟨A,a',w',B,h2,h3,D,E⟩:=rT (P:=P) R el j x;have k:(newRow el C).run P w=.ok a' w':=by simpa using B
      have l:len<UNK:=by grind[UNK]
      refine⟨A,sL (Z a') len len,w',?_,h2,h3,D,E.slice l⟩;have F:¬(2^24<len*UA P el):=NH;simp only[Instr.buildSlice,Sem.run_bind,run_underlying p,Result.andThen_ok,IT hd];rw[abE hGr];split
      .grind[Go.Sem.run_bind,Go.Sem.run_pure,Go.Result.andThen_ok]
      .simp only[Sem.run_bind,Sem.run_pure,Result.andThen_ok,rn q,y,k]
     .cases e
    .cases e
   .cases e
  .cases e
 .cases e
def aaK(P:Program)(h:aai)(t:TypeId)(a x:vV):Option aai:=
 match a with
 |.pointer (Z ⟨id,off,Y⟩)=>
  match h.own id with
  |some (.cells c)=>
   if x.cells.size=UA P t/\(P.underlying t).isSome/\off+x.cells.size<=c.length/\x.cells.toList.all (·.oneCell')then
    Z (h.put id (.cells (putCells c off x.cells.toList)))
   else Y
  |_=>Y
 |_=>Y
theorem VR.Pn{n:Nat}{m:abd}{v v':vV}(h:VR n m v v'):v'.cells.size=v.cells.size:=by have:=h.cells.1;grind
theorem apK{P:Program}(R:Rel W0 m h w){t:TypeId}{a a' x x':vV}{h':aai}(ha:VR h.next m a a')(f:VR h.next m x x')(e:aaK P h t a x=Z h'):
  ∃w',(Instr.storeAt t a' x').run P w=.ok () w'/\Rel W0 m h' w'/\h'.next=h.next:=by
 unfold aaK at e;split at e
 .rename_i id off;split at e
  .rename_i c g;split at e
   .rename_i i;obtain⟨l,h2,h3,j⟩:=i;obtain⟨d,hd⟩:=abV.1 h2;injection e with e;subst e;cases ha with
    |flat hf=>grind[flat]
    |ptr k=>
     have b:x'.cells.size=UA P t:=by grind[VR.Pn]
     obtain⟨w',hw,R'⟩:=Rel.jW P x.cells.toList x'.cells.toList 0 R g (by simpa using h3) f.cells (f.cells.zK j);refine⟨w',?_,hGr,rfl⟩;simp[Instr.storeAt,Instr.sureAddr,storeVar,IT hd,b,hw]
   .cases e
  .cases e
 .cases e
def abl(P:Program)(h:aai)(t:TypeId)(l c:vV):Option (vV×aai):=
 match P.underlying t,l,c with
 |some (.slice e),.int _ l,.int _ c=>
  match acd P e with
  |some z=>
   if z.cells.toList.all flat/\z.cells.size=UA P e/\(P.underlying e).isSome/\0<=l/\l<=c/\(P.bytesOf e:Int)*c<=140737488355328/\c<=140737488355328 then
    match IF h (acY z.cells.toList c.toNat)with
    |some (a,h')=>Z (sL (Z a) l.toNat c.toNat,h')
    |none=>Y
   else Y
  |none=>Y
 |_,_,_=>Y
theorem info_of_underlying{P:Program}{t:TypeId}{d:TypeDesc}(a:P.underlying t=Z d):∃i,P.info? t=Z i/\P.bytesOf t=i.bytes/\UA P t=i.size:=by
 unfold Program.underlying at a;cases hi:P.info? t with
 |none=>grind
 |some i=>exact⟨i,rfl,by simp[Program.bytesOf,hi],by simp[UA,Program.cellsOf,hi]⟩
theorem ZU{P:Program}(R:Rel W0 m h w){t:TypeId}{l l' c c' v:vV}{h':aai}(x:VR h.next m l l')(y:VR h.next m c c')(e:abl P h t l c=Z (v,h')):OK P W0 m h w (Instr.makeSlice t l' c') v h':=by
 unfold abl at e;split at e
 .rename_i el k li k2 ci A;split at e
  .rename_i z B;split at e
   .rename_i b;have⟨hf,j,n,G,H,hb,C⟩:=b;have⟨d,hd⟩:=abV.1 n;have⟨i,hi,o,D⟩:=info_of_underlying hd;split at e
    .rename_i a h2 E;injection e with e;simp only[jf]at e;obtain⟨rfl,rfl⟩:=e;have:=x.Ja;subst this;have:=y.Ja;subst this;have f:=MI z.cells ci.toNat (ci.toNat*UA P el) (by rw[j]);have⟨F,a',w',g,p,q,r,s⟩:=rT (P:=P) R el (AK.flat (Ew _ _ hf ci.toNat)) E;have u:(newRow el ((Array.range (ci.toNat*UA P el)).map (fun i=>z.cells[i%z.cells.size]!))).run P w=.ok a' w':=by rw[<-f]at g;exact g
     refine⟨F,sL (Z a') li.toNat ci.toNat,w',?_,p,q,r,s.slice (by grind[UNK])⟩;have w1:IntKind.i64.wrap li=li:=by rw[<-Qt];grind[ie]
     have w2:IntKind.i64.wrap ci=ci:=by rw[<-Qt];grind[ie]
     rw[o]at hb;have n1:¬(ci<0):=NH;have I:(i.bytes:Int)*ci<=281474976710656:=NH;have n3:¬(li<0):=NH;have J:¬(ci<li):=NH;simp only[Instr.makeSlice,Sem.run_bind,run_underlying A,Result.andThen_ok,asInt,asIntOf,Sem.run_pure,typeInfo,run_program,hi,w1,w2];rw[abE hGr];simp only[Sem.run_bind,run_askRoom,Result.andThen_ok,IT hd];split
     .grind[Go.Sem.run_bind,Go.Sem.run_pure,Go.Result.andThen_ok]
     .simp only[Sem.run_bind,Sem.run_pure,Result.andThen_ok,rn B,u]
    .cases e
   .cases e
  .cases e
 .cases e
def acL:TypeDesc->Bool
 |.int _=>fF
 |_=>tT
theorem agv{P:Program}{t xt e:TypeId}{dx d:TypeDesc}(ty:TypeId)(f:P.underlying t=Z (.slice e))(g:P.underlying xt=Z dx)(i:acL dx=tT)(hd:P.underlying e=Z d){base:Option Addr}{sLen sCap n:Nat}{x':vV}{new:Array vV}{w w':World}(k:(Builtin.lenOf x').run P w=.ok n w)(c:(Builtin.firstCells (UA P e) n x').run P w=.ok new w)(b:sLen+n<=sCap)(j:(match base with|some a=>(storeCells (a.add (sLen*UA P e)) new.toList)|none=>pure ()).run P w=.ok () w'):
  (Builtin.append_ #[t,xt] ty #[.slice base sLen sCap,x']).run P w=.ok (.slice base (sLen+n) sCap) w':=by
 unfold Builtin.append_;simp only[agh,MY,amJ,Sem.run_bind,run_underlying f,Result.andThen_ok,IT hd,Sem.run_pure,run_underlying g];grind[acL,Go.Result.andThen_ok,Go.Sem.run_bind,Go.Sem.run_pure]
theorem yD{P:Program}{t xt e:TypeId}{dx d:TypeDesc}(ty:TypeId){z:vV}(q:P.underlying t=Z (.slice e))(r:P.underlying xt=Z dx)(s:acL dx=tT)(hd:P.underlying e=Z d)(u:acd P e=Z z){base:Option Addr}{sLen sCap n:Nat}{x':vV}{qi new:Array vV}{w:World}(v:(Builtin.lenOf x').run P w=.ok n w)(c:(Builtin.firstCells (UA P e) n x').run P w.drew=.ok new w.drew)(hold:(Builtin.firstCells (UA P e) sLen (.slice base sLen sCap)).run P w.drew=.ok qi w.drew)(b:sCap<sLen+n)(hb:(sLen+n)*P.bytesOf e<=140737488355328)(A:sLen+n<=140737488355328):
  (Builtin.append_ #[t,xt] ty #[.slice base sLen sCap,x']).run P w=.ok (sL (Z ⟨w.heap.size,0,Y⟩) (sLen+n) (grownCap w (sLen+n) sCap e))
   (w.drew.alloc (.cells (qi++new++Builtin.zeroCells z.cells (grownCap w (sLen+n) sCap e-(sLen+n))) e)):=by
 have⟨i,hi,f,x⟩:=info_of_underlying hd;rw[f]at hb;have p:=growslice_fits b hb;have g:¬(sLen+n<=sCap):=NH;have j:¬(((sLen+n:Nat):Int)>IntKind.i64.max):=by simp[IntKind.max,IntKind.signed,IntKind.bits];omega
 have l:¬(Builtin.nextslicecap (sLen+n) sCap*i.bytes>2^48):=NH;have a:(Question.appendCap (sLen+n) sCap e).forced=fF:=rfl;have o:∀w,(typeInfo e).run P w=.ok i w:=fun w=>by simp[typeInfo,hi]
 unfold Builtin.append_;simp only[agh,MY,amJ,Sem.run_bind,run_underlying q,Result.andThen_ok,IT hd,Sem.run_pure,run_underlying r];cases dx
 case int k=>grind[acL]
 all_goals
  simp only[acg,if_false,v,Result.andThen_ok,g,Sem.run_bind,Sem.run_pure,qL228,if_true,o,j,false_and,l,run_choose,a,run_askRoom];have y:({w with drawn:=w.drawn+1}:World)=w.drew:=rfl;rw[y,hold];simp only[Result.andThen_ok,c,rn u,newRow,Sem.run_bind,run_newObj,Sem.run_pure];rfl
def aby(P:Program)(h:aai)(e:TypeId)(x:vV):Option (Nat×xLV):=
 match x with
 |.slice Y n _=>if n=0 then Z (0,[])else Y
 |.slice (Z a) n _=>match abN h a (n*UA P e)with|some l=>Z (n,l)|none=>Y
 |_=>Y
theorem VR.readable{n:Nat}{m:abd}{a:Addr}{len cap:Nat}{v':vV}(h:VR n m (sL (Z a) len cap) v'):
  ∃a' cap',v'=sL (Z a') len cap'/\(AR n m a a'\/len=0):=by
 cases h with
 |flat h=>simp[Fw.flat]at h
 |slice b c=>exact⟨_,_,rfl,.inl (.own b)⟩
 |buf b d ha=>exact⟨_,_,rfl,by rcases ha with⟨rfl,_⟩|e;exact .inl (.own b);grind⟩
 |esl c=>exact⟨_,_,rfl,.inl .ext⟩
 |empty=>grind
theorem VR.mh{n:Nat}{m:abd}{len cap:Nat}{v':vV}(h:VR n m (.slice Y len cap) v'):v'=.slice Y 0 0/\len=0/\cap=0:=by
 cases h with
 |flat h=>simp[Fw.flat]at h;obtain⟨rfl,rfl⟩:=h;exact⟨rfl,rfl,rfl⟩
def GB(h:aai)(size:Nat)(base:Option Addr)(len:Nat):Option xLV:=
 match base with
 |some a=>abN h a (len*size)
 |none=>Z []
def Rel.firstCells(R:Rel W0 m h w){P:Program}{a:Option Addr}{len cap size:Nat}{l:xLV}{x':vV}(d:VR h.next m (.slice a len cap) x')(c:GB h size a len=Z l):∃l',AK h.next m l l'/\(Builtin.firstCells size len x').run P w=.ok l'.toArray w:=by
 cases a with
 |none=>obtain⟨rfl,rfl,rfl⟩:=d.mh;simp[GB]at c;subst c;exact⟨[],.nil _ _,by simp[Builtin.firstCells]⟩
 |some a=>
  obtain⟨a',cap',rfl,b⟩:=d.readable;simp only[GB]at c;rcases b with b|e
  .obtain⟨l',f,h2⟩:=R.loadCells P b c;exact⟨l',f,by simpa[Builtin.firstCells]using h2⟩
  .subst e;simp[Fw.abN]at c;subst c;exact⟨[],.nil _ _,by simp[Builtin.firstCells,Go.loadCells,loadCellsFrom]⟩
def Vc(R:Rel W0 m h w){P:Program}{e:TypeId}{x x':vV}{n:Nat}{l:xLV}(b:VR h.next m x x')(hs:aby P h e x=Z (n,l)):
  (∀w,(Builtin.lenOf x').run P w=.ok n w)/\∃l',AK h.next m l l'/\(Builtin.firstCells (UA P e) n x').run P w=.ok l'.toArray w/\(x'≠.string ByteArray.empty->True):=by
 unfold aby at hs;split at hs
 .split at hs
  .rename_i f;subst f;simp at hs;obtain⟨rfl,rfl⟩:=hs;have⟨l',d,h2⟩:=R.firstCells (P:=P) (size:=UA P e) b (l:=[]) rfl;obtain⟨rfl,_,_⟩:=b.mh;exact⟨fun w=>by simp[Builtin.lenOf],l',d,h2,fun _=>trivial⟩
  .cases hs
 .rename_i a k c;split at hs
  .rename_i l0 g;simp at hs;obtain⟨rfl,rfl⟩:=hs;have⟨l',d,h2⟩:=R.firstCells (P:=P) (size:=UA P e) b (l:=l0) g;obtain⟨a',cap',rfl,i⟩:=b.readable;exact⟨fun w=>by simp[Builtin.lenOf],l',d,h2,fun _=>trivial⟩
  .cases hs
 .cases hs
def aaR(P:Program)(h:aai)(t xt:TypeId)(s x:vV):Option (vV×aai):=
 match P.underlying t,P.underlying xt,s with
 |some (.slice e),Z dx,.slice base len cap=>
  match acd P e,aby P h e x with
  |some z,Z (n,news)=>
   if z.cells.size=UA P e/\z.cells.toList.all (·.oneCell')/\(P.underlying e).isSome/\acL dx/\news.all (·.oneCell')/\(len+n)*P.bytesOf e<=140737488355328/\len+n<=140737488355328/\news.length=n*UA P e then
    if n=0 then(if len<=cap then Z (s,h)else Y)
    else if UNK<=cap then
     match base with
     |some ⟨id,off,Y⟩=>
      if cap=UNK+UA P e then
       match abN h ⟨id,off,Y⟩ (len*UA P e),h.own id with
       |some a,Z (.cells _)=>if a.all (·.oneCell')then Z (sL (Z h.next) (len+n) cap,(h.kill id).alloc (.cells (a++news)))else Y
       |_,_=>Y
      else Y
     |_=>Y
    else if len+n<=cap then
     match base with
     |some ⟨id,off,Y⟩=>
      match h.own id with
      |some (.cells c)=>if off+len*UA P e+news.length<=c.length then Z (.slice base (len+n) cap,h.put id (.cells (putCells c (off+len*UA P e) news)))else Y
      |_=>Y
     |_=>Y
    else
     match GB h (UA P e) base len with
     |some a=>if a.all (·.oneCell')then Z (sL (Z h.next) (len+n) (UNK+UA P e),h.alloc (.cells (a++news)))else Y
     |none=>Y
   else Y
  |_,_=>Y
 |_,_,_=>Y
theorem Jq{P:Program}(R:Rel W0 m h w){t xt e ty:TypeId}{dx d:TypeDesc}{z:vV}(N:P.underlying t=Z (.slice e))(B:P.underlying xt=Z dx)(D:acL dx=tT)(hd:P.underlying e=Z d)(O:acd P e=Z z)(Q:z.cells.size=UA P e)(E:z.cells.toList.all (·.oneCell')=tT){base:Option Addr}{len cap n:Nat}{x x' s':vV}{news a:xLV}{f:aai}(hs:VR h.next m (.slice base len cap) s')(S:VR h.next m x x')(s:aby P h e x=Z (n,news))(hold:GB h (UA P e) base len=Z a)(M:news.all (·.oneCell')=tT)(F:a.all (·.oneCell')=tT)(hb:(len+n)*P.bytesOf e<=140737488355328)(T:len+n<=140737488355328)(G:news.length=n*UA P e)(H:a.length=len*UA P e)(i:∀b c,s'=.slice b len c->c<len+n)(I:f=h\/∃id,f=h.kill id):
  OK P W0 m h w (Builtin.append_ #[t,xt] ty #[s',x']) (sL (Z h.next) (len+n) (UNK+UA P e)) (f.alloc (.cells (a++news))):=by
 have⟨U,l',j,u,_⟩:=Vc R.drew S s;have⟨r,l,o⟩:=R.drew.firstCells (P:=P) hs hold;obtain⟨V,c',rfl,J⟩:=hs.YC;have hg:=i V c' rfl;have g:=yD (P:=P) ty N B D hd O (U w) u o hg hb T;generalize y:grownCap w (len+n) c' e=C at g;have W:len+n<=C:=by grind[Go.grownCap_ge]
 have X:C<UNK:=by
  have f:C<=maxLen:=by rw[<-y];exact grownCap_le_maxLen w (len+n) c' e (by unfold maxLen;omega)
  have h2:maxLen<UNK:=by decide
  omega
 have R1:Rel W0 m f w.drew:=by grind[Rel.drew,Rel.kill]
 have p:f.next=h.next:=by rcases I with A|⟨id,A⟩<;>rw[A]<;>rfl
 have K:(Builtin.zeroCells z.cells (C-(len+n))).toList=acY z.cells.toList (C-(len+n)):=MI _ _ _ rfl;have L:(Builtin.zeroCells z.cells (C-(len+n))).size=(C-(len+n))*UA P e:=by grind[jY]
 have R2:=R1.alloc (c:=a++news) (C:=r.toArray++l'.toArray++Builtin.zeroCells z.cells (C-(len+n))) e
  (by
   rw[p];have:(r.toArray++l'.toArray++Builtin.zeroCells z.cells (C-(len+n))).toList.take (a++news).length=r++l':=by
    have hlen:(a++news).length=(r++l').length:=by simp[l.1,j.1]
    grind
   grind[AK.append])
  (by simp[l.1,j.1])
  (by
   intro v q;simp only[Array.toList_append,aax]at q;rcases q with(q|q)|q
   .grind[AK.zK]
   .grind[AK.zK]
   .rw[K]at q;exact fj.1 (Ew _ _ E _) v q)
 refine⟨_,_,_,g,R2,by grind[Qq],by show h.next<=f.next+1;omega,?_⟩
 show VR (f.next+1) _ _ _
 have:=VR.buf (n:=f.next+1) (m:=upd m f.next ⟨w.drew.heap.size,0,(r.toArray++l'.toArray++Builtin.zeroCells z.cells (C-(len+n))).size⟩) (id:=f.next) (off:=0) (len:=len+n) (k:=UA P e) (cap':=C) (a':=⟨w.heap.size,0,Y⟩) (afC _) W
  (.inl ⟨by rw[zf];rfl,by
   rw[zf];simp only[Array.size_append,size_toArray,L];have A:r.length=len*UA P e:=by rw[<-l.1,H]
   have e2:l'.length=n*UA P e:=by rw[<-j.1,G]
   rw[A,e2,<-af2,<-af2,show len+n+(C-(len+n))=C from by omega];grind⟩)
 grind
theorem Uk{P:Program}(R:Rel W0 m h w){t xt ty:TypeId}{s x s' x' v:vV}{h':aai}(hs:VR h.next m s s')(S:VR h.next m x x')(e:aaR P h t xt s x=Z (v,h')):
  OK P W0 m h w (Builtin.append_ #[t,xt] ty #[s',x']) v h':=by
 unfold aaR at e;split at e
 .rename_i el dx base len cap I q;split at e
  .rename_i z n news hz r;split at e
   .rename_i T;have⟨J,K,U,u,l,hb,hl,y⟩:=T;have⟨d,hd⟩:=abV.1 U;have⟨V,l',A,B,_⟩:=Vc R S r;split at e
    .rename_i L;subst L;split at e
     .rename_i W;injection e with e;simp only[jf]at e;obtain⟨rfl,rfl⟩:=e;obtain⟨b',c',rfl,X⟩:=hs.YC;have M:len<=c':=by
       cases hs<;>grind
      have aa:l'=[]:=Bn (by rw[<-A.1,y];simp);subst aa;have:=agv (P:=P) ty I q u hd (base:=b') (sLen:=len) (sCap:=c') (w':=w) (V w) B M (by cases b'<;>simp[storeCells]);exact⟨m,_,w,this,R,.refl _ _,qL0 _,hs⟩
     .cases e
    .rename_i L;split at e
     .rename_i N;split at e
      .rename_i id off;split at e
       .rename_i aA;split at e
        .rename_i o c hold p;split at e
         .rename_i f;injection e with e;simp only[jf]at e;obtain⟨rfl,rfl⟩:=e;have g:=tF _ _ _ _ hold;have ae:=hs;cases hs with
          |flat hf=>grind[flat]
          |slice _ _=>omega
          |empty=>grind[UNK]
          |@buf _ _ _ k cap' a' D W ha=>
           have hk:k=UA P el:=NH;subst hk;by_cases a:len+n<=cap'
           .obtain⟨rfl,aB⟩:=ha.resolve_right NH;have⟨C,ce,lo,hi,O,aD,aE,aF,aH,ag⟩:=R.own id _ p;have ai:l'.length=n*UA P el:=by rw[<-A.1,y]
            have hmul:len*UA P el+n*UA P el<=cap'*UA P el:=by rw[<-af2];exact af7 _ a
            have⟨w',aJ,aj,al,aq,ar⟩:=HG P (m id).blk ce lo hi l' 0 ((m id).base+off+len*UA P el) C w O hGr (A.zK l) ag;have i:=agv (P:=P) ty I q u hd (base:=Z ⟨(m id).blk,(m id).base+off,Y⟩) (sLen:=len) (sCap:=cap') (w':=w') (V w) B a (by grind[agQ]);have aK:(m id).base+off+len*UA P el+l'.length<=C.toList.length:=hGr;have Q:(acC C ((m id).base+off+len*UA P el+0) l').toList=C.toList.take ((m id).base+off+len*UA P el)++l'++C.toList.drop ((m id).base+off+len*UA P el+l'.length):=by grind[GC,IW]
            have⟨H,E,av⟩:=R.abN _ (AR.own D) hold;have F:(C.toList.drop ((m id).base+off)).take (len*UA P el)=H:=by
             apply mJ;intro j;by_cases hj:j<len*UA P el
             .have ay:j<H.length:=by rw[<-E.1,g];exact hj
              have:=av j H[j] (qL7 ay);rw[agQ]at this;simp only[World.cell?,O]at this;grind
             .rw[aex (by simp;omega),aex (by rw[<-E.1,g];omega)]
            have G:=R.apF (w':=w') (id:=id) p (C':=acC C ((m id).base+off+len*UA P el+0) l') (e:=ce) (lo:=lo) (hi:=hi) (base:=(m id).base+off) (c2:=o++news)
             aj (by grind[afB])
             (by grind[AK.zK])
             (by grind[afB])
             (by grind[afB])
             (by
              have:((acC C ((m id).base+off+len*UA P el+0) l').toList.drop ((m id).base+off)).take (o++news).length=H++l':=by
               rw[Q,Cg,qL191 hGr];have e1:(C.toList.take ((m id).base+off+len*UA P el)).drop ((m id).base+off)=H:=by rw[<-F,qL229];grind
               rw[e1,Eh,g,y,<-Cg];have e2:len*UA P el+n*UA P el=(H++l').length:=by rw[Eh,<-E.1,g,ai]
               grind
              grind[AK.append])
             al aq ar
            refine⟨_,_,w',i,G,Qq _ _ _,alu _,?_⟩
            have hv:=VR.buf (n:=h.next+1) (m:=upd m h.next ⟨(m id).blk,(m id).base+off,(m id).lim⟩) (id:=h.next) (off:=0) (len:=len+n) (k:=UA P el) (cap':=cap') (a':=⟨(m id).blk,(m id).base+off,Y⟩) (afC _) a
             (.inl ⟨by grind[zf],by grind[zf]⟩)
            exact hv
           .exact Jq R I q u hd hz J K ae S r hold l f hb hl y g hGr (.inr ⟨id,rfl⟩)
         .cases e
        .cases e
       .cases e
      .cases e
     .rename_i N;split at e
      .rename_i a;split at e
       .rename_i id off;split at e
        .rename_i c p;split at e
         .rename_i aC;injection e with e;simp only[jf]at e;obtain⟨rfl,rfl⟩:=e;cases hs with
          |flat hf=>grind[flat]
          |buf _ _ _=>omega
          |empty=>omega
          |slice D T=>have⟨w',hw,R'⟩:=Rel.jW P news l' 0 R (off:=off+len*UA P el) p hGr A (A.zK l);have i:=agv (P:=P) ty I q u hd (base:=Z ⟨(m id).blk,(m id).base+off,Y⟩) (sLen:=len) (sCap:=cap) (w':=w') (V w) B a (by grind[agQ]);exact⟨m,_,w',i,hGr,.refl _ _,qL0 _,.slice D T⟩
         .cases e
        .cases e
       .cases e
      .rename_i a;split at e
       .rename_i o hold;split at e
        .rename_i f;injection e with e;simp only[jf]at e;obtain⟨rfl,rfl⟩:=e;have g:o.length=len*UA P el:=by
          cases base<;>grind[VR.mh,GB,tF]
         refine Jq R I q u hd hz J K hs S r hold l f hb hl y g ?_ (.inl rfl);intro b c az;subst az;cases hs<;>grind
        .cases e
       .cases e
   .cases e
  .cases e
 .cases e
def afj:vV->Option Nat
 |.slice _ n _=>Z n
 |_=>Y
def Ak{n:Nat}{m:abd}{P:Program}{x x':vV}{k:Nat}(a:VR n m x x')(e:afj x=Z k)(w:World):(Builtin.lenOf x').run P w=.ok k w:=by
 unfold afj at e;split at e
 .injection e with e;subst e;obtain⟨a',c',rfl,_⟩:=a.YC;simp[Builtin.lenOf]
 .cases e
def afE(h:aai)(size n:Nat)(x:vV):Option xLV:=
 match x with
 |.slice (Z a) len _=>if n<=len then abN h a (n*size)else Y
 |_=>Y
def Y8(R:Rel W0 m h w){P:Program}{size n:Nat}{x x':vV}{l:xLV}(b:VR h.next m x x')(d:n≠0)(e:afE h size n x=Z l):
  ∃l',AK h.next m l l'/\(Builtin.firstCells size n x').run P w=.ok l'.toArray w:=by
 unfold afE at e;split at e
 .split at e
  .rename_i hle;obtain⟨a',c',rfl,a⟩:=b.readable;have⟨l',c,h2⟩:=R.loadCells P (a.resolve_right NH) e;exact⟨l',c,by simpa[Builtin.firstCells]using h2⟩
  .cases e
 .cases e
def afo(P:Program)(h:aai)(t:TypeId)(dst src:vV):Option (vV×aai):=
 match P.underlying t,dst,afj src with
 |some (.slice e),.slice base a _,Z sLen=>
  if(P.underlying e).isSome then
   if min sLen a=0/\UA P e≠0 then Z (.int .i64 0,h)
   else
    match base,afE h (UA P e) (min sLen a) src with
    |some ⟨id,off,Y⟩,Z l=>
     match h.own id with
     |some (.cells c)=>if off+l.length<=c.length/\l.all (·.oneCell')/\min sLen a≠0 then Z (.int .i64 (min sLen a:Nat),h.put id (.cells (putCells c off l)))else Y
     |_=>Y
    |_,_=>Y
  else Y
 |_,_,_=>Y
theorem aCopy_ok{P:Program}(R:Rel W0 m h w){t:TypeId}{ats:Array TypeId}(g:ats[0]?=Z t){ty:TypeId}{d s x s' v:vV}{h':aai}(hd:VR h.next m d x)(hs:VR h.next m s s')(e:afo P h t d s=Z (v,h')):
  OK P W0 m h w (Builtin.copy_ ats ty #[x,s']) v h':=by
 unfold afo at e;split at e
 .rename_i el base a y sLen z b;split at e
  .rename_i p;have⟨H,i⟩:=abV.1 p;have A:=Ak (P:=P) hs b;split at e
   .rename_i q;have⟨q,C⟩:=q;injection e with e;simp only[jf]at e;obtain⟨rfl,rfl⟩:=e;obtain⟨a',c',rfl,_⟩:=hd.YC;have hf:(Builtin.firstCells (UA P el) 0 s').run P w=.ok #[] w:=by
     unfold afj at b;split at b
     .obtain⟨D,E,rfl,_⟩:=hs.YC;cases D<;>simp[Builtin.firstCells,Go.loadCells,loadCellsFrom]
     .cases b
    refine OK.pure R ⟨.int .i64 0,?_,.flat rfl⟩;unfold Builtin.copy_;simp only[g,agh,MY,amJ,Sem.run_bind,run_underlying z,Result.andThen_ok,A,IT i];rw[show Nat.min sLen a=0 from q,hf];cases a'<;>simp[storeCells,goInt]
   .split at e
    .rename_i id off l r;split at e
     .rename_i c j;split at e
      .rename_i F;have⟨B,k,u⟩:=F;injection e with e;simp only[jf]at e;obtain⟨rfl,rfl⟩:=e;have⟨l',n,o⟩:=Y8 R (P:=P) hs u r;obtain⟨a',c',rfl,f⟩:=hd.readable;have f:=f.resolve_right NH;cases f with
       |own G=>have⟨w',hw,R'⟩:=Rel.jW P l l' 0 R (off:=off) j hGr n (n.zK k);refine⟨m,(min sLen a:Nat),w',?_,hGr,.refl _ _,qL0 _,.flat rfl⟩;unfold Builtin.copy_;simp only[g,agh,MY,amJ,Sem.run_bind,run_underlying z,Result.andThen_ok,A,IT i];rw[show Nat.min sLen a=min sLen a from rfl,o];simp only[Result.andThen_ok,hw,Sem.run_pure,goInt]
      .cases e
     .cases e
    .cases e
  .cases e
 .cases e
def aeh(P:Program)(h:aai)(t:TypeId)(x:vV):Option vV:=
 match P.underlying t,x with
 |some (.array n _),_=>Z (.int .i64 n)
 |some (.slice _),.slice _ n _=>Z (.int .i64 n)
 |some (.map _ _),.map Y=>Z (.int .i64 0)
 |some (.map _ _),.map (Z r)=>match h.own r with|some (.map es)=>Z (.int .i64 es.length)|_=>Y
 |_,_=>Y
def Rel.mD(R:Rel W0 m h w){r:Nat}{es:List (vV×vV)}(b:h.own r=Z (.map es)){P:Program}:
  ∃E clock,w.heap[(m r).blk]?=Z (.map E clock)/\(getObj (m r).blk).run P w=.ok (.map E clock) w/\AK h.next m (es.map (·.1)) (E.toList.map (·.key))/\AK h.next m (es.map (·.2)) (E.toList.map (·.val)):=by
 obtain⟨E,clock,a,h2,h3,-⟩:=R.own r _ b;exact⟨E,clock,a,by simp[getObj,Sem.run,a],h2,h3⟩
def Rel.born(R:Rel W0 m h w){r:Nat}{es:List (vV×vV)}(b:h.own r=Z (.map es)){E:Array MapEntry}{clock:Nat}(hb:w.heap[(m r).blk]?=Z (.map E clock)):aek E clock:=by have⟨E',clock',a,h2,h3,c⟩:=R.own r _ b;rw[hb]at a;injection a with a;injection a with a d;subst a d;exact c
theorem aek.push{E:Array MapEntry}{clock:Nat}(b:aek E clock)(k v:vV):aek (E.push {key:=k,val:=v,born:=clock}) (clock+1):=by
 obtain⟨rfl,h⟩:=b;refine⟨Ma,fun i a e=>?_⟩;rw[Array.getElem?_push]at e;split at e
 .rename_i hi;injection e with e;subst e;exact hi.symm
 .exact h i a e
def aek.modify{E:Array MapEntry}{clock:Nat}(b:aek E clock)(j:Nat)(f:MapEntry->MapEntry)(hf:∀a,(f a).born=a.born):aek (E.modify j f) clock:=by
 obtain⟨rfl,h⟩:=b;refine⟨Ma,fun i a e=>?_⟩;rw[dU]at e;split at e
 .cases c:E[i]? with
  |none=>rw[c]at e;cases e
  |some x=>rw[c]at e;injection e with e;subst e;rw[hf];exact h i x c
 .exact h i a e
theorem aLen_rel(R:Rel W0 m h w){P:Program}{t:TypeId}{x x' v:vV}{ats:Array TypeId}(b:ats[0]?=Z t){ty:TypeId}(f:VR h.next m x x')(e:aeh P h t x=Z v):
  ∃v',(Builtin.len_ ats ty #[x']).run P w=.ok v' w/\VR h.next m v v':=by
 unfold aeh at e;split at e
 .rename_i n el d;injection e with e;subst e;refine⟨n,?_,.flat rfl⟩;unfold Builtin.len_;simp only[b,agh,MY,Sem.run_bind,run_underlying d,Result.andThen_ok,Sem.run_pure,goInt]
 .rename_i el a n c d;injection e with e;subst e;obtain⟨a',c',rfl,_⟩:=f.YC;exact⟨_,by simp[Builtin.len_,b,run_underlying d,goInt],.flat rfl⟩
 .rename_i d;injection e with e;subst e;cases f with|flat _=>exact⟨_,by simp[Builtin.len_,b,run_underlying d,goInt],.flat rfl⟩
 .rename_i r d;split at e
  .rename_i es g;injection e with e;subst e;cases f with
   |flat hf=>grind[flat]
   |map j=>
    have⟨E,clock,_,i,h2,_⟩:=R.mD (P:=P) g;have hlen:E.size=es.length:=by have:=h2.1;grind
    exact⟨es.length,by simp[Builtin.len_,b,run_underlying d,i,goInt,hlen],.flat rfl⟩
  .cases e
 .cases e
def agw:vV->xLV->Option vV
 |x,[]=>Z x
 |.int k a,.int c b::r=>if k=c then agw (.int k (if b<a then b else a)) r else Y
 |_,_=>Y
def LZ:vV->xLV->Option vV
 |x,[]=>Z x
 |.int k a,.int c b::r=>if k=c then LZ (.int k (if b>a then b else a)) r else Y
 |_,_=>Y
theorem TZ{n:Nat}{m:abd}{P:Program}:∀(r c:xLV){x x' v:vV},VR n m x x'->AK n m r c->agw x r=Z v->∀w,∃v',(c.foldlM Builtin.min2 x').run P w=.ok v' w/\VR n m v v'
 |[],c,x,x',v,f,d,e,w=>by have:c=[]:=Bn (by rw[<-d.1];rfl);subst this;simp[agw]at e;subst e;exact⟨x',Ma,f⟩
 |y::r,[],x,x',v,f,d,e,w=>by grind[AK]
 |y::r,i::c,x,x',v,f,d,e,w=>by
  have j:VR n m y i:=d.2 0 y i rfl rfl;have g:AK n m r c:=by simpa using d.drop 1
  cases x<;>cases y<;>simp only[agw]at e<;>try cases e
  split at e
  .rename_i k a p b l;subst l;have:=f.Ja;subst this;have:=j.Ja;subst this;obtain⟨v',o,h2⟩:=TZ r c (.flat rfl) g e w;exact⟨v',by simp only[List.foldlM_cons,Builtin.min2,Sem.run_bind,Sem.run_pure,Result.andThen_ok];exact o,h2⟩
  .cases e
theorem td{n:Nat}{m:abd}{P:Program}:∀(r c:xLV){x x' v:vV},VR n m x x'->AK n m r c->LZ x r=Z v->∀w,∃v',(c.foldlM Builtin.max2 x').run P w=.ok v' w/\VR n m v v'
 |[],c,x,x',v,f,d,e,w=>by have:c=[]:=Bn (by rw[<-d.1];rfl);subst this;simp[LZ]at e;subst e;exact⟨x',Ma,f⟩
 |y::r,[],x,x',v,f,d,e,w=>by grind[AK]
 |y::r,i::c,x,x',v,f,d,e,w=>by
  have j:VR n m y i:=d.2 0 y i rfl rfl;have g:AK n m r c:=by simpa using d.drop 1
  cases x<;>cases y<;>simp only[LZ]at e<;>try cases e
  split at e
  .rename_i k a p b l;subst l;have:=f.Ja;subst this;have:=j.Ja;subst this;obtain⟨v',o,h2⟩:=td r c (.flat rfl) g e w;exact⟨v',by simp only[List.foldlM_cons,Builtin.max2,Sem.run_bind,Sem.run_pure,Result.andThen_ok];exact o,h2⟩
  .cases e
def acX(P:Program)(h:aai)(src dst:TypeId)(x:vV):Option (vV×aai):=
 match P.underlying src,P.underlying dst,x with
 |some _,Z (.int k),.int _ n=>Z (.int k (aaY k n),h)
 |_,_,_=>Y
theorem Mu{P:Program}(R:Rel W0 m h w){src dst:TypeId}{x x' v:vV}{h':aai}(hx:VR h.next m x x')(e:acX P h src dst x=Z (v,h')) :
  OK P W0 m h w (convert src dst x') v h':=by
 unfold acX at e
 split at e
 ·rename_i ds k k0 n hs hd
  injection e with e; simp only [Prod.mk.injEq] at e; obtain ⟨rfl,rfl⟩:=e
  have:=hx.Ja; subst this
  refine OK.pure R ⟨.int k (aaY k n),?_,.flat rfl⟩
  unfold convert
  simp only [Sem.run_bind,run_underlying hs,run_underlying hd,Result.andThen_ok]
  cases ds <;> simp [Conv.intToInt,Qt]
 ·cases e
def aeU(k:IntKind)(z:Int):List (vV×vV)->Nat->Option (Option (Nat×vV))
 |[],_=>Z Y
 |(.int a z',v)::r,i=>if k=a then(if z=z' then Z (Z (i,v))else aeU k z r (i+1))else Y
 |_::_,_=>Y
theorem pX{n:Nat}{m:abd}{kk k:IntKind}{z:Int}:∀(es:List (vV×vV))(E:List MapEntry)(i:Nat),AK n m (es.map (·.1)) (E.map (·.key))->AK n m (es.map (·.2)) (E.map (·.val))->∀r,aeU k z es i=Z r->
  (r=Y/\Instr.findNow (.int kk) (.int k z) E i=Z Y)\/∃j v v',r=Z (j,v)/\Instr.findNow (.int kk) (.int k z) E i=Z (Z (j,v'))/\VR n m v v'/\i<=j/\(es[j-i]?).map (·.1)=Z (.int k z)
 |[],E,i,b,c,r,e=>by
  have:E=[]:=by have:=b.1;grind
  subst this;simp[aeU]at e;subst e;exact .inl ⟨rfl,rfl⟩
 |(a,v)::es,[],i,b,c,r,e=>by grind[AK]
 |(a,v)::es,d::E,i,b,c,r,e=>by
  cases a<;>simp only[aeU]at e<;>try cases e
  rename_i x z';have y:VR n m (.int x z') d.key:=b.2 0 _ _ rfl rfl;have h2:VR n m v d.val:=c.2 0 _ _ rfl rfl;have p:=y.Ja;split at e
  .rename_i f;subst f;split at e
   .rename_i q;subst q;injection e with e;subst e;refine .inr ⟨i,v,d.val,rfl,?_,h2,qL0 _,Ma⟩;simp[Instr.findNow,Instr.sameNow,p]
   .rename_i q;have g:AK n m (es.map (·.1)) (E.map (·.key)):=by simpa using b.drop 1
    have l:AK n m (es.map (·.2)) (E.map (·.val)):=by simpa using c.drop 1
    have o:(z==z')=fF:=hGr;have hs:Instr.findNow (.int kk) (.int k z) (d::E) i=Instr.findNow (.int kk) (.int k z) E (i+1):=by simp[Instr.findNow,Instr.sameNow,p,o]
    rcases pX es E (i+1) g l r e with⟨s,t⟩|⟨j,u,u',s,t,A,B,C⟩
    .exact .inl ⟨s,hs.trans t⟩
    grind
  .cases e
def acR(P:Program)(h:aai)(t:TypeId)(x i:vV)(ok:Bool):Option vV:=
 match P.underlying t,x,i with
 |some (.map b c),.map (Z r),.int k z=>
  match P.underlying b,h.own r,acd P c with
  |some (.int _),Z (.map es),Z a=>
   if flat a then
    match aeU k z es 0 with
    |some (Z (_,v))=>Z (bif ok then .tuple #[v,.bool tT]else v)
    |some Y=>Z (bif ok then .tuple #[a,.bool fF]else a)
    |none=>Y
   else Y
  |_,_,_=>Y
 |_,_,_=>Y
def BD{P:Program}{a:TypeId}{kk k:IntKind}{z:Int}(c:P.underlying a=Z (.int kk))(b:Bool)(n:Nat)(w:World):(Instr.checkKey b (n+1) a (.int k z)).run P w=.ok () w:=by unfold Instr.checkKey;rw[Sem.run_bind,run_underlying c];simp
theorem agp{P:Program}(R:Rel W0 m h w){t:TypeId}{x i x' f v:vV}{ok:Bool}(n:VR h.next m x x')(hi:VR h.next m i f)(e:acR P h t x i ok=Z v):
  ∃v',(Instr.lookup t x' f ok).run P w=.ok v' w/\VR h.next m v v':=by
 unfold acR at e;split at e
 .rename_i p s r k z y;split at e
  .rename_i kk es g d A B;split at e
   .rename_i c;have:=hi.Ja;subst this;cases n with
    |flat hf=>grind[flat]
    |map G=>
     have⟨E,clock,_,C,h2,h3⟩:=R.mD (P:=P) A
     have a:(Instr.lookup t (.map (Z (m r).blk)) (.int k z) ok).run P w=((do
       let(v,o) <-match<-Instr.findKey p (.int k z) E.toList with
        |some (_,v)=>pure (v,tT)
        |none=>pure (<-zeroValue s,fF)
       pure (if ok then .tuple #[v,.bool o]else v):Sem vV)).run P w:=by
      unfold Instr.lookup;simp only[Sem.run_bind,run_underlying y,Result.andThen_ok,C,Sem.run_pure];rw[BD d];rfl
     split at e
     .rename_i j u hf;injection e with e;subst e;rcases pX (kk:=kk) es E.toList 0 h2 h3 _ hf with⟨q,_⟩|⟨D,u1,u',b,F,l,_⟩
      .cases q
      .injection b with b;simp only[jf]at b;obtain⟨rfl,rfl⟩:=b
       refine⟨if ok then .tuple #[u',.bool tT]else u',?_,?_⟩
       .rw[a];simp only[Instr.findKey,Sem.run_bind,run_underlying d,Result.andThen_ok,F,Sem.run_pure]
       .cases ok
        .exact l
        .exact .qY (.cons l (.cons (.flat rfl) (.nil _ _)))
     .rename_i hf;injection e with e;subst e;rcases pX (kk:=kk) es E.toList 0 h2 h3 _ hf with⟨_,q⟩|⟨D,u1,u',b,_⟩
      .refine⟨if ok then .tuple #[g,.bool fF]else g,?_,?_⟩
       .rw[a];simp only[Instr.findKey,Sem.run_bind,run_underlying d,Result.andThen_ok,q,Sem.run_pure,rn B]
       .cases ok
        .exact .flat c
        .exact .qY (.cons (.flat c) (.cons (.flat rfl) (.nil _ _)))
      .cases b
     .cases e
   .cases e
  .cases e
 .cases e
def acM(P:Program)(h:aai)(t:TypeId)(x i v:vV):Option aai:=
 match P.underlying t,x,i with
 |some (.map a _),.map (Z r),.int k z=>
  match P.underlying a,h.own r with
  |some (.int _),Z (.map es)=>
   match aeU k z es 0 with
   |some (Z (j,_))=>Z (h.put r (.map (es.set j (.int k z,v))))
   |some Y=>Z (h.put r (.map (es++[(.int k z,v)])))
   |none=>Y
  |_,_=>Y
 |_,_,_=>Y
theorem Rel.HF(R:Rel W0 m h w){r:Nat}{es f:List (vV×vV)}{E E':Array MapEntry}{clock clock':Nat}(p:h.own r=Z (.map es))(hb:w.heap[(m r).blk]?=Z (.map E clock))(q:AK h.next m (f.map (·.1)) (E'.toList.map (·.key)))(s:AK h.next m (f.map (·.2)) (E'.toList.map (·.val)))(hB:aek E' clock'):
  Rel W0 m (h.put r (.map f)) {w with heap:=w.heap.setIfInBounds (m r).blk (.map E' clock')}:=by
 have l:h.own r≠Y:=by rw[p];simp
 have a:∀i,(h.put r (.map f)).own i≠Y->h.own i≠Y:=by grind[aai.By]
 have t:(m r).blk<w.heap.size:=(ah7.1 hb).1;have g:∀b,b≠(m r).blk->(w.heap.setIfInBounds (m r).blk (.map E' clock'))[b]?=w.heap[b]?:=fun b u=>by grind
 refine⟨by simpa using R.size,fun b sZ=>?_,R.ext,fun i d=>R.lt i (a i d),fun i d=>R.new i (a i d),fun i o c=>?_,fun i j d n=>R.inj i j (a i d) (a j n),R.os,R.output,R.tape,R.aah.put a (fun b _ hb=>g b (fun e=>hb r l e.symm))⟩
 .grind[Rel.new,Rel.qi]
 .by_cases k:i=r
  .subst k;rw[aai.Y3]at c;injection c with c;subst c;exact⟨E',clock',hGr,q,s,hB⟩
  .rw[aai.By _ _ _ _ k]at c;exact Rel.JP (R.own i o c) (qL0 _) (ZK.refl _ _) (g _ (fun e=>k (R.inj i r hGr l e)))
theorem run_setObj_map{P:Program}{w:World}{r:Nat}{es:Array MapEntry}{clock:Nat}(o:Obj)(hb:w.heap[r]?=Z (.map es clock)):(setObj r o).run P w=.ok () {w with heap:=w.heap.setIfInBounds r o}:=by simp[setObj,Sem.run,hb]
theorem Um{P:Program}(R:Rel W0 m h w){t:TypeId}{x i v x' g v':vV}{h':aai}(p:VR h.next m x x')(hi:VR h.next m i g)(s:VR h.next m v v')(e:acM P h t x i v=Z h'):
  ∃w',(Instr.mapUpdate t x' g v').run P w=.ok () w'/\Rel W0 m h' w'/\h'.next=h.next:=by
 unfold acM at e;split at e
 .rename_i H I r k z l;split at e
  .rename_i kk es d b;have:=hi.Ja;subst this;cases p with
   |flat hf=>grind[flat]
   |map J=>
    have⟨E,clock,hb,n,h2,h3⟩:=R.mD (P:=P) b;split at e
    .rename_i j u hf;injection e with e;subst e;rcases pX (kk:=kk) es E.toList 0 h2 h3 _ hf with⟨q,_⟩|⟨y,u1,u',a,A,K,_,B⟩
     .cases q
     .injection a with a;simp only[jf]at a;obtain⟨rfl,rfl⟩:=a;rw[qL243]at B;have C:j<es.length:=by
       cases L:es[j]?<;>grind
      have hlen:E.toList.length=es.length:=by have:=h2.1;grind
      have D:j<E.size:=hGr;have hold:E[j].key=.int k z:=by have o:es[j].1=.int k z:=hGr;have:=h2.2 j (.int k z) E[j].key hGr hGr;exact this.Ja
      have f:((E[j]?).map (·.key)).getD (.int k z)=.int k z:=hGr;refine⟨_,?_,R.HF (E':=E.modify j fun c=>{c with key:=.int k z,val:=v'}) (clock':=clock) b hb ?_ ?_ ((R.born b hb).modify _ _ fun _=>rfl),rfl⟩
      .unfold Instr.mapUpdate;simp only[Sem.run_bind,run_underlying l,Result.andThen_ok,n];rw[BD d];simp only[Result.andThen_ok,Instr.findKey,Sem.run_bind,run_underlying d,A,Sem.run_pure,f];have F:(Instr.keyThatStays (.int k z) (.int k z)).run P w=.ok (.int k z) w:=by simp[Instr.keyThatStays,Instr.sameBits]
       grind[Go.Result.andThen_ok,run_setObj_map]
      .have:=h2.set j (x:=.int k z) (x':=.int k z) (.flat rfl);refine(?_:AK _ _ _ _);have o:(es.set j (.int k z,v)).map (·.1)=(es.map (·.1)).set j (.int k z):=by rw[agK]
       have G:((E.modify j fun c=>{c with key:=.int k z,val:=v'}).toList.map (·.key))=(E.toList.map (·.key)).set j (.int k z):=by apply mJ;grind
       grind
      .have:=h3.set j (x:=v) (x':=v') s;have o:(es.set j (.int k z,v)).map (·.2)=(es.map (·.2)).set j v:=by rw[agK]
       have G:((E.modify j fun c=>{c with key:=.int k z,val:=v'}).toList.map (·.val))=(E.toList.map (·.val)).set j v':=by apply mJ;grind
       grind
    .rename_i hf;injection e with e;subst e;rcases pX (kk:=kk) es E.toList 0 h2 h3 _ hf with⟨_,q⟩|⟨y,u1,u',a,_⟩
     .refine⟨_,?_,R.HF (E':=E.push {key:=.int k z,val:=v',born:=clock}) (clock':=clock+1) b hb ?_ ?_ ((R.born b hb).push _ _),rfl⟩
      .unfold Instr.mapUpdate;simp only[Sem.run_bind,run_underlying l,Result.andThen_ok,n];rw[BD d];simp only[Result.andThen_ok,Instr.findKey,Sem.run_bind,run_underlying d,q,Sem.run_pure];grind[run_setObj_map]
      all_goals grind[AK.append,AK.cons,AK.nil]
     .cases a
    .cases e
  .cases e
 .cases e
end
end Go.Fw
