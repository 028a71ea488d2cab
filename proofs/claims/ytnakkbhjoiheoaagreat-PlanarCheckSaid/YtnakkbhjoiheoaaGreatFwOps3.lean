/- A text. -/
import Derived.Test.YtnakkbhjoiheoaaGreatFwOps1
set_option linter.all false
set_option maxRecDepth 99999
set_option maxHeartbeats 9999999
open Option renaming some→Z,none→Y
open Bool renaming true→tT,false→fF
open Go.Value renaming slice→sL,pointer→pT
open Go renaming Value→vV
namespace Go.Fw
section
variable{W0:LA}{m:abd}{h:aai}{w:World}
def aao(P:Program)(t:TypeId)(x ix:vV):Option vV:=
 match P.underlying t,x,ix with
 |some (.slice e),sL (Z a) len _,.int _ i=>if 0<=i/\i<(len:Int)/\(P.underlying e).isSome then Z (pT (Z (Ip a (i.toNat*UA P e))))else Y
 |some (.array n e),pT (Z a),.int _ i=>if 0<=i/\i<(n:Int)/\(P.underlying e).isSome then Z (pT (Z (Ip a (i.toNat*UA P e))))else Y
 |_,_,_=>Y
theorem Bb{n:Nat}{m:abd}{P:Program}{t:TypeId}{x x' ix l v:vV}(u:VR n m x x')(hi:VR n m ix l)(e:aao P t x ix=Z v)(w:World):
  ∃v',(Instr.indexAt t x' l).run P w=.ok v' w/\VR n m v v':=by
 unfold aao at e;split at e
 .rename_i el a len cap k i p;split at e
  .rename_i o;obtain⟨q,r,c⟩:=o;obtain⟨d,hd⟩:=vg.1 c;injection e with e;subst e;have:=hi.Ja;subst this;have f:=IT (P:=P) hd w;have g:0<=i/\i<(len:Int):=⟨q,r⟩;have b:∀a' c',(Instr.indexAt t (sL (Z a') len c') (.int k i)).run P w=.ok (pT (Z (a'.add (i.toNat*UA P el)))) w:=by
    intro a' c';simp[Instr.indexAt,asIntOf,run_underlying p,g,f]
   cases u with
   |flat hf=>grind[flat]
   |slice j o=>exact⟨_,b _ _,((AR.own j).add _).ptr⟩
   |buf j y ha=>obtain⟨rfl,_⟩:=ha.resolve_right NH;exact⟨_,b _ _,((AR.own j).add _).ptr⟩
   |esl o=>exact⟨_,b _ _,(AR.ext.add _).ptr⟩
   |empty=>grind
  .cases e
 .rename_i OT el a k i p;split at e
  .rename_i o;obtain⟨q,r,c⟩:=o;obtain⟨d,hd⟩:=vg.1 c;injection e with e;subst e;have:=hi.Ja;subst this;have f:=IT (P:=P) hd w;obtain⟨a',rfl,s⟩:=u.AP;have g:0<=i/\i<(OT:Int):=⟨q,r⟩;exact⟨pT (Z (a'.add (i.toNat*UA P el))),by simp[Instr.indexAt,asIntOf,run_underlying p,g,f,Instr.sureAddr],(s.add _).ptr⟩
  .cases e
 .cases e
def aca(P:Program)(s:TypeId)(x:vV)(f:Nat):Option vV:=
 match P.underlying s,x with
 |some (.struct b),pT (Z a)=>
  match b[f]? with
  |some fd=>if UA P fd.type≠0 then Z (pT (Z (Ip a fd.offset)))else Y
  |none=>Y
 |_,_=>Y
theorem Gy{P:Program}{t:TypeId}(h:UA P t≠0)(w:World):(sizeOf t).run P w=.ok (UA P t) w:=by
 unfold UA Program.cellsOf at*;cases hi:P.info? t with
 |none=>grind
 |some i=>simp[sizeOf,typeInfo,hi]
def afO{n:Nat}{m:abd}{P:Program}{s:TypeId}{x x' v:vV}{f:Nat}(d:VR n m x x')(e:aca P s x f=Z v)(w:World):
  ∃v',(Instr.fieldAt s x' f).run P w=.ok v' w/\VR n m v v':=by
 unfold aca at e;split at e
 .rename_i i a g;split at e
  .rename_i fd hf;split at e
   .rename_i c;injection e with e;subst e;obtain⟨a',rfl,b⟩:=d.AP;exact⟨pT (Z (a'.add fd.offset)),by simp[Instr.fieldAt,run_underlying g,hf,Instr.sureAddr,fieldPlace,Gy c,c],(b.add _).ptr⟩
   .cases e
  .cases e
 .cases e
def agL(P:Program)(t:TypeId)(cs:Array vV)(off:Nat):Option vV:=
 match P.underlying t with
 |some d=>bif ab8 d then Z (.agg (cs.extract off (off+UA P t)))else cs[off]?
 |none=>Y
theorem FG{n:Nat}{m:abd}{P:Program}{t:TypeId}{cs a:Array vV}{off:Nat}{v:vV}(c:AK n m cs.toList a.toList)(e:agL P t cs off=Z v)(w:World):
  ∃v',(part t a off).run P w=.ok v' w/\VR n m v v':=by
 unfold agL at e;split at e
 .rename_i d b;cases hd:ab8 d with
  |true=>simp only[hd,cond_true]at e;injection e with e;subst e;refine⟨.agg (a.extract off (off+UA P t)),by simp[part,Rk b,hd,IT b],.uk ?_⟩;grind[Array.toList_extract,AK.drop,AK.take]
  |false=>simp only[hd,cond_false]at e;obtain⟨v',f,h2⟩:=c.get (i:=off) (v:=v) (by simpa using e);exact⟨v',by simp[part,Rk b,hd,show a[off]?=Z v' from by grind],h2⟩
 .cases e
def agc(P:Program)(s:TypeId)(x:vV)(f:Nat):Option vV:=
 match P.underlying s,x with
 |some (.struct a),.agg cs=>
  match a[f]? with
  |some fd=>agL P fd.type cs fd.offset
  |none=>Y
 |_,_=>Y
def aeL{n:Nat}{m:abd}{P:Program}{s:TypeId}{x x' v:vV}{f:Nat}(b:VR n m x x')(e:agc P s x f=Z v)(w:World):
  ∃v',(Instr.field s x' f).run P w=.ok v' w/\VR n m v v':=by
 unfold agc at e;split at e
 .rename_i i cs c;split at e
  .rename_i fd hf;obtain⟨d,rfl,a⟩:=b.oJ;obtain⟨v',g,h2⟩:=FG a e w;exact⟨v',by simp[Instr.field,run_underlying c,hf,asAgg,g],h2⟩
  .cases e
 .cases e
def afh(P:Program)(t:TypeId)(x ix:vV):Option vV:=
 match P.underlying t,x,ix with
 |some (.array n e),.agg cs,.int _ i=>if 0<=i/\i<(n:Int)/\(P.underlying e).isSome then agL P e cs (i.toNat*UA P e)else Y
 |some .string,.string s,.int _ i=>if 0<=i then match s[i.toNat]? with|some b=>Z (.int .u8 b.toNat)|none=>Y else Y
 |_,_,_=>Y
def kg{n:Nat}{m:abd}{P:Program}{t:TypeId}{x x' ix a v:vV}(p:VR n m x x')(hi:VR n m ix a)(e:afh P t x ix=Z v)(w:World):
  ∃v',(Instr.index t x' a).run P w=.ok v' w/\VR n m v v':=by
 unfold afh at e;split at e
 .rename_i OT el cs k i c;split at e
  .rename_i q;obtain⟨f,r,g⟩:=q;obtain⟨d,hd⟩:=vg.1 g;have:=hi.Ja;subst this;obtain⟨u,rfl,j⟩:=p.oJ;obtain⟨v',l,h2⟩:=FG j e w;have o:0<=i/\i<(OT:Int):=⟨f,r⟩;exact⟨v',by simp[Instr.index,asIntOf,run_underlying c,o,IT hd,l],h2⟩
  .cases e
 .rename_i s k i c;split at e
  .rename_i f;split at e
   .rename_i b hb;injection e with e;subst e;have:=hi.Ja;subst this;have:=p.EK;subst this;exact⟨.int .u8 b.toNat,by simp[Instr.index,asIntOf,run_underlying c,f,hb],.flat rfl⟩
   .cases e
  .cases e
 .cases e
def acW(x:vV)(i:Nat):Option vV:=match x with|.tuple vs=>vs[i]?|_=>Y
theorem VI{n:Nat}{m:abd}{P:Program}{x x' v:vV}{i:Nat}(c:VR n m x x')(e:acW x i=Z v)(w:World):
  ∃v',(Instr.extract x' i).run P w=.ok v' w/\VR n m v v':=by
 unfold acW at e;split at e
 .obtain⟨a,rfl,b⟩:=c.Vh;obtain⟨v',d,h2⟩:=b.get (i:=i) (v:=v) (by simpa using e);exact⟨v',by simp[Instr.extract,show a[i]?=Z v' from by grind],h2⟩
 .cases e
def afZ(place:Nat->Option (Nat×Nat))(cells:xLV):List (Nat×vV)->Option xLV
 |[]=>Z cells
 |(i,v)::rest=>
  match place i with
  |none=>Y
  |some (off,size)=>if v.cells.size=size/\off+size<=cells.length then afZ place (putCells cells off v.cells.toList) rest else Y
theorem foldl_put(vs:xLV):∀(C:Array vV)(off s:Nat),((vs.zipIdx s).foldl (fun cs (c,j)=>cs.setIfInBounds (off+j) c) C).toList=putCells C.toList (off+s) vs:=by
 induction vs with
 |nil=>intro C off s;rfl
 |cons v vs a=>intro C off s;simp only[List.zipIdx_cons,Dj,putCells];rw[a];grind
def VR.cells{n:Nat}{m:abd}{v v':vV}(h:VR n m v v'):AK n m v.cells.toList v'.cells.toList:=by
 cases h with
 |agg hs h=>exact⟨by simpa[vV.cells]using hs,fun i v v' e e'=>h i v v' (by simpa[vV.cells]using e) (by simpa[vV.cells]using e')⟩
 |@flat v hf=>
  have:v.cells=#[v]:=by cases v<;>first|rfl|simp[Fw.flat]at hf
  rw[this];exact .cons (.flat hf) (.nil _ _)
 |ptr h=>exact .cons (.ptr h) (.nil _ _)
 |aeK=>exact .cons .aeK (.nil _ _)
 |slice h f=>exact .cons (.slice h f) (.nil _ _)
 |buf h g ha=>exact .cons (.buf h g ha) (.nil _ _)
 |esl f=>exact .cons (.esl f) (.nil _ _)
 |empty=>exact .cons .empty (.nil _ _)
 |map h=>exact .cons (.map h) (.nil _ _)
 |func a b c d=>exact .cons (.func a b c d) (.nil _ _)
 |iface h=>exact .cons (.iface h) (.nil _ _)
 |tuple a b=>exact .cons (.tuple a b) (.nil _ _)
theorem AK.putCells{n:Nat}{m:abd}:∀{vs a:xLV}{c c':xLV}(off:Nat),AK n m c c'->AK n m vs a->AK n m (Fw.putCells c off vs) (Fw.putCells c' off a)
 |[],a,c,c',off,d,b=>by have:a=[]:=Yi (by rw[<-b.1];rfl);subst this;exact d
 |v::vs,[],c,c',off,d,b=>by grind[AK]
 |v::vs,v'::a,c,c',off,d,b=>AK.putCells (off+1) (d.set off (b.2 0 v v' rfl rfl)) (by simpa using b.drop 1)
inductive PRs (n:Nat) (m:abd):List (Nat×vV)->List (Nat×vV)->Prop
 |nil:PRs n m [] []
 |cons {i:Nat} {v v':vV} {l l':List (Nat×vV)} (h:VR n m v v') (hl:PRs n m l l'):PRs n m ((i,v)::l) ((i,v')::l')
theorem PT{n:Nat}{m:abd}(place:Nat->Option (Nat×Nat)){ps b:List (Nat×vV)}(k:PRs n m ps b):∀{c r:xLV}{C:Array vV},AK n m c C.toList->afZ place c ps=Z r->
  ∃R,Instr.fill place C b=Z R/\AK n m r R.toList:=by
 induction k with
 |nil=>intro c r C d e;simp[afZ]at e;subst e;exact⟨C,rfl,d⟩
 |@cons i v v' l l' o s p=>
  intro c r C d e;simp only[afZ]at e;split at e
  .cases e
  .rename_i off size f;split at e
   .rename_i hh;obtain⟨t,h2⟩:=hh;have a:=o.cells;have g:v'.cells.size=size:=by have:=a.1;grind
    have hlen:C.size=c.length:=by have:=d.1;grind
    obtain⟨R,hR,q⟩:=p (C:=v'.cells.toList.zipIdx.foldl (fun cs (c,j)=>cs.setIfInBounds (off+j) c) C) (by rw[foldl_put];grind[AK.putCells]) e;refine⟨R,?_,q⟩;simp only[Instr.fill,f,g];grind[Array.toList_zipIdx]
   .cases e
def OK(P:Program)(W0:LA)(m:abd)(h:aai)(w:World)(s:Sem vV)(v:vV)(h':aai):Prop:=∃a v' w',s.run P w=.ok v' w'/\Rel W0 a h' w'/\ZK h.next m a/\h.next<=h'.next/\VR h'.next a v v'
def OK.pure{P:Program}{s:Sem vV}{v:vV}(R:Rel W0 m h w)(e:∃v',s.run P w=.ok v' w/\VR h.next m v v'):OK P W0 m h w s v h:=let⟨v',a,h2⟩:=e;⟨m,v',w,a,R,.refl _ _,qL0 _,h2⟩
def acd(P:Program)(t:TypeId):Option vV:=match P.info? t with|some i=>i.zero|none=>Y
def rn{P:Program}{t:TypeId}{z:vV}(a:acd P t=Z z)(w:World):(zeroValue t).run P w=.ok z w:=by
 unfold acd at a;split at a
 .rename_i i hi;simp[zeroValue,typeInfo,hi,a]
 .cases a
def IF(h:aai)(c:xLV):Option (Addr×aai):=if c.all (·.oneCell')then Z (⟨h.next,0,Y⟩,h.alloc (.cells c))else Y
def rT{P:Program}(R:Rel W0 m h w){c C:xLV}{a:Addr}{h':aai}(e:TypeId)(f:AK h.next m c C)(b:IF h c=Z (a,h')):
  ∃d a' w',(newRow e C.toArray).run P w=.ok a' w'/\Rel W0 d h' w'/\ZK h.next m d/\h.next<=h'.next/\AR h'.next d a a':=by
 unfold IF at b;split at b
 .rename_i g;injection b with b;simp only[si]at b;obtain⟨rfl,rfl⟩:=b
  refine⟨upd m h.next ⟨w.heap.size,0,C.length⟩,⟨w.heap.size,0,Y⟩,w.alloc (.cells C.toArray e),by simp[newRow],R.alloc_eq e f g,Qq _ _ _,afJ _,?_⟩
  have:=AR.own (n:=h.next+1) (m:=upd m h.next ⟨w.heap.size,0,C.length⟩) (id:=h.next) (off:=0) (afC _)
  rw[zf]at this;exact this
 .cases b
def abO(P:Program)(h:aai)(t:TypeId):Option (vV×aai):=
 match acd P t with
 |some z=>if z.cells.toList.all flat then match IF h z.cells.toList with|some (a,h')=>Z (pT (Z a),h')|none=>Y else Y
 |none=>Y
theorem aAlloc_ok{P:Program}(R:Rel W0 m h w){t:TypeId}{v:vV}{h':aai}(e:abO P h t=Z (v,h')):OK P W0 m h w (Instr.alloc t tT (.tuple #[])) v h':=by
 unfold abO at e;split at e
 .rename_i z c;split at e
  .rename_i hf;split at e
   .rename_i a h2 d;injection e with e;simp only[si]at e;obtain⟨rfl,rfl⟩:=e;obtain⟨f,a',w',g,h2,h3,i,j⟩:=rT (P:=P) R t (AK.flat hf) d;refine⟨f,pT (Z a'),w',?_,h2,h3,i,j.ptr⟩;have b:(newRow t z.cells).run P w=.ok a' w':=by simpa using g
    simp[Instr.alloc,rn c,newVar,b]
   .cases e
  .cases e
 .cases e
def zF(h:aai)(x:vV):Option (vV×aai):=match IF h x.cells.toList with|some (a,h')=>Z (pT (Z a),h')|none=>Y
def aBox_ok{P:Program}(R:Rel W0 m h w){t:TypeId}{x x' v:vV}{h':aai}(c:VR h.next m x x')(e:zF h x=Z (v,h')):OK P W0 m h w (Instr.box t x') v h':=by
 unfold zF at e;split at e
 .rename_i a h2 d;injection e with e;simp only[si]at e;obtain⟨rfl,rfl⟩:=e;obtain⟨f,a',w',g,h2,h3,i,j⟩:=rT (P:=P) R t c.cells d;refine⟨f,pT (Z a'),w',?_,h2,h3,i,j.ptr⟩;have b:(newRow t x'.cells).run P w=.ok a' w':=by simpa using g
  simp[Instr.box,newVar,b]
 .cases e
def agV(P:Program)(t:TypeId):Option (Nat->Option (Nat×Nat)):=
 match P.underlying t with
 |some (.struct a)=>if a.toList.all (fun f=>(P.underlying f.type).isSome)then Z (fun i=>(a.map (fun f=>(f.offset,UA P f.type)))[i]?)else Y
 |some (.array _ e)=>if(P.underlying e).isSome then Z (fun i=>Z (i*UA P e,UA P e))else Y
 |_=>Y
def acB(P:Program)(t:TypeId)(parts:List (Nat×vV)):Option vV:=
 match acd P t,agV P t with
 |some z,Z pl=>if z.cells.toList.all flat then match afZ pl z.cells.toList parts with|some r=>Z (.agg r.toArray)|none=>Y else Y
 |_,_=>Y
def run_places{P:Program}(w:World):∀(a:List Field),a.all (fun f=>(P.underlying f.type).isSome)=tT->
  (a.mapM (m:=Sem) fun f=>do pure (f.offset,<-sizeOf f.type)).run P w=.ok (a.map (fun f=>(f.offset,UA P f.type))) w
 |[],_=>by simp
 |f::a,h=>by simp only[agr,zx]at h;obtain⟨d,hd⟩:=vg.1 h.1;simp only[List.mapM_cons,Sem.run_bind,IT hd,Result.andThen_ok,Sem.run_pure,run_places w a h.2,Lm]
theorem WX{n:Nat}{m:abd}{P:Program}{t:TypeId}{ps b:List (Nat×vV)}{v:vV}(l:PRs n m ps b)(e:acB P t ps=Z v)(w:World):
  ∃v',(Instr.build t b.toArray).run P w=.ok v' w/\VR n m v v':=by
 unfold acB at e;split at e
 .rename_i z pl o a;split at e
  .rename_i hf;split at e
   .rename_i r p;injection e with e;subst e;unfold agV at a;split at a
    .rename_i g i;split at a
     .rename_i c;injection a with a;subst a;obtain⟨R,hR,j⟩:=PT _ l (AK.flat hf) p
      have q:(Array.mapM (m:=Sem) (fun f=>do pure (f.offset,<-sizeOf f.type)) g).run P w=.ok (g.map (fun f=>(f.offset,UA P f.type))) w:=by have:=run_places (P:=P) w g.toList c;rw[qL207,map_eq_pure_bind,Sem.run_bind,this];simp only[Result.andThen_ok,Sem.run_pure];congr 1;grind
      refine⟨.agg R,?_,.uk hGr⟩;simp only[Instr.build,Sem.run_bind,rn o,Result.andThen_ok,run_underlying i,q];rw[hR];simp
     .cases a
    .rename_i OT el i;split at a
     .rename_i k;obtain⟨d,hd⟩:=vg.1 k;injection a with a;subst a;obtain⟨R,hR,j⟩:=PT _ l (AK.flat hf) p;refine⟨.agg R,?_,.uk hGr⟩;simp only[Instr.build,Sem.run_bind,rn o,Result.andThen_ok,run_underlying i,IT hd];rw[hR];simp
     .cases a
    .cases a
   .cases e
  .cases e
 .cases e
def aas(P:Program)(h:aai)(t:TypeId)(len:Nat)(parts:List (Nat×vV)):Option (vV×aai):=
 match P.underlying t with
 |some (.slice e)=>
  match acd P e with
  |some z=>
   if z.cells.toList.all flat/\z.cells.size=UA P e/\(P.underlying e).isSome/\len*UA P e<=1000000/\len<=1000000 then
    match afZ (fun i=>Z (i*UA P e,UA P e)) (acY z.cells.toList len) parts with
    |some r=>match IF h r with|some (a,h')=>Z (sL (Z a) len len,h')|none=>Y
    |none=>Y
   else Y
  |none=>Y
 |_=>Y
theorem Mg{P:Program}(R:Rel W0 m h w){t:TypeId}{len:Nat}{ps b:List (Nat×vV)}{v:vV}{h':aai}(o:PRs h.next m ps b)(e:aas P h t len ps=Z (v,h')):OK P W0 m h w (Instr.buildSlice t len b.toArray) v h':=by
 unfold aas at e;split at e
 .rename_i el p;split at e
  .rename_i z q;split at e
   .rename_i s;obtain⟨hf,c,f,hlen,g⟩:=s;obtain⟨d,hd⟩:=vg.1 f;split at e
    .rename_i r u;split at e
     .rename_i a h2 x;injection e with e;simp only[si]at e;obtain⟨rfl,rfl⟩:=e;have n:=MI z.cells len (len*UA P el) (by rw[c]);obtain⟨C,y,j⟩:=PT (C:=(Array.range (len*UA P el)).map (fun i=>z.cells[i%z.cells.size]!)) _ o (by grind[AK.flat,Ew]) u;obtain⟨A,a',w',B,h2,h3,D,E⟩:=rT (P:=P) R el j x;have k:(newRow el C).run P w=.ok a' w':=by simpa using B
      have l:len<UNK:=by grind[UNK]
      refine⟨A,sL (Z a') len len,w',?_,h2,h3,D,E.slice l⟩;have F:¬(2^24<len*UA P el):=NH;simp only[Instr.buildSlice,Sem.run_bind,run_underlying p,Result.andThen_ok,IT hd];rw[yM hGr];split
      .grind[Go.Sem.run_bind,Go.Sem.run_pure,Go.Result.andThen_ok]
      .simp only[Sem.run_bind,Sem.run_pure,Result.andThen_ok,rn q,y,k]
     .cases e
    .cases e
   .cases e
  .cases e
 .cases e
def aaK(P:Program)(h:aai)(t:TypeId)(a x:vV):Option aai:=
 match a with
 |.pointer (Z ⟨id,off,Y⟩)=>
  match h.own id with
  |some (.cells c)=>
   if x.cells.size=UA P t/\(P.underlying t).isSome/\off+x.cells.size<=c.length/\x.cells.toList.all (·.oneCell')then
    Z (h.put id (.cells (putCells c off x.cells.toList)))
   else Y
  |_=>Y
 |_=>Y
theorem VR.Pn{n:Nat}{m:abd}{v v':vV}(h:VR n m v v'):v'.cells.size=v.cells.size:=by have:=h.cells.1;grind
theorem aStore_ok{P:Program}(R:Rel W0 m h w){t:TypeId}{a a' x x':vV}{h':aai}(ha:VR h.next m a a')(f:VR h.next m x x')(e:aaK P h t a x=Z h'):
  ∃w',(Instr.storeAt t a' x').run P w=.ok () w'/\Rel W0 m h' w'/\h'.next=h.next:=by
 unfold aaK at e;split at e
 .rename_i id off;split at e
  .rename_i c g;split at e
   .rename_i i;obtain⟨l,h2,h3,j⟩:=i;obtain⟨d,hd⟩:=vg.1 h2;injection e with e;subst e;cases ha with
    |flat hf=>grind[flat]
    |ptr k=>
     have b:x'.cells.size=UA P t:=by grind[VR.Pn]
     obtain⟨w',hw,R'⟩:=Rel.jW P x.cells.toList x'.cells.toList 0 R g (by simpa using h3) f.cells (f.cells.zK j);refine⟨w',?_,hGr,rfl⟩;simp[Instr.storeAt,Instr.sureAddr,storeVar,IT hd,b,hw]
   .cases e
  .cases e
 .cases e
def abl(P:Program)(h:aai)(t:TypeId)(l c:vV):Option (vV×aai):=
 match P.underlying t,l,c with
 |some (.slice e),.int _ l,.int _ c=>
  match acd P e with
  |some z=>
   if z.cells.toList.all flat/\z.cells.size=UA P e/\(P.underlying e).isSome/\0<=l/\l<=c/\(P.bytesOf e:Int)*c<=140737488355328/\c<=140737488355328 then
    match IF h (acY z.cells.toList c.toNat)with
    |some (a,h')=>Z (sL (Z a) l.toNat c.toNat,h')
    |none=>Y
   else Y
  |none=>Y
 |_,_,_=>Y
theorem info_of_underlying{P:Program}{t:TypeId}{d:TypeDesc}(a:P.underlying t=Z d):∃i,P.info? t=Z i/\P.bytesOf t=i.bytes/\UA P t=i.size:=by
 unfold Program.underlying at a;cases hi:P.info? t with
 |none=>grind
 |some i=>exact⟨i,rfl,by simp[Program.bytesOf,hi],by simp[UA,Program.cellsOf,hi]⟩
theorem ZU{P:Program}(R:Rel W0 m h w){t:TypeId}{l l' c c' v:vV}{h':aai}(x:VR h.next m l l')(y:VR h.next m c c')(e:abl P h t l c=Z (v,h')):OK P W0 m h w (Instr.makeSlice t l' c') v h':=by
 unfold abl at e;split at e
 .rename_i el k li k2 ci A;split at e
  .rename_i z B;split at e
   .rename_i b;obtain⟨hf,j,n,G,H,hb,C⟩:=b;obtain⟨d,hd⟩:=vg.1 n;obtain⟨i,hi,o,D⟩:=info_of_underlying hd;split at e
    .rename_i a h2 E;injection e with e;simp only[si]at e;obtain⟨rfl,rfl⟩:=e;have:=x.Ja;subst this;have:=y.Ja;subst this;have f:=MI z.cells ci.toNat (ci.toNat*UA P el) (by rw[j]);obtain⟨F,a',w',g,p,q,r,s⟩:=rT (P:=P) R el (AK.flat (Ew _ _ hf ci.toNat)) E;have u:(newRow el ((Array.range (ci.toNat*UA P el)).map (fun i=>z.cells[i%z.cells.size]!))).run P w=.ok a' w':=by rw[<-f]at g;exact g
     refine⟨F,sL (Z a') li.toNat ci.toNat,w',?_,p,q,r,s.slice (by grind[UNK])⟩;have w1:IntKind.i64.wrap li=li:=by rw[<-Qt];grind[ie]
     have w2:IntKind.i64.wrap ci=ci:=by rw[<-Qt];grind[ie]
     rw[o]at hb;have n1:¬(ci<0):=NH;have I:(i.bytes:Int)*ci<=281474976710656:=NH;have n3:¬(li<0):=NH;have J:¬(ci<li):=NH;simp only[Instr.makeSlice,Sem.run_bind,run_underlying A,Result.andThen_ok,asInt,asIntOf,Sem.run_pure,typeInfo,run_program,hi,w1,w2];rw[yM hGr];simp only[Sem.run_bind,run_askRoom,Result.andThen_ok,IT hd];split
     .grind[Go.Sem.run_bind,Go.Sem.run_pure,Go.Result.andThen_ok]
     .simp only[Sem.run_bind,Sem.run_pure,Result.andThen_ok,rn B,u]
    .cases e
   .cases e
  .cases e
 .cases e
def acL:TypeDesc->Bool
 |.int _=>fF
 |_=>tT
theorem ac2{P:Program}{t xt e:TypeId}{dx d:TypeDesc}(ty:TypeId)(f:P.underlying t=Z (.slice e))(g:P.underlying xt=Z dx)(i:acL dx=tT)(hd:P.underlying e=Z d){base:Option Addr}{sLen sCap n:Nat}{x':vV}{new:Array vV}{w w':World}(k:(Builtin.lenOf x').run P w=.ok n w)(c:(Builtin.firstCells (UA P e) n x').run P w=.ok new w)(b:sLen+n<=sCap)(j:(match base with|some a=>(storeCells (a.add (sLen*UA P e)) new.toList)|none=>pure ()).run P w=.ok () w'):
  (Builtin.append_ #[t,xt] ty #[.slice base sLen sCap,x']).run P w=.ok (.slice base (sLen+n) sCap) w':=by
 unfold Builtin.append_;simp only[ah1,Bn,CG,Sem.run_bind,run_underlying f,Result.andThen_ok,IT hd,Sem.run_pure,run_underlying g];grind[acL,Go.Result.andThen_ok,Go.Sem.run_bind,Go.Sem.run_pure]
theorem yD{P:Program}{t xt e:TypeId}{dx d:TypeDesc}(ty:TypeId){z:vV}(q:P.underlying t=Z (.slice e))(r:P.underlying xt=Z dx)(s:acL dx=tT)(hd:P.underlying e=Z d)(u:acd P e=Z z){base:Option Addr}{sLen sCap n:Nat}{x':vV}{qi new:Array vV}{w:World}(v:(Builtin.lenOf x').run P w=.ok n w)(c:(Builtin.firstCells (UA P e) n x').run P w.drew=.ok new w.drew)(hold:(Builtin.firstCells (UA P e) sLen (.slice base sLen sCap)).run P w.drew=.ok qi w.drew)(b:sCap<sLen+n)(hb:(sLen+n)*P.bytesOf e<=140737488355328)(A:sLen+n<=140737488355328):
  (Builtin.append_ #[t,xt] ty #[.slice base sLen sCap,x']).run P w=.ok (sL (Z ⟨w.heap.size,0,Y⟩) (sLen+n) (grownCap w (sLen+n) sCap e))
   (w.drew.alloc (.cells (qi++new++Builtin.zeroCells z.cells (grownCap w (sLen+n) sCap e-(sLen+n))) e)):=by
 obtain⟨i,hi,f,x⟩:=info_of_underlying hd;rw[f]at hb;have p:=growslice_fits b hb;have g:¬(sLen+n<=sCap):=NH;have j:¬(((sLen+n:Nat):Int)>IntKind.i64.max):=by simp[IntKind.max,IntKind.signed,IntKind.bits];omega
 have l:¬(Builtin.nextslicecap (sLen+n) sCap*i.bytes>2^48):=NH;have a:(Question.appendCap (sLen+n) sCap e).forced=fF:=rfl;have o:∀w,(typeInfo e).run P w=.ok i w:=fun w=>by simp[typeInfo,hi]
 unfold Builtin.append_;simp only[ah1,Bn,CG,Sem.run_bind,run_underlying q,Result.andThen_ok,IT hd,Sem.run_pure,run_underlying r];cases dx
 case int k=>grind[acL]
 all_goals
  simp only[KV,if_false,v,Result.andThen_ok,g,Sem.run_bind,Sem.run_pure,oZ,if_true,o,j,false_and,l,run_choose,a,run_askRoom];have y:({w with drawn:=w.drawn+1}:World)=w.drew:=rfl;rw[y,hold];simp only[Result.andThen_ok,c,rn u,newRow,Sem.run_bind,run_newObj,Sem.run_pure];rfl
def aby(P:Program)(h:aai)(e:TypeId)(x:vV):Option (Nat×xLV):=
 match x with
 |.slice Y n _=>if n=0 then Z (0,[])else Y
 |.slice (Z a) n _=>match abN h a (n*UA P e)with|some l=>Z (n,l)|none=>Y
 |.string s=>Z (s.size,s.data.toList.map fun b=>.int .u8 b.toNat)
 |_=>Y
theorem VR.readable{n:Nat}{m:abd}{a:Addr}{len cap:Nat}{v':vV}(h:VR n m (sL (Z a) len cap) v'):
  ∃a' cap',v'=sL (Z a') len cap'/\(AR n m a a'\/len=0):=by
 cases h with
 |flat h=>simp[Fw.flat]at h
 |slice b c=>exact⟨_,_,rfl,.inl (.own b)⟩
 |buf b d ha=>exact⟨_,_,rfl,by rcases ha with⟨rfl,_⟩|e;exact .inl (.own b);grind⟩
 |esl c=>exact⟨_,_,rfl,.inl .ext⟩
 |empty=>grind
theorem VR.mh{n:Nat}{m:abd}{len cap:Nat}{v':vV}(h:VR n m (.slice Y len cap) v'):v'=.slice Y 0 0/\len=0/\cap=0:=by
 cases h with
 |flat h=>simp[Fw.flat]at h;obtain⟨rfl,rfl⟩:=h;exact⟨rfl,rfl,rfl⟩
def GB(h:aai)(size:Nat)(base:Option Addr)(len:Nat):Option xLV:=
 match base with
 |some a=>abN h a (len*size)
 |none=>Z []
def Rel.firstCells(R:Rel W0 m h w){P:Program}{a:Option Addr}{len cap size:Nat}{l:xLV}{x':vV}(d:VR h.next m (.slice a len cap) x')(c:GB h size a len=Z l):∃l',AK h.next m l l'/\(Builtin.firstCells size len x').run P w=.ok l'.toArray w:=by
 cases a with
 |none=>obtain⟨rfl,rfl,rfl⟩:=d.mh;simp[GB]at c;subst c;exact⟨[],.nil _ _,by simp[Builtin.firstCells]⟩
 |some a=>
  obtain⟨a',cap',rfl,b⟩:=d.readable;simp only[GB]at c;rcases b with b|e
  .obtain⟨l',f,h2⟩:=R.loadCells P b c;exact⟨l',f,by simpa[Builtin.firstCells]using h2⟩
  .subst e;simp[Fw.abN]at c;subst c;exact⟨[],.nil _ _,by simp[Builtin.firstCells,Go.loadCells,loadCellsFrom]⟩
theorem Vc(R:Rel W0 m h w){P:Program}{e:TypeId}{x x':vV}{n:Nat}{l:xLV}(d:VR h.next m x x')(hs:aby P h e x=Z (n,l)):
  (∀w,(Builtin.lenOf x').run P w=.ok n w)/\∃l',AK h.next m l l'/\(Builtin.firstCells (UA P e) n x').run P w=.ok l'.toArray w/\(x'≠.string ByteArray.empty->True):=by
 unfold aby at hs;split at hs
 .split at hs
  .rename_i i;subst i;simp at hs;obtain⟨rfl,rfl⟩:=hs;obtain⟨l',f,h2⟩:=R.firstCells (P:=P) (size:=UA P e) d (l:=[]) rfl;obtain⟨rfl,_,_⟩:=d.mh;exact⟨fun w=>by simp[Builtin.lenOf],l',f,h2,fun _=>trivial⟩
  .cases hs
 .rename_i a k c;split at hs
  .rename_i l0 j;simp at hs;obtain⟨rfl,rfl⟩:=hs;obtain⟨l',f,h2⟩:=R.firstCells (P:=P) (size:=UA P e) d (l:=l0) j;obtain⟨a',cap',rfl,o⟩:=d.readable;exact⟨fun w=>by simp[Builtin.lenOf],l',f,h2,fun _=>trivial⟩
  .cases hs
 .rename_i s;simp at hs;obtain⟨rfl,rfl⟩:=hs;have:=d.EK;subst this;refine⟨fun w=>by simp[Builtin.lenOf],s.data.toList.map (fun b=>.int .u8 b.toNat),AK.flat ?_,?_,fun _=>trivial⟩
  .rw[DF];intro v g;simp at g;obtain⟨b,_,rfl⟩:=g;rfl
  .have:s.extract 0 s.size=s:=by
    apply ByteArray.ext;simp
   simp only[Builtin.firstCells,Sem.run_pure,this];congr 1;grind
 .cases hs
def aaR(P:Program)(h:aai)(t xt:TypeId)(s x:vV):Option (vV×aai):=
 match P.underlying t,P.underlying xt,s with
 |some (.slice e),Z dx,.slice base len cap=>
  match acd P e,aby P h e x with
  |some z,Z (n,news)=>
   if z.cells.size=UA P e/\z.cells.toList.all (·.oneCell')/\(P.underlying e).isSome/\acL dx/\news.all (·.oneCell')/\(len+n)*P.bytesOf e<=140737488355328/\len+n<=140737488355328/\news.length=n*UA P e then
    if n=0 then(if len<=cap then Z (s,h)else Y)
    else if UNK<=cap then
     match base with
     |some ⟨id,off,Y⟩=>
      if cap=UNK+UA P e then
       match abN h ⟨id,off,Y⟩ (len*UA P e),h.own id with
       |some a,Z (.cells _)=>if a.all (·.oneCell')then Z (sL (Z h.next) (len+n) cap,(h.kill id).alloc (.cells (a++news)))else Y
       |_,_=>Y
      else Y
     |_=>Y
    else if len+n<=cap then
     match base with
     |some ⟨id,off,Y⟩=>
      match h.own id with
      |some (.cells c)=>if off+len*UA P e+news.length<=c.length then Z (.slice base (len+n) cap,h.put id (.cells (putCells c (off+len*UA P e) news)))else Y
      |_=>Y
     |_=>Y
    else
     match GB h (UA P e) base len with
     |some a=>if a.all (·.oneCell')then Z (sL (Z h.next) (len+n) (UNK+UA P e),h.alloc (.cells (a++news)))else Y
     |none=>Y
   else Y
  |_,_=>Y
 |_,_,_=>Y
theorem Jq{P:Program}(R:Rel W0 m h w){t xt e ty:TypeId}{dx d:TypeDesc}{z:vV}(O:P.underlying t=Z (.slice e))(B:P.underlying xt=Z dx)(D:acL dx=tT)(hd:P.underlying e=Z d)(Q:acd P e=Z z)(S:z.cells.size=UA P e)(E:z.cells.toList.all (·.oneCell')=tT){base:Option Addr}{len cap n:Nat}{x x' F:vV}{news a:xLV}{f:aai}(hs:VR h.next m (.slice base len cap) F)(T:VR h.next m x x')(s:aby P h e x=Z (n,news))(hold:GB h (UA P e) base len=Z a)(N:news.all (·.oneCell')=tT)(G:a.all (·.oneCell')=tT)(hb:(len+n)*P.bytesOf e<=140737488355328)(U:len+n<=140737488355328)(H:news.length=n*UA P e)(I:a.length=len*UA P e)(i:∀b c,F=.slice b len c->c<len+n)(J:f=h\/∃id,f=h.kill id):
  OK P W0 m h w (Builtin.append_ #[t,xt] ty #[F,x']) (sL (Z h.next) (len+n) (UNK+UA P e)) (f.alloc (.cells (a++news))):=by
 obtain⟨V,l',j,u,_⟩:=Vc R.drew T s;obtain⟨r,l,o⟩:=R.drew.firstCells (P:=P) hs hold;obtain⟨W,c',rfl,K⟩:=hs.YC;have hg:=i W c' rfl;have g:=yD (P:=P) ty O B D hd Q (V w) u o hg hb U;generalize y:grownCap w (len+n) c' e=C at g;have X:len+n<=C:=by grind[Go.grownCap_ge]
 have aa:C<UNK:=by
  have f:C<=maxLen:=by rw[<-y];exact grownCap_le_maxLen w (len+n) c' e (by unfold maxLen;omega)
  have h2:maxLen<UNK:=by decide
  omega
 have R1:Rel W0 m f w.drew:=by grind[Rel.drew,Rel.kill]
 have p:f.next=h.next:=by rcases J with A|⟨id,A⟩<;>rw[A]<;>rfl
 have L:(Builtin.zeroCells z.cells (C-(len+n))).toList=acY z.cells.toList (C-(len+n)):=MI _ _ _ rfl;have M:(Builtin.zeroCells z.cells (C-(len+n))).size=(C-(len+n))*UA P e:=by grind[jY]
 have R2:=R1.alloc (c:=a++news) (C:=r.toArray++l'.toArray++Builtin.zeroCells z.cells (C-(len+n))) e
  (by
   rw[p];have:(r.toArray++l'.toArray++Builtin.zeroCells z.cells (C-(len+n))).toList.take (a++news).length=r++l':=by
    have hlen:(a++news).length=(r++l').length:=by simp[l.1,j.1]
    grind
   grind[AK.append])
  (by simp[l.1,j.1])
  (by
   intro v q;simp only[Array.toList_append,aax]at q;rcases q with(q|q)|q
   .grind[AK.zK]
   .grind[AK.zK]
   .rw[L]at q;exact DF.1 (Ew _ _ E _) v q)
 refine⟨_,_,_,g,R2,by grind[Qq],by show h.next<=f.next+1;omega,?_⟩
 show VR (f.next+1) _ _ _
 have:=VR.buf (n:=f.next+1) (m:=upd m f.next ⟨w.drew.heap.size,0,(r.toArray++l'.toArray++Builtin.zeroCells z.cells (C-(len+n))).size⟩) (id:=f.next) (off:=0) (len:=len+n) (k:=UA P e) (cap':=C) (a':=⟨w.heap.size,0,Y⟩) (afC _) X
  (.inl ⟨by rw[zf];rfl,by
   rw[zf];simp only[Array.size_append,List.size_toArray,M];have A:r.length=len*UA P e:=by rw[<-l.1,I]
   have e2:l'.length=n*UA P e:=by rw[<-j.1,H]
   rw[A,e2,<-aiL,<-aiL,show len+n+(C-(len+n))=C from by omega];grind⟩)
 grind
theorem Uk{P:Program}(R:Rel W0 m h w){t xt ty:TypeId}{s x s' x' v:vV}{h':aai}(hs:VR h.next m s s')(S:VR h.next m x x')(e:aaR P h t xt s x=Z (v,h')):
  OK P W0 m h w (Builtin.append_ #[t,xt] ty #[s',x']) v h':=by
 unfold aaR at e;split at e
 .rename_i el dx base len cap I q;split at e
  .rename_i z n news hz r;split at e
   .rename_i T;obtain⟨J,K,U,u,l,hb,hl,y⟩:=T;obtain⟨d,hd⟩:=vg.1 U;obtain⟨V,l',A,B,_⟩:=Vc R S r;split at e
    .rename_i L;subst L;split at e
     .rename_i W;injection e with e;simp only[si]at e;obtain⟨rfl,rfl⟩:=e;obtain⟨b',c',rfl,X⟩:=hs.YC;have M:len<=c':=by
       cases hs<;>grind
      have aa:l'=[]:=Yi (by rw[<-A.1,y];simp);subst aa;have:=ac2 (P:=P) ty I q u hd (base:=b') (sLen:=len) (sCap:=c') (w':=w) (V w) B M (by cases b'<;>simp[storeCells]);exact⟨m,_,w,this,R,.refl _ _,qL0 _,hs⟩
     .cases e
    .rename_i L;split at e
     .rename_i N;split at e
      .rename_i id off;split at e
       .rename_i aC;split at e
        .rename_i o c hold p;split at e
         .rename_i f;injection e with e;simp only[si]at e;obtain⟨rfl,rfl⟩:=e;have g:=tF _ _ _ _ hold;have ae:=hs;cases hs with
          |flat hf=>grind[flat]
          |slice _ _=>omega
          |empty=>grind[UNK]
          |@buf _ _ _ k cap' a' D W ha=>
           have hk:k=UA P el:=NH;subst hk;by_cases a:len+n<=cap'
           .obtain⟨rfl,aD⟩:=ha.resolve_right NH;obtain⟨C,ce,lo,hi,O,aH,aJ,aK,aL,ag⟩:=R.own id _ p;have ai:l'.length=n*UA P el:=by rw[<-A.1,y]
            have hmul:len*UA P el+n*UA P el<=cap'*UA P el:=by rw[<-aiL];exact Gg _ a
            obtain⟨w',aN,aj,al,aq,ar⟩:=HG P (m id).blk ce lo hi l' 0 ((m id).base+off+len*UA P el) C w O hGr (A.zK l) ag;have i:=ac2 (P:=P) ty I q u hd (base:=Z ⟨(m id).blk,(m id).base+off,Y⟩) (sLen:=len) (sCap:=cap') (w':=w') (V w) B a (by grind[agQ]);have aP:(m id).base+off+len*UA P el+l'.length<=C.toList.length:=hGr;have Q:(acC C ((m id).base+off+len*UA P el+0) l').toList=C.toList.take ((m id).base+off+len*UA P el)++l'++C.toList.drop ((m id).base+off+len*UA P el+l'.length):=by grind[GC,IW]
            obtain⟨H,E,av⟩:=R.abN _ (AR.own D) hold;have F:(C.toList.drop ((m id).base+off)).take (len*UA P el)=H:=by
             apply wI;intro j;by_cases hj:j<len*UA P el
             .have ay:j<H.length:=by rw[<-E.1,g];exact hj
              have:=av j H[j] (XJ ay);rw[agQ]at this;simp only[World.cell?,O]at this;grind
             .rw[mJ (by simp;omega),mJ (by rw[<-E.1,g];omega)]
            have G:=R.Dd (w':=w') (id:=id) p (C':=acC C ((m id).base+off+len*UA P el+0) l') (e:=ce) (lo:=lo) (hi:=hi) (base:=(m id).base+off) (c2:=o++news)
             aj (by grind[afB])
             (by grind[AK.zK])
             (by grind[afB])
             (by grind[afB])
             (by
              have:((acC C ((m id).base+off+len*UA P el+0) l').toList.drop ((m id).base+off)).take (o++news).length=H++l':=by
               rw[Q,bC,List.drop_append_of_le_length hGr];have e1:(C.toList.take ((m id).base+off+len*UA P el)).drop ((m id).base+off)=H:=by rw[<-F,qL226];grind
               rw[e1,aaf,g,y,<-bC];have e2:len*UA P el+n*UA P el=(H++l').length:=by rw[aaf,<-E.1,g,ai]
               grind
              grind[AK.append])
             al aq ar
            refine⟨_,_,w',i,G,Qq _ _ _,afJ _,?_⟩
            have hv:=VR.buf (n:=h.next+1) (m:=upd m h.next ⟨(m id).blk,(m id).base+off,(m id).lim⟩) (id:=h.next) (off:=0) (len:=len+n) (k:=UA P el) (cap':=cap') (a':=⟨(m id).blk,(m id).base+off,Y⟩) (afC _) a
             (.inl ⟨by grind[zf],by grind[zf]⟩)
            exact hv
           .exact Jq R I q u hd hz J K ae S r hold l f hb hl y g hGr (.inr ⟨id,rfl⟩)
         .cases e
        .cases e
       .cases e
      .cases e
     .rename_i N;split at e
      .rename_i a;split at e
       .rename_i id off;split at e
        .rename_i c p;split at e
         .rename_i aF;injection e with e;simp only[si]at e;obtain⟨rfl,rfl⟩:=e;cases hs with
          |flat hf=>grind[flat]
          |buf _ _ _=>omega
          |empty=>omega
          |slice D T=>obtain⟨w',hw,R'⟩:=Rel.jW P news l' 0 R (off:=off+len*UA P el) p hGr A (A.zK l);have i:=ac2 (P:=P) ty I q u hd (base:=Z ⟨(m id).blk,(m id).base+off,Y⟩) (sLen:=len) (sCap:=cap) (w':=w') (V w) B a (by grind[agQ]);exact⟨m,_,w',i,hGr,.refl _ _,qL0 _,.slice D T⟩
         .cases e
        .cases e
       .cases e
      .rename_i a;split at e
       .rename_i o hold;split at e
        .rename_i f;injection e with e;simp only[si]at e;obtain⟨rfl,rfl⟩:=e;have g:o.length=len*UA P el:=by
          cases base<;>grind[VR.mh,GB,tF]
         refine Jq R I q u hd hz J K hs S r hold l f hb hl y g ?_ (.inl rfl);intro b c az;subst az;cases hs<;>grind
        .cases e
       .cases e
   .cases e
  .cases e
 .cases e
end
end Go.Fw
