/- A text. -/
import Derived.Test.YtkccdnmaaelbiaaGreatFwOps1
set_option linter.all false
set_option maxRecDepth 99999
set_option maxHeartbeats 9999999
namespace Go.Fw
section
variable{W0:LA}{m:aad}{h:aae}{w:World}
def abX(P:Program)(t:TypeId)(x b:Value):Option Value:=
 match P.underlying t,x,b with
 |some (.slice e),.slice (some a) len _,.int _ i=>if 0<=i/\i<(len:Int)/\(P.underlying e).isSome then some (.pointer (some (Ip a (i.toNat*UA P e))))else none
 |some (.array n e),.pointer (some a),.int _ i=>if 0<=i/\i<(n:Int)/\(P.underlying e).isSome then some (.pointer (some (Ip a (i.toNat*UA P e))))else none
 |_,_,_=>none
theorem Bb{n:Nat}{m:aad}{P:Program}{t:TypeId}{x x' u l v:Value}(y:VR n m x x')(hi:VR n m u l)(e:abX P t x u=some v)(w:World):
  ∃v',(Instr.indexAt t x' l).run P w=.ok v' w/\VR n m v v':=by
 unfold abX at e;split at e
 .rename_i el a len cap k i p;split at e
  .rename_i o;obtain⟨q,r,c⟩:=o;obtain⟨d,hd⟩:=EP.1 c;injection e with e;subst e;have:=hi.Ja;subst this;have f:=IT (P:=P) hd w;have g:0<=i/\i<(len:Int):=⟨q,r⟩;have b:∀a' c',(Instr.indexAt t (.slice (some a') len c') (.int k i)).run P w=.ok (.pointer (some (a'.add (i.toNat*UA P el)))) w:=by
    intro a' c';simp[Instr.indexAt,asIntOf,run_underlying p,g,f]
   cases y with
   |flat hf=>grind[flat]
   |slice j o=>exact⟨_,b _ _,((AR.own j).add _).ptr⟩
   |buf j z ha=>obtain⟨rfl,_⟩:=ha.resolve_right NH;exact⟨_,b _ _,((AR.own j).add _).ptr⟩
   |esl o=>exact⟨_,b _ _,(AR.ext.add _).ptr⟩
   |empty=>grind
  .cases e
 .rename_i OT el a k i p;split at e
  .rename_i o;obtain⟨q,r,c⟩:=o;obtain⟨d,hd⟩:=EP.1 c;injection e with e;subst e;have:=hi.Ja;subst this;have f:=IT (P:=P) hd w;obtain⟨a',rfl,s⟩:=y.aie;have g:0<=i/\i<(OT:Int):=⟨q,r⟩;exact⟨.pointer (some (a'.add (i.toNat*UA P el))),by simp[Instr.indexAt,asIntOf,run_underlying p,g,f,Instr.sureAddr],(s.add _).ptr⟩
  .cases e
 .cases e
def agQ(P:Program)(s:TypeId)(x:Value)(f:Nat):Option Value:=
 match P.underlying s,x with
 |some (.struct b),.pointer (some a)=>
  match b[f]? with
  |some fd=>if UA P fd.type≠0 then some (.pointer (some (Ip a fd.offset)))else none
  |none=>none
 |_,_=>none
theorem Gy{P:Program}{t:TypeId}(h:UA P t≠0)(w:World):(sizeOf t).run P w=.ok (UA P t) w:=by
 unfold UA Program.cellsOf at*;cases hi:P.info? t with
 |none=>grind
 |some i=>simp[sizeOf,typeInfo,hi]
def qd{n:Nat}{m:aad}{P:Program}{s:TypeId}{x x' v:Value}{f:Nat}(d:VR n m x x')(e:agQ P s x f=some v)(w:World):
  ∃v',(Instr.fieldAt s x' f).run P w=.ok v' w/\VR n m v v':=by
 unfold agQ at e;split at e
 .rename_i i a g;split at e
  .rename_i fd hf;split at e
   .rename_i c;injection e with e;subst e;obtain⟨a',rfl,b⟩:=d.aie;exact⟨.pointer (some (a'.add fd.offset)),by simp[Instr.fieldAt,run_underlying g,hf,Instr.sureAddr,fieldPlace,Gy c,c],(b.add _).ptr⟩
   .cases e
  .cases e
 .cases e
def alp(P:Program)(t:TypeId)(cs:Array Value)(off:Nat):Option Value:=
 match P.underlying t with
 |some d=>bif agS d then some (.agg (cs.extract off (off+UA P t)))else cs[off]?
 |none=>none
theorem FG{n:Nat}{m:aad}{P:Program}{t:TypeId}{cs a:Array Value}{off:Nat}{v:Value}(c:AK n m cs.toList a.toList)(e:alp P t cs off=some v)(w:World):
  ∃v',(part t a off).run P w=.ok v' w/\VR n m v v':=by
 unfold alp at e;split at e
 .rename_i d b;cases hd:agS d with
  |true=>simp only[hd,cond_true]at e;injection e with e;subst e;refine⟨.agg (a.extract off (off+UA P t)),by simp[part,Rk b,hd,IT b],.uk ?_⟩;grind[Array.toList_extract,AK.drop,AK.take]
  |false=>simp only[hd,cond_false]at e;obtain⟨v',f,h2⟩:=c.get (i:=off) (v:=v) (by simpa using e);exact⟨v',by simp[part,Rk b,hd,show a[off]?=some v' from by grind],h2⟩
 .cases e
def ai4(P:Program)(s:TypeId)(x:Value)(f:Nat):Option Value:=
 match P.underlying s,x with
 |some (.struct a),.agg cs=>
  match a[f]? with
  |some fd=>alp P fd.type cs fd.offset
  |none=>none
 |_,_=>none
def xy{n:Nat}{m:aad}{P:Program}{s:TypeId}{x x' v:Value}{f:Nat}(b:VR n m x x')(e:ai4 P s x f=some v)(w:World):
  ∃v',(Instr.field s x' f).run P w=.ok v' w/\VR n m v v':=by
 unfold ai4 at e;split at e
 .rename_i i cs c;split at e
  .rename_i fd hf;obtain⟨d,rfl,a⟩:=b.oJ;obtain⟨v',g,h2⟩:=FG a e w;exact⟨v',by simp[Instr.field,run_underlying c,hf,asAgg,g],h2⟩
  .cases e
 .cases e
def aiE(P:Program)(t:TypeId)(x a:Value):Option Value:=
 match P.underlying t,x,a with
 |some (.array n e),.agg cs,.int _ i=>if 0<=i/\i<(n:Int)/\(P.underlying e).isSome then alp P e cs (i.toNat*UA P e)else none
 |some .string,.string s,.int _ i=>if 0<=i then match s[i.toNat]? with|some b=>some (.int .u8 b.toNat)|none=>none else none
 |_,_,_=>none
def akl{n:Nat}{m:aad}{P:Program}{t:TypeId}{x x' p a v:Value}(q:VR n m x x')(hi:VR n m p a)(e:aiE P t x p=some v)(w:World):
  ∃v',(Instr.index t x' a).run P w=.ok v' w/\VR n m v v':=by
 unfold aiE at e;split at e
 .rename_i OT el cs k i c;split at e
  .rename_i r;obtain⟨f,u,g⟩:=r;obtain⟨d,hd⟩:=EP.1 g;have:=hi.Ja;subst this;obtain⟨y,rfl,j⟩:=q.oJ;obtain⟨v',l,h2⟩:=FG j e w;have o:0<=i/\i<(OT:Int):=⟨f,u⟩;exact⟨v',by simp[Instr.index,asIntOf,run_underlying c,o,IT hd,l],h2⟩
  .cases e
 .rename_i s k i c;split at e
  .rename_i f;split at e
   .rename_i b hb;injection e with e;subst e;have:=hi.Ja;subst this;have:=q.EK;subst this;exact⟨.int .u8 b.toNat,by simp[Instr.index,asIntOf,run_underlying c,f,hb],.flat rfl⟩
   .cases e
  .cases e
 .cases e
def ahy(x:Value)(i:Nat):Option Value:=match x with|.tuple vs=>vs[i]?|_=>none
theorem VI{n:Nat}{m:aad}{P:Program}{x x' v:Value}{i:Nat}(c:VR n m x x')(e:ahy x i=some v)(w:World):
  ∃v',(Instr.extract x' i).run P w=.ok v' w/\VR n m v v':=by
 unfold ahy at e;split at e
 .obtain⟨a,rfl,b⟩:=c.Vh;obtain⟨v',d,h2⟩:=b.get (i:=i) (v:=v) (by simpa using e);exact⟨v',by simp[Instr.extract,show a[i]?=some v' from by grind],h2⟩
 .cases e
def ajH(place:Nat->Option (Nat×Nat))(cells:List Value):List (Nat×Value)->Option (List Value)
 |[]=>some cells
 |(i,v)::rest=>
  match place i with
  |none=>none
  |some (off,size)=>if v.cells.size=size/\off+size<=cells.length then ajH place (putCells cells off v.cells.toList) rest else none
theorem fZ(vs:List Value):∀(C:Array Value)(off s:Nat),((vs.zipIdx s).foldl (fun cs (c,j)=>cs.setIfInBounds (off+j) c) C).toList=putCells C.toList (off+s) vs:=by
 induction vs with
 |nil=>intro C off s;rfl
 |cons v vs a=>intro C off s;simp only[List.zipIdx_cons,Dj,putCells];rw[a];grind
def VR.cells{n:Nat}{m:aad}{v v':Value}(h:VR n m v v'):AK n m v.cells.toList v'.cells.toList:=by
 cases h with
 |agg hs h=>exact⟨by simpa[Value.cells]using hs,fun i v v' e e'=>h i v v' (by simpa[Value.cells]using e) (by simpa[Value.cells]using e')⟩
 |@flat v hf=>
  have:v.cells=#[v]:=by cases v<;>first|rfl|simp[Fw.flat]at hf
  rw[this];exact .cons (.flat hf) (.nil _ _)
 |ptr h=>exact .cons (.ptr h) (.nil _ _)
 |adN=>exact .cons .adN (.nil _ _)
 |slice h f=>exact .cons (.slice h f) (.nil _ _)
 |buf h g ha=>exact .cons (.buf h g ha) (.nil _ _)
 |esl f=>exact .cons (.esl f) (.nil _ _)
 |empty=>exact .cons .empty (.nil _ _)
 |map h=>exact .cons (.map h) (.nil _ _)
 |func a b c d=>exact .cons (.func a b c d) (.nil _ _)
 |iface h=>exact .cons (.iface h) (.nil _ _)
 |tuple a b=>exact .cons (.tuple a b) (.nil _ _)
theorem AK.putCells{n:Nat}{m:aad}:∀{vs a:List Value}{c c':List Value}(off:Nat),AK n m c c'->AK n m vs a->AK n m (Fw.putCells c off vs) (Fw.putCells c' off a)
 |[],a,c,c',off,d,b=>by have:a=[]:=Lm (by rw[<-b.1];rfl);subst this;exact d
 |v::vs,[],c,c',off,d,b=>by grind[AK]
 |v::vs,v'::a,c,c',off,d,b=>AK.putCells (off+1) (d.set off (b.2 0 v v' rfl rfl)) (by simpa using b.drop 1)
inductive PRs (n:Nat) (m:aad):List (Nat×Value)->List (Nat×Value)->Prop
 |nil:PRs n m [] []
 |cons {i:Nat} {v v':Value} {l l':List (Nat×Value)} (h:VR n m v v') (hl:PRs n m l l'):PRs n m ((i,v)::l) ((i,v')::l')
theorem PT{n:Nat}{m:aad}(place:Nat->Option (Nat×Nat)){ps b:List (Nat×Value)}(k:PRs n m ps b):∀{c r:List Value}{C:Array Value},AK n m c C.toList->ajH place c ps=some r->
  ∃R,Instr.fill place C b=some R/\AK n m r R.toList:=by
 induction k with
 |nil=>intro c r C d e;simp[ajH]at e;subst e;exact⟨C,rfl,d⟩
 |@cons i v v' l l' o s p=>
  intro c r C d e;simp only[ajH]at e;split at e
  .cases e
  .rename_i off size f;split at e
   .rename_i hh;obtain⟨t,h2⟩:=hh;have a:=o.cells;have g:v'.cells.size=size:=by have:=a.1;grind
    have hlen:C.size=c.length:=by have:=d.1;grind
    obtain⟨R,hR,q⟩:=p (C:=v'.cells.toList.zipIdx.foldl (fun cs (c,j)=>cs.setIfInBounds (off+j) c) C) (by rw[fZ];grind[AK.putCells]) e;refine⟨R,?_,q⟩;simp only[Instr.fill,f,g];grind[Array.toList_zipIdx]
   .cases e
def OK(P:Program)(W0:LA)(m:aad)(h:aae)(w:World)(s:Sem Value)(v:Value)(h':aae):Prop:=∃a v' w',s.run P w=.ok v' w'/\Rel W0 a h' w'/\ZK h.next m a/\h.next<=h'.next/\VR h'.next a v v'
def OK.pure{P:Program}{s:Sem Value}{v:Value}(R:Rel W0 m h w)(e:∃v',s.run P w=.ok v' w/\VR h.next m v v'):OK P W0 m h w s v h:=let⟨v',a,h2⟩:=e;⟨m,v',w,a,R,.refl _ _,qL0 _,h2⟩
def ag2(P:Program)(t:TypeId):Option Value:=match P.info? t with|some i=>i.zero|none=>none
def rn{P:Program}{t:TypeId}{z:Value}(a:ag2 P t=some z)(w:World):(zeroValue t).run P w=.ok z w:=by
 unfold ag2 at a;split at a
 .rename_i i hi;simp[zeroValue,typeInfo,hi,a]
 .cases a
def IF(h:aae)(c:List Value):Option (Addr×aae):=if c.all (·.oneCell')then some (⟨h.next,0,none⟩,h.alloc (.cells c))else none
def rT{P:Program}(R:Rel W0 m h w){c C:List Value}{a:Addr}{h':aae}(e:TypeId)(f:AK h.next m c C)(b:IF h c=some (a,h')):
  ∃d a' w',(newRow e C.toArray).run P w=.ok a' w'/\Rel W0 d h' w'/\ZK h.next m d/\h.next<=h'.next/\AR h'.next d a a':=by
 unfold IF at b;split at b
 .rename_i g;injection b with b;simp only[si]at b;obtain⟨rfl,rfl⟩:=b
  refine⟨SG m h.next ⟨w.heap.size,0,C.length⟩,⟨w.heap.size,0,none⟩,w.alloc (.cells C.toArray e),by simp[newRow],R.alloc_eq e f g,Qq _ _ _,afq _,?_⟩
  have:=AR.own (n:=h.next+1) (m:=SG m h.next ⟨w.heap.size,0,C.length⟩) (id:=h.next) (off:=0) (FD _)
  rw[zf]at this;exact this
 .cases b
def agH(P:Program)(h:aae)(t:TypeId):Option (Value×aae):=
 match ag2 P t with
 |some z=>if z.cells.toList.all flat then match IF h z.cells.toList with|some (a,h')=>some (.pointer (some a),h')|none=>none else none
 |none=>none
theorem BZ{P:Program}(R:Rel W0 m h w){t:TypeId}{v:Value}{h':aae}(e:agH P h t=some (v,h')):OK P W0 m h w (Instr.alloc t true (.tuple #[])) v h':=by
 unfold agH at e;split at e
 .rename_i z c;split at e
  .rename_i hf;split at e
   .rename_i a h2 d;injection e with e;simp only[si]at e;obtain⟨rfl,rfl⟩:=e;obtain⟨f,a',w',g,h2,h3,i,j⟩:=rT (P:=P) R t (AK.flat hf) d;refine⟨f,.pointer (some a'),w',?_,h2,h3,i,j.ptr⟩;have b:(newRow t z.cells).run P w=.ok a' w':=by simpa using g
    simp[Instr.alloc,rn c,newVar,b]
   .cases e
  .cases e
 .cases e
def zF(h:aae)(x:Value):Option (Value×aae):=match IF h x.cells.toList with|some (a,h')=>some (.pointer (some a),h')|none=>none
def aBox_ok{P:Program}(R:Rel W0 m h w){t:TypeId}{x x' v:Value}{h':aae}(c:VR h.next m x x')(e:zF h x=some (v,h')):OK P W0 m h w (Instr.box t x') v h':=by
 unfold zF at e;split at e
 .rename_i a h2 d;injection e with e;simp only[si]at e;obtain⟨rfl,rfl⟩:=e;obtain⟨f,a',w',g,h2,h3,i,j⟩:=rT (P:=P) R t c.cells d;refine⟨f,.pointer (some a'),w',?_,h2,h3,i,j.ptr⟩;have b:(newRow t x'.cells).run P w=.ok a' w':=by simpa using g
  simp[Instr.box,newVar,b]
 .cases e
def alq(P:Program)(t:TypeId):Option (Nat->Option (Nat×Nat)):=
 match P.underlying t with
 |some (.struct a)=>if a.toList.all (fun f=>(P.underlying f.type).isSome)then some (fun i=>(a.map (fun f=>(f.offset,UA P f.type)))[i]?)else none
 |some (.array _ e)=>if(P.underlying e).isSome then some (fun i=>some (i*UA P e,UA P e))else none
 |_=>none
def ag1(P:Program)(t:TypeId)(parts:List (Nat×Value)):Option Value:=
 match ag2 P t,alq P t with
 |some z,some pl=>if z.cells.toList.all flat then match ajH pl z.cells.toList parts with|some r=>some (.agg r.toArray)|none=>none else none
 |_,_=>none
def run_places{P:Program}(w:World):∀(a:List Field),a.all (fun f=>(P.underlying f.type).isSome)=true->
  (a.mapM (m:=Sem) fun f=>do pure (f.offset,<-sizeOf f.type)).run P w=.ok (a.map (fun f=>(f.offset,UA P f.type))) w
 |[],_=>by simp
 |f::a,h=>by simp only[aeD,rY]at h;obtain⟨d,hd⟩:=EP.1 h.1;simp only[List.mapM_cons,Sem.run_bind,IT hd,Result.andThen_ok,Sem.run_pure,run_places w a h.2,U9]
theorem WX{n:Nat}{m:aad}{P:Program}{t:TypeId}{ps b:List (Nat×Value)}{v:Value}(l:PRs n m ps b)(e:ag1 P t ps=some v)(w:World):
  ∃v',(Instr.build t b.toArray).run P w=.ok v' w/\VR n m v v':=by
 unfold ag1 at e;split at e
 .rename_i z pl o a;split at e
  .rename_i hf;split at e
   .rename_i r p;injection e with e;subst e;unfold alq at a;split at a
    .rename_i g i;split at a
     .rename_i c;injection a with a;subst a;obtain⟨R,hR,j⟩:=PT _ l (AK.flat hf) p
      have q:(Array.mapM (m:=Sem) (fun f=>do pure (f.offset,<-sizeOf f.type)) g).run P w=.ok (g.map (fun f=>(f.offset,UA P f.type))) w:=by have:=run_places (P:=P) w g.toList c;rw[qL191,map_eq_pure_bind,Sem.run_bind,this];simp only[Result.andThen_ok,Sem.run_pure];congr 1;grind
      refine⟨.agg R,?_,.uk pw⟩;simp only[Instr.build,Sem.run_bind,rn o,Result.andThen_ok,run_underlying i,q];rw[hR];simp
     .cases a
    .rename_i OT el i;split at a
     .rename_i k;obtain⟨d,hd⟩:=EP.1 k;injection a with a;subst a;obtain⟨R,hR,j⟩:=PT _ l (AK.flat hf) p;refine⟨.agg R,?_,.uk pw⟩;simp only[Instr.build,Sem.run_bind,rn o,Result.andThen_ok,run_underlying i,IT hd];rw[hR];simp
     .cases a
    .cases a
   .cases e
  .cases e
 .cases e
def abB(P:Program)(h:aae)(t:TypeId)(len:Nat)(parts:List (Nat×Value)):Option (Value×aae):=
 match P.underlying t with
 |some (.slice e)=>
  match ag2 P e with
  |some z=>
   if z.cells.toList.all flat/\z.cells.size=UA P e/\(P.underlying e).isSome/\len*UA P e<=1000000/\len<=1000000 then
    match ajH (fun i=>some (i*UA P e,UA P e)) (ahh z.cells.toList len) parts with
    |some r=>match IF h r with|some (a,h')=>some (.slice (some a) len len,h')|none=>none
    |none=>none
   else none
  |none=>none
 |_=>none
theorem Mg{P:Program}(R:Rel W0 m h w){t:TypeId}{len:Nat}{ps b:List (Nat×Value)}{v:Value}{h':aae}(o:PRs h.next m ps b)(e:abB P h t len ps=some (v,h')):OK P W0 m h w (Instr.buildSlice t len b.toArray) v h':=by
 unfold abB at e;split at e
 .rename_i el p;split at e
  .rename_i z q;split at e
   .rename_i s;obtain⟨hf,c,f,hlen,g⟩:=s;obtain⟨d,hd⟩:=EP.1 f;split at e
    .rename_i r u;split at e
     .rename_i a h2 x;injection e with e;simp only[si]at e;obtain⟨rfl,rfl⟩:=e;have n:=MI z.cells len (len*UA P el) (by rw[c]);obtain⟨C,y,j⟩:=PT (C:=(Array.range (len*UA P el)).map (fun i=>z.cells[i%z.cells.size]!)) _ o (by grind[AK.flat,Ew]) u;obtain⟨A,a',w',B,h2,h3,D,E⟩:=rT (P:=P) R el j x;have k:(newRow el C).run P w=.ok a' w':=by simpa using B
      have l:len<UNK:=by grind[UNK]
      refine⟨A,.slice (some a') len len,w',?_,h2,h3,D,E.slice l⟩;have F:¬(2^24<len*UA P el):=NH;simp only[Instr.buildSlice,Sem.run_bind,run_underlying p,Result.andThen_ok,IT hd];rw[aal pw];split
      .grind[Go.Sem.run_bind,Go.Sem.run_pure,Go.Result.andThen_ok]
      .simp only[Sem.run_bind,Sem.run_pure,Result.andThen_ok,rn q,y,k]
     .cases e
    .cases e
   .cases e
  .cases e
 .cases e
def acs(P:Program)(h:aae)(t:TypeId)(a x:Value):Option aae:=
 match a with
 |.pointer (some ⟨id,off,none⟩)=>
  match h.own id with
  |some (.cells c)=>
   if x.cells.size=UA P t/\(P.underlying t).isSome/\off+x.cells.size<=c.length/\x.cells.toList.all (·.oneCell')then
    some (h.put id (.cells (putCells c off x.cells.toList)))
   else none
  |_=>none
 |_=>none
theorem VR.Pn{n:Nat}{m:aad}{v v':Value}(h:VR n m v v'):v'.cells.size=v.cells.size:=by have:=h.cells.1;grind
theorem alM{P:Program}(R:Rel W0 m h w){t:TypeId}{a a' x x':Value}{h':aae}(ha:VR h.next m a a')(f:VR h.next m x x')(e:acs P h t a x=some h'):
  ∃w',(Instr.storeAt t a' x').run P w=.ok () w'/\Rel W0 m h' w'/\h'.next=h.next:=by
 unfold acs at e;split at e
 .rename_i id off;split at e
  .rename_i c g;split at e
   .rename_i i;obtain⟨l,h2,h3,j⟩:=i;obtain⟨d,hd⟩:=EP.1 h2;injection e with e;subst e;cases ha with
    |flat hf=>grind[flat]
    |ptr k=>
     have b:x'.cells.size=UA P t:=by grind[VR.Pn]
     obtain⟨w',hw,R'⟩:=Rel.jW P x.cells.toList x'.cells.toList 0 R g (by simpa using h3) f.cells (f.cells.zK j);refine⟨w',?_,pw,rfl⟩;simp[Instr.storeAt,Instr.sureAddr,storeVar,IT hd,b,hw]
   .cases e
  .cases e
 .cases e
def afD(P:Program)(h:aae)(t:TypeId)(l c:Value):Option (Value×aae):=
 match P.underlying t,l,c with
 |some (.slice e),.int _ l,.int _ c=>
  match ag2 P e with
  |some z=>
   if z.cells.toList.all flat/\z.cells.size=UA P e/\(P.underlying e).isSome/\0<=l/\l<=c/\(P.bytesOf e:Int)*c<=140737488355328/\c<=140737488355328 then
    match IF h (ahh z.cells.toList c.toNat)with
    |some (a,h')=>some (.slice (some a) l.toNat c.toNat,h')
    |none=>none
   else none
  |none=>none
 |_,_,_=>none
theorem info_of_underlying{P:Program}{t:TypeId}{d:TypeDesc}(a:P.underlying t=some d):∃i,P.info? t=some i/\P.bytesOf t=i.bytes/\UA P t=i.size:=by
 unfold Program.underlying at a;cases hi:P.info? t with
 |none=>grind
 |some i=>exact⟨i,rfl,by simp[Program.bytesOf,hi],by simp[UA,Program.cellsOf,hi]⟩
theorem ZU{P:Program}(R:Rel W0 m h w){t:TypeId}{l l' c c' v:Value}{h':aae}(x:VR h.next m l l')(y:VR h.next m c c')(e:afD P h t l c=some (v,h')):OK P W0 m h w (Instr.makeSlice t l' c') v h':=by
 unfold afD at e;split at e
 .rename_i el k li k2 ci A;split at e
  .rename_i z B;split at e
   .rename_i b;obtain⟨hf,j,n,H,I,hb,C⟩:=b;obtain⟨d,hd⟩:=EP.1 n;obtain⟨i,hi,o,D⟩:=info_of_underlying hd;split at e
    .rename_i a h2 E;injection e with e;simp only[si]at e;obtain⟨rfl,rfl⟩:=e;have:=x.Ja;subst this;have:=y.Ja;subst this;have f:=MI z.cells ci.toNat (ci.toNat*UA P el) (by rw[j]);obtain⟨F,a',w',g,p,q,r,s⟩:=rT (P:=P) R el (AK.flat (Ew _ _ hf ci.toNat)) E;have u:(newRow el ((Array.range (ci.toNat*UA P el)).map (fun i=>z.cells[i%z.cells.size]!))).run P w=.ok a' w':=by rw[<-f]at g;exact g
     refine⟨F,.slice (some a') li.toNat ci.toNat,w',?_,p,q,r,s.slice (by grind[UNK])⟩;have w1:IntKind.i64.wrap li=li:=by rw[<-Qt];grind[ie]
     have G:IntKind.i64.wrap ci=ci:=by rw[<-Qt];grind[ie]
     rw[o]at hb;have n1:¬(ci<0):=NH;have J:(i.bytes:Int)*ci<=281474976710656:=NH;have n3:¬(li<0):=NH;have K:¬(ci<li):=NH;simp only[Instr.makeSlice,Sem.run_bind,run_underlying A,Result.andThen_ok,asInt,asIntOf,Sem.run_pure,typeInfo,run_program,hi,w1,G];rw[aal pw];simp only[Sem.run_bind,run_askRoom,Result.andThen_ok,IT hd];split
     .grind[Go.Sem.run_bind,Go.Sem.run_pure,Go.Result.andThen_ok]
     .simp only[Sem.run_bind,Sem.run_pure,Result.andThen_ok,rn B,u]
    .cases e
   .cases e
  .cases e
 .cases e
def ahf:TypeDesc->Bool
 |.int _=>false
 |_=>true
theorem ahi{P:Program}{t xt e:TypeId}{dx d:TypeDesc}(ty:TypeId)(f:P.underlying t=some (.slice e))(g:P.underlying xt=some dx)(i:ahf dx=true)(hd:P.underlying e=some d){base:Option Addr}{sLen sCap n:Nat}{x':Value}{new:Array Value}{w w':World}(k:(Builtin.lenOf x').run P w=.ok n w)(c:(Builtin.firstCells (UA P e) n x').run P w=.ok new w)(b:sLen+n<=sCap)(j:(match base with|some a=>(storeCells (a.add (sLen*UA P e)) new.toList)|none=>pure ()).run P w=.ok () w'):
  (Builtin.append_ #[t,xt] ty #[.slice base sLen sCap,x']).run P w=.ok (.slice base (sLen+n) sCap) w':=by
 unfold Builtin.append_;simp only[Dk,aa3,Bn,Sem.run_bind,run_underlying f,Result.andThen_ok,IT hd,Sem.run_pure,run_underlying g];grind[ahf,Go.Result.andThen_ok,Go.Sem.run_bind,Go.Sem.run_pure]
theorem yD{P:Program}{t xt e:TypeId}{dx d:TypeDesc}(ty:TypeId){z:Value}(q:P.underlying t=some (.slice e))(r:P.underlying xt=some dx)(s:ahf dx=true)(hd:P.underlying e=some d)(u:ag2 P e=some z){base:Option Addr}{sLen sCap n:Nat}{x':Value}{qi new:Array Value}{w:World}(v:(Builtin.lenOf x').run P w=.ok n w)(c:(Builtin.firstCells (UA P e) n x').run P w.drew=.ok new w.drew)(hold:(Builtin.firstCells (UA P e) sLen (.slice base sLen sCap)).run P w.drew=.ok qi w.drew)(b:sCap<sLen+n)(hb:(sLen+n)*P.bytesOf e<=140737488355328)(A:sLen+n<=140737488355328):
  (Builtin.append_ #[t,xt] ty #[.slice base sLen sCap,x']).run P w=.ok (.slice (some ⟨w.heap.size,0,none⟩) (sLen+n) (grownCap w (sLen+n) sCap e))
   (w.drew.alloc (.cells (qi++new++Builtin.zeroCells z.cells (grownCap w (sLen+n) sCap e-(sLen+n))) e)):=by
 obtain⟨i,hi,f,x⟩:=info_of_underlying hd;rw[f]at hb;have p:=growslice_fits b hb;have g:¬(sLen+n<=sCap):=NH;have j:¬(((sLen+n:Nat):Int)>IntKind.i64.max):=by simp[IntKind.max,IntKind.signed,IntKind.bits];omega
 have l:¬(Builtin.nextslicecap (sLen+n) sCap*i.bytes>2^48):=NH;have a:(Question.appendCap (sLen+n) sCap e).forced=false:=rfl;have o:∀w,(typeInfo e).run P w=.ok i w:=fun w=>by simp[typeInfo,hi]
 unfold Builtin.append_;simp only[Dk,aa3,Bn,Sem.run_bind,run_underlying q,Result.andThen_ok,IT hd,Sem.run_pure,run_underlying r];cases dx
 case int k=>grind[ahf]
 all_goals
  simp only[akd,if_false,v,Result.andThen_ok,g,Sem.run_bind,Sem.run_pure,ams,if_true,o,j,false_and,l,run_choose,a,run_askRoom];have y:({w with drawn:=w.drawn+1}:World)=w.drew:=rfl;rw[y,hold];simp only[Result.andThen_ok,c,rn u,newRow,Sem.run_bind,run_newObj,Sem.run_pure];rfl
def agM(P:Program)(h:aae)(e:TypeId)(x:Value):Option (Nat×List Value):=
 match x with
 |.slice none n _=>if n=0 then some (0,[])else none
 |.slice (some a) n _=>match agK h a (n*UA P e)with|some l=>some (n,l)|none=>none
 |.string s=>some (s.size,s.data.toList.map fun b=>.int .u8 b.toNat)
 |_=>none
theorem VR.readable{n:Nat}{m:aad}{a:Addr}{len cap:Nat}{v':Value}(h:VR n m (.slice (some a) len cap) v'):
  ∃a' cap',v'=.slice (some a') len cap'/\(AR n m a a'\/len=0):=by
 cases h with
 |flat h=>simp[Fw.flat]at h
 |slice b c=>exact⟨_,_,rfl,.inl (.own b)⟩
 |buf b d ha=>exact⟨_,_,rfl,by rcases ha with⟨rfl,_⟩|e;exact .inl (.own b);grind⟩
 |esl c=>exact⟨_,_,rfl,.inl .ext⟩
 |empty=>grind
theorem VR.mh{n:Nat}{m:aad}{len cap:Nat}{v':Value}(h:VR n m (.slice none len cap) v'):v'=.slice none 0 0/\len=0/\cap=0:=by
 cases h with
 |flat h=>simp[Fw.flat]at h;obtain⟨rfl,rfl⟩:=h;exact⟨rfl,rfl,rfl⟩
def GB(h:aae)(size:Nat)(base:Option Addr)(len:Nat):Option (List Value):=
 match base with
 |some a=>agK h a (len*size)
 |none=>some []
def Rel.firstCells(R:Rel W0 m h w){P:Program}{a:Option Addr}{len cap size:Nat}{l:List Value}{x':Value}(d:VR h.next m (.slice a len cap) x')(c:GB h size a len=some l):∃l',AK h.next m l l'/\(Builtin.firstCells size len x').run P w=.ok l'.toArray w:=by
 cases a with
 |none=>obtain⟨rfl,rfl,rfl⟩:=d.mh;simp[GB]at c;subst c;exact⟨[],.nil _ _,by simp[Builtin.firstCells]⟩
 |some a=>
  obtain⟨a',cap',rfl,b⟩:=d.readable;simp only[GB]at c;rcases b with b|e
  .obtain⟨l',f,h2⟩:=R.loadCells P b c;exact⟨l',f,by simpa[Builtin.firstCells]using h2⟩
  .subst e;simp[Fw.agK]at c;subst c;exact⟨[],.nil _ _,by simp[Builtin.firstCells,Go.loadCells,loadCellsFrom]⟩
theorem Vc(R:Rel W0 m h w){P:Program}{e:TypeId}{x x':Value}{n:Nat}{l:List Value}(d:VR h.next m x x')(hs:agM P h e x=some (n,l)):
  (∀w,(Builtin.lenOf x').run P w=.ok n w)/\∃l',AK h.next m l l'/\(Builtin.firstCells (UA P e) n x').run P w=.ok l'.toArray w/\(x'≠.string ByteArray.empty->True):=by
 unfold agM at hs;split at hs
 .split at hs
  .rename_i i;subst i;simp at hs;obtain⟨rfl,rfl⟩:=hs;obtain⟨l',f,h2⟩:=R.firstCells (P:=P) (size:=UA P e) d (l:=[]) rfl;obtain⟨rfl,_,_⟩:=d.mh;exact⟨fun w=>by simp[Builtin.lenOf],l',f,h2,fun _=>trivial⟩
  .cases hs
 .rename_i a k c;split at hs
  .rename_i l0 j;simp at hs;obtain⟨rfl,rfl⟩:=hs;obtain⟨l',f,h2⟩:=R.firstCells (P:=P) (size:=UA P e) d (l:=l0) j;obtain⟨a',cap',rfl,o⟩:=d.readable;exact⟨fun w=>by simp[Builtin.lenOf],l',f,h2,fun _=>trivial⟩
  .cases hs
 .rename_i s;simp at hs;obtain⟨rfl,rfl⟩:=hs;have:=d.EK;subst this;refine⟨fun w=>by simp[Builtin.lenOf],s.data.toList.map (fun b=>.int .u8 b.toNat),AK.flat ?_,?_,fun _=>trivial⟩
  .rw[DF];intro v g;simp at g;obtain⟨b,_,rfl⟩:=g;rfl
  .have:s.extract 0 s.size=s:=by
    apply ByteArray.ext;simp
   simp only[Builtin.firstCells,Sem.run_pure,this];congr 1;grind
 .cases hs
def adg(P:Program)(h:aae)(t xt:TypeId)(s x:Value):Option (Value×aae):=
 match P.underlying t,P.underlying xt,s with
 |some (.slice e),some dx,.slice base len cap=>
  match ag2 P e,agM P h e x with
  |some z,some (n,news)=>
   if z.cells.size=UA P e/\z.cells.toList.all (·.oneCell')/\(P.underlying e).isSome/\ahf dx/\news.all (·.oneCell')/\(len+n)*P.bytesOf e<=140737488355328/\len+n<=140737488355328/\news.length=n*UA P e then
    if n=0 then(if len<=cap then some (s,h)else none)
    else if UNK<=cap then
     match base with
     |some ⟨id,off,none⟩=>
      if cap=UNK+UA P e then
       match agK h ⟨id,off,none⟩ (len*UA P e),h.own id with
       |some a,some (.cells _)=>if a.all (·.oneCell')then some (.slice (some ⟨h.next,0,none⟩) (len+n) cap,(h.kill id).alloc (.cells (a++news)))else none
       |_,_=>none
      else none
     |_=>none
    else if len+n<=cap then
     match base with
     |some ⟨id,off,none⟩=>
      match h.own id with
      |some (.cells c)=>if off+len*UA P e+news.length<=c.length then some (.slice base (len+n) cap,h.put id (.cells (putCells c (off+len*UA P e) news)))else none
      |_=>none
     |_=>none
    else
     match GB h (UA P e) base len with
     |some a=>if a.all (·.oneCell')then some (.slice (some ⟨h.next,0,none⟩) (len+n) (UNK+UA P e),h.alloc (.cells (a++news)))else none
     |none=>none
   else none
  |_,_=>none
 |_,_,_=>none
theorem Jq{P:Program}(R:Rel W0 m h w){t xt e ty:TypeId}{dx d:TypeDesc}{z:Value}(O:P.underlying t=some (.slice e))(B:P.underlying xt=some dx)(D:ahf dx=true)(hd:P.underlying e=some d)(Q:ag2 P e=some z)(S:z.cells.size=UA P e)(E:z.cells.toList.all (·.oneCell')=true){base:Option Addr}{len cap n:Nat}{x x' F:Value}{news a:List Value}{f:aae}(hs:VR h.next m (.slice base len cap) F)(T:VR h.next m x x')(s:agM P h e x=some (n,news))(hold:GB h (UA P e) base len=some a)(N:news.all (·.oneCell')=true)(G:a.all (·.oneCell')=true)(hb:(len+n)*P.bytesOf e<=140737488355328)(U:len+n<=140737488355328)(H:news.length=n*UA P e)(I:a.length=len*UA P e)(i:∀b c,F=.slice b len c->c<len+n)(J:f=h\/∃id,f=h.kill id):
  OK P W0 m h w (Builtin.append_ #[t,xt] ty #[F,x']) (.slice (some ⟨h.next,0,none⟩) (len+n) (UNK+UA P e)) (f.alloc (.cells (a++news))):=by
 obtain⟨V,l',j,u,_⟩:=Vc R.drew T s;obtain⟨r,l,o⟩:=R.drew.firstCells (P:=P) hs hold;obtain⟨W,c',rfl,K⟩:=hs.YC;have hg:=i W c' rfl;have g:=yD (P:=P) ty O B D hd Q (V w) u o hg hb U;generalize y:grownCap w (len+n) c' e=C at g;have X:len+n<=C:=by grind[Go.grownCap_ge]
 have aa:C<UNK:=by
  have f:C<=maxLen:=by rw[<-y];exact grownCap_le_maxLen w (len+n) c' e (by unfold maxLen;omega)
  have h2:maxLen<UNK:=by decide
  omega
 have R1:Rel W0 m f w.drew:=by grind[Rel.drew,Rel.kill]
 have p:f.next=h.next:=by rcases J with A|⟨id,A⟩<;>rw[A]<;>rfl
 have L:(Builtin.zeroCells z.cells (C-(len+n))).toList=ahh z.cells.toList (C-(len+n)):=MI _ _ _ rfl;have M:(Builtin.zeroCells z.cells (C-(len+n))).size=(C-(len+n))*UA P e:=by grind[jY]
 have R2:=R1.alloc (c:=a++news) (C:=r.toArray++l'.toArray++Builtin.zeroCells z.cells (C-(len+n))) e
  (by
   rw[p];have:(r.toArray++l'.toArray++Builtin.zeroCells z.cells (C-(len+n))).toList.take (a++news).length=r++l':=by
    have hlen:(a++news).length=(r++l').length:=by simp[l.1,j.1]
    grind
   grind[AK.append])
  (by simp[l.1,j.1])
  (by
   intro v q;simp only[Array.toList_append,yM]at q;rcases q with(q|q)|q
   .grind[AK.zK]
   .grind[AK.zK]
   .rw[L]at q;exact DF.1 (Ew _ _ E _) v q)
 refine⟨_,_,_,g,R2,by grind[Qq],by show h.next<=f.next+1;omega,?_⟩
 show VR (f.next+1) _ _ _
 have:=VR.buf (n:=f.next+1) (m:=SG m f.next ⟨w.drew.heap.size,0,(r.toArray++l'.toArray++Builtin.zeroCells z.cells (C-(len+n))).size⟩) (id:=f.next) (off:=0) (len:=len+n) (k:=UA P e) (cap':=C) (a':=⟨w.heap.size,0,none⟩) (FD _) X
  (.inl ⟨by rw[zf];rfl,by
   rw[zf];simp only[Array.size_append,List.size_toArray,M];have A:r.length=len*UA P e:=by rw[<-l.1,I]
   have e2:l'.length=n*UA P e:=by rw[<-j.1,H]
   rw[A,e2,<-WS,<-WS,show len+n+(C-(len+n))=C from by omega];grind⟩)
 grind
theorem Uk{P:Program}(R:Rel W0 m h w){t xt ty:TypeId}{s x s' x' v:Value}{h':aae}(hs:VR h.next m s s')(S:VR h.next m x x')(e:adg P h t xt s x=some (v,h')):
  OK P W0 m h w (Builtin.append_ #[t,xt] ty #[s',x']) v h':=by
 unfold adg at e;split at e
 .rename_i el dx base len cap I q;split at e
  .rename_i z n news hz r;split at e
   .rename_i T;obtain⟨J,K,U,u,l,hb,hl,y⟩:=T;obtain⟨d,hd⟩:=EP.1 U;obtain⟨V,l',A,B,_⟩:=Vc R S r;split at e
    .rename_i L;subst L;split at e
     .rename_i W;injection e with e;simp only[si]at e;obtain⟨rfl,rfl⟩:=e;obtain⟨b',c',rfl,X⟩:=hs.YC;have M:len<=c':=by
       cases hs<;>grind
      have aa:l'=[]:=Lm (by rw[<-A.1,y];simp);subst aa;have:=ahi (P:=P) ty I q u hd (base:=b') (sLen:=len) (sCap:=c') (w':=w) (V w) B M (by cases b'<;>simp[storeCells]);exact⟨m,_,w,this,R,.refl _ _,qL0 _,hs⟩
     .cases e
    .rename_i L;split at e
     .rename_i N;split at e
      .rename_i id off;split at e
       .rename_i aC;split at e
        .rename_i o c hold p;split at e
         .rename_i f;injection e with e;simp only[si]at e;obtain⟨rfl,rfl⟩:=e;have g:=tF _ _ _ _ hold;have ae:=hs;cases hs with
          |flat hf=>grind[flat]
          |slice _ _=>omega
          |empty=>grind[UNK]
          |@buf _ _ _ k cap' a' D W ha=>
           have hk:k=UA P el:=NH;subst hk;by_cases a:len+n<=cap'
           .obtain⟨rfl,aD⟩:=ha.resolve_right NH;obtain⟨C,ce,lo,hi,O,aF,aH,aJ,aK,ag⟩:=R.own id _ p;have aj:l'.length=n*UA P el:=by rw[<-A.1,y]
            have hmul:len*UA P el+n*UA P el<=cap'*UA P el:=by rw[<-WS];exact vu _ a
            obtain⟨w',aP,al,aq,ar,av⟩:=HG P (m id).blk ce lo hi l' 0 ((m id).base+off+len*UA P el) C w O pw (A.zK l) ag;have i:=ahi (P:=P) ty I q u hd (base:=some ⟨(m id).blk,(m id).base+off,none⟩) (sLen:=len) (sCap:=cap') (w':=w') (V w) B a (by grind[zn]);have aT:(m id).base+off+len*UA P el+l'.length<=C.toList.length:=pw;have Q:(ag8 C ((m id).base+off+len*UA P el+0) l').toList=C.toList.take ((m id).base+off+len*UA P el)++l'++C.toList.drop ((m id).base+off+len*UA P el+l'.length):=by grind[GC,IW]
            obtain⟨H,E,ay⟩:=R.agK _ (AR.own D) hold;have F:(C.toList.drop ((m id).base+off)).take (len*UA P el)=H:=by
             apply mJ;intro j;by_cases hj:j<len*UA P el
             .have az:j<H.length:=by rw[<-E.1,g];exact hj
              have:=ay j H[j] (yY az);rw[zn]at this;simp only[World.cell?,O]at this;grind
             .rw[qk (by simp;omega),qk (by rw[<-E.1,g];omega)]
            have G:=R.Dd (w':=w') (id:=id) p (C':=ag8 C ((m id).base+off+len*UA P el+0) l') (e:=ce) (lo:=lo) (hi:=hi) (base:=(m id).base+off) (c2:=o++news)
             al (by grind[aN])
             (by grind[AK.zK])
             (by grind[aN])
             (by grind[aN])
             (by
              have:((ag8 C ((m id).base+off+len*UA P el+0) l').toList.drop ((m id).base+off)).take (o++news).length=H++l':=by
               rw[Q,bC,List.drop_append_of_le_length pw];have e1:(C.toList.take ((m id).base+off+len*UA P el)).drop ((m id).base+off)=H:=by rw[<-F,List.drop_take];grind
               rw[e1,eR,g,y,<-bC];have e2:len*UA P el+n*UA P el=(H++l').length:=by rw[eR,<-E.1,g,aj]
               grind
              grind[AK.append])
             aq ar av
            refine⟨_,_,w',i,G,Qq _ _ _,afq _,?_⟩
            have hv:=VR.buf (n:=h.next+1) (m:=SG m h.next ⟨(m id).blk,(m id).base+off,(m id).lim⟩) (id:=h.next) (off:=0) (len:=len+n) (k:=UA P el) (cap':=cap') (a':=⟨(m id).blk,(m id).base+off,none⟩) (FD _) a
             (.inl ⟨by grind[zf],by grind[zf]⟩)
            exact hv
           .exact Jq R I q u hd hz J K ae S r hold l f hb hl y g pw (.inr ⟨id,rfl⟩)
         .cases e
        .cases e
       .cases e
      .cases e
     .rename_i N;split at e
      .rename_i a;split at e
       .rename_i id off;split at e
        .rename_i c p;split at e
         .rename_i aE;injection e with e;simp only[si]at e;obtain⟨rfl,rfl⟩:=e;cases hs with
          |flat hf=>grind[flat]
          |buf _ _ _=>omega
          |empty=>omega
          |slice D T=>obtain⟨w',hw,R'⟩:=Rel.jW P news l' 0 R (off:=off+len*UA P el) p pw A (A.zK l);have i:=ahi (P:=P) ty I q u hd (base:=some ⟨(m id).blk,(m id).base+off,none⟩) (sLen:=len) (sCap:=cap) (w':=w') (V w) B a (by grind[zn]);exact⟨m,_,w',i,pw,.refl _ _,qL0 _,.slice D T⟩
         .cases e
        .cases e
       .cases e
      .rename_i a;split at e
       .rename_i o hold;split at e
        .rename_i f;injection e with e;simp only[si]at e;obtain⟨rfl,rfl⟩:=e;have g:o.length=len*UA P el:=by
          cases base<;>grind[VR.mh,GB,tF]
         refine Jq R I q u hd hz J K hs S r hold l f hb hl y g ?_ (.inl rfl);intro b c aB;subst aB;cases hs<;>grind
        .cases e
       .cases e
   .cases e
  .cases e
 .cases e
end
end Go.Fw
