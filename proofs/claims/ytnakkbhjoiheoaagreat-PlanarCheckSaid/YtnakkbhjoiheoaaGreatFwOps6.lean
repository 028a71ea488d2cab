/- A text. -/
import Derived.Laws.BytesString
import Derived.Test.YtnakkbhjoiheoaaGreatFwOps3
set_option linter.all false
set_option maxRecDepth 99999
set_option maxHeartbeats 9999999
open Option renaming some→Z,none→Y
open Bool renaming true→tT,false→fF
open Go.Value renaming slice→sL
open Go renaming Value→vV
namespace Go.Fw
section
variable{W0:LA}{m:abd}{h:aai}{w:World}
def afj:vV->Option Nat
 |.slice _ n _=>Z n
 |.string s=>Z s.size
 |_=>Y
def Ak{n:Nat}{m:abd}{P:Program}{x x':vV}{k:Nat}(a:VR n m x x')(e:afj x=Z k)(w:World):(Builtin.lenOf x').run P w=.ok k w:=by
 unfold afj at e;split at e
 .injection e with e;subst e;obtain⟨a',c',rfl,_⟩:=a.YC;simp[Builtin.lenOf]
 .injection e with e;subst e;have:=a.EK;subst this;simp[Builtin.lenOf]
 .cases e
def afE(h:aai)(size n:Nat)(x:vV):Option xLV:=
 match x with
 |.slice (Z a) len _=>if n<=len then abN h a (n*size)else Y
 |.string s=>Z ((s.data.toList.take n).map fun b=>.int .u8 b.toNat)
 |_=>Y
def Y8(R:Rel W0 m h w){P:Program}{size n:Nat}{x x':vV}{l:xLV}(c:VR h.next m x x')(g:n≠0)(e:afE h size n x=Z l):
  ∃l',AK h.next m l l'/\(Builtin.firstCells size n x').run P w=.ok l'.toArray w:=by
 unfold afE at e;split at e
 .split at e
  .rename_i hle;obtain⟨a',c',rfl,a⟩:=c.readable;obtain⟨l',f,h2⟩:=R.loadCells P (a.resolve_right NH) e;exact⟨l',f,by simpa[Builtin.firstCells]using h2⟩
  .cases e
 .rename_i s;injection e with e;subst e;have:=c.EK;subst this;refine⟨_,AK.flat ?_,?_⟩
  .rw[DF];intro v d;rw[Eh]at d;obtain⟨b,_,rfl⟩:=d;rfl
  .simp only[Builtin.firstCells,Sem.run_pure];congr 1;apply adP.1;simp[ByteArray.data_extract,qL233,List.extract_eq_take_drop]
 .cases e
def afo(P:Program)(h:aai)(t:TypeId)(dst src:vV):Option (vV×aai):=
 match P.underlying t,dst,afj src with
 |some (.slice e),.slice base a _,Z sLen=>
  if(P.underlying e).isSome then
   if min sLen a=0/\UA P e≠0 then Z (.int .i64 0,h)
   else
    match base,afE h (UA P e) (min sLen a) src with
    |some ⟨id,off,Y⟩,Z l=>
     match h.own id with
     |some (.cells c)=>if off+l.length<=c.length/\l.all (·.oneCell')/\min sLen a≠0 then Z (.int .i64 (min sLen a:Nat),h.put id (.cells (putCells c off l)))else Y
     |_=>Y
    |_,_=>Y
  else Y
 |_,_,_=>Y
theorem aCopy_ok{P:Program}(R:Rel W0 m h w){t:TypeId}{ats:Array TypeId}(g:ats[0]?=Z t){ty:TypeId}{d s y p v:vV}{h':aai}(hd:VR h.next m d y)(hs:VR h.next m s p)(e:afo P h t d s=Z (v,h')):
  OK P W0 m h w (Builtin.copy_ ats ty #[y,p]) v h':=by
 unfold afo at e;split at e
 .rename_i el base a z sLen A b;split at e
  .rename_i q;obtain⟨I,i⟩:=vg.1 q;have B:=Ak (P:=P) hs b;split at e
   .rename_i r;obtain⟨r,D⟩:=r;injection e with e;simp only[si]at e;obtain⟨rfl,rfl⟩:=e;obtain⟨a',c',rfl,_⟩:=hd.YC;have hf:(Builtin.firstCells (UA P el) 0 p).run P w=.ok #[] w:=by
     unfold afj at b;split at b
     .obtain⟨E,F,rfl,_⟩:=hs.YC;cases E<;>simp[Builtin.firstCells,Go.loadCells,loadCellsFrom]
     .have:=hs.EK;subst this;simp only[Builtin.firstCells,Sem.run_pure];congr 1;apply adP.1;simp
     .cases b
    refine OK.pure R ⟨.int .i64 0,?_,.flat rfl⟩;unfold Builtin.copy_;simp only[g,ah1,Bn,CG,Sem.run_bind,run_underlying A,Result.andThen_ok,B,IT i];rw[show Nat.min sLen a=0 from r,hf];cases a'<;>simp[storeCells,goInt]
   .split at e
    .rename_i id off l u;split at e
     .rename_i c j;split at e
      .rename_i G;obtain⟨C,k,x⟩:=G;injection e with e;simp only[si]at e;obtain⟨rfl,rfl⟩:=e;obtain⟨l',n,o⟩:=Y8 R (P:=P) hs x u;obtain⟨a',c',rfl,f⟩:=hd.readable;have f:=f.resolve_right NH;cases f with
       |own H=>obtain⟨w',hw,R'⟩:=Rel.jW P l l' 0 R (off:=off) j hGr n (n.zK k);refine⟨m,(min sLen a:Nat),w',?_,hGr,.refl _ _,qL0 _,.flat rfl⟩;unfold Builtin.copy_;simp only[g,ah1,Bn,CG,Sem.run_bind,run_underlying A,Result.andThen_ok,B,IT i];rw[show Nat.min sLen a=min sLen a from rfl,o];simp only[Result.andThen_ok,hw,Sem.run_pure,goInt]
      .cases e
     .cases e
    .cases e
  .cases e
 .cases e
def aeh(P:Program)(h:aai)(t:TypeId)(x:vV):Option vV:=
 match P.underlying t,x with
 |some .string,.string s=>Z (.int .i64 s.size)
 |some (.array n _),_=>Z (.int .i64 n)
 |some (.slice _),.slice _ n _=>Z (.int .i64 n)
 |some (.map _ _),.map Y=>Z (.int .i64 0)
 |some (.map _ _),.map (Z r)=>match h.own r with|some (.map es)=>Z (.int .i64 es.length)|_=>Y
 |_,_=>Y
def Rel.mD(R:Rel W0 m h w){r:Nat}{es:List (vV×vV)}(b:h.own r=Z (.map es)){P:Program}:
  ∃E clock,w.heap[(m r).blk]?=Z (.map E clock)/\(getObj (m r).blk).run P w=.ok (.map E clock) w/\AK h.next m (es.map (·.1)) (E.toList.map (·.key))/\AK h.next m (es.map (·.2)) (E.toList.map (·.val)):=by
 obtain⟨E,clock,a,h2,h3,-⟩:=R.own r _ b;exact⟨E,clock,a,by simp[getObj,Sem.run,a],h2,h3⟩
def Rel.born(R:Rel W0 m h w){r:Nat}{es:List (vV×vV)}(b:h.own r=Z (.map es)){E:Array MapEntry}{clock:Nat}(hb:w.heap[(m r).blk]?=Z (.map E clock)):aek E clock:=by obtain⟨E',clock',a,h2,h3,c⟩:=R.own r _ b;rw[hb]at a;injection a with a;injection a with a d;subst a d;exact c
theorem aek.push{E:Array MapEntry}{clock:Nat}(b:aek E clock)(k v:vV):aek (E.push {key:=k,val:=v,born:=clock}) (clock+1):=by
 obtain⟨rfl,h⟩:=b;refine⟨Ma,fun i a e=>?_⟩;rw[Array.getElem?_push]at e;split at e
 .rename_i hi;injection e with e;subst e;exact hi.symm
 .exact h i a e
def aek.modify{E:Array MapEntry}{clock:Nat}(b:aek E clock)(j:Nat)(f:MapEntry->MapEntry)(hf:∀a,(f a).born=a.born):aek (E.modify j f) clock:=by
 obtain⟨rfl,h⟩:=b;refine⟨Ma,fun i a e=>?_⟩;rw[akp]at e;split at e
 .cases c:E[i]? with
  |none=>rw[c]at e;cases e
  |some x=>rw[c]at e;injection e with e;subst e;rw[hf];exact h i x c
 .exact h i a e
theorem aLen_rel(R:Rel W0 m h w){P:Program}{t:TypeId}{x x' v:vV}{ats:Array TypeId}(b:ats[0]?=Z t){ty:TypeId}(f:VR h.next m x x')(e:aeh P h t x=Z v):
  ∃v',(Builtin.len_ ats ty #[x']).run P w=.ok v' w/\VR h.next m v v':=by
 unfold aeh at e;split at e
 .rename_i s d;injection e with e;subst e;have:=f.EK;subst this;exact⟨_,by simp[Builtin.len_,b,run_underlying d,goInt],.flat rfl⟩
 .rename_i n el d;injection e with e;subst e;refine⟨n,?_,.flat rfl⟩;unfold Builtin.len_;simp only[b,ah1,Bn,Sem.run_bind,run_underlying d,Result.andThen_ok,Sem.run_pure,goInt]
 .rename_i el a n c d;injection e with e;subst e;obtain⟨a',c',rfl,_⟩:=f.YC;exact⟨_,by simp[Builtin.len_,b,run_underlying d,goInt],.flat rfl⟩
 .rename_i d;injection e with e;subst e;cases f with|flat _=>exact⟨_,by simp[Builtin.len_,b,run_underlying d,goInt],.flat rfl⟩
 .rename_i r d;split at e
  .rename_i es g;injection e with e;subst e;cases f with
   |flat hf=>grind[flat]
   |map j=>
    obtain⟨E,clock,_,i,h2,_⟩:=R.mD (P:=P) g;have hlen:E.size=es.length:=by have:=h2.1;grind
    exact⟨es.length,by simp[Builtin.len_,b,run_underlying d,i,goInt,hlen],.flat rfl⟩
  .cases e
 .cases e
def agw:vV->xLV->Option vV
 |x,[]=>Z x
 |.int k a,.int c b::r=>if k=c then agw (.int k (if b<a then b else a)) r else Y
 |_,_=>Y
def LZ:vV->xLV->Option vV
 |x,[]=>Z x
 |.int k a,.int c b::r=>if k=c then LZ (.int k (if b>a then b else a)) r else Y
 |_,_=>Y
theorem TZ{n:Nat}{m:abd}{P:Program}:∀(r c:xLV){x x' v:vV},VR n m x x'->AK n m r c->agw x r=Z v->∀w,∃v',(c.foldlM Builtin.min2 x').run P w=.ok v' w/\VR n m v v'
 |[],c,x,x',v,f,d,e,w=>by have:c=[]:=Yi (by rw[<-d.1];rfl);subst this;simp[agw]at e;subst e;exact⟨x',Ma,f⟩
 |y::r,[],x,x',v,f,d,e,w=>by grind[AK]
 |y::r,i::c,x,x',v,f,d,e,w=>by
  have j:VR n m y i:=d.2 0 y i rfl rfl;have g:AK n m r c:=by simpa using d.drop 1
  cases x<;>cases y<;>simp only[agw]at e<;>try cases e
  split at e
  .rename_i k a p b l;subst l;have:=f.Ja;subst this;have:=j.Ja;subst this;obtain⟨v',o,h2⟩:=TZ r c (.flat rfl) g e w;exact⟨v',by simp only[List.foldlM_cons,Builtin.min2,Sem.run_bind,Sem.run_pure,Result.andThen_ok];exact o,h2⟩
  .cases e
theorem td{n:Nat}{m:abd}{P:Program}:∀(r c:xLV){x x' v:vV},VR n m x x'->AK n m r c->LZ x r=Z v->∀w,∃v',(c.foldlM Builtin.max2 x').run P w=.ok v' w/\VR n m v v'
 |[],c,x,x',v,f,d,e,w=>by have:c=[]:=Yi (by rw[<-d.1];rfl);subst this;simp[LZ]at e;subst e;exact⟨x',Ma,f⟩
 |y::r,[],x,x',v,f,d,e,w=>by grind[AK]
 |y::r,i::c,x,x',v,f,d,e,w=>by
  have j:VR n m y i:=d.2 0 y i rfl rfl;have g:AK n m r c:=by simpa using d.drop 1
  cases x<;>cases y<;>simp only[LZ]at e<;>try cases e
  split at e
  .rename_i k a p b l;subst l;have:=f.Ja;subst this;have:=j.Ja;subst this;obtain⟨v',o,h2⟩:=td r c (.flat rfl) g e w;exact⟨v',by simp only[List.foldlM_cons,Builtin.max2,Sem.run_bind,Sem.run_pure,Result.andThen_ok];exact o,h2⟩
  .cases e
def ago:xLV->Option RZ
 |[]=>Z []
 |.int .u8 n::r=>match ago r with|some l=>Z (n::l)|none=>Y
 |_=>Y
theorem Tb:∀(l:xLV)(a:RZ),ago l=Z a->l=a.map (vV.int .u8)
 |[],a,h=>by grind[ago]
 |v::l,a,h=>by
  unfold ago at h;split at h
  .grind
  .rename_i n r e;injection e with b c;subst b;subst c;split at h
   .rename_i r d;injection h with h;subst h;simp[Tb l r d]
   .cases h
  .cases h
def HC(a:RZ):ByteArray:=⟨(a.map fun n=>UInt8.ofNat n.toNat).toArray⟩
def foldl_push:∀(a:RZ)(b:ByteArray),a.foldl (fun r n=>r.push (UInt8.ofNat n.toNat)) b=⟨b.data++(a.map fun n=>UInt8.ofNat n.toNat).toArray⟩
 |[],b=>by simp
 |n::a,b=>by rw[Dj,foldl_push a];apply ByteArray.ext;simp[ByteArray.push]
theorem AK.af2{n:Nat}{m:abd}:∀{l l':xLV},AK n m l l'->(∀v∈l,∀v',VR n m v v'->v'=v)->l'=l
 |[],l',h,_=>Yi (by rw[<-h.1];rfl)
 |v::l,[],h,_=>by grind[AK]
 |v::l,v'::l',h,hf=>by rw[hf v Ma v' (h.2 0 v v' rfl rfl),AK.af2 (l:=l) (l':=l') (by simpa using h.drop 1) (fun u a=>hf u (by simp[a]))]
def acX(P:Program)(h:aai)(src dst:TypeId)(x:vV):Option (vV×aai):=
  match P.underlying src,P.underlying dst,x with
  |some _,Z (.int k),.int _ n=>Z (.int k (aaY k n),h)
  |some _,Z .string,.string s=>Z (.string s,h)
  |some (.slice e),Z .string,.slice a len _=>
    match P.underlying e,a with
    |some (.int .u8),Y=>Z (.string .empty,h)
    |some (.int .u8),Z a=>match abN h a len with
      |some l=>match ago l with|some c=>Z (.string (HC c),h)|none=>Y
      |none=>Y
    |_,_=>Y
  |some .string,Z (.slice e),.string s=>
    match P.underlying e with
    |some (.int .u8)=>if s.size<=1000000/\UA P e=1 then Z (sL (Z h.next) s.size (UNK+1),h.alloc (.cells (s.data.toList.map fun b=>.int .u8 b.toNat)))else Y
    |_=>Y
  |some (.slice _),Z (.slice e),sL (Z ⟨id,_,Y⟩) _ cap=>
    match P.underlying e,h.own id with
    |some (.int .u8),Z (.cells _)=>if(src==dst)=tT/\cap<UNK/\0<cap then Z (x,h)else Y
    |_,_=>Y
  |_,_,_=>Y
theorem Rel.freeze(R:Rel W0 m h w){id:Nat}{c:xLV}(k:h.own id=Z (.cells c)){C:Array vV}{e:TypeId}{lo hi:Nat}(hb:w.heap[(m id).blk]?=Z (.cells C e (lo,hi))):
  Rel W0 m h (w.freeze ⟨(m id).blk,C.size,Y⟩ 1):=by
 have g:h.own id≠Y:=by rw[k];simp
 have q:¬((1:Nat)=0):=NH;have d:∀b,b≠(m id).blk->(w.freeze ⟨(m id).blk,C.size,Y⟩ 1).heap[b]?=w.heap[b]?:=fun b x=>by simp only[World.freeze,q,if_false,akp];grind
 refine⟨by simpa[World.freeze]using R.size,fun b y=>?_,R.ext,R.lt,R.new,fun i o hi=>?_,R.inj,R.os,R.output,R.tape,R.aah.put (fun _ hi=>hi) (fun b _ hb=>d b (fun e=>hb id g e.symm))⟩
 .grind[Rel.new,Rel.qi]
 .by_cases r:i=id
  .subst r;rw[k]at hi;injection hi with hi;subst hi;obtain⟨C',e',z,A,j,s,t,u,v,B⟩:=R.own i _ k;rw[hb]at j;injection j with j;injection j with l n f;injection f with f p;subst l n f p
   have a:(w.freeze ⟨(m i).blk,C.size,Y⟩ 1).heap[(m i).blk]?=Z (.cells C e (if lo==hi then(C.size,C.size+1)else(min lo C.size,max hi (C.size+1)))):=by simp only[World.freeze,q,if_false,akp,if_true,hb,uu]
   by_cases el:lo=hi
   .subst el;rw[IE Ma]at a;exact⟨C,e,C.size,C.size+1,a,s,t,u,v,fun i hi=>⟨hGr,NH⟩⟩
   .rw[yM hGr]at a;refine⟨C,e,_,_,a,s,t,u,v,fun i hi=>⟨?_,hGr⟩⟩;have E:=(B i hi).2;have D:C.size<=lo:=hGr;grind
  .exact Rel.JP (R.own i o hi) (qL0 _) (ZK.refl _ _) (d _ (fun e=>r (R.inj i id (by rw[hi];simp) g e)))
theorem uD(w:World)(C:Array vV)(e:TypeId):((w.alloc (.cells C e)).freeze ⟨w.heap.size,C.size,Y⟩ 1)=w.alloc (.cells C e (C.size,C.size+1)):=by
 have d:¬((1:Nat)=0):=NH;have c:((w.alloc (.cells C e)).freeze ⟨w.heap.size,C.size,Y⟩ 1).heap=(w.alloc (.cells C e (C.size,C.size+1))).heap:=by
  simp only[World.freeze,d,if_false];apply qL197;intro j;simp only[akp];by_cases f:w.heap.size=j
  .grind[Go.heap_alloc_new]
  .rw[yM f];by_cases g:j<w.heap.size
   .grind[Go.heap_alloc_old]
   .rw[qL219 (by show(w.heap.push _).size<=j;simp;omega),qL219 (by show(w.heap.push _).size<=j;simp;omega)]
 have:∀a b:World,a.heap=b.heap->a.tape=b.tape->a.drawn=b.drawn->a.os=b.os->a.output=b.output->a=b:=by intro a b i h2 h3 k l;cases a;cases b;simp_all
 exact this _ _ c rfl rfl rfl rfl
theorem Mu{P:Program}(R:Rel W0 m h w){src dst:TypeId}{x x' v:vV}{h':aai}(hx:VR h.next m x x')(e:acX P h src dst x=Z (v,h')) :
    OK P W0 m h w (convert src dst x') v h':=by
  unfold acX at e
  split at e
  · rename_i ds k k0 n hs hd
    injection e with e; simp only [Prod.mk.injEq] at e; obtain ⟨rfl,rfl⟩:=e
    have:=hx.Ja; subst this
    refine OK.pure R ⟨.int k (aaY k n),?_,.flat rfl⟩
    unfold convert
    simp only [Sem.run_bind,run_underlying hs,run_underlying hd,Result.andThen_ok]
    cases ds <;> simp [Conv.intToInt,Qt]
  · rename_i ds s hs hd
    injection e with e; simp only [Prod.mk.injEq] at e; obtain ⟨rfl,rfl⟩:=e
    have:=hx.EK; subst this
    refine OK.pure R ⟨.string s,?_,.flat rfl⟩
    unfold convert
    simp only [Sem.run_bind,run_underlying hs,run_underlying hd,Result.andThen_ok]
    cases ds <;> simp
  · rename_i el a len c hs hd
    split at e
    · rename_i hel
      injection e with e; simp only [Prod.mk.injEq] at e; obtain ⟨rfl,rfl⟩:=e
      obtain ⟨rfl,rfl,rfl⟩:=hx.mh
      refine OK.pure R ⟨.string .empty,?_,.flat rfl⟩
      unfold convert
      simp only [Sem.run_bind,run_underlying hs,run_underlying hd,run_underlying hel,Result.andThen_ok,Conv.bytesToString,Sem.run_pure]
    · rename_i a hel
      split at e
      · rename_i l hl
        split at e
        · rename_i ns hns
          injection e with e; simp only [Prod.mk.injEq] at e; obtain ⟨rfl,rfl⟩:=e
          have hlist:=Tb _ _ hns
          obtain ⟨l',h1,h2⟩:=R.firstCells (P:=P) (size:=1) hx (l:=l) (by grind[GB])
          obtain ⟨a',c',rfl,har⟩:=hx.readable
          have hl':l'=l:=h1.af2 (by
            grind[VR.Ja])
          subst hl'
          have hrun:=run_bytesToString (P:=P) w a' len c' ns (by rw [← hlist]; simpa [Builtin.firstCells] using h2)
          refine OK.pure R ⟨.string (HC ns),?_,.flat rfl⟩
          unfold convert
          simp only [Sem.run_bind,run_underlying hs,run_underlying hd,run_underlying hel,Result.andThen_ok]
          rw [hrun,foldl_push]
          simp [HC]
        · cases e
      · cases e
    · cases e
  · rename_i el s hs hd
    split at e
    · rename_i hel
      split at e
      · rename_i hc
        obtain ⟨hsz,hts⟩:=hc
        injection e with e; simp only [Prod.mk.injEq] at e; obtain ⟨rfl,rfl⟩:=e
        have:=hx.EK; subst this
        generalize hC:(Question.appendCap s.size 0 el).cut (w.tape w.drawn (.appendCap s.size 0 el))=cap
        have hcap:s.size≤cap:=by rw [← hC]; simp [Question.cut]
        have hCU:cap < UNK:=by
          have h1:cap≤maxLen:=by rw [← hC]; exact grownCap_le_maxLen w s.size 0 el (by unfold maxLen; omega)
          have h2:maxLen < UNK:=by decide
          omega
        have hvr:AK h.next m (s.data.toList.map fun b=>vV.int .u8 b.toNat) ((s.data.map (fun b=>vV.int .u8 b.toNat)++Array.replicate (cap - s.size) (vV.int .u8 0)).toList.take (s.data.toList.map fun b=>vV.int .u8 b.toNat).length):=by
          have:(s.data.map (fun b=>vV.int .u8 b.toNat)++Array.replicate (cap - s.size) (vV.int .u8 0)).toList.take (s.data.toList.map fun b=>vV.int .u8 b.toNat).length=s.data.toList.map fun b=>vV.int .u8 b.toNat:=by
            grind[Array.toList_map]
          rw [this]
          refine AK.flat ?_
          rw [List.all_eq_true]; intro v hv; rw [List.mem_map] at hv; obtain ⟨b,_,rfl⟩:=hv; rfl
        generalize hD:s.data.map (fun b=>vV.int .u8 b.toNat)++Array.replicate (cap - s.size) (vV.int .u8 0)=D at hvr
        have hone:∀ v∈D.toList,v.oneCell'=tT:=by
          intro v hv
          rw [← hD] at hv
          simp only [Array.toList_append,Array.toList_map,List.mem_append,List.mem_map] at hv
          rcases hv with ⟨b,_,rfl⟩ | hv
          · rfl
          · simp at hv; obtain ⟨_,rfl⟩:=hv; rfl
        have hsize:D.size=cap:=by
          rw [← hD]
          simp only [Array.size_append,Array.size_map,Array.size_replicate]
          have:s.data.size=s.size:=rfl
          omega
        have hlen:(s.data.toList.map fun b=>vV.int .u8 b.toNat).length=s.size:=by simp
        have R2:Rel W0 (upd m h.next ⟨w.heap.size,0,D.size⟩) (h.alloc (.cells (s.data.toList.map fun b=>vV.int .u8 b.toNat))) (w.drew.alloc (.cells D el (D.size,D.size+1))):=by
          refine R.drew.add ⟨w.heap.size,0,D.size⟩ _ (by show w.heap.size≤(w.heap.push _).size; simp) (fun b _ hb=>heap_alloc_old w.drew _ b hb) R.size (fun i hi hx=>?_) ?_ rfl rfl ⟨rfl,Nat.le_refl _⟩
          · grind[Rel.Hc]
          · exact ⟨D,el,D.size,D.size+1,heap_alloc_new w.drew _,rfl,by grind,by grind,hone,fun i hi=>⟨by grind,by omega⟩⟩
        refine ⟨_,sL (Z w.heap.size) s.size cap,_,?_,R2,Qq _ _ _,Nat.le_succ _,?_⟩
        · unfold convert
          simp only [Sem.run_bind,run_underlying hs,run_underlying hd,run_underlying hel,Result.andThen_ok,Conv.stringToBytes,run_choose]
          have hforced:(Question.appendCap s.size 0 el).forced=fF:=rfl
          simp only [hforced,Bool.false_eq_true,if_false,Result.andThen_ok,hC,hD,newRow,Sem.run_bind,run_newObj,Sem.run_pure,markStringish,run_shape]
          have e2:({ heap:=w.heap.push (.cells D el),tape:=w.tape,drawn:=w.drawn+1,os:=w.os,output:=w.output } : World)=w.drew.alloc (.cells D el):=rfl
          rw [e2]
          have hsh:(w.drew.alloc (.cells D el)).shape? w.heap.size=Z (el,D.size):=by
            have:=heap_alloc_new w.drew (.cells D el)
            simp only [World.shape?]; grind
          simp only [hsh,run_freeze,Result.andThen_ok]
          have:=uD w.drew D el
          rw [show w.heap.size=w.drew.heap.size from rfl,this]
        · have:=VR.buf (n:=h.next+1) (m:=upd m h.next ⟨w.heap.size,0,D.size⟩) (id:=h.next) (off:=0) (len:=s.size) (k:=1) (cap':=cap) (a':=⟨w.heap.size,0,Y⟩) (Nat.lt_succ_self _) hcap
            (.inl ⟨by rw [zf],by grind[zf]⟩)
          exact this
      · cases e
    · cases e
  · rename_i es el id off len cap hs hd
    split at e
    · rename_i c hel ho
      split at e
      · rename_i hc
        obtain ⟨hsd,hcu,hc0⟩:=hc
        injection e with e; simp only [Prod.mk.injEq] at e; obtain ⟨rfl,rfl⟩:=e
        obtain ⟨C,e',lo,hi,q1,_⟩:=R.own id _ ho
        have hinv:VR h.next m (sL (Z ⟨id,off,Y⟩) len cap) (sL (Z ⟨(m id).blk,(m id).base+off,Y⟩) len cap)∧x' = sL (Z ⟨(m id).blk,(m id).base+off,Y⟩) len cap:=by
          cases hx with
          | flat h=>grind[flat]
          | slice h hc=>exact ⟨.slice h hc,rfl⟩
          | buf h hl ha=>omega
          | empty=>omega
        obtain ⟨hv,rfl⟩:=hinv
        refine ⟨m,sL (Z ⟨(m id).blk,(m id).base+off,Y⟩) len cap,w.freeze ⟨(m id).blk,C.size,Y⟩ 1,?_,R.freeze ho q1,ZK.refl _ _,Nat.le_refl _,hv⟩
        have hsh:w.shape? (m id).blk=Z (e',C.size):=by simp only [World.shape?,q1]
        unfold convert
        simp only [Sem.run_bind,run_underlying hs,run_underlying hd,run_underlying hel,Result.andThen_ok,hsd,markStringish,run_shape,hsh,run_freeze,Sem.run_pure]
      · cases e
    · cases e
  · cases e
def adA(k:IntKind)(z:Int):List (vV×vV)->Nat->Option (Option (Nat×vV))
 |[],_=>Z Y
 |(.int a z',v)::r,i=>if k=a then(if z=z' then Z (Z (i,v))else adA k z r (i+1))else Y
 |_::_,_=>Y
theorem pX{n:Nat}{m:abd}{kk k:IntKind}{z:Int}:∀(es:List (vV×vV))(E:List MapEntry)(i:Nat),AK n m (es.map (·.1)) (E.map (·.key))->AK n m (es.map (·.2)) (E.map (·.val))->∀r,adA k z es i=Z r->
  (r=Y/\Instr.findNow (.int kk) (.int k z) E i=Z Y)\/∃j v v',r=Z (j,v)/\Instr.findNow (.int kk) (.int k z) E i=Z (Z (j,v'))/\VR n m v v'/\i<=j/\(es[j-i]?).map (·.1)=Z (.int k z)
 |[],E,i,b,c,r,e=>by
  have:E=[]:=by have:=b.1;grind
  subst this;simp[adA]at e;subst e;exact .inl ⟨rfl,rfl⟩
 |(a,v)::es,[],i,b,c,r,e=>by grind[AK]
 |(a,v)::es,d::E,i,b,c,r,e=>by
  cases a<;>simp only[adA]at e<;>try cases e
  rename_i x z';have y:VR n m (.int x z') d.key:=b.2 0 _ _ rfl rfl;have h2:VR n m v d.val:=c.2 0 _ _ rfl rfl;have p:=y.Ja;split at e
  .rename_i f;subst f;split at e
   .rename_i q;subst q;injection e with e;subst e;refine .inr ⟨i,v,d.val,rfl,?_,h2,qL0 _,Ma⟩;simp[Instr.findNow,Instr.sameNow,p]
   .rename_i q;have g:AK n m (es.map (·.1)) (E.map (·.key)):=by simpa using b.drop 1
    have l:AK n m (es.map (·.2)) (E.map (·.val)):=by simpa using c.drop 1
    have o:(z==z')=fF:=hGr;have hs:Instr.findNow (.int kk) (.int k z) (d::E) i=Instr.findNow (.int kk) (.int k z) E (i+1):=by simp[Instr.findNow,Instr.sameNow,p,o]
    rcases pX es E (i+1) g l r e with⟨s,t⟩|⟨j,u,u',s,t,A,B,C⟩
    .exact .inl ⟨s,hs.trans t⟩
    grind
  .cases e
def abB(P:Program)(h:aai)(t:TypeId)(x i:vV)(ok:Bool):Option vV:=
 match P.underlying t,x,i with
 |some (.map b c),.map (Z r),.int k z=>
  match P.underlying b,h.own r,acd P c with
  |some (.int _),Z (.map es),Z a=>
   if flat a then
    match adA k z es 0 with
    |some (Z (_,v))=>Z (bif ok then .tuple #[v,.bool tT]else v)
    |some Y=>Z (bif ok then .tuple #[a,.bool fF]else a)
    |none=>Y
   else Y
  |_,_,_=>Y
 |_,_,_=>Y
def BD{P:Program}{a:TypeId}{kk k:IntKind}{z:Int}(c:P.underlying a=Z (.int kk))(b:Bool)(n:Nat)(w:World):(Instr.checkKey b (n+1) a (.int k z)).run P w=.ok () w:=by unfold Instr.checkKey;rw[Sem.run_bind,run_underlying c];simp
theorem agp{P:Program}(R:Rel W0 m h w){t:TypeId}{x i x' f v:vV}{ok:Bool}(n:VR h.next m x x')(hi:VR h.next m i f)(e:abB P h t x i ok=Z v):
  ∃v',(Instr.lookup t x' f ok).run P w=.ok v' w/\VR h.next m v v':=by
 unfold abB at e;split at e
 .rename_i p s r k z y;split at e
  .rename_i kk es g d A B;split at e
   .rename_i c;have:=hi.Ja;subst this;cases n with
    |flat hf=>grind[flat]
    |map G=>
     obtain⟨E,clock,_,C,h2,h3⟩:=R.mD (P:=P) A
     have a:(Instr.lookup t (.map (Z (m r).blk)) (.int k z) ok).run P w=((do
       let(v,o) <-match<-Instr.findKey p (.int k z) E.toList with
        |some (_,v)=>pure (v,tT)
        |none=>pure (<-zeroValue s,fF)
       pure (if ok then .tuple #[v,.bool o]else v):Sem vV)).run P w:=by
      unfold Instr.lookup;simp only[Sem.run_bind,run_underlying y,Result.andThen_ok,C,Sem.run_pure];rw[BD d];rfl
     split at e
     .rename_i j u hf;injection e with e;subst e;rcases pX (kk:=kk) es E.toList 0 h2 h3 _ hf with⟨q,_⟩|⟨D,u1,u',b,F,l,_⟩
      .cases q
      .injection b with b;simp only[si]at b;obtain⟨rfl,rfl⟩:=b
       refine⟨if ok then .tuple #[u',.bool tT]else u',?_,?_⟩
       .rw[a];simp only[Instr.findKey,Sem.run_bind,run_underlying d,Result.andThen_ok,F,Sem.run_pure]
       .cases ok
        .exact l
        .exact .qY (.cons l (.cons (.flat rfl) (.nil _ _)))
     .rename_i hf;injection e with e;subst e;rcases pX (kk:=kk) es E.toList 0 h2 h3 _ hf with⟨_,q⟩|⟨D,u1,u',b,_⟩
      .refine⟨if ok then .tuple #[g,.bool fF]else g,?_,?_⟩
       .rw[a];simp only[Instr.findKey,Sem.run_bind,run_underlying d,Result.andThen_ok,q,Sem.run_pure,rn B]
       .cases ok
        .exact .flat c
        .exact .qY (.cons (.flat c) (.cons (.flat rfl) (.nil _ _)))
      .cases b
     .cases e
   .cases e
  .cases e
 .cases e
def acM(P:Program)(h:aai)(t:TypeId)(x i v:vV):Option aai:=
 match P.underlying t,x,i with
 |some (.map a _),.map (Z r),.int k z=>
  match P.underlying a,h.own r with
  |some (.int _),Z (.map es)=>
   match adA k z es 0 with
   |some (Z (j,_))=>Z (h.put r (.map (es.set j (.int k z,v))))
   |some Y=>Z (h.put r (.map (es++[(.int k z,v)])))
   |none=>Y
  |_,_=>Y
 |_,_,_=>Y
theorem Rel.HF(R:Rel W0 m h w){r:Nat}{es f:List (vV×vV)}{E E':Array MapEntry}{clock clock':Nat}(p:h.own r=Z (.map es))(hb:w.heap[(m r).blk]?=Z (.map E clock))(q:AK h.next m (f.map (·.1)) (E'.toList.map (·.key)))(s:AK h.next m (f.map (·.2)) (E'.toList.map (·.val)))(hB:aek E' clock'):
  Rel W0 m (h.put r (.map f)) {w with heap:=w.heap.setIfInBounds (m r).blk (.map E' clock')}:=by
 have l:h.own r≠Y:=by rw[p];simp
 have a:∀i,(h.put r (.map f)).own i≠Y->h.own i≠Y:=by grind[aai.By]
 have t:(m r).blk<w.heap.size:=(iU.1 hb).1;have g:∀b,b≠(m r).blk->(w.heap.setIfInBounds (m r).blk (.map E' clock'))[b]?=w.heap[b]?:=fun b u=>by grind
 refine⟨by simpa using R.size,fun b sZ=>?_,R.ext,fun i d=>R.lt i (a i d),fun i d=>R.new i (a i d),fun i o c=>?_,fun i j d n=>R.inj i j (a i d) (a j n),R.os,R.output,R.tape,R.aah.put a (fun b _ hb=>g b (fun e=>hb r l e.symm))⟩
 .grind[Rel.new,Rel.qi]
 .by_cases k:i=r
  .subst k;rw[aai.Y3]at c;injection c with c;subst c;exact⟨E',clock',hGr,q,s,hB⟩
  .rw[aai.By _ _ _ _ k]at c;exact Rel.JP (R.own i o c) (qL0 _) (ZK.refl _ _) (g _ (fun e=>k (R.inj i r hGr l e)))
theorem run_setObj_map{P:Program}{w:World}{r:Nat}{es:Array MapEntry}{clock:Nat}(o:Obj)(hb:w.heap[r]?=Z (.map es clock)):(setObj r o).run P w=.ok () {w with heap:=w.heap.setIfInBounds r o}:=by simp[setObj,Sem.run,hb]
theorem Um{P:Program}(R:Rel W0 m h w){t:TypeId}{x i v x' g v':vV}{h':aai}(p:VR h.next m x x')(hi:VR h.next m i g)(s:VR h.next m v v')(e:acM P h t x i v=Z h'):
  ∃w',(Instr.mapUpdate t x' g v').run P w=.ok () w'/\Rel W0 m h' w'/\h'.next=h.next:=by
 unfold acM at e;split at e
 .rename_i H I r k z l;split at e
  .rename_i kk es d b;have:=hi.Ja;subst this;cases p with
   |flat hf=>grind[flat]
   |map J=>
    obtain⟨E,clock,hb,n,h2,h3⟩:=R.mD (P:=P) b;split at e
    .rename_i j u hf;injection e with e;subst e;rcases pX (kk:=kk) es E.toList 0 h2 h3 _ hf with⟨q,_⟩|⟨y,u1,u',a,A,K,_,B⟩
     .cases q
     .injection a with a;simp only[si]at a;obtain⟨rfl,rfl⟩:=a;rw[qL238]at B;have C:j<es.length:=by
       cases L:es[j]?<;>grind
      have hlen:E.toList.length=es.length:=by have:=h2.1;grind
      have D:j<E.size:=hGr;have hold:E[j].key=.int k z:=by have o:es[j].1=.int k z:=hGr;have:=h2.2 j (.int k z) E[j].key hGr hGr;exact this.Ja
      have f:((E[j]?).map (·.key)).getD (.int k z)=.int k z:=hGr;refine⟨_,?_,R.HF (E':=E.modify j fun c=>{c with key:=.int k z,val:=v'}) (clock':=clock) b hb ?_ ?_ ((R.born b hb).modify _ _ fun _=>rfl),rfl⟩
      .unfold Instr.mapUpdate;simp only[Sem.run_bind,run_underlying l,Result.andThen_ok,n];rw[BD d];simp only[Result.andThen_ok,Instr.findKey,Sem.run_bind,run_underlying d,A,Sem.run_pure,f];have F:(Instr.keyThatStays (.int k z) (.int k z)).run P w=.ok (.int k z) w:=by simp[Instr.keyThatStays,Instr.sameBits]
       grind[Go.Result.andThen_ok,run_setObj_map]
      .have:=h2.set j (x:=.int k z) (x':=.int k z) (.flat rfl);refine(?_:AK _ _ _ _);have o:(es.set j (.int k z,v)).map (·.1)=(es.map (·.1)).set j (.int k z):=by rw[C4]
       have G:((E.modify j fun c=>{c with key:=.int k z,val:=v'}).toList.map (·.key))=(E.toList.map (·.key)).set j (.int k z):=by apply wI;grind
       grind
      .have:=h3.set j (x:=v) (x':=v') s;have o:(es.set j (.int k z,v)).map (·.2)=(es.map (·.2)).set j v:=by rw[C4]
       have G:((E.modify j fun c=>{c with key:=.int k z,val:=v'}).toList.map (·.val))=(E.toList.map (·.val)).set j v':=by apply wI;grind
       grind
    .rename_i hf;injection e with e;subst e;rcases pX (kk:=kk) es E.toList 0 h2 h3 _ hf with⟨_,q⟩|⟨y,u1,u',a,_⟩
     .refine⟨_,?_,R.HF (E':=E.push {key:=.int k z,val:=v',born:=clock}) (clock':=clock+1) b hb ?_ ?_ ((R.born b hb).push _ _),rfl⟩
      .unfold Instr.mapUpdate;simp only[Sem.run_bind,run_underlying l,Result.andThen_ok,n];rw[BD d];simp only[Result.andThen_ok,Instr.findKey,Sem.run_bind,run_underlying d,q,Sem.run_pure];grind[run_setObj_map]
      all_goals grind[AK.append,AK.cons,AK.nil]
     .cases a
    .cases e
  .cases e
 .cases e
end
end Go.Fw
