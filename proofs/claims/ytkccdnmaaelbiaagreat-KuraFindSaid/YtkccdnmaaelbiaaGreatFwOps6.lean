/- A text. -/
import Derived.Laws.BytesString
import Derived.Test.YtkccdnmaaelbiaaGreatFwOps1
set_option linter.all false
set_option maxRecDepth 99999
set_option maxHeartbeats 9999999
namespace Go.Fw
section
variable {W0 : LA} {m : rC} {h : AHeap} {w : World}
def aLenOf:Value->Option Nat
 |.slice _ n _=>some n
 |.string s=>some s.size
 |_=>none
def Ak {n:Nat} {m:rC} {P:Program} {x x':Value} {k:Nat} (a:VR n m x x') (e:aLenOf x=some k) (w:World):(Builtin.lenOf x').run P w=.ok k w:=by
 unfold aLenOf at e;split at e
 .injection e with e;subst e;obtain⟨a',c',rfl,_⟩:=a.YC;simp[Builtin.lenOf]
 .injection e with e;subst e;have:=a.EK;subst this;simp[Builtin.lenOf]
 .cases e
def firstN (h:AHeap) (size n:Nat) (x:Value):Option (List Value):=
 match x with
 |.slice (some a) len _=>if n<=len then readN h a (n*size)else none
 |.string s=>some ((s.data.toList.take n).map fun b=>.int .u8 b.toNat)
 |_=>none
def Y8 (R:Rel W0 m h w) {P:Program} {size n:Nat} {x x':Value} {l:List Value} (c:VR h.next m x x') (g:n≠0) (e:firstN h size n x=some l):
  ∃l',AK h.next m l l'/\(Builtin.firstCells size n x').run P w=.ok l'.toArray w:=by
 unfold firstN at e;split at e
 .split at e
  .rename_i hle
   obtain⟨a',c',rfl,a⟩:=c.readable;obtain⟨l',f,h2⟩:=R.loadCells P (a.resolve_right NH) e;exact⟨l',f,by simpa[Builtin.firstCells]using h2⟩
  .cases e
 .rename_i s
  injection e with e;subst e;have:=c.EK;subst this;refine⟨_,AK.flat ?_,?_⟩
  .rw[ff];intro v d;rw[Z6]at d;obtain⟨b,_,rfl⟩:=d;rfl
  .simp only [Builtin.firstCells, Sem.run_pure]
   congr 1;apply iu.1;simp[ByteArray.data_extract,qL236,List.extract_eq_take_drop]
 .cases e
def aCopy (P:Program) (h:AHeap) (t:TypeId) (dst src:Value):Option (Value×AHeap):=
 match P.underlying t,dst,aLenOf src with
 |some (.slice e),.slice base a _,some sLen=>
  if(P.underlying e).isSome then
   if min sLen a=0/\UA P e≠0 then some (.int .i64 0,h)
   else
    match base,firstN h (UA P e) (min sLen a) src with
    |some ⟨id,off,none⟩,some l=>
     match h.own id with
     |some (.cells c)=>if off+l.length<=c.length/\l.all (·.oneCell')/\min sLen a≠0 then some (.int .i64 (min sLen a:Nat),h.put id (.cells (putCells c off l)))else none
     |_=>none
    |_,_=>none
  else none
 |_,_,_=>none
theorem oq {P:Program} (R:Rel W0 m h w) {t:TypeId} {ats:Array TypeId} (g:ats[0]?=some t) {ty:TypeId} {d s y p v:Value} {h':AHeap} (hd:VR h.next m d y) (hs:VR h.next m s p) (e:aCopy P h t d s=some (v,h')):
  OK P W0 m h w (Builtin.copy_ ats ty #[y,p]) v h':=by
 unfold aCopy at e;split at e
 .rename_i el base a z sLen A b
  split at e
  .rename_i q
   obtain⟨I,i⟩:=LH.1 q;have B:=Ak (P:=P) hs b;split at e
   .rename_i r
    obtain⟨r,D⟩:=r;injection e with e;simp only[kc]at e;obtain⟨rfl,rfl⟩:=e;obtain⟨a',c',rfl,_⟩:=hd.YC;have hf:(Builtin.firstCells (UA P el) 0 p).run P w=.ok #[] w:=by
     unfold aLenOf at b;split at b
     .obtain ⟨E, F, rfl, _⟩ := hs.YC
      cases E<;>simp[Builtin.firstCells,Go.loadCells,loadCellsFrom]
     .have := hs.EK; subst this
      simp only[Builtin.firstCells,Sem.run_pure];congr 1;apply iu.1;simp
     .cases b
    refine OK.pure R ⟨.int .i64 0,?_,.flat rfl⟩;unfold Builtin.copy_;simp only[g,Dk,im,FD,Sem.run_bind,run_underlying A,Result.andThen_ok,B,IT i];rw[show Nat.min sLen a=0 from r,hf];cases a'<;>simp[storeCells,goInt]
   .split at e
    .rename_i id off l u
     split at e
     .rename_i c j
      split at e
      .rename_i G
       obtain⟨C,k,x⟩:=G;injection e with e;simp only[kc]at e;obtain⟨rfl,rfl⟩:=e;obtain⟨l',n,o⟩:=Y8 R (P:=P) hs x u;obtain⟨a',c',rfl,f⟩:=hd.readable;have f:=f.resolve_right NH;cases f with
       |own H=>
        obtain⟨w',hw,R'⟩:=Rel.jW P l l' 0 R (off:=off) j pw n (n.zK k);refine⟨m,.int .i64 (min sLen a:Nat),w',?_,pw,.refl _ _,qL0 _,.flat rfl⟩;unfold Builtin.copy_;simp only[g,Dk,im,FD,Sem.run_bind,run_underlying A,Result.andThen_ok,B,IT i];rw[show Nat.min sLen a=min sLen a from rfl,o];simp only[Result.andThen_ok,hw,Sem.run_pure,goInt]
      .cases e
     .cases e
    .cases e
  .cases e
 .cases e
def aLen (P:Program) (h:AHeap) (t:TypeId) (x:Value):Option Value:=
 match P.underlying t,x with
 |some .string,.string s=>some (.int .i64 s.size)
 |some (.array n _),_=>some (.int .i64 n)
 |some (.slice _),.slice _ n _=>some (.int .i64 n)
 |some (.map _ _),.map none=>some (.int .i64 0)
 |some (.map _ _),.map (some r)=>match h.own r with|some (.map es)=>some (.int .i64 es.length)|_=>none
 |_,_=>none
def Rel.mD (R:Rel W0 m h w) {r:Nat} {es:List (Value×Value)} (b:h.own r=some (.map es)) {P:Program}:
  ∃E clock,w.heap[(m r).blk]?=some (.map E clock)/\(getObj (m r).blk).run P w=.ok (.map E clock) w/\AK h.next m (es.map (·.1)) (E.toList.map (·.key))/\AK h.next m (es.map (·.2)) (E.toList.map (·.val)):=by
 obtain⟨E,clock,a,h2,h3,-⟩:=R.own r _ b;exact⟨E,clock,a,by simp[getObj,Sem.run,a],h2,h3⟩
def Rel.born (R:Rel W0 m h w) {r:Nat} {es:List (Value×Value)} (b:h.own r=some (.map es)) {E:Array MapEntry} {clock:Nat} (hb:w.heap[(m r).blk]?=some (.map E clock)):aek E clock:=by
 obtain⟨E',clock',a,h2,h3,c⟩:=R.own r _ b;rw[hb]at a;injection a with a;injection a with a d;subst a d;exact c
theorem aek.push {E:Array MapEntry} {clock:Nat} (b:aek E clock) (k v:Value):aek (E.push {key:=k,val:=v,born:=clock}) (clock+1):=by
 obtain⟨rfl,h⟩:=b;refine⟨Ma,fun i a e=>?_⟩;rw[Array.getElem?_push]at e;split at e
 .rename_i hi;injection e with e;subst e;exact hi.symm
 .exact h i a e
def aek.modify {E:Array MapEntry} {clock:Nat} (b:aek E clock) (j:Nat) (f:MapEntry->MapEntry) (hf:∀a,(f a).born=a.born):aek (E.modify j f) clock:=by
 obtain⟨rfl,h⟩:=b;refine⟨Ma,fun i a e=>?_⟩;rw[Ly]at e;split at e
 .cases c : E[i]? with
  |none=>rw[c]at e;cases e
  |some x=>
   rw[c]at e;injection e with e;subst e;rw[hf];exact h i x c
 .exact h i a e
theorem QK (R:Rel W0 m h w) {P:Program} {t:TypeId} {x x' v:Value} {ats:Array TypeId} (b:ats[0]?=some t) {ty:TypeId} (f:VR h.next m x x') (e:aLen P h t x=some v):
  ∃v',(Builtin.len_ ats ty #[x']).run P w=.ok v' w/\VR h.next m v v':=by
 unfold aLen at e;split at e
 .rename_i s d; injection e with e; subst e; have := f.EK; subst this
  exact⟨_,by simp[Builtin.len_,b,run_underlying d,goInt],.flat rfl⟩
 .rename_i n el d; injection e with e; subst e
  refine⟨.int .i64 n,?_,.flat rfl⟩;unfold Builtin.len_;simp only[b,Dk,im,Sem.run_bind,run_underlying d,Result.andThen_ok,Sem.run_pure,goInt]
 .rename_i el a n c d; injection e with e; subst e; obtain ⟨a', c', rfl, _⟩ := f.YC
  exact⟨_,by simp[Builtin.len_,b,run_underlying d,goInt],.flat rfl⟩
 .rename_i d; injection e with e; subst e
  cases f with|flat _=>exact⟨_,by simp[Builtin.len_,b,run_underlying d,goInt],.flat rfl⟩
 .rename_i r d
  split at e
  .rename_i es g
   injection e with e;subst e;cases f with
   |flat hf=>grind [flat]
   |map j=>
    obtain⟨E,clock,_,i,h2,_⟩:=R.mD (P:=P) g;have hlen:E.size=es.length:=by have:=h2.1;grind
    exact⟨.int .i64 es.length,by simp[Builtin.len_,b,run_underlying d,i,goInt,hlen],.flat rfl⟩
  .cases e
 .cases e
def aMin:Value->List Value->Option Value
 |x,[]=>some x
 |.int k a,.int c b::r=>if k=c then aMin (.int k (if b<a then b else a)) r else none
 |_,_=>none
def LZ:Value->List Value->Option Value
 |x,[]=>some x
 |.int k a,.int c b::r=>if k=c then LZ (.int k (if b>a then b else a)) r else none
 |_,_=>none
theorem TZ {n:Nat} {m:rC} {P:Program}:∀(r c:List Value) {x x' v:Value},VR n m x x'->AK n m r c->aMin x r=some v->∀w,∃v',(c.foldlM Builtin.min2 x').run P w=.ok v' w/\VR n m v v'
 |[],c,x,x',v,f,d,e,w=>by
  have:c=[]:=EH (by rw[<-d.1];rfl);subst this;simp[aMin]at e;subst e;exact⟨x',Ma,f⟩
 |y::r,[],x,x',v,f,d,e,w=>by grind [AK]
 |y::r,i::c,x,x',v,f,d,e,w=>by
  have j:VR n m y i:=d.2 0 y i rfl rfl;have g:AK n m r c:=by simpa using d.drop 1
  cases x<;>cases y<;>simp only[aMin]at e<;>try cases e
  split at e
  .rename_i k a p b l
   subst l;have:=f.Ja;subst this;have:=j.Ja;subst this;obtain⟨v',o,h2⟩:=TZ r c (.flat rfl) g e w;exact⟨v',by simp only[List.foldlM_cons,Builtin.min2,Sem.run_bind,Sem.run_pure,Result.andThen_ok];exact o,h2⟩
  .cases e
theorem td {n:Nat} {m:rC} {P:Program}:∀(r c:List Value) {x x' v:Value},VR n m x x'->AK n m r c->LZ x r=some v->∀w,∃v',(c.foldlM Builtin.max2 x').run P w=.ok v' w/\VR n m v v'
 |[],c,x,x',v,f,d,e,w=>by
  have:c=[]:=EH (by rw[<-d.1];rfl);subst this;simp[LZ]at e;subst e;exact⟨x',Ma,f⟩
 |y::r,[],x,x',v,f,d,e,w=>by grind [AK]
 |y::r,i::c,x,x',v,f,d,e,w=>by
  have j:VR n m y i:=d.2 0 y i rfl rfl;have g:AK n m r c:=by simpa using d.drop 1
  cases x<;>cases y<;>simp only[LZ]at e<;>try cases e
  split at e
  .rename_i k a p b l
   subst l;have:=f.Ja;subst this;have:=j.Ja;subst this;obtain⟨v',o,h2⟩:=td r c (.flat rfl) g e w;exact⟨v',by simp only[List.foldlM_cons,Builtin.max2,Sem.run_bind,Sem.run_pure,Result.andThen_ok];exact o,h2⟩
  .cases e
def allU8:List Value->Option RZ
 |[]=>some []
 |.int .u8 n::r=>match allU8 r with|some l=>some (n::l)|none=>none
 |_=>none
theorem Tb:∀(l:List Value) (a:RZ),allU8 l=some a->l=a.map (Value.int .u8)
 |[],a,h=>by grind [allU8]
 |v::l,a,h=>by
  unfold allU8 at h;split at h
  .grind
  .rename_i n r e
   injection e with b c;subst b;subst c;split at h
   .rename_i r d;injection h with h;subst h;simp[Tb l r d]
   .cases h
  .cases h
def HC (a:RZ):ByteArray:=⟨(a.map fun n=>UInt8.ofNat n.toNat).toArray⟩
def foldl_push:∀(a:RZ) (b:ByteArray),a.foldl (fun r n=>r.push (UInt8.ofNat n.toNat)) b=⟨b.data++(a.map fun n=>UInt8.ofNat n.toNat).toArray⟩
 |[],b=>by simp
 |n::a,b=>by
  rw[u3,foldl_push a];apply ByteArray.ext;simp[ByteArray.push]
theorem AK.af2 {n:Nat} {m:rC}:∀{l l':List Value},AK n m l l'->(∀v∈l,∀v',VR n m v v'->v'=v)->l'=l
 |[],l',h,_=>EH (by rw[<-h.1];rfl)
 |v::l,[],h,_=>by grind [AK]
 |v::l,v'::l',h,hf=>by rw[hf v Ma v' (h.2 0 v v' rfl rfl),AK.af2 (l:=l) (l':=l') (by simpa using h.drop 1) (fun u a=>hf u (by simp[a]))]
def aConvert (P:Program) (h:AHeap) (src dst:TypeId) (x:Value):Option (Value×AHeap):=
  match P.underlying src,P.underlying dst,x with
  |some _,some (.int k),.int _ n=>some (.int k (awrap k n),h)
  |some _,some .string,.string s=>some (.string s,h)
  |some (.slice e),some .string,.slice a len _=>
    match P.underlying e,a with
    |some (.int .u8),none=>some (.string .empty,h)
    |some (.int .u8),some a=>match readN h a len with
      |some l=>match allU8 l with|some c=>some (.string (HC c),h)|none=>none
      |none=>none
    |_,_=>none
  |some .string,some (.slice e),.string s=>
    match P.underlying e with
    |some (.int .u8)=>if s.size<=1000000/\UA P e=1 then some (.slice (some ⟨h.next,0,none⟩) s.size (RA+1),h.alloc (.cells (s.data.toList.map fun b=>.int .u8 b.toNat)))else none
    |_=>none
  |some (.slice _),some (.slice e),.slice (some ⟨id,_,none⟩) _ cap=>
    match P.underlying e,h.own id with
    |some (.int .u8),some (.cells _)=>if(src==dst)=true/\cap<RA/\0<cap then some (x,h)else none
    |_,_=>none
  |_,_,_=>none
theorem Rel.freeze (R:Rel W0 m h w) {id:Nat} {c:List Value} (k:h.own id=some (.cells c)) {C:Array Value} {e:TypeId} {lo hi:Nat} (hb:w.heap[(m id).blk]?=some (.cells C e (lo,hi))):
  Rel W0 m h (w.freeze ⟨(m id).blk,C.size,none⟩ 1):=by
 have g:h.own id≠none:=by rw[k];simp
 have q:¬((1:Nat)=0):=NH;have d:∀b,b≠(m id).blk->(w.freeze ⟨(m id).blk,C.size,none⟩ 1).heap[b]?=w.heap[b]?:=fun b x=>by
  simp only[World.freeze,q,if_false,Ly]
  grind
 refine⟨by simpa[World.freeze]using R.size,fun b y=>?_,R.ext,R.lt,R.new,fun i o hi=>?_,R.inj,R.os,R.output,R.tape,R.aah.put (fun _ hi=>hi) (fun b _ hb=>d b (fun e=>hb id g e.symm))⟩
 .grind [Rel.new,Rel.qi]
 .by_cases r : i = id
  .subst r
   rw[k]at hi;injection hi with hi;subst hi;obtain⟨C',e',z,A,j,s,t,u,v,B⟩:=R.own i _ k;rw[hb]at j;injection j with j;injection j with l n f;injection f with f p;subst l n f p
   have a:(w.freeze ⟨(m i).blk,C.size,none⟩ 1).heap[(m i).blk]?=some (.cells C e (if lo==hi then(C.size,C.size+1)else(min lo C.size,max hi (C.size+1)))):=by simp only[World.freeze,q,if_false,Ly,if_true,hb,uu]
   by_cases el:lo=hi
   .subst el
    rw[if_pos Ma]at a;exact⟨C,e,C.size,C.size+1,a,s,t,u,v,fun i hi=>⟨pw,NH⟩⟩
   .rw [if_neg pw] at a
    refine⟨C,e,_,_,a,s,t,u,v,fun i hi=>⟨?_,pw⟩⟩;have E:=(B i hi).2;have D:C.size<=lo:=pw
    grind
  .exact Rel.JP (R.own i o hi) (qL0 _) (ZK.refl _ _) (d _ (fun e=>r (R.inj i id (by rw[hi];simp) g e)))
theorem uD (w:World) (C:Array Value) (e:TypeId):((w.alloc (.cells C e)).freeze ⟨w.heap.size,C.size,none⟩ 1)=w.alloc (.cells C e (C.size,C.size+1)):=by
 have d:¬((1:Nat)=0):=NH;have c:((w.alloc (.cells C e)).freeze ⟨w.heap.size,C.size,none⟩ 1).heap=(w.alloc (.cells C e (C.size,C.size+1))).heap:=by
  simp only[World.freeze,d,if_false];apply afO;intro j;simp only[Ly];by_cases f:w.heap.size=j
  .grind [Go.heap_alloc_new]
  .rw [if_neg f]
   by_cases g:j<w.heap.size
   .grind [Go.heap_alloc_old]
   .rw[qL222 (by show(w.heap.push _).size<=j;simp;omega),qL222 (by show(w.heap.push _).size<=j;simp;omega)]
 have:∀a b:World,a.heap=b.heap->a.tape=b.tape->a.drawn=b.drawn->a.os=b.os->a.output=b.output->a=b:=by
  intro a b i h2 h3 k l;cases a;cases b;simp_all
 exact this _ _ c rfl rfl rfl rfl
theorem Mu {P:Program} (R:Rel W0 m h w) {src dst:TypeId} {x x' v:Value} {h':AHeap} (hx:VR h.next m x x') (e:aConvert P h src dst x=some (v,h')) :
    OK P W0 m h w (convert src dst x') v h':=by
  unfold aConvert at e
  split at e
  · rename_i ds k k0 n hs hd
    injection e with e; simp only [Prod.mk.injEq] at e; obtain ⟨rfl,rfl⟩:=e
    have:=hx.Ja; subst this
    refine OK.pure R ⟨.int k (awrap k n),?_,.flat rfl⟩
    unfold convert
    simp only [Sem.run_bind,run_underlying hs,run_underlying hd,Result.andThen_ok]
    cases ds <;> simp [Conv.intToInt,Qt]
  · rename_i ds s hs hd
    injection e with e; simp only [Prod.mk.injEq] at e; obtain ⟨rfl,rfl⟩:=e
    have:=hx.EK; subst this
    refine OK.pure R ⟨.string s,?_,.flat rfl⟩
    unfold convert
    simp only [Sem.run_bind,run_underlying hs,run_underlying hd,Result.andThen_ok]
    cases ds <;> simp
  · rename_i el a len c hs hd
    split at e
    · rename_i hel
      injection e with e; simp only [Prod.mk.injEq] at e; obtain ⟨rfl,rfl⟩:=e
      obtain ⟨rfl,rfl,rfl⟩:=hx.mh
      refine OK.pure R ⟨.string .empty,?_,.flat rfl⟩
      unfold convert
      simp only [Sem.run_bind,run_underlying hs,run_underlying hd,run_underlying hel,Result.andThen_ok,Conv.bytesToString,Sem.run_pure]
    · rename_i a hel
      split at e
      · rename_i l hl
        split at e
        · rename_i ns hns
          injection e with e; simp only [Prod.mk.injEq] at e; obtain ⟨rfl,rfl⟩:=e
          have hlist:=Tb _ _ hns
          obtain ⟨l',h1,h2⟩:=R.firstCells (P:=P) (size:=1) hx (l:=l) (by grind [GB])
          obtain ⟨a',c',rfl,har⟩:=hx.readable
          have hl':l'=l:=h1.af2 (by
            grind [VR.Ja])
          subst hl'
          have hrun:=run_bytesToString (P:=P) w a' len c' ns (by rw [← hlist]; simpa [Builtin.firstCells] using h2)
          refine OK.pure R ⟨.string (HC ns),?_,.flat rfl⟩
          unfold convert
          simp only [Sem.run_bind,run_underlying hs,run_underlying hd,run_underlying hel,Result.andThen_ok]
          rw [hrun,foldl_push]
          simp [HC]
        · cases e
      · cases e
    · cases e
  · rename_i el s hs hd
    split at e
    · rename_i hel
      split at e
      · rename_i hc
        obtain ⟨hsz,hts⟩:=hc
        injection e with e; simp only [Prod.mk.injEq] at e; obtain ⟨rfl,rfl⟩:=e
        have:=hx.EK; subst this
        generalize hC:(Question.appendCap s.size 0 el).cut (w.tape w.drawn (.appendCap s.size 0 el))=cap
        have hcap:s.size≤cap:=by rw [← hC]; simp [Question.cut]
        have hCU:cap < RA:=by
          have h1:cap≤maxLen:=by rw [← hC]; exact grownCap_le_maxLen w s.size 0 el (by unfold maxLen; omega)
          have h2:maxLen < RA:=by decide
          omega
        have hvr:AK h.next m (s.data.toList.map fun b=>Value.int .u8 b.toNat) ((s.data.map (fun b=>Value.int .u8 b.toNat)++Array.replicate (cap - s.size) (Value.int .u8 0)).toList.take (s.data.toList.map fun b=>Value.int .u8 b.toNat).length):=by
          have:(s.data.map (fun b=>Value.int .u8 b.toNat)++Array.replicate (cap - s.size) (Value.int .u8 0)).toList.take (s.data.toList.map fun b=>Value.int .u8 b.toNat).length=s.data.toList.map fun b=>Value.int .u8 b.toNat:=by
            grind [Array.toList_map]
          rw [this]
          refine AK.flat ?_
          rw [List.all_eq_true]; intro v hv; rw [List.mem_map] at hv; obtain ⟨b,_,rfl⟩:=hv; rfl
        generalize hD:s.data.map (fun b=>Value.int .u8 b.toNat)++Array.replicate (cap - s.size) (Value.int .u8 0)=D at hvr
        have hone:∀ v∈D.toList,v.oneCell'=true:=by
          intro v hv
          rw [← hD] at hv
          simp only [Array.toList_append,Array.toList_map,List.mem_append,List.mem_map] at hv
          rcases hv with ⟨b,_,rfl⟩ | hv
          · rfl
          · simp at hv; obtain ⟨_,rfl⟩:=hv; rfl
        have hsize:D.size=cap:=by
          rw [← hD]
          simp only [Array.size_append,Array.size_map,Array.size_replicate]
          have:s.data.size=s.size:=rfl
          omega
        have hlen:(s.data.toList.map fun b=>Value.int .u8 b.toNat).length=s.size:=by simp
        have R2:Rel W0 (SG m h.next ⟨w.heap.size,0,D.size⟩) (h.alloc (.cells (s.data.toList.map fun b=>Value.int .u8 b.toNat))) (w.drew.alloc (.cells D el (D.size,D.size+1))):=by
          refine R.drew.add ⟨w.heap.size,0,D.size⟩ _ (by show w.heap.size≤(w.heap.push _).size; simp) (fun b _ hb=>heap_alloc_old w.drew _ b hb) R.size (fun i hi hx=>?_) ?_ rfl rfl ⟨rfl,Nat.le_refl _⟩
          · grind [Rel.Hc]
          · exact ⟨D,el,D.size,D.size+1,heap_alloc_new w.drew _,rfl,by grind,by grind,hone,fun i hi=>⟨by grind,by omega⟩⟩
        refine ⟨_,.slice (some ⟨w.heap.size,0,none⟩) s.size cap,_,?_,R2,Qq _ _ _,Nat.le_succ _,?_⟩
        · unfold convert
          simp only [Sem.run_bind,run_underlying hs,run_underlying hd,run_underlying hel,Result.andThen_ok,Conv.stringToBytes,run_choose]
          have hforced:(Question.appendCap s.size 0 el).forced=false:=rfl
          simp only [hforced,Bool.false_eq_true,if_false,Result.andThen_ok,hC,hD,newRow,Sem.run_bind,run_newObj,Sem.run_pure,markStringish,run_shape]
          have e2:({ heap:=w.heap.push (.cells D el),tape:=w.tape,drawn:=w.drawn+1,os:=w.os,output:=w.output } : World)=w.drew.alloc (.cells D el):=rfl
          rw [e2]
          have hsh:(w.drew.alloc (.cells D el)).shape? w.heap.size=some (el,D.size):=by
            have:=heap_alloc_new w.drew (.cells D el)
            simp only [World.shape?]; grind
          simp only [hsh,run_freeze,Result.andThen_ok]
          have:=uD w.drew D el
          rw [show w.heap.size=w.drew.heap.size from rfl,this]
        · have:=VR.buf (n:=h.next+1) (m:=SG m h.next ⟨w.heap.size,0,D.size⟩) (id:=h.next) (off:=0) (len:=s.size) (k:=1) (cap':=cap) (a':=⟨w.heap.size,0,none⟩) (Nat.lt_succ_self _) hcap
            (.inl ⟨by rw [zf],by grind [zf]⟩)
          exact this
      · cases e
    · cases e
  · rename_i es el id off len cap hs hd
    split at e
    · rename_i c hel ho
      split at e
      · rename_i hc
        obtain ⟨hsd,hcu,hc0⟩:=hc
        injection e with e; simp only [Prod.mk.injEq] at e; obtain ⟨rfl,rfl⟩:=e
        obtain ⟨C,e',lo,hi,q1,_⟩:=R.own id _ ho
        have hinv:VR h.next m (.slice (some ⟨id,off,none⟩) len cap) (.slice (some ⟨(m id).blk,(m id).base+off,none⟩) len cap)∧x' = .slice (some ⟨(m id).blk,(m id).base+off,none⟩) len cap:=by
          cases hx with
          | flat h=>grind [flat]
          | slice h hc=>exact ⟨.slice h hc,rfl⟩
          | buf h hl ha=>omega
          | empty=>omega
        obtain ⟨hv,rfl⟩:=hinv
        refine ⟨m,.slice (some ⟨(m id).blk,(m id).base+off,none⟩) len cap,w.freeze ⟨(m id).blk,C.size,none⟩ 1,?_,R.freeze ho q1,ZK.refl _ _,Nat.le_refl _,hv⟩
        have hsh:w.shape? (m id).blk=some (e',C.size):=by simp only [World.shape?,q1]
        unfold convert
        simp only [Sem.run_bind,run_underlying hs,run_underlying hd,run_underlying hel,Result.andThen_ok,hsd,markStringish,run_shape,hsh,run_freeze,Sem.run_pure]
      · cases e
    · cases e
  · cases e
def mfind (k:IntKind) (z:Int):List (Value×Value)->Nat->Option (Option (Nat×Value))
 |[],_=>some none
 |(.int a z',v)::r,i=>if k=a then(if z=z' then some (some (i,v))else mfind k z r (i+1))else none
 |_::_,_=>none
theorem pX {n:Nat} {m:rC} {kk k:IntKind} {z:Int}:∀(es:List (Value×Value)) (E:List MapEntry) (i:Nat),AK n m (es.map (·.1)) (E.map (·.key))->AK n m (es.map (·.2)) (E.map (·.val))->∀r,mfind k z es i=some r->
  (r=none/\Instr.findNow (.int kk) (.int k z) E i=some none)\/∃j v v',r=some (j,v)/\Instr.findNow (.int kk) (.int k z) E i=some (some (j,v'))/\VR n m v v'/\i<=j/\(es[j-i]?).map (·.1)=some (.int k z)
 |[],E,i,b,c,r,e=>by
  have:E=[]:=by
   have:=b.1;grind
  subst this;simp[mfind]at e;subst e;exact .inl ⟨rfl,rfl⟩
 |(a,v)::es,[],i,b,c,r,e=>by grind [AK]
 |(a,v)::es,d::E,i,b,c,r,e=>by
  cases a<;>simp only[mfind]at e<;>try cases e
  rename_i x z';have y:VR n m (.int x z') d.key:=b.2 0 _ _ rfl rfl;have h2:VR n m v d.val:=c.2 0 _ _ rfl rfl;have p:=y.Ja;split at e
  .rename_i f
   subst f;split at e
   .rename_i q
    subst q;injection e with e;subst e;refine .inr ⟨i,v,d.val,rfl,?_,h2,qL0 _,Ma⟩;simp[Instr.findNow,Instr.sameNow,p]
   .rename_i q
    have g:AK n m (es.map (·.1)) (E.map (·.key)):=by simpa using b.drop 1
    have l:AK n m (es.map (·.2)) (E.map (·.val)):=by simpa using c.drop 1
    have o:(z==z')=false:=pw;have hs:Instr.findNow (.int kk) (.int k z) (d::E) i=Instr.findNow (.int kk) (.int k z) E (i+1):=by simp[Instr.findNow,Instr.sameNow,p,o]
    rcases pX es E (i+1) g l r e with⟨s,t⟩|⟨j,u,u',s,t,A,B,C⟩
    .exact .inl ⟨s,hs.trans t⟩
    grind
  .cases e
def aLookup (P:Program) (h:AHeap) (t:TypeId) (x i:Value) (ok:Bool):Option Value:=
 match P.underlying t,x,i with
 |some (.map b c),.map (some r),.int k z=>
  match P.underlying b,h.own r,azero P c with
  |some (.int _),some (.map es),some a=>
   if flat a then
    match mfind k z es 0 with
    |some (some (_,v))=>some (bif ok then .tuple #[v,.bool true]else v)
    |some none=>some (bif ok then .tuple #[a,.bool false]else a)
    |none=>none
   else none
  |_,_,_=>none
 |_,_,_=>none
def BD {P:Program} {a:TypeId} {kk k:IntKind} {z:Int} (c:P.underlying a=some (.int kk)) (b:Bool) (n:Nat) (w:World):(Instr.checkKey b (n+1) a (.int k z)).run P w=.ok () w:=by
 unfold Instr.checkKey;rw[Sem.run_bind,run_underlying c];simp
theorem aLookup_rel {P:Program} (R:Rel W0 m h w) {t:TypeId} {x i x' f v:Value} {ok:Bool} (n:VR h.next m x x') (hi:VR h.next m i f) (e:aLookup P h t x i ok=some v):
  ∃v',(Instr.lookup t x' f ok).run P w=.ok v' w/\VR h.next m v v':=by
 unfold aLookup at e;split at e
 .rename_i p s r k z y
  split at e
  .rename_i kk es g d A B
   split at e
   .rename_i c
    have:=hi.Ja;subst this;cases n with
    |flat hf=>grind [flat]
    |map G=>
     obtain⟨E,clock,_,C,h2,h3⟩:=R.mD (P:=P) A
     have a:(Instr.lookup t (.map (some (m r).blk)) (.int k z) ok).run P w=((do
       let(v,o) <-match<-Instr.findKey p (.int k z) E.toList with
        |some (_,v)=>pure (v,true)
        |none=>pure (<-zeroValue s,false)
       pure (if ok then .tuple #[v,.bool o]else v):Sem Value)).run P w:=by
      unfold Instr.lookup;simp only[Sem.run_bind,run_underlying y,Result.andThen_ok,C,Sem.run_pure];rw[BD d];rfl
     split at e
     .rename_i j u hf
      injection e with e;subst e;rcases pX (kk:=kk) es E.toList 0 h2 h3 _ hf with⟨q,_⟩|⟨D,u1,u',b,F,l,_⟩
      .cases q
      .injection b with b; simp only [kc] at b; obtain ⟨rfl, rfl⟩ := b
       refine⟨if ok then .tuple #[u',.bool true]else u',?_,?_⟩
       .rw [a]
        simp only[Instr.findKey,Sem.run_bind,run_underlying d,Result.andThen_ok,F,Sem.run_pure]
       .cases ok
        .exact l
        .exact .qY (.cons l (.cons (.flat rfl) (.nil _ _)))
     .rename_i hf
      injection e with e;subst e;rcases pX (kk:=kk) es E.toList 0 h2 h3 _ hf with⟨_,q⟩|⟨D,u1,u',b,_⟩
      .refine ⟨if ok then .tuple #[g, .bool false] else g, ?_, ?_⟩
       .rw [a]
        simp only[Instr.findKey,Sem.run_bind,run_underlying d,Result.andThen_ok,q,Sem.run_pure,rn B]
       .cases ok
        .exact .flat c
        .exact .qY (.cons (.flat c) (.cons (.flat rfl) (.nil _ _)))
      .cases b
     .cases e
   .cases e
  .cases e
 .cases e
def aMapSet (P:Program) (h:AHeap) (t:TypeId) (x i v:Value):Option AHeap:=
 match P.underlying t,x,i with
 |some (.map a _),.map (some r),.int k z=>
  match P.underlying a,h.own r with
  |some (.int _),some (.map es)=>
   match mfind k z es 0 with
   |some (some (j,_))=>some (h.put r (.map (es.set j (.int k z,v))))
   |some none=>some (h.put r (.map (es++[(.int k z,v)])))
   |none=>none
  |_,_=>none
 |_,_,_=>none
theorem Rel.HF (R:Rel W0 m h w) {r:Nat} {es f:List (Value×Value)} {E E':Array MapEntry} {clock clock':Nat} (p:h.own r=some (.map es)) (hb:w.heap[(m r).blk]?=some (.map E clock))
  (q:AK h.next m (f.map (·.1)) (E'.toList.map (·.key))) (s:AK h.next m (f.map (·.2)) (E'.toList.map (·.val))) (hB:aek E' clock'):
  Rel W0 m (h.put r (.map f)) {w with heap:=w.heap.setIfInBounds (m r).blk (.map E' clock')}:=by
 have l:h.own r≠none:=by rw[p];simp
 have a:∀i,(h.put r (.map f)).own i≠none->h.own i≠none:=by grind [AHeap.By]
 have t:(m r).blk<w.heap.size:=(ag1.1 hb).1;have g:∀b,b≠(m r).blk->(w.heap.setIfInBounds (m r).blk (.map E' clock'))[b]?=w.heap[b]?:=fun b u=>by grind
 refine⟨by simpa using R.size,fun b sZ=>?_,R.ext,fun i d=>R.lt i (a i d),fun i d=>R.new i (a i d),fun i o c=>?_,fun i j d n=>R.inj i j (a i d) (a j n),R.os,R.output,R.tape,R.aah.put a (fun b _ hb=>g b (fun e=>hb r l e.symm))⟩
 .grind [Rel.new,Rel.qi]
 .by_cases k : i = r
  .subst k
   rw[AHeap.Y3]at c;injection c with c;subst c;exact⟨E',clock',pw,q,s,hB⟩
  .rw [AHeap.By _ _ _ _ k] at c
   exact Rel.JP (R.own i o c) (qL0 _) (ZK.refl _ _) (g _ (fun e=>k (R.inj i r pw l e)))
theorem run_setObj_map {P:Program} {w:World} {r:Nat} {es:Array MapEntry} {clock:Nat} (o:Obj) (hb:w.heap[r]?=some (.map es clock)):(setObj r o).run P w=.ok () {w with heap:=w.heap.setIfInBounds r o}:=by simp[setObj,Sem.run,hb]
theorem Um {P:Program} (R:Rel W0 m h w) {t:TypeId} {x i v x' g v':Value} {h':AHeap} (p:VR h.next m x x') (hi:VR h.next m i g) (s:VR h.next m v v') (e:aMapSet P h t x i v=some h'):
  ∃w',(Instr.mapUpdate t x' g v').run P w=.ok () w'/\Rel W0 m h' w'/\h'.next=h.next:=by
 unfold aMapSet at e;split at e
 .rename_i H I r k z l
  split at e
  .rename_i kk es d b
   have:=hi.Ja;subst this;cases p with
   |flat hf=>grind [flat]
   |map J=>
    obtain⟨E,clock,hb,n,h2,h3⟩:=R.mD (P:=P) b;split at e
    .rename_i j u hf
     injection e with e;subst e;rcases pX (kk:=kk) es E.toList 0 h2 h3 _ hf with⟨q,_⟩|⟨y,u1,u',a,A,K,_,B⟩
     .cases q
     .injection a with a; simp only [kc] at a; obtain ⟨rfl, rfl⟩ := a
      rw[ahQ]at B;have C:j<es.length:=by
       cases L:es[j]?<;>grind
      have hlen:E.toList.length=es.length:=by have:=h2.1;grind
      have D:j<E.size:=pw;have hold:E[j].key=.int k z:=by
       have o:es[j].1=.int k z:=pw;have:=h2.2 j (.int k z) E[j].key pw pw;exact this.Ja
      have f:((E[j]?).map (·.key)).getD (.int k z)=.int k z:=pw;refine⟨_,?_,R.HF (E':=E.modify j fun c=>{c with key:=.int k z,val:=v'}) (clock':=clock) b hb ?_ ?_ ((R.born b hb).modify _ _ fun _=>rfl),rfl⟩
      .unfold Instr.mapUpdate
       simp only[Sem.run_bind,run_underlying l,Result.andThen_ok,n];rw[BD d];simp only[Result.andThen_ok,Instr.findKey,Sem.run_bind,run_underlying d,A,Sem.run_pure,f];have F:(Instr.keyThatStays (.int k z) (.int k z)).run P w=.ok (.int k z) w:=by simp[Instr.keyThatStays,Instr.sameBits]
       grind [Go.Result.andThen_ok,run_setObj_map]
      .have := h2.set j (x := .int k z) (x' := .int k z) (.flat rfl)
       refine(?_:AK _ _ _ _);have o:(es.set j (.int k z,v)).map (·.1)=(es.map (·.1)).set j (.int k z):=by rw[ac9]
       have G:((E.modify j fun c=>{c with key:=.int k z,val:=v'}).toList.map (·.key))=(E.toList.map (·.key)).set j (.int k z):=by
        apply V3
        grind
       grind
      .have := h3.set j (x := v) (x' := v') s
       have o:(es.set j (.int k z,v)).map (·.2)=(es.map (·.2)).set j v:=by rw[ac9]
       have G:((E.modify j fun c=>{c with key:=.int k z,val:=v'}).toList.map (·.val))=(E.toList.map (·.val)).set j v':=by
        apply V3
        grind
       grind
    .rename_i hf
     injection e with e;subst e;rcases pX (kk:=kk) es E.toList 0 h2 h3 _ hf with⟨_,q⟩|⟨y,u1,u',a,_⟩
     .refine ⟨_, ?_, R.HF (E' := E.push { key := .int k z, val := v', born := clock }) (clock' := clock + 1) b hb ?_ ?_ ((R.born b hb).push _ _), rfl⟩
      .unfold Instr.mapUpdate
       simp only[Sem.run_bind,run_underlying l,Result.andThen_ok,n];rw[BD d];simp only[Result.andThen_ok,Instr.findKey,Sem.run_bind,run_underlying d,q,Sem.run_pure]
       grind [run_setObj_map]
      all_goals grind [AK.append,AK.cons,AK.nil]
     .cases a
    .cases e
  .cases e
 .cases e
def keyArr (P:Program) (a:TypeId) (x:Value):Bool:=
  match P.underlying a,x with
  |some (.array len e),.agg xs=>match P.underlying e,allInts xs.toList with
    |some (.int _),some _=>UA P e==1&&xs.size==len
    |_,_=>false
  |_,_=>false
def afind (P:Program) (a:TypeId) (key:Value):List (Value×Value)->Nat->Option (Option (Nat×Value))
  |[],_=>some none
  |(k,v)::r,i=>match aEq P a key k with
    |some true=>some (some (i,v))
    |some false=>afind P a key r (i+1)
    |none=>none
def aLookupA (P:Program) (h:AHeap) (t:TypeId) (x i:Value) (ok:Bool):Option Value:=
 match P.underlying t,x with
 |some (.map b c),.map (some r)=>
  if keyArr P b i then
   match h.own r,azero P c with
   |some (.map es),some a=>
    match afind P b i es 0 with
    |some (some (_,v))=>some (bif ok then .tuple #[v,.bool true]else v)
    |some none=>if flat a then some (bif ok then .tuple #[a,.bool false]else a)else none
    |none=>none
   |_,_=>none
  else none
 |_,_=>none
def aMapSetA (P:Program) (h:AHeap) (t:TypeId) (x i v:Value):Option AHeap:=
 match P.underlying t,x with
 |some (.map a _),.map (some r)=>
  if keyArr P a i then
   match h.own r with
   |some (.map es)=>
    match afind P a i es 0 with
    |some (some (j,_))=>some (h.put r (.map (es.set j (i,v))))
    |some none=>some (h.put r (.map (es++[(i,v)])))
    |none=>none
   |_=>none
  else none
 |_,_=>none
theorem DM {n:Nat} {m:rC}:∀{l l':List Value} {a:List (IntKind×Int)},AK n m l l'->allInts l=some a->l'=l
 |[],l',a,h,_=>by
  have:l'=[]:=EH (by rw[<-h.1];rfl);rw[this]
 |v::l,[],a,h,ha=>by grind [AK]
 |v::l,v'::l',a,h,ha=>by
  have b:VR n m v v':=h.2 0 v v' rfl rfl;have c:AK n m l l':=by simpa using h.drop 1
  cases v<;>simp only[allInts]at ha<;>try cases ha
  split at ha
  .rename_i r d
   have:=b.Ja;subst this;rw[DM c d]
  .cases ha
theorem SX {P:Program} {b:TypeId} {x:Value} (c:keyArr P b x=true):
  ∃len e k xs a,P.underlying b=some (.array len e)/\x=.agg xs/\P.underlying e=some (.int k)/\allInts xs.toList=some a/\UA P e=1/\xs.size=len:=by
 unfold keyArr at c
 grind
theorem VR.vi {n:Nat} {m:rC} {xs:Array Value} {v':Value} (h:VR n m (.agg xs) v'):∃a,v'=.agg a/\AK n m xs.toList a.toList:=by
 cases h with
 |flat hf=>simp[Fw.flat]at hf
 |agg ha h=>exact⟨_,rfl,pw,fun i v v' e e'=>h i v v' (by simpa using e) pw⟩
theorem CW {P:Program} {a:TypeId} {x x':Value} {n:Nat} {m:rC} (b:keyArr P a x=true) (c:VR n m x x'):x'=x:=by grind [SX,VR.vi,DM,Array.toList_inj]
def z7 {P:Program} (f:Nat->Sem (ForInStep PUnit)):∀(n s:Nat) (w:World),(∀i w,s<=i->i<s+n->(f i).run P w=.ok (.yield PUnit.unit) w)->(forIn (m:=Sem) (List.range' s n) PUnit.unit fun i _=>f i).run P w=.ok PUnit.unit w
 |0,s,w,_=>by simp
 |n+1,s,w,hf=>by
  rw[PC];simp only[List.forIn_cons,Sem.run_bind,hf s w (qL0 _) NH,Result.andThen_ok];exact z7 f n (s+1) w fun i w a h2=>hf i w NH NH
theorem pD:∀{l:List Value} {a:List (IntKind×Int)},allInts l=some a->∀i,i<l.length->∃k z,l[i]?=some (.int k z)
 |[],_,_,i,hi=>absurd hi Ma
 |v::l,a,ha,i,hi=>by
  cases v<;>simp only[allInts]at ha<;>try cases ha
  split at ha
  .rename_i k z _ r b
   cases i with
   |zero=>grind
   |succ i=>simpa using pD b i pw
  .cases ha
theorem mo {P:Program} {g:TypeId} {x:Value} (l:keyArr P g x=true) (b:Bool) (n:Nat) (w:World):(Instr.checkKey b (n+2) g x).run P w=.ok () w:=by
 obtain⟨len,e,k,xs,a,o,rfl,c,ha,hs,p⟩:=SX l;unfold Instr.checkKey;rw[Sem.run_bind,run_underlying o];simp only[Result.andThen_ok,qL163,Std.Legacy.Range.size];rw[Sem.run_bind,z7 (P:=P) _ _ 0 w fun i w q h2=>?_]
 .simp
 .have d : i < xs.toList.length := by simp; omega
  obtain⟨j,z,hi⟩:=pD ha i d;have f:∀w,(part e xs i).run P w=.ok (.int j z) w:=fun w=>by
   have:xs[i]?=some (.int j z):=pw;simp[part,Rk c,isAggD,this]
  simp only[Sem.run_bind,IT c,hs,pQ,f,BD c,Result.andThen_ok,Sem.run_pure]
theorem aa0 {P:Program} {n:Nat} {m:rC} {c:TypeId} {key:Value} (b:VR n m key key):∀(es:List (Value×Value)) (E:List MapEntry) (i:Nat) (w:World),AK n m (es.map (·.1)) (E.map (·.key))->AK n m (es.map (·.2)) (E.map (·.val))->∀r,afind P c key es i=some r->
  (r=none/\(Instr.findAsking c key E i).run P w=.ok none w)\/∃j v v',r=some (j,v)/\(Instr.findAsking c key E i).run P w=.ok (some (j,v')) w/\VR n m v v'/\i<=j/\∃f k2,(es[j-i]?).map (·.1)=some f/\(E[j-i]?).map (·.key)=some k2/\VR n m f k2/\aEq P c key f=some true
 |[],E,i,w,g,k,r,e=>by
  have:E=[]:=by
   have:=g.1;grind
  subst this;simp[afind]at e;subst e;exact .inl ⟨rfl,by simp[Instr.findAsking]⟩
 |(a,v)::es,[],i,w,g,k,r,e=>by grind [AK]
 |(a,v)::es,d::E,i,w,g,k,r,e=>by
  have l:VR n m a d.key:=g.2 0 _ _ rfl rfl;have h2:VR n m v d.val:=k.2 0 _ _ rfl rfl;have o:AK n m (es.map (·.1)) (E.map (·.key)):=by simpa using g.drop 1
  have p:AK n m (es.map (·.2)) (E.map (·.val)):=by simpa using k.drop 1
  simp only[afind]at e;split at e
  .rename_i ha
   injection e with e;subst e;have:=jN P c key d.key (Et b l ha) w;refine .inr ⟨i,v,d.val,rfl,?_,h2,qL0 _,a,d.key,Ma,Ma,l,ha⟩;unfold Instr.findAsking
   grind [Go.Sem.run_bind,Go.Result.andThen_ok,Go.Sem.run_pure]
  .rename_i ha
   have:=jN P c key d.key (Et b l ha) w;have hs:(Instr.findAsking c key (d::E) i).run P w=(Instr.findAsking c key E (i+1)).run P w:=by
    conv=>lhs;unfold Instr.findAsking
    grind [Go.Sem.run_bind,Go.Result.andThen_ok]
   rcases aa0 b es E (i+1) w o p r e with⟨q,s⟩|⟨j,u,u',q,s,t,y,f,k2,z,A,x⟩
   .grind
   .refine .inr ⟨j, u, u', q, hs.trans s, t, NH, f, k2, ?_, ?_, x⟩
    all_goals grind
  .cases e
theorem aa2 {P:Program} {b:TypeId} {key:Value} (c:keyArr P b key=true) (E:List MapEntry) (w:World):(Instr.findKey b key E).run P w=(Instr.findAsking b key E).run P w:=by
 obtain⟨len,e,k,xs,a,d,rfl,f,ha,hs,g⟩:=SX c;unfold Instr.findKey;rw[Sem.run_bind,run_underlying d];simp only[Result.andThen_ok];cases E with
 |nil=>simp[Instr.findNow,Instr.findAsking]
 |cons i E=>simp[Instr.findNow,Instr.sameNow]
theorem qK {n:Nat} {m:rC}:∀{l:List Value} {a:List (IntKind×Int)},allInts l=some a->AK n m l l
 |[],_,_=>.nil _ _
 |v::l,a,ha=>by
  cases v<;>simp only[allInts]at ha<;>try cases ha
  split at ha
  .rename_i r b
   exact .cons (.flat rfl) (qK b)
  .cases ha
theorem Wd {P:Program} {a:TypeId} {x:Value} {n:Nat} {m:rC} (b:keyArr P a x=true):VR n m x x:=by grind [SX,VR.uk,qK]
theorem aLookupA_rel {P:Program} (R:Rel W0 m h w) {t:TypeId} {x i x' f v:Value} {ok:Bool} (l:VR h.next m x x') (hi:VR h.next m i f) (e:aLookupA P h t x i ok=some v):
  ∃v',(Instr.lookup t x' f ok).run P w=.ok v' w/\VR h.next m v v':=by
 unfold aLookupA at e;split at e
 .rename_i n p r s
  split at e
  .rename_i a
   split at e
   .rename_i es g y z
    have:=CW a hi;subst this;cases l with
    |flat hf=>grind [flat]
    |map C=>
     obtain⟨E,clock,_,A,h2,h3⟩:=R.mD (P:=P) y
     have c:(Instr.lookup t (.map (some (m r).blk)) f ok).run P w=((do
       let(v,o) <-match<-Instr.findAsking n f E.toList with
        |some (_,v)=>pure (v,true)
        |none=>pure (<-zeroValue p,false)
       pure (if ok then .tuple #[v,.bool o]else v):Sem Value)).run P w:=by
      unfold Instr.lookup;simp only[Sem.run_bind,run_underlying s,Result.andThen_ok,A,Sem.run_pure]
      grind [mo,Go.Result.andThen_ok,aa2]
     split at e
     .rename_i j u hf
      injection e with e;subst e;rcases aa0 (Wd a) es E.toList 0 w h2 h3 _ hf with⟨q,_⟩|⟨B,u1,u',b,D,k,_⟩
      .cases q
      .injection b with b; simp only [kc] at b; obtain ⟨rfl, rfl⟩ := b
       refine⟨if ok then .tuple #[u',.bool true]else u',?_,?_⟩
       .grind [Go.Sem.run_bind,Go.Result.andThen_ok,Go.Sem.run_pure]
       .cases ok
        .exact k
        .exact .qY (.cons k (.cons (.flat rfl) (.nil _ _)))
     .rename_i hf
      split at e
      .rename_i d
       injection e with e;subst e;rcases aa0 (Wd a) es E.toList 0 w h2 h3 _ hf with⟨_,q⟩|⟨B,u1,u',b,_⟩
       .refine ⟨if ok then .tuple #[g, .bool false] else g, ?_, ?_⟩
        .rw [c]
         simp only[Sem.run_bind,q,Result.andThen_ok,Sem.run_pure,rn z]
        .cases ok
         .exact .flat d
         .exact .qY (.cons (.flat d) (.cons (.flat rfl) (.nil _ _)))
       .cases b
      .cases e
     .cases e
   .cases e
  .cases e
 .cases e
theorem wN:∀{l l':List Value} {a:List (IntKind×Int)},allInts l=some a->allInts l'=some a->l=l'
 |[],[],_,_,_=>rfl
 |[],v::l',a,h,h'=>by
  simp only[allInts,acf]at h;subst h
  cases v<;>simp only[allInts]at h'<;>try cases h'
  grind
 |v::l,[],a,h,h'=>by
  simp only[allInts,acf]at h';subst h'
  cases v<;>simp only[allInts]at h<;>try cases h
  grind
 |v::l,v'::l',a,h,h'=>by
  cases v<;>simp only[allInts]at h<;>try cases h
  cases v'<;>simp only[allInts]at h'<;>try cases h'
  split at h
  .rename_i r c
   split at h'
   .rename_i f b
    injection h with h;injection h' with h';subst h;injection h' with d h2;injection d with h3 e;subst h2 h3 e;rw[wN c b]
   .cases h'
  .cases h
theorem fI {P:Program} {c:TypeId} {key b:Value} (d:keyArr P c key=true) (e:aEq P c key b=some true):b=key:=by
 obtain⟨len,el,k,xs,a,f,rfl,g,ha,hs,i⟩:=SX d
 cases b<;>simp only[aEq,f]at e<;>try cases e
 grind [wN,Array.toList_inj]
theorem tK:∀{l:List Value} {a:List (IntKind×Int)},allInts l=some a->∀n,((l.zip l).all fun(x,y)=>Instr.sameBits n x y)=true
 |[],_,_,_=>rfl
 |v::l,a,ha,n=>by
  cases v<;>simp only[allInts]at ha<;>try cases ha
  split at ha
  .rename_i k z _ r b
   have:=tK b n;have c:Instr.sameBits n (.int k z) (.int k z)=true:=by cases n<;>simp[Instr.sameBits]
   grind [List.zip_cons_cons]
  .cases ha
theorem uG {P:Program} {b:TypeId} {key:Value} (c:keyArr P b key=true) (w:World):(Instr.keyThatStays key key).run P w=.ok key w:=by
 obtain⟨len,el,k,xs,a,d,rfl,e,ha,hs,f⟩:=SX c;have:Instr.sameBits 10000 (.agg xs) (.agg xs)=true:=by
  have:=tK ha 9999;show(xs.size==xs.size&&_)=true
  grind
 unfold Instr.keyThatStays;rw[if_pos this];simp
theorem jy {P:Program} (R:Rel W0 m h w) {t:TypeId} {x i v x' f v':Value} {h':AHeap} (l:VR h.next m x x') (hi:VR h.next m i f) (n:VR h.next m v v') (e:aMapSetA P h t x i v=some h'):
  ∃w',(Instr.mapUpdate t x' f v').run P w=.ok () w'/\Rel W0 m h' w'/\h'.next=h.next:=by
 unfold aMapSetA at e;split at e
 .rename_i G H r g
  split at e
  .rename_i a
   split at e
   .rename_i es c
    have:=CW a hi;subst this;cases l with
    |flat hf=>grind [flat]
    |map I=>
     obtain⟨E,clock,hb,k,h2,h3⟩:=R.mD (P:=P) c;split at e
     .rename_i j u hf
      injection e with e;subst e;rcases aa0 (Wd a) es E.toList 0 w h2 h3 _ hf with⟨q,_⟩|⟨o,u1,u',b,J,K,_,L,k2,p,s,y,z⟩
      .cases q
      .injection b with b; simp only [kc] at b; obtain ⟨rfl, rfl⟩ := b
       rw[ahQ]at p s;obtain rfl:=fI a z;obtain rfl:=CW a y;have A:j<es.length:=by
        cases M:es[j]?<;>grind
       have hlen:E.toList.length=es.length:=by have:=h2.1;grind
       have B:j<E.size:=pw;have C:((E[j]?).map (·.key)).getD k2=k2:=pw;refine⟨_,?_,R.HF (E':=E.modify j fun d=>{d with key:=k2,val:=v'}) (clock':=clock) c hb ?_ ?_ ((R.born c hb).modify _ _ fun _=>rfl),rfl⟩
       .unfold Instr.mapUpdate
        simp only[Sem.run_bind,run_underlying g,Result.andThen_ok,k]
        grind [mo,Go.Result.andThen_ok,aa2,Go.Sem.run_bind,uG,run_setObj_map]
       .have := h2.set j (x := k2) (x' := k2) (Wd a)
        refine(?_:AK _ _ _ _);have D:(es.set j (k2,v)).map (·.1)=(es.map (·.1)).set j k2:=by rw[ac9]
        have F:((E.modify j fun d=>{d with key:=k2,val:=v'}).toList.map (·.key))=(E.toList.map (·.key)).set j k2:=by
         apply V3
         grind
        grind
       .have := h3.set j (x := v) (x' := v') n
        have D:(es.set j (k2,v)).map (·.2)=(es.map (·.2)).set j v:=by rw[ac9]
        have F:((E.modify j fun d=>{d with key:=k2,val:=v'}).toList.map (·.val))=(E.toList.map (·.val)).set j v':=by
         apply V3
         grind
        grind
     .rename_i hf
      injection e with e;subst e;rcases aa0 (Wd a) es E.toList 0 w h2 h3 _ hf with⟨_,q⟩|⟨o,u1,u',b,_⟩
      .refine ⟨_, ?_, R.HF (E' := E.push { key := f, val := v', born := clock }) (clock' := clock + 1) c hb ?_ ?_ ((R.born c hb).push _ _), rfl⟩
       .unfold Instr.mapUpdate
        simp only[Sem.run_bind,run_underlying g,Result.andThen_ok,k]
        grind [mo,Go.Result.andThen_ok,aa2,run_setObj_map]
       all_goals grind [AK.append,AK.cons,AK.nil]
      .cases b
     .cases e
   .cases e
  .cases e
 .cases e
def bLookup (P:Program) (h:AHeap) (t:TypeId) (x i:Value) (ok:Bool):Option Value:=
 match aLookup P h t x i ok with
 |some v=>some v
 |none=>aLookupA P h t x i ok
def bMapSet (P:Program) (h:AHeap) (t:TypeId) (x i v:Value):Option AHeap:=
 match aMapSet P h t x i v with
 |some v=>some v
 |none=>aMapSetA P h t x i v
theorem AJ {P:Program} (R:Rel W0 m h w) {t:TypeId} {x i x' a v:Value} {ok:Bool} (b:VR h.next m x x') (hi:VR h.next m i a) (e:bLookup P h t x i ok=some v):
  ∃v',(Instr.lookup t x' a ok).run P w=.ok v' w/\VR h.next m v v':=by grind [bLookup,aLookup_rel,aLookupA_rel]
theorem DZ {P:Program} (R:Rel W0 m h w) {t:TypeId} {x i v x' a v':Value} {h':AHeap} (b:VR h.next m x x') (hi:VR h.next m i a) (c:VR h.next m v v') (e:bMapSet P h t x i v=some h'):
  ∃w',(Instr.mapUpdate t x' a v').run P w=.ok () w'/\Rel W0 m h' w'/\h'.next=h.next:=by grind [bMapSet,Um,jy]
def aDelete (_:Program) (_:AHeap) (_:TypeId) (_ _:Value):Option (Value×AHeap):=none
def aMapEntry (P:Program) (h:AHeap) (t:TypeId) (x i:Value):Option (Value×AHeap):=
 match P.underlying t,x with
 |some (.map b c),.map (some r)=>
  if keyArr P b i then
   match h.own r,azero P c with
   |some (.map es),some a=>
    match afind P b i es 0 with
    |some (some (j,v))=>some (.tuple #[v,.int .i64 j],h.put r (.map es))
    |some none=>if flat a then some (.tuple #[a,.int .i64 es.length],h.put r (.map (es++[(i,a)])))else none
    |none=>none
   |_,_=>none
  else none
 |_,_=>none
def aEntryStore (h:AHeap) (x s v:Value):Option AHeap:=
 match x,s with
 |.map (some r),.int .i64 j=>
  match h.own r with
  |some (.map es)=>
   if 0<=j then
    match es[j.toNat]? with
    |some p=>some (h.put r (.map (es.set j.toNat (p.1,v))))
    |none=>none
   else none
  |_=>none
 |_,_=>none
theorem ael {P:Program} (R:Rel W0 m h w) {t:TypeId} {x i x' k v:Value} {h':AHeap} (A:VR h.next m x x') (hi:VR h.next m i k) (e:aMapEntry P h t x i=some (v,h')):
  OK P W0 m h w (Instr.mapEntry t x' k) v h':=by
 unfold aMapEntry at e;split at e
 .rename_i L M r y
  split at e
  .rename_i a
   split at e
   .rename_i es f g B
    have:=CW a hi;subst this;cases A with
    |flat hf=>grind [flat]
    |map N=>
     obtain⟨E,clock,hb,z,h2,h3⟩:=R.mD (P:=P) g;have hB:=R.born g hb;split at e
     .rename_i j u hf
      injection e with e;simp only[kc]at e;obtain⟨rfl,rfl⟩:=e;rcases aa0 (Wd a) es E.toList 0 w h2 h3 _ hf with⟨q,_⟩|⟨C,u1,u',c,D,F,_,O,k2,G,H,I,J⟩
      .cases q
      .injection c with c; simp only [kc] at c; obtain ⟨rfl, rfl⟩ := c
       rw[ahQ]at G H;obtain rfl:=fI a J;obtain rfl:=CW a I;have l:((E[j]?).map (·.key)).getD k2=k2:=pw;have n:((E[j]?).map fun x=>(x.born:Int)).getD 0=(j:Int):=by
        cases K:E[j]? with
        |none=>grind
        |some b=>
         have:=hB.2 j b K;simp[this]
       have o:((E.modify j fun b=>{b with key:=k2}).toList.map (·.key))=E.toList.map (·.key):=by
        apply V3
        grind
       have p:((E.modify j fun b=>{b with key:=k2}).toList.map (·.val))=E.toList.map (·.val):=by
        apply V3
        grind
       refine⟨m,.tuple #[u',.int .i64 j],_,?_,R.HF (E':=E.modify j fun b=>{b with key:=k2}) (clock':=clock) g hb (by rw[o];exact h2) (by rw[p];exact h3) (hB.modify _ _ fun _=>rfl),.refl _ _,qL0 _,.qY (.cons F (.cons (.flat rfl) (.nil _ _)))⟩;unfold Instr.mapEntry;simp only[Sem.run_bind,run_underlying y,Result.andThen_ok,z];rw[mo a];simp only[Result.andThen_ok,aa2 a,Sem.run_bind,D,l,uG a,run_setObj_map _ hb,Sem.run_pure,n,goInt]
     .rename_i hf
      split at e
      .rename_i d
       injection e with e;simp only[kc]at e;obtain⟨rfl,rfl⟩:=e;rcases aa0 (Wd a) es E.toList 0 w h2 h3 _ hf with⟨_,q⟩|⟨C,u1,u',c,_⟩
       .have hlen : E.size = es.length := by have := h2.1; grind
        have s:clock=es.length:=hB.1.trans hlen;refine⟨m,.tuple #[f,.int .i64 es.length],_,?_,R.HF (E':=E.push {key:=k,val:=f,born:=clock}) (clock':=clock+1) g hb ?_ ?_ (hB.push _ _),.refl _ _,qL0 _,.qY (.cons (.flat d) (.cons (.flat rfl) (.nil _ _)))⟩
        .unfold Instr.mapEntry
         simp only[Sem.run_bind,run_underlying y,Result.andThen_ok,z];rw[mo a];simp only[Result.andThen_ok,aa2 a,Sem.run_bind,q,rn B,run_setObj_map _ hb,Sem.run_pure,s,goInt]
        .grind [AK.append,AK.cons,AK.nil]
        .have : VR h.next m f f := .flat d
         grind [AK.append,AK.cons,AK.nil]
       .cases c
      .cases e
     .cases e
   .cases e
  .cases e
 .cases e
theorem ac6 {P:Program} (R:Rel W0 m h w) {t:TypeId} {x s v x' k v':Value} {h':AHeap} (n:VR h.next m x x') (hs:VR h.next m s k) (o:VR h.next m v v') (e:aEntryStore h x s v=some h'):
  ∃w',(Instr.entryStore t x' k v').run P w=.ok () w'/\Rel W0 m h' w'/\h'.next=h.next:=by
 unfold aEntryStore at e;split at e
 .rename_i r j
  split at e
  .rename_i es c
   split at e
   .rename_i q
    split at e
    .rename_i p l
     injection e with e;subst e;have:=hs.Ja;subst this;cases n with
     |flat hf=>grind [flat]
     |map y=>
      obtain⟨E,clock,hb,u,h2,h3⟩:=R.mD (P:=P) c;have hB:=R.born c hb;obtain⟨j,rfl⟩:=WA q;rw[HV]at l ⊢;have hlen:E.size=es.length:=by have:=h2.1;grind
      have b:j<E.size:=by rw[hlen];exact(Ny.1 l).1
      have d:E.findIdx? (fun a=>((a.born:Int)==(j:Int)))=some j:=by
       rw[Array.findIdx?_eq_some_iff_getElem];refine⟨b,?_,fun i hi=>?_⟩
       .have := hB.2 j E[j] (y5 b)
        simp[this]
       .have := hB.2 i E[i] (y5 NH)
        simp[this];omega
      refine⟨_,?_,R.HF (E':=E.modify j fun a=>{a with val:=v'}) (clock':=clock) c hb ?_ ?_ (hB.modify _ _ fun _=>rfl),rfl⟩
      .unfold Instr.entryStore
       simp only[Sem.run_bind,u,Result.andThen_ok,asInt,asIntOf,Sem.run_pure,d];exact run_setObj_map _ hb
      .have f:(es.set j (p.1,v)).map (·.1)=es.map (·.1):=by
        rw[ac9];refine V3 fun i=>?_
        grind
       have g:((E.modify j fun a=>{a with val:=v'}).toList.map (·.key))=E.toList.map (·.key):=by
        apply V3
        grind
       rw[f,g];exact h2
      .have := h3.set j (x := v) (x' := v') o
       have f:(es.set j (p.1,v)).map (·.2)=(es.map (·.2)).set j v:=by rw[ac9]
       have g:((E.modify j fun a=>{a with val:=v'}).toList.map (·.val))=(E.toList.map (·.val)).set j v':=by
        apply V3
        grind
       rw[f,g];exact this
    .cases e
   .cases e
  .cases e
 .cases e
def aClear (P:Program) (h:AHeap) (t:TypeId) (x:Value):Option (Value×AHeap):=
 match P.underlying t,x with
 |some (.slice e),.slice a n _=>
  bif n==0 then some (.tuple #[],h)else
  match a,azero P e with
  |some ⟨id,off,none⟩,some z=>
   match h.own id with
   |some (.cells c)=>bif z.cells.toList.all flat&&decide (off+n*z.cells.size<=c.length)then some (.tuple #[],h.put id (.cells (putCells c off (zrow z.cells.toList n))))else none
   |_=>none
  |_,_=>none
 |_,_=>none
theorem Zb {P:Program} (R:Rel W0 m h w) {t:TypeId} {ats:Array TypeId} (b:ats[0]?=some t) {ty:TypeId} {x x' v:Value} {h':AHeap} (p:VR h.next m x x') (e:aClear P h t x=some (v,h')):
  OK P W0 m h w (Builtin.clear_ ats ty #[x']) v h':=by
 unfold aClear at e;split at e
 .rename_i el a n cap q
  by_cases s:n=0
  .subst s
   simp only[beq_self_eq_true,cond_true]at e;injection e with e;simp only[kc]at e;obtain⟨rfl,rfl⟩:=e;obtain⟨u,c',rfl,f⟩:=p.YC;refine⟨m,.tuple #[],w,?_,R,.refl _ _,qL0 _,.qY (.nil _ _)⟩;unfold Builtin.clear_;cases u<;>simp[b,run_underlying q]
  .have g : (n == 0) = false := pw
   rw[g,cond_false]at e;split at e
   .rename_i id off z y
    split at e
    .rename_i c A
     cases i:(z.cells.toList.all Fw.flat&&decide (off+n*z.cells.size<=c.length))with
     |false=>grind
     |true=>
      rw[i,cond_true]at e;injection e with e;simp only[kc]at e;obtain⟨rfl,rfl⟩:=e;rw[Lm,decide_eq_true_eq]at i;obtain⟨j,r⟩:=i;have d:=Ew Fw.flat _ j n;obtain⟨w',hw,R'⟩:=Rel.jW P (zrow z.cells.toList n) (zrow z.cells.toList n) 0 R (off:=off) A (by grind [jY]) (AK.flat d) (fun v B=>ff.1 (OO d) v B);obtain⟨k,rfl⟩:∃k,n=k+1:=⟨n-1,NH⟩;have l:(Builtin.zeroCells z.cells (k+1)).toList=zrow z.cells.toList (k+1):=MI _ _ _ rfl;refine⟨m,.tuple #[],w',?_,pw,.refl _ _,qL0 _,.qY (.nil _ _)⟩;have o:∃c',x'=.slice (some ⟨(m id).blk,(m id).base+off,none⟩) (k+1) c':=by
       cases p with
       |flat hf=>grind [flat]
       |slice _ _=>grind
       |buf _ C ha=>
        rcases ha with⟨rfl,_⟩|D
        all_goals grind
      obtain⟨c',rfl⟩:=o;unfold Builtin.clear_;simp only[b,Dk,im,Sem.run_bind,run_underlying q,Result.andThen_ok,rn y,l,hw];rfl
    .cases e
   .cases e
 .cases e
abbrev lC:=Trie Value
def evalO (fr:lC):Operand->Option Value
 |.tmp t=>fr.get t
 |.const v=>bif flat v then some v else none
 |.func f=>some (.func (.func f) #[] #[])
 |.global _=>none
def FR (n:Nat) (m:rC) (fr:lC) (tmps:Array Value):Prop:=∀k v,fr.get k=some v->∃v',tmps[k]?=some v'/\VR n m v v'
theorem FR.mono {n a:Nat} {m b:rC} {fr:lC} {t:Array Value} (F:FR n m fr t) (c:n<=a) (d:ZK n m b):FR a b fr t:=
 fun k v e=>let⟨v',f,h2⟩:=F k v e;⟨v',f,h2.mono c d⟩
theorem Ns {n:Nat} {m:rC} {fr:lC} {a:Act} (F:FR n m fr a.tmps) {o:Operand} {v:Value} (e:evalO fr o=some v):VR n m v (a.eval o):=by
 cases o with
 |tmp t=>
  obtain⟨v',b,h2⟩:=F t v e;have:a.eval (.tmp t)=v':=by simp[Act.eval,js,b]
  grind
 |const c=>
  simp only[evalO]at e;cases hf:flat c with
  |true=>rw[hf]at e;simp at e;subst e;exact .flat hf
  |false=>grind
 |global g=>grind [evalO]
 |func f=>
  simp only[evalO]at e;injection e with e;subst e;exact .func rfl rfl (fun i v v' h=>by simp at h) (fun i v v' h=>by simp at h)
def evalL (fr:lC):List Operand->Option (List Value)
  |[]=>some []
  |o::r=>match evalO fr o with
    |some v=>match evalL fr r with|some l=>some (v::l)|none=>none
    |none=>none
theorem PZ {n:Nat} {m:rC} {fr:lC} {a:Act} (F:FR n m fr a.tmps):∀{l:List Operand} {vs:List Value},evalL fr l=some vs->AK n m vs (l.map a.eval)
 |[],vs,e=>by grind [evalL,AK.nil]
 |o::r,vs,e=>by
  simp only[evalL]at e;split at e
  .rename_i v b
   split at e
   .rename_i l c;injection e with e;subst e;exact .cons (Ns F b) (PZ F c)
   .cases e
  .cases e
def evalP (fr:lC):List (Nat×Operand)->Option (List (Nat×Value))
  |[]=>some []
  |(i,o)::r=>match evalO fr o with
    |some v=>match evalP fr r with|some l=>some ((i,v)::l)|none=>none
    |none=>none
def He {n:Nat} {m:rC} {fr:lC} {a:Act} (F:FR n m fr a.tmps):∀{l:List (Nat×Operand)} {vs:List (Nat×Value)},evalP fr l=some vs->PRs n m vs (l.map fun p=>(p.1,a.eval p.2))
 |[],vs,e=>by simp[evalP]at e;subst e;exact .nil
 |(i,o)::r,vs,e=>by
  simp only[evalP]at e;split at e
  .rename_i v b
   split at e
   .rename_i l c;injection e with e;subst e;exact .cons (Ns F b) (He F c)
   .cases e
  .cases e
def evalM (fr:lC):Option Operand->Option (Option Value)
 |none=>some none
 |some o=>match evalO fr o with|some v=>some (some v)|none=>none
def Oh {n:Nat} {m:rC} {fr:lC} {a:Act} (F:FR n m fr a.tmps) {o:Option Operand} {v:Option Value} (e:evalM fr o=some v):VRo n m v (o.map a.eval):=by
 cases o with
 |none=>simp[evalM]at e;subst e;exact .none
 |some o=>
  simp only[evalM]at e;split at e
  .rename_i u b;injection e with e;subst e;exact .some (Ns F b)
  .cases e
def Yx:Value:=.tuple #[]
def aNilCheck (x:Value):Option Value:=
 match x with
 |.pointer (some a)=>some (.pointer (some a))
 |.func (.func f) a b=>some (.func (.func f) a b)
 |_=>none
def aIface (P:Program) (t:TypeId) (x:Value):Option Value:=
 match P.underlying t with
 |some (.interface _)=>none
 |some _=>some (.iface t x)
 |none=>none
def aBuiltin (P:Program) (h:AHeap) (b:Builtin) (ats:List TypeId) (args:List Value):Option (Value×AHeap):=
 match b,ats,args with
 |.append,[t,xt],[s,x]=>aAppend P h t xt s x
 |.len,t::_,[x]=>match aLen P h t x with|some v=>some (v,h)|none=>none
 |.copy,t::_,[d,s]=>aCopy P h t d s
 |.delete,t::_,[d,s]=>aDelete P h t d s
 |.clear,t::_,[s]=>aClear P h t s
 |.min,_,x::r=>match aMin x r with|some v=>some (v,h)|none=>none
 |.max,_,x::r=>match LZ x r with|some v=>some (v,h)|none=>none
 |_,_,_=>none
def stepOp (P:Program) (fr:lC) (h:AHeap) (o:Oper):Option (Value×AHeap):=
  match o.op with
  |.move x|.assign x=>match evalO fr x with|some v=>some (v,h)|none=>none
  |.pick c a b=>match evalO fr c with
    |some (.bool t)=>match evalO fr (bif t then a else b)with|some v=>some (v,h)|none=>none
    |_=>none
  |.alloc t=>aAlloc P h t
  |.box _ x=>match evalO fr x with|some v=>zF h v|none=>none
  |.build t ps=>match evalP fr ps.toList with
    |some l=>match aBuild P t l with|some v=>some (v,h)|none=>none
    |none=>none
  |.buildSlice t len ps=>match evalP fr ps.toList with|some l=>aBuildSlice P h t len l|none=>none
  |.load t a=>match evalO fr a with
    |some (.pointer (some ad))=>match aload P h t ad with|some v=>some (v,h)|none=>none
    |_=>none
  |.store t a x=>match evalO fr a,evalO fr x with
    |some e,some g=>match aStore P h t e g with|some h'=>some (Yx,h')|none=>none
    |_,_=>none
  |.nilCheck x=>match evalO fr x with
    |some v=>match aNilCheck v with|some v=>some (v,h)|none=>none
    |none=>none
  |.binOp op t x y _=>match evalO fr x,evalO fr y with
    |some a,some b=>match mM P op t a b with|some v=>some (v,h)|none=>none
    |_,_=>none
  |.unOp op _ x=>match evalO fr x with
    |some a=>match aUn op a with|some v=>some (v,h)|none=>none
    |none=>none
  |.convert s d x=>match evalO fr x with|some a=>aConvert P h s d a|none=>none
  |.makeInterface t x=>match evalO fr x with
    |some a=>match aIface P t a with|some v=>some (v,h)|none=>none
    |none=>none
  |.makeFunc fn first cap=>match evalL fr first.toList,evalL fr cap.toList with
    |some a,some b=>some (.func fn a.toArray b.toArray,h)
    |_,_=>none
  |.makeMap t r=>match r with
    |none=>some (.map (some h.next),h.alloc (.map []))
    |some o=>match evalO fr o,P.underlying t with
      |some (.int _ _),some (.map _ _)=>some (.map (some h.next),h.alloc (.map []))
      |_,_=>none
  |.makeSlice t l c=>match evalO fr l,evalO fr c with
    |some a,some b=>aMakeSlice P h t a b
    |_,_=>none
  |.slice t x lo hi j=>match evalO fr x,evalM fr lo,evalM fr hi,evalM fr j with
    |some a,some l,some r,some k=>match aSlice P t a l r k with|some v=>some (v,h)|none=>none
    |_,_,_,_=>none
  |.fieldAddr s x f=>match evalO fr x with
    |some a=>match aField P s a f with|some v=>some (v,h)|none=>none
    |none=>none
  |.field s x f=>match evalO fr x with
    |some a=>match aFieldV P s a f with|some v=>some (v,h)|none=>none
    |none=>none
  |.indexAddr t x i=>match evalO fr x,evalO fr i with
    |some a,some b=>match aIndexAddr P t a b with|some v=>some (v,h)|none=>none
    |_,_=>none
  |.index t x i=>match evalO fr x,evalO fr i with
    |some a,some b=>match aIndexV P t a b with|some v=>some (v,h)|none=>none
    |_,_=>none
  |.extract x i=>match evalO fr x with
    |some a=>match aExtract a i with|some v=>some (v,h)|none=>none
    |none=>none
  |.lookup t x i ok=>match evalO fr x,evalO fr i with
    |some a,some b=>match bLookup P h t a b ok with|some v=>some (v,h)|none=>none
    |_,_=>none
  |.mapUpdate t x k y=>match evalO fr x,evalO fr k,evalO fr y with
    |some a,some b,some c=>match bMapSet P h t a b c with|some h'=>some (Yx,h')|none=>none
    |_,_,_=>none
  |.call {callee:=.builtin b,args,argTypes}=>match evalL fr args.toList with
    |some vs=>aBuiltin P h b argTypes.toList vs
    |none=>none
  |.mapEntry t x k=>match evalO fr x,evalO fr k with
    |some a,some b=>aMapEntry P h t a b
    |_,_=>none
  |.entryStore _ x s y=>match evalO fr x,evalO fr s,evalO fr y with
    |some a,some b,some c=>match aEntryStore h a b c with|some h'=>some (Yx,h')|none=>none
    |_,_,_=>none
  |_=>none
def Ot (P:Program) (W0:LA) (m:rC) (h:AHeap) (w:World) (s:Sem Next) (v:Value) (h':AHeap):Prop:=
 ∃a v' w',(s.run P w=.ok (.value v') w'\/(s.run P w=.ok .skip w'/\v'=undef))/\Rel W0 a h' w'/\ZK h.next m a/\h.next<=h'.next/\VR h'.next a v v'
theorem Ot.TJ {P:Program} {s:Sem Value} {v:Value} {h':AHeap} (e:OK P W0 m h w s v h'):Ot P W0 m h w (do pure (.value (<-s))) v h':=by
 obtain⟨a,v',w',b,h2,h3,c,d⟩:=e;exact⟨a,v',w',.inl (by simp[b]),h2,h3,c,d⟩
def Ot.J0 {P:Program} {s:Sem Value} {v:Value} (R:Rel W0 m h w) (e:∃v',s.run P w=.ok v' w/\VR h.next m v v'):Ot P W0 m h w (do pure (.value (<-s))) v h:=
 .TJ (OK.pure R e)
theorem Ot.val {P:Program} {v v':Value} (R:Rel W0 m h w) (e:VR h.next m v v'):Ot P W0 m h w (pure (.value v')) v h:=
 ⟨m,v',w,.inl Ma,R,.refl _ _,qL0 _,e⟩
theorem Dm {P:Program} (R:Rel W0 m h w) {b:Builtin} {ats:Array TypeId} {ty:TypeId} {cs:Array Bool} {args a:List Value} {v:Value} {h':AHeap} (ha:AK h.next m args a)
  (e:aBuiltin P h b ats.toList args=some (v,h')):Ot P W0 m h w (builtin b ats ty cs a.toArray) v h':=by
 unfold aBuiltin at e;split at e
 .rename_i t xt s x c
  have g:ats=#[t,xt]:=pw;subst g
  match a,ha with
  |[i,x'],ha=>exact .TJ (Uk R (ha.2 0 s i rfl rfl) (ha.2 1 x x' rfl rfl) e)
  |[],ha|[_],ha|_::_::_::_,ha=>grind [AK]
 .rename_i t r x c
  have f:ats[0]?=some t:=by rw[<-CG,c];rfl
  match a,ha with
  |[x'],ha=>
   split at e
   .rename_i n j
    injection e with e;simp only[kc]at e;obtain⟨rfl,rfl⟩:=e;exact .J0 R (QK R f (ha.2 0 x x' rfl rfl) j)
   .cases e
  |[],ha|_::_::_,ha=>grind [AK]
 .rename_i t r d s c
  have f:ats[0]?=some t:=by rw[<-CG,c];rfl
  match a,ha with
  |[o,i],ha=>exact .TJ (oq R f (ha.2 0 d o rfl rfl) (ha.2 1 s i rfl rfl) e)
  |[],ha|[_],ha|_::_::_::_,ha=>grind [AK]
 .rename_i t r d s c
  have f:ats[0]?=some t:=by rw[<-CG,c];rfl
  match a,ha with
  |[o,i],ha=>cases e
  |[],ha|[_],ha|_::_::_::_,ha=>grind [AK]
 .rename_i t r s c
  have f:ats[0]?=some t:=by rw[<-CG,c];rfl
  match a,ha with
  |[i],ha=>exact .TJ (Zb R f (ha.2 0 s i rfl rfl) e)
  |[],ha|_::_::_,ha=>grind [AK]
 .rename_i x r
  match a,ha with
  |x'::k,ha=>
   split at e
   .rename_i n j
    injection e with e;simp only[kc]at e;obtain⟨rfl,rfl⟩:=e;obtain⟨v',l,h2⟩:=TZ (P:=P) r k (ha.2 0 x x' rfl rfl) (by simpa using ha.drop 1) j w;exact .J0 R ⟨v',by simpa[Builtin.min_]using l,h2⟩
   .cases e
  |[],ha=>grind [AK]
 .rename_i x r
  match a,ha with
  |x'::k,ha=>
   split at e
   .rename_i n j
    injection e with e;simp only[kc]at e;obtain⟨rfl,rfl⟩:=e;obtain⟨v',l,h2⟩:=td (P:=P) r k (ha.2 0 x x' rfl rfl) (by simpa using ha.drop 1) j w;exact .J0 R ⟨v',by simpa[Builtin.max_]using l,h2⟩
   .cases e
  |[],ha=>grind [AK]
 .cases e
theorem aEq_agg {P:Program} {t:TypeId} {xs ys:Array Value} {r:Bool} (e:aEq P t (.agg xs) (.agg ys)=some r):P.eqGuardType P.depth t=false:=by
 unfold aEq at e
 grind [acN,Je]
theorem V1 {P:Program} (R:Rel W0 m h w) {op:BinOp} {t:TypeId} {x y:Operand} {a b a' c v:Value} (ha:VR h.next m a a') (hb:VR h.next m b c) (e:mM P op t a b=some v):
  Ot P W0 m h w (do pure (.value (<-(do eqGuard op t x y a' c;binOp op t a' c)))) v h:=by
 unfold mM at e;cases hg:guardFree a with
 |false=>grind
 |true=>
  rw[hg]at e;simp only[cond_true]at e;obtain⟨hf,d⟩:=Z3 ha hb e;refine .J0 R ⟨v,?_,.flat hf⟩;have f:(eqGuard op t x y a' c).run P w=.ok () w:=by
   refine eqGuard_run P op t x y a' c w ?_ ?_
   .rintro⟨rfl,_⟩;cases ha<;>grind [guardFree]
   .rintro g i rfl rfl
    cases ha with
    |flat hh=>grind [flat]
    |agg _ _=>
     cases hb with
     |flat hh=>grind [flat]
     |agg _ _=>
      rename_i xs ys _ _ _ _
      cases op<;>simp only[abin]at e<;>(try cases e)
      all_goals grind [aEq_agg]
  rw[Sem.run_bind,f];exact d w
theorem stepOp_does {P:Program} {a:Act} {fr:lC} {o:Oper} {v:Value} {h':AHeap} (R:Rel W0 m h w) (F:FR h.next m fr a.tmps) (e:stepOp P fr h o=some (v,h')):
  Ot P W0 m h w (execOp a.eval o) v h':=by
 unfold stepOp at e;unfold execOp;split at e
 .grind [Ot.val,Ns]
 .grind [Ot.val,Ns]
 .rename_i c x y g; simp only [g]
  split at e
  .rename_i t V
   split at e
   .rename_i u j
    injection e with e;simp only[kc]at e;obtain⟨rfl,rfl⟩:=e;have G:=(Ns F V).YE;have B:=Ns F j
    refine⟨m,a.eval (bif t then x else y),w,.inl ?_,R,.refl _ _,qL0 _,B⟩
    simp only[G,asBool,Sem.run_bind,Sem.run_pure,Result.andThen_ok]
    grind
   .cases e
  .cases e
 .grind [Ot.TJ,BZ]
 .rename_i t x g; simp only [g]
  split at e
  .rename_i u j;exact .TJ (aBox_ok R (Ns F j) e)
  .cases e
 .rename_i t ps g; simp only [g]
  split at e
  .rename_i l H
   split at e
   .rename_i u j
    injection e with e;simp only[kc]at e;obtain⟨rfl,rfl⟩:=e;have:=WX (P:=P) (He F H) j w;refine .J0 R ?_
    have K:(ps.map fun x=>match x with|(i,x)=>(i,a.eval x))=(ps.toList.map fun p=>(p.1,a.eval p.2)).toArray:=pw
    grind
   .cases e
  .cases e
 .rename_i t len ps g; simp only [g]
  split at e
  .rename_i l H
   have:=Mg (P:=P) R (He F H) e
   have K:(ps.map fun x=>match x with|(i,x)=>(i,a.eval x))=(ps.toList.map fun p=>(p.1,a.eval p.2)).toArray:=pw
   grind [Ot.TJ]
  .cases e
 .rename_i t x g; simp only [g]
  split at e
  .rename_i ad L
   split at e
   .rename_i u j
    injection e with e;simp only[kc]at e;obtain⟨rfl,rfl⟩:=e;obtain⟨a',mi,M⟩:=(Ns F L).AP;obtain⟨v',D,h2⟩:=R.loadVar (P:=P) M j;exact .J0 R ⟨v',by rw[mi];simp[Instr.loadAt,Instr.sureAddr,D],h2⟩
   .cases e
  .cases e
 .rename_i t x y g; simp only [g]
  split at e
  .rename_i Z xv N O
   split at e
   .rename_i h2 E
    injection e with e;simp only[kc]at e;obtain⟨rfl,rfl⟩:=e;obtain⟨w',D,R',U⟩:=um (P:=P) R (Ns F N) (Ns F O) E;exact⟨m,undef,w',.inr ⟨by simp[D],rfl⟩,R',.refl _ _,NH,.tuple rfl (fun i v v' h=>by simp at h)⟩
   .cases e
  .cases e
 .rename_i x g; simp only [g]
  split at e
  .rename_i u j
   split at e
   .rename_i u' B
    injection e with e;simp only[kc]at e;obtain⟨rfl,rfl⟩:=e;have I:=Ns F j;unfold aNilCheck at B;split at B
    .grind [VR.AP,Ot.val]
    .injection B with B; subst B
     generalize a.eval x=x' at I ⊢;cases I with
     |flat hf=>grind [flat]
     |func D h2 h3 W=>exact .val R (.func D h2 h3 W)
    .cases B
   .cases e
  .cases e
 .rename_i op t x y yt g; simp only [g]
  split at e
  .rename_i p q A C
   split at e
   .rename_i u j
    injection e with e;simp only[kc]at e;obtain⟨rfl,rfl⟩:=e;exact V1 R (Ns F A) (Ns F C) j
   .cases e
  .cases e
 .rename_i op t x g; simp only [g]
  split at e
  .rename_i p A
   split at e
   .rename_i u j
    injection e with e;simp only[kc]at e;obtain⟨rfl,rfl⟩:=e;obtain⟨D,h2⟩:=aUn_rel P (Ns F A) j;exact .J0 R ⟨u,h2 w,.flat D⟩
   .cases e
  .cases e
 .rename_i s d x g; simp only [g]
  split at e
  .rename_i p A;exact .TJ (Mu R (Ns F A) e)
  .cases e
 .rename_i t x g; simp only [g]
  split at e
  .rename_i p A
   split at e
   .rename_i u j
    injection e with e;simp only[kc]at e;obtain⟨rfl,rfl⟩:=e;unfold aIface at j;split at j
    .cases j
    .rename_i d Q hd
     injection j with j;subst j;refine .J0 R ⟨.iface t (a.eval x),?_,.iface (Ns F A)⟩;simp only[Instr.makeInterface,Sem.run_bind,run_underlying hd,Result.andThen_ok]
     cases d<;>first|(exact absurd rfl (Q _))|rfl
    .cases j
   .cases e
  .cases e
 .rename_i fn first cap g; simp only [g]
  split at e
  .rename_i p q A C
   injection e with e;simp only[kc]at e;obtain⟨rfl,rfl⟩:=e;have D:=PZ F A;have h2:=PZ F C
   refine .J0 R ⟨.func fn (first.map a.eval) (cap.map a.eval),by simp[Instr.makeFunc],.func ?_ ?_ (fun i v v' e e'=>D.2 i v v' (by simpa using e) pw) (fun i v v' e e'=>h2.2 i v v' (by simpa using e) pw)⟩
   .have:=D.1;grind
   .have:=h2.1;grind
  .cases e
 .rename_i t r g; simp only [g]
  split at e
  .injection e with e; simp only [kc] at e; obtain ⟨rfl, rfl⟩ := e
   refine .TJ ⟨_,.map (some w.heap.size),_,by simp[Instr.makeMap],R.allocMap,Qq _ _ _,ti _,?_⟩
   have:=VR.map (n:=h.next+1) (m:=SG m h.next ⟨w.heap.size,0,0⟩) (id:=h.next) (mg _)
   rw[zf]at this;exact this
  .split at e
   .rename_i r x y k i dk de A j
    injection e with e;simp only[kc]at e;obtain⟨rfl,rfl⟩:=e;have I:=Ns F A;have S:a.eval r=.int k i:=by
     generalize a.eval r=z at I;cases I;rfl
    refine .TJ ⟨_,.map (some w.heap.size),_,?_,R.allocMap,Qq _ _ _,ti _,?_⟩
    .rw[uu,S];simp[Instr.makeMap,Sem.run_bind,run_underlying j,asInt,asIntOf]
    .have := VR.map (n := h.next + 1) (m := SG m h.next ⟨w.heap.size, 0, 0⟩) (id := h.next) (mg _)
     rw[zf]at this;exact this
   .cases e
 .rename_i t l c g; simp only [g]
  split at e
  .rename_i p q A C;exact .TJ (ZU R (Ns F A) (Ns F C) e)
  .cases e
 .rename_i t x lo hi mx g; simp only [g]
  split at e
  .rename_i p l r k A H X Y
   split at e
   .rename_i u j
    injection e with e;simp only[kc]at e;obtain⟨rfl,rfl⟩:=e;exact .J0 R (jw (Ns F A) (Oh F H) (Oh F X) (Oh F Y) j w)
   .cases e
  .cases e
 .rename_i s x f g; simp only [g]
  split at e
  .rename_i p A
   split at e
   .rename_i u j
    injection e with e;simp only[kc]at e;obtain⟨rfl,rfl⟩:=e;exact .J0 R (qd (Ns F A) j w)
   .cases e
  .cases e
 .rename_i s x f g; simp only [g]
  split at e
  .rename_i p A
   split at e
   .rename_i u j
    injection e with e;simp only[kc]at e;obtain⟨rfl,rfl⟩:=e;exact .J0 R (aeL (Ns F A) j w)
   .cases e
  .cases e
 .rename_i t x i g; simp only [g]
  split at e
  .rename_i p q A C
   split at e
   .rename_i u j
    injection e with e;simp only[kc]at e;obtain⟨rfl,rfl⟩:=e;exact .J0 R (Bb (Ns F A) (Ns F C) j w)
   .cases e
  .cases e
 .rename_i t x i g; simp only [g]
  split at e
  .rename_i p q A C
   split at e
   .rename_i u j
    injection e with e;simp only[kc]at e;obtain⟨rfl,rfl⟩:=e;exact .J0 R (kg (Ns F A) (Ns F C) j w)
   .cases e
  .cases e
 .rename_i x i g; simp only [g]
  split at e
  .rename_i p A
   split at e
   .rename_i u j
    injection e with e;simp only[kc]at e;obtain⟨rfl,rfl⟩:=e;exact .J0 R (VI (Ns F A) j w)
   .cases e
  .cases e
 .rename_i t x i ok g; simp only [g]
  split at e
  .rename_i p q A C
   split at e
   .rename_i u j
    injection e with e;simp only[kc]at e;obtain⟨rfl,rfl⟩:=e;exact .J0 R (AJ R (Ns F A) (Ns F C) j)
   .cases e
  .cases e
 .rename_i t x k y g; simp only [g]
  split at e
  .rename_i p q c A C G
   split at e
   .rename_i h2 E
    injection e with e;simp only[kc]at e;obtain⟨rfl,rfl⟩:=e;obtain⟨w',D,R',U⟩:=DZ (P:=P) R (Ns F A) (Ns F C) (Ns F G) E;exact⟨m,undef,w',.inr ⟨by simp[D],rfl⟩,R',.refl _ _,NH,.tuple rfl (fun i v v' h=>by simp at h)⟩
   .cases e
  .cases e
 .rename_i b args ats g; simp only [g]
  split at e
  .rename_i vs T
   have J:=PZ F T;have:=Dm (P:=P) R (ats:=ats) (ty:=o.type) (cs:=args.map fun|.const _=>true|_=>false) J e;have K:(args.toList.map a.eval).toArray=args.map a.eval:=pw;rw[K]at this;exact this
  .cases e
 .rename_i t x k g; simp only [g]
  split at e
  .rename_i p q A C
   exact .TJ (ael R (Ns F A) (Ns F C) e)
  .cases e
 .rename_i t x s y g; simp only [g]
  split at e
  .rename_i p q c A C G
   split at e
   .rename_i h2 E
    injection e with e;simp only[kc]at e;obtain⟨rfl,rfl⟩:=e;obtain⟨w',D,R',U⟩:=ac6 (P:=P) (t:=t) R (Ns F A) (Ns F C) (Ns F G) E;exact⟨m,undef,w',.inr ⟨by simp[D],rfl⟩,R',.refl _ _,NH,.tuple rfl (fun i v v' h=>by simp at h)⟩
   .cases e
  .cases e
 .cases e
end
end Go.Fw
