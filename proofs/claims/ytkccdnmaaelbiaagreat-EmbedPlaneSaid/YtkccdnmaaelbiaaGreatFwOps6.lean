/- A text. -/
import Derived.Laws.BytesString
import Derived.Test.YtkccdnmaaelbiaaGreatFwOps1
set_option linter.all false
set_option maxRecDepth 99999
set_option maxHeartbeats 9999999
namespace Go.Fw
section
variable {W0 : Ac} {m : Ti} {h : AHeap} {w : World}
def aLenOf:Value->Option Nat
 |.slice _ n _=>some n
 |.string s=>some s.size
 |_=>none
def Bn {n:Nat} {m:Ti} {P:Program} {x x':Value} {k:Nat} (a:VR n m x x') (e:aLenOf x=some k) (w:World):(Builtin.lenOf x').run P w=.ok k w:=by
 unfold aLenOf at e;split at e
 .injection e with e;subst e;obtain⟨a',c',rfl,_⟩:=a.aA;simp[Builtin.lenOf]
 .injection e with e;subst e;have:=a.Z1;subst this;simp[Builtin.lenOf]
 .cases e
def firstN (h:AHeap) (size n:Nat) (x:Value):Option (List Value):=
 match x with
 |.slice (some a) len _=>if n<=len then readN h a (n*size)else none
 |.string s=>some ((s.data.toList.take n).map fun b=>.int .u8 b.toNat)
 |_=>none
def sD (R:Rel W0 m h w) {P:Program} {size n:Nat} {x x':Value} {l:List Value} (c:VR h.next m x x') (g:n≠0) (e:firstN h size n x=some l):
  ∃l',xC h.next m l l'/\(Builtin.firstCells size n x').run P w=.ok l'.toArray w:=by
 unfold firstN at e;split at e
 .split at e
  .rename_i hle
   obtain⟨a',c',rfl,a⟩:=c.readable;obtain⟨l',f,h2⟩:=R.loadCells P (a.resolve_right QT) e;exact⟨l',f,by simpa[Builtin.firstCells]using h2⟩
  .cases e
 .rename_i s
  injection e with e;subst e;have:=c.Z1;subst this;refine⟨_,xC.flat ?_,?_⟩
  .rw[jE];intro v d;rw[T8]at d;obtain⟨b,_,rfl⟩:=d;rfl
  .simp only [Builtin.firstCells, Sem.run_pure]
   congr 1;apply XX.1;simp[ByteArray.data_extract]
 .cases e
def aCopy (P:Program) (h:AHeap) (t:TypeId) (dst src:Value):Option (Value×AHeap):=
 match P.underlying t,dst,aLenOf src with
 |some (.slice e),.slice base a _,some sLen=>
  if(P.underlying e).isSome then
   if min sLen a=0/\JO P e≠0 then some (.int .i64 0,h)
   else
    match base,firstN h (JO P e) (min sLen a) src with
    |some ⟨id,off,none⟩,some l=>
     match h.own id with
     |some (.cells c)=>if off+l.length<=c.length/\l.all (·.oneCell')/\min sLen a≠0 then some (.int .i64 (min sLen a:Nat),h.put id (.cells (putCells c off l)))else none
     |_=>none
    |_,_=>none
  else none
 |_,_,_=>none
def tE {P:Program} (R:Rel W0 m h w) {t:TypeId} {ats:Array TypeId} (g:ats[0]?=some t) {ty:TypeId} {d s z q v:Value} {h':AHeap} (A:VR h.next m d z) (hs:VR h.next m s q) (e:aCopy P h t d s=some (v,h')):
  OK P W0 m h w (Builtin.copy_ ats ty #[z,q]) v h':=by
 unfold aCopy at e;split at e
 .rename_i el base a B sLen C b
  split at e
  .rename_i r
   obtain⟨J,i⟩:=yL.1 r;have D:=Bn (P:=P) hs b;split at e
   .rename_i u
    obtain⟨u,E⟩:=u;injection e with e;simp only[Ig]at e;obtain⟨rfl,rfl⟩:=e;obtain⟨a',c',rfl,_⟩:=A.aA;have hf:(Builtin.firstCells (JO P el) 0 q).run P w=.ok #[] w:=by
     unfold aLenOf at b;split at b
     .obtain ⟨F, G, rfl, _⟩ := hs.aA
      cases F<;>simp[Builtin.firstCells,Go.loadCells,loadCellsFrom]
     .have := hs.Z1; subst this
      simp only[Builtin.firstCells,Sem.run_pure];congr 1;apply XX.1;simp
     .cases b
    refine OK.pure R ⟨.int .i64 0,?_,.flat rfl⟩;unfold Builtin.copy_;simp only[g,Ki,WJ,pF,Sem.run_bind,run_underlying C,Result.andThen_ok,D,NL i];rw[show Nat.min sLen a=0 from u,hf];cases a'<;>simp[storeCells,goInt]
   .split at e
    .rename_i id off l x
     split at e
     .rename_i c j
      split at e
      .rename_i H
       obtain⟨k,n,y⟩:=H;injection e with e;simp only[Ig]at e;obtain⟨rfl,rfl⟩:=e;obtain⟨l',o,p⟩:=sD R (P:=P) hs y x;obtain⟨a',c',rfl,f⟩:=A.readable;have f:=f.resolve_right QT;cases f with
       |own I=>
        obtain⟨w',hw,R'⟩:=Rel.Qw P l l' 0 R (off:=off) j (by simpa using k) o (o.wN n);refine⟨m,.int .i64 (min sLen a:Nat),w',?_,by simpa using R',.refl _ _,J4 _,.flat rfl⟩;unfold Builtin.copy_;simp only[g,Ki,WJ,pF,Sem.run_bind,run_underlying C,Result.andThen_ok,D,NL i];rw[show Nat.min sLen a=min sLen a from rfl,p];simp only[Result.andThen_ok,hw,Sem.run_pure,goInt]
      .cases e
     .cases e
    .cases e
  .cases e
 .cases e
def aLen (P:Program) (h:AHeap) (t:TypeId) (x:Value):Option Value:=
 match P.underlying t,x with
 |some .string,.string s=>some (.int .i64 s.size)
 |some (.array n _),_=>some (.int .i64 n)
 |some (.slice _),.slice _ n _=>some (.int .i64 n)
 |some (.map _ _),.map none=>some (.int .i64 0)
 |some (.map _ _),.map (some r)=>match h.own r with|some (.map es)=>some (.int .i64 es.length)|_=>none
 |_,_=>none
def Rel.vx (R:Rel W0 m h w) {r:Nat} {es:List (Value×Value)} (b:h.own r=some (.map es)) {P:Program}:
  ∃E clock,w.heap[(m r).blk]?=some (.map E clock)/\(getObj (m r).blk).run P w=.ok (.map E clock) w/\xC h.next m (es.map (·.1)) (E.toList.map (·.key))/\xC h.next m (es.map (·.2)) (E.toList.map (·.val)):=by
 obtain⟨E,clock,a,h2,h3⟩:=R.own r _ b;exact⟨E,clock,a,by simp[getObj,Sem.run,a],h2,h3⟩
def Da (R:Rel W0 m h w) {P:Program} {t:TypeId} {x x' v:Value} {ats:Array TypeId} (b:ats[0]?=some t) {ty:TypeId} (f:VR h.next m x x') (e:aLen P h t x=some v):
  ∃v',(Builtin.len_ ats ty #[x']).run P w=.ok v' w/\VR h.next m v v':=by
 unfold aLen at e;split at e
 .rename_i s d; injection e with e; subst e; have := f.Z1; subst this
  exact⟨_,by simp[Builtin.len_,b,run_underlying d,goInt],.flat rfl⟩
 .rename_i n el d; injection e with e; subst e
  refine⟨.int .i64 n,?_,.flat rfl⟩;unfold Builtin.len_;simp only[b,Ki,WJ,Sem.run_bind,run_underlying d,Result.andThen_ok,Sem.run_pure,goInt]
 .rename_i el a n c d; injection e with e; subst e; obtain ⟨a', c', rfl, _⟩ := f.aA
  exact⟨_,by simp[Builtin.len_,b,run_underlying d,goInt],.flat rfl⟩
 .rename_i d; injection e with e; subst e
  cases f with|flat _=>exact⟨_,by simp[Builtin.len_,b,run_underlying d,goInt],.flat rfl⟩
 .rename_i r d
  split at e
  .rename_i es g
   injection e with e;subst e;cases f with
   |flat hf=>simp[Fw.flat]at hf
   |map j=>
    obtain⟨E,clock,_,i,h2,_⟩:=R.vx (P:=P) g;have hlen:E.size=es.length:=by have:=h2.1;simpa using this.symm
    exact⟨.int .i64 es.length,by simp[Builtin.len_,b,run_underlying d,i,goInt,hlen],.flat rfl⟩
  .cases e
 .cases e
def aMin:Value->List Value->Option Value
 |x,[]=>some x
 |.int k a,.int c b::r=>if k=c then aMin (.int k (if b<a then b else a)) r else none
 |_,_=>none
def J3:Value->List Value->Option Value
 |x,[]=>some x
 |.int k a,.int c b::r=>if k=c then J3 (.int k (if b>a then b else a)) r else none
 |_,_=>none
def yM {n:Nat} {m:Ti} {P:Program}:∀(r c:List Value) {x x' v:Value},VR n m x x'->xC n m r c->aMin x r=some v->∀w,∃v',(c.foldlM Builtin.min2 x').run P w=.ok v' w/\VR n m v v'
 |[],c,x,x',v,f,d,e,w=>by
  have:c=[]:=b7 (by rw[<-d.1];rfl);subst this;simp[aMin]at e;subst e;exact⟨x',YX,f⟩
 |y::r,[],x,x',v,f,d,e,w=>by simp[xC]at d
 |y::r,i::c,x,x',v,f,d,e,w=>by
  have j:VR n m y i:=d.2 0 y i rfl rfl;have g:xC n m r c:=by simpa using d.drop 1
  cases x<;>cases y<;>simp only[aMin]at e<;>try cases e
  split at e
  .rename_i k a p b l
   subst l;have:=f.oe;subst this;have:=j.oe;subst this;obtain⟨v',o,h2⟩:=yM r c (.flat rfl) g e w;exact⟨v',by simp only[List.foldlM_cons,Builtin.min2,Sem.run_bind,Sem.run_pure,Result.andThen_ok];exact o,h2⟩
  .cases e
def Rt {n:Nat} {m:Ti} {P:Program}:∀(r c:List Value) {x x' v:Value},VR n m x x'->xC n m r c->J3 x r=some v->∀w,∃v',(c.foldlM Builtin.max2 x').run P w=.ok v' w/\VR n m v v'
 |[],c,x,x',v,f,d,e,w=>by
  have:c=[]:=b7 (by rw[<-d.1];rfl);subst this;simp[J3]at e;subst e;exact⟨x',YX,f⟩
 |y::r,[],x,x',v,f,d,e,w=>by simp[xC]at d
 |y::r,i::c,x,x',v,f,d,e,w=>by
  have j:VR n m y i:=d.2 0 y i rfl rfl;have g:xC n m r c:=by simpa using d.drop 1
  cases x<;>cases y<;>simp only[J3]at e<;>try cases e
  split at e
  .rename_i k a p b l
   subst l;have:=f.oe;subst this;have:=j.oe;subst this;obtain⟨v',o,h2⟩:=Rt r c (.flat rfl) g e w;exact⟨v',by simp only[List.foldlM_cons,Builtin.max2,Sem.run_bind,Sem.run_pure,Result.andThen_ok];exact o,h2⟩
  .cases e
def allU8:List Value->Option LF
 |[]=>some []
 |.int .u8 n::r=>match allU8 r with|some l=>some (n::l)|none=>none
 |_=>none
def XI:∀(l:List Value) (a:LF),allU8 l=some a->l=a.map (Value.int .u8)
 |[],a,h=>by simp[allU8]at h;subst h;rfl
 |v::l,a,h=>by
  unfold allU8 at h;split at h
  .rename_i e;cases e
  .rename_i n r e
   injection e with b c;subst b;subst c;split at h
   .rename_i r d;injection h with h;subst h;simp[XI l r d]
   .cases h
  .cases h
def WK (a:LF):ByteArray:=⟨(a.map fun n=>UInt8.ofNat n.toNat).toArray⟩
def foldl_push:∀(a:LF) (b:ByteArray),a.foldl (fun r n=>r.push (UInt8.ofNat n.toNat)) b=⟨b.data++(a.map fun n=>UInt8.ofNat n.toNat).toArray⟩
 |[],b=>by simp
 |n::a,b=>by
  rw[kT,foldl_push a];apply ByteArray.ext;simp[ByteArray.push]
def xC.xN {n:Nat} {m:Ti}:∀{l l':List Value},xC n m l l'->(∀v∈l,∀v',VR n m v v'->v'=v)->l'=l
 |[],l',h,_=>b7 (by rw[<-h.1];rfl)
 |v::l,[],h,_=>by simp[xC]at h
 |v::l,v'::l',h,hf=>by
  rw[hf v YX v' (h.2 0 v v' rfl rfl),xC.xN (l:=l) (l':=l') (by simpa using h.drop 1) (fun u a=>hf u (by simp[a]))]
def aConvert (P:Program) (h:AHeap) (src dst:TypeId) (x:Value):Option (Value×AHeap):=
  match P.underlying src,P.underlying dst,x with
  |some _,some (.int k),.int _ n=>some (.int k (awrap k n),h)
  |some _,some .string,.string s=>some (.string s,h)
  |some (.slice e),some .string,.slice a len _=>
    match P.underlying e,a with
    |some (.int .u8),none=>some (.string .empty,h)
    |some (.int .u8),some a=>match readN h a len with
      |some l=>match allU8 l with|some c=>some (.string (WK c),h)|none=>none
      |none=>none
    |_,_=>none
  |some .string,some (.slice e),.string s=>
    match P.underlying e with
    |some (.int .u8)=>if s.size<=1000000/\JO P e=1 then some (.slice (some ⟨h.next,0,none⟩) s.size (km+1),h.alloc (.cells (s.data.toList.map fun b=>.int .u8 b.toNat)))else none
    |_=>none
  |some (.slice _),some (.slice e),.slice (some ⟨id,_,none⟩) _ cap=>
    match P.underlying e,h.own id with
    |some (.int .u8),some (.cells _)=>if(src==dst)=true/\cap<km/\0<cap then some (x,h)else none
    |_,_=>none
  |_,_,_=>none
def Rel.freeze (R:Rel W0 m h w) {id:Nat} {c:List Value} (k:h.own id=some (.cells c)) {C:Array Value} {e:TypeId} {lo hi:Nat} (hb:w.heap[(m id).blk]?=some (.cells C e (lo,hi))):
  Rel W0 m h (w.freeze ⟨(m id).blk,C.size,none⟩ 1):=by
 have f:h.own id≠none:=by rw[k];simp
 have v:¬((1:Nat)=0):=QT;have d:∀b,b≠(m id).blk->(w.freeze ⟨(m id).blk,C.size,none⟩ 1).heap[b]?=w.heap[b]?:=fun b l=>by
  simp only[World.freeze,v,if_false,Pb];rw[if_neg (fun e=>l e.symm)]
 refine⟨by simpa[World.freeze]using R.size,fun b n=>?_,R.ext,R.lt,R.new,fun i o hi=>?_,R.inj,R.os,R.output,R.tape,R.Oi.put (fun _ hi=>hi) (fun b _ hb=>d b (fun e=>hb id f e.symm))⟩
 .rw[d b (by have:=R.new id f;omega)];exact R.cW b n
 .by_cases x : i = id
  .subst x
   rw[k]at hi;injection hi with hi;subst hi;obtain⟨C',e',D,E,j,y,z,A,B,p⟩:=R.own i _ k;rw[hb]at j;injection j with j;injection j with q r g;injection g with g s;subst q r g s
   have a:(w.freeze ⟨(m i).blk,C.size,none⟩ 1).heap[(m i).blk]?=some (.cells C e (if lo==hi then(C.size,C.size+1)else(min lo C.size,max hi (C.size+1)))):=by
    simp only[World.freeze,v,if_false,Pb,if_true,hb,pD]
   by_cases el:lo=hi
   .subst el
    rw[if_pos YX]at a;exact⟨C,e,C.size,C.size+1,a,y,z,A,B,fun i hi=>⟨by simp only[YZ,decide_eq_false_iff_not];left;omega,QT⟩⟩
   .rw [if_neg (by simpa using el)] at a
    refine⟨C,e,_,_,a,y,z,A,B,fun i hi=>⟨?_,by have:=(p i hi).2;omega⟩⟩;have G:=(p i hi).2;have F:C.size<=lo:=by
     rcases uj lo C.size with t|u
     .have := (p lo t).1
      simp at this;omega
     .exact u
    simp only[YZ,decide_eq_false_iff_not];left;omega
  .exact Rel.y3 (R.own i o hi) (J4 _) (Yk.refl _ _) (d _ (fun e=>x (R.inj i id (by rw[hi];simp) f e)))
def SF (w:World) (C:Array Value) (e:TypeId):((w.alloc (.cells C e)).freeze ⟨w.heap.size,C.size,none⟩ 1)=w.alloc (.cells C e (C.size,C.size+1)):=by
 have g:¬((1:Nat)=0):=QT;have c:((w.alloc (.cells C e)).freeze ⟨w.heap.size,C.size,none⟩ 1).heap=(w.alloc (.cells C e (C.size,C.size+1))).heap:=by
  simp only[World.freeze,g,if_false];apply ud;intro j;simp only[Pb];by_cases f:w.heap.size=j
  .subst f
   rw[if_pos rfl,heap_alloc_new,heap_alloc_new];simp
  .rw [if_neg f]
   by_cases d:j<w.heap.size
   .rw[heap_alloc_old _ _ _ d,heap_alloc_old _ _ _ d]
   .rw[Vj (by show(w.heap.push _).size<=j;simp;omega),Vj (by show(w.heap.push _).size<=j;simp;omega)]
 have:∀a b:World,a.heap=b.heap->a.tape=b.tape->a.drawn=b.drawn->a.os=b.os->a.output=b.output->a=b:=by
  intro a b i h2 h3 k l;cases a;cases b;simp_all
 exact this _ _ c rfl rfl rfl rfl
theorem KI {P:Program} (R:Rel W0 m h w) {src dst:TypeId} {x x' v:Value} {h':AHeap} (hx:VR h.next m x x') (e:aConvert P h src dst x=some (v,h')) :
    OK P W0 m h w (convert src dst x') v h':=by
  unfold aConvert at e
  split at e
  · rename_i ds k k0 n hs hd
    injection e with e; simp only [Prod.mk.injEq] at e; obtain ⟨rfl,rfl⟩:=e
    have:=hx.oe; subst this
    refine OK.pure R ⟨.int k (awrap k n),?_,.flat rfl⟩
    unfold convert
    simp only [Sem.run_bind,run_underlying hs,run_underlying hd,Result.andThen_ok]
    cases ds <;> simp [Conv.intToInt,pE]
  · rename_i ds s hs hd
    injection e with e; simp only [Prod.mk.injEq] at e; obtain ⟨rfl,rfl⟩:=e
    have:=hx.Z1; subst this
    refine OK.pure R ⟨.string s,?_,.flat rfl⟩
    unfold convert
    simp only [Sem.run_bind,run_underlying hs,run_underlying hd,Result.andThen_ok]
    cases ds <;> simp
  · rename_i el a len c hs hd
    split at e
    · rename_i hel
      injection e with e; simp only [Prod.mk.injEq] at e; obtain ⟨rfl,rfl⟩:=e
      obtain ⟨rfl,rfl,rfl⟩:=hx.ic
      refine OK.pure R ⟨.string .empty,?_,.flat rfl⟩
      unfold convert
      simp only [Sem.run_bind,run_underlying hs,run_underlying hd,run_underlying hel,Result.andThen_ok,Conv.bytesToString,Sem.run_pure]
    · rename_i a hel
      split at e
      · rename_i l hl
        split at e
        · rename_i ns hns
          injection e with e; simp only [Prod.mk.injEq] at e; obtain ⟨rfl,rfl⟩:=e
          have hlist:=XI _ _ hns
          obtain ⟨l',h1,h2⟩:=R.firstCells (P:=P) (size:=1) hx (l:=l) (by simpa [DJ] using hl)
          obtain ⟨a',c',rfl,har⟩:=hx.readable
          have hl':l'=l:=h1.xN (by
            intro v hv v' hvr
            rw [hlist] at hv
            rw [List.mem_map] at hv
            obtain ⟨k,_,rfl⟩:=hv
            exact hvr.oe)
          subst hl'
          have hrun:=run_bytesToString (P:=P) w a' len c' ns (by rw [← hlist]; simpa [Builtin.firstCells] using h2)
          refine OK.pure R ⟨.string (WK ns),?_,.flat rfl⟩
          unfold convert
          simp only [Sem.run_bind,run_underlying hs,run_underlying hd,run_underlying hel,Result.andThen_ok]
          rw [hrun,foldl_push]
          simp [WK]
        · cases e
      · cases e
    · cases e
  · rename_i el s hs hd
    split at e
    · rename_i hel
      split at e
      · rename_i hc
        obtain ⟨hsz,hts⟩:=hc
        injection e with e; simp only [Prod.mk.injEq] at e; obtain ⟨rfl,rfl⟩:=e
        have:=hx.Z1; subst this
        generalize hC:(Question.appendCap s.size 0 el).cut (w.tape w.drawn (.appendCap s.size 0 el))=cap
        have hcap:s.size≤cap:=by rw [← hC]; simp [Question.cut]
        have hCU:cap < km:=by
          have h1:cap≤maxLen:=by rw [← hC]; exact grownCap_le_maxLen w s.size 0 el (by unfold maxLen; omega)
          have h2:maxLen < km:=by decide
          omega
        have hvr:xC h.next m (s.data.toList.map fun b=>Value.int .u8 b.toNat) ((s.data.map (fun b=>Value.int .u8 b.toNat)++Array.replicate (cap - s.size) (Value.int .u8 0)).toList.take (s.data.toList.map fun b=>Value.int .u8 b.toNat).length):=by
          have:(s.data.map (fun b=>Value.int .u8 b.toNat)++Array.replicate (cap - s.size) (Value.int .u8 0)).toList.take (s.data.toList.map fun b=>Value.int .u8 b.toNat).length=s.data.toList.map fun b=>Value.int .u8 b.toNat:=by
            simp only [Array.toList_append,Array.toList_map]; exact List.take_left
          rw [this]
          refine xC.flat ?_
          rw [List.all_eq_true]; intro v hv; rw [List.mem_map] at hv; obtain ⟨b,_,rfl⟩:=hv; rfl
        generalize hD:s.data.map (fun b=>Value.int .u8 b.toNat)++Array.replicate (cap - s.size) (Value.int .u8 0)=D at hvr
        have hone:∀ v∈D.toList,v.oneCell'=true:=by
          intro v hv
          rw [← hD] at hv
          simp only [Array.toList_append,Array.toList_map,List.mem_append,List.mem_map] at hv
          rcases hv with ⟨b,_,rfl⟩ | hv
          · rfl
          · simp at hv; obtain ⟨_,rfl⟩:=hv; rfl
        have hsize:D.size=cap:=by
          rw [← hD]
          simp only [Array.size_append,Array.size_map,Array.size_replicate]
          have:s.data.size=s.size:=rfl
          omega
        have hlen:(s.data.toList.map fun b=>Value.int .u8 b.toNat).length=s.size:=by simp
        have R2:Rel W0 (Zi m h.next ⟨w.heap.size,0,D.size⟩) (h.alloc (.cells (s.data.toList.map fun b=>Value.int .u8 b.toNat))) (w.drew.alloc (.cells D el (D.size,D.size+1))):=by
          refine R.drew.add ⟨w.heap.size,0,D.size⟩ _ (by show w.heap.size≤(w.heap.push _).size; simp) (fun b _ hb=>heap_alloc_old w.drew _ b hb) R.size (fun i hi hx=>?_) ?_ rfl rfl ⟨rfl,Nat.le_refl _⟩
          · have:=R.pG hi; simp at hx; omega
          · exact ⟨D,el,D.size,D.size+1,heap_alloc_new w.drew _,rfl,by rw [hlen,hsize]; simpa using hcap,by simpa using hvr,hone,fun i hi=>⟨by simp only [Bool.and_eq_false_iff,decide_eq_false_iff_not]; left; omega,by omega⟩⟩
        refine ⟨_,.slice (some ⟨w.heap.size,0,none⟩) s.size cap,_,?_,R2,B8 _ _ _,Nat.le_succ _,?_⟩
        · unfold convert
          simp only [Sem.run_bind,run_underlying hs,run_underlying hd,run_underlying hel,Result.andThen_ok,Conv.stringToBytes,run_choose]
          have hforced:(Question.appendCap s.size 0 el).forced=false:=rfl
          simp only [hforced,Bool.false_eq_true,if_false,Result.andThen_ok,hC,hD,newRow,Sem.run_bind,run_newObj,Sem.run_pure,markStringish,run_shape]
          have e2:({ heap:=w.heap.push (.cells D el),tape:=w.tape,drawn:=w.drawn+1,os:=w.os,output:=w.output } : World)=w.drew.alloc (.cells D el):=rfl
          rw [e2]
          have hsh:(w.drew.alloc (.cells D el)).shape? w.heap.size=some (el,D.size):=by
            have:=heap_alloc_new w.drew (.cells D el)
            simp only [World.shape?]; rw [show w.heap.size=w.drew.heap.size from rfl,this]
          simp only [hsh,run_freeze,Result.andThen_ok]
          have:=SF w.drew D el
          rw [show w.heap.size=w.drew.heap.size from rfl,this]
        · have:=VR.buf (n:=h.next+1) (m:=Zi m h.next ⟨w.heap.size,0,D.size⟩) (id:=h.next) (off:=0) (len:=s.size) (k:=1) (cap':=cap) (a':=⟨w.heap.size,0,none⟩) (Nat.lt_succ_self _) hcap
            (.inl ⟨by rw [Rp],by rw [Rp]; simp [hsize]; exact hCU⟩)
          exact this
      · cases e
    · cases e
  · rename_i es el id off len cap hs hd
    split at e
    · rename_i c hel ho
      split at e
      · rename_i hc
        obtain ⟨hsd,hcu,hc0⟩:=hc
        injection e with e; simp only [Prod.mk.injEq] at e; obtain ⟨rfl,rfl⟩:=e
        obtain ⟨C,e',lo,hi,q1,_⟩:=R.own id _ ho
        have hinv:VR h.next m (.slice (some ⟨id,off,none⟩) len cap) (.slice (some ⟨(m id).blk,(m id).base+off,none⟩) len cap)∧x' = .slice (some ⟨(m id).blk,(m id).base+off,none⟩) len cap:=by
          cases hx with
          | flat h=>simp [Fw.flat] at h
          | slice h hc=>exact ⟨.slice h hc,rfl⟩
          | buf h hl ha=>omega
          | empty=>omega
        obtain ⟨hv,rfl⟩:=hinv
        refine ⟨m,.slice (some ⟨(m id).blk,(m id).base+off,none⟩) len cap,w.freeze ⟨(m id).blk,C.size,none⟩ 1,?_,R.freeze ho q1,Yk.refl _ _,Nat.le_refl _,hv⟩
        have hsh:w.shape? (m id).blk=some (e',C.size):=by simp only [World.shape?,q1]
        unfold convert
        simp only [Sem.run_bind,run_underlying hs,run_underlying hd,run_underlying hel,Result.andThen_ok,hsd,markStringish,run_shape,hsh,run_freeze,Sem.run_pure]
      · cases e
    · cases e
  · cases e
def mfind (k:IntKind) (z:Int):List (Value×Value)->Nat->Option (Option (Nat×Value))
 |[],_=>some none
 |(.int a z',v)::r,i=>if k=a then(if z=z' then some (some (i,v))else mfind k z r (i+1))else none
 |_::_,_=>none
def vK {n:Nat} {m:Ti} {kk k:IntKind} {z:Int}:∀(es:List (Value×Value)) (E:List MapEntry) (i:Nat),xC n m (es.map (·.1)) (E.map (·.key))->xC n m (es.map (·.2)) (E.map (·.val))->∀r,mfind k z es i=some r->
  (r=none/\Instr.findNow (.int kk) (.int k z) E i=some none)\/∃j v v',r=some (j,v)/\Instr.findNow (.int kk) (.int k z) E i=some (some (j,v'))/\VR n m v v'/\i<=j/\(es[j-i]?).map (·.1)=some (.int k z)
 |[],E,i,b,c,r,e=>by
  have:E=[]:=by
   have:=b.1;simp at this;exact b7 this.symm
  subst this;simp[mfind]at e;subst e;exact .inl ⟨rfl,rfl⟩
 |(a,v)::es,[],i,b,c,r,e=>by simp[xC]at b
 |(a,v)::es,d::E,i,b,c,r,e=>by
  cases a<;>simp only[mfind]at e<;>try cases e
  rename_i x z';have y:VR n m (.int x z') d.key:=b.2 0 _ _ rfl rfl;have h2:VR n m v d.val:=c.2 0 _ _ rfl rfl;have t:=y.oe;split at e
  .rename_i f
   subst f;split at e
   .rename_i g
    subst g;injection e with e;subst e;refine .inr ⟨i,v,d.val,rfl,?_,h2,J4 _,YX⟩;simp[Instr.findNow,Instr.sameNow,t]
   .rename_i g
    have l:xC n m (es.map (·.1)) (E.map (·.key)):=by simpa using b.drop 1
    have o:xC n m (es.map (·.2)) (E.map (·.val)):=by simpa using c.drop 1
    have p:(z==z')=false:=by simpa using g
    have hs:Instr.findNow (.int kk) (.int k z) (d::E) i=Instr.findNow (.int kk) (.int k z) E (i+1):=by
     simp[Instr.findNow,Instr.sameNow,t,p]
    rcases vK es E (i+1) l o r e with⟨q,s⟩|⟨j,u,u',q,s,A,C,B⟩
    .exact .inl ⟨q,hs.trans s⟩
    .refine .inr ⟨j, u, u', q, hs.trans s, A, QT, ?_⟩
     rw[show j-i=(j-(i+1))+1 by omega];simpa using B
  .cases e
def aLookup (P:Program) (h:AHeap) (t:TypeId) (x i:Value) (ok:Bool):Option Value:=
 match P.underlying t,x,i with
 |some (.map b c),.map (some r),.int k z=>
  match P.underlying b,h.own r,azero P c with
  |some (.int _),some (.map es),some a=>
   if flat a then
    match mfind k z es 0 with
    |some (some (_,v))=>some (bif ok then .tuple #[v,.bool true]else v)
    |some none=>some (bif ok then .tuple #[a,.bool false]else a)
    |none=>none
   else none
  |_,_,_=>none
 |_,_,_=>none
def ZC {P:Program} {a:TypeId} {kk k:IntKind} {z:Int} (c:P.underlying a=some (.int kk)) (b:Bool) (n:Nat) (w:World):(Instr.checkKey b (n+1) a (.int k z)).run P w=.ok () w:=by
 unfold Instr.checkKey;rw[Sem.run_bind,run_underlying c];simp
def aLookup_rel {P:Program} (R:Rel W0 m h w) {t:TypeId} {x i x' f v:Value} {ok:Bool} (n:VR h.next m x x') (hi:VR h.next m i f) (e:aLookup P h t x i ok=some v):
  ∃v',(Instr.lookup t x' f ok).run P w=.ok v' w/\VR h.next m v v':=by
 unfold aLookup at e;split at e
 .rename_i p s r k z y
  split at e
  .rename_i kk es g d A B
   split at e
   .rename_i c
    have:=hi.oe;subst this;cases n with
    |flat hf=>simp[Fw.flat]at hf
    |map G=>
     obtain⟨E,clock,_,C,h2,h3⟩:=R.vx (P:=P) A
     have a:(Instr.lookup t (.map (some (m r).blk)) (.int k z) ok).run P w=((do
       let(v,o) <-match<-Instr.findKey p (.int k z) E.toList with
        |some (_,v)=>pure (v,true)
        |none=>pure (<-zeroValue s,false)
       pure (if ok then .tuple #[v,.bool o]else v):Sem Value)).run P w:=by
      unfold Instr.lookup;simp only[Sem.run_bind,run_underlying y,Result.andThen_ok,C,Sem.run_pure];rw[ZC d];rfl
     split at e
     .rename_i j u hf
      injection e with e;subst e;rcases vK (kk:=kk) es E.toList 0 h2 h3 _ hf with⟨q,_⟩|⟨D,u1,u',b,F,l,_⟩
      .cases q
      .injection b with b; simp only [Ig] at b; obtain ⟨rfl, rfl⟩ := b
       refine⟨if ok then .tuple #[u',.bool true]else u',?_,?_⟩
       .rw [a]
        simp only[Instr.findKey,Sem.run_bind,run_underlying d,Result.andThen_ok,F,Sem.run_pure]
       .cases ok
        .exact l
        .exact .WE (.cons l (.cons (.flat rfl) (.nil _ _)))
     .rename_i hf
      injection e with e;subst e;rcases vK (kk:=kk) es E.toList 0 h2 h3 _ hf with⟨_,q⟩|⟨D,u1,u',b,_⟩
      .refine ⟨if ok then .tuple #[g, .bool false] else g, ?_, ?_⟩
       .rw [a]
        simp only[Instr.findKey,Sem.run_bind,run_underlying d,Result.andThen_ok,q,Sem.run_pure,yD B]
       .cases ok
        .exact .flat c
        .exact .WE (.cons (.flat c) (.cons (.flat rfl) (.nil _ _)))
      .cases b
     .cases e
   .cases e
  .cases e
 .cases e
def aMapSet (P:Program) (h:AHeap) (t:TypeId) (x i v:Value):Option AHeap:=
 match P.underlying t,x,i with
 |some (.map a _),.map (some r),.int k z=>
  match P.underlying a,h.own r with
  |some (.int _),some (.map es)=>
   match mfind k z es 0 with
   |some (some (j,_))=>some (h.put r (.map (es.set j (.int k z,v))))
   |some none=>some (h.put r (.map (es++[(.int k z,v)])))
   |none=>none
  |_,_=>none
 |_,_,_=>none
def Rel.QE (R:Rel W0 m h w) {r:Nat} {es k:List (Value×Value)} {E E':Array MapEntry} {clock clock':Nat} (s:h.own r=some (.map es)) (hb:w.heap[(m r).blk]?=some (.map E clock))
  (t:xC h.next m (k.map (·.1)) (E'.toList.map (·.key))) (u:xC h.next m (k.map (·.2)) (E'.toList.map (·.val))):
  Rel W0 m (h.put r (.map k)) {w with heap:=w.heap.setIfInBounds (m r).blk (.map E' clock')}:=by
 have l:h.own r≠none:=by rw[s];simp
 have a:∀i,(h.put r (.map k)).own i≠none->h.own i≠none:=by
  intro i c;by_cases f:i=r
  .subst f;exact l
  .rwa[AHeap.Dz _ _ _ _ f]at c
 have n:(m r).blk<w.heap.size:=(PY.1 hb).1;have g:∀b,b≠(m r).blk->(w.heap.setIfInBounds (m r).blk (.map E' clock'))[b]?=w.heap[b]?:=fun b p=>by
  rw[Ce];simp[Hn p]
 refine⟨by simpa using R.size,fun b AD=>?_,R.ext,fun i c=>R.lt i (a i c),fun i c=>R.new i (a i c),fun i o d=>?_,fun i j c q=>R.inj i j (a i c) (a j q),R.os,R.output,R.tape,R.Oi.put a (fun b _ hb=>g b (fun e=>hb r l e.symm))⟩
 .rw[g b (by have:=R.new r l;omega)];exact R.cW b AD
 .by_cases f : i = r
  .subst f
   rw[AHeap.zm]at d;injection d with d;subst d;exact⟨E',clock',by rw[Ce];simp[n],t,u⟩
  .rw [AHeap.Dz _ _ _ _ f] at d
   exact Rel.y3 (R.own i o d) (J4 _) (Yk.refl _ _) (g _ (fun e=>f (R.inj i r (by rw[d];simp) l e)))
def run_setObj_map {P:Program} {w:World} {r:Nat} {es:Array MapEntry} {clock:Nat} (o:Obj) (hb:w.heap[r]?=some (.map es clock)):(setObj r o).run P w=.ok () {w with heap:=w.heap.setIfInBounds r o}:=by
 simp[setObj,Sem.run,hb]
def Sq {P:Program} (R:Rel W0 m h w) {t:TypeId} {x i v x' B v':Value} {h':AHeap} (H:VR h.next m x x') (hi:VR h.next m i B) (C:VR h.next m v v') (e:aMapSet P h t x i v=some h'):
  ∃w',(Instr.mapUpdate t x' B v').run P w=.ok () w'/\Rel W0 m h' w'/\h'.next=h.next:=by
 unfold aMapSet at e;split at e
 .rename_i K L r k z D
  split at e
  .rename_i kk es n o
   have:=hi.oe;subst this;cases H with
   |flat hf=>simp[Fw.flat]at hf
   |map M=>
    obtain⟨E,clock,hb,F,h2,h3⟩:=R.vx (P:=P) o;split at e
    .rename_i j u hf
     injection e with e;subst e;rcases vK (kk:=kk) es E.toList 0 h2 h3 _ hf with⟨q,_⟩|⟨I,u1,u',c,J,N,_,d⟩
     .cases q
     .injection c with c; simp only [Ig] at c; obtain ⟨rfl, rfl⟩ := c
      rw[aan]at d;have b:j<es.length:=by
       cases G:es[j]? with
       |none=>rw[G]at d;cases d
       |some y=>exact(bH.1 G).1
      have hlen:E.toList.length=es.length:=by have:=h2.1;simpa using this.symm
      have a:j<E.size:=by rw[<-pU,hlen];exact b
      have hold:E[j].key=.int k z:=by
       have f:es[j].1=.int k z:=by
        rw[dR b]at d;simpa using d
       have:=h2.2 j (.int k z) E[j].key (by rw[Rv,dR b];simp[f]) (by rw[Rv,dR (by simpa using a)];simp);exact this.oe
      have p:((E[j]?).map (·.key)).getD (.int k z)=.int k z:=by rw[Ef a];simp[hold]
      refine⟨_,?_,R.QE (E':=E.modify j fun g=>{g with key:=.int k z,val:=v'}) (clock':=clock) o hb ?_ ?_,rfl⟩
      .unfold Instr.mapUpdate
       simp only[Sem.run_bind,run_underlying D,Result.andThen_ok,F];rw[ZC n];simp only[Result.andThen_ok,Instr.findKey,Sem.run_bind,run_underlying n,J,Sem.run_pure,p];have s:(Instr.keyThatStays (.int k z) (.int k z)).run P w=.ok (.int k z) w:=by
        simp[Instr.keyThatStays,Instr.sameBits]
       rw[s];simp only[Result.andThen_ok];exact run_setObj_map _ hb
      .have := h2.set j (x := .int k z) (x' := .int k z) (.flat rfl)
       refine(?_:xC _ _ _ _);have f:(es.set j (.int k z,v)).map (·.1)=(es.map (·.1)).set j (.int k z):=by rw[YY]
       have A:((E.modify j fun g=>{g with key:=.int k z,val:=v'}).toList.map (·.key))=(E.toList.map (·.key)).set j (.int k z):=by
        apply Lc;intro q;rw[Rv,Pa,Pb,v8];by_cases l:j=q
        .subst l;rw[Ef a];simp[a]
        .simp[l]
       rw[f,A];exact this
      .have := h3.set j (x := v) (x' := v') C
       have f:(es.set j (.int k z,v)).map (·.2)=(es.map (·.2)).set j v:=by rw[YY]
       have A:((E.modify j fun g=>{g with key:=.int k z,val:=v'}).toList.map (·.val))=(E.toList.map (·.val)).set j v':=by
        apply Lc;intro q;rw[Rv,Pa,Pb,v8];by_cases l:j=q
        .subst l;rw[Ef a];simp[a]
        .simp[l]
       rw[f,A];exact this
    .rename_i hf
     injection e with e;subst e;rcases vK (kk:=kk) es E.toList 0 h2 h3 _ hf with⟨_,q⟩|⟨I,u1,u',c,_⟩
     .refine ⟨_, ?_, R.QE (E' := E.push { key := .int k z, val := v', born := clock }) (clock' := clock + 1) o hb ?_ ?_, rfl⟩
      .unfold Instr.mapUpdate
       simp only[Sem.run_bind,run_underlying D,Result.andThen_ok,F];rw[ZC n];simp only[Result.andThen_ok,Instr.findKey,Sem.run_bind,run_underlying n,q,Sem.run_pure];exact run_setObj_map _ hb
      .have := h2.append (xC.cons (.flat (v := .int k z) rfl) (.nil _ _))
       simpa using this
      .have := h3.append (xC.cons C (.nil _ _))
       simpa using this
     .cases c
    .cases e
  .cases e
 .cases e
def keyArr (P:Program) (a:TypeId) (x:Value):Bool:=
  match P.underlying a,x with
  |some (.array len e),.agg xs=>match P.underlying e,allInts xs.toList with
    |some (.int _),some _=>JO P e==1&&xs.size==len
    |_,_=>false
  |_,_=>false
def afind (P:Program) (a:TypeId) (key:Value):List (Value×Value)->Nat->Option (Option (Nat×Value))
  |[],_=>some none
  |(k,v)::r,i=>match aEq P a key k with
    |some true=>some (some (i,v))
    |some false=>afind P a key r (i+1)
    |none=>none
def aLookupA (P:Program) (h:AHeap) (t:TypeId) (x i:Value) (ok:Bool):Option Value:=
 match P.underlying t,x with
 |some (.map b c),.map (some r)=>
  if keyArr P b i then
   match h.own r,azero P c with
   |some (.map es),some a=>
    match afind P b i es 0 with
    |some (some (_,v))=>some (bif ok then .tuple #[v,.bool true]else v)
    |some none=>if flat a then some (bif ok then .tuple #[a,.bool false]else a)else none
    |none=>none
   |_,_=>none
  else none
 |_,_=>none
def aMapSetA (P:Program) (h:AHeap) (t:TypeId) (x i v:Value):Option AHeap:=
 match P.underlying t,x with
 |some (.map a _),.map (some r)=>
  if keyArr P a i then
   match h.own r with
   |some (.map es)=>
    match afind P a i es 0 with
    |some (some (j,_))=>some (h.put r (.map (es.set j (i,v))))
    |some none=>some (h.put r (.map (es++[(i,v)])))
    |none=>none
   |_=>none
  else none
 |_,_=>none
def PX {n:Nat} {m:Ti}:∀{l l':List Value} {a:List (IntKind×Int)},xC n m l l'->allInts l=some a->l'=l
 |[],l',a,h,_=>by
  have:l'=[]:=b7 (by rw[<-h.1];rfl);rw[this]
 |v::l,[],a,h,ha=>by simp[xC]at h
 |v::l,v'::l',a,h,ha=>by
  have b:VR n m v v':=h.2 0 v v' rfl rfl;have c:xC n m l l':=by simpa using h.drop 1
  cases v<;>simp only[allInts]at ha<;>try cases ha
  split at ha
  .rename_i r d
   have:=b.oe;subst this;rw[PX c d]
  .cases ha
def LY {P:Program} {c:TypeId} {x:Value} (b:keyArr P c x=true):
  ∃len e k xs a,P.underlying c=some (.array len e)/\x=.agg xs/\P.underlying e=some (.int k)/\allInts xs.toList=some a/\JO P e=1/\xs.size=len:=by
 unfold keyArr at b;split at b
 .rename_i len e xs d
  split at b
  .rename_i k a f ha
   simp only[SH,beq_iff_eq]at b;exact⟨len,e,k,xs,a,d,rfl,f,ha,b.1,b.2⟩
  .cases b
 .cases b
def VR.Xj {n:Nat} {m:Ti} {xs:Array Value} {v':Value} (h:VR n m (.agg xs) v'):∃a,v'=.agg a/\xC n m xs.toList a.toList:=by
 cases h with
 |flat hf=>simp[Fw.flat]at hf
 |agg ha h=>exact⟨_,rfl,by simpa using ha,fun i v v' e e'=>h i v v' (by simpa using e) (by simpa using e')⟩
def Vl {P:Program} {b:TypeId} {x x':Value} {n:Nat} {m:Ti} (c:keyArr P b x=true) (d:VR n m x x'):x'=x:=by
 obtain⟨len,e,k,xs,a,_,rfl,_,ha,_⟩:=LY c;obtain⟨f,rfl,g⟩:=d.Xj;have:=PX g ha;rw[XX]at this;rw[this]
def bA {P:Program} (f:Nat->Sem (ForInStep PUnit)):∀(n s:Nat) (w:World),(∀i w,s<=i->i<s+n->(f i).run P w=.ok (.yield PUnit.unit) w)->(forIn (m:=Sem) (List.range' s n) PUnit.unit fun i _=>f i).run P w=.ok PUnit.unit w
 |0,s,w,_=>by simp
 |n+1,s,w,hf=>by
  rw[aah];simp only[List.forIn_cons,Sem.run_bind,hf s w (J4 _) QT,Result.andThen_ok];exact bA f n (s+1) w fun i w a h2=>hf i w QT QT
def V9:∀{l:List Value} {a:List (IntKind×Int)},allInts l=some a->∀i,i<l.length->∃k z,l[i]?=some (.int k z)
 |[],_,_,i,hi=>absurd hi YX
 |v::l,a,ha,i,hi=>by
  cases v<;>simp only[allInts]at ha<;>try cases ha
  split at ha
  .rename_i k z _ r b
   cases i with
   |zero=>exact⟨_,_,rfl⟩
   |succ i=>simpa using V9 b i (by simpa using hi)
  .cases ha
def y5 {P:Program} {g:TypeId} {x:Value} (l:keyArr P g x=true) (b:Bool) (n:Nat) (w:World):(Instr.checkKey b (n+2) g x).run P w=.ok () w:=by
 obtain⟨len,e,k,xs,a,o,rfl,c,ha,hs,p⟩:=LY l;unfold Instr.checkKey;rw[Sem.run_bind,run_underlying o];simp only[Result.andThen_ok,qL181,Std.Legacy.Range.size];rw[Sem.run_bind,bA (P:=P) _ _ 0 w fun i w q h2=>?_]
 .simp
 .have d : i < xs.toList.length := by simp; omega
  obtain⟨j,z,hi⟩:=V9 ha i d;have f:∀w,(part e xs i).run P w=.ok (.int j z) w:=fun w=>by
   have:xs[i]?=some (.int j z):=by simpa using hi
   simp[part,bB c,isAggD,this]
  simp only[Sem.run_bind,NL c,hs,uZ,f,ZC c,Result.andThen_ok,Sem.run_pure]
def Gx {P:Program} {n:Nat} {m:Ti} {c:TypeId} {key:Value} (b:VR n m key key):∀(es:List (Value×Value)) (E:List MapEntry) (i:Nat) (w:World),xC n m (es.map (·.1)) (E.map (·.key))->xC n m (es.map (·.2)) (E.map (·.val))->∀r,afind P c key es i=some r->
  (r=none/\(Instr.findAsking c key E i).run P w=.ok none w)\/∃j v v',r=some (j,v)/\(Instr.findAsking c key E i).run P w=.ok (some (j,v')) w/\VR n m v v'/\i<=j/\∃g k2,(es[j-i]?).map (·.1)=some g/\(E[j-i]?).map (·.key)=some k2/\VR n m g k2/\aEq P c key g=some true
 |[],E,i,w,f,k,r,e=>by
  have:E=[]:=by
   have:=f.1;simp at this;exact b7 this.symm
  subst this;simp[afind]at e;subst e;exact .inl ⟨rfl,by simp[Instr.findAsking]⟩
 |(a,v)::es,[],i,w,f,k,r,e=>by simp[xC]at f
 |(a,v)::es,d::E,i,w,f,k,r,e=>by
  have l:VR n m a d.key:=f.2 0 _ _ rfl rfl;have h2:VR n m v d.val:=k.2 0 _ _ rfl rfl;have o:xC n m (es.map (·.1)) (E.map (·.key)):=by simpa using f.drop 1
  have p:xC n m (es.map (·.2)) (E.map (·.val)):=by simpa using k.drop 1
  simp only[afind]at e;split at e
  .rename_i ha
   injection e with e;subst e;have:=pz P c key d.key (vY b l ha) w;refine .inr ⟨i,v,d.val,rfl,?_,h2,J4 _,a,d.key,YX,YX,l,ha⟩;unfold Instr.findAsking;simp only[Sem.run_bind,this,Result.andThen_ok,if_true,Sem.run_pure]
  .rename_i ha
   have:=pz P c key d.key (vY b l ha) w;have hs:(Instr.findAsking c key (d::E) i).run P w=(Instr.findAsking c key E (i+1)).run P w:=by
    conv=>lhs;unfold Instr.findAsking
    simp only[Sem.run_bind,this,Result.andThen_ok,Z2,if_false]
   rcases Gx b es E (i+1) w o p r e with⟨q,s⟩|⟨j,u,u',q,s,t,A,g,k2,x,y,z⟩
   .exact .inl ⟨q,hs.trans s⟩
   .refine .inr ⟨j, u, u', q, hs.trans s, t, QT, g, k2, ?_, ?_, z⟩
    .rw[show j-i=(j-(i+1))+1 by omega];simpa using x
    .rw[show j-i=(j-(i+1))+1 by omega];simpa using y
  .cases e
def PV {P:Program} {b:TypeId} {key:Value} (c:keyArr P b key=true) (E:List MapEntry) (w:World):(Instr.findKey b key E).run P w=(Instr.findAsking b key E).run P w:=by
 obtain⟨len,e,k,xs,a,d,rfl,f,ha,hs,g⟩:=LY c;unfold Instr.findKey;rw[Sem.run_bind,run_underlying d];simp only[Result.andThen_ok];cases E with
 |nil=>simp[Instr.findNow,Instr.findAsking]
 |cons i E=>simp[Instr.findNow,Instr.sameNow]
def WN {n:Nat} {m:Ti}:∀{l:List Value} {a:List (IntKind×Int)},allInts l=some a->xC n m l l
 |[],_,_=>.nil _ _
 |v::l,a,ha=>by
  cases v<;>simp only[allInts]at ha<;>try cases ha
  split at ha
  .rename_i r b
   exact .cons (.flat rfl) (WN b)
  .cases ha
def ri {P:Program} {b:TypeId} {x:Value} {n:Nat} {m:Ti} (c:keyArr P b x=true):VR n m x x:=by
 obtain⟨len,e,k,xs,a,_,rfl,_,ha,_⟩:=LY c;exact VR.DA (WN ha)
def aLookupA_rel {P:Program} (R:Rel W0 m h w) {t:TypeId} {x i x' f v:Value} {ok:Bool} (l:VR h.next m x x') (hi:VR h.next m i f) (e:aLookupA P h t x i ok=some v):
  ∃v',(Instr.lookup t x' f ok).run P w=.ok v' w/\VR h.next m v v':=by
 unfold aLookupA at e;split at e
 .rename_i n p r s
  split at e
  .rename_i a
   split at e
   .rename_i es g y z
    have:=Vl a hi;subst this;cases l with
    |flat hf=>simp[Fw.flat]at hf
    |map D=>
     obtain⟨E,clock,_,A,h2,h3⟩:=R.vx (P:=P) y
     have b:(Instr.lookup t (.map (some (m r).blk)) f ok).run P w=((do
       let(v,o) <-match<-Instr.findAsking n f E.toList with
        |some (_,v)=>pure (v,true)
        |none=>pure (<-zeroValue p,false)
       pure (if ok then .tuple #[v,.bool o]else v):Sem Value)).run P w:=by
      unfold Instr.lookup;simp only[Sem.run_bind,run_underlying s,Result.andThen_ok,A,Sem.run_pure];rw[y5 a];simp only[Result.andThen_ok,PV a];rfl
     split at e
     .rename_i j u hf
      injection e with e;subst e;rcases Gx (ri a) es E.toList 0 w h2 h3 _ hf with⟨q,_⟩|⟨B,u1,u',c,C,k,_⟩
      .cases q
      .injection c with c; simp only [Ig] at c; obtain ⟨rfl, rfl⟩ := c
       refine⟨if ok then .tuple #[u',.bool true]else u',?_,?_⟩
       .rw [b]
        simp only[Sem.run_bind,C,Result.andThen_ok,Sem.run_pure]
       .cases ok
        .exact k
        .exact .WE (.cons k (.cons (.flat rfl) (.nil _ _)))
     .rename_i hf
      split at e
      .rename_i d
       injection e with e;subst e;rcases Gx (ri a) es E.toList 0 w h2 h3 _ hf with⟨_,q⟩|⟨B,u1,u',c,_⟩
       .refine ⟨if ok then .tuple #[g, .bool false] else g, ?_, ?_⟩
        .rw [b]
         simp only[Sem.run_bind,q,Result.andThen_ok,Sem.run_pure,yD z]
        .cases ok
         .exact .flat d
         .exact .WE (.cons (.flat d) (.cons (.flat rfl) (.nil _ _)))
       .cases c
      .cases e
     .cases e
   .cases e
  .cases e
 .cases e
def Ai:∀{l l':List Value} {a:List (IntKind×Int)},allInts l=some a->allInts l'=some a->l=l'
 |[],[],_,_,_=>rfl
 |[],v::l',a,h,h'=>by
  simp only[allInts,Xz]at h;subst h
  cases v<;>simp only[allInts]at h'<;>try cases h'
  split at h'<;>simp at h'
 |v::l,[],a,h,h'=>by
  simp only[allInts,Xz]at h';subst h'
  cases v<;>simp only[allInts]at h<;>try cases h
  split at h<;>simp at h
 |v::l,v'::l',a,h,h'=>by
  cases v<;>simp only[allInts]at h<;>try cases h
  cases v'<;>simp only[allInts]at h'<;>try cases h'
  split at h
  .rename_i r c
   split at h'
   .rename_i f b
    injection h with h;injection h' with h';subst h;injection h' with d h2;injection d with h3 e;subst h2 h3 e;rw[Ai c b]
   .cases h'
  .cases h
def aEq_key {P:Program} {d:TypeId} {key c:Value} (g:keyArr P d key=true) (e:aEq P d key c=some true):c=key:=by
 obtain⟨len,el,k,xs,a,i,rfl,j,ha,hs,l⟩:=LY g
 cases c<;>simp only[aEq,i]at e<;>try cases e
 rename_i ys;simp only[j,ha]at e;split at e
 .rename_i n a' b f h2 h3
  injection f with f;injection h2 with h2;subst h2;split at e
  .injection e with e
   have:a=b:=by simpa using e
   subst this;have:=Ai ha h3;rw[XX]at this;rw[this]
  .cases e
 .cases e
def zY:∀{l:List Value} {a:List (IntKind×Int)},allInts l=some a->∀n,((l.zip l).all fun(x,y)=>Instr.sameBits n x y)=true
 |[],_,_,_=>rfl
 |v::l,a,ha,n=>by
  cases v<;>simp only[allInts]at ha<;>try cases ha
  split at ha
  .rename_i k z _ r b
   have:=zY b n;have c:Instr.sameBits n (.int k z) (.int k z)=true:=by cases n<;>simp[Instr.sameBits]
   simp only[List.zip_cons_cons,FD,c,this,Bool.and_self]
  .cases ha
def zy {P:Program} {b:TypeId} {key:Value} (c:keyArr P b key=true) (w:World):(Instr.keyThatStays key key).run P w=.ok key w:=by
 obtain⟨len,el,k,xs,a,d,rfl,e,ha,hs,f⟩:=LY c;have:Instr.sameBits 10000 (.agg xs) (.agg xs)=true:=by
  have:=zY ha 9999;show(xs.size==xs.size&&_)=true;rw[this];simp
 unfold Instr.keyThatStays;rw[if_pos this];simp
def bz {P:Program} (R:Rel W0 m h w) {t:TypeId} {x i v x' g v':Value} {h':AHeap} (F:VR h.next m x x') (hi:VR h.next m i g) (z:VR h.next m v v') (e:aMapSetA P h t x i v=some h'):
  ∃w',(Instr.mapUpdate t x' g v').run P w=.ok () w'/\Rel W0 m h' w'/\h'.next=h.next:=by
 unfold aMapSetA at e;split at e
 .rename_i K L r A
  split at e
  .rename_i a
   split at e
   .rename_i es k
    have:=Vl a hi;subst this;cases F with
    |flat hf=>simp[Fw.flat]at hf
    |map M=>
     obtain⟨E,clock,hb,B,h2,h3⟩:=R.vx (P:=P) k;split at e
     .rename_i j u hf
      injection e with e;subst e;rcases Gx (ri a) es E.toList 0 w h2 h3 _ hf with⟨q,_⟩|⟨G,u1,u',c,H,N,_,O,k2,l,C,I,J⟩
      .cases q
      .injection c with c; simp only [Ig] at c; obtain ⟨rfl, rfl⟩ := c
       rw[aan]at l C;obtain rfl:=aEq_key a J;obtain rfl:=Vl a I;have n:j<es.length:=by
        cases D:es[j]? with
        |none=>rw[D]at l;cases l
        |some y=>exact(bH.1 D).1
       have hlen:E.toList.length=es.length:=by have:=h2.1;simpa using this.symm
       have b:j<E.size:=by rw[<-pU,hlen];exact n
       have o:((E[j]?).map (·.key)).getD k2=k2:=by
        have:(E[j]?).map (·.key)=some k2:=by simpa using C
        rw[this];rfl
       refine⟨_,?_,R.QE (E':=E.modify j fun d=>{d with key:=k2,val:=v'}) (clock':=clock) k hb ?_ ?_,rfl⟩
       .unfold Instr.mapUpdate
        simp only[Sem.run_bind,run_underlying A,Result.andThen_ok,B];rw[y5 a];simp only[Result.andThen_ok,PV a,H,o];rw[Sem.run_bind,zy a];simp only[Result.andThen_ok];exact run_setObj_map _ hb
       .have := h2.set j (x := k2) (x' := k2) (ri a)
        refine(?_:xC _ _ _ _);have p:(es.set j (k2,v)).map (·.1)=(es.map (·.1)).set j k2:=by rw[YY]
        have s:((E.modify j fun d=>{d with key:=k2,val:=v'}).toList.map (·.key))=(E.toList.map (·.key)).set j k2:=by
         apply Lc;intro q;rw[Rv,Pa,Pb,v8];by_cases f:j=q
         .subst f;rw[Ef b];simp[b]
         .simp[f]
        rw[p,s];exact this
       .have := h3.set j (x := v) (x' := v') z
        have p:(es.set j (k2,v)).map (·.2)=(es.map (·.2)).set j v:=by rw[YY]
        have s:((E.modify j fun d=>{d with key:=k2,val:=v'}).toList.map (·.val))=(E.toList.map (·.val)).set j v':=by
         apply Lc;intro q;rw[Rv,Pa,Pb,v8];by_cases f:j=q
         .subst f;rw[Ef b];simp[b]
         .simp[f]
        rw[p,s];exact this
     .rename_i hf
      injection e with e;subst e;rcases Gx (ri a) es E.toList 0 w h2 h3 _ hf with⟨_,q⟩|⟨G,u1,u',c,_⟩
      .refine ⟨_, ?_, R.QE (E' := E.push { key := g, val := v', born := clock }) (clock' := clock + 1) k hb ?_ ?_, rfl⟩
       .unfold Instr.mapUpdate
        simp only[Sem.run_bind,run_underlying A,Result.andThen_ok,B];rw[y5 a];simp only[Result.andThen_ok,PV a,q];exact run_setObj_map _ hb
       .have := h2.append (xC.cons (ri (P := P) a) (.nil _ _))
        simpa using this
       .have := h3.append (xC.cons z (.nil _ _))
        simpa using this
      .cases c
     .cases e
   .cases e
  .cases e
 .cases e
def bLookup (P:Program) (h:AHeap) (t:TypeId) (x i:Value) (ok:Bool):Option Value:=
 match aLookup P h t x i ok with
 |some v=>some v
 |none=>aLookupA P h t x i ok
def bMapSet (P:Program) (h:AHeap) (t:TypeId) (x i v:Value):Option AHeap:=
 match aMapSet P h t x i v with
 |some v=>some v
 |none=>aMapSetA P h t x i v
def SC {P:Program} (R:Rel W0 m h w) {t:TypeId} {x i x' a v:Value} {ok:Bool} (b:VR h.next m x x') (hi:VR h.next m i a) (e:bLookup P h t x i ok=some v):
  ∃v',(Instr.lookup t x' a ok).run P w=.ok v' w/\VR h.next m v v':=by
 unfold bLookup at e;split at e
 .rename_i c;injection e with e;subst e;exact aLookup_rel R b hi c
 .exact aLookupA_rel R b hi e
def KY {P:Program} (R:Rel W0 m h w) {t:TypeId} {x i v x' a v':Value} {h':AHeap} (b:VR h.next m x x') (hi:VR h.next m i a) (c:VR h.next m v v') (e:bMapSet P h t x i v=some h'):
  ∃w',(Instr.mapUpdate t x' a v').run P w=.ok () w'/\Rel W0 m h' w'/\h'.next=h.next:=by
 unfold bMapSet at e;split at e
 .rename_i d;injection e with e;subst e;exact Sq R b hi c d
 .exact bz R b hi c e
def aDelete (P:Program) (h:AHeap) (t:TypeId) (x i:Value):Option (Value×AHeap):=
 match P.underlying t,x,i with
 |some (.map a _),.map (some r),.int k z=>
  match P.underlying a,h.own r with
  |some (.int _),some (.map es)=>
   match mfind k z es 0 with
   |some (some (j,_))=>some (.tuple #[],h.put r (.map (es.eraseIdx j)))
   |some none=>some (.tuple #[],h.put r (.map es))
   |none=>none
  |_,_=>none
 |_,_,_=>none
def ky {α β:Type} (f:α->β):∀(l:List α) (j:Nat),(l.eraseIdx j).map f=(l.map f).eraseIdx j
 |[],_=>rfl
 |_::_,0=>rfl
 |a::l,j+1=>by simp[List.eraseIdx,ky f l j]
def xC.eraseIdx {n:Nat} {m:Ti} {l l':List Value} (h:xC n m l l') (j:Nat):xC n m (l.eraseIdx j) (l'.eraseIdx j):=by
 refine⟨?_,fun i v v' e e'=>?_⟩
 .rw[FK,FK,h.1]
 .rw [qL238] at e e'
  split at e
  .rename_i hi;rw[if_pos hi]at e';exact h.2 i v v' e e'
  .rename_i hi;rw[if_neg hi]at e';exact h.2 (i+1) v v' e e'
def u3 {P:Program} (R:Rel W0 m h w) {t:TypeId} {ats:Array TypeId} (b:ats[0]?=some t) {ty:TypeId} {x i x' f v:Value} {h':AHeap} (o:VR h.next m x x') (hi:VR h.next m i f) (e:aDelete P h t x i=some (v,h')):
  OK P W0 m h w (Builtin.delete_ ats ty #[x',f]) v h':=by
 unfold aDelete at e;split at e
 .rename_i y A r k z g
  split at e
  .rename_i kk es c d
   have:=hi.oe;subst this;cases o with
   |flat hf=>simp[Fw.flat]at hf
   |map B=>
    obtain⟨E,clock,hb,l,h2,h3⟩:=R.vx (P:=P) d;split at e
    .rename_i j u hf
     injection e with e;simp only[Ig]at e;obtain⟨rfl,rfl⟩:=e;rcases vK (kk:=kk) es E.toList 0 h2 h3 _ hf with⟨q,_⟩|⟨p,u1,u',a,s,C,_,D⟩
     .cases q
     .injection a with a; simp only [Ig] at a; obtain ⟨rfl, rfl⟩ := a
      have n:(E.eraseIdxIfInBounds j).toList=E.toList.eraseIdx j:=by
       rw[Array.toList_eraseIdxIfInBounds]
      refine⟨m,.tuple #[],_,?_,R.QE (E':=E.eraseIdxIfInBounds j) (clock':=clock) d hb ?_ ?_,.refl _ _,J4 _,.WE (.nil _ _)⟩
      .unfold Builtin.delete_
       simp only[b,Ki,WJ,pF,Sem.run_bind,run_underlying g,Result.andThen_ok,l];rw[ZC c];simp only[Result.andThen_ok,Instr.findKey,Sem.run_bind,run_underlying c,s,Sem.run_pure];rw[run_setObj_map _ hb];rfl
      .rw[n,ky,ky];exact h2.eraseIdx j
      .rw[n,ky,ky];exact h3.eraseIdx j
    .rename_i hf
     injection e with e;simp only[Ig]at e;obtain⟨rfl,rfl⟩:=e;rcases vK (kk:=kk) es E.toList 0 h2 h3 _ hf with⟨_,q⟩|⟨p,u1,u',a,_⟩
     .refine ⟨m, .tuple #[], _, ?_, R.QE (E' := E) (clock' := clock) d hb h2 h3, .refl _ _, J4 _, .WE (.nil _ _)⟩
      unfold Builtin.delete_;simp only[b,Ki,WJ,pF,Sem.run_bind,run_underlying g,Result.andThen_ok,l];rw[ZC c];simp only[Result.andThen_ok,Instr.findKey,Sem.run_bind,run_underlying c,q,Sem.run_pure];rw[run_setObj_map _ hb];rfl
     .cases a
    .cases e
  .cases e
 .cases e
def aClear (P:Program) (h:AHeap) (t:TypeId) (x:Value):Option (Value×AHeap):=
 match P.underlying t,x with
 |some (.slice e),.slice a n _=>
  bif n==0 then some (.tuple #[],h)else
  match a,azero P e with
  |some ⟨id,off,none⟩,some z=>
   match h.own id with
   |some (.cells c)=>bif z.cells.toList.all flat&&decide (off+n*z.cells.size<=c.length)then some (.tuple #[],h.put id (.cells (putCells c off (zrow z.cells.toList n))))else none
   |_=>none
  |_,_=>none
 |_,_=>none
def Yp {P:Program} (R:Rel W0 m h w) {t:TypeId} {ats:Array TypeId} (b:ats[0]?=some t) {ty:TypeId} {x x' v:Value} {h':AHeap} (q:VR h.next m x x') (e:aClear P h t x=some (v,h')):
  OK P W0 m h w (Builtin.clear_ ats ty #[x']) v h':=by
 unfold aClear at e;split at e
 .rename_i el a n cap r
  by_cases s:n=0
  .subst s
   simp only[beq_self_eq_true,cond_true]at e;injection e with e;simp only[Ig]at e;obtain⟨rfl,rfl⟩:=e;obtain⟨u,c',rfl,i⟩:=q.aA;refine⟨m,.tuple #[],w,?_,R,.refl _ _,J4 _,.WE (.nil _ _)⟩;unfold Builtin.clear_;cases u<;>simp[b,run_underlying r]
  .have j : (n == 0) = false := by simpa using s
   rw[j,cond_false]at e;split at e
   .rename_i id off z y
    split at e
    .rename_i c A
     cases g:(z.cells.toList.all Fw.flat&&decide (off+n*z.cells.size<=c.length))with
     |false=>rw[g]at e;cases e
     |true=>
      rw[g,cond_true]at e;injection e with e;simp only[Ig]at e;obtain⟨rfl,rfl⟩:=e;rw[SH,decide_eq_true_eq]at g;obtain⟨l,d⟩:=g;have f:=Dv Fw.flat _ l n;obtain⟨w',hw,R'⟩:=Rel.Qw P (zrow z.cells.toList n) (zrow z.cells.toList n) 0 R (off:=off) A (by rw[Kx];simpa using d) (xC.flat f) (fun v B=>jE.1 (wB f) v B);obtain⟨k,rfl⟩:∃k,n=k+1:=⟨n-1,QT⟩;have o:(Builtin.zeroCells z.cells (k+1)).toList=zrow z.cells.toList (k+1):=QL _ _ _ rfl;refine⟨m,.tuple #[],w',?_,by simpa using R',.refl _ _,J4 _,.WE (.nil _ _)⟩;have p:∃c',x'=.slice (some ⟨(m id).blk,(m id).base+off,none⟩) (k+1) c':=by
       cases q with
       |flat hf=>simp[Fw.flat]at hf
       |slice _ _=>exact⟨_,rfl⟩
       |buf _ C ha=>
        rcases ha with⟨rfl,_⟩|D
        .exact⟨_,rfl⟩
        .omega
      obtain⟨c',rfl⟩:=p;unfold Builtin.clear_;simp only[b,Ki,WJ,Sem.run_bind,run_underlying r,Result.andThen_ok,yD y,o,hw];rfl
    .cases e
   .cases e
 .cases e
abbrev EP:=Trie Value
def evalO (fr:EP):Operand->Option Value
 |.tmp t=>fr.get t
 |.const v=>bif flat v then some v else none
 |.func f=>some (.func (.func f) #[] #[])
 |.global _=>none
def FR (n:Nat) (m:Ti) (fr:EP) (tmps:Array Value):Prop:=∀k v,fr.get k=some v->∃v',tmps[k]?=some v'/\VR n m v v'
def FR.mono {n n':Nat} {m a:Ti} {fr:EP} {t:Array Value} (F:FR n m fr t) (b:n<=n') (c:Yk n m a):FR n' a fr t:=
 fun k v e=>let⟨v',d,h2⟩:=F k v e;⟨v',d,h2.mono b c⟩
def Yf {n:Nat} {m:Ti} {fr:EP} {a:Act} (F:FR n m fr a.tmps) {o:Operand} {v:Value} (e:evalO fr o=some v):VR n m v (a.eval o):=by
 cases o with
 |tmp t=>
  obtain⟨v',b,h2⟩:=F t v e;have:a.eval (.tmp t)=v':=by simp[Act.eval,b]
  rw[this];exact h2
 |const c=>
  simp only[evalO]at e;cases hf:flat c with
  |true=>rw[hf]at e;simp at e;subst e;exact .flat hf
  |false=>rw[hf]at e;simp at e
 |global g=>simp[evalO]at e
 |func f=>
  simp only[evalO]at e;injection e with e;subst e;exact .func rfl rfl (fun i v v' h=>by simp at h) (fun i v v' h=>by simp at h)
def evalL (fr:EP):List Operand->Option (List Value)
  |[]=>some []
  |o::r=>match evalO fr o with
    |some v=>match evalL fr r with|some l=>some (v::l)|none=>none
    |none=>none
def bD {n:Nat} {m:Ti} {fr:EP} {a:Act} (F:FR n m fr a.tmps):∀{l:List Operand} {vs:List Value},evalL fr l=some vs->xC n m vs (l.map a.eval)
 |[],vs,e=>by simp[evalL]at e;subst e;exact .nil _ _
 |o::r,vs,e=>by
  simp only[evalL]at e;split at e
  .rename_i v b
   split at e
   .rename_i l c;injection e with e;subst e;exact .cons (Yf F b) (bD F c)
   .cases e
  .cases e
def evalP (fr:EP):List (Nat×Operand)->Option (List (Nat×Value))
  |[]=>some []
  |(i,o)::r=>match evalO fr o with
    |some v=>match evalP fr r with|some l=>some ((i,v)::l)|none=>none
    |none=>none
def uP {n:Nat} {m:Ti} {fr:EP} {a:Act} (F:FR n m fr a.tmps):∀{l:List (Nat×Operand)} {vs:List (Nat×Value)},evalP fr l=some vs->PRs n m vs (l.map fun p=>(p.1,a.eval p.2))
 |[],vs,e=>by simp[evalP]at e;subst e;exact .nil
 |(i,o)::r,vs,e=>by
  simp only[evalP]at e;split at e
  .rename_i v b
   split at e
   .rename_i l c;injection e with e;subst e;exact .cons (Yf F b) (uP F c)
   .cases e
  .cases e
def evalM (fr:EP):Option Operand->Option (Option Value)
 |none=>some none
 |some o=>match evalO fr o with|some v=>some (some v)|none=>none
def Va {n:Nat} {m:Ti} {fr:EP} {a:Act} (F:FR n m fr a.tmps) {o:Option Operand} {v:Option Value} (e:evalM fr o=some v):VRo n m v (o.map a.eval):=by
 cases o with
 |none=>simp[evalM]at e;subst e;exact .none
 |some o=>
  simp only[evalM]at e;split at e
  .rename_i u b;injection e with e;subst e;exact .some (Yf F b)
  .cases e
def Hx:Value:=.tuple #[]
def aNilCheck (x:Value):Option Value:=
 match x with
 |.pointer (some a)=>some (.pointer (some a))
 |.func (.func f) a b=>some (.func (.func f) a b)
 |_=>none
def aIface (P:Program) (t:TypeId) (x:Value):Option Value:=
 match P.underlying t with
 |some (.interface _)=>none
 |some _=>some (.iface t x)
 |none=>none
def aBuiltin (P:Program) (h:AHeap) (b:Builtin) (ats:List TypeId) (args:List Value):Option (Value×AHeap):=
 match b,ats,args with
 |.append,[t,xt],[s,x]=>aAppend P h t xt s x
 |.len,t::_,[x]=>match aLen P h t x with|some v=>some (v,h)|none=>none
 |.copy,t::_,[d,s]=>aCopy P h t d s
 |.delete,t::_,[d,s]=>aDelete P h t d s
 |.clear,t::_,[s]=>aClear P h t s
 |.min,_,x::r=>match aMin x r with|some v=>some (v,h)|none=>none
 |.max,_,x::r=>match J3 x r with|some v=>some (v,h)|none=>none
 |_,_,_=>none
def stepOp (P:Program) (fr:EP) (h:AHeap) (o:Oper):Option (Value×AHeap):=
  match o.op with
  |.move x|.assign x=>match evalO fr x with|some v=>some (v,h)|none=>none
  |.pick c a b=>match evalO fr c with
    |some (.bool t)=>match evalO fr (bif t then a else b)with|some v=>some (v,h)|none=>none
    |_=>none
  |.alloc t=>aAlloc P h t
  |.box _ x=>match evalO fr x with|some v=>Qq h v|none=>none
  |.build t ps=>match evalP fr ps.toList with
    |some l=>match aBuild P t l with|some v=>some (v,h)|none=>none
    |none=>none
  |.buildSlice t len ps=>match evalP fr ps.toList with|some l=>aBuildSlice P h t len l|none=>none
  |.load t a=>match evalO fr a with
    |some (.pointer (some e))=>match aload P h t e with|some v=>some (v,h)|none=>none
    |_=>none
  |.store t a x=>match evalO fr a,evalO fr x with
    |some g,some j=>match aStore P h t g j with|some h'=>some (Hx,h')|none=>none
    |_,_=>none
  |.nilCheck x=>match evalO fr x with
    |some v=>match aNilCheck v with|some v=>some (v,h)|none=>none
    |none=>none
  |.binOp op t x y _=>match evalO fr x,evalO fr y with
    |some a,some b=>match BS P op t a b with|some v=>some (v,h)|none=>none
    |_,_=>none
  |.unOp op _ x=>match evalO fr x with
    |some a=>match aUn op a with|some v=>some (v,h)|none=>none
    |none=>none
  |.convert s d x=>match evalO fr x with|some a=>aConvert P h s d a|none=>none
  |.makeInterface t x=>match evalO fr x with
    |some a=>match aIface P t a with|some v=>some (v,h)|none=>none
    |none=>none
  |.makeFunc fn first cap=>match evalL fr first.toList,evalL fr cap.toList with
    |some a,some b=>some (.func fn a.toArray b.toArray,h)
    |_,_=>none
  |.makeMap _ r=>match r with
    |none=>some (.map (some h.next),h.alloc (.map []))
    |some _=>none
  |.makeSlice t l c=>match evalO fr l,evalO fr c with
    |some a,some b=>aMakeSlice P h t a b
    |_,_=>none
  |.slice t x lo hi n=>match evalO fr x,evalM fr lo,evalM fr hi,evalM fr n with
    |some a,some l,some r,some k=>match aSlice P t a l r k with|some v=>some (v,h)|none=>none
    |_,_,_,_=>none
  |.fieldAddr s x f=>match evalO fr x with
    |some a=>match aField P s a f with|some v=>some (v,h)|none=>none
    |none=>none
  |.field s x f=>match evalO fr x with
    |some a=>match aFieldV P s a f with|some v=>some (v,h)|none=>none
    |none=>none
  |.indexAddr t x i=>match evalO fr x,evalO fr i with
    |some a,some b=>match aIndexAddr P t a b with|some v=>some (v,h)|none=>none
    |_,_=>none
  |.index t x i=>match evalO fr x,evalO fr i with
    |some a,some b=>match aIndexV P t a b with|some v=>some (v,h)|none=>none
    |_,_=>none
  |.extract x i=>match evalO fr x with
    |some a=>match aExtract a i with|some v=>some (v,h)|none=>none
    |none=>none
  |.lookup t x i ok=>match evalO fr x,evalO fr i with
    |some a,some b=>match bLookup P h t a b ok with|some v=>some (v,h)|none=>none
    |_,_=>none
  |.mapUpdate t x k y=>match evalO fr x,evalO fr k,evalO fr y with
    |some a,some b,some c=>match bMapSet P h t a b c with|some h'=>some (Hx,h')|none=>none
    |_,_,_=>none
  |.call {callee:=.builtin b,args,argTypes}=>match evalL fr args.toList with
    |some vs=>aBuiltin P h b argTypes.toList vs
    |none=>none
  |_=>none
def Ui (P:Program) (W0:Ac) (m:Ti) (h:AHeap) (w:World) (s:Sem Next) (v:Value) (h':AHeap):Prop:=
 ∃a v' w',(s.run P w=.ok (.value v') w'\/(s.run P w=.ok .skip w'/\v'=undef))/\Rel W0 a h' w'/\Yk h.next m a/\h.next<=h'.next/\VR h'.next a v v'
def Ui.pM {P:Program} {s:Sem Value} {v:Value} {h':AHeap} (e:OK P W0 m h w s v h'):Ui P W0 m h w (do pure (.value (<-s))) v h':=by
 obtain⟨a,v',w',b,h2,h3,c,d⟩:=e;exact⟨a,v',w',.inl (by simp[b]),h2,h3,c,d⟩
def Ui.Gu {P:Program} {s:Sem Value} {v:Value} (R:Rel W0 m h w) (e:∃v',s.run P w=.ok v' w/\VR h.next m v v'):Ui P W0 m h w (do pure (.value (<-s))) v h:=
 .pM (OK.pure R e)
def Ui.val {P:Program} {v v':Value} (R:Rel W0 m h w) (e:VR h.next m v v'):Ui P W0 m h w (pure (.value v')) v h:=
 ⟨m,v',w,.inl YX,R,.refl _ _,J4 _,e⟩
def DH {P:Program} (R:Rel W0 m h w) {b:Builtin} {ats:Array TypeId} {ty:TypeId} {cs:Array Bool} {args a:List Value} {v:Value} {h':AHeap} (ha:xC h.next m args a)
  (e:aBuiltin P h b ats.toList args=some (v,h')):Ui P W0 m h w (builtin b ats ty cs a.toArray) v h':=by
 unfold aBuiltin at e;split at e
 .rename_i t xt s x c
  have g:ats=#[t,xt]:=by rw[<-XX,c]
  subst g
  match a,ha with
  |[i,x'],ha=>exact .pM (Xg R (ha.2 0 s i rfl rfl) (ha.2 1 x x' rfl rfl) e)
  |[],ha|[_],ha|_::_::_::_,ha=>simp[xC]at ha
 .rename_i t r x c
  have f:ats[0]?=some t:=by rw[<-Pa,c];rfl
  match a,ha with
  |[x'],ha=>
   split at e
   .rename_i o j
    injection e with e;simp only[Ig]at e;obtain⟨rfl,rfl⟩:=e;exact .Gu R (Da R f (ha.2 0 x x' rfl rfl) j)
   .cases e
  |[],ha|_::_::_,ha=>simp[xC]at ha
 .rename_i t r d s c
  have f:ats[0]?=some t:=by rw[<-Pa,c];rfl
  match a,ha with
  |[k,i],ha=>exact .pM (tE R f (ha.2 0 d k rfl rfl) (ha.2 1 s i rfl rfl) e)
  |[],ha|[_],ha|_::_::_::_,ha=>simp[xC]at ha
 .rename_i t r d s c
  have f:ats[0]?=some t:=by rw[<-Pa,c];rfl
  match a,ha with
  |[k,i],ha=>exact .pM (u3 R f (ha.2 0 d k rfl rfl) (ha.2 1 s i rfl rfl) e)
  |[],ha|[_],ha|_::_::_::_,ha=>simp[xC]at ha
 .rename_i t r s c
  have f:ats[0]?=some t:=by rw[<-Pa,c];rfl
  match a,ha with
  |[i],ha=>exact .pM (Yp R f (ha.2 0 s i rfl rfl) e)
  |[],ha|_::_::_,ha=>simp[xC]at ha
 .rename_i x r
  match a,ha with
  |x'::l,ha=>
   split at e
   .rename_i o j
    injection e with e;simp only[Ig]at e;obtain⟨rfl,rfl⟩:=e;obtain⟨v',n,h2⟩:=yM (P:=P) r l (ha.2 0 x x' rfl rfl) (by simpa using ha.drop 1) j w;exact .Gu R ⟨v',by simpa[Builtin.min_]using n,h2⟩
   .cases e
  |[],ha=>simp[xC]at ha
 .rename_i x r
  match a,ha with
  |x'::l,ha=>
   split at e
   .rename_i o j
    injection e with e;simp only[Ig]at e;obtain⟨rfl,rfl⟩:=e;obtain⟨v',n,h2⟩:=Rt (P:=P) r l (ha.2 0 x x' rfl rfl) (by simpa using ha.drop 1) j w;exact .Gu R ⟨v',by simpa[Builtin.max_]using n,h2⟩
   .cases e
  |[],ha=>simp[xC]at ha
 .cases e
def aEq_agg {P:Program} {t:TypeId} {xs ys:Array Value} {r:Bool} (e:aEq P t (.agg xs) (.agg ys)=some r):P.eqGuardType P.depth t=false:=by
 unfold aEq at e;split at e
 case h_7 len el c d f g h2=>
  split at e
  .rename_i k a b i _ _;exact Wz P t el len k f i
  .cases e
 case h_8 j c d f g h2=>
  split at e
  .split at e
   .rename_i l;exact sn P t j f l.1
   .cases e
  .cases e
 all_goals simp_all
def kY {P:Program} (R:Rel W0 m h w) {op:BinOp} {t:TypeId} {x y:Operand} {a b a' c v:Value} (ha:VR h.next m a a') (hb:VR h.next m b c) (e:BS P op t a b=some v):
  Ui P W0 m h w (do pure (.value (<-(do eqGuard op t x y a' c;binOp op t a' c)))) v h:=by
 unfold BS at e;cases hg:guardFree a with
 |false=>rw[hg]at e;cases e
 |true=>
  rw[hg]at e;simp only[cond_true]at e;obtain⟨hf,d⟩:=Ib ha hb e;refine .Gu R ⟨v,?_,.flat hf⟩;have f:(eqGuard op t x y a' c).run P w=.ok () w:=by
   refine H7 P op t x y a' c w ?_ ?_
   .rintro⟨rfl,_⟩;cases ha with|flat hh=>simp[guardFree]at hg
   .rintro g i rfl rfl
    cases ha with
    |flat hh=>simp[Fw.flat]at hh
    |agg _ _=>
     cases hb with
     |flat hh=>simp[Fw.flat]at hh
     |agg _ _=>
      rename_i xs ys _ _ _ _
      cases op<;>simp only[abin]at e<;>(try cases e)
      all_goals
       split at e
       .rename_i r j;exact aEq_agg j
       .cases e
  rw[Sem.run_bind,f];exact d w
def Wb {P:Program} {a:Act} {fr:EP} {o:Oper} {v:Value} {h':AHeap} (R:Rel W0 m h w) (F:FR h.next m fr a.tmps) (e:stepOp P fr h o=some (v,h')):
  Ui P W0 m h w (execOp a.eval o) v h':=by
 unfold stepOp at e;unfold execOp;split at e
 .rename_i x g; simp only [g]
  split at e
  .rename_i u j;injection e with e;simp only[Ig]at e;obtain⟨rfl,rfl⟩:=e;exact .val R (Yf F j)
  .cases e
 .rename_i x g; simp only [g]
  split at e
  .rename_i u j;injection e with e;simp only[Ig]at e;obtain⟨rfl,rfl⟩:=e;exact .val R (Yf F j)
  .cases e
 .rename_i c x y g; simp only [g]
  split at e
  .rename_i t S
   split at e
   .rename_i u j
    injection e with e;simp only[Ig]at e;obtain⟨rfl,rfl⟩:=e;have K:=(Yf F S).DN;have A:=Yf F j
    refine⟨m,a.eval (bif t then x else y),w,.inl ?_,R,.refl _ _,J4 _,A⟩
    simp only[K,asBool,Sem.run_bind,Sem.run_pure,Result.andThen_ok];cases t<;>rfl
   .cases e
  .cases e
 .rename_i t g;simp only[g];exact .pM (bg R e)
 .rename_i t x g; simp only [g]
  split at e
  .rename_i u j;exact .pM (aBox_ok R (Yf F j) e)
  .cases e
 .rename_i t ps g; simp only [g]
  split at e
  .rename_i l E
   split at e
   .rename_i u j
    injection e with e;simp only[Ig]at e;obtain⟨rfl,rfl⟩:=e;have:=wK (P:=P) (uP F E) j w;refine .Gu R ?_
    have G:(ps.map fun x=>match x with|(i,x)=>(i,a.eval x))=(ps.toList.map fun p=>(p.1,a.eval p.2)).toArray:=by
     apply XX.1;simp
    rw[G];exact this
   .cases e
  .cases e
 .rename_i t len ps g; simp only [g]
  split at e
  .rename_i l E
   have:=Bh (P:=P) R (uP F E) e
   have G:(ps.map fun x=>match x with|(i,x)=>(i,a.eval x))=(ps.toList.map fun p=>(p.1,a.eval p.2)).toArray:=by
    apply XX.1;simp
   rw[G];exact .pM this
  .cases e
 .rename_i t x g; simp only [g]
  split at e
  .rename_i Y L
   split at e
   .rename_i u j
    injection e with e;simp only[Ig]at e;obtain⟨rfl,rfl⟩:=e;obtain⟨a',WA,H⟩:=(Yf F L).oK;obtain⟨v',C,h2⟩:=R.loadVar (P:=P) H j;exact .Gu R ⟨v',by rw[WA];simp[Instr.loadAt,Instr.sureAddr,C],h2⟩
   .cases e
  .cases e
 .rename_i t x y g; simp only [g]
  split at e
  .rename_i Z xv M N
   split at e
   .rename_i h2 D
    injection e with e;simp only[Ig]at e;obtain⟨rfl,rfl⟩:=e;obtain⟨w',C,R',T⟩:=Pv (P:=P) R (Yf F M) (Yf F N) D;exact⟨m,undef,w',.inr ⟨by simp[C],rfl⟩,R',.refl _ _,QT,.tuple rfl (fun i v v' h=>by simp at h)⟩
   .cases e
  .cases e
 .rename_i x g; simp only [g]
  split at e
  .rename_i u j
   split at e
   .rename_i u' A
    injection e with e;simp only[Ig]at e;obtain⟨rfl,rfl⟩:=e;have I:=Yf F j;unfold aNilCheck at A;split at A
    .injection A with A; subst A
     obtain⟨a',WA,H⟩:=I.oK;rw[WA]at I ⊢;exact .val R I
    .injection A with A; subst A
     generalize a.eval x=x' at I ⊢;cases I with
     |flat hf=>simp[Fw.flat]at hf
     |func C h2 h3 U=>exact .val R (.func C h2 h3 U)
    .cases A
   .cases e
  .cases e
 .rename_i op t x y yt g; simp only [g]
  split at e
  .rename_i p q z B
   split at e
   .rename_i u j
    injection e with e;simp only[Ig]at e;obtain⟨rfl,rfl⟩:=e;exact kY R (Yf F z) (Yf F B) j
   .cases e
  .cases e
 .rename_i op t x g; simp only [g]
  split at e
  .rename_i p z
   split at e
   .rename_i u j
    injection e with e;simp only[Ig]at e;obtain⟨rfl,rfl⟩:=e;obtain⟨C,h2⟩:=yw P (Yf F z) j;exact .Gu R ⟨u,h2 w,.flat C⟩
   .cases e
  .cases e
 .rename_i s d x g; simp only [g]
  split at e
  .rename_i p z;exact .pM (KI R (Yf F z) e)
  .cases e
 .rename_i t x g; simp only [g]
  split at e
  .rename_i p z
   split at e
   .rename_i u j
    injection e with e;simp only[Ig]at e;obtain⟨rfl,rfl⟩:=e;unfold aIface at j;split at j
    .cases j
    .rename_i d O V
     injection j with j;subst j;refine .Gu R ⟨.iface t (a.eval x),?_,.iface (Yf F z)⟩;simp only[Instr.makeInterface,Sem.run_bind,run_underlying V,Result.andThen_ok]
     cases d<;>first|(exact absurd rfl (O _))|rfl
    .cases j
   .cases e
  .cases e
 .rename_i fn first cap g; simp only [g]
  split at e
  .rename_i p q z B
   injection e with e;simp only[Ig]at e;obtain⟨rfl,rfl⟩:=e;have C:=bD F z;have h2:=bD F B
   refine .Gu R ⟨.func fn (first.map a.eval) (cap.map a.eval),by simp[Instr.makeFunc],.func ?_ ?_ (fun i v v' e e'=>C.2 i v v' (by simpa using e) (by simpa using e')) (fun i v v' e e'=>h2.2 i v v' (by simpa using e) (by simpa using e'))⟩
   .have:=C.1;simpa using this
   .have:=h2.1;simpa using this
  .cases e
 .rename_i t r g; simp only [g]
  split at e
  .injection e with e; simp only [Ig] at e; obtain ⟨rfl, rfl⟩ := e
   refine .pM ⟨_,.map (some w.heap.size),_,by simp[Instr.makeMap],R.allocMap,B8 _ _ _,Yl _,?_⟩
   have:=VR.map (n:=h.next+1) (m:=Zi m h.next ⟨w.heap.size,0,0⟩) (id:=h.next) (SP _)
   rw[Rp]at this;exact this
  .cases e
 .rename_i t l c g; simp only [g]
  split at e
  .rename_i p q z B;exact .pM (CY R (Yf F z) (Yf F B) e)
  .cases e
 .rename_i t x lo hi mx g; simp only [g]
  split at e
  .rename_i p l r k z E W X
   split at e
   .rename_i u j
    injection e with e;simp only[Ig]at e;obtain⟨rfl,rfl⟩:=e;exact .Gu R (aJ (Yf F z) (Va F E) (Va F W) (Va F X) j w)
   .cases e
  .cases e
 .rename_i s x f g; simp only [g]
  split at e
  .rename_i p z
   split at e
   .rename_i u j
    injection e with e;simp only[Ig]at e;obtain⟨rfl,rfl⟩:=e;exact .Gu R (ZF (Yf F z) j w)
   .cases e
  .cases e
 .rename_i s x f g; simp only [g]
  split at e
  .rename_i p z
   split at e
   .rename_i u j
    injection e with e;simp only[Ig]at e;obtain⟨rfl,rfl⟩:=e;exact .Gu R (vP (Yf F z) j w)
   .cases e
  .cases e
 .rename_i t x i g; simp only [g]
  split at e
  .rename_i p q z B
   split at e
   .rename_i u j
    injection e with e;simp only[Ig]at e;obtain⟨rfl,rfl⟩:=e;exact .Gu R (qI (Yf F z) (Yf F B) j w)
   .cases e
  .cases e
 .rename_i t x i g; simp only [g]
  split at e
  .rename_i p q z B
   split at e
   .rename_i u j
    injection e with e;simp only[Ig]at e;obtain⟨rfl,rfl⟩:=e;exact .Gu R (An (Yf F z) (Yf F B) j w)
   .cases e
  .cases e
 .rename_i x i g; simp only [g]
  split at e
  .rename_i p z
   split at e
   .rename_i u j
    injection e with e;simp only[Ig]at e;obtain⟨rfl,rfl⟩:=e;exact .Gu R (Y0 (Yf F z) j w)
   .cases e
  .cases e
 .rename_i t x i ok g; simp only [g]
  split at e
  .rename_i p q z B
   split at e
   .rename_i u j
    injection e with e;simp only[Ig]at e;obtain⟨rfl,rfl⟩:=e;exact .Gu R (SC R (Yf F z) (Yf F B) j)
   .cases e
  .cases e
 .rename_i t x k y g; simp only [g]
  split at e
  .rename_i p q c z B K
   split at e
   .rename_i h2 D
    injection e with e;simp only[Ig]at e;obtain⟨rfl,rfl⟩:=e;obtain⟨w',C,R',T⟩:=KY (P:=P) R (Yf F z) (Yf F B) (Yf F K) D;exact⟨m,undef,w',.inr ⟨by simp[C],rfl⟩,R',.refl _ _,QT,.tuple rfl (fun i v v' h=>by simp at h)⟩
   .cases e
  .cases e
 .rename_i b args ats g; simp only [g]
  split at e
  .rename_i vs Q
   have J:=bD F Q;have:=DH (P:=P) R (ats:=ats) (ty:=o.type) (cs:=args.map fun|.const _=>true|_=>false) J e;have G:(args.toList.map a.eval).toArray=args.map a.eval:=by apply XX.1;simp
   rw[G]at this;exact this
  .cases e
 .cases e
end
end Go.Fw
