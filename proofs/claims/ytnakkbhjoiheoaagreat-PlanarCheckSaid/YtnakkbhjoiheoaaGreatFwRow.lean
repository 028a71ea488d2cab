/- A text. -/
import Derived.Shelf.Sort.Plain
import Derived.Shelf.Slices.In.SortNone
import Derived.Shelf.Slices.CompactI
import Derived.Test.YtnakkbhjoiheoaaGreatFwZB
set_option linter.all false
set_option maxRecDepth 99999
set_option maxHeartbeats 9999999
open Go.Proofs
open Option renaming some→Z,none→Y
open Go.Value renaming slice→sL
open Go renaming Value→vV
namespace Go.Fw
section
variable{P:Program}{W0:LA}{m:abd}{h:aai}{w:World}
def acO(l:RZ):xLV:=l.map (vV.int .i64)
theorem mN(l:RZ):(acO l).length=l.length:=by simp[acO]
theorem vr_int{n:Nat}{m:abd}{k:IntKind}{x:Int}{v:vV}(h:VR n m (.int k x) v):v=.int k x:=by cases h;rfl
theorem Rel.row(R:Rel W0 m h w){id:Nat}{c:xLV}{ys:RZ}(G:h.own id=Z (.cells c))(X:ys.length<=c.length)(q:Nat)(os:Array Obj):
  Rel W0 m (h.put id (.cells (acO ys++c.drop ys.length))) (Sort.grow (Sort.putRow (vV.int .i64) (Sort.ahead w q) (m id).blk (m id).base ys.toArray) os):=by
 have s:h.own id≠Y:=by rw[G];simp
 obtain⟨C,e,lo,hi,hb,hs,L,M,H,hf⟩:=R.own id _ G;have N:(m id).blk<w.heap.size:=(iU.1 hb).1;generalize t:acO ys++c.drop ys.length=I;have J:I.length=c.length:=by grind[mN]
 have a:∀i,(h.put id (.cells I)).own i≠Y->h.own i≠Y:=by grind[aai.By]
 have p:∀i,h.own i≠Y->i≠id->(m i).blk≠(m id).blk:=fun i f n A=>n (R.inj i id f s A);have heq:∀b,b<w.heap.size->b≠(m id).blk->(Sort.grow (Sort.putRow (vV.int .i64) (Sort.ahead w q) (m id).blk (m id).base ys.toArray) os).heap[b]?=w.heap[b]?:=fun b O Q=>by simp only[Sort.grow,Sort.putRow,Sort.mapBlock,Sort.ahead];grind
 have y:(Sort.grow (Sort.putRow (vV.int .i64) (Sort.ahead w q) (m id).blk (m id).base ys.toArray) os).heap[(m id).blk]?=Z (.cells (Sort.putCells (vV.int .i64) (m id).base ys.toArray C) e (lo,hi)):=by simp only[Sort.grow,Sort.putRow,Sort.mapBlock,Sort.ahead];rw[qL163 hGr,akp,IE rfl,hb];rfl
 have B:(Sort.grow (Sort.putRow (vV.int .i64) (Sort.ahead w q) (m id).blk (m id).base ys.toArray) os).heap.size=w.heap.size+os.size:=by simp[Sort.grow,Sort.putRow,Sort.mapBlock,Sort.ahead]
 refine⟨by rw[B];have:=R.size;omega,fun b sZ=>?_,R.ext,fun i f=>R.lt i (a i f),fun i f=>R.new i (a i f),fun i o g=>?_,fun i j f D=>R.inj i j (a i f) (a j D),R.os,R.output,⟨R.tape.1,EP R.tape.2 (ajR _ _)⟩,R.aah.put a (fun b hb S=>heq b hb (fun e=>S id s e.symm))⟩
 .grind[Rel.new,Rel.qi]
 .by_cases n:i=id
  .subst n;rw[aai.Y3]at g;injection g with g;subst g;have T:(Sort.putCells (vV.int .i64) (m i).base ys.toArray C).size=C.size:=by simp[Sort.putCells]
   have r:∀k,(Sort.putCells (vV.int .i64) (m i).base ys.toArray C)[k]?=(C[k]?).map fun x=>if(m i).base<=k/\k<(m i).base+ys.length then vV.int .i64 ys.toArray[k-(m i).base]!else x:=fun k=>by simp[Sort.putCells]
   refine⟨_,e,lo,hi,y,hGr,hGr,⟨hGr,fun k v v' l d=>?_⟩,fun u U=>?_,fun j hj=>hf j hGr⟩
   .rw[wV]at d;split at d
    .rename_i V;rw[b7,aeC,r]at d;by_cases E:k<ys.length
     .have F:(m i).base+k<C.size:=NH;rw[ac9 F,uu,IE ⟨NH,NH⟩]at d;rw[<-t,iy hGr]at l;simp only[acO,MY,XJ E,uu,aex]at l d;subst l d;have:(m i).base+k-(m i).base=k:=NH;rw[this,getElem!_pos _ k hGr];exact .flat rfl
     .rw[<-t,AE hGr,mN,b7]at l;have W:ys.length+(k-ys.length)=k:=NH;rw[W]at l;refine M.2 k v v' l ?_;rw[wV,IE NH,b7,aeC,<-d];cases K:C[(m i).base+k]? with
      |none=>rfl
      |some x=>grind
    .cases d
   .obtain⟨k,l⟩:=vZ.1 U;rw[aeC,r]at l;cases K:C[k]? with
    |none=>grind
    |some x=>
     rw[K,uu]at l;injection l with l;split at l
     .subst l;rfl
     grind
  .rw[aai.By _ _ _ _ n]at g;have z:h.own i≠Y:=hGr;exact Rel.JP (R.own i o g) (qL0 _) (ZK.refl _ _) (heq _ (R.Hc z) (p i z n))
theorem Rel.holds(R:Rel W0 m h w){id:Nat}{c:xLV}{xs:RZ}(d:h.own id=Z (.cells c))(a:c.take xs.length=acO xs):Sort.Holds (vV.int .i64) w (m id).blk (m id).base xs.toArray:=by
 intro j e;have b:j<xs.length:=hGr;have hg:c[j]?=Z (.int .i64 xs[j]):=by have:=congrArg (·[j]?) a;grind[acO]
 grind[Rel.UL,vr_int,Rel.frozen]
theorem IA{n:Nat}{m:abd}{id len cap:Nat}{v':vV}(b:len<=cap)(d:0<len)(h:VR n m (sL (Z id) len cap) v'):
  ∃cap',v'=sL (Z ⟨(m id).blk,(m id).base,Y⟩) len cap'/\len<=cap'/\∀k,k<=len->VR n m (sL (Z id) k cap) (sL (Z ⟨(m id).blk,(m id).base,Y⟩) k cap'):=by
 cases h with
 |flat h=>grind[flat]
 |slice h c=>exact⟨cap,Ma,b,fun k _=>by simpa using VR.slice (m:=m) (off:=0) (len:=k) h c⟩
 |@buf _ _ _ k cap' a' h a ha=>
  rcases ha with⟨rfl,ha⟩|ha
  .exact⟨cap',Ma,a,fun j e=>by simpa using VR.buf (m:=m) (off:=0) (len:=j) (k:=k) (cap':=cap') h NH (.inl ⟨rfl,hGr⟩)⟩
  .omega
 |empty=>omega
theorem WT{n:Nat}{m:abd}{a:Option Addr}{cap:Nat}{v':vV}(h:VR n m (.slice a 0 cap) v'):∃a' cap',v'=.slice a' 0 cap':=by
 cases h<;>grind
theorem AC.ofRow{f:FuncId}{id len cap k:Nat}{c:xLV}{xs ys:RZ}{out:vV}(g:h.own id=Z (.cells c))(G:c.take len=acO xs)(u:xs.length=len)(j:ys.length=len)(y:len<=c.length)(z:len<=cap)(A:0<len)(B:k<=len)(d:out=.tuple #[]\/out=sL (Z id) k cap)(C:∀(blk off cap':Nat)(w:World),Sort.Holds (vV.int .i64) w blk off xs.toArray->blk<w.heap.size->len<=cap'->
   Calls P f #[sL (Z ⟨blk,off,Y⟩) len cap'] w fun e w'=>(∃v,e=.returned v/\(out=.tuple #[]/\v=.tuple #[]\/out≠.tuple #[]/\v=sL (Z ⟨blk,off,Y⟩) k cap'))/\∃q os,w'=Sort.grow (Sort.putRow (vV.int .i64) (Sort.ahead w q) blk off ys.toArray) os):
  AC P W0 f [sL (Z id) len cap] h fun x h'=>x=out/\h'=h.put id (.cells (acO ys++c.drop len)):=by
 intro ex m w a R s;obtain⟨D,E,l⟩:=s.get (i:=0) rfl;have b:a=[D]:=by
  have n:=s.1
  match a,n with
  |[x],_=>grind
 obtain⟨cap',rfl,o,p⟩:=IA z A l;rw[b];have r:h.own id≠Y:=by rw[g];simp
 refine(C (m id).blk (m id).base cap' w (R.holds g hGr) (R.Hc r) o).mono ?_;rintro e w' ⟨⟨v,rfl,F⟩,q,os,rfl⟩;have R':=R.row (ys:=ys) g NH q os;rw[j]at R';refine⟨out,v,m,_,rfl,R',ZK.refl _ _,qL0 _,?_,rfl,rfl⟩;rcases F with⟨t,rfl⟩|⟨t,rfl⟩
 .rw[t];exact .tuple rfl (fun i v v' e=>by simp at e)
 .rcases d with h2|h2
  .grind
  .rw[h2];exact p k B
end
section
variable{P:Program}{W0:LA}{h:aai}
theorem AC.frame{f:FuncId}{args:xLV}{R:Nat}{o:fK}{Q:vV->aai->Prop}(D:h.own R=Z o)(H:AC P W0 f args (h.kill R) Q):
  AC P W0 f args h fun x h'=>∃g,Q x g/\g.own R=Y/\h'=g.put R o:=by
 intro ex m w p r I;have q:h.own R≠Y:=by rw[D];simp
 have u:R<h.next:=r.lt R q
 have A:=r.own R o D;obtain⟨O,hb⟩:∃O,w.heap[(m R).blk]?=Z O:=by
  cases o with
  |cells c=>obtain⟨C,e,lo,hi,J,_⟩:=A;grind
  |map es=>obtain⟨E,clock,J,_⟩:=A;grind
 have K:∀b a,(b,a)∈(W0.add ex).rw->(m R).blk≠b:=fun b a sZ=>r.aah.apart b a R sZ q;have t:∀i,(h.kill R).own i≠Y->h.own i≠Y/\i≠R:=fun i hi=>by grind[aai.Dg,aai.xJ]
 have L:Rel (W0.add (((m R).blk,O)::ex)) m (h.kill R) w:={
  size:=r.size
  qi:=r.qi
  ext:=r.ext
  lt:=fun i hi=>r.lt i (t i hi).1
  new:=fun i hi=>r.new i (t i hi).1
  own:=fun i a hi=>by have:=t i (by rw[hi];simp);rw[aai.xJ _ _ _ this.2]at hi;exact r.own i a hi
  inj:=fun i j hi F e=>r.inj i j (t i hi).1 (t j F).1 e
  os:=r.os
  output:=r.output
  tape:=r.tape
  aah:={
   agree:=r.aah.agree
   next:=r.aah.next
   VM:=by show(((m R).blk,O)::(W0.add ex).rw|>.map (·.1)).Nodup;rw[Lm,jz];refine⟨fun d=>?_,r.aah.VM⟩;grind
   hi:=fun b a d=>by
    rcases Og.1 d with e|d
    .injection e with M U;subst M;exact r.new R q
    .exact r.aah.hi b a d
   held:=fun b a d=>by
    rcases Og.1 d with e|d
    .grind
    .exact r.aah.held b a d
   apart:=fun b a i d hi=>by
    rcases Og.1 d with e|d
    .grind[Rel.inj]
    .exact r.aah.apart b a i d (t i hi).1}}
 refine(H (((m R).blk,O)::ex) m w p L I).mono ?_;rintro e w' ⟨v,v',z,g,N,rg,k,l,S,T⟩
 have k:ZK h.next m z:=k
 have l:h.next<=g.next:=l
 have y:z R=m R:=k R u;have n:((m R).blk,O)∈(W0.add (((m R).blk,O)::ex)).rw:=abV ..;have B:=rg.aah.held _ _ n;have s:g.own R=Y:=by
  cases hg:g.own R with
  |none=>rfl
  |some a=>exact absurd (by rw[y]) (rg.aah.apart _ _ R n (by rw[hg];simp))
 have hs:∀i,(g.put R o).own i≠Y->i=R\/(i≠R/\g.own i≠Y):=fun i hi=>by grind[aai.By]
 have G:∀i,g.own i≠Y->(z i).blk≠(m R).blk:=fun i hi=>rg.aah.apart _ _ i n hi;refine⟨v,v',z,g.put R o,N,?_,k,l,S,g,T,s,rfl⟩;exact{
  size:=rg.size
  qi:=rg.qi
  ext:=rg.ext
  lt:=fun i hi=>by
   rcases hs i hi with rfl|⟨_,hi⟩
   .exact PN u l
   .exact rg.lt i hi
  new:=fun i hi=>by
   rcases hs i hi with rfl|⟨_,hi⟩
   .grind[Rel.new]
   .exact rg.new i hi
  own:=fun i a hi=>by
   by_cases e:i=R
   .subst e;rw[aai.Y3]at hi;injection hi with hi;subst hi;rw[y];exact Rel.JP A l k (by rw[B,hb])
   .rw[aai.By _ _ _ _ e]at hi;exact rg.own i a hi
  inj:=fun i j hi F e=>by grind[Rel.inj]
  os:=rg.os
  output:=rg.output
  tape:=rg.tape
  aah:={
   agree:=rg.aah.agree
   next:=rg.aah.next
   VM:=r.aah.VM
   hi:=r.aah.hi
   held:=fun b a d=>rg.aah.held b a (ZT _ d)
   apart:=fun b a i d hi=>by
    rcases hs i hi with rfl|⟨_,hi⟩
    .grind
    .exact rg.aah.apart b a i (ZT _ d) hi}}
theorem Le.Y5{g:aai}{R:Nat}(a:g.own R=Option.none)(o:fK):Le g (g.put R o):=(Le.refl g).put o a
theorem Le.aiY{f:aai}{R:Nat}(l:Le f h)(a:f.own R=Option.none):Le f (h.kill R):=⟨l.ext,fun i o hi=>by grind[aai.xJ,Le.own]⟩
theorem AC.exact{f:FuncId}{id n k:Nat}{rest:xLV}{Q:Nat->aai->Prop}(F:0<n)(H:∀cap,n<=cap->cap<UNK->AC P W0 f (sL (Z id) n cap::rest) h fun x h'=>∃n',n'<=cap/\x=sL (Z id) n' cap/\Q n' h'):
  AC P W0 f (sL (Z id) n (UNK+k)::rest) h fun x h'=>∃n',x=sL (Z id) n' (UNK+k)/\Q n' h':=by
 intro ex m w d r j;obtain⟨l,c,rfl⟩:∃l c,d=l::c:=by
  cases d with
  |nil=>have:=j.1;simp at this
  |cons a b=>grind
 have q:VR h.next m (sL (Z id) n (UNK+k)) l:=j.2 0 _ _ rfl rfl
 have u:AK h.next m rest c:=by simpa using j.drop 1
 generalize G:UNK+k=C at q;cases q with
 |flat hf=>grind[flat]
 |slice _ I=>omega
 |@buf _ _ _ k1 cap' a' g y ha=>
  rcases ha with⟨rfl,s,t⟩|J
  .refine(H cap' y t ex m w _ r (.cons (.slice g t) u)).mono ?_;rintro e w' ⟨v,v',z,h',A,rg,i,o,B,n',p,rfl,D⟩;refine⟨_,v',z,h',A,rg,i,o,?_,n',rfl,D⟩;have K:=i id g;cases B with
   |flat hf=>grind[flat]
   |slice E h2=>exact .buf E p hGr
   |buf _ _ _=>omega
   |empty=>omega
  .omega
 |empty=>grind
end
end Go.Fw
