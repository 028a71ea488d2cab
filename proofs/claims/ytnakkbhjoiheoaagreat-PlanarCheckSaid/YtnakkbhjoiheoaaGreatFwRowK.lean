/- A text. -/
import Derived.Deep.Draws
import Derived.Test.YtnakkbhjoiheoaaGreatFwRow
import Derived.Test.YtnakkbhjoiheoaaGreatFwBridge
set_option linter.all false
set_option maxRecDepth 99999
set_option maxHeartbeats 9999999
open Go.Proofs
open Option renaming some→Z,none→Y
open Bool renaming true→tT
open Go.Value renaming slice→sL
open Go renaming Value→vV
namespace Go.Fw
section
variable{P:Program}{W0:LA}{m:abd}{h:aai}{w:World}
theorem Rel.rowV(R:Rel W0 m h w){id:Nat}{c:xLV}{ys:xLV}(D:∀y∈ys,flat y=tT/\y.oneCell'=tT)(I:h.own id=Z (.cells c))(hl:ys.length<=c.length)(q:Nat)(os:Array Obj):
  Rel W0 m (h.put id (.cells (ys++c.drop ys.length))) (Sort.grow (Sort.putRow (fun v:vV=>v) (Sort.ahead w q) (m id).blk (m id).base ys.toArray) os):=by
 have s:h.own id≠Y:=by rw[I];simp
 obtain⟨C,e,lo,hi,hb,hs,M,N,J,hf⟩:=R.own id _ I;have O:(m id).blk<w.heap.size:=(iU.1 hb).1;generalize t:ys++c.drop ys.length=K;have L:K.length=c.length:=hGr;have a:∀i,(h.put id (.cells K)).own i≠Y->h.own i≠Y:=by grind[aai.By]
 have n:∀i,h.own i≠Y->i≠id->(m i).blk≠(m id).blk:=fun i f l E=>l (R.inj i id f s E);have heq:∀b,b<w.heap.size->b≠(m id).blk->(Sort.grow (Sort.putRow (fun v:vV=>v) (Sort.ahead w q) (m id).blk (m id).base ys.toArray) os).heap[b]?=w.heap[b]?:=fun b Q S=>by simp only[Sort.grow,Sort.putRow,Sort.mapBlock,Sort.ahead];grind
 have z:(Sort.grow (Sort.putRow (fun v:vV=>v) (Sort.ahead w q) (m id).blk (m id).base ys.toArray) os).heap[(m id).blk]?=Z (.cells (Sort.putCells (fun v:vV=>v) (m id).base ys.toArray C) e (lo,hi)):=by simp only[Sort.grow,Sort.putRow,Sort.mapBlock,Sort.ahead];rw[qL163 hGr,akp,IE rfl,hb];rfl
 have F:(Sort.grow (Sort.putRow (fun v:vV=>v) (Sort.ahead w q) (m id).blk (m id).base ys.toArray) os).heap.size=w.heap.size+os.size:=by simp[Sort.grow,Sort.putRow,Sort.mapBlock,Sort.ahead]
 refine⟨by rw[F];have:=R.size;omega,fun b sZ=>?_,R.ext,fun i f=>R.lt i (a i f),fun i f=>R.new i (a i f),fun i o g=>?_,fun i j f G=>R.inj i j (a i f) (a j G),R.os,R.output,⟨R.tape.1,EP R.tape.2 (ajR _ _)⟩,R.aah.put a (fun b hb T=>heq b hb (fun e=>T id s e.symm))⟩
 .grind[Rel.new,Rel.qi]
 .by_cases l:i=id
  .subst l;rw[aai.Y3]at g;injection g with g;subst g;have U:(Sort.putCells (fun v:vV=>v) (m i).base ys.toArray C).size=C.size:=by simp[Sort.putCells]
   have A:∀k,(Sort.putCells (fun v:vV=>v) (m i).base ys.toArray C)[k]?=(C[k]?).map fun x=>if(m i).base<=k/\k<(m i).base+ys.length then ys.toArray[k-(m i).base]!else x:=fun k=>by simp[Sort.putCells]
   refine⟨_,e,lo,hi,z,hGr,hGr,⟨hGr,fun k v v' p d=>?_⟩,fun u V=>?_,fun j hj=>hf j hGr⟩
   .rw[wV]at d;split at d
    .rename_i W;rw[b7,aeC,A]at d;by_cases r:k<ys.length
     .have H:(m i).base+k<C.size:=NH;rw[ac9 H,uu,IE ⟨NH,NH⟩]at d;rw[<-t,iy (by exact r)]at p;simp only[XJ r,aex]at p d;subst p d;have:(m i).base+k-(m i).base=k:=NH;rw[this,getElem!_pos _ k hGr];simp only[qL187];exact .flat (D _ (aev r)).1
     .rw[<-t,AE NH,b7]at p;have X:ys.length+(k-ys.length)=k:=NH;rw[X]at p;refine N.2 k v v' p ?_;rw[wV,IE NH,b7,aeC,<-d];cases hC:C[(m i).base+k]? with
      |none=>rfl
      |some x=>grind
    .cases d
   .obtain⟨k,p⟩:=vZ.1 V;grind
  .rw[aai.By _ _ _ _ l]at g;have B:h.own i≠Y:=hGr;exact Rel.JP (R.own i o g) (qL0 _) (ZK.refl _ _) (heq _ (R.Hc B) (n i B l))
theorem vr_flat{n:Nat}{m:abd}{v v':vV}(a:flat v=tT)(h:VR n m v v'):v'=v:=by
 cases h with
 |flat _=>rfl
 |ptr _=>cases a
 |aeK=>cases a
 |slice _ _=>cases a
 |buf _ _ _=>cases a
 |esl _=>cases a
 |empty=>cases a
 |map _=>cases a
 |func=>cases a
 |iface _=>cases a
 |agg=>cases a
 |tuple=>cases a
theorem Rel.holdsV(R:Rel W0 m h w){id:Nat}{c xs:xLV}(a:∀y∈xs,flat y=tT)(b:h.own id=Z (.cells c))(d:c.take xs.length=xs):Sort.Holds (fun v:vV=>v) w (m id).blk (m id).base xs.toArray:=by intro j e;grind[Rel.UL,vr_flat,List.getElem_mem,Rel.frozen]
theorem af7{n:Nat}{m:abd}{f:Fn}{v':vV}(h:VR n m (.func f #[] #[]) v'):v'=.func f #[] #[]:=by
 cases h<;>grind
theorem AC.ofRowK{f:FuncId}{g:Fn}{k id len cap:Nat}{c xs ys:xLV}(j:h.own id=Z (.cells c))(J:c.take (len*k)=xs)(z:xs.length=len*k)(l:ys.length=len*k)(A:len*k<=c.length)(B:len<=cap)(C:0<len)(n:∀y∈xs,flat y=tT)(o:∀y∈ys,flat y=tT/\y.oneCell'=tT)(D:∀(blk off cap':Nat)(w:World),Sort.Holds (fun v:vV=>v) w blk off xs.toArray->blk<w.heap.size->len<=cap'->
   Calls P f #[sL (Z ⟨blk,off,Y⟩) len cap',.func g #[] #[]] w fun e w'=>e=.returned (.tuple #[])/\∃q os,w'=Sort.grow (Sort.putRow (fun v:vV=>v) (Sort.ahead w q) blk off ys.toArray) os):
  AC P W0 f [sL (Z id) len cap,.func g #[] #[]] h fun x h'=>x=.tuple #[]/\h'=h.put id (.cells (ys++c.drop (len*k))):=by
 intro ex m w a R p;obtain⟨E,F,r⟩:=p.get (i:=0) rfl;obtain⟨G,H,d⟩:=p.get (i:=1) rfl;have b:a=[E,G]:=by
  have s:=p.1
  match a,s with
  |[x,y],_=>grind
 obtain⟨cap',rfl,t,I⟩:=IA B C r;have:=af7 d;subst this;rw[b];have u:h.own id≠Y:=by rw[j];simp
 refine(D (m id).blk (m id).base cap' w (R.holdsV n j hGr) (R.Hc u) t).mono ?_;rintro e w' ⟨rfl,q,os,rfl⟩;have R':=R.rowV o j NH q os;rw[l]at R';exact⟨.tuple #[],.tuple #[],m,_,rfl,R',ZK.refl _ _,qL0 _,.tuple rfl (fun i v v' e=>by simp at e),rfl,rfl⟩
theorem AC.ajU{f:FuncId}{g:Fn}{a:Option Addr}{cap:Nat}(n:∀(a':Option Addr)(cap':Nat)(w:World),Calls P f #[.slice a' 0 cap',.func g #[] #[]] w fun e w'=>e=.returned (.tuple #[])/\w'=w):
  AC P W0 f [.slice a 0 cap,.func g #[] #[]] h fun x h'=>x=.tuple #[]/\h'=h:=by
 intro ex m w b R j;obtain⟨o,p,k⟩:=j.get (i:=0) rfl;obtain⟨q,r,d⟩:=j.get (i:=1) rfl;have c:b=[o,q]:=by
  have l:=j.1
  match b,l with
  |[x,y],_=>grind
 obtain⟨a',cap',rfl⟩:=WT k;have:=af7 d;subst this;rw[c];refine(n a' cap' w).mono ?_;rintro e w' ⟨rfl,rfl⟩;exact⟨.tuple #[],.tuple #[],m,_,rfl,R,ZK.refl _ _,qL0 _,.tuple rfl (fun i v v' e=>by simp at e),rfl,rfl⟩
theorem Rel.grown{W w':World}{m:abd}{h:aai}(R:Rel (LA.of W) m h w'):∃q os,w'=Sort.grow (W.drewN q) os:=by
 refine⟨w'.drawn-W.drawn,w'.heap.extract W.heap.size w'.heap.size,?_⟩;have f:W.heap.size<=w'.heap.size:=R.size;have hh:w'.heap=W.heap++w'.heap.extract W.heap.size w'.heap.size:=by
  apply qL197;intro i;by_cases hi:i<W.heap.size
  .rw[qL163 hi];exact R.qi i hi
  grind
 have h2:W.drawn<=w'.drawn:=R.tape.2;have h3:w'.drawn=W.drawn+(w'.drawn-W.drawn):=NH;have c:w'.tape=W.tape:=R.tape.1;have d:w'.os=W.os:=R.os;have e:w'.output=W.output:=R.output;have:∀a b:World,a.heap=b.heap->a.tape=b.tape->a.drawn=b.drawn->a.os=b.os->a.output=b.output->a=b:=by intro a b g j e3 e4 k;cases a;cases b;grind
 exact this _ _ hh c h3 d e
def AC.grown{f:FuncId}{args a:xLV}{x:Int}(W:World)(ha:AC P (LA.of W) f args (MR W) fun v _=>v=x)(c:∀m,AK 0 m args a):
  Calls P f a.toArray W fun e w'=>e=.returned x/\∃q os,w'=Sort.grow (W.drewN q) os:=by
 refine(ha [] (fun _=>⟨0,0,0⟩) W a (Rel.start W _) (c _)).mono ?_;rintro e w' ⟨v,v',d,h',rfl,R,_,_,b,rfl⟩;rw[vr_int b];exact⟨rfl,R.grown⟩
end
end Go.Fw
