/- A text. -/
import Derived.Deep.Draws
import Derived.Test.YtkccdnmaaelbiaaGreatFwRow
import Derived.Test.YtkccdnmaaelbiaaGreatFwBridge
set_option linter.all false
set_option maxRecDepth 99999
set_option maxHeartbeats 9999999
namespace Go.Fw
section
open Go.Proofs
variable {P : Program} {W0 : Ac} {m : Ti} {h : AHeap} {w : World}
def Rel.rowV (R:Rel W0 m h w) {id:Nat} {c:List Value} {ys:List Value} (D:∀y∈ys,flat y=true/\y.oneCell'=true) (S:h.own id=some (.cells c)) (hl:ys.length<=c.length) (q:Nat) (os:Array Obj):
  Rel W0 m (h.put id (.cells (ys++c.drop ys.length))) (Sort.grow (Sort.putRow (fun v:Value=>v) (Sort.ahead w q) (m id).blk (m id).base ys.toArray) os):=by
 have r:h.own id≠none:=by rw[S];simp
 obtain⟨C,e,lo,hi,hb,hs,I,V,E,hf⟩:=R.own id _ S;have J:(m id).blk<w.heap.size:=(PY.1 hb).1;generalize B:ys++c.drop ys.length=T;have z:T.length=c.length:=by rw[<-B];simp;omega
 have a:∀i,(h.put id (.cells T)).own i≠none->h.own i≠none:=by
  intro i d;by_cases f:i=id
  .subst f;exact r
  .rwa[AHeap.Dz _ _ _ _ f]at d
 have s:∀i,h.own i≠none->i≠id->(m i).blk≠(m id).blk:=fun i d f K=>f (R.inj i id d r K);have heq:∀b,b<w.heap.size->b≠(m id).blk->(Sort.grow (Sort.putRow (fun v:Value=>v) (Sort.ahead w q) (m id).blk (m id).base ys.toArray) os).heap[b]?=w.heap[b]?:=fun b L M=>by
  simp only[Sort.grow,Sort.putRow,Sort.mapBlock,Sort.ahead];rw[EV (by simpa using L),Pb,if_neg (Hn M)]
 have F:(Sort.grow (Sort.putRow (fun v:Value=>v) (Sort.ahead w q) (m id).blk (m id).base ys.toArray) os).heap[(m id).blk]?=some (.cells (Sort.putCells (fun v:Value=>v) (m id).base ys.toArray C) e (lo,hi)):=by
  simp only[Sort.grow,Sort.putRow,Sort.mapBlock,Sort.ahead];rw[EV (by simpa using J),Pb,if_pos rfl,hb];rfl
 have N:(Sort.grow (Sort.putRow (fun v:Value=>v) (Sort.ahead w q) (m id).blk (m id).base ys.toArray) os).heap.size=w.heap.size+os.size:=by
  simp[Sort.grow,Sort.putRow,Sort.mapBlock,Sort.ahead]
 refine⟨by rw[N];have:=R.size;omega,fun b AD=>?_,R.ext,fun i d=>R.lt i (a i d),fun i d=>R.new i (a i d),fun i o n=>?_,fun i j d O=>R.inj i j (a i d) (a j O),R.os,R.output,⟨R.tape.1,Jh R.tape.2 (Eb _ _)⟩,R.Oi.put a (fun b hb W=>heq b hb (fun e=>W id r e.symm))⟩
 .rw [heq b (by have := R.size; omega) (by have := R.new id r; omega)]
  exact R.cW b AD
 .by_cases f : i = id
  .subst f
   rw[AHeap.zm]at n;injection n with n;subst n;have t:(Sort.putCells (fun v:Value=>v) (m i).base ys.toArray C).size=C.size:=by simp[Sort.putCells]
   have A:∀k,(Sort.putCells (fun v:Value=>v) (m i).base ys.toArray C)[k]?=(C[k]?).map fun x=>if(m i).base<=k/\k<(m i).base+ys.length then ys.toArray[k-(m i).base]!else x:=fun k=>by
    simp[Sort.putCells]
   refine⟨_,e,lo,hi,F,by rw[t];exact hs,by rw[z,t];exact I,⟨by simp[z,t];omega,fun k v v' l g=>?_⟩,fun u X=>?_,fun j U=>hf j (by rw[t]at U;exact U)⟩
   .rw [IK] at g
    split at g
    .rename_i Y
     rw[G3,Pa,A]at g;by_cases p:k<ys.length
     .have Q : (m i).base + k < C.size := QT
      rw[Ef Q,pD,if_pos ⟨QT,QT⟩]at g;rw[<-B,US (by exact p)]at l;simp only[dR p,Xz]at l g;subst l g;have:(m i).base+k-(m i).base=k:=QT;rw[this,getElem!_pos _ k (by simpa using p)];simp only[uf];exact .flat (D _ (om p)).1
     .rw [<- B, kc QT, G3] at l
      have Z:ys.length+(k-ys.length)=k:=QT;rw[Z]at l;refine V.2 k v v' l ?_;rw[IK,if_pos QT,G3,Pa,<-g];cases H:C[(m i).base+k]? with
      |none=>rfl
      |some x=>rw[pD,if_neg QT]
    .cases g
   .obtain ⟨k, l⟩ := OH.1 X
    rw[Pa,A]at l;cases H:C[k]? with
    |none=>rw[H]at l;cases l
    |some x=>
     rw[H,pD]at l;injection l with l;split at l
     .rename_i ad
      subst l;have p:k-(m i).base<ys.length:=QT;rw[getElem!_pos _ _ (by simpa using p)];simp only[uf];exact(D _ (om p)).2
     .subst l;exact E _ (Jb (by rw[Pa];exact H))
  .rw [AHeap.Dz _ _ _ _ f] at n
   have G:h.own i≠none:=by rw[n];simp
   exact Rel.y3 (R.own i o n) (J4 _) (Yk.refl _ _) (heq _ (R.pG G) (s i G f))
def vr_flat {n:Nat} {m:Ti} {v v':Value} (a:flat v=true) (h:VR n m v v'):v'=v:=by
 cases h with
 |flat _=>rfl
 |ptr _=>cases a
 |Gq=>cases a
 |slice _ _=>cases a
 |buf _ _ _=>cases a
 |XW _=>cases a
 |empty=>cases a
 |map _=>cases a
 |func=>cases a
 |iface _=>cases a
 |agg=>cases a
 |tuple=>cases a
def Rel.holdsV (R:Rel W0 m h w) {id:Nat} {c xs:List Value} (b:∀y∈xs,flat y=true) (d:h.own id=some (.cells c)) (g:c.take xs.length=xs):Sort.Holds (fun v:Value=>v) w (m id).blk (m id).base xs.toArray:=by
 intro j e;have a:j<xs.length:=by simpa using e
 have hg:c[j]?=some xs[j]:=by
  have:=congrArg (·[j]?) g;simp only[IK,if_pos a,dR a]at this;exact this
 obtain⟨v',f,h2⟩:=R.OS d hg;rw[vr_flat (b _ (om a)) h2]at f;refine⟨?_,R.frozen d (bH.1 hg).1⟩;rw[f,getElem!_pos _ j e];rfl
def Wh {n:Nat} {m:Ti} {f:Fn} {v':Value} (h:VR n m (.func f #[] #[]) v'):v'=.func f #[] #[]:=by
 cases h with
 |flat h=>cases h
 |@func _ _ a' _ a ha hb _ _=>
  have b:a'=#[]:=qL207 (by simpa using ha.symm);have h2:a=#[]:=qL207 (by simpa using hb.symm);rw[b,h2]
def AC.iM {f:FuncId} {g:Fn} {k id len cap:Nat} {c xs ys:List Value} (n:h.own id=some (.cells c)) (C:c.take (len*k)=xs) (o:xs.length=len*k) (p:ys.length=len*k) (D:len*k<=c.length) (E:len<=cap) (F:0<len)
  (r:∀y∈xs,flat y=true) (s:∀y∈ys,flat y=true/\y.oneCell'=true)
  (G:∀(blk off cap':Nat) (w:World),Sort.Holds (fun v:Value=>v) w blk off xs.toArray->blk<w.heap.size->len<=cap'->
   Calls P f #[.slice (some ⟨blk,off,none⟩) len cap',.func g #[] #[]] w fun e w'=>e=.returned (.tuple #[])/\∃q os,w'=Sort.grow (Sort.putRow (fun v:Value=>v) (Sort.ahead w q) blk off ys.toArray) os):
  AC P W0 f [.slice (some ⟨id,0,none⟩) len cap,.func g #[] #[]] h fun x h'=>x=.tuple #[]/\h'=h.put id (.cells (ys++c.drop (len*k))):=by
 intro ex m w a R t;obtain⟨H,d,u⟩:=t.get (i:=0) rfl;obtain⟨I,j,l⟩:=t.get (i:=1) rfl;have b:a=[H,I]:=by
  have z:=t.1
  match a,z with
  |[x,y],_=>simp at d j;rw[d,j]
 obtain⟨cap',rfl,A,J⟩:=FJ E F u;have:=Wh l;subst this;rw[b];have B:h.own id≠none:=by rw[n];simp
 refine(G (m id).blk (m id).base cap' w (R.holdsV r n (by rw[o];exact C)) (R.pG B) A).mono ?_;rintro e w' ⟨rfl,q,os,rfl⟩;have R':=R.rowV s n QT q os;rw[p]at R';exact⟨.tuple #[],.tuple #[],m,_,rfl,R',Yk.refl _ _,J4 _,.tuple rfl (fun i v v' e=>by simp at e),rfl,rfl⟩
def AC.xZ {f:FuncId} {g:Fn} {a:Option Addr} {cap:Nat} (p:∀(a':Option Addr) (cap':Nat) (w:World),Calls P f #[.slice a' 0 cap',.func g #[] #[]] w fun e w'=>e=.returned (.tuple #[])/\w'=w):
  AC P W0 f [.slice a 0 cap,.func g #[] #[]] h fun x h'=>x=.tuple #[]/\h'=h:=by
 intro ex m w b R l;obtain⟨q,d,n⟩:=l.get (i:=0) rfl;obtain⟨r,j,k⟩:=l.get (i:=1) rfl;have c:b=[q,r]:=by
  have o:=l.1
  match b,o with
  |[x,y],_=>simp at d j;rw[d,j]
 obtain⟨a',cap',rfl⟩:=rO n;have:=Wh k;subst this;rw[c];refine(p a' cap' w).mono ?_;rintro e w' ⟨rfl,rfl⟩;exact⟨.tuple #[],.tuple #[],m,_,rfl,R,Yk.refl _ _,J4 _,.tuple rfl (fun i v v' e=>by simp at e),rfl,rfl⟩
def Rel.grown {W w':World} {m:Ti} {h:AHeap} (R:Rel (Ac.of W) m h w'):∃q os,w'=Sort.grow (W.drewN q) os:=by
 refine⟨w'.drawn-W.drawn,w'.heap.extract W.heap.size w'.heap.size,?_⟩;have n:W.heap.size<=w'.heap.size:=R.size;have hh:w'.heap=W.heap++w'.heap.extract W.heap.size w'.heap.size:=by
  apply ud;intro i;by_cases hi:i<W.heap.size
  .rw[EV hi];exact R.cW i hi
  .rw [Array.getElem?_append_right QT, Array.getElem?_extract]
   by_cases o:i<w'.heap.size
   .rw[if_pos QT];congr 1;omega
   .rw[if_neg QT,Vj QT]
 have h2:W.drawn<=w'.drawn:=R.tape.2;have h3:w'.drawn=W.drawn+(w'.drawn-W.drawn):=QT;have j:w'.tape=W.tape:=R.tape.1;have k:w'.os=W.os:=R.os;have l:w'.output=W.output:=R.output;have:∀a b:World,a.heap=b.heap->a.tape=b.tape->a.drawn=b.drawn->a.os=b.os->a.output=b.output->a=b:=by
  intro a b c d e f g;cases a;cases b;simp at c d e f g;subst c d e f g;rfl
 exact this _ _ hh j h3 k l
def AC.grown {f:FuncId} {args a:List Value} {x:Int} (W:World) (ha:AC P (Ac.of W) f args (Nj W) fun v _=>v=.int .i64 x) (c:∀m,xC 0 m args a):
  Calls P f a.toArray W fun e w'=>e=.returned (.int .i64 x)/\∃q os,w'=Sort.grow (W.drewN q) os:=by
 refine(ha [] (fun _=>⟨0,0,0⟩) W a (Rel.start W _) (c _)).mono ?_;rintro e w' ⟨v,v',d,h',rfl,R,_,_,b,rfl⟩;rw[jk b];exact⟨rfl,R.grown⟩
end
end Go.Fw
