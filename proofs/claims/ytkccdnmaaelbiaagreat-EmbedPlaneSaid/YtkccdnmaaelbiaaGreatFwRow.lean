/- A text. -/
import Derived.Shelf.Sort.Plain
import Derived.Shelf.Slices.In.SortNone
import Derived.Shelf.Slices.CompactI
import Derived.Test.YtkccdnmaaelbiaaGreatFwDraw
set_option linter.all false
set_option maxRecDepth 99999
set_option maxHeartbeats 9999999
namespace Go.Fw
section
open Go.Proofs
variable {P : Program} {W0 : Ac} {m : Ti} {h : AHeap} {w : World}
def ue (l:LF):List Value:=l.map (Value.int .i64)
def yO (l:LF):(ue l).length=l.length:=by simp[ue]
def jk {n:Nat} {m:Ti} {k:IntKind} {x:Int} {v:Value} (h:VR n m (.int k x) v):v=.int k x:=by cases h;rfl
def Rel.row (R:Rel W0 m h w) {id:Nat} {c:List Value} {ys:LF} (O:h.own id=some (.cells c)) (Y:ys.length<=c.length) (q:Nat) (os:Array Obj):
  Rel W0 m (h.put id (.cells (ue ys++c.drop ys.length))) (Sort.grow (Sort.putRow (Value.int .i64) (Sort.ahead w q) (m id).blk (m id).base ys.toArray) os):=by
 have p:h.own id≠none:=by rw[O];simp
 obtain⟨C,e,lo,hi,hb,hs,G,T,B,hf⟩:=R.own id _ O;have H:(m id).blk<w.heap.size:=(PY.1 hb).1;generalize z:ue ys++c.drop ys.length=Q;have t:Q.length=c.length:=by rw[<-z];simp[yO];omega
 have a:∀i,(h.put id (.cells Q)).own i≠none->h.own i≠none:=by
  intro i d;by_cases f:i=id
  .subst f;exact p
  .rwa[AHeap.Dz _ _ _ _ f]at d
 have r:∀i,h.own i≠none->i≠id->(m i).blk≠(m id).blk:=fun i d f I=>f (R.inj i id d p I);have heq:∀b,b<w.heap.size->b≠(m id).blk->(Sort.grow (Sort.putRow (Value.int .i64) (Sort.ahead w q) (m id).blk (m id).base ys.toArray) os).heap[b]?=w.heap[b]?:=fun b J K=>by
  simp only[Sort.grow,Sort.putRow,Sort.mapBlock,Sort.ahead];rw[EV (by simpa using J),Pb,if_neg (Hn K)]
 have D:(Sort.grow (Sort.putRow (Value.int .i64) (Sort.ahead w q) (m id).blk (m id).base ys.toArray) os).heap[(m id).blk]?=some (.cells (Sort.putCells (Value.int .i64) (m id).base ys.toArray C) e (lo,hi)):=by
  simp only[Sort.grow,Sort.putRow,Sort.mapBlock,Sort.ahead];rw[EV (by simpa using H),Pb,if_pos rfl,hb];rfl
 have L:(Sort.grow (Sort.putRow (Value.int .i64) (Sort.ahead w q) (m id).blk (m id).base ys.toArray) os).heap.size=w.heap.size+os.size:=by
  simp[Sort.grow,Sort.putRow,Sort.mapBlock,Sort.ahead]
 refine⟨by rw[L];have:=R.size;omega,fun b AD=>?_,R.ext,fun i d=>R.lt i (a i d),fun i d=>R.new i (a i d),fun i o n=>?_,fun i j d M=>R.inj i j (a i d) (a j M),R.os,R.output,⟨R.tape.1,Jh R.tape.2 (Eb _ _)⟩,R.Oi.put a (fun b hb U=>heq b hb (fun e=>U id p e.symm))⟩
 .rw [heq b (by have := R.size; omega) (by have := R.new id p; omega)]
  exact R.cW b AD
 .by_cases f : i = id
  .subst f
   rw[AHeap.zm]at n;injection n with n;subst n;have s:(Sort.putCells (Value.int .i64) (m i).base ys.toArray C).size=C.size:=by simp[Sort.putCells]
   have y:∀k,(Sort.putCells (Value.int .i64) (m i).base ys.toArray C)[k]?=(C[k]?).map fun x=>if(m i).base<=k/\k<(m i).base+ys.length then Value.int .i64 ys.toArray[k-(m i).base]!else x:=fun k=>by
    simp[Sort.putCells]
   refine⟨_,e,lo,hi,D,by rw[s];exact hs,by rw[t,s];exact G,⟨by simp[t,s];omega,fun k v v' l g=>?_⟩,fun u V=>?_,fun j S=>hf j (by rw[s]at S;exact S)⟩
   .rw [IK] at g
    split at g
    .rename_i W
     rw[G3,Pa,y]at g;by_cases A:k<ys.length
     .have N : (m i).base + k < C.size := QT
      rw[Ef N,pD,if_pos ⟨QT,QT⟩]at g;rw[<-z,US (by rw[yO];exact A)]at l;simp only[ue,Rv,dR A,pD,Xz]at l g;subst l g;have:(m i).base+k-(m i).base=k:=QT;rw[this,getElem!_pos _ k (by simpa using A)];exact .flat rfl
     .rw [<- z, kc (by rw [yO]; omega), yO, G3] at l
      have X:ys.length+(k-ys.length)=k:=QT;rw[X]at l;refine T.2 k v v' l ?_;rw[IK,if_pos QT,G3,Pa,<-g];cases F:C[(m i).base+k]? with
      |none=>rfl
      |some x=>rw[pD,if_neg QT]
    .cases g
   .obtain ⟨k, l⟩ := OH.1 V
    rw[Pa,y]at l;cases F:C[k]? with
    |none=>rw[F]at l;cases l
    |some x=>
     rw[F,pD]at l;injection l with l;split at l
     .subst l;rfl
     .subst l;exact B _ (Jb (by rw[Pa];exact F))
  .rw [AHeap.Dz _ _ _ _ f] at n
   have E:h.own i≠none:=by rw[n];simp
   exact Rel.y3 (R.own i o n) (J4 _) (Yk.refl _ _) (heq _ (R.pG E) (r i E f))
def Rel.holds (R:Rel W0 m h w) {id:Nat} {c:List Value} {xs:LF} (b:h.own id=some (.cells c)) (f:c.take xs.length=ue xs):Sort.Holds (Value.int .i64) w (m id).blk (m id).base xs.toArray:=by
 intro j d;have a:j<xs.length:=by simpa using d
 have hg:c[j]?=some (.int .i64 xs[j]):=by
  have:=congrArg (·[j]?) f;simp only[IK,if_pos a,ue,Rv,dR a,pD]at this;exact this
 obtain⟨v',e,h2⟩:=R.OS b hg;rw[jk h2]at e;refine⟨?_,R.frozen b (bH.1 hg).1⟩;rw[e,getElem!_pos _ j d];rfl
def FJ {n:Nat} {m:Ti} {id len cap:Nat} {v':Value} (b:len<=cap) (d:0<len) (h:VR n m (.slice (some ⟨id,0,none⟩) len cap) v'):
  ∃cap',v'=.slice (some ⟨(m id).blk,(m id).base,none⟩) len cap'/\len<=cap'/\∀k,k<=len->VR n m (.slice (some ⟨id,0,none⟩) k cap) (.slice (some ⟨(m id).blk,(m id).base,none⟩) k cap'):=by
 cases h with
 |flat h=>simp[Fw.flat]at h
 |slice h c=>exact⟨cap,YX,b,fun k _=>by simpa using VR.slice (m:=m) (off:=0) (len:=k) h c⟩
 |@buf _ _ _ k cap' a' h a ha=>
  rcases ha with⟨rfl,ha⟩|ha
  .exact⟨cap',YX,a,fun j e=>by simpa using VR.buf (m:=m) (off:=0) (len:=j) (k:=k) (cap':=cap') h QT (.inl ⟨rfl,by simpa using ha⟩)⟩
  .omega
 |empty=>omega
def rO {n:Nat} {m:Ti} {a:Option Addr} {cap:Nat} {v':Value} (h:VR n m (.slice a 0 cap) v'):∃a' cap',v'=.slice a' 0 cap':=by
 cases h with
 |flat h=>exact⟨_,_,rfl⟩
 |slice=>exact⟨_,_,rfl⟩
 |buf=>exact⟨_,_,rfl⟩
 |XW=>exact⟨_,_,rfl⟩
 |empty=>exact⟨_,_,rfl⟩
def AC.ofRow {f:FuncId} {id len cap k:Nat} {c:List Value} {xs ys:LF} {out:Value} (j:h.own id=some (.cells c)) (z:c.take len=ue xs) (l:xs.length=len) (n:ys.length=len) (A:len<=c.length) (B:len<=cap) (C:0<len) (D:k<=len)
  (d:out=.tuple #[]\/out=.slice (some ⟨id,0,none⟩) k cap)
  (E:∀(blk off cap':Nat) (w:World),Sort.Holds (Value.int .i64) w blk off xs.toArray->blk<w.heap.size->len<=cap'->
   Calls P f #[.slice (some ⟨blk,off,none⟩) len cap'] w fun e w'=>(∃v,e=.returned v/\(out=.tuple #[]/\v=.tuple #[]\/out≠.tuple #[]/\v=.slice (some ⟨blk,off,none⟩) k cap'))/\∃q os,w'=Sort.grow (Sort.putRow (Value.int .i64) (Sort.ahead w q) blk off ys.toArray) os):
  AC P W0 f [.slice (some ⟨id,0,none⟩) len cap] h fun x h'=>x=out/\h'=h.put id (.cells (ue ys++c.drop len)):=by
 intro ex m w a R y;obtain⟨F,g,o⟩:=y.get (i:=0) rfl;have b:a=[F]:=by
  have p:=y.1
  match a,p with
  |[x],_=>simp at g;rw[g]
 obtain⟨cap',rfl,r,s⟩:=FJ B C o;rw[b];have t:h.own id≠none:=by rw[j];simp
 refine(E (m id).blk (m id).base cap' w (R.holds j (by rw[l];exact z)) (R.pG t) r).mono ?_;rintro e w' ⟨⟨v,rfl,G⟩,q,os,rfl⟩;have R':=R.row (ys:=ys) j QT q os;rw[n]at R';refine⟨out,v,m,_,rfl,R',Yk.refl _ _,J4 _,?_,rfl,rfl⟩;rcases G with⟨u,rfl⟩|⟨u,rfl⟩
 .rw[u];exact .tuple rfl (fun i v v' e=>by simp at e)
 .rcases d with h2 | h2
  .exact absurd h2 u
  .rw[h2];exact s k D
end
section
variable {P : Program} {W0 : Ac} {h : AHeap}
def AC.frame {f:FuncId} {args:List Value} {R:Nat} {o:Uw} {Q:Value->AHeap->Prop} (M:h.own R=some o) (N:AC P W0 f args (h.kill R) Q):
  AC P W0 f args h fun x h'=>∃g,Q x g/\g.own R=none/\h'=g.put R o:=by
 intro ex m w y r S;have k:h.own R≠none:=by rw[M];simp
 have B:R<h.next:=r.lt R k
 have H:=r.own R o M;obtain⟨O,hb⟩:∃O,w.heap[(m R).blk]?=some O:=by
  cases o with
  |cells c=>obtain⟨C,e,lo,hi,I,_⟩:=H;exact⟨_,I⟩
  |map es=>obtain⟨E,clock,I,_⟩:=H;exact⟨_,I⟩
 have J:∀b a,(b,a)∈(W0.add ex).rw->(m R).blk≠b:=fun b a AD=>r.Oi.apart b a R AD k;have s:∀i,(h.kill R).own i≠none->h.own i≠none/\i≠R:=fun i hi=>by
  by_cases e:i=R
  .subst e;exact absurd (AHeap.IV _ _) hi
  .rw[AHeap.pY _ _ _ e]at hi;exact⟨hi,e⟩
 have T:Rel (W0.add (((m R).blk,O)::ex)) m (h.kill R) w:={
  size:=r.size
  cW:=r.cW
  ext:=r.ext
  lt:=fun i hi=>r.lt i (s i hi).1
  new:=fun i hi=>r.new i (s i hi).1
  own:=fun i a hi=>by
   have:=s i (by rw[hi];simp);rw[AHeap.pY _ _ _ this.2]at hi;exact r.own i a hi
  inj:=fun i j hi K e=>r.inj i j (s i hi).1 (s j K).1 e
  os:=r.os
  output:=r.output
  tape:=r.tape
  Oi:={
   agree:=r.Oi.agree
   next:=r.Oi.next
   Uv:=by
    show(((m R).blk,O)::(W0.add ex).rw|>.map (·.1)).Nodup;rw[Kj,tS];refine⟨fun d=>?_,r.Oi.Uv⟩;obtain⟨⟨b,a⟩,AD,e⟩:=T8.1 d;exact J b a AD e.symm
   hi:=fun b a d=>by
    rcases aH.1 d with e|d
    .injection e with t A;subst t;exact r.new R k
    .exact r.Oi.hi b a d
   held:=fun b a d=>by
    rcases aH.1 d with e|d
    .injection e with t A;subst t;subst A;exact hb
    .exact r.Oi.held b a d
   apart:=fun b a i d hi=>by
    rcases aH.1 d with e|d
    .injection e with t A; subst t
     exact fun e=>(s i hi).2 (r.inj i R (s i hi).1 k e)
    .exact r.Oi.apart b a i d (s i hi).1}}
 refine(N (((m R).blk,O)::ex) m w y T S).mono ?_;rintro e w' ⟨v,v',G,g,U,rg,n,p,V,W⟩
 have n:Yk h.next m G:=n
 have p:h.next<=g.next:=p
 have l:G R=m R:=n R B;have q:((m R).blk,O)∈(W0.add (((m R).blk,O)::ex)).rw:=jR ..;have L:=rg.Oi.held _ _ q;have z:g.own R=none:=by
  cases hg:g.own R with
  |none=>rfl
  |some a=>exact absurd (by rw[l]) (rg.Oi.apart _ _ R q (by rw[hg];simp))
 have hs:∀i,(g.put R o).own i≠none->i=R\/(i≠R/\g.own i≠none):=fun i hi=>by
  by_cases e:i=R
  .exact .inl e
  .rw[AHeap.Dz _ _ _ _ e]at hi;exact .inr ⟨e,hi⟩
 have u:∀i,g.own i≠none->(G i).blk≠(m R).blk:=fun i hi=>rg.Oi.apart _ _ i q hi;refine⟨v,v',G,g.put R o,U,?_,n,p,V,g,W,z,rfl⟩;exact{
  size:=rg.size
  cW:=rg.cW
  ext:=rg.ext
  lt:=fun i hi=>by
   rcases hs i hi with rfl|⟨_,hi⟩
   .exact K2 B p
   .exact rg.lt i hi
  new:=fun i hi=>by
   rcases hs i hi with rfl|⟨_,hi⟩
   .rw[l];exact r.new i k
   .exact rg.new i hi
  own:=fun i a hi=>by
   by_cases e:i=R
   .subst e
    rw[AHeap.zm]at hi;injection hi with hi;subst hi;rw[l];exact Rel.y3 H p n (by rw[L,hb])
   .rw[AHeap.Dz _ _ _ _ e]at hi;exact rg.own i a hi
  inj:=fun i j hi K e=>by
   rcases hs i hi with t|⟨_,D⟩<;>rcases hs j K with A|⟨_,F⟩
   .rw[t,A]
   .rw[t,l]at e;exact absurd e.symm (u j F)
   .rw[A,l]at e;exact absurd e (u i D)
   .exact rg.inj i j D F e
  os:=rg.os
  output:=rg.output
  tape:=rg.tape
  Oi:={
   agree:=rg.Oi.agree
   next:=rg.Oi.next
   Uv:=r.Oi.Uv
   hi:=r.Oi.hi
   held:=fun b a d=>rg.Oi.held b a (Gs _ d)
   apart:=fun b a i d hi=>by
    rcases hs i hi with rfl|⟨_,hi⟩
    .rw[l];exact r.Oi.apart b a i d k
    .exact rg.Oi.apart b a i (Gs _ d) hi}}
def Le.uT {g:AHeap} {R:Nat} (a:g.own R=Option.none) (o:Uw):Le g (g.put R o):=(Le.refl g).put o a
def Le.ti {f:AHeap} {R:Nat} (l:Le f h) (a:f.own R=Option.none):Le f (h.kill R):=
 ⟨l.ext,fun i o hi=>by
  by_cases e:i=R
  .subst e;rw[a]at hi;cases hi
  .rw[AHeap.pY _ _ _ e];exact l.own i o hi⟩
def AC.exact {f:FuncId} {id n k:Nat} {rest:List Value} {Q:Nat->AHeap->Prop} (I:0<n)
  (H:∀cap,n<=cap->cap<km->AC P W0 f (.slice (some ⟨id,0,none⟩) n cap::rest) h fun x h'=>∃n',n'<=cap/\x=.slice (some ⟨id,0,none⟩) n' cap/\Q n' h'):
  AC P W0 f (.slice (some ⟨id,0,none⟩) n (km+k)::rest) h fun x h'=>∃n',x=.slice (some ⟨id,0,none⟩) n' (km+k)/\Q n' h':=by
 intro ex m w d r l;obtain⟨o,c,rfl⟩:∃o c,d=o::c:=by
  cases d with
  |nil=>have:=l.1;simp at this
  |cons a b=>exact⟨a,b,rfl⟩
 have t:VR h.next m (.slice (some ⟨id,0,none⟩) n (km+k)) o:=l.2 0 _ _ rfl rfl
 have z:xC h.next m rest c:=by simpa using l.drop 1
 generalize u:km+k=C at t;cases t with
 |flat hf=>simp[Fw.flat]at hf
 |slice _ J=>omega
 |@buf _ _ _ k1 cap' a' i A ha=>
  obtain rfl:k1=k:=QT;clear u;rcases ha with⟨rfl,j,p⟩|K
  .refine (H cap' A p ex m w _ r (.cons (.slice i p) z)).mono ?_
   rintro e w' ⟨v,v',y,h',B,rg,g,q,D,n',s,rfl,E⟩
   have g:Yk h.next m y:=g
   refine⟨_,v',y,h',B,rg,g,q,?_,n',rfl,E⟩;have F:=g id i;cases D with
   |flat hf=>simp[Fw.flat]at hf
   |slice G h2=>exact .buf G s (.inl ⟨rfl,by rw[F];exact⟨j,p⟩⟩)
   |buf _ _ _=>omega
   |empty=>omega
  .omega
 |empty=>simp[km]at u
end
end Go.Fw
