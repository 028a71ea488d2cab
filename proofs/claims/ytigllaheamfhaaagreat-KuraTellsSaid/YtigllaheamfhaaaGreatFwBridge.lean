/- A text. -/
import Derived.ProofKit
import Derived.Deep.Slices
import Derived.OpenShut
import Derived.Deep.Draws
import Derived.Scope
import Derived.Test.YtigllaheamfhaaaGreatFwLB17
set_option linter.all false
set_option maxRecDepth 99999
set_option maxHeartbeats 9999999
open Go.Proofs
open Option renaming some→Z,none→Y
open Bool renaming true→tT,false→fF
open List renaming replicate→rP,range→rG
open Go.Value renaming slice→sL,pointer→pT
open Go renaming Value→vV
open Go.Proofs.Tryz renaming prog→pG
open Go.Proofs.Tryz
open List
namespace Go.Fw
section
open Go.ChangeShapes Go.WideShapes Go.RowKit
def MR(W:World):aai:=⟨fun b off=>(W.cell? ⟨b,off,Y⟩).bind tag,0,.leaf⟩
theorem Mn(W:World)(i:Nat):(MR W).own i=Y:=by simp[MR,aai.own,Trie.get]
theorem Rel.start(W:World)(m:abd):Rel (abw.of W) m (MR W) W:=⟨qL0 _,fun _ _=>rfl,fun _ _=>rfl,(by grind[Mn]),(by grind[Mn]),(by grind[Mn]),(by grind[Mn]),rfl,rfl,⟨rfl,qL0 _⟩,⟨fun _ h=>(nomatch h),Z6 _,.nil,fun _ _ h=>(nomatch h),fun _ _ h=>(nomatch h),fun _ _ _ h=>(nomatch h)⟩⟩
theorem Rel.below{W w':World}{m:abd}{h:aai}(R:Rel (abw.of W) m h w'):Below W.heap.size W w':=⟨R.os,R.tape.1,R.output,R.size,R.qi⟩
section
variable{H:Type}{enc:TypeId×vV->H}{P:Program}{W:World}
theorem tL{a:Addr}(h:a.spot=Y)(i:Nat):a.add i=⟨a.block,a.off+i,Y⟩:=by have⟨b,off,sp⟩:=a;simp only at h;subst h;unfold Addr.add;grind
end
section
variable{H:Type}{enc:TypeId×vV->H}{P:Program}{W:World}
def RdK(enc:TypeId×vV->H)(P:Program)(W:World)(t:TypeId)(k:Nat)(Q:xLV->Prop):Prop:=∀fuel cs x,DataW.trod enc P W 0 (fun _=>tT) tT fuel t cs=Z x->∃us:xLV,us.length=k/\cs.length=k/\(∀(i:Nat) u v',us[i]?=Z u->cs[i]?=Z v'->tag v'=Z u)/\Q us
theorem rd_sliceK{t e:TypeId}{k:Nat}{Q:xLV->Prop}(s:P.underlying t=Z (.slice e))(G:P.cellsOf e=k)(I:0<k)(E:RdK enc P W e k Q):
  ∀fuel cs x,DataW.trod enc P W 0 (fun _=>tT) tT fuel t cs=Z x->∃v' v n C,cs=[v']/\tag v'=Z v/\CS k (MR W) v n C/\∀i,i<n->Q ((C.drop (i*k)).take k):=by
 intro fuel cs x h;rcases Go.Deep.open_slice s h with⟨rfl,_⟩|⟨a,len,cap,m,n,D,O,rfl,hb,R,J,o,_,w⟩
 .exact⟨_,.slice Y 0 0,0,[],rfl,rfl,CS.nil k _,fun i hi=>absurd hi NH⟩
 .simp only[if_true]at o;have p:=o.symm;subst p;rw[G]at w;have S:cap<UNK:=aoE J WY;by_cases K:cap=0
  .subst K;have:len=0:=NH;subst this;refine⟨_,sL (Z ⟨a.block,a.off,Z 0⟩) 0 0,0,[],rfl,?_,⟨⟨_,0,rfl,Ma⟩,Ma,Ma⟩,fun i hi=>absurd hi NH⟩;have⟨b,off,sp⟩:=a;cases sp<;>grind[tag]
  .have y:a.spot=Y:=by
    have⟨f,r,h2⟩:=w 0 NH;have⟨us,_,L,_⟩:=E _ _ _ h2;have⟨_,hlen,c⟩:=World.cells?_some r;have g:=c 0 I;rw[show(a.add (0*k)).add 0=a from by simp[Addr.add]]at g;cases z:f[0]? with
    |none=>grind
    |some q=>
     rw[z]at g;simp only[World.cell?]at g;split at g
     .split at g
      .cases g
      .rename_i hs;simpa using hs
     .cases g
   have key:∀j,j<=len->∃C:xLV,C.length=j*k/\(∀(i:Nat) u,C[i]?=Z u->(MR W).read ⟨a.block,a.off+i,Z 0⟩=Z u)/\∀i,i<j->Q ((C.drop (i*k)).take k):=by
    intro j
    induction j with
    |zero=>intro _;exact⟨[],Ma,Ma,fun i hi=>absurd hi NH⟩
    |succ j M=>
     intro T;have⟨C,r,h2,h3⟩:=M NH;have⟨f,g,s⟩:=w j NH;have⟨us,l1,l2,l3,q⟩:=E _ _ _ s;have⟨_,hlen,c⟩:=World.cells?_some g;refine⟨C++us,hGr,fun i u hi=>?_,fun i hi=>?_⟩
     .by_cases A:i<j*k
      .grind
      .rw[AE NH,r]at hi;have N:i-j*k<k:=hGr;have l:=c (i-j*k) NH;have d:f[i-j*k]?=Z f[i-j*k]:=qL7 NH;have F:=l3 _ u _ hi d;rw[d,tL y,tL rfl]at l;simp only at l;rw[show a.off+j*k+(i-j*k)=a.off+i by omega]at l;grind[aai.read,MR]
     .by_cases B:i<j
      .have A:i*k+k<=j*k:=by rw[<-Nat.succ_mul];exact af7 _ B
       grind
      grind
   have⟨C,r,h2,h3⟩:=key len (qL0 _);refine⟨_,sL (Z ⟨a.block,a.off,Z 0⟩) len cap,len,C,rfl,?_,⟨⟨_,cap,rfl,Ma⟩,r,fun i u hi=>?_⟩,h3⟩
   .obtain⟨b,off,sp⟩:=a;grind[tag]
   .rw[fA];exact h2 i u hi
def rd_pair{t e:TypeId}(p:P.underlying t=Z (.array 2 e))(j:P.underlying e=Z (.int .i64))(q:P.cellsOf e=1)(f:P.cellsOf t=2):
  RdK enc P W t 2 (fun us=>∃a b,us=[.int .i64 a,.int .i64 b]):=by
 intro fuel cs x h;have⟨xs,m,_,_,k,g,l⟩:=DataW.trod_array p h;rw[f]at k
 match cs,k,xs,g with
 |[r,c1],_,[x0,x1],_=>
  have n:=l 0 NH;have o:=l 1 NH;simp[q]at n o;have⟨a,ea,_,_⟩:=DataW.trod_int j n;have⟨b,eb,_,_⟩:=DataW.trod_int j o;injection ea with ea;injection eb with eb;subst ea eb;refine⟨[.int .i64 a,.int .i64 b],rfl,rfl,fun i u v' c d=>?_,a,b,rfl⟩
  match i with
  |0=>simp at c d;subst c d;rfl
  |1=>simp at c d;subst c d;rfl
  |i+2=>simp at c
end
end
section
variable{P:Program}{W0:abw}{m:abd}{h:aai}{w:World}
theorem Rel.rowV(R:Rel W0 m h w){id:Nat}{c:xLV}{ys:xLV}(D:∀y∈ys,flat y=tT/\y.oneCell'=tT)(I:h.own id=Z (.cells c))(hl:ys.length<=c.length)(q:Nat)(os:Array Obj):
  Rel W0 m (h.put id (.cells (ys++c.drop ys.length))) (Sort.grow (Sort.putRow (fun v:vV=>v) (Sort.ahead w q) (m id).blk (m id).base ys.toArray) os):=by
 have s:h.own id≠Y:=by rw[I];simp
 have⟨C,e,lo,hi,hb,hs,M,N,J,hf⟩:=R.own id _ I;have O:(m id).blk<w.heap.size:=(ah7.1 hb).1;generalize t:ys++c.drop ys.length=K;have L:K.length=c.length:=hGr;have a:∀i,(h.put id (.cells K)).own i≠Y->h.own i≠Y:=by grind[aai.By]
 have n:∀i,h.own i≠Y->i≠id->(m i).blk≠(m id).blk:=fun i f l E=>l (R.inj i id f s E);have heq:∀b,b<w.heap.size->b≠(m id).blk->(Sort.grow (Sort.putRow (fun v:vV=>v) (Sort.ahead w q) (m id).blk (m id).base ys.toArray) os).heap[b]?=w.heap[b]?:=fun b Q S=>by simp only[Sort.grow,Sort.putRow,Sort.mapBlock,Sort.ahead];grind
 have z:(Sort.grow (Sort.putRow (fun v:vV=>v) (Sort.ahead w q) (m id).blk (m id).base ys.toArray) os).heap[(m id).blk]?=Z (.cells (Sort.putCells (fun v:vV=>v) (m id).base ys.toArray C) e (lo,hi)):=by simp only[Sort.grow,Sort.putRow,Sort.mapBlock,Sort.ahead];rw[qL162 hGr,dU,abe rfl,hb];rfl
 have F:(Sort.grow (Sort.putRow (fun v:vV=>v) (Sort.ahead w q) (m id).blk (m id).base ys.toArray) os).heap.size=w.heap.size+os.size:=by simp[Sort.grow,Sort.putRow,Sort.mapBlock,Sort.ahead]
 refine⟨by rw[F];have:=R.size;omega,fun b sZ=>?_,R.ext,fun i f=>R.lt i (a i f),fun i f=>R.new i (a i f),fun i o g=>?_,fun i j f G=>R.inj i j (a i f) (a j G),R.os,R.output,⟨R.tape.1,jz R.tape.2 (ail _ _)⟩,R.aah.put a (fun b hb T=>heq b hb (fun e=>T id s e.symm))⟩
 .grind[Rel.new,Rel.qi]
 .by_cases l:i=id
  .subst l;rw[aai.Y3]at g;injection g with g;subst g;have U:(Sort.putCells (fun v:vV=>v) (m i).base ys.toArray C).size=C.size:=by simp[Sort.putCells]
   have A:∀k,(Sort.putCells (fun v:vV=>v) (m i).base ys.toArray C)[k]?=(C[k]?).map fun x=>if(m i).base<=k/\k<(m i).base+ys.length then ys.toArray[k-(m i).base]!else x:=fun k=>by simp[Sort.putCells]
   refine⟨_,e,lo,hi,z,hGr,hGr,⟨hGr,fun k v v' p d=>?_⟩,fun u V=>?_,fun j hj=>hf j hGr⟩
   .rw[anh]at d;split at d
    .rename_i W;rw[b7,ah6,A]at d;by_cases r:k<ys.length
     .have H:(m i).base+k<C.size:=NH;rw[ahD H,ahe,abe ⟨NH,NH⟩]at d;rw[<-t,si (by exact r)]at p;simp only[qL7 r,ag4]at p d;subst p d;have:(m i).base+k-(m i).base=k:=NH;rw[this,getElem!_pos _ k hGr];simp only[qL187];exact .flat (D _ (aaf r)).1
     .rw[<-t,AE NH,b7]at p;have X:ys.length+(k-ys.length)=k:=NH;rw[X]at p;refine N.2 k v v' p ?_;rw[anh,abe NH,b7,ah6,<-d];cases hC:C[(m i).base+k]? with
      |none=>rfl
      |some x=>grind
    .cases d
   .obtain⟨k,p⟩:=vZ.1 V;grind
  .rw[aai.By _ _ _ _ l]at g;have B:h.own i≠Y:=hGr;exact Rel.JP (R.own i o g) (qL0 _) (ZK.refl _ _) (heq _ (R.Hc B) (n i B l))
theorem vr_flat{n:Nat}{m:abd}{v v':vV}(a:flat v=tT)(h:VR n m v v'):v'=v:=by
 cases h with
 |flat _=>rfl
 |ptr _=>cases a
 |aeK=>cases a
 |slice _ _=>cases a
 |buf _ _ _=>cases a
 |esl _=>cases a
 |empty=>cases a
 |map _=>cases a
 |func=>cases a
 |iface _=>cases a
 |agg=>cases a
 |tuple=>cases a
theorem Rel.holdsV(R:Rel W0 m h w){id:Nat}{c xs:xLV}(a:∀y∈xs,flat y=tT)(b:h.own id=Z (.cells c))(d:c.take xs.length=xs):Sort.Holds (fun v:vV=>v) w (m id).blk (m id).base xs.toArray:=by intro j e;grind[Rel.UL,vr_flat,getElem_mem,Rel.frozen]
theorem ajV{n:Nat}{m:abd}{f:Fn}{v':vV}(h:VR n m (.func f #[] #[]) v'):v'=.func f #[] #[]:=by
 cases h<;>grind
theorem AC.ofRowK{f:FuncId}{g:Fn}{k id len cap:Nat}{c xs ys:xLV}(j:h.own id=Z (.cells c))(J:c.take (len*k)=xs)(z:xs.length=len*k)(l:ys.length=len*k)(A:len*k<=c.length)(B:len<=cap)(C:0<len)(n:∀y∈xs,flat y=tT)(o:∀y∈ys,flat y=tT/\y.oneCell'=tT)(D:∀(blk off cap':Nat)(w:World),Sort.Holds (fun v:vV=>v) w blk off xs.toArray->blk<w.heap.size->len<=cap'->
   Calls P f #[sL (Z ⟨blk,off,Y⟩) len cap',.func g #[] #[]] w fun e w'=>e=.returned (.tuple #[])/\∃q os,w'=Sort.grow (Sort.putRow (fun v:vV=>v) (Sort.ahead w q) blk off ys.toArray) os):
  AC P W0 f [sL (Z id) len cap,.func g #[] #[]] h fun x h'=>x=.tuple #[]/\h'=h.put id (.cells (ys++c.drop (len*k))):=by
 intro ex m w a R p;have⟨E,F,r⟩:=p.get (i:=0) rfl;have⟨G,H,d⟩:=p.get (i:=1) rfl;have b:a=[E,G]:=by
  have s:=p.1
  match a,s with
  |[x,y],_=>grind
 obtain⟨cap',rfl,t,I⟩:=IA B C r;have:=ajV d;subst this;rw[b];have u:h.own id≠Y:=by rw[j];simp
 refine(D (m id).blk (m id).base cap' w (R.holdsV n j hGr) (R.Hc u) t).mono ?_;rintro e w' ⟨rfl,q,os,rfl⟩;have R':=R.rowV o j NH q os;rw[l]at R';exact⟨.tuple #[],.tuple #[],m,_,rfl,R',ZK.refl _ _,qL0 _,.tuple rfl (fun i v v' e=>by simp at e),rfl,rfl⟩
theorem AC.ofNoneF{f:FuncId}{g:Fn}{a:Option Addr}{cap:Nat}(n:∀(a':Option Addr)(cap':Nat)(w:World),Calls P f #[.slice a' 0 cap',.func g #[] #[]] w fun e w'=>e=.returned (.tuple #[])/\w'=w):
  AC P W0 f [.slice a 0 cap,.func g #[] #[]] h fun x h'=>x=.tuple #[]/\h'=h:=by
 intro ex m w b R j;have⟨o,p,k⟩:=j.get (i:=0) rfl;have⟨q,r,d⟩:=j.get (i:=1) rfl;have c:b=[o,q]:=by
  have l:=j.1
  match b,l with
  |[x,y],_=>grind
 obtain⟨a',cap',rfl⟩:=WT k;have:=ajV d;subst this;rw[c];refine(n a' cap' w).mono ?_;rintro e w' ⟨rfl,rfl⟩;exact⟨.tuple #[],.tuple #[],m,_,rfl,R,ZK.refl _ _,qL0 _,.tuple rfl (fun i v v' e=>by simp at e),rfl,rfl⟩
theorem Rel.grown{W w':World}{m:abd}{h:aai}(R:Rel (abw.of W) m h w'):∃q os,w'=Sort.grow (W.drewN q) os:=by
 refine⟨w'.drawn-W.drawn,w'.heap.extract W.heap.size w'.heap.size,?_⟩;have f:W.heap.size<=w'.heap.size:=R.size;have hh:w'.heap=W.heap++w'.heap.extract W.heap.size w'.heap.size:=by
  apply Array.ext_getElem?;intro i;by_cases hi:i<W.heap.size
  .rw[qL162 hi];exact R.qi i hi
  grind
 have h2:W.drawn<=w'.drawn:=R.tape.2;have h3:w'.drawn=W.drawn+(w'.drawn-W.drawn):=NH;have c:w'.tape=W.tape:=R.tape.1;have d:w'.os=W.os:=R.os;have e:w'.output=W.output:=R.output;have:∀a b:World,a.heap=b.heap->a.tape=b.tape->a.drawn=b.drawn->a.os=b.os->a.output=b.output->a=b:=by intro a b g j e3 e4 k;cases a;cases b;grind
 exact this _ _ hh c h3 d e
def AC.grown{f:FuncId}{args a:xLV}{x:Int}(W:World)(ha:AC P (abw.of W) f args (MR W) fun v _=>v=x)(c:∀m,AK 0 m args a):
  Calls P f a.toArray W fun e w'=>e=.returned x/\∃q os,w'=Sort.grow (W.drewN q) os:=by
 refine(ha [] (fun _=>⟨0,0,0⟩) W a (Rel.start W _) (c _)).mono ?_;rintro e w' ⟨v,v',d,h',rfl,R,_,_,b,rfl⟩;rw[vr_int b];exact⟨rfl,R.grown⟩
end
section
variable{P:Program}{W0:abw}{N:Nat}{fr:aam}{h:aai}
def ag0{b:Frame}{a:Act}{k:List Item}{cs:List Frame}{w:World}{c:Code}:step P (lone (b.atR a (.code (.scope c)::k)) cs w)=.next (lone (b.atR a (.code c::.inScope c::k)) cs w):=step_lone_go (by simp[stepG,stepG.exec,Frame.atR])
def EC{b:Frame}{a:Act}{k:List Item}{cs:List Frame}{w:World}{c:Code}:step P (lone (b.atR a (.inScope c::k)) cs w)=.next (lone (b.atR a k) cs w):=step_lone_go (by simp[stepG,stepG.exec,Frame.atR])
def VP{F:Fence}{n:Nat}{Q:Exit->Act->World->Prop}{a:Act}{w:World}{c:Code}(h:c.wpIn F n P (Exit.noGoto Q) a w):(Code.scope c).wpIn F n P Q a w:=by
 intro b k cs o hb p;have j:(lone (b.atR a (.code (.scope c)::k)) cs w).fenced P F:=fenced_calm hb p rfl;have⟨e,f,m,g,d⟩:=h b (.inScope c::k) cs o hb p;cases e with
 |normal=>exact⟨.normal,f,m,g,.of_steps (.head j ag0 d) (.one (fenced_calm (fr:=b.atR f (.inScope c::k)) hb p rfl) EC)⟩
 |exit id=>exact⟨.exit id,f,m,g,.of_steps (.one j ag0) ⟨fun r q=>d.1 r (by simp[exitTo,q]),fun s q=>d.2 s (by simp[exitTo,q])⟩⟩
 |goto l=>exact g.elim
 |ret=>exact⟨_,f,m,g,.of_steps (.one j ag0) d⟩
 |panic ch=>exact⟨_,f,m,g,.of_steps (.one j ag0) d⟩
 |outgrown=>exact⟨_,f,m,g,.of_steps (.one j ag0) d⟩
def noJump(Q:Exit->aam->aai->Prop):Exit->aam->aai->Prop
 |.goto _,_,_=>False
 |e,fr,h=>Q e fr h
def ud.scope{c:Code}{Q:Exit->aam->aai->Prop}(q:ud P W0 N c fr h (noJump Q)):ud P W0 N (.scope c) fr h Q:=by
 intro d nn m a w s K f;refine VP (q d nn m a w s _ fun new e g fr' h' a' w' j h2 h3 b=>?_);cases e with
 |goto l=>exact b.elim
 |_=>exact f _ _ g fr' h' a' w' j h2 h3 b
def Dp(P:Program)(W0:abw)(N:Nat)(ks:List Kt)(R:Exit->aam->aai->Prop):Exit->aam->aai->Prop:=noJump (KE P W0 N R ks)
section
variable{ks:List Kt}{R:Exit->aam->aai->Prop}{i:Nat}
def MX:Dp P W0 N ks R .normal fr h=KN P W0 N ks R fr h:=id rfl
def tx:Dp P W0 N ks R .ret fr h=KX P W0 N .ret ks R fr h:=id rfl
def J4:Dp P W0 N ks R (.exit i) fr h=KX P W0 N (.exit i) ks R fr h:=id rfl
def VK.scope{c:Code}(q:VK P W0 N c [] (Dp P W0 N ks R) fr h):VK P W0 N (.scope c) ks R fr h:=ud.scope (VK.sound q)
def VK.label{l:Nat}(q:KN P W0 N ks R fr h):VK P W0 N (.label l) ks R fr h:=ud.label q
end
end
section
attribute [local irreducible] Kp MQ lU KO1 KO KN KX KE VK Kl ZJ TC aab
variable {h:aai} {v:Value} {xs:RZ}
theorem N7(p:abw)(v q:vV)(G:GM)(xs:RZ)(h:aai)(hg:GR h v G)(hw:RL RP h q xs)(Q:xs.length<=100000):
  AC pG p 70 [v,q] h fun x h'=>Le h h'/\∃m e,x=.tuple #[m,.int .i64 e]/\
   ((¬bX G/\m=.slice Y 0 0/\e=20)\/(bX G/\(¬∀x∈xs,0<=x/\x<G.n)/\m=.slice Y 0 0/\e=2)\/
    (bX G/\(∀x∈xs,0<=x/\x<G.n)/\e=0/\RL (RL RP) h' m (Zh G.n.toNat G.es))):=by
 have f:=hg;have⟨z,es⟩:=G
 obtain⟨ev,rfl,F⟩:=hg.open
 refine AC.vF func70 ntmps70 results70 fun r=>?_;obtain⟨A,H,a,I,-,C⟩:=r8 (n:=z) r F
 generalize h.next=B at*
 have s:=C A (Le.refl _);refine Sk (XC H s.1) ?_;refine kCi UP (ak p _ _ A (f.le a)) ?_;rintro x h2 J ⟨⟨K,rfl,t⟩,b⟩;cases K with
 |false=>refine Uy ?_;grind[Le.trans]
 |true=>
 have u:=t.1 rfl;have L:0<=z:=u.n0;obtain⟨n,rfl⟩:=WA L;have lw:=fun g=>hw.TA g;simp only[HO,seval,lw];refine lIn (fun k fr o=>∃i:Nat,k=xs.length-i/\i<=xs.length/\fr=mkF [(2,pT (Z B)),(11,q),(12,.int .i64 xs.length),(13,i)]/\o=h2/\∀(j:Nat) x,j<i->xs[j]?=Z x->0<=x/\x<(n:Int)) ⟨0,rfl,Z6 _,rfl,rfl,NH⟩ ?_;rintro k fr o M ⟨i,rfl,hi,rfl,rfl,D⟩;have d:=C o b;refine Uy ?_;refine Kl.intro (fun E=>?_) (fun hf=>?_)
 .have c:i<xs.length:=acb E;clear E;have l:=CA c;have ad:=hw.DH i c;have ld:=(hw.le Nn.RP (a.trans b)).Uc i c;generalize xs[i]=y at l ld;by_cases c1:y<0
  .simp only[HO,seval,ad,ld,c1];exact⟨a.trans b,_,_,rfl,.inr (.inl ⟨u,fun hh=>by have:=hh y (BS l);omega,rfl,rfl⟩)⟩
  by_cases c2:y>=(n:Int)
  .simp only[HO,seval,ad,ld,c1,c2,Ii,Ip,Gc,d.2.1];grind[Le.trans]
  simp only[HO,seval,ad,ld,c1,c2,Ii,Ip,Gc,d.2.1,aaa i NH];exact lgA NH ⟨i+1,rfl,c,rfl,rfl,fun j x R S=>by grind⟩
 .have N:xs.length<=i:=vp hf;refine Sk d.1 ?_;refine kCi ap3 (oe p _ n es o (f.le (a.trans b)) u) ?_;rintro T h3 O ⟨w,P⟩;refine Uy ?_;grind[Le.trans,mem_iff_getElem?]
def GU(h:aai)(v:vV)(xs:RZ):Prop:=GT 1 h v xs.length (Bp xs)
theorem GU.le{h h':aai}{v:vV}{xs:RZ}(g:GU h v xs)(e:Le h h'):GU h' v xs:=GT.le g e
theorem GU.rl(g:GU h v xs):RL RP h v xs:=RL.Wh (GT.cs g).rs
theorem GU.push{h:aai}{v:vV}{xs:RZ}(g:GU h v xs)(d:WF h)(x:Int)(m:xs.length<=100000):
  ∃v' c a,aas pG h 47 1 [(0,x)]=Z (sL (Z h.next) 1 1,c)/\aaR pG c 47 47 v (sL (Z h.next) 1 1)=Z (v',a)/\GU a v' (xs++[x])/\WF a/\Le h c/\
   (∀f,Le f h->Z2 f v->Le f a/\Z2 f v')/\(∀b o,h.own b=Z o->blk v≠Z b->a.own b=Z o/\blk v'≠Z b):=by
 have⟨c,e4,l4,e,j⟩:=Tt d [x];have⟨v',a,i,n,hf⟩:=(GT.le g l4).push (P:=pG) (t:=47) Ji j (yG _) rfl NH;refine⟨v',c,a,by rw[DQ,e4],i,?_,xr e i,l4,fun f k af=>hf f e (k.trans l4) af,fun b o l hb=>aG hf e (l4.own _ _ l) hb⟩;grind[Bp,GU.eq_1]
theorem GU.cut{h:aai}{v:vV}{xs:RZ}(g:GU h v xs)(m:Nat)(a:m<=xs.length):∃v',abf pG 47 v Y (Z (.int .i64 m)) Y=Z v'/\GU h v' (xs.take m)/\blk v'=blk v:=by have⟨v',e,c,b⟩:=GT.cut (P:=pG) Mb Ac Ji g m a;grind[GU.eq_1,Bp.eq_1,map_take]
theorem GU.kept{h h':aai}{v:vV}{xs:RZ}(g:GU h v xs)(a:∀b o,blk v=Z b->h.own b=Z o->h'.own b=Z o):GU h' v xs:=GT.kept g a
def Bo(l:List Bool):xLV:=l.map vV.bool
theorem ahm(l:List Bool):(Bo l).length=l.length:=by simp[Bo]
def Tr(l:List Bool)(i:Nat)(b:Bool):(Bo l).set i (.bool b)=Bo (l.set i b):=by simp[Bo,agK]
variable {M R U n v w:Nat} {hq:aai} {met:List Bool} {o opn tr:II} {ov wv:Value} {up:RZ}
structure WkP (n:Nat) (h hq:aai) (U M R:Nat) (ov wv:vV) (met:List Bool) (tH o opn:II) (up:RZ):Prop where
 oU:hq.own U=Z (.cells (Bp up))
 oM:hq.own M=Z (.cells (Bo met))
 oR:hq.own R=Z (.cells (Bp (kz tH)))
 go:GI hq ov (kz o)
 gw:GU hq wv (kz opn)
 ap:∀b,blk ov=Z b->blk wv≠Z b
 oo:blk ov≠Z U/\blk ov≠Z M/\blk ov≠Z R
 ww:blk wv≠Z U/\blk wv≠Z M/\blk wv≠Z R
 ne:U≠M/\U≠R/\M≠R
 le:Le h hq
 nn:h.own U=Y/\h.own M=Y/\h.own R=Y
 ao:Z2 h ov
 aw:Z2 h wv
 lm:met.length=n
 lt:tH.length=n
 lu:up.length=n
structure WkH (n:Nat) (es:xLP) (s:Nat) (h hq:aai) (U M R:Nat) (ov wv:vV) (met:List Bool) (tH o opn:II) (up:RZ):Prop extends WkP n h hq U M R ov wv met tH o opn up where
 ds:DS n es s met tH o opn up
theorem WkP.tH(k:WkP n h hq U M R ov wv met tr o opn up)(a:Nat)(c:v<n)(b:WF hq):
  ∃h',aaK pG hq 3 (pT (Z ⟨R,v,Y⟩)) a=Z h'/\WF h'/\WkP n h h' U M R ov wv met (tr.set v a) o opn up:=by
 have e:(Bp (kz tr)).set v a=Bp (kz (tr.set v a)):=by grind[yy,kz,map_set]
 refine⟨_,QB (P:=pG) (t:=3) (x:=a) Ac Ji k.oR (off:=v) (by rw[uE,y6,k.lt];exact c) rfl rfl,b.put _ (b.lt k.oR),?_⟩;rw[e];exact{k with
  oU:=by grind[aai.By,WkP.ne,WkP.oU]
  oM:=by grind[aai.By,WkP.ne,WkP.oM]
  oR:=aai.Y3 _ _ _
  go:=GS.put k.go _ k.oo.2.2
  gw:=GT.put k.gw _ k.ww.2.2
  le:=k.le.put _ k.nn.2.2
  lt:=by simp[k.lt]}
theorem WkP.mark(k:WkP n h hq U M R ov wv met tr o opn up)(v:Nat)(hw:w<n)(a:WF hq):
  ∃e h2,aaK pG hq 4 (pT (Z ⟨M,w,Y⟩)) (.bool tT)=Z e/\aaK pG e 3 (pT (Z ⟨U,w,Y⟩)) v=Z h2/\WF h2/\WkP n h h2 U M R ov wv (met.set w tT) tr o opn (up.set w (v:Int)):=by
 have c:w<(Bo met).length:=by grind[ahm,WkP.lm]
 have d:w<(Bp up).length:=by grind[uE,WkP.lu]
 have s1:=QB (P:=pG) (t:=4) (x:=.bool tT) eY Ji k.oM (off:=w) c rfl rfl;rw[Tr]at s1;have b:(hq.put M (.cells (Bo (met.set w tT)))).own U=Z (.cells (Bp up)):=by grind[aai.By,WkP.ne,WkP.oU]
 have s2:=QB (P:=pG) (t:=3) (x:=v) Ac Ji b (off:=w) d rfl rfl;rw[yy]at s2;have w1:=a.put (.cells (Bo (met.set w tT))) (a.lt k.oM);refine⟨_,_,s1,s2,w1.put _ (w1.lt b),{k with oU:=aai.Y3 _ _ _,oM:=?_,oR:=?_,go:=GS.put (GS.put k.go _ k.oo.2.1) _ k.oo.1,gw:=GT.put (GT.put k.gw _ k.ww.2.1) _ k.ww.1,le:=(k.le.put _ k.nn.2.1).put _ k.nn.1,lm:=by simp[k.lm],lu:=by simp[k.lu]}⟩
 all_goals grind[aai.By,WkP.ne,aai.Y3,WkP.oR]
theorem WkP.grow(k:WkP n h hq U M R ov wv met tr o opn up)(w:Nat)(p:WF hq)(E:o.length<=1000)(F:opn.length<=1000):
  ∃u d f h2 h3 a G,aas pG hq 47 1 [(0,w)]=Z (u,f)/\aaR pG f 47 47 ov u=Z (d,h2)/\∃v g,aas pG h2 47 1 [(0,w)]=Z (v,h3)/\aaR pG h3 47 47 wv v=Z (g,a)/\G=a/\WF a/\
   WkP n h a U M R d g met tr (o++[w]) (opn++[w]) up:=by
 have x:∀l:II,kz l++[(w:Int)]=kz (l++[w]):=fun l=>by simp[kz]
 have⟨d,f,h2,H,a1,q,w2,l1,I,k1⟩:=k.go.push p (w:Int) (by grind[y6]);have⟨l2,r⟩:=I h k.le k.ao;rw[x]at q;have s:GU h2 wv (kz opn):=k.gw.kept fun b o hb i=>(k1 b o i (fun j=>k.ap b j hb)).1;have y:=k1 U _ k.oU k.oo.1;have M2:=k1 M _ k.oM k.oo.2.1;have z:=k1 R _ k.oR k.oo.2.2;have e:∀b,blk wv=Z b->blk d≠Z b:=fun b hb=>by have⟨c,j⟩:=GT.Sy k.gw hb;grind[WkP.ap]
 have⟨g,h3,a,J,K,A,L,l3,N,m⟩:=s.push w2 (w:Int) (by grind[y6]);have⟨l4,t⟩:=N h l2 k.aw;rw[x]at A;have B:=m U _ y.1 k.ww.1;have C:=m M _ M2.1 k.ww.2.1;have D:=m R _ z.1 k.ww.2.2;refine⟨_,d,f,h2,h3,a,a,H,a1,_,g,J,K,rfl,L,{k with oU:=B.1,oM:=C.1,oR:=D.1,go:=?_,gw:=A,ap:=fun b hb=>?_,oo:=⟨y.2,M2.2,z.2⟩,ww:=⟨B.2,C.2,D.2⟩,le:=l4,ao:=r,aw:=t}⟩
 .exact q.kept fun b o hb i=>(m b o i fun j=>e b j hb).1
 .have O:h2.own b≠Y:=GS.Sy q hb;cases i:h2.own b<;>grind
theorem V6(W0:abw)(bv:vV)(n s:Nat)(es:xLP)(h:aai)(hb:RL (RL RP) h bv (Zh n es))(hr:InR n es)(ha:D3 es)(hn:n<=300)(bh:es.length<=1000)(hs:s<n):
  AC pG W0 71 [bv,s] h fun x h'=>∃c U o up,x=.tuple #[c,sL (Z ⟨U,0,Y⟩) n n]/\GI h' c (kz o)/\(h'.own U=Z (.cells (Bp up))/\blk c≠Z U/\h.own U=Y)/\Oc n es s o up/\Le h h'/\Z2 h c:=by
 refine AC.vF func71 ntmps71 results71 fun aP=>?_;have lb:=fun g=>hb.qP5 g;rw[Xq]at lb;have⟨h1,e1,l1,w1,o1⟩:=Tt aP [.int .i64 (-1)];refine Uy ?_;refine VK.scope ?_;simp only[HO,seval,DQ,e1,lb];refine TC.intro PJ ⟨alD,rfl,WY⟩ (rN W0 _ n NH h1 (RL.Wh (RS.whole o1 rfl))) ?_;rintro x h2 w2 ⟨U,rfl,hU,o2,l2⟩
 have nU:h.own U=Y:=(l1.next w1 hU)
 have oU:h2.own U=Z (.cells (Bp (rP n (-1)))):=by rw[o2];simp[Bp]
 have mk:=Ye (P:=pG) (t:=94) (z:=.bool fF) h2 Uh rfl rfl rfl rfl Ji eY Ji n NH;have⟨h3,e3,l3,Q,o3⟩:=Tt w2 (rP n (.bool fF));rw[e3]at mk
 have nM:h.own h2.next=Y:=(l1.trans l2).next w2 (qL0 _)
 have r:U≠h2.next:=fun e=>by have:=w2.lt oU;omega
 generalize h2.next=M at*
 have oM:h3.own M=Z (.cells (Bo (rP n fF))):=by rw[o3];simp[Bo]
 have mk2:=Ye (P:=pG) (t:=47) (z:=.int .i64 0) h3 Mb rfl rfl rfl rfl Ji Ac Ji n NH;have⟨q,e4,l4,w4,o4⟩:=Tt Q (rP n (.int .i64 0));rw[e4]at mk2;have S:=(l1.trans l2).trans l3
 have nR:h.own h3.next=Y:=S.next Q (qL0 _)
 have N:U≠h3.next:=fun e=>by have:=Q.lt (l3.own _ _ oU);omega
 have y:M≠h3.next:=fun e=>by have:=Q.lt oM;omega
 generalize h3.next=R at*
 have oR:q.own R=Z (.cells (Bp (kz (rP n 0)))):=by rw[o4];simp[Bp,kz]
 have⟨E,e5,l5,w5,o5⟩:=Tt w4 [s];have⟨h6,e6,l6,w6,o6⟩:=Tt w5 [s];have A:=l5.trans l6;have V:=A.own _ _ (l4.own _ _ oM);have W:∀(k:IntKind)(j:Nat),j<n->aao pG 94 (sL (Z M) n n) (.int k j)=Z (pT (Z ⟨M,j,Y⟩)):=fun k j hj=>by rw[Wc Uh eY Ji j hj];simp[Ip]
 have Kx:∀(T:Nat)(k:IntKind)(j:Nat),j<n->aao pG 47 (sL (Z ⟨T,0,Y⟩) n n) (.int k j)=Z (pT (Z ⟨T,j,Y⟩)):=fun T k j hj=>by rw[Wc Mb Ac Ji j hj];simp[Ip]
 have st1:=QB (P:=pG) (t:=4) (x:=.bool tT) eY Ji V (off:=s) (by simp[Bo,hs]) rfl rfl;rw[Tr]at st1;simp only[HO,seval,lb,mk,mk2,DQ,e5,e6,W _ s hs,st1];refine VK.label ?_;simp only[HO,seval,MX,tx,J4]
 have aT:q.own q.next=Y:=(Le.refl q).next w4 (qL0 _)
 have aV:E.own E.next=Y:=(Le.refl E).next w5 (qL0 _)
 have aq:q.next≠E.next:=fun e=>by grind
 have F:=S.trans l4;have ar:=l3.trans l4
 have f:∀b o,q.own b=Z o->b≠q.next/\b≠E.next:=fun b o hb=>⟨fun e=>by grind,fun e=>by grind[Le.own]⟩
 have X:=ar.own _ _ oU;have av:=l4.own _ _ oM;have qU:=f _ _ X;have qM:=f _ _ av;have qR:=f _ _ oR
 have nO:h.own q.next=Y:=F.next w4 (qL0 _)
 have nW:h.own E.next=Y:=(F.trans l5).next w5 (qL0 _)
 have keep:∀b o,b≠M->h6.own b=Z o->(h6.put M (.cells (Bo ((rP n fF).set s tT)))).own b=Z o:=fun b o hb ho=>by grind[aai.By]
 have K0:WkH n es s h (h6.put M (.cells (Bo ((rP n fF).set s tT)))) U M R (sL (Z q.next) 1 1) (sL (Z E.next) 1 1) ((rP n fF).set s tT) (rP n 0) [s] [s] (rP n (-1)):={
  oU:=keep _ _ r (A.own _ _ X)
  oM:=aai.Y3 _ _ _
  oR:=keep _ _ (EH y) (A.own _ _ oR)
  go:=GS.full (keep _ _ (EH qM.1) (l6.own _ _ o5)) rfl (show 1<1000000000000 by decide)
  gw:=(GS.full (keep _ _ (EH qM.2) o6) rfl (show 1<1000000000000 by decide)).gt
  ap:=fun b hb hc=>by injection hb with hb;injection hc with hc;grind
  oo:=⟨fun e=>by injection e with e;grind,fun e=>by injection e with e;grind,fun e=>by injection e with e;grind⟩
  ww:=⟨fun e=>by injection e with e;grind,fun e=>by injection e with e;grind,fun e=>by injection e with e;grind⟩
  ne:=⟨r,N,y⟩
  le:=(F.trans A).put _ nM
  nn:=⟨nU,nM,nR⟩
  ao:=fun b hb=>by injection hb with hb;grind
  aw:=fun b hb=>by injection hb with hb;grind
  lm:=by simp
  lt:=by simp
  lu:=by simp
  ds:=DS.start hs}
 have w7:=w6.put (.cells (Bo ((rP n fF).set s tT))) (w6.lt V);clear keep nO nW qU qM qR X av f ar F aq aV aT st1 V A o6 l6 o5 l5 oR y N nR S o4 l4 w4 mk2 oM r nM o3 l3 Q mk oU nU o2 l2 w2 o1 l1 w1;generalize h6.put M (.cells (Bo ((rP n fF).set s tT)))=h7 at*
 generalize vV.slice (Z q.next) 1 1=ay at*
 generalize vV.slice (Z E.next) 1 1=az at*
 clear w6 w5 e6 e5 e4 e3 e1 hU;clear h6 E q h3 h2 h1;have aW:∀u,u<n->aao pG 45 bv (.int .i64 u)=Z (pT (Z (aaq bv u))):=fun u hu=>hb.NS u (by rw[Xq];exact hu);have ldI:∀(g:aai)(T:Nat)(L:RZ)(j:Nat)(l:Int),g.own T=Z (.cells (Bp L))->L[j]?=Z l->aaC pG g 3 ⟨T,j,Y⟩=Z (.int .i64 l):=fun g T L j l ho hl=>by rw[Fq Ac rfl ho];simp[Bp,hl]
 have aa:∀(g:aai)(T:Nat)(L:List Bool)(j:Nat)(l:Bool),g.own T=Z (.cells (Bo L))->L[j]?=Z l->aaC pG g 4 ⟨T,j,Y⟩=Z (.bool l):=fun g T L j l ho hl=>by rw[Fq eY rfl ho];simp[Bo,hl]
 refine aab.intro (fun k fr G=>∃(met:List Bool)(tr o B:II)(up:RZ)(c wv:vV),k=2*(n-o.length)+B.length/\fr=mkF [(0,bv),(6,sL (Z ⟨U,0,Y⟩) n n),(7,sL (Z M) n n),(8,sL (Z R) n n),(9,c),(10,wv)]/\
   WkH n es s h G U M R c wv met tr o B up)
  (2*(n-1)+1) [(0,bv),(6,sL (Z ⟨U,0,Y⟩) n n),(7,sL (Z M) n n),(8,sL (Z R) n n),(9,ay),(10,az)] hAs
  ⟨_,_,_,_,_,_,_,rfl,rfl,K0⟩ ?_
 clear K0 w7;clear h7 ay az;rintro k fr G H ⟨met,tr,o,B,up,c,wv,rfl,rfl,K⟩;have lw:=fun g=>K.gw.rl.TA g;simp only[y6]at lw;rcases ah1 B with rfl|⟨op,v,aX⟩
 .simp only[alv]at lw;have c0:¬(((0:Nat):Int)>0):=NH;simp only[HO,seval,lw,c0,MX,tx,J4];exact⟨c,_,o,up,rfl,K.go,⟨K.oU,K.oo.1,K.nn.1⟩,K.ds.fin,K.le,K.ao⟩
 obtain rfl:B=op++[v]:=hGr;clear aX;have a6:v∈o:=K.ds.sub.subset Ma;have a:v<n:=K.ds.lt v a6;have a8:=K.ds.len_opn;have m:(op++[v]).length=op.length+1:=by simp
 rw[m]at a8;simp only[m]at lw;have c0:(((op.length+1:Nat):Int)>0):=NH;have aA:aaY .i64 (((op.length+1:Nat):Int)-1)=((op.length:Nat):Int):=by grind[ie]
 have aB:=K.gw.rl.DH op.length (by rw[y6,m];omega);have ae:=K.gw.rl.Uc op.length (by rw[y6,m];omega);have aC:(kz (op++[v]))[op.length]'(by grind)=(v:Int):=by simp[kz]
 rw[aC]at ae;simp only[HO,seval,lw,c0,aA,aB,ae];have aD:v<(Zh n es).length:=by grind[Xq]
 have aE:=aW v a;have⟨uv,ba,i⟩:=hb.Wm v aD;have aF:(Zh n es).getD v []=(Zh n es)[v]:=D4 aD;generalize (Zh n es)[v]=row at i aF;have lr:=fun g=>i.TA g;have bj:row.length<=3000:=by have:=bV n es row (by grind);omega
 have p:=CA (show v<tr.length by rw[K.ds.trl];exact a);have ag:tr[v]'(by grind)<=row.length:=by rw[<-aF];exact(K.ds.tr _ _ p).1
 refine aab.intro (fun k fr G=>∃(tr:II)(t:Nat),k=row.length-t/\t<=row.length/\tr[v]?=Z t/\fr=mkF [(0,bv),(6,sL (Z ⟨U,0,Y⟩) n n),(7,sL (Z M) n n),(8,sL (Z R) n n),(9,c),(10,wv),(11,v)]/\
   WkH n es s h G U M R c wv met tr o (op++[v]) up)
  (row.length-tr[v]'(by rw[K.ds.trl];exact a)) [(0,bv),(6,sL (Z ⟨U,0,Y⟩) n n),(7,sL (Z M) n n),(8,sL (Z R) n n),(9,c),(10,wv),(11,v)] hAs
  ⟨_,_,rfl,ag,p,rfl,K⟩ ?_
 clear ag p ae aC aB lw K H;clear tr G;rintro k fr G H ⟨tr,t,rfl,ag,p,rfl,K⟩;have lw:=fun g=>K.gw.rl.TA g;simp only[y6,m]at lw;have I:=ldI G R (kz tr) v t K.oR (by grind[kz]);have O:=ba G K.le;refine Uy ?_;refine gh (fRn 0 10 .done) ?_;simp only[HO,seval,Qg,Kx R _ v a,I,aE,O,lr];refine Kl.intro (fun ht=>?_) (fun hf=>?_)
 rotate_left
 .have bk:row.length<=t:=vp hf;obtain rfl:t=row.length:=NH;have⟨aH,aJ,aK,ai⟩:=K.gw.cut op.length (by grind[y6]);have bb:(kz (op++[v])).take op.length=kz op:=by simp[kz]
  rw[bb]at aK;simp only[HO,seval,lw,aA,aJ];refine tn (2*(n-o.length)+op.length) [(0,bv),(6,sL (Z ⟨U,0,Y⟩) n n),(7,sL (Z M) n n),(8,sL (Z R) n n),(9,c),(10,aH)] (by rw[m];omega) hAs
   ⟨met,tr,o,op,up,c,aH,rfl,rfl,{K with gw:=aK,ap:=(by rw[ai];exact K.ap),ww:=(by rw[ai];exact K.ww),aw:=(by unfold Z2;rw[ai];exact K.aw),ds:=K.ds.pop hr (by grind)}⟩
 have aj:t<row.length:=acb ht;clear ht;have J:((Zh n es).getD v [])[t]?=Z row[t]:=hGr;have bg:=i.DH t aj;have aL:=(i.le Nn.RP K.le).Uc t aj;have aN:row[t]∈(Zh n es).getD v []:=BS J;generalize row[t]=x at J aL aN;obtain⟨w,rfl,d⟩:=Ru hr aN;refine Uy ?_;refine gh (fRn 0 11 .done) ?_;simp only[HO,seval,Qg,Kx R _ v a,I,aE,O,bg,aL];have C:=CA (show w<met.length by rw[K.ds.metl];exact d);generalize met[w]'(by grind)=mb at C
 have bm:=aa G M met w mb K.oM C;cases mb with
 |true=>
  have al:w∈o:=(K.ds.mm w d).1 C;have⟨h1,st,w1,K1⟩:=K.toWkP.tH (t+1) a H;have D1:=K.ds.skip p J (by simpa using al);have D:=aa h1 M met w tT K1.oM C;simp only[HO,seval,Kx R _ v a,I,aaa t NH,st,W _ w d,D];exact tn (row.length-(t+1)) [(0,bv),(6,sL (Z ⟨U,0,Y⟩) n n),(7,sL (Z M) n n),(8,sL (Z R) n n),(9,c),(10,wv),(11,v)] NH hAs
   ⟨_,t+1,rfl,aj,(by grind),rfl,⟨K1,D1⟩⟩
 |false=>
  have al:w∉o:=fun hm=>by have:=(K.ds.mm w d).2 hm;grind
  have⟨h1,st,w1,K1⟩:=K.toWkP.tH (t+1) a H;have D:=aa h1 M met w fF K1.oM C;have⟨h2,h3,st2,st3,Q,K3⟩:=K1.mark v d w1;have bo:=K.ds.len_o;obtain⟨v1,v2,q,E,h6,h7,_,b4,a5,v3,v4,b6,a7,-,w7,K7⟩:=K3.grow w Q NH (by grind);have D7:=K.ds.push hr ha p J al;simp only[HO,seval,Kx R _ v a,I,aaa t NH,st,W _ w d,D,st2,Kx U _ w d,st3,b4,a5,b6,a7];have br:o.length+1<=n:=by have:=D7.len_o;grind
  exact tn (2*(n-(o++[w]).length)+(op++[v]++[w]).length) [(0,bv),(6,sL (Z ⟨U,0,Y⟩) n n),(7,sL (Z M) n n),(8,sL (Z R) n n),(9,v2),(10,v4)] (by simp;omega) hAs
   ⟨_,_,_,_,_,_,_,rfl,rfl,⟨K7,D7⟩⟩
def mkL52(h:aai){u:vV}(a:xO u n):aas pG h 45 1 [(0,u)]=Z (sL (Z h.next) 1 1,h.alloc (.cells [u])):=by obtain⟨_,_,rfl,_⟩:=a;rfl
def mkL52e(h:aai):aas pG h 45 0 []=Z (sL (Z h.next) 0 0,h.alloc (.cells [])):=rfl
theorem Parts_any(W0:abw)(v:vV)(G:GM)(h:aai)(hg:GR h v G)(N:bX G):
  AC pG W0 83 [v] h fun x h'=>Lj (RL RP) h' x ((Gx G.n.toNat G.es G.n.toNat).map kz)/\Le h h'/\Z2 h x:=by
 have aA:=hg;have⟨gn,es⟩:=G
 obtain⟨ev,rfl,hp⟩:=hg.open
 have h0:0<=gn:=N.n0;obtain⟨n,rfl⟩:=WA h0;have aT:(n:Int)<=200:=N.n1;have aV:es.length<=594:=N.len;have hR:=N.GD;have hA:=N.q9;simp only[yM];refine AC.vF func83 ntmps83 results83 fun aB=>?_;obtain⟨h1,b1,A,aW,-,lA⟩:=r8 (n:=(n:Int)) aB hp
 generalize h.next=B at*
 have aC:=lA h1 (Le.refl _);simp only[HO,seval,b1,aC.1];refine TC.intro PJ ⟨func70,rfl,WY⟩ (N7 W0 _ (.slice Y 0 0) ⟨(n:Int),es⟩ [] h1 (aA.le A) RL.nil Ma) ?_;rintro x h2 O ⟨p,C,e,rfl,y⟩;obtain⟨rfl,E⟩:e=0/\RL (RL RP) h2 C (Zh n es):=hGr;clear y;have⟨h3,e3,l3,w3,o3⟩:=Tt O [];have fT:=lA h3 (p.trans l3);have mk:=Ye (P:=pG) (t:=94) (z:=.bool fF) h3 Uh rfl rfl rfl rfl Ji eY Ji n NH;have⟨h4,e4,l4,w4,o4⟩:=Tt w3 (rP n (.bool fF));rw[e4]at mk;have Q:=lA h4 ((p.trans l3).trans l4);simp only[HO,seval,Ii,Ip,Gc,mkL52e,e3,fT.2.1,mk,Q.2.1,bne]
 have nP:h2.own h2.next=Y:=(Le.refl h2).next O (qL0 _)
 have nM:h3.own h3.next=Y:=(Le.refl h3).next w3 (qL0 _)
 have aX:h2.own h3.next=Y:=l3.none nM
 have ne:h2.next≠h3.next:=fun e=>by grind
 generalize h3.next=M at*
 have oM:h4.own M=Z (.cells (Bo (rP n fF))):=by rw[o4];simp[Bo]
 have R:=((A.trans p).trans l3).trans l4
 have g0:Lj (RL RP) (rem [M] h4) (sL (Z h2.next) 0 0) ((Gx n es 0).map kz):=by grind[Gx,Es,Lj.empty,Th,Le.own]
 have S:Z2 h2 (sL (Z h2.next) 0 0):=fun b hb=>by injection hb with hb;grind
 have U:blk (sL (Z h2.next) 0 0)≠Z M:=fun e=>by injection e with e;exact ne e
 generalize vV.slice (Z h2.next) 0 0=V at*
 have F:∀(k:IntKind)(j:Nat),j<n->aao pG 94 (sL (Z M) n n) (.int k j)=Z (pT (Z ⟨M,j,Y⟩)):=fun k j hj=>by rw[Wc Uh eY Ji j hj];simp[Ip]
 have aD:∀(g:aai)(T:Nat)(L:List Bool)(j:Nat)(l:Bool),g.own T=Z (.cells (Bo L))->L[j]?=Z l->aaC pG g 4 ⟨T,j,Y⟩=Z (.bool l):=fun g T L j l ho hl=>by rw[Fq eY rfl ho];simp[Bo,hl]
 refine aab.intro (fun k fr m=>∃(i:Nat)(pv:vV)(met:List Bool),k=n-i/\i<=n/\fr=mkF [(3,C),(5,pv),(6,sL (Z M) n n),(24,n),(25,i)]/\
   m.own M=Z (.cells (Bo met))/\met.length=n/\Lj (RL RP) (rem [M] m) pv ((Gx n es i).map kz)/\blk pv≠Z M/\Le h2 m/\Z2 h2 pv/\∀w,w<n->(met[w]?=Z tT↔∃u,u<i/\Pu es u w))
  n [(3,C),(5,V),(6,sL (Z M) n n),(24,n),(25,(0:Nat))] hAs
  ⟨0,_,_,rfl,Z6 _,rfl,oM,Ma,g0,U,l3.trans l4,S,fun w hw=>by simp[hw]⟩ ?_
 clear S U g0 R oM ne nM nP Q o4 w4 l4 e4 mk fT o3 w3 l3 e3;clear h4 V h3;rintro k fr m a6 ⟨i,pv,met,rfl,hi,rfl,oM,W,gp,np,leq,ap,K⟩;have a7:((Gx n es i).map kz).length<=n:=by grind[vH,Gx]
 refine Uy ?_;refine Kl.intro (fun X=>?_) (fun hf=>?_)
 rotate_left
 .have aa:n<=i:=vp hf;obtain rfl:i=n:=NH;refine Uy ?_;exact⟨gp.le (Nn.RL Nn.RP) (Sa _ _),(A.trans p).trans leq,fun b hb=>(A.trans p).none (ap b hb)⟩
 have a:i<n:=acb X;clear X;have H:=CA (show i<met.length by omega);generalize met[i]'(by omega)=mb at H
 have I:=aD m M met i mb oM H;cases mb with
 |true=>
  have hx:=(K i a).1 H;simp only[HO,seval,F _ i a,I,aaa i NH];refine tn (n-(i+1)) [(3,C),(5,pv),(6,sL (Z M) n n),(24,n),(25,(i+1:Nat))] NH hAs
   ⟨i+1,pv,met,rfl,a,rfl,oM,W,?_,np,leq,ap,fun w hw=>?_⟩
  .grind[yP,Gx.eq_1]
  .rw[K w hw];constructor
   .grind
   .rintro⟨u,hu,y⟩;by_cases e:u=i
    .subst e;have⟨u',aE,aF⟩:=hx;exact⟨u',aE,aF.trans y⟩
    grind
 |false=>
  have hx:∀u,u<i->¬Pu es u i:=fun u hu y=>by grind
  simp only[HO,seval,F _ i a,I];refine TC.intro PJ ⟨func71,rfl,WY⟩ (V6 W0 C n i es m (E.le (Nn.RL Nn.RP) leq) hR hA NH NH a) ?_;rintro x h5 ae ⟨d,uv,o,up,rfl,go,-,D,l5,ao⟩;have r:=l5.own _ _ oM;have ag:blk d≠Z M:=fun e=>by have:=ao _ e;grind
  have lo:=fun g=>go.rl.TA g;rw[y6]at lo;have ba:o.length<=n:=by have:=D.KP.nodup.length_le_of_subset (l₂:=rG n) fun w hw=>j3.2 (((D.mem w).1 hw).lt hR a);grind
  simp only[HO,seval,lo];have K0:Le (rem [M] m) h5:=(Sa _ _).trans l5;have nK:(rem [M] m).own M=Y:=by grind[DC]
  have aK:Z2 (rem [M] m) d:=fun b hb=>(Sa [M] m).none (ao b hb);have aH:∀b,blk pv=Z b->blk d≠Z b:=fun b hb y=>by have⟨us,g1,_⟩:=gp;have:=GS.Sy g1 hb;exact this (aK b y)
  refine aab.intro (fun k fr hh=>∃(j:Nat)(c:List Bool),k=o.length-j/\j<=o.length/\fr=mkF [(3,C),(5,pv),(6,sL (Z M) n n),(8,d),(24,n),(25,i),(38,d),(39,o.length),(40,.int .i64 j)]/\
    hh.own M=Z (.cells (Bo c))/\c.length=n/\GI hh d (kz o)/\Le (rem [M] m) hh/\∀w,w<n->(c[w]?=Z tT↔met[w]?=Z tT\/w∈o.take j))
   o.length [(3,C),(5,pv),(6,sL (Z M) n n),(8,d),(24,n),(25,i),(38,d),(39,o.length),(40,(0:Nat))] hAs
   ⟨0,met,rfl,Z6 _,rfl,r,W,go,K0,fun w hw=>by simp⟩ ?_
  clear r lo go l5 ae K0 I;clear h5;rintro k fr h5 ae ⟨j,c,rfl,hj,rfl,r,s,go,K5,J⟩;refine Uy ?_;refine Kl.intro (fun X=>?_) (fun hf=>?_)
  .have f:j<o.length:=acb X;clear X;have ai:=CA f;have ad:=go.rl.DH j (by rw[y6];exact f);have ld:=go.rl.Uc j (by rw[y6];exact f);rw[sY f]at ld;have aj:o.take (j+1)=o.take j++[o[j]]:=XJ f;generalize o[j]=w at ai ld aj;have al:w<n:=((D.mem w).1 (BS ai)).lt hR a;have st:=QB (P:=pG) (t:=4) (x:=.bool tT) eY Ji r (off:=w) (by rw[ahm,s];exact al) rfl rfl;rw[Tr]at st;simp only[HO,seval,ad,ld,F _ w al,st,aaa j NH];refine tn (o.length-(j+1)) [(3,C),(5,pv),(6,sL (Z M) n n),(8,d),(24,n),(25,i),(38,d),(39,o.length),(40,(j+1:Nat))] NH hAs
    ⟨j+1,_,rfl,f,rfl,aai.Y3 _ _ _,by simp[s],GS.put go _ ag,K5.put _ nK,fun x hx=>?_⟩
   rw[aj,Tn,aax,xD];by_cases e:w=x
   .grind
   .rw[abE e,J x hx];simp[EH e]
  .have aa:o.length<=j:=vp hf;rw[HV aa]at J;refine Uy ?_;refine TC.intro PJ ⟨func37,rfl,WY⟩ (VQ W0 go (by rw[y6];omega)) ?_;rintro x h6 w6 ⟨rfl,aq,ar⟩;have av:=(ar (rem (bl d) h5) (Sa _ _) (fun b hb=>by grind[DC,Zr])).own M _ (Th.2 ⟨r,fun K=>ag (Zr.1 K)⟩);have K6:=ar _ K5 aK;rw[sort_comp hR D a]at aq;have aJ:Le (rem [M] m) (rem [M] h6):=K6.iV fun b hb=>by grind
   have aL:=gp.le (Nn.RL Nn.RP) aJ;have hb:∀b,blk pv=Z b->b∉[M]:=fun b hb K=>by grind
   have gu:RL RP (rem [M] (rem (bl pv) h6)) d (kz (Ic n es i)):=by
    have q:GI (rem [M] (rem (bl pv) h6)) d (kz (Ic n es i)):=GS.Fi (GS.Fi aq (l:=bl pv) fun b hb y=>aH b (Zr.1 y) hb) (l:=[M]) fun b sZ y=>by grind
    exact q.rl
   have⟨h7,ay,h8,e7,e8,bb,l7,w7,f8,k8⟩:=Lj.push_rem (P:=pG) (t:=45) (Nn.RL Nn.RP) Ji aL w6 gu gu.sl.one NH hb (fun b hb=>by rw[xD]at hb;subst hb;rw[av];simp);have⟨aN,aP⟩:=k8 M _ av np;have az:Le h2 h6:=(leq.iV (l:=[M]) fun b hb=>by grind).trans K6;have⟨l8,a8⟩:=f8 h2 az ap;simp only[HO,seval,mkL52 h6 gu.sl,e7,e8,aaa i NH];refine tn (n-(i+1)) [(3,C),(5,ay),(6,sL (Z M) n n),(24,n),(25,(i+1:Nat))] NH hAs
    ⟨i+1,ay,c,rfl,a,rfl,aN,s,?_,aP,l8,a8,fun w hw=>?_⟩
   .rcases yP i es with⟨h,_⟩|⟨_,u,hu,y⟩
    .grind[Gx.eq_1]
    grind
   .rw[J w hw,K w hw,D.mem];constructor
    .grind
    grind
variable {L:RZ} {cl cl':Nat->Nat->Prop} {es:List Pr} {met:II} {s u:Nat} {x:Int}
structure Ar (n:Nat) (es:xLP) (s:Nat) (L:RZ) (met:II) (cl:Nat->Nat->Prop):Prop where
 len:L.length=n
 val:∀(v:Nat)(x:Int),L[v]?=Z x->x=-1\/0<=x/\v∈met
 mm:∀v∈met,v<n/\Pu es s v/\∃x:Int,L[v]?=Z x/\0<=x
 nd:met.Nodup
 s0:L[s]?=Z 0
 ms:s∈met
 pre:∀(v:Nat)(x:Int),L[v]?=Z x->0<x->∃w,Jp es v w/\L[w]?=Z (x-1)
 zero:∀(v:Nat),L[v]?=Z 0->v=s
 cl:∀u w,cl u w->w∈met
 bd:∀(v:Nat)(x:Int),L[v]?=Z x->x+1<=met.length
structure Far (n:Nat) (es:xLP) (s:Nat) (L:RZ):Prop where
 len:L.length=n
 pos:∀(v:Nat)(x:Int),L[v]?=Z x->(0<=x↔Pu es s v)
 pre:∀(v:Nat)(x:Int),L[v]?=Z x->0<x->∃w,Jp es v w/\L[w]?=Z (x-1)
 zero:∀(v:Nat),L[v]?=Z 0->v=s
 bd:∀(v:Nat)(x:Int),L[v]?=Z x->-1<=x/\x+1<=n
 self:L[s]?=Z 0
theorem Ar.start(hs:s<n)(cl:Nat->Nat->Prop)(a:∀u w,¬cl u w):Ar n es s ((rP n (-1)).set s 0) [s] cl:=by
 have b:((rP n (-1:Int)).set s 0)[s]?=Z 0:=hGr;refine⟨Ma,fun v x h=>?_,fun v c=>?_,Ma,b,Ma,fun v x h d=>?_,fun v h=>?_,hGr,fun v x h=>?_⟩
 .grind
 all_goals grind[Pu.refl]
theorem Ar.mono(t:Ar n es s L met cl)(h:∀u w,cl' u w->cl u w):Ar n es s L met cl':={t with cl:=fun u w a=>t.cl u w (h u w a)}
theorem Ar.stay(t:Ar n es s L met cl)(d:L[w]?=Z x)(e:0<=x)(h:∀a b,cl' a b->cl a b\/b=w):Ar n es s L met cl':=
 have hw:w∈met:=by grind[Ar.val]
 {t with cl:=fun a b c=>(h a b c).elim (fun h=>t.cl a b h) hGr}
theorem Ar.push(t:Ar n es s L met cl){d x:Int}(g:u∈met)(hd:L[u]?=Z d)(ha:Jp es u w)(q:L[w]?=Z x)(i:x<0)(h:∀a b,cl' a b->cl a b\/b=w):
  Ar n es s (L.set w (d+1)) (met++[w]) cl':=by
 have j:0<=d:=by have⟨_,_,y,c,i⟩:=t.mm u g;grind
 have k:w∉met:=fun l=>by have⟨_,_,y,c,m⟩:=t.mm w l;grind
 have keep:∀(v:Nat)(y:Int),L[v]?=Z y->0<=y->(L.set w (d+1))[v]?=Z y:=hGr;have gs:∀(v:Nat)(y:Int),(L.set w (d+1))[v]?=Z y->v=w/\y=d+1\/v≠w/\L[v]?=Z y:=hGr;refine⟨by simp[t.len],fun v y c=>?_,fun v e=>?_,?_,(by grind[Ar.s0]),(by grind[Ar.ms]),fun v y c f=>?_,fun v e=>?_,fun a b o=>?_,fun v y c=>?_⟩
 .grind[Ar.val]
 .rw[aax,xD]at e;rcases e with e|rfl
  .obtain⟨r,h2,y,c,f⟩:=t.mm v e;grind
  .exact⟨by grind[Ar.len],.step (t.mm u g).2.1 ha rfl,d+1,hGr,NH⟩
 .grind[Ar.nd]
 .rcases gs v y c with⟨rfl,rfl⟩|⟨_,c⟩
  .grind[Jp.symm]
  .obtain⟨b,hb,p⟩:=t.pre v y c f;grind
 .grind[Ar.zero]
 .rw[aax,xD];rcases h a b o with h|rfl
  .exact .inl (t.cl a b h)
  grind
 .simp only[Eh,vY];rcases gs v y c with⟨rfl,rfl⟩|⟨_,c⟩
  .have:=t.bd u d hd;omega
  .have:=t.bd v y c;omega
theorem Ar.abP(t:Ar n es s L met cl):met.length<=n:=by have:=t.nd.length_le_of_subset (l₂:=rG n) fun v a=>j3.2 (t.mm v a).1;grind
theorem Ar.finish(t:Ar n es s L met cl)(h:∀u w,u∈met->Jp es u w->cl u w):Far n es s L:=by
 have all:∀v,Pu es s v->v∈met:=by
  intro v c
  induction c with
  |refl _=>exact t.ms
  |step _ a _ d=>exact t.cl _ _ (h _ _ d a)
 refine⟨t.len,fun v x b=>⟨fun e=>?_,fun c=>?_⟩,t.pre,t.zero,fun v x b=>?_,t.s0⟩
 .rcases t.val v x b with h|⟨_,h⟩
  .omega
  .exact(t.mm v h).2.1
 .obtain⟨_,_,y,f,e⟩:=t.mm v (all v c);grind
 .have:=t.bd v x b;have:=t.abP;rcases t.val v x b with h|⟨h,_⟩<;>omega
def awS(u:Nat)(st:RZ×II)(x:Int):RZ×II:=if st.1.getD x.toNat 0<0 then(st.1.set x.toNat (st.1.getD u 0+1),st.2++[x.toNat])else st
def awI(rows:AM)(n s:Nat):Nat->RZ×II
  |0=>((rP n (-1)).set s 0,[s])
  |i+1=>match(awI rows n s i).2[i]? with
    |some u=>(rows.getD u []).foldl (awS u) (awI rows n s i)
    |none=>awI rows n s i
def NY(rows:AM)(n s:Nat):RZ:=(awI rows n s n).1
theorem vk{rows:AM}{n s i:Nat}(h:(awI rows n s i).2.length<=i):∀k,i<=k->awI rows n s k=awI rows n s i
 |0,a=>by grind
 |k+1,a=>by
  by_cases e:i=k+1
  .rw[e]
  .have b:=vk h k NH;grind[awI.eq_2]
theorem away_fun(W0:abw)(bv:vV)(n s:Nat)(es:xLP)(h:aai)(hb:RL (RL RP) h bv (Zh n es))(hR:InR n es)(hn:n<=300)(aT:es.length<=1000)(hs:s<n):
  AC pG W0 107 [bv,s] h fun x h'=>∃L,RL RP h' x L/\Far n es s L/\Le h h'/\L=NY (Zh n es) n s:=by
 refine AC.vF func107 ntmps107 results107 fun al=>?_;have lb:=fun g=>hb.qP5 g;rw[Xq]at lb;have⟨h1,e1,l1,w1,o1⟩:=Tt al [.int .i64 (-1)];simp only[HO,seval,DQ,e1,lb];refine TC.intro PJ ⟨alD,rfl,WY⟩ (rN W0 _ n NH h1 (RL.Wh (RS.whole o1 rfl))) ?_;rintro x h2 w2 ⟨T,rfl,hT,o2,l2⟩
 have nT:h.own T=Y:=l1.next w1 hT
 have oT:h2.own T=Z (.cells (Bp (rP n (-1)))):=by rw[o2];simp[Bp]
 have B:∀(k:IntKind)(j:Nat),j<n->aao pG 47 (sL (Z T) n n) (.int k j)=Z (pT (Z ⟨T,j,Y⟩)):=fun k j hj=>by rw[Wc Mb Ac Ji j hj];simp[Ip]
 have Q:∀(g:aai)(L:RZ)(j:Nat)(l:Int),g.own T=Z (.cells (Bp L))->L[j]?=Z l->aaC pG g 3 ⟨T,j,Y⟩=Z (.int .i64 l):=fun g L j l ho hl=>by rw[Fq Ac rfl ho];simp[Bp,hl]
 have F:=QB (P:=pG) (t:=3) (x:=.int .i64 0) Ac Ji oT (off:=s) (by simp[Bp,hs]) rfl rfl;rw[yy]at F;have w3:=w2.put (.cells (Bp ((rP n (-1)).set s 0))) (w2.lt oT);have l3:Le h (h2.put T (.cells (Bp ((rP n (-1)).set s 0)))):=(l1.trans l2).put _ nT;have G:(h2.put T (.cells (Bp ((rP n (-1)).set s 0)))).own T=Z (.cells (Bp ((rP n (-1)).set s 0))):=aai.Y3 _ _ _;simp only[HO,seval,B _ s hs,F];generalize h2.put T (.cells (Bp ((rP n (-1)).set s 0)))=O at*;have⟨h5,e5,H,aq,o5⟩:=Tt w3 [s]
 have nM:h.own O.next=Y:=l3.next w3 (qL0 _)
 have ar:T≠O.next:=fun e=>by have:=w3.lt G;omega
 simp only[HO,seval,DQ,e5];have R:=Ar.start (es:=es) hs (fun a w=>(∃j,j<0/\[s][j]?=Z a)/\Jp es a w) (fun a w h=>by grind)
 have gM:GI h5 (sL (Z O.next) 1 1) (kz [s]):=GS.full o5 rfl (show 1<1000000000000 by decide)
 refine aab.intro (fun k fr f=>∃(i:Nat)(L:RZ)(m:vV)(met:II),k=n-i/\i<=met.length/\fr=mkF [(0,bv),(5,sL (Z T) n n),(6,m),(7,i)]/\
   f.own T=Z (.cells (Bp L))/\Le h f/\GI f m (kz met)/\blk m≠Z T/\Z2 h m/\Ar n es s L met (fun a w=>(∃j,j<i/\met[j]?=Z a)/\Jp es a w)/\(L,met)=awI (Zh n es) n s i)
  n [(0,bv),(5,sL (Z T) n n),(6,sL (Z O.next) 1 1),(7,(0:Nat))] hAs
  ⟨0,_,_,[s],rfl,Z6 _,rfl,H.own _ _ G,l3.trans H,gM,by grind[blk],fun b hb=>by grind[blk],R,rfl⟩ ?_
 clear R gM ar nM o5 aq H e5 h5 G l3 w3 F oT o2 l2 w2;clear O h2;rintro k fr f C ⟨i,L,m,met,rfl,hi,rfl,oT,leq,gm,nm,am,v,eI⟩;have lm:=fun g=>gm.rl.TA g;have S:=v.abP;rw[y6]at lm;simp only[HO,seval,lm];refine Kl.intro (fun U=>?_) (fun hf=>?_)
 rotate_left
 .have V:met.length<=i:=vp hf;refine Uy ?_;refine⟨L,RL.Wh (RS.whole oT (by grind[Ar.len])),v.finish fun a w ha I=>⟨?_,I⟩,leq,by grind[NY.eq_1,vk]⟩;grind[mem_iff_getElem?]
 have c:i<met.length:=acb U;clear U;have o:=CA c;have W:=sY c;have D:=gm.rl.DH i (by rw[y6];exact c);have p:=gm.rl.Uc i (by rw[y6];exact c);rw[W]at p;generalize met[i]=u at o p;clear W;have y:u∈met:=BS o;have av:u<n:=(v.mm u y).1;have J:u<(Zh n es).length:=by grind[Xq]
 have ay:=hb.NS u J;have⟨uv,az,r⟩:=hb.Wm u J;have aA:(Zh n es).getD u []=(Zh n es)[u]:=D4 J;generalize (Zh n es)[u]=row at r aA;have lr:=fun g=>r.TA g;have aV:row.length<=3000:=by have:=bV n es row (by grind);omega
 simp only[HO,seval,D,p,ay,az f leq,lr];have X:Ar n es s L met (fun a w=>((∃j,j<i/\met[j]?=Z a)/\Jp es a w)\/(a=u/\(w:Int)∈row.take 0)):=v.mono fun a w h=>by grind
 refine aab.intro (fun k fr f=>∃(q:Nat)(L:RZ)(m:vV)(met:II),k=row.length-q/\q<=row.length/\fr=mkF [(0,bv),(5,sL (Z T) n n),(6,m),(7,i),(31,uv),(32,row.length),(33,q)]/\
   f.own T=Z (.cells (Bp L))/\Le h f/\GI f m (kz met)/\blk m≠Z T/\Z2 h m/\met[i]?=Z u/\Ar n es s L met (fun a w=>((∃j,j<i/\met[j]?=Z a)/\Jp es a w)\/(a=u/\(w:Int)∈row.take q))/\(L,met)=(row.take q).foldl (awS u) (awI (Zh n es) n s i))
  row.length [(0,bv),(5,sL (Z T) n n),(6,m),(7,i),(31,uv),(32,row.length),(33,(0:Nat))] hAs
  ⟨0,L,m,met,rfl,Z6 _,rfl,oT,leq,gm,nm,am,o,X,eI⟩ ?_
 have aB:awI (Zh n es) n s (i+1)=row.foldl (awS u) (awI (Zh n es) n s i):=by grind[awI.eq_2]
 clear X eI D p lm;clear y o c S v am nm gm leq oT C hi;clear f L m met;rintro k fr f C ⟨q,L,m,met,rfl,aW,rfl,oT,leq,gm,nm,am,o,v,eI⟩;have y:u∈met:=BS o;have S:=v.abP;have c:=(Ny.1 o).1;refine Uy ?_;refine Kl.intro (fun U=>?_) (fun hf=>?_)
 rotate_left
 .have V:row.length<=q:=vp hf;simp only[HO,seval,aaa i NH];refine tn (n-(i+1)) [(0,bv),(5,sL (Z T) n n),(6,m),(7,(i+1:Nat))] NH hAs ⟨i+1,L,m,met,rfl,c,rfl,oT,leq,gm,nm,am,v.mono fun a w h=>?_,by rw[aB,eI,HV V]⟩;grind[EW]
 have z:q<row.length:=acb U;clear U;have aa:=r.DH q z;have K:=(r.le Nn.RP leq).Uc q z;have aC:row.take (q+1)=row.take q++[row[q]]:=XJ z;have M:row[q]∈(Zh n es).getD u []:=hGr;generalize row[q]=x at K aC M;obtain⟨w,rfl,N⟩:=Ru hR M;have I:=(EW hR u w).1 M;have E:=CA (show w<L.length by grind[Ar.len]);generalize L[w]'(by grind)=lw at E
 have ae:=Q f L w lw oT E;have ag:∀(A:II),(∀j,j<met.length->A[j]?=met[j]?)->∀a b,((∃j,j<i/\A[j]?=Z a)/\Jp es a b)\/(a=u/\(b:Int)∈row.take (q+1))->
   (((∃j,j<i/\met[j]?=Z a)/\Jp es a b)\/(a=u/\(b:Int)∈row.take q))\/b=w:=fun A hm a b h=>by grind
 have eS:(row.take (q+1)).foldl (awS u) (awI (Zh n es) n s i)=awS u (L,met) (w:Int):=hGr;have gw:L.getD w 0=lw:=hGr;by_cases c4:lw<0
 rotate_left
 .simp only[HO,seval,aa,K,B _ w N,ae,c4,aaa q NH];exact tn (row.length-(q+1)) [(0,bv),(5,sL (Z T) n n),(6,m),(7,i),(31,uv),(32,row.length),(33,(q+1:Nat))] NH hAs
   ⟨q+1,L,m,met,rfl,z,rfl,oT,leq,gm,nm,am,o,v.stay E NH (ag met fun _ _=>rfl),by grind[awS.eq_1,Int.toNat_natCast]⟩
 have⟨aP,_,d,hd,aX⟩:=v.mm u y;have a7:=v.bd u d hd;have aD:=Q f L u d oT hd;have D:=gm.rl.DH i (by rw[y6];exact c);have p:=gm.rl.Uc i (by rw[y6];exact c);rw[sY c,show met[i]=u by grind]at p;have aE:aaY .i64 (d+1)=d+1:=ie _ NH NH;have st1:aaK pG f 3 (pT (Z ⟨T,w,Y⟩)) (.int .i64 (d+1))=Z (f.put T (.cells (Bp (L.set w (d+1))))):=by rw[QB (P:=pG) (t:=3) (x:=.int .i64 (d+1)) Ac Ji oT (off:=w) (by rw[uE,v.len];exact N) rfl rfl,yy]
 have aF:WF (f.put T (.cells (Bp (L.set w (d+1))))):=C.put _ (C.lt oT);have aH:Le h (f.put T (.cells (Bp (L.set w (d+1))))):=leq.put _ nT;have aJ:(f.put T (.cells (Bp (L.set w (d+1))))).own T=Z (.cells (Bp (L.set w (d+1)))):=aai.Y3 _ _ _;have aK:GI (f.put T (.cells (Bp (L.set w (d+1))))) m (kz met):=GS.put gm _ nm;simp only[HO,seval,aa,K,B _ w N,ae,c4,D,p,B _ u av,aD,aE,st1];generalize f.put T (.cells (Bp (L.set w (d+1))))=O at*;have⟨ai,h5,h6,e5,e6,g6,w6,l5,hf,hk⟩:=aK.push aF (w:Int) (by grind[y6]);have⟨l6,a6⟩:=hf h aH am;have⟨aL,aN⟩:=hk T _ aJ nm;have aj:kz met++[(w:Int)]=kz (met++[w]):=by simp[kz]
 rw[aj]at g6;simp only[HO,seval,e5,e6,aaa q NH];exact tn (row.length-(q+1)) [(0,bv),(5,sL (Z T) n n),(6,ai),(7,i),(31,uv),(32,row.length),(33,(q+1:Nat))] NH hAs
  ⟨q+1,_,ai,met++[w],rfl,z,rfl,aL,l6,g6,aN,a6,(by grind),v.push y hd I E c4 (ag _ fun j hj=>si hj),by rw[eS,awS,yM];simp only[gw];rw[abe c4,V3,hd];rfl⟩
def d20:decide ((20:Int)=0)=fF:=by decide
theorem d2:decide ((2:Int)=0)=fF:=by decide
def xe(x y:Int):acB pG 37 [(0,x),(1,y)]=Z (UI (x,y)):=Ji
section
variable{α:Type}[DecidableEq α]
def acs:List (α×Int)->α->Int->List (α×Int)
 |[],k,v=>[(k,v)]
 |(a,b)::r,k,v=>if a=k then(k,v)::r else(a,b)::acs r k v
def abo:List (α×Int)->α->Option Int
 |[],_=>Y
 |(a,b)::r,k=>if a=k then Z b else abo r k
theorem anr(l:List (α×Int))(k a:α)(v:Int):abo (acs l k v) a=if k=a then Z v else abo l a:=by
 induction l<;>grind[acs,abo]
theorem Ek(l:List (α×Int))(k:α)(v:Int):(abo l k=Y/\acs l k v=l++[(k,v)])\/∃(j:Nat)(b:Int),abo l k=Z b/\l[j]?=Z (k,b)/\(∀i,i<j->∀x,l[i]?=Z x->x.1≠k)/\acs l k v=l.set j (k,v):=by
 induction l with
 |nil=>exact .inl ⟨rfl,rfl⟩
 |cons x r e=>
  have⟨a,b⟩:=x;simp only[acs,abo];by_cases h:a=k
  .subst h;rw[abe rfl,abe rfl];exact .inr ⟨0,b,rfl,rfl,NH,rfl⟩
  .rw[abE h,abE h];rcases e with⟨d,h2⟩|⟨j,c,d,h2,h3,f⟩
   .grind
   .refine .inr ⟨j+1,c,d,hGr,fun i hi x g=>?_,by rw[f];rfl⟩;cases i<;>grind
end
def wy(l:List (Pr×Int)):List (vV×vV):=l.map fun x=>(UI x.1,.int .i64 x.2)
theorem akz(k:Pr):∀(l:List (Pr×Int))(i:Nat),(abo l k=none->adC Tryz.prog 37 (UI k) (wy l) i=some none)/\∀(j:Nat) b,l[j]?=some (k,b)->(∀q,q<j->∀x,l[q]?=some x->x.1≠k)->adC Tryz.prog 37 (UI k) (wy l) i=some (some (i+j,.int .i64 b))
 |[],i=>⟨fun _=>rfl,hGr⟩
 |(a,b)::r,i=>by
  obtain⟨g,h2⟩:=akz k r (i+1)
  have un:adC Tryz.prog 37 (UI k) (wy ((a,b)::r)) i=match aEq Tryz.prog 37 (UI k) (UI a)with|some true=>some (some (i,.int .i64 b))|some false=>adC Tryz.prog 37 (UI k) (wy r) (i+1)|none=>none:=rfl
  rw[un,eqP];constructor
  .grind[abo]
  .intro j c f d;cases j with
   |zero=>grind
   |succ j=>
    have e:a≠k:=d 0 NH (a,b) rfl;have:decide (k=a)=false:=by simpa using Ne.symm e
    rw[this];show adC Tryz.prog 37 (UI k) (wy r) (i+1)=_;rw[h2 j c (by simpa using f) hGr];congr 3;omega
def keyP(p:Pr):ac4 pG 37 (UI p)=tT:=by have:aa9 [p.1,p.2]=Z [(IntKind.i64,p.1),(IntKind.i64,p.2)]:=rfl;simp[ac4,qS7,Ac,UI,this,ts3]
def acS{h:aai}{x:vV}(p:Pr)(ok:Bool):acR pG h 48 x (UI p) ok=Y:=by simp only[acR,qS26,UI]
theorem mapP_look{h:aai}{M:Nat}{l:List (Pr×Int)}(a:h.own M=Z (.map (wy l)))(k:Pr)(ok:Bool):
  adH pG h 48 (.map (Z M)) (UI k) ok=Z (bif ok then .tuple #[.int .i64 ((abo l k).getD 0),.bool (abo l k).isSome]else .int .i64 ((abo l k).getD 0)):=by
 have c:acd pG 3=Z (.int .i64 0):=Ji;simp only[adH,qS26,keyP,a,c,show flat (.int .i64 0)=tT from rfl,if_true];rcases Ek l k 0 with⟨d,_⟩|⟨j,b,d,h2,h3,_⟩
 .grind[akz]
 grind[akz]
theorem Walk_any(j:abw)(v:vV)(n s:Nat)(es:xLP)(h:aai)(hg:GR h v ⟨(n:Int),es⟩)(f:bX ⟨(n:Int),es⟩)(hs:s<n):
  AC pG j 52 [v,s] h fun x h'=>∃d U o up,x=.tuple #[d,sL (Z ⟨U,0,Y⟩) n n,.int .i64 0]/\GI h' d (kz o)/\(h'.own U=Z (.cells (Bp up))/\blk d≠Z U/\h.own U=Y)/\Oc n es s o up/\Le h h'/\Z2 h d:=by
 have k:=hg
 obtain⟨ev,rfl,D⟩:=hg.open
 have z:(n:Int)<=200:=f.n1;have A:es.length<=594:=f.len;refine AC.vF func52 ntmps52 results52 fun l=>?_;obtain⟨m,E,g,p,-,F⟩:=r8 (n:=(n:Int)) l D
 generalize h.next=B at*
 have q:=F m (Le.refl _);have⟨h2,G,l2,w2,H⟩:=Tt p [s]
 have rs:RL RP h2 (sL (Z m.next) 1 1) [(s:Int)]:=RL.Wh (RS.whole H rfl)
 refine Sk (xU E q.1 @DQ G) ?_
 generalize vV.slice (Z m.next) 1 1=I at*
 refine kCi func70 (N7 j _ I ⟨(n:Int),es⟩ [(s:Int)] h2 (k.le (g.trans l2)) rs Ma) ?_;rintro x h3 J ⟨r,K,e,rfl,L⟩;have c:=(g.trans l2).trans r;have i:∀x∈[(s:Int)],0<=x/\x<(n:Int):=fun x O=>by grind
 rcases L with⟨t,_,_⟩|⟨_,u,_,_⟩|⟨_,_,rfl,a⟩
 .exact absurd f t
 .exact absurd i u
 .simp only[yM]at a;refine Sk @bne.eq_1.{0} ?_
  refine kCi func71 (V6 j K n s es h3 a f.GD f.q9 NH NH hs) ?_;rintro x P M ⟨d,N,o,up,rfl,C,w,hd,y,ap⟩;refine Uy ?_;refine⟨d,N,o,up,rfl,C,⟨w.1,w.2.1,c.none w.2.2⟩,hd,c.trans y,?_⟩;intro b hb;cases C:h.own b with
  |none=>rfl
  |some o=>have:=ap b hb;grind[Le.own]
abbrev Lw:=Int×Int×Int
def MK(p:Lw):xLV:=[.int .i64 p.1,.int .i64 p.2.1,.int .i64 p.2.2]
def valL(p:Lw):vV:=.agg #[p.1,p.2.1,p.2.2]
def Wo(ps:List Lw):xLV:=ps.flatMap MK
theorem Fx:∀(ps:List Lw)(i:Nat)(p:Lw),ps[i]?=Z p->(Wo ps)[i*3]?=Z (.int .i64 p.1)/\(Wo ps)[i*3+1]?=Z (.int .i64 p.2.1)/\(Wo ps)[i*3+2]?=Z (.int .i64 p.2.2)
 |[],i,p,h=>by simp at h
 |q::ps,0,p,h=>by grind[Wo,MK]
 |q::ps,i+1,p,h=>by have:=Fx ps i p (by simpa using h);have e:Wo (q::ps)=.int .i64 q.1::.int .i64 q.2.1::.int .i64 q.2.2::Wo ps:=rfl;rw[e,show(i+1)*3=(i*3+2)+1 by omega];simpa using this
theorem cH:∀(ps:List Lw)(i:Nat)(p q:Lw),ps[i]?=Z p->
  Wo (ps.set i q)=(((Wo ps).set (i*3) q.1).set (i*3+1) q.2.1).set (i*3+2) q.2.2
 |[],i,p,q,h=>by simp at h
 |r::ps,0,p,q,h=>by simp[Wo,MK]
 |r::ps,i+1,p,q,h=>by have:=cH ps i p q (by simpa using h);have e:∀(r:Lw) ps,Wo (r::ps)=.int .i64 r.1::.int .i64 r.2.1::.int .i64 r.2.2::Wo ps:=fun _ _=>rfl;grind
theorem flatL_low(ps:List Lw)(i:Nat)(p:Lw)(x:Int)(h:ps[i]?=Z p):Wo (ps.set i (p.1,p.2.1,x))=(Wo ps).set (i*3+2) x:=by rw[cH ps i p _ h];have⟨a,b,c⟩:=Fx ps i p h;apply mJ;grind
def ts51:UA pG 63=3:=Ji
def zrow3(n:Nat):acY [vV.int .i64 0,.int .i64 0,.int .i64 0] n=Wo (rP n (0,0,0)):=by
 induction n with
 |zero=>rfl
 |succ n a=>rw[acY,a];rfl
def mkL(h:aai)(n:Nat)(e:n<=100000):abl pG h 59 n n=Z (sL (Z h.next) n n,h.alloc (.cells (Wo (rP n (0,0,0))))):=by
 have b:acd pG 63=Z (.agg #[.int .i64 0,.int .i64 0,.int .i64 0]):=Ji;have hb:pG.bytesOf 63=24:=Ji;have c:(24:Int)*n<=140737488355328:=NH;have d:(n:Int)<=140737488355328:=NH;have one:(Wo (rP n (0,0,0))).all (·.oneCell')=tT:=by rw[fj];intro x a;rw[Wo,uu]at a;have⟨p,_,a⟩:=a;simp[MK]at a;rcases a with rfl|rfl|rfl<;>rfl
 simp[abl,qS9,qS37,b,hb,ts51,vV.cells,flat,c,d,IF,zrow3,one]
section
variable{h:aai}{L n:Nat}{ls:List Lw}
def Is{k:IntKind}{cap:Nat}(v:Nat)(b:v<n):aao pG 59 (sL (Z L) n cap) (.int k v)=Z (pT (Z ⟨L,v*3,Y⟩)):=by have a:(v:Int)<(n:Int):=NH;simp[aao,qS9,qS37,a,ts51,Ip]
def fl0(a:Addr):aca pG 63 (pT (Z a)) 0=Z (pT (Z (Ip a 0))):=rfl
def fl1(a:Addr):aca pG 63 (pT (Z a)) 1=Z (pT (Z (Ip a 1))):=rfl
def fl2(a:Addr):aca pG 63 (pT (Z a)) 2=Z (pT (Z (Ip a 2))):=rfl
def Nh(a:h.own L=Z (.cells (Wo ls))){v:Nat}{p:Lw}(b:ls[v]?=Z p):aaC pG h 3 ⟨L,v*3,Y⟩=Z (.int .i64 p.1):=by rw[Fq Ac rfl a,(Fx ls v p b).1]
def lUp(a:h.own L=Z (.cells (Wo ls))){v:Nat}{p:Lw}(b:ls[v]?=Z p):aaC pG h 3 ⟨L,v*3+1,Y⟩=Z (.int .i64 p.2.1):=by rw[Fq Ac rfl a,(Fx ls v p b).2.1]
def lLow(a:h.own L=Z (.cells (Wo ls))){v:Nat}{p:Lw}(b:ls[v]?=Z p):aaC pG h 3 ⟨L,v*3+2,Y⟩=Z (.int .i64 p.2.2):=by rw[Fq Ac rfl a,(Fx ls v p b).2.2]
def sLow(b:h.own L=Z (.cells (Wo ls))){v:Nat}{p:Lw}(a:ls[v]?=Z p)(x:Int):
  aaK pG h 3 (pT (Z ⟨L,v*3+2,Y⟩)) x=Z (h.put L (.cells (Wo (ls.set v (p.1,p.2.1,x))))):=by
 rw[flatL_low ls v p x a];exact QB (P:=pG) (t:=3) (x:=x) Ac Ji b (off:=v*3+2) (Ny.1 (Fx ls v p a).2.2).1 rfl rfl
def sAll(b:h.own L=Z (.cells (Wo ls))){v:Nat}(c:v<ls.length)(q:Lw):
  aaK pG h 63 (pT (Z ⟨L,v*3,Y⟩)) (valL q)=Z (h.put L (.cells (Wo (ls.set v q)))):=by
 have a:=CA c;rw[cH ls v _ q a];have e:=(Ny.1 (Fx ls v _ a).2.2).1;have d:v*3+3<=(Wo ls).length:=NH;simp[aaK,b,valL,vV.cells,ts51,putCells,qS37,d,vV.oneCell']
end
variable {i:Nat} {ls:List Lw}
def Ro(ls:List Lw)(v:Nat):Lw:=ls.getD v (0,0,0)
def acA(up:RZ):II->List Lw×II->List Lw×II
 |[],st=>st
 |v::r,(ls,o)=>acA up r (ls.set v (((o.length+1:Nat):Int),up.getD v 0,((o.length+1:Nat):Int)),o++[v])
def jl(n:Nat)(es:xLP)(i:Nat)(st:List Lw×II):List Lw×II:=if(Ro st.1 i).1=0 then acA (K9 n es i).2 (K9 n es i).1 st else st
def aba(n:Nat)(es:xLP):Nat->List Lw×II
 |0=>(rP n (0,0,0),[])
 |i+1=>jl n es i (aba n es i)
def bS(ls:List Lw)(e:Pr):List Lw:=
 let a:=e.1.toNat;let b:=e.2.toNat
 if(Ro ls a).2.1=e.2\/(Ro ls b).2.1=e.1 then ls
 else
  let l1:=ls.set a ((Ro ls a).1,(Ro ls a).2.1,min (Ro ls a).2.2 (Ro ls b).1)
  l1.set b ((Ro l1 b).1,(Ro l1 b).2.1,min (Ro l1 b).2.2 (Ro l1 a).1)
def Ke(ls:List Lw)(v:Nat):List Lw:=
 let u:=(Ro ls v).2.1
 if 0<=u then ls.set u.toNat ((Ro ls u.toNat).1,(Ro ls u.toNat).2.1,min (Ro ls u.toNat).2.2 (Ro ls v).2.2)else ls
def Jz(n:Nat)(es:xLP):List Lw×II:=((aba n es n).2.reverse.foldl Ke (es.foldl bS (aba n es n).1),(aba n es n).2)
theorem V0(h:v<ls.length):ls[v]?=Z (Ro ls v):=by grind[Ro]
structure LowI (n:Nat) (ls:List Lw) (o:II):Prop where
 len:ls.length=n
 up:∀v,v<n->(Ro ls v).2.1<(n:Int)
 lt:∀v∈o,v<n
 nd:o.Nodup
 num:∀v,v<n->((Ro ls v).1=0↔v∉o)
theorem Uw(ls:List Lw)(v:Nat)(q:Lw)(u:Nat):Ro (ls.set v q) u=if v=u/\v<ls.length then q else Ro ls u:=by grind[Ro]
theorem du.upR(a:InR n es)(hs:s<n)(d:du n es s o up):∀v,up.getD v 0<(n:Int):=by
 induction d with
 |start=>grind
 |@step o up k v w d c ha hw e hf b=>
  intro x;simp only[V3,Tn];have:=b x;split
  .split
   .have:=(ha.lt a).1;simp;omega
   grind
  .exact this
theorem Rx{n:Nat}{up:RZ}(a:∀v,up.getD v 0<(n:Int)):∀(l:II){ls:List Lw}{o:II},LowI n ls o->l.Nodup->(∀v∈l,v<n/\v∉o)->
  LowI n (acA up l (ls,o)).1 (acA up l (ls,o)).2/\(acA up l (ls,o)).2=o++l
 |[],ls,o,I,_,_=>by grind[acA]
 |v::r,ls,o,I,c,e=>by
  rw[VU]at c;have d:LowI n (ls.set v (((o.length+1:Nat):Int),up.getD v 0,((o.length+1:Nat):Int))) (o++[v]):=by
   refine⟨by simp[I.len],fun u b=>?_,fun u b=>?_,?_,fun u b=>?_⟩
   .rw[Uw];split
    .exact a v
    .exact I.up u b
   .grind[LowI.lt]
   .grind[LowI.nd]
   grind[Uw,LowI.len,LowI.num]
  have⟨f,g⟩:=Rx a r d c.2 hGr;grind[acA.eq_2]
theorem con_back(a:∀u w,Jp es u w->u∈o->w∈o)(h:Pu es i v):v∈o->i∈o:=by
 induction h<;>grind[Jp.symm]
structure cV (n:Nat) (es:xLP) (ls:List Lw) (o:II):Prop extends LowI n ls o where
 cl:∀u w,Jp es u w->u∈o->w∈o
def TY(a:InR n es)(I:cV n es ls o)(hi:i<n)(c:(Ro ls i).1=0):
  (K9 n es i).1.Nodup/\∀v∈(K9 n es i).1,v<n/\v∉o:=by
 have D:=Te a hi;refine⟨D.KP.nodup,fun v b=>⟨((D.mem v).1 b).lt a hi,fun d=>(I.num i hi).1 c (con_back I.cl ((D.mem v).1 b) d)⟩⟩
theorem fromA_C(b:InR n es)(I:cV n es ls o)(hi:i<n):
  cV n es (jl n es i (ls,o)).1 (jl n es i (ls,o)).2/\i∈(jl n es i (ls,o)).2/\∀v∈o,v∈(jl n es i (ls,o)).2:=by
 unfold jl;split
 .rename_i c;have⟨f,g⟩:=TY b I hi c;have D:=Te b hi;have⟨d,h⟩:=Rx (D.KP.upR b hi) (K9 n es i).1 I.toLowI f g;rw[h]at d ⊢;refine⟨⟨d,fun u w ha a=>?_⟩,ang _ ((D.mem i).2 (Pu.refl es i)),(by grind[mem_append_left])⟩;rw[aax]at a ⊢;rcases a with a|a
  .grind[cV.cl]
  .exact .inr (D.full u a w ha)
 .rename_i c;refine⟨I,?_,fun v j=>j⟩;by_cases e:i∈o
  .exact e
  .exact absurd ((I.num i hi).2 e) c
theorem ZC{n:Nat}{es:xLP}(a:InR n es):∀i,i<=n->cV n es (aba n es i).1 (aba n es i).2/\∀v,v<i->v∈(aba n es i).2
 |0,_=>⟨⟨⟨by simp[aba],(by grind[aba,Ro]),by simp[aba],by simp[aba],(by grind[aba,Ro])⟩,by simp[aba]⟩,NH⟩
 |i+1,hi=>by
  have⟨I,b⟩:=ZC a i NH;have⟨c,d,f⟩:=fromA_C a I (i:=i) NH;refine⟨c,fun v g=>?_⟩;by_cases e:v=i
  .subst e;exact d
  .exact f v (b v NH)
theorem LowI.Em(I:LowI n ls o):o.length<=n:=by have:=I.nd.length_le_of_subset (l₂:=rG n) (by grind[LowI.lt]);grind
variable {L LV:Nat}
def mkCap(h:aai)(n:Nat)(d:n<=100000):abl pG h 47 (.int .i64 0) n=Z (sL (Z h.next) 0 n,h.alloc (.cells (rP n (.int .i64 0)))):=by have a:acd pG 3=Z (.int .i64 0):=Ji;have hb:pG.bytesOf 3=8:=Ji;have b:(8:Int)*n<=140737488355328:=NH;have c:(n:Int)<=140737488355328:=NH;simp[abl,Mb,Ac,a,hb,ts3,vV.cells,flat,b,c,IF,HW,vV.oneCell']
def GU.cap{id n:Nat}(a:h.own id=Z (.cells (rP n (.int .i64 0))))(b:n<=100000):GU h (sL (Z id) 0 n) []:=⟨by simp[Bp],.inr ⟨id,_,n,rfl,a,by simp[Bp],.inr ⟨Z6 _,NH,Ma⟩⟩⟩
theorem Dv(a b:Int):agw a [b]=Z (.int .i64 (min a b)):=by grind[agw]
def bL(a b c:Int):acB pG 63 [(0,a),(1,b),(2,c)]=Z (valL (a,b,c)):=Ji
theorem acj(ls:List Lw)(e:Pr):(bS ls e).length=ls.length:=by grind[bS]
def OQ:∀(es:xLP)(ls:List Lw),(es.foldl bS ls).length=ls.length
 |[],ls=>rfl
 |e::es,ls=>by rw[iU,OQ es,acj]
theorem Bg(ls:List Lw)(a:Nat)(x:Int)(v:Nat):(Ro (ls.set a ((Ro ls a).1,(Ro ls a).2.1,x)) v).1=(Ro ls v).1/\(Ro (ls.set a ((Ro ls a).1,(Ro ls a).2.1,x)) v).2.1=(Ro ls v).2.1:=by grind[Uw]
theorem ab7(ls:List Lw)(e:Pr)(v:Nat):(Ro (bS ls e) v).1=(Ro ls v).1/\(Ro (bS ls e) v).2.1=(Ro ls v).2.1:=by grind[bS,Bg]
theorem RK:∀(es:xLP)(ls:List Lw)(v:Nat),(Ro (es.foldl bS ls) v).1=(Ro ls v).1/\(Ro (es.foldl bS ls) v).2.1=(Ro ls v).2.1
 |[],ls,v=>⟨rfl,rfl⟩
 |e::es,ls,v=>by rw[iU];have⟨a1,a2⟩:=RK es (bS ls e) v;grind[ab7]
theorem tU(ls:List Lw)(x v:Nat):(Ro (Ke ls x) v).1=(Ro ls v).1/\(Ro (Ke ls x) v).2.1=(Ro ls v).2.1:=by grind[Ke,Bg]
theorem ack:∀(o:II)(ls:List Lw)(v:Nat),(Ro (o.foldl Ke ls) v).1=(Ro ls v).1/\(Ro (o.foldl Ke ls) v).2.1=(Ro ls v).2.1
 |[],ls,v=>⟨rfl,rfl⟩
 |e::es,ls,v=>by rw[iU];have⟨a1,a2⟩:=ack es (Ke ls e) v;grind[tU]
theorem bq(ls:List Lw)(v:Nat):(Ke ls v).length=ls.length:=by grind[Ke]
theorem Qp:∀(o:II)(ls:List Lw),(o.foldl Ke ls).length=ls.length
 |[],ls=>rfl
 |e::es,ls=>by rw[iU,Qp es,bq]
def ajY(h:aai):abO pG h 59=Z (pT (Z h.next),h.alloc (.cells [.slice Y 0 0])):=rfl
structure TP (h1 hq:aai) (LV L n:Nat) (ov:vV) (ls:List Lw) (o:II):Prop where
 oV:hq.own LV=Z (.cells [sL (Z L) n n])
 oL:hq.own L=Z (.cells (Wo ls))
 go:GU hq ov (kz o)
 nb:blk ov≠Z LV/\blk ov≠Z L
 le:Le h1 hq
 nn:h1.own LV=Y/\h1.own L=Y/\LV≠L
 ao:Z2 h1 ov
theorem TP.put{b c:aai}{d L n:Nat}{e:vV}{ls:List Lw}{o:II}(S:TP b c d L n e ls o)(a:List Lw):TP b (c.put L (.cells (Wo a))) d L n e a o:=⟨by rw[aai.By _ _ _ _ S.nn.2.2];exact S.oV,aai.Y3 _ _ _,GT.put S.go _ S.nb.2,S.nb,S.le.put _ S.nn.2.1,S.nn,S.ao⟩
theorem TP.kept{a b c:aai}(S:TP a b LV L n ov ls o)(e:Le b c):TP a c LV L n ov ls o:=⟨e.own _ _ S.oV,e.own _ _ S.oL,S.go.le e,S.nb,S.le.trans e,S.nn,S.ao⟩
def Ze(up:RZ):∀(a b:II)(st:List Lw×II),acA up (a++b) st=acA up b (acA up a st)
 |[],b,st=>rfl
 |x::a,b,(ls,o)=>by rw[WS,acA,acA,Ze up a b]
theorem TP.push{e a:aai}{i L n:Nat}{f:vV}{ls:List Lw}{o:II}(S:TP e a i L n f ls o)(g:WF a)(x:Nat)(r:o.length<=1000):
  ∃v' d c,aas pG a 47 1 [(0,x)]=Z (sL (Z a.next) 1 1,d)/\aaR pG d 47 47 f (sL (Z a.next) 1 1)=Z (v',c)/\TP e c i L n v' ls (o++[x])/\WF c/\
   (∀b o,a.own b=Z o->blk f≠Z b->c.own b=Z o/\blk v'≠Z b):=by
 have⟨v',d,c,e4,j,s,k,l4,hf,h⟩:=S.go.push g (x:Int) (by grind[y6]);have⟨k1,k2⟩:=h _ _ S.oV S.nb.1;have⟨l,m⟩:=h _ _ S.oL S.nb.2;have⟨p,q⟩:=hf e S.le S.ao;exact⟨v',d,c,e4,j,⟨k1,l,by grind[kz],⟨k2,m⟩,p,S.nn,q⟩,k,h⟩
theorem qX(W0:abw)(v:vV)(G:GM)(h:aai)(hg:GR h v G):
  AC pG W0 35 [v] h fun x h'=>Le h h'/\((¬bX G/\x=.tuple #[.slice Y 0 0,.slice Y 0 0,.int .i64 20])\/
   (bX G/\∃L m,x=.tuple #[sL (Z ⟨L,0,Y⟩) G.n.toNat G.n.toNat,m,.int .i64 0]/\h'.own L=Z (.cells (Wo (Jz G.n.toNat G.es).1))/\h.own L=Y/\GU h' m (kz (Jz G.n.toNat G.es).2)/\blk m≠Z L/\Z2 h m)):=by
 have aj:=hg;have⟨gn,es⟩:=G
 obtain⟨ev,rfl,hp⟩:=hg.open
 refine AC.vF func35 ntmps35 results35 fun a6=>?_;obtain⟨h1,b1,T,b8,-,lA⟩:=r8 (n:=gn) a6 hp
 generalize h.next=B at*
 have a7:=lA h1 (Le.refl _);simp only[HO,seval,b1,a7.1];refine TC.intro PJ ⟨UP,rfl,WY⟩ (ak W0 _ _ h1 (aj.le T)) ?_;rintro x h2 aq ⟨⟨bb,rfl,a8⟩,r⟩;cases bb with
 |false=>refine Uy ?_;grind[Le.trans]
 |true=>
 have hr:=a8.1 rfl;have h0:0<=gn:=hr.n0;obtain⟨n,rfl⟩:=WA h0;have b3:(n:Int)<=200:=hr.n1;have b4:es.length<=594:=hr.len;have hR:=hr.GD;simp only[yM];have ba:=lA h2 r;have⟨h3,e3,l3,w3,o3⟩:=Tt aq (Wo (rP n (0,0,0)));have mk:=mkL h2 n NH;rw[e3]at mk;have al:=ajY h3;have⟨h4,e4,l4,w4,o4⟩:=Tt w3 [.slice Y 0 0];rw[e4]at al
 have st:=QB (P:=pG) (t:=59) (x:=sL (Z h2.next) n n) qS9 Ji o4 (off:=0) Ma rfl rfl
 have nV:h3.own h3.next=Y:=(Le.refl h3).next w3 (qL0 _)
 have nL:h2.own h2.next=Y:=(Le.refl h2).next aq (qL0 _)
 have w5:=w4.put (.cells ([vV.slice Y 0 0].set 0 (sL (Z h2.next) n n))) (w4.lt o4)
 have l5:=(l3.trans l4).put (.cells ([vV.slice Y 0 0].set 0 (sL (Z h2.next) n n))) (l3.none nV)
 have aa:=aai.Y3 h4 h3.next (.cells ([vV.slice Y 0 0].set 0 (sL (Z h2.next) n n)))
 have ne:h3.next≠h2.next:=fun e=>by grind
 have ar:(h4.put h3.next (.cells ([vV.slice Y 0 0].set 0 (sL (Z h2.next) n n)))).own h2.next=Z (.cells (Wo (rP n (0,0,0)))):=by grind[aai.By,Le.own]
 have bg:=l3.none nV;simp only[HO,seval,Ii,Ip,Gc,ba.2.1,mk,al,st];clear st al mk e4 o4 e3 o3
 generalize h4.put h3.next (.cells ([vV.slice Y 0 0].set 0 (sL (Z h2.next) n n)))=I at*
 generalize h3.next=q at*
 generalize h2.next=L at*
 clear l3 w3 nV w4 l4;clear h3 h4;simp only[aoF]at aa;have av:=lA I (r.trans l5);have⟨h6,e6,l6,w6,o6⟩:=Tt w5 (rP n (.int .i64 0));have mk:=mkCap I n NH;rw[e6]at mk;have ay:=lA h6 ((r.trans l5).trans l6)
 have nO:I.own I.next=Y:=(Le.refl I).next w5 (qL0 _)
 simp only[HO,seval,Ii,Ip,Gc,av.2.1,mk,ay.2.1]
 have S6:TP h2 h6 q L n (sL (Z I.next) 0 n) (aba n es 0).1 (aba n es 0).2:=⟨l6.own _ _ aa,l6.own _ _ ar,GU.cap o6 NH,⟨fun e=>(by injection e with e;grind),fun e=>(by injection e with e;grind)⟩,l5.trans l6,⟨bg,nL,ne⟩,fun b hb=>by injection hb with hb;grind[Le.none]⟩
 generalize vV.slice (Z I.next) 0 n=ae at*
 clear nO ay mk o6 l6 e6 av l5 ar aa w5;refine aab.intro (fun k fr A=>∃(i:Nat)(m:vV),k=n-i/\i<=n/\fr=mkF [(1,pT (Z B)),(5,pT (Z q)),(6,m),(30,n),(31,i)]/\TP h2 A q L n m (aba n es i).1 (aba n es i).2)
  n [(1,pT (Z B)),(5,pT (Z q)),(6,ae),(30,n),(31,(0:Nat))] hAs ⟨0,ae,rfl,Z6 _,rfl,S6⟩ ?_
 clear S6 ae w6;clear h6 I;rintro k fr A J ⟨i,m,rfl,hi,rfl,S⟩;have⟨C,az⟩:=ZC hR i hi;have s:=fun(g:aai)(o:g.own q=Z (.cells [sL (Z ⟨L,0,Y⟩) n n]))=>(Fq (P:=pG) qS9 rfl o (off:=0):aaC pG g 59 ⟨q,0,Y⟩=_);simp only[MY]at s;refine Uy ?_;refine Kl.intro (fun ht=>?_) (fun hf=>?_)
 .have f:i<n:=acb ht;clear ht;have bh:=Nh S.oL (V0 (ls:=(aba n es i).1) (v:=i) (by rw[C.len];exact f));simp only[HO,seval,s A S.oV,Is i f,fl0,Ip,DF,bh,bne];by_cases c:(Ro (aba n es i).1 i).1=0
  .have K:=lA A (r.trans S.le);simp only[HO,seval,c,K.1];refine TC.intro PJ ⟨func52,rfl,WY⟩ (Walk_any W0 _ n i es A (aj.le ((T.trans r).trans S.le)) hr f) ?_;rintro x h7 w7 ⟨R,U,P,up,rfl,gw,⟨oU,nbU,nU⟩,D,l7,aw⟩;have S7:=S.kept l7;have⟨p1,p2⟩:=TY hR C f c;have aA:=D.KP.upR hR f;have b9:=D.KP.len.2;have y:aba n es (i+1)=acA up P (aba n es i):=by grind[Oc.eq,aba.eq_2,jl.eq_1]
   obtain⟨e1,-⟩:=D.eq hR f;rw[<-e1]at p1 p2;clear e1 D;have cc:P.length<=n:=by have:=p1.length_le_of_subset (l₂:=rG n) fun x hx=>j3.2 (p2 x hx).1;grind
   have cd:U≠L/\U≠q:=⟨fun e=>(by rw[e,S.oL]at nU;cases nU),fun e=>(by grind[TP.oV])⟩;have bj:blk R≠Z L/\blk R≠Z q:=⟨fun e=>(by have:=aw _ e;rw[S.oL]at this;cases this),fun e=>(by have:=aw _ e;grind[TP.oV])⟩;have V:blk m≠Z U:=fun e=>by have⟨c,hc⟩:=GT.Sy S.go e;grind
   have W:∀b,blk R=Z b->blk m≠Z b:=fun b hb e=>by have⟨c,hc⟩:=GT.Sy S.go e;rw[aw b hb]at hc;cases hc
   have lo:=fun g=>gw.rl.TA g;rw[y6]at lo;simp only[HO,seval,bne,lo];refine aab.intro (fun k fr hh=>∃(j:Nat)(z:vV),k=P.length-j/\j<=P.length/\fr=mkF [(1,pT (Z B)),(5,pT (Z q)),(6,z),(9,sL (Z U) n n),(30,n),(31,i),(50,R),(51,P.length),(52,j)]/\
     TP h2 hh q L n z (acA up (P.take j) (aba n es i)).1 (acA up (P.take j) (aba n es i)).2/\GI hh R (kz P)/\hh.own U=Z (.cells (Bp up))/\blk z≠Z U/\(∀b,blk R=Z b->blk z≠Z b))
    P.length [(1,pT (Z B)),(5,pT (Z q)),(6,m),(9,sL (Z U) n n),(30,n),(31,i),(50,R),(51,P.length),(52,(0:Nat))] hAs
    ⟨0,m,rfl,Z6 _,rfl,S7,gw,oU,V,W⟩ ?_
   clear S7 oU gw l7 w7 lo V W aw nU S K;clear h7;rintro k fr hh bk ⟨j,z,rfl,hj,rfl,S,gw,oU,V,W⟩;obtain⟨LI,-⟩:=Rx aA (P.take j) C.toLowI (p1.sublist (take_sublist _ _)) fun v hv=>p2 v (aj8 hv);have bm:(acA up (P.take j) (aba n es i)).2.length<=n:=LI.Em;have aB:(acA up (P.take j) (aba n es i)).1.length=n:=LI.len;refine Uy ?_;refine Kl.intro (fun ht=>?_) (fun hf=>?_)
   .have F:j<P.length:=acb ht;clear ht;have aC:=CA F;have ad:=gw.rl.DH j (by rw[y6];exact F);have ld:=gw.rl.Uc j (by rw[y6];exact F);rw[sY F]at ld;have X:P.take (j+1)=P.take j++[P[j]]:=XJ F;generalize P[j]=w at aC ld X;have aD:w<n:=(p2 w (BS aC)).1;have⟨v',h4,I,e4,e5,S5,w5,k5⟩:=S.push bk w NH;have⟨bo,aE⟩:=k5 U _ oU V;have br:GI I R (kz P):=GS.kept gw fun b o hb ho=>(k5 b o ho (W b hb)).1;have aF:∀b,blk R=Z b->blk v'≠Z b:=fun b hb=>by
     have:=GS.Sy gw hb;cases ho:hh.own b<;>grind
    have aH:=fun g=>S5.go.rl.TA g;simp only[y6,Eh,vY]at aH;have bx:=fun k=>Wc (P:=pG) (a:=⟨U,0,Y⟩) (n:=n) (cap:=n) (k:=k) Mb Ac Ji w aD;have bz:aaC pG I 3 ⟨U,w,Y⟩=Z (.int .i64 (up.getD w 0)):=by rw[Fq Ac rfl bo];grind[Bp]
    have st:=sAll S5.oL (v:=w) (by grind) (((((acA up (P.take j) (aba n es i)).2.length+1:Nat):Int),up.getD w 0,(((acA up (P.take j) (aba n es i)).2.length+1:Nat):Int)));simp only[HO,seval,ad,ld,e4,e5];refine gh (fRn 0 12 (JQ 12 [0,1,2,3,4,5,6,7,8,9,10,11] .done)) ?_;simp only[HO,seval,Qg,s I S5.oV,aH,bx,bz,Is w aD,Ip,Gc,bL,st,aaa j NH];have ag:acA up (P.take (j+1)) (aba n es i)=((acA up (P.take j) (aba n es i)).1.set w (((((acA up (P.take j) (aba n es i)).2.length+1:Nat):Int),up.getD w 0,(((acA up (P.take j) (aba n es i)).2.length+1:Nat):Int))),(acA up (P.take j) (aba n es i)).2++[w]):=by rw[X,Ze];rfl
    have S6:=S5.put ((acA up (P.take j) (aba n es i)).1.set w (((((acA up (P.take j) (aba n es i)).2.length+1:Nat):Int),up.getD w 0,(((acA up (P.take j) (aba n es i)).2.length+1:Nat):Int))));refine tn (P.length-(j+1)) [(1,pT (Z B)),(5,pT (Z q)),(6,v'),(9,sL (Z U) n n),(30,n),(31,i),(50,R),(51,P.length),(52,(j+1:Nat))] NH hAs
     ⟨j+1,v',rfl,F,rfl,(by grind),GS.put br _ bj.1,by grind[aai.By],aE,aF⟩
   .have H:P.length<=j:=vp hf;rw[HV H,<-y]at S;simp only[HO,seval,aaa i NH];exact tn (n-(i+1)) [(1,pT (Z B)),(5,pT (Z q)),(6,z),(30,n),(31,(i+1:Nat))] NH hAs ⟨i+1,z,rfl,f,rfl,S⟩
  .have y:aba n es (i+1)=aba n es i:=by rw[aba,jl,abE c]
   simp only[HO,seval,c,aaa i NH];exact tn (n-(i+1)) [(1,pT (Z B)),(5,pT (Z q)),(6,m),(30,n),(31,(i+1:Nat))] NH hAs ⟨i+1,m,rfl,f,rfl,by rw[y];exact S⟩
 have H:n<=i:=vp hf;obtain rfl:i=n:=NH;clear hf H hi az;have K:=lA A (r.trans S.le);have bA:=hp.le (T.trans r);simp only[HO,seval,Di,Ip,Gc,K.2.2,hp.len];refine aab.intro (fun k fr hh=>∃(j:Nat),k=es.length-j/\j<=es.length/\fr=mkF [(5,pT (Z q)),(6,m),(75,ev),(76,es.length),(77,j)]/\TP h2 hh q L i m ((es.take j).foldl bS (aba i es i).1) (aba i es i).2)
  es.length [(5,pT (Z q)),(6,m),(75,ev),(76,es.length),(77,(0:Nat))] hAs ⟨0,rfl,Z6 _,rfl,S⟩ ?_
 clear K S J;clear A;rintro k fr A J ⟨j,rfl,hj,rfl,S⟩;have aB:((es.take j).foldl bS (aba i es i).1).length=i:=by rw[OQ];exact C.len
 refine Uy ?_;refine Kl.intro (fun ht=>?_) (fun hf=>?_)
 .have f:j<es.length:=acb ht;clear ht;have aJ:=CA f;have X:es.take (j+1)=es.take j++[es[j]]:=XJ f;have M:=hR es[j] (aaf f);generalize es[j]=p at aJ X M;have ad:=hp.addr (k:=.i64) j f;have ld:=(bA.le S.le).load aJ;have⟨a,c⟩:=p;simp only at M;obtain⟨a,rfl⟩:=WA M.1;obtain⟨c,rfl⟩:=WA (show 0<=c by omega);have⟨cf,h4,e4,bB,bF,cg,o4⟩:=Ut J ((a:Int),(c:Int));have S4:=S.kept bF
  have nE:A.own A.next=Y:=(Le.refl A).next J (qL0 _)
  have cj:A.next≠L:=fun e=>by rw[e,S.oL]at nE;cases nE
  generalize A.next=E at*
  have N:=lK o4;have Q:=HY o4;simp only at N Q;have bH:a<i:=NH;have bI:c<i:=NH;generalize ck:(es.take j).foldl bS (aba i es i).1=ls at*;have ga:=V0 (ls:=ls) (v:=a) NH;have gc:=V0 (ls:=ls) (v:=c) NH;have st1:=sLow S4.oL ga (min (Ro ls a).2.2 (Ro ls c).1);have S5:=S4.put (ls.set a ((Ro ls a).1,(Ro ls a).2.1,min (Ro ls a).2.2 (Ro ls c).1));generalize aK:ls.set a ((Ro ls a).1,(Ro ls a).2.1,min (Ro ls a).2.2 (Ro ls c).1)=l at*;have b5:l.length=i:=hGr;have bN:=V0 (ls:=l) (v:=a) NH;have aL:=V0 (ls:=l) (v:=c) NH;have st2:=sLow S5.oL aL (min (Ro l c).2.2 (Ro l a).1);have S6:=S5.put (l.set c ((Ro l c).1,(Ro l c).2.1,min (Ro l c).2.2 (Ro l a).1))
  have hB:bS ls ((a:Int),(c:Int))=if(Ro ls a).2.1=(c:Int)\/(Ro ls c).2.1=(a:Int)then ls else l.set c ((Ro l c).1,(Ro l c).2.1,min (Ro l c).2.2 (Ro l a).1):=by simp only[bS,yM,aK]
  have bQ:(es.take (j+1)).foldl bS (aba i es i).1=bS ls ((a:Int),(c:Int)):=hGr;simp only[HO,seval,ad,ld,e4,bB];refine gh (fRn 0 10 .done) ?_;simp only[HO,seval,Qg,Dh,Z0,Ip,DF,Gc,N,Q,s h4 S4.oV,Is a bH,Is c bI];have u1:=lUp S4.oL ga;have u2:=lUp S4.oL gc;by_cases c1:(Ro ls a).2.1=(c:Int)
  .have d1:decide ((Ro ls a).2.1=(c:Int))=tT:=EL c1;refine gh (fRn 0 16 .done) ?_;simp only[HO,seval,Qg,Dh,Z0,Ip,DF,Gc,N,Q,fl0,fl1,fl2,u1,u2,d1,aaa j NH];refine tn (es.length-(j+1)) [(5,pT (Z q)),(6,m),(75,ev),(76,es.length),(77,(j+1:Nat))] NH hAs ⟨j+1,rfl,f,rfl,?_⟩;grind
  have d1:decide ((Ro ls a).2.1=(c:Int))=fF:=Sb c1;by_cases c2:(Ro ls c).2.1=(a:Int)
  .have d2:decide ((Ro ls c).2.1=(a:Int))=tT:=EL c2;refine gh (fRn 0 16 .done) ?_;simp only[HO,seval,Qg,Dh,Z0,Ip,DF,Gc,N,Q,fl0,fl1,fl2,u1,u2,d1,d2,aaa j NH];refine tn (es.length-(j+1)) [(5,pT (Z q)),(6,m),(75,ev),(76,es.length),(77,(j+1:Nat))] NH hAs ⟨j+1,rfl,f,rfl,?_⟩;grind
  have d2:decide ((Ro ls c).2.1=(a:Int))=fF:=Sb c2;refine gh (fRn 0 16 .done) ?_;simp only[HO,seval,Qg,Dh,Z0,Ip,DF,Gc,N,Q,fl0,fl1,fl2,u1,u2,d1,d2];refine gh (fRn 0 12 (JQ 12 [0,1,2,3,4,5,6,7,8,9,11] .done)) ?_;simp only[HO,seval,Qg,Ip,DF,Gc,fl0,fl1,fl2,lLow S4.oL ga,Nh S4.oL gc,Dv,st1];refine gh (fRn 0 12 (JQ 12 [0,1,2,3,4,5,6,7,8,9,11] .done)) ?_;simp only[HO,seval,Qg,Ip,DF,Gc,fl0,fl1,fl2,lLow S5.oL aL,Nh S5.oL bN,Dv,st2,aaa j NH];refine tn (es.length-(j+1)) [(5,pT (Z q)),(6,m),(75,ev),(76,es.length),(77,(j+1:Nat))] NH hAs ⟨j+1,rfl,f,rfl,?_⟩;grind
 have H:es.length<=j:=vp hf;rw[HV H]at S aB;clear H hf hj;refine Uy ?_;refine TC.intro PJ ⟨func53,rfl,WY⟩ (Back_any W0 m (kz (aba i es i).2) A S.go.rl) ?_;rintro x h7 w7 ⟨B2,rfl,cm,bT,l7⟩;have S7:=S.kept l7;have cp:B2≠L:=fun e=>by have:=J.lt S.oL;omega
 have bm:(aba i es i).2.length<=i:=C.toLowI.Em;have bW:(kz (aba i es i).2).length=(aba i es i).2.length:=y6 _;have aN:∀v∈(aba i es i).2,v<i:=C.lt;generalize hO:(aba i es i).2=O at*;have b6:Jz i es=(O.reverse.foldl Ke (es.foldl bS (aba i es i).1),O):=by rw[Jz,hO]
 have aP:∀v,v<i->(Ro (es.foldl bS (aba i es i).1) v).2.1<(i:Int):=fun v hv=>by rw[(RK es _ v).2];exact C.up v hv
 generalize es.foldl bS (aba i es i).1=LS at*;refine Uy ?_
 refine VK.rangeFunc (gf:=72) (first:=#[]) (cap:=#[pT (Z B2)]) (by simp only[HO,seval]) ⟨func72,rfl,WY⟩ WY fun W1 lp hy=>?_
 refine(Back1_any W1 lp B2 m (kz O) (fun k g=>TP h2 g q L i m (((O.drop k).reverse).foldl Ke LS) O/\g.own B2=Z (.cells [m])) h7 NH (fun k g hi=>⟨hi.2,hi.1.go.rl⟩) ⟨(by grind),bT⟩ ?_).mono fun _ h8 bY cq=>?_
 .intro k g hk wg hle bZ;have⟨S,oB⟩:=bZ;refine hy _ _ _ rfl hle ?_;rw[bW]at hk;have aT:=sY hk;have aV:=CA hk;have aW:O.drop k=O[k]::O.drop (k+1):=AQ hk;generalize O[k]=v at aT aV aW;have ai:=aN v (BS aV);have ag:(O.drop k).reverse.foldl Ke LS=Ke ((O.drop (k+1)).reverse.foldl Ke LS) v:=by rw[aW,qL208,qL209];rfl
  have aK:((O.drop (k+1)).reverse.foldl Ke LS).length=i:=by grind[Qp]
  have aX:=(ack (O.drop (k+1)).reverse LS v).2;have b0:=aP v ai;rw[<-aX]at b0;clear aX;generalize (O.drop (k+1)).reverse.foldl Ke LS=ls at*;have gv:=V0 (ls:=ls) (v:=v) NH;simp only[HO,seval,toList_toArray,aeJ,aT,s g S.oV,Is v ai,fl1,Ip,lUp S.oL gv];by_cases c:(Ro ls v).2.1>=0
  .obtain⟨u,hu⟩:=WA c;have b2:u<i:=NH;have gu:=V0 (ls:=ls) (v:=u) NH;have st:=sLow S.oL gu (min (Ro ls u).2.2 (Ro ls v).2.2);have cx:Ke ls v=ls.set u ((Ro ls u).1,(Ro ls u).2.1,min (Ro ls u).2.2 (Ro ls v).2.2):=by grind[Ke,Int.toNat_natCast]
   have d:decide ((u:Int)>=0)=tT:=EL NH;simp only[hu,d,HO,seval];refine gh (fRn 0 15 (JQ 15 [0,1,2,3,4,5,6,7,8,9,10,11,12,14] .done)) ?_;simp only[HO,seval,Qg,s g S.oV,Is v ai,Is u b2,fl2,Ip,lLow S.oL gu,lLow S.oL gv,Dv,st,amD];refine⟨hle,?_,?_⟩
   .grind[TP.put]
   grind[aai.By]
  .have d:decide ((Ro ls v).2.1>=0)=fF:=Sb c;simp only[d,HO,seval,amD];grind[Ke.eq_1]
 .obtain⟨S8,-⟩:=bY;rw[agm]at S8;simp only[HO,seval,s h8 S8.oV];have lb:Le h h2:=T.trans r;refine⟨lb.trans S8.le,.inr ⟨hr,L,m,rfl,by grind[TP.oL],lb.none nL,by grind[TP.go],S8.nb.2,fun b hb=>lb.none (S8.ao b hb)⟩⟩
end
end Go.Fw
