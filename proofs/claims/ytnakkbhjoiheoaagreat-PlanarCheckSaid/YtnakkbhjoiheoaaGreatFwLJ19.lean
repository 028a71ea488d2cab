/- A text. -/
import Derived.Test.YtnakkbhjoiheoaaGreatFwLJ18
set_option linter.all false
set_option maxRecDepth 99999
set_option maxHeartbeats 9999999
open Go.Proofs
open Option renaming some→Z,none→Y
open Bool renaming true→tT,false→fF
open List renaming replicate→rP,range→rG
open Go.Value renaming slice→sL,pointer→pT
open Go renaming Value→vV
open Go.Proofs.Tryz renaming prog→pG
open Go.Proofs.Tryz
namespace Go.Fw
section
attribute [local instance] Classical.propDecidable
attribute [local irreducible] Kp MQ lU KO1 KO KN KX KE VK Kl ZJ TC aab
variable {T rows:AM} {a b i j m n t w:Nat} {b0 h:aai} {us:List Value}
theorem Rows.setRow{L:Nat}(R:Rows b0 h L us rows)(c:WF h)(hw:w<us.length){u:vV}{r:RZ}(g:GI h u r)(k:Z2 b0 u)(i:blk u≠Z L)(hd:∀(v:Nat) a b,us[v]?=Z a->blk a=Z b->blk u≠Z b):
  ∃h',aaK pG h 28 (pT (Z ⟨L,w,Y⟩)) u=Z h'/\Rows b0 h' L (us.set w u) (rows.set w r)/\WF h'/\Le (h.kill L) h'/\∀b o,b≠L->h.own b=Z o->h'.own b=Z o:=by
 have st:=QB (P:=pG) (t:=28) (x:=u) Mb Ji R.oL (off:=w) hw g.rl.sl.cell g.rl.one;have keep:∀b o,b≠L->h.own b=Z o->(h.put L (.cells (us.set w u))).own b=Z o:=fun b o hb l=>by grind[aai.By]
 have key:∀(v:Nat) a,(us.set w u)[v]?=Z a->(v=w/\a=u)\/(v≠w/\us[v]?=Z a):=fun v a ha=>by grind
 refine⟨_,st,⟨aai.Y3 _ _ _,by grind[Rows.len],fun v a q ha d=>?_,fun v a ha=>?_,fun v w' a a' b j ha mi hb=>?_,fun v a ha=>?_,R.le.put _ R.bL,R.bL⟩,c.put _ (c.lt R.oL),((Le.Qz h L).put _ (aai.Dg _ _)),keep⟩
 .rcases key v a ha with⟨e,f⟩|⟨e,f⟩
  .rw[e,Tn,IE rfl]at d;simp only[show w<rows.length by grind,if_true]at d;injection d with d;rw[f,<-d];exact GS.put g _ i
  grind[GS.put,Rows.gs,Rows.nL]
 .grind[Rows.nL]
 .rcases key v a ha with⟨e,f⟩|⟨e,f⟩
  .grind
  grind[Rows.TE]
 grind[Rows.ap]
def xi(n:Nat)(a:List (Nat×Nat×Nat)):AM:=a.foldl XN (rP n (rP n (-1)))
def adh{n:Nat}:∀(a:List (Nat×Nat×Nat))(T:AM),(T.length=n/\∀v,v<n->(T.getD v []).length=n)->(a.foldl XN T).length=n/\∀v,v<n->((a.foldl XN T).getD v []).length=n
 |[],_,h=>h
 |t::a,T,h=>adh a (XN T t) (sQ h)
theorem BA(n:Nat):(rP n (rP n (-1:Int))).length=n/\∀v,v<n->((rP n (rP n (-1:Int))).getD v []).length=n:=hGr
theorem tabP_snoc(n:Nat)(a:List (Nat×Nat×Nat))(t:Nat×Nat×Nat):xi n (a++[t])=XN (xi n a) t:=by grind[xi]
def Hz(n i:Nat):AM:=rP i (rP n (-1))++rP (n-i) []
def rowsI_set(h:i<n):(Hz n i).set i (rP n (-1))=Hz n (i+1):=by unfold Hz;rw[Fu _ _ Ma,qL232,ahe,List.replicate_succ',show n-i=(n-(i+1))+1 by omega,qL193];simp
def BU(n:Nat)(T rows:AM)(i k:Nat):AM:=(rG i).map (lH T rows)++((rG k).map fun t=>itI (T.getD i []) t ((rows.getD i []).getD 0 0))::rP (n-(i+1)) []
theorem rowsR_at(n:Nat)(T rows:AM)(i k:Nat):(BU n T rows i k)[i]?=Z ((rG k).map fun t=>itI (T.getD i []) t ((rows.getD i []).getD 0 0)):=by grind[BU]
def rowsR_set(n:Nat)(T rows:AM)(i k:Nat):(BU n T rows i k).set i (((rG k).map fun t=>itI (T.getD i []) t ((rows.getD i []).getD 0 0))++[itI (T.getD i []) k ((rows.getD i []).getD 0 0)])=BU n T rows i (k+1):=by unfold BU;rw[Fu _ _ Ma,fj,WZ,ahe,rY,Bx];rfl
theorem Ow(h:i+1<n):BU n T rows i (rows.getD i []).length=BU n T rows (i+1) 0:=by unfold BU;rw[rY,Bx,bC];congr 1;rw[show n-(i+1)=(n-(i+1+1))+1 by omega,qL193];rfl
theorem iP(h:i+1=n):BU n T rows i (rows.getD i []).length=(rG n).map (lH T rows):=by unfold BU;rw[<-h,rY,Bx,ahe];rfl
theorem j8(h:0<n):BU n T rows 0 0=rP n []:=by unfold BU;rw[show n=(n-1)+1 by omega,qL193];simp
theorem tmod_pred(h:j<m):((j:Int)+(m:Int)-1).tmod (m:Int)=(((j+m-1)%m:Nat):Int):=hGr
theorem Y7(h:0<m)(b:m<=1000):aaY .i64 ((a%m:Nat):Int)=((a%m:Nat):Int):=by have:a%m<m:=dZ _ h;grind[cT]
def rh(h:t<m)(a:m<=1000):aaY .i64 ((t:Int)+(m:Int))=(t:Int)+(m:Int):=ie _ NH NH
def Ad(h:t<m)(a:m<=1000):aaY .i64 ((t:Int)+(m:Int)-1)=(t:Int)+(m:Int)-1:=ie _ NH NH
def nz_len(h:t<m):¬((m:Int)=0):=NH
theorem Wt(h:t<m):(((t+1:Nat):Int)).tmod (m:Int)=(((t+1)%m:Nat):Int):=hGr
def FI(h:a<b):0<b:=JR (abe _) h
theorem pY(W0:LA)(B n:Nat)(bv ov fv iv lv:vV)(rows:AM)(F:Cs)(h:aai)(hs:Sr h B n bv ov fv iv lv)(hb:RL (RL RP) h bv rows)(hF:RL (RL RP) h fv (F.map kz))(cd:rows.length=n)(h0:∀v,v<n->0<(rows.getD v []).length/\(rows.getD v []).length<=2000)(aW:∀f∈F,(∀x∈f,x<n)/\f.length<=1000)(hn:n<=300)(aX:0<n)(cf:F.length<=1000)(a6:∀v,v<n->∀k,k<=(rows.getD v []).length->∃u:Nat,u<n/\itI ((N4 n F).getD v []) k ((rows.getD v []).getD 0 0)=(u:Int)):
  AC pG W0 89 [pT (Z B)] h fun x h'=>RL (RL RP) h' x (xY n rows F)/\Le h h':=by
 refine AC.vE ⟨func89,rfl,WY⟩ ntmps89 results89 fun ar=>?_;simp only[Br,seval];have W:=sB B 0 NH;have a7:=sB B 1 NH;have a8:=sB B 3 NH;obtain⟨h1,e1,l1,w1,o1⟩:=Tt ar (rP n rW);have mk:=mk57 h n NH;rw[e1]at mk
 have nL:h.own h.next=Y:=(Le.refl h).next ar (qL0 _)
 have R0:Rows h h1 h.next (rP n rW) (Hz n 0):=by grind[Rows.start,Hz]
 generalize h.next=A at*
 have bb:=fun g=>Jg (P:=pG) (t:=25) (a:=Z A) (n:=n) (cap:=n) qS6 g;have Q:∀v,v<n->aao pG 25 (sL (Z A) n n) (.int .i64 (v:Int))=Z (pT (Z ⟨A,v,Y⟩)):=fun v S=>by rw[Wc qS6 Mb Ji v S];simp[Ip]
 simp only[HO,seval,W,hs.l0,mk,bb];refine lIn (fun k fr s=>∃(i:Nat)(us:xLV),k=n-i/\i<=n/\fr=mkF [(0,pT (Z B)),(3,sL (Z A) n n),(20,(n:Nat)),(21,(i:Nat))]/\Rows h s A us (Hz n i)/\us.length=n) ⟨0,_,rfl,abe _,rfl,R0,Ma⟩ ?_;clear R0 mk o1 w1 l1 e1;clear h1;rintro k fr s av ⟨i,us,rfl,hi,rfl,R,m⟩;refine sSs ?_;refine Kl.intro (fun C=>?_) (fun hf=>?_)
 .have D:i<n:=CC C;clear C;obtain⟨h4,e4,l4,w4,o4⟩:=Tt av [.int .i64 (-1)];have s4:=hs.le (R.le.trans l4);refine sFa (ae7 @DQ e4 W s4.l0) ?_;refine kCi akx (rN W0 _ n hn h4 (RL.Wh (RS.whole o4 rfl))) ?_;rintro x h5 w5 ⟨T,rfl,hT,o5,l5⟩;have R5:=(R.up l4).up l5;have gT:GI h5 (sL (Z T) n n) (rP n (-1)):=by
   have:h5.own T=Z (.cells (Bp (rP n (-1)))):=by rw[o5];simp[Bp]
   have:=GS.full (k:=1) (n:=n) this (by simp[Bp]) NH;show GS 1 h5 _ _ _;grind
  have dT:∀{b o},h4.own b=Z o->T≠b:=fun{b o} ob e=>by have:=w4.lt ob;omega
  obtain⟨h6,e6,R6,w6,-,-⟩:=R5.setRow w5 (w:=i) NH gT (fun b sZ=>by
    simp[blk]at sZ;subst sZ
    exact(R.le.trans l4).next w4 hT) (fun e=>by
    simp[blk]at e;exact dT (l4.own _ _ R.oL) e) (fun v a b ha sZ e=>by
    simp[blk]at e;have S:v<(Hz n i).length:=by grind[Rows.len]
    have:=GS.Sy (R.gs v a _ ha (XJ S)) sZ;obtain⟨o,ho⟩:=VU.1 this;grind[Le.own])
  rw[rowsI_set D]at R6;refine sFa (adG (Q i D) e6 (aaa i NH)) ?_;exact lgA (JS D) ⟨i+1,_,rfl,D,rfl,R6,by rw[Yq];exact m⟩
 have y:n<=i:=vp hf;obtain rfl:i=n:=NH;clear y hf hi;have ay:Hz i i=xi i ((F.take 0).flatMap ZO):=by simp[Hz,xi]
 rw[ay]at R;have lF:=fun g=>hF.qP5 g;rw[fj]at lF;have sq:=hs.le R.le;refine sFa (adG a8 sq.l3 lF) ?_;refine lIn (fun k fr p=>∃(j:Nat)(us:xLV),k=F.length-j/\j<=F.length/\fr=mkF [(0,pT (Z B)),(3,sL (Z A) i i),(37,fv),(38,(F.length:Nat)),(39,(j:Nat))]/\Rows h p A us (xi i ((F.take j).flatMap ZO))/\us.length=i) ⟨0,us,rfl,abe _,rfl,R,m⟩ ?_;clear R m av ay sq;clear us s;rintro k fr p X ⟨j,us,rfl,hj,rfl,R,m⟩;refine sSs ?_;refine Kl.intro (fun C=>?_) (fun hf=>?_)
 .have E:j<F.length:=CC C;clear C;have bg:=hF.Wm j (by rw[fj];exact E);obtain⟨u,lu,hu⟩:=hF.NS j (by rw[fj];exact E);rw[List.getElem_map]at hu;obtain⟨bh,L⟩:=aW F[j] (aev E);have cg:F.take (j+1)=F.take j++[F[j]]:=EL E;generalize F[j]=f at*;have aa:=fun g=>hu.DH g;rw[y6]at aa;simp only[HO,seval,bg,lu p R.le,aa];have R':Rows h p A us (xi i ((F.take j).flatMap ZO++(ZO f).take 0)):=by simpa using R
  refine lIn (fun k fr G=>∃(t:Nat)(us:xLV),k=f.length-t/\t<=f.length/\fr=mkF [(0,pT (Z B)),(3,sL (Z A) i i),(6,u),(37,fv),(38,(F.length:Nat)),(39,(j:Nat)),(43,u),(44,(f.length:Nat)),(45,(t:Nat))]/\Rows h G A us (xi i ((F.take j).flatMap ZO++(ZO f).take t))/\us.length=i) ⟨0,us,rfl,abe _,rfl,R',m⟩ ?_;clear R' R m X;clear us p;rintro k fr G ae ⟨t,us,rfl,ck,rfl,R,m⟩;refine sSs ?_;have tl:(ZO f).length=f.length:=by simp[ZO]
  refine Kl.intro (fun C=>?_) (fun hf=>?_)
  .have l:t<f.length:=CC C;clear C;have fp:(t+f.length-1)%f.length<f.length:=dZ _ NH;have az:(t+1)%f.length<f.length:=dZ _ NH;have ad:∀q,q<f.length->aao pG 28 u (.int .i64 (q:Int))=Z (pT (Z (aaq u q))):=fun q s=>hu.TA q (by rw[y6];exact s);have ld:∀q (s:q<f.length),aaC pG G 3 (aaq u q)=Z (.int .i64 ((f.getD q 0:Nat):Int)):=fun q s=>by rw[(hu.le Nn.RP R.le).Uc q (by rw[y6];exact s),sY s,D4 s]
   have mm:∀q,q<f.length->f.getD q 0<i:=fun q s=>by rw[D4 s];exact bh _ (aev s)
   have bk:(ZO f).take (t+1)=(ZO f).take t++[(f.getD t 0,f.getD ((t+f.length-1)%f.length) 0,f.getD ((t+1)%f.length) 0)]:=by rw[EL (by rw[tl];exact l)];congr 2;unfold ZO;rw[List.getElem_map,List.getElem_range]
   have S:=mm t l;have cm:=mm _ fp;have d:=adh ((F.take j).flatMap ZO++(ZO f).take t) _ (BA i);obtain⟨M,ag⟩:∃a,us[f.getD t 0]?=Z a:=⟨_,XJ NH⟩;have U:(xi i ((F.take j).flatMap ZO++(ZO f).take t))[f.getD t 0]?=Z ((xi i ((F.take j).flatMap ZO++(ZO f).take t)).getD (f.getD t 0) []):=by grind[xi,D4]
   have V:f.getD ((t+f.length-1)%f.length) 0<((xi i ((F.take j).flatMap ZO++(ZO f).take t)).getD (f.getD t 0) []).length:=by grind[xi]
   obtain⟨h9,e9,R9,w9,-,-⟩:=R.put ae ag U V ((f.getD ((t+1)%f.length) 0:Nat):Int);have bm:=R.gs _ M _ ag U;have bo:=(show GI G M _ from bm).rl.TA _ V;have br:aaC pG G 28 ⟨A,f.getD t 0,Y⟩=Z M:=by rw[Fq Mb rfl R.oL];exact ag
   have bx:aaY .i64 ((t:Int)+(f.length:Int))=(t:Int)+(f.length:Int):=rh l L;have bB:aaY .i64 ((t:Int)+(f.length:Int)-1)=(t:Int)+(f.length:Int)-1:=Ad l L;have nz:¬((f.length:Int)=0):=nz_len l;have bF:=tmod_pred l;have bG:aaY .i64 (((t+f.length-1)%f.length:Nat):Int)=(((t+f.length-1)%f.length:Nat):Int):=Y7 (FI l) L;have aw:=aaa t (Lb l (EP L WY));have bH:(((t+1:Nat):Int)).tmod (f.length:Int)=(((t+1)%f.length:Nat):Int):=Wt l;have bI:aaY .i64 (((t+1)%f.length:Nat):Int)=(((t+1)%f.length:Nat):Int):=Y7 (FI l) L;simp only[HO,seval,ad t l,ld t l];refine gh (tA [0,1,2,3,4,5,6,7,8,9,10,11,12,13,14,15,16,17,18,19,20] .done) ?_;simp only[HO,seval,Qg,aa,bx,bB,nz,bF,bG,aw,bH,bI,ad _ fp,ad _ az,ld _ fp,ld _ az,Q _ S,br,bo,e9];refine lgA (JS l) ⟨t+1,us,rfl,l,rfl,?_,m⟩;rw[bk,<-bC,tabP_snoc];exact R9
  .have y:f.length<=t:=vp hf;have bN:(ZO f).take t=ZO f:=HV hGr;rw[bN]at R;refine sFa (aaa j NH) ?_;refine lgA (JS E) ⟨j+1,us,rfl,E,rfl,?_,m⟩;grind
 have y:F.length<=j:=vp hf;rw[HV y]at R;have eT:xi i (F.flatMap ZO)=N4 i F:=rfl;rw[eT]at R;have dT:(N4 i F).length=i/\∀v,v<i->((N4 i F).getD v []).length=i:=adh (F.flatMap ZO) _ (BA i);clear y hf hj eT;have sz:=hs.le R.le;obtain⟨h7,e7,l7,w7,o7⟩:=Tt X (rP i rW)
 have mk:abl pG p 26 i i=Z (sL (Z ⟨p.next,0,Y⟩) i i,p.alloc (.cells (rP i rW))):=Ye (P:=pG) (t:=26) (z:=.slice Y 0 0) p akG Ji rfl rfl rfl Ji Mb Ji i NH
 rw[e7]at mk
 have cp:p.own p.next=Y:=(Le.refl p).next X (qL0 _)
 have J:Rows p h7 p.next (rP i rW) (BU i (N4 i F) rows 0 0):=by grind[j8,Rows.start]
 have aC:=R.rl (n:=i) (c:=i) m
 generalize p.next=K at*
 have aD:=fun g=>Jg (P:=pG) (t:=26) (a:=Z K) (n:=i) (cap:=i) akG g;have aF:∀v,v<i->aao pG 26 (sL (Z K) i i) (.int .i64 (v:Int))=Z (pT (Z ⟨K,v,Y⟩)):=fun v S=>by rw[Wc akG Mb Ji v S];simp[Ip]
 simp only[HO,seval,W,sz.l0,mk,aD];refine lIn (fun k fr G=>∃(v:Nat)(us:xLV),k=i-v/\v<=i/\fr=mkF [(0,pT (Z B)),(3,sL (Z A) i i),(11,sL (Z K) i i),(84,(i:Nat)),(85,(v:Nat))]/\us.length=i/\((v<i/\Rows p G K us (BU i (N4 i F) rows v 0))\/(v=i/\Rows p G K us ((rG i).map (lH (N4 i F) rows))))) ⟨0,_,rfl,abe _,rfl,Ma,.inl ⟨aX,J⟩⟩ ?_;clear J mk o7 w7 l7 e7;clear h7;rintro k fr G ae ⟨v,H,rfl,S,rfl,r,bQ⟩;refine sSs ?_;refine Kl.intro (fun C=>?_) (fun hf=>?_)
 .have I:v<i:=CC C;clear C;have J:Rows p G K H (BU i (N4 i F) rows v 0):=hGr;clear bQ;have ai:v<rows.length:=hGr;have bW:rows.getD v []=rows[v]:=D4 ai;have bY:=hb.Wm v ai;obtain⟨bu,bZ,N⟩:=hb.NS v ai;rw[<-bW]at N;obtain⟨aH,cq⟩:=h0 v I;have aJ:=a6 v I;have b0:=fun g=>N.DH g;have aK:=N.TA 0 aH;have O:=R.le.trans J.le;have aj:=(N.le Nn.RP O).Uc 0 aH;have g0:(rows.getD v [])[0]=itI ((N4 i F).getD v []) 0 ((rows.getD v []).getD 0 0):=by
   show _=(rows.getD v []).getD 0 0;grind[D4]
  rw[g0]at aj;simp only[aku]at aK;have sy:=hs.le O;have al:v<(N4 i F).length:=hGr;have b1:=aC.Wm v al;obtain⟨tu,b2,aq⟩:=aC.NS v al;have b3:(N4 i F)[v]=(N4 i F).getD v []:=(D4 al).symm;rw[b3]at aq;have aL:=dT.2 v I;simp only[HO,seval,a7,sy.l1,bY,bZ G O,aK,aj,b0];refine aab.intro (fun k fr hx=>∃(q:Nat)(us:xLV),k=(rows.getD v []).length-q/\q<=(rows.getD v []).length/\fr=mkF [(0,pT (Z B)),(3,sL (Z A) i i),(11,sL (Z K) i i),(12,(v:Nat)),(13,.int .i64 (itI ((N4 i F).getD v []) q ((rows.getD v []).getD 0 0))),(84,(i:Nat)),(85,(v:Nat)),(104,((rows.getD v []).length:Nat)),(105,(q:Nat))]/\us.length=i/\Rows p hx K us (BU i (N4 i F) rows v q))
   (rows.getD v []).length [(0,pT (Z B)),(3,sL (Z A) i i),(11,sL (Z K) i i),(12,(v:Nat)),(13,.int .i64 (itI ((N4 i F).getD v []) 0 ((rows.getD v []).getD 0 0))),(84,(i:Nat)),(85,(v:Nat)),(104,((rows.getD v []).length:Nat)),(105,(0:Nat))] fD
   ⟨0,H,rfl,abe _,rfl,r,J⟩ ?_
  clear J r ae sy aj O;clear H G;rintro k fr hx b4 ⟨q,H,rfl,s,rfl,r,J⟩;refine sSs ?_;refine Kl.intro (fun C=>?_) (fun hf=>?_)
  .have aN:q<(rows.getD v []).length:=CC C;clear C;obtain⟨w,aP,ew⟩:=aJ q s;have eN:itI ((N4 i F).getD v []) (q+1) ((rows.getD v []).getD 0 0)=((N4 i F).getD v []).getD w 0:=by grind[itI,Int.toNat_natCast]
   obtain⟨uo,un,h9,cx,b5,k1,k2,k3,k4,k5,k6,k7,R3,cz,kk⟩:=J.push b4 (rowsR_at i (N4 i F) rows v q) (itI ((N4 i F).getD v []) q ((rows.getD v []).getD 0 0)) hGr;rw[rowsR_set]at R3;have b6:aaC pG hx 28 ⟨K,v,Y⟩=Z uo:=by rw[Fq Mb rfl J.oL];exact k1
   have b8:=aq.TA w (by rw[aL];exact aP);have aT:=(aq.le Nn.RP R3.le).Uc w (by rw[aL];exact aP);have b9:((N4 i F).getD v [])[w]'(by grind)=((N4 i F).getD v []).getD w 0:=(D4 _).symm
   rw[b9,<-eN]at aT;rw[ew]at k2
   have cc:aas pG hx 28 1 [(0,w)]=Z (sL (Z ⟨hx.next,0,Y⟩) 1 1,h9):=by rw[DQ,k2]
   refine sFa (aga (aF v I) b6 ew cc k3 k4 b1 (b2 b5 R3.le) b8 aT (aaa q NH)) ?_;exact lgA (JS aN) ⟨q+1,_,rfl,aN,rfl,hGr,R3⟩
  .have y:(rows.getD v []).length<=q:=vp hf;obtain rfl:q=(rows.getD v []).length:=NH;refine sFa (aaa v NH) ?_;refine lgA (JS I) ⟨v+1,H,rfl,I,rfl,r,?_⟩;by_cases c:v+1<i
   .grind[Ow]
   grind[iP]
 have y:i<=v:=vp hf;have J:Rows p G K H ((rG i).map (lH (N4 i F) rows)):=hGr;refine sSs ?_;exact⟨J.rl r,R.le.trans J.le⟩
variable {es ps web:List Pr} {r:Nat->II} {v:Value}
def Xy(fr:Pr->Nat->Int)(r:Nat×Pr×xLP):Int×xLP:=(fr r.2.1 r.1,r.2.2)
theorem Ij{es web:xLP}{fr fr':Pr->Nat->Int}(h:∀(j d:Nat) e e',es[j]?=Z e->es[d]?=Z e'->e∉web->e'∉web->(fr e j=fr e' d↔fr' e j=fr' e' d)){i:Nat}{p:Pr}(f:es[i]?=Z p)(hw:p∉web):
  ∀rs:List (Nat×Pr×xLP),(∀r∈rs,es[r.1]?=Z r.2.1/\r.2.1∉web)->∃a:List (Nat×Pr×xLP),(∀r∈a,es[r.1]?=Z r.2.1/\r.2.1∉web)/\ab4 (rs.map (Xy fr)) (fr p i) p=a.map (Xy fr)/\ab4 (rs.map (Xy fr')) (fr' p i) p=a.map (Xy fr')
 |[],_=>⟨[(i,p,[p])],hGr,rfl,rfl⟩
 |r::rs,g=>by
  obtain⟨k,h2⟩:=g r Ma;have key:=h r.1 i r.2.1 p k f h2 hw;by_cases c:fr r.2.1 r.1=fr p i
  .have c':=key.1 c;refine⟨(r.1,r.2.1,r.2.2++[p])::rs,fun q b=>?_,?_,?_⟩
   .rcases Og.1 b with rfl|b
    .grind
    grind
   .grind[Xy.eq_1,ab4.eq_2]
   grind[Xy.eq_1,ab4.eq_2]
  .have c':¬fr' r.2.1 r.1=fr' p i:=fun q=>c (key.2 q);obtain⟨a,k1,k2,l⟩:=Ij h f hw rs fun q b=>g q (by simp[b]);refine⟨r::a,fun q b=>?_,?_,?_⟩
   .rcases Og.1 b with rfl|b
    .grind
    grind
   .grind[Xy.eq_1,ab4.eq_2]
   grind[Xy.eq_1,ab4.eq_2]
theorem aeR{es web:xLP}{fr fr':Pr->Nat->Int}(h:∀(j a:Nat) e e',es[j]?=Z e->es[a]?=Z e'->e∉web->e'∉web->(fr e j=fr e' a↔fr' e j=fr' e' a)):
  ∀i:Nat,∃rs:List (Nat×Pr×xLP),(∀r∈rs,es[r.1]?=Z r.2.1/\r.2.1∉web)/\aaX fr es web i=rs.map (Xy fr)/\aaX fr' es web i=rs.map (Xy fr')
 |0=>⟨[],Ma,rfl,rfl⟩
 |i+1=>by
  obtain⟨rs,b,h2,h3⟩:=aeR h i;cases c:es[i]? with
  |none=>grind[aaX]
  |some p=>
   by_cases w:p∈web
   .grind[JJ]
   .rw[dh c w,dh c w,h2,h3];exact Ij h c w rs b
def frag_tog{L b:RZ}(hR:aV n es)(nd:es.Nodup)(f:wx n (fun u=>(Cb n web).getD u fF) es L)(c:wx n (fun u=>(Cb n web).getD u fF) es b):LJ n es web L=LJ n es web b:=by
 obtain⟨rs,-,h2,h3⟩:=aeR (es:=es) (web:=web) (fr:=Zo n (fun u=>(Cb n web).getD u fF) L) (fr':=Zo n (fun u=>(Cb n web).getD u fF) b)
  (fun j g e e' d a _ _=>(K2 hR nd f d a).trans (K2 hR nd c d a).symm) es.length
 unfold LJ;rw[h2,h3,FD,FD];rfl
theorem circ_hit(p:bX ⟨(n:Int),es⟩)(q:zW n es){F:Cs}(G:abK n r F)(s:∀x y,y∈r x↔y∈eN n es x):
  ∀v,v<n->∀k,k<=((Zh n es).getD v []).length->∃u:Nat,u<n/\itI ((N4 n F).getD v []) k (((Zh n es).getD v []).getD 0 0)=(u:Int):=by
 have hR:=p.GD;have m:∀f∈F,f.Nodup:=G.O.nd;let a:Nat->Nat->Nat:=fun v u=>nx (r v) u;have b:∀t∈F.flatMap ZO,t.1<n/\t.2.1<n/\t.2.2=a t.1 t.2.1:=fun t z=>by obtain⟨f,hf,h⟩:=y5.1 z;obtain⟨o,h2,h3⟩:=vh (m f hf) h;obtain⟨D,E,H⟩:=G.O.pv hf o;have hi:=G.O.df G.Rl hf o;refine⟨G.Rl.lt _ _ hi,by rw[h2];exact G.Rl.lt _ _ (G.Rl.sy _ _ hi),?_⟩;grind
 obtain⟨-,A⟩:=Vx (F.flatMap ZO) _ (BA n) b;have d:∀v u,u∈r v->MC (N4 n F) v u=(a v u:Int):=fun v u i=>by
  refine A v u (.inr ?_);obtain⟨f,hf,B,e⟩:=G.O.cover u v (G.Rl.sy _ _ i);have j:v∈f:=by grind[ZP]
  refine⟨_,y5.2 ⟨f,hf,wA (m f hf) j⟩,rfl,?_⟩;grind[c7]
 intro v j k _;obtain⟨w,hw⟩:=q.ne hR j;obtain⟨u,c,e⟩:=eR ((aU hR).2 ⟨w,hw⟩);have hb:=(qG n es).back hR v;have i:u∈r v:=(s v u).2 (by rw[e];simp);have C:(Zh n es).getD v []=(u:Int)::kz c:=by rw[<-hb];show(eN n es v).map _=_;rw[e];rfl
 rw[C];obtain⟨k1,k2⟩:=HN (T:=(N4 n F).getD v []) (g:=a v) (P:=fun x=>x∈r v) (fun x l=>d v x l) (fun x l=>ZP l) i k;exact⟨it (a v) k u,G.Rl.lt _ _ (G.Rl.sy _ _ k2),hGr⟩
abbrev BP:=Fin 1000×Fin 1000
def qf(x:BP):Pr:=((x.1.1:Int),(x.2.1:Int))
def zM(x y:BP):Int:=if(x.1.1:Int)=(y.1.1:Int)then(x.2.1:Int)-(y.2.1:Int)else(x.1.1:Int)-(y.1.1:Int)
theorem Z9(x y:BP):Go.Proofs.ltOf zM x y=ltP (qf x) (qf y):=by rw[Bool.eq_iff_iff,XW];unfold Go.Proofs.ltOf zM qf;grind
theorem prB_inj{x y:BP}(h:qf x=qf y):x=y:=by grind[qf]
theorem swoB:Go.Sort.SWO (Go.Proofs.ltOf zM):=by
 refine⟨fun x=>?_,fun x y z a h2=>?_,fun x y z a h2=>?_⟩
 .grind[Z9,Nc]
 all_goals grind[Z9,Nc]
theorem VO(xs:List BP):Go.Sort.flatK (fun x=>xM (qf x)) 2 xs.toArray=(Iu (xs.map qf)).toArray:=by
 rw[<-ai0];apply Array.ext
 .simp
 .intro i a h2;have b:i<xs.length*2:=by simpa using a
  have hi:i / 2<xs.length:=NH;simp only[Go.Sort.flatK,Array.getElem_map,Array.getElem_range];grind
def subB(a b:Fin 1000):aaY .i64 ((a.1:Int)-(b.1:Int))=(a.1:Int)-(b.1:Int):=ie _ NH NH
theorem X8(f:LA)(x y:BP)(h:aai):AC pG f 126 [UI (qf x),UI (qf y)] h fun v h'=>v=.int .i64 (zM x y)/\Le h h':=by
 refine AC.vE ⟨func126,rfl,WY⟩ ntmps126 results126 fun e=>?_;simp only[Br,seval];obtain⟨g,i,l1,w1,j⟩:=Tt e (xM (qf x));obtain⟨h2,k,l2,w2,d⟩:=Tt w1 (xM (qf y));have c:=l2.own _ _ j;refine sFa (adG @Ci i k) ?_
 generalize h.next=a at*
 generalize g.next=b at*
 have s1:aaY .i64 ((qf x).1-(qf y).1)=(qf x).1-(qf y).1:=subB x.1 y.1;have s2:aaY .i64 ((qf x).2-(qf y).2)=(qf x).2-(qf y).2:=subB x.2 y.2;refine sFa (afS @Dh @Z0 @Ip.eq_1 @Gc (lK c) (HY c) (lK d) (HY d) s1 s2) ?_;refine Kl.intro (fun l=>?_) (fun hf=>?_)
 .refine sFa (afS @Dh @Z0 @Ip.eq_1 @Gc (lK c) (HY c) (lK d) (HY d) s1 s2) ?_;grind[qf,zM,Le.trans]
 .refine sFa (afS @Dh @Z0 @Ip.eq_1 @Gc (lK c) (HY c) (lK d) (HY d) s1 s2) ?_;grind[qf,zM,Le.trans]
def bp_of(hb:∀p∈ps,∃a b:Nat,p=((a:Int),(b:Int))/\a<1000/\b<1000):∃xs:List BP,ps=xs.map qf:=by
 induction ps with
 |nil=>exact⟨[],rfl⟩
 |cons p ps c=>obtain⟨xs,e⟩:=c fun q d=>hb q (by simp[d]);obtain⟨a,b,f,ha,sZ⟩:=hb p Ma;exact⟨(⟨a,ha⟩,⟨b,sZ⟩)::xs,by rw[e,f];rfl⟩
theorem sortB(xs:List BP):(xs.mergeSort fun x y=>!Go.Proofs.ltOf zM y x).map qf=aa5 (xs.map qf):=by grind[aa5,List.map_mergeSort,Z9]
theorem CH(u:LA)(g:GP h v ps)(z:ps.length<=100000)(hb:∀p∈ps,∃a b:Nat,p=((a:Int),(b:Int))/\a<1000/\b<1000):
  AC pG u 49 [v,.func (.func 126) #[] #[]] h fun x h'=>x=.tuple #[]/\GP h' v (aa5 ps)/\∀f,Le f h->Z2 f v->Le f h':=by
 have A:∀args w,(callFunc 126 args).run pG w=.ok (.enter 126 args) w:=enters_of func126 Ji rfl;obtain⟨bs,i⟩:=bp_of hb;rcases g.cases z with⟨a,cap,rfl,rfl⟩|⟨id,c,cap,rfl,B,C,j,D,l,o⟩
 .refine(AC.ajU fun a' cap' w=>AnyF.slices_SortFunc_none {Tryz.aa5 with} a' cap' (.func (.func 126) #[] #[]) w).mono ?_;rintro x h' ⟨rfl,rfl⟩;exact⟨rfl,by simpa[aa5]using g,fun f q _=>q⟩
 .have r:bs.length=ps.length:=hGr;have key:=fun(blk off cap':Nat)(w:World) s hb (d:ps.length<=cap')=>
   AnyQ.slices_SortFunc_total (α:=BP) Tryz.aa5 2 Tryz.isAgg49 Tryz.sizeOf49 (fun x=>xM (qf x)) (fun _=>rfl) (fun x v E=>(Aq [qf x] v (by simpa[Iu]using E)).2) zM swoB 126 #[] blk off cap' bs.toArray w A
    (fun m os G _ x y=>AC.grown (args:=[UI (qf x),UI (qf y)]) _ ((X8 _ x y _).mono fun _ _ h=>h.1) (fun m=>ajc m (qf x) (qf y))) s hb (by simp;omega)
    (fun x y H h2=>by grind[Z9,Nc,prB_inj])
  refine(AC.ofRowK (k:=2) (xs:=Iu ps) (ys:=Iu (aa5 ps)) B C (Ta _) (by rw[Ta,ZS]) o l D (fun y F=>(Aq ps y F).1) (Aq _) fun blk off cap' w s hb d=>?_).mono ?_
  .have t:Go.Sort.HoldsK (fun x:BP=>xM (qf x)) 2 w blk off bs.toArray:=by
    unfold Go.Sort.HoldsK;rw[VO,<-i];exact s
   have k:=key blk off cap' w t hb d;rw[show bs.toArray.size=ps.length by simp[r]]at k;refine k.mono ?_;rintro e w' ⟨rfl,n,os,rfl⟩;refine⟨rfl,n,os,?_⟩;unfold Go.Proofs.sortWorldK Go.Sort.putRowK;rw[VO,sortB,<-i];rfl
  .rintro x h' ⟨rfl,rfl⟩;refine⟨rfl,?_,fun f q af=>q.put _ (af id rfl)⟩;rw[GP,ZS];refine⟨by rw[Ta,ZS],.inr ⟨id,_,cap,rfl,aai.Y3 _ _ _,?_,j⟩⟩;grind[Ta,ZS]
variable {B O:Nat} {F1 F2:Cs} {bv fv iv lv:Value} {cs ws:List Value} {g:aai} {left:List wW} {on:List Bool}
theorem AC.side{P:Program}{d:LA}{f:FuncId}{args:xLV}:∀(X:II)(h:aai)(Q:vV->aai->Prop),(∀b∈X,h.own b≠Y)->X.Nodup->AC P d f args (rem X h) Q->
  AC P d f args h fun x h'=>∃g,Q x g/\Le g h'/\∀b∈X,g.own b=Y/\h'.own b=h.own b
 |[],h,Q,_,_,q=>q.mono fun x h' i=>⟨h',i,Le.refl _,fun b hb=>by cases hb⟩
 |a::l,h,Q,e,nd,q=>by
  have q:AC P d f args ((rem l h).kill a) Q:=q;have j:∀b∈l,h.own b≠Y:=fun b hb=>e b (by simp[hb]);obtain⟨k,nl⟩:=jz.1 nd;obtain⟨o,m⟩:=VU.1 (e a Ma);have c:(rem l h).own a=Z o:=by grind[DC]
  refine(AC.side l h _ j nl (AC.frame c q)).mono ?_;grind[Le.Y5,Le.trans,Le.own,aai.Y3,aai.By]
theorem ShS.ndX(S:ShS g h B O n rows bv fv iv lv us ws cs on F1 F2 left):(B::O::(bl fv++bl iv++bl lv)).Nodup:=by
 have d:=S.sep.TE;have n1:=S.nb fv Ma;have c:=S.nb iv Ma;have n3:=S.nb lv Ma;have nd:∀v,(bl v).Nodup:=fun v=>by grind[bl]
 simp only[jz,Og,aax,Zr,jf,not_or];refine⟨⟨S.bO,⟨n1.1,c.1⟩,n3.1⟩,⟨⟨n1.2,c.2⟩,n3.2⟩,⟨nd _,nd _,fun a ha b hb e=>?_⟩,nd _,fun a ha b hb e=>?_⟩
 .subst e;exact d 0 1 fv iv a NH rfl rfl ha hb
 .subst e;rcases ha with ha|ha
  .exact d 0 2 fv lv a NH rfl rfl ha hb
  .exact d 1 2 iv lv a NH rfl rfl ha hb
theorem ShS.side{i:LA}{P:Program}{g h:aai}{B O n:Nat}{rows:AM}{bv c d e:vV}{us ws cs:xLV}{on:List Bool}{j m:Cs}{left:List wW}(S:ShS g h B O n rows bv c d e us ws cs on j m left){f:FuncId}{args:xLV}{Q:vV->aai->Prop}(q:AC P i f args (Hg h B O c d e) fun x a=>Le (Hg h B O c d e) a/\Q x a):
  AC P i f args h fun x h'=>∃a,Q x a/\ShS a h' B O n rows bv c d e us ws cs on j m left/\Le h h'/\Le (Hg h B O c d e) a/\Le a h':=by
 refine(AC.side _ h _ (fun b hb=>(S.own (HX.1 hb)).2) S.ndX q).mono ?_;rintro x h' ⟨a,⟨l1,p⟩,l2,k⟩;have l:Le h h':=⟨by have:=(l1.trans l2).ext;rw[this];exact vL _,fun b o r=>by grind[Le.own,Hg,DC]⟩;obtain⟨s,l3⟩:=S.pV;grind[ShS.up,ShS.ground,HX]
def okc(k:Nat)(v:vV):Prop:=∃a n c,v=.slice a n c/\((n<=c/\c<UNK)\/(c=UNK+k/\a.isSome=tT))
def GS.okc{k n:Nat}{h:aai}{v:vV}{cs:xLV}(g:GS k h v n cs):okc k v:=by
 obtain⟨-,⟨rfl,b⟩|⟨id,c,cap,rfl,d,e,rfl|⟨rfl,a⟩⟩⟩:=g
 .exact⟨Y,0,0,rfl,.inl ⟨qL0 _,WY⟩⟩
 .exact⟨_,_,_,rfl,.inr ⟨rfl,rfl⟩⟩
 .exact⟨_,_,_,rfl,.inl ⟨qL0 _,PN a WY⟩⟩
theorem CS.drop{k n i:Nat}{h:aai}{a:Addr}{c c':Nat}{cs:xLV}(r:CS k h (sL (Z a) n c) n cs)(hi:i<=n):CS k h (sL (Z (Ip a (i*k))) (n-i) c') (n-i) (cs.drop (i*k)):=by refine⟨⟨_,_,rfl,fun _=>rfl⟩,by grind[CS.len,Nat.sub_mul],fun j x b=>?_⟩;rw[b7]at b;have:=r.get _ x b;grind[fA,Ub]
theorem PR.cut(r:PR h v ps)(o:okc 2 v)(hi:i<=ps.length):∃v',abf pG 22 v (Z (.int .i64 i)) Y Y=Z v'/\PR h v' (ps.drop i)/\okc 2 v':=by
 have n1:(0:Int)<=i:=NH;have k:(i:Int)<=ps.length:=NH;obtain⟨l,d,m,hs⟩:=r.sl;obtain⟨a,n,c,e,f⟩:=o;rw[m]at e;injection e with p s e3;subst p s e3 m;rcases f with⟨t,h2⟩|⟨rfl,h2⟩
 .have b:¬UNK<=d:=aiM.2 h2;by_cases q:d=i
  .have:i=ps.length:=NH;subst q this;refine⟨.slice l 0 0,?_,?_⟩
   .simp[abf,eY,qS8,WE,abm,abL,n1,b]
   .rw[qL224 (qL0 _)];exact⟨⟨⟨_,_,rfl,Ma⟩,rfl,fun j x g=>by cases g⟩,⟨_,_,_,rfl,.inl ⟨qL0 _,WY⟩⟩⟩
  .cases l with
   |none=>
    have u:ps.length=0:=hGr;obtain rfl:ps=[]:=qL126.1 u;refine⟨.slice Y 0 (d-i),?_,?_⟩
    .have:i=0:=hGr;subst this;simp[abf,eY,qS8,WE,abm,abL,b]
    .rw[List.drop_nil];exact⟨⟨⟨_,_,rfl,Ma⟩,rfl,fun j x g=>by cases g⟩,⟨_,_,_,rfl,.inl ⟨abe _,NH⟩⟩⟩
   |some a=>
    refine⟨sL (Z (Ip a (i*2))) (ps.length-i) (d-i),?_,?_⟩
    .simp[abf,eY,qS8,WE,abm,abL,n1,k,b,t,q]
    .have:=CS.drop (c':=d-i) r hi;rw[<-za]at this;exact⟨by grind[PR.eq_1],⟨_,_,_,rfl,.inl ⟨NH,NH⟩⟩⟩
 .obtain⟨a,rfl⟩:=vg.1 h2;refine⟨sL (Z (Ip a (i*2))) (ps.length-i) (UNK+2),?_,?_⟩
  .simp[abf,eY,qS8,WE,abm,abL,n1,k]
  .have:=CS.drop (c':=UNK+2) r hi;rw[<-za]at this;exact⟨by grind[PR.eq_1],⟨_,_,_,rfl,.inr ⟨rfl,rfl⟩⟩⟩
theorem DA(g:LA)(v:vV)(ps:xLP)(h:aai)(e:PR h v ps)(p:ps.length<=100000):AC pG g 61 [v] h fun x h'=>GP h' x ps/\Le h h'/\Z2 h x:=by
 obtain⟨a,c,rfl,hs⟩:=e.sl;refine AC.vE ⟨qS38,rfl,WY⟩ ntmps61 results61 fun d=>?_;simp only[Br,seval];cases a with
 |none=>
  have i:ps=[]:=by
   cases ps<;>grind
  subst i;simp only[HO,seval,aEq,eY,Option.isNone_none];exact⟨GP.nil _,Le.refl _,fun b hb=>by grind[blk]⟩
 |some a=>
  obtain⟨f,j,l1,w1,k⟩:=Tt d []
  have mk:aas pG h 22 0 []=Z (sL (Z h.next) 0 0,f):=by rw[<-j];rfl
  have q:h.own h.next=Y:=(Le.refl h).next d (qL0 _)
  have l:GP f (sL (Z h.next) 0 0) []:=GS.full k rfl WY
  have m:Z2 h (sL (Z h.next) 0 0):=fun b hb=>by injection hb with hb;grind
  obtain⟨r,s,n,t,u,o,-⟩:=GP.join l w1 (e.le l1) (by simp;omega);obtain⟨l6,w⟩:=o h l1 m;simp only[HO,seval,aEq,eY,WL,mk,n];grind
theorem bX.tail{n:Int}(a:bX ⟨n,es⟩):bX ⟨n,es.drop 1⟩:=by
 refine⟨a.n0,a.n1,?_,fun i hi p b=>?_⟩
 .have:=a.len;grind
 .simp only[qL211]at hi;simp only[b7]at b ⊢;obtain⟨c,h2⟩:=a.ok (1+i) hGr p b;grind
end
end Go.Fw
