/- A text. -/
import Derived.Test.YtnakkbhjoiheoaaGreatFwLZ5
import Derived.Test.YtnakkbhjoiheoaaGreatFwLZ6
import Derived.Test.YtnakkbhjoiheoaaGreatFwLI1
set_option linter.all false
set_option maxRecDepth 99999
set_option maxHeartbeats 9999999
open Go.Proofs
open Option renaming some→Z,none→Y
open Bool renaming true→tT,false→fF
open List renaming replicate→rP,range→rG
open Go.Value renaming slice→sL,pointer→pT
open Go renaming Value→vV
open Go.Proofs.Tryz renaming prog→pG
open Go.Proofs.Tryz
namespace Go.Fw
variable {es:List Pr} {n:Nat}
structure LowR (n:Nat) (ls:List Lw) (o:II):Prop where
 len:ls.length=n
 lt:∀v∈o,v<n
 Em:o.length<=n
 up:∀v,v<n->(Ro ls v).2.1<(n:Int)
def lowM_R(hR:aV n es):LowR n (Jz n es).1 (Jz n es).2:=by obtain⟨C,_⟩:=ZC hR n (qL0 _);refine⟨by rw[Jz,Qp,OQ];exact C.len,C.lt,C.toLowI.Em,fun v a=>?_⟩;rw[Jz,(ack _ _ v).2,(RK _ _ v).2];exact C.up v a
theorem z6(a b:Int):LZ (.int .i64 a) [b]=Z (.int .i64 (max a b)):=by grind[LZ]
def bP2(a b:Int):acB pG 49 [(0,a),(1,b)]=Z (UI (a,b)):=Ji
def zD(ls:List Lw)(c:RZ)(v:Nat):RZ:=if 0<=(Ro ls v).2.1/\(Ro ls (Ro ls v).2.1.toNat).1<=(Ro ls v).2.2 then c.set (Ro ls v).2.1.toNat (c.getD (Ro ls v).2.1.toNat 0+1)else c
def cntM(ls:List Lw)(o:II)(n:Nat):RZ:=o.foldl (zD ls) (rP n 0)
theorem AX(ls:List Lw)(c:RZ)(v:Nat):(zD ls c v).length=c.length:=by grind[zD]
def isCut(ls:List Lw)(c:RZ)(v:Nat):Bool:=decide (c.getD v 0>1)||(decide (c.getD v 0=1)&&decide ((Ro ls v).2.1>=0))
def JL(n:Nat)(es:xLP):II:=(rG n).filter (isCut (Jz n es).1 (cntM (Jz n es).1 (Jz n es).2 n))
def mkI0(h:aai):aas pG h 28 0 []=Z (sL (Z h.next) 0 0,h.alloc (.cells [])):=rfl
section
attribute [local irreducible] Kp MQ lU KO1 KO KN KX KE VK Kl ZJ TC aab
def pK(ls:List Lw)(p:Pr):Nat:=if(Ro ls p.1.toNat).1>(Ro ls p.2.toNat).1 then p.1.toNat else p.2.toNat
def hdS(ls:List Lw)(H:RZ)(v:Nat):RZ:=if 0<=(Ro ls v).2.1/\(Ro ls v).2.2<(Ro ls (Ro ls v).2.1.toNat).1 then(H.set v (v:Int)).set v ((H.set v (v:Int)).getD (Ro ls v).2.1.toNat 0)else H.set v (v:Int)
def hdM(ls:List Lw)(o:II)(n:Nat):RZ:=o.foldl (hdS ls) (rP n 0)
theorem IB(ls:List Lw)(c:RZ)(v:Nat):(hdS ls c v).length=c.length:=by grind[hdS]
theorem Cc(ls:List Lw):∀(o:II)(c:RZ),(o.foldl (hdS ls) c).length=c.length
 |[],c=>rfl
 |v::o,c=>by rw[Dj,Cc ls o,IB]
def cQ(n:Nat)(es:xLP)(p:Pr):Int:=(hdM (Jz n es).1 (Jz n es).2 n).getD (pK (Jz n es).1 p) 0
def vq(n:Nat)(es:xLP):List xLP:=(aaX (fun p _=>cQ n es p) es [] es.length).map (·.2)
theorem lower_any(p:LA)(n L f a c:Nat)(ls:List Lw)(h:aai)(u:ls.length=n)(oV:h.own f=Z (.cells [sL (Z L) n n]))(oL:h.own L=Z (.cells (Wo ls)))(ha:a<n)(j:c<n):
  AC pG p 57 [UI ((a:Int),(c:Int)),pT (Z f)] h fun x h'=>x=.int .i64 (pK ls ((a:Int),(c:Int)):Nat)/\Le h h':=by
 have e:=fun(g:aai)(o:g.own f=Z (.cells [sL (Z L) n n]))=>(Fq (P:=pG) sU rfl o (off:=0):aaC pG g 90 ⟨f,0,Y⟩=_);simp only[Bn]at e;refine AC.vE ⟨func57,rfl,WY⟩ ntmps57 results57 fun i=>?_;simp only[Br,seval];obtain⟨r,s,l1,w1,l⟩:=Tt i (xM ((a:Int),(c:Int)));have m1:=lK l;have m2:=HY l;simp only at m1 m2;have m:=V0 (ls:=ls) (v:=a) NH;have gc:=V0 (ls:=ls) (v:=c) NH;have b:=l1.own _ _ oL;have q:=e r (l1.own _ _ oV);simp only[HO,seval,Ci,s]
 generalize h.next=E at*
 by_cases k:(Ro ls a).1>(Ro ls c).1
 .have d:decide ((Ro ls a).1>(Ro ls c).1)=tT:=qL7 k;have t:pK ls ((a:Int),(c:Int))=a:=by grind[pK]
  refine gh (tA [0,1,2,3,4,5,6,7,8,9,10,11,12] .done) ?_;simp only[HO,seval,Qg,Dh,Z0,Ip,Ki,Gc,m1,m2,q,Is a ha,Is c j,fl0,Nh b m,Nh b gc,d];grind
 .have d:decide ((Ro ls a).1>(Ro ls c).1)=fF:=WA k;have t:pK ls ((a:Int),(c:Int))=c:=by grind[pK]
  refine gh (tA [0,1,2,3,4,5,6,7,8,9,10,11,12] .done) ?_;simp only[HO,seval,Qg,Dh,Z0,Ip,Ki,Gc,m1,m2,q,Is a ha,Is c j,fl0,Nh b m,Nh b gc,d];grind
theorem Cw(W0:LA)(v:vV)(G:GM)(h:aai)(hg:GR h v G):
  AC pG W0 34 [v] h fun x h'=>Le h h'/\((¬bX G/\x=.tuple #[.slice Y 0 0,.int .i64 20])\/(bX G/\∃bv,x=.tuple #[bv,.int .i64 0]/\RL PR h' bv (vq G.n.toNat G.es))):=by
 have cp:=hg;obtain⟨gn,es⟩:=G
 obtain⟨ev,rfl,hp⟩:=hg.open
 refine AC.vE ⟨func34,rfl,WY⟩ ntmps34 results34 fun cq=>?_;simp only[Br,seval];obtain⟨h1,b1,aK,dq,-,lA⟩:=r8 (n:=gn) cq hp
 generalize h.next=B at*
 have cx:=lA h1 (Le.refl _);simp only[HO,seval,b1,cx.1];refine TC.intro PJ ⟨func56,rfl,WY⟩ (qX W0 _ _ h1 (cp.le aK)) ?_;rintro x h2 bF ⟨bG,aL⟩;have al:=LG h2;obtain⟨h3,e3,l3,w3,o3⟩:=Tt bF [.slice Y 0 0];rw[e3]at al
 have nV:h2.own h2.next=Y:=(Le.refl h2).next bF (qL0 _)
 rcases aL with⟨hr,rfl⟩|⟨hr,L,ov,rfl,oL,nL,go,nb,ao⟩
 .have st:=QB (P:=pG) (t:=90) (x:=.slice Y 0 0) sU Ji o3 (off:=0) Ma rfl rfl;have d20:decide ((20:Int)=0)=fF:=by decide
  simp only[HO,seval,al,st,bne,d20];grind[Le.trans,Le.put]
 have h0:0<=gn:=hr.n0;obtain⟨n,rfl⟩:=Sb h0;have dm:(n:Int)<=200:=hr.n1;have dp:es.length<=594:=hr.len;have hR:=hr.GD;have R:=lowM_R hr.GD;simp only[Z6]at oL go ⊢;have hM:vq n es=(aaX (fun p _=>(hdM (Jz n es).1 (Jz n es).2 n).getD (pK (Jz n es).1 p) 0) es [] es.length).map (·.2):=rfl;generalize (Jz n es).1=ls at*;generalize (Jz n es).2=o at*;have dv:=R.Em;have st:=QB (P:=pG) (t:=90) (x:=sL (Z L) n n) sU Ji o3 (off:=0) Ma rfl rfl;have w4:=w3.put (.cells ([vV.slice Y 0 0].set 0 (sL (Z L) n n))) (w3.lt o3);have l4:=l3.put (.cells ([vV.slice Y 0 0].set 0 (sL (Z L) n n))) nV
 have aN:=aai.Y3 h3 h2.next (.cells ([vV.slice Y 0 0].set 0 (sL (Z L) n n)))
 simp only[qL200]at aN l4 w4 st;have lo:=fun g=>go.rl.DH g;rw[y6]at lo;simp only[HO,seval,al,st,bne];clear st al e3 o3 w3 l3
 generalize h3.put h2.next (.cells [sL (Z L) n n])=h4 at*
 generalize h2.next=S at*
 clear h3;have bH:=lA h4 (bG.trans l4);have mk:=Ye (P:=pG) (t:=28) (z:=.int .i64 0) h4 Mb rfl rfl rfl rfl Ji Ac Ji n NH;obtain⟨h5,e5,l5,w5,o5⟩:=Tt w4 (rP n (.int .i64 0));rw[e5]at mk
 have nC:h4.own h4.next=Y:=(Le.refl h4).next w4 (qL0 _)
 simp only[HO,seval,Ii,Ip,Gc,bH.2.1,mk,lo]
 generalize h4.next=C at*
 have bI:h5.own C=Z (.cells (Bp (rP n 0))):=by rw[o5];simp[Bp]
 have cz:=l4.own _ _ oL;have cC:=go.le l4;have aa:=fun(g:aai)(o:Le h4 g)=>(Fq (P:=pG) sU rfl (o.own _ _ aN) (off:=0):aaC pG g 90 ⟨S,0,Y⟩=_);simp only[Bn]at aa;have ae:∀(k:IntKind)(j:Nat),j<n->aao pG 28 (sL (Z C) n n) (.int k j)=Z (pT (Z ⟨C,j,Y⟩)):=fun k j hj=>by rw[Wc Mb Ac Ji j hj];simp[Ip]
 have bN:∀(g:aai)(c:RZ)(j:Nat),g.own C=Z (.cells (Bp c))->c.length=n->j<n->aaC pG g 3 ⟨C,j,Y⟩=Z (.int .i64 (c.getD j 0)):=fun g c j N hl hj=>by rw[Fq Ac rfl N,D4 NH];simp[Bp,CA (show j<c.length by omega)]
 refine aab.intro (fun k fr m=>∃(i:Nat),k=o.length-i/\i<=o.length/\fr=mkF [(1,pT (Z B)),(4,pT (Z S)),(7,sL (Z C) n n),(32,ov),(33,.int .i64 o.length),(34,i)]/\m.own C=Z (.cells (Bp ((o.take i).foldl (hdS ls) (rP n 0))))/\Le h4 m)
  o.length [(1,pT (Z B)),(4,pT (Z S)),(7,sL (Z C) n n),(32,ov),(33,.int .i64 o.length),(34,(0:Nat))] fD ⟨0,rfl,abe _,rfl,bI,l5⟩ ?_
 clear bI o5 w5 l5 e5 mk lo bH;clear h5;rintro k fr m aP ⟨i,rfl,hi,rfl,oC,leq⟩;have aT:((o.take i).foldl (hdS ls) (rP n 0)).length=n:=by grind[Cc]
 refine sSs ?_;refine Kl.intro (fun ht=>?_) (fun hf=>?_)
 .have d:i<o.length:=CC ht;clear ht;have bQ:=CA d;have ad:=go.rl.TA i (by rw[y6];exact d);have ld:=(cC.le leq).rl.Uc i (by rw[y6];exact d);rw[sY d]at ld;have cE:o.take (i+1)=o.take i++[o[i]]:=EL d;generalize o[i]=w at bQ ld cE;have O:=R.lt w (BS bQ);have gw:=V0 (ls:=ls) (v:=w) (by grind[LowR.len]);have A:(o.take (i+1)).foldl (hdS ls) (rP n 0)=hdS ls ((o.take i).foldl (hdS ls) (rP n 0)) w:=hGr;generalize (o.take i).foldl (hdS ls) (rP n 0)=H at*;have st1:=QB (P:=pG) (t:=3) (x:=w) Ac Ji oC (off:=w) (by simp[Bp];omega) rfl rfl;rw[yy]at st1;have r:=leq.put (.cells (Bp (H.set w (w:Int)))) nC;have ag:=aai.Y3 m C (.cells (Bp (H.set w (w:Int))));have bW:(H.set w (w:Int)).length=n:=hGr;generalize m.put C (.cells (Bp (H.set w (w:Int))))=h6 at*;have T:=r.own _ _ cz;simp only[HO,seval,ad,ld,ae _ w O,st1,aa h6 r,Is w O,fl1,Ip,lUp T gw];by_cases c1:0<=(Ro ls w).2.1
  .obtain⟨u,s⟩:=Sb c1;have ai:u<n:=by have:=R.up w O;omega
   have gu:=V0 (ls:=ls) (v:=u) (by grind[LowR.len]);have d1:decide ((u:Int)>=0)=tT:=qL7 NH;by_cases c2:(Ro ls w).2.2<(Ro ls u).1
   .have d2:decide ((Ro ls w).2.2<(Ro ls u).1)=tT:=qL7 c2;have hE:hdS ls H w=(H.set w (w:Int)).set w ((H.set w (w:Int)).getD u 0):=by grind[hdS,Int.toNat_natCast]
    have st:=QB (P:=pG) (t:=3) (x:=.int .i64 ((H.set w (w:Int)).getD u 0)) Ac Ji ag (off:=w) (by simp[Bp];omega) rfl rfl;rw[yy,<-hE,<-A]at st;simp only[s];refine gh (tA [0,1,2,3,4,5,6,7,8,9,10,11,12,13,14] .done) ?_;simp only[HO,seval,Qg,d1,d2,aa h6 r,Is w O,Is u ai,fl0,fl2,Ip,Ki,lLow T gw,Nh T gu,ae _ u ai,ae _ w O,bN h6 _ u ag bW ai,st,aaa i NH];exact tn (o.length-(i+1)) [(1,pT (Z B)),(4,pT (Z S)),(7,sL (Z C) n n),(32,ov),(33,.int .i64 o.length),(34,(i+1:Nat))] NH fD ⟨i+1,rfl,d,rfl,aai.Y3 _ _ _,r.put _ nC⟩
   .have d2:decide ((Ro ls w).2.2<(Ro ls u).1)=fF:=WA c2;have hE:hdS ls H w=H.set w (w:Int):=by grind[hdS,Int.toNat_natCast]
    simp only[s];refine gh (tA [0,1,2,3,4,5,6,7,8,9,10,11,12,13,14] .done) ?_;simp only[HO,seval,Qg,d1,d2,aa h6 r,Is w O,Is u ai,fl0,fl2,Ip,Ki,lLow T gw,Nh T gu,aaa i NH];exact tn (o.length-(i+1)) [(1,pT (Z B)),(4,pT (Z S)),(7,sL (Z C) n n),(32,ov),(33,.int .i64 o.length),(34,(i+1:Nat))] NH fD ⟨i+1,rfl,d,rfl,by rw[A,hE];exact ag,r⟩
  .have d1:decide ((Ro ls w).2.1>=0)=fF:=WA c1;have hE:hdS ls H w=H.set w (w:Int):=by grind[hdS]
   refine gh (tA [0,1,2,3,4,5,6,7,8,9,10,11,12,13,14] .done) ?_;simp only[HO,seval,Qg,d1,aaa i NH];exact tn (o.length-(i+1)) [(1,pT (Z B)),(4,pT (Z S)),(7,sL (Z C) n n),(32,ov),(33,.int .i64 o.length),(34,(i+1:Nat))] NH fD ⟨i+1,rfl,d,rfl,by rw[A,hE];exact ag,r⟩
 have aW:o.length<=i:=vp hf;rw[HV aW]at oC aT;have bY:o.foldl (hdS ls) (rP n 0)=hdM ls o n:=rfl;rw[bY]at oC aT;rw[hM];clear hM bY;generalize hdM ls o n=H at*
 obtain⟨Q,e7,y,U,o7⟩:∃Q,m.alloc (.map [])=Q/\Le m Q/\WF Q/\Q.own m.next=Z (.map []):=⟨_,rfl,(Le.refl m).alloc aP _,aP.alloc _,aai.zT _ _⟩
 obtain⟨h8,e8,aj,cJ,o8⟩:=Tt U []
 have bZ:aas pG Q 28 0 []=Z (sL (Z ⟨Q.next,0,Y⟩) 0 0,h8):=by rw[<-e8];rfl
 have nM:m.own m.next=Y:=(Le.refl m).next aP (qL0 _)
 have nD:m.own Q.next=Y:=y.next U (qL0 _)
 have b0:Q.next≠m.next:=fun e=>by have:=U.lt o7;omega
 have V:=bG.trans (l4.trans leq);have b2:=lA h8 (V.trans (y.trans aj));have ll:=fun g=>hp.len g;simp only[HO,seval,e7,bZ,Di,Ip,Gc,b2.2.2,ll];have b3:=aj.own _ _ o7
 generalize m.next=M at*
 generalize Q.next=D at*
 have cK:=hp.le (aK.trans V);have cM:=(l4.trans leq).own _ _ oL;have cN:=leq.own _ _ aN;generalize cP:(fun(p:Pr)(_:Nat)=>H.getD (pK ls p) 0)=fr at*;have R0:aaE m h8 M [] (aaX fr es [] 0):=⟨b3,rfl,fun j u g s=>by simp at s,fun j u s=>by simp at s,fun j k u u' b _ s=>by simp at s,fun j u s=>by simp at s,y.trans aj,nM⟩;have gC:GI h8 (sL (Z D) 0 0) (Ea (aaX fr es [] 0)):=GS.full o8 rfl WY;refine aab.intro (fun k W hh=>∃(i:Nat)(cv:vV)(us:xLV),k=es.length-i/\i<=es.length/\W=mkF [(7,sL (Z C) n n),(11,.func (.func 57) #[] #[pT (Z S)]),(12,.map (Z M)),(13,cv),(74,ev),(75,es.length),(76,i)]/\
   aaE m hh M us (aaX fr es [] i)/\GI hh cv (Ea (aaX fr es [] i))/\blk cv≠Z M/\(∀(j:Nat) u b,us[j]?=Z u->blk u=Z b->blk cv≠Z b)/\Z2 m cv)
  es.length [(7,sL (Z C) n n),(11,.func (.func 57) #[] #[pT (Z S)]),(12,.map (Z M)),(13,sL (Z D) 0 0),(74,ev),(75,es.length),(76,(0:Nat))] fD
  ⟨0,_,[],rfl,abe _,rfl,R0,gC,by grind[blk],fun j u b s=>by simp at s,fun b hb=>by grind[blk]⟩ ?_
 clear R0 gC b3 b2 nD b0 bZ o8 cJ aj e8 o7 U y e7;rintro k W hh aq ⟨i,cv,us,rfl,hi,rfl,Rg,gc,nc,dc,ac⟩;have aX:=Rg.le;refine sSs ?_;refine Kl.intro (fun ht=>?_) (fun hf=>?_)
 rotate_left
 .have aW:es.length<=i:=vp hf;obtain rfl:i=es.length:=NH;obtain⟨nd,b4,aD,cR,b5⟩:=Pt fr es [] es.length;generalize a6:aaX fr es [] es.length=gs at*;have lc:=fun g=>gc.rl.DH g;have b6:(Ea gs).length=gs.length:=by simp[Ea]
  rw[b6]at lc;have mk:=Ye (P:=pG) (t:=64) (z:=.slice Y 0 0) hh zj B9 rfl rfl rfl Ji eY Ji gs.length NH;obtain⟨h9,e9,I,ar,o9⟩:=Tt aq (rP gs.length (.slice Y 0 0));rw[e9]at mk
  have nF:hh.own hh.next=Y:=(Le.refl hh).next aq (qL0 _)
  generalize hh.next=F at*
  simp only[HO,seval,lc,mk];refine aab.intro (fun k W hz=>∃(j:Nat)(cs:xLV),k=gs.length-j/\j<=gs.length/\W=mkF [(12,.map (Z M)),(17,sL (Z F) gs.length gs.length),(107,cv),(108,gs.length),(109,.int .i64 j)]/\
    Le hh hz/\hz.own F=Z (.cells cs)/\cs.length=gs.length/\∀(a:Nat) g,a<j->gs[a]?=Z g->∃x,cs[a]?=Z x/\PR hh x g.2)
   gs.length [(12,.map (Z M)),(17,sL (Z F) gs.length gs.length),(107,cv),(108,gs.length),(109,(0:Nat))] fD
   ⟨0,_,rfl,abe _,rfl,I,o9,Ma,NH⟩ ?_
  clear e9 o9 ar I mk;clear h9;rintro k W hz dw ⟨j,cs,rfl,hj,rfl,av,oF,dy,a7⟩;refine sSs ?_;refine Kl.intro (fun ht=>?_) (fun hf=>?_)
  rotate_left
  .have aW:gs.length<=j:=vp hf;refine sSs ?_;refine⟨(aK.trans V).trans (aX.trans av),.inr ⟨hr,_,rfl,cs,?_,(by grind),fun a f u ha s=>?_⟩⟩
   .grind[RS.whole]
   .rw[MY]at ha;cases b8:gs[a]? with
    |none=>grind
    |some g=>grind[PR.le]
  have a8:j<gs.length:=CC ht;clear ht;have b9:=CA a8;generalize gs[j]=g at b9;obtain⟨f,l⟩:=g;have cc:(Ea gs)[j]?=Z f:=by grind[Ea]
  have cd:=(Ny.1 cc).1;have cU:=gc.rl.TA j cd;have cf:=(gc.rl.le Nn.RP av).Uc j cd;rw[(Ny.1 cc).2]at cf;have Rz:=Rg.up av;obtain⟨u,cW,bb⟩:=Rg.look f;rw[NI nd b9]at bb;have s:abB pG hz 96 (.map (Z M)) (.int .i64 f) fF=Z u:=by rw[<-cW];simp only[abB,KT,Ac,Rz.oM,Rg.oM]
  have cZ:∀k:IntKind,aao pG 64 (sL (Z F) gs.length gs.length) (.int k j)=Z (pT (Z ⟨F,j,Y⟩)):=fun k=>by rw[Wc zj eY Ji j a8];simp[Ip]
  have stF:=QB (P:=pG) (t:=22) (x:=u) eY Ji oF (off:=j) NH (xO.cells bb.pr.sl) (xO.one bb.pr.sl);simp only[HO,seval,cU,cf,s,cZ,stF,aaa j NH];refine tn (gs.length-(j+1)) [(12,.map (Z M)),(17,sL (Z F) gs.length gs.length),(107,cv),(108,gs.length),(109,(j+1:Nat))] NH fD
   ⟨j+1,cs.set j u,rfl,a8,rfl,av.put _ nF,aai.Y3 _ _ _,(by grind),fun a g ha b8=>?_⟩
  by_cases e:a=j
  .grind[GP.pr]
  .obtain⟨x',q1,q2⟩:=a7 a g NH b8;grind
 have d:i<es.length:=CC ht;clear ht;have ay:=CA d;generalize es[i]=p at ay;have c0:=BS ay;have aF:=hR p c0;have c3:=cK.le aX;have ad:=hp.addr (k:=.i64) i d;have ld:=c3.load ay;obtain⟨a,c⟩:=p;simp only at aF;obtain⟨a,rfl⟩:=Sb aF.1;obtain⟨c,rfl⟩:=Sb (show 0<=c by omega);obtain⟨dz,Q,e7,c4,y,U,o7⟩:=Ut aq ((a:Int),(c:Int))
 have cg:hh.own hh.next=Y:=(Le.refl hh).next aq (qL0 _)
 have X:=aX.trans y;have R7:=Rg.up y;have c5:=gc.le y
 have dA:hh.next≠M:=fun e=>by have:=Rg.oM;grind
 have c6:blk cv≠Z hh.next:=fun e=>GS.Sy gc e cg
 have dB:∀(j:Nat) u,us[j]?=Z u->blk u≠Z hh.next:=fun j u s e=>by have a6:∃q,(aaX fr es [] i)[j]?=Z q:=⟨_,CA (by grind[aaE.len])⟩;obtain⟨q,m⟩:=a6;exact GS.Sy (Rg.gp j u q s m) e cg
 generalize hh.next=E at*
 have c9:=uM o7;simp only[HO,seval,ad,ld,e7,c4,c9];refine TC.intro PJ ⟨func57,rfl,WY⟩ (lower_any W0 n L S a c ls Q R.len (X.own _ _ cN) (X.own _ _ cM) NH NH) ?_;rintro x h9 ar ⟨rfl,I⟩;have hle:pK ls ((a:Int),(c:Int))<n:=by grind[pK]
 have aH:=X.trans I;have R9:=R7.up I;have bg:=c5.le I;have o9:=I.own _ _ o7;have bh:=bN h9 H _ (aH.own _ _ oC) aT hle;have c1:((a:Int),(c:Int))∉([]:xLP):=by simp
 obtain⟨nd,b4,aD,cR,b5⟩:=Pt fr es [] i;have aJ:=dh (fr:=fr) ay c1;have da:fr ((a:Int),(c:Int)) i=H.getD (pK ls ((a:Int),(c:Int))) 0:=by rw[<-cP]
 rw[<-da]at bh;have K:=RY (aaX fr es [] i) (fr ((a:Int),(c:Int)) i) ((a:Int),(c:Int));have ck:=rV (f:=fr ((a:Int),(c:Int)) i) b4;have dE:=Ft (fr ((a:Int),(c:Int)) i) _ _ aD;have cm:=ae .i64 _ hle;generalize a6:aaX fr es [] i=gs at*;generalize fr ((a:Int),(c:Int)) i=f at*;generalize pK ls ((a:Int),(c:Int))=lw at*;have b6:(Ea gs).length<=1000:=by grind[Ea]
 obtain⟨u,s,gu⟩:=R9.look f;have lu:=fun g=>gu.pr.len g;have bk:∀(j:Nat) a b,us[j]?=Z a->blk a=Z b->∃o,h9.own b=Z o:=fun j a b ha hb=>by have m:∃q,gs[j]?=Z q:=⟨_,CA (by rw[<-R9.len];grind)⟩;obtain⟨q,m⟩:=m;exact VU.1 (GS.Sy (R9.gp j a q ha m) hb)
 by_cases c2:acU gs f=[]
 .have db:∀g,aeh pG g 22 u=Z (.int .i64 0):=fun g=>by rw[lu g,c2];rfl
  have dd:f∉Ea gs:=fun hm=>ck.1 hm c2;rw[yM dd]at K;obtain⟨az,g4,g5,e4,e5,bm,w5,l4,de,aC⟩:=bg.push ar f NH;obtain⟨l5,a5⟩:=de m aH ac;have R5:aaE m g5 M us gs:=R9.keep l5 fun b o N hb=>(aC b o N (by
   rcases hb with rfl|⟨j,a,ha,hb⟩
   .exact nc
   grind)).1
  obtain⟨dg,dF⟩:=aC E _ o9 c6;have bo:=(aC M _ R9.oM nc).2;obtain⟨u2,dj,q4,q5,q6,br,eu,eb,ea,em,Rn,wn,dk,kq⟩:=R5.push w5 f ((a:Int),(c:Int)) (by rw[c2];simp);have bx:=uM dg;rw[<-K]at bm;have ku:∀(j:Nat) a b,us[j]?=Z a->blk a=Z b->blk az≠Z b:=fun j a b ha hb=>by obtain⟨o,N⟩:=bk j a b ha hb;exact(aC b o N (dc j a b ha hb)).2
  have bB:GI q6 az (Ea (ab4 gs f ((a:Int),(c:Int)))):=GS.kept bm fun b o hb N=>(kq b o N (fun e=>bo (by grind)) (fun j a ha J=>ku j a b ha J hb)).2.1;simp only[HO,seval,cm,bh,s,db,e4,e5,eu,bx,eb,ea,em,aaa i NH];refine tn (es.length-(i+1)) [(7,sL (Z C) n n),(11,.func (.func 57) #[] #[pT (Z S)]),(12,.map (Z M)),(13,az),(74,ev),(75,es.length),(76,(i+1:Nat))] NH fD
   ⟨i+1,az,br,rfl,d,rfl,?_⟩
  rw[aJ];refine⟨Rn,bB,bo,fun j a b ha hb hc=>?_,a5⟩;obtain⟨o,N⟩:=VU.1 (GS.Sy bm hc);exact(kq b o N (fun e=>bo (by grind)) (fun j a ha J=>ku j a b ha J hc)).2.2 j a ha hb
 .have hz:(((acU gs f).length:Nat):Int)≠0:=by grind[List.length_eq_zero_iff]
  rw[IE (ck.2 c2)]at K;obtain⟨u2,dj,q4,q5,q6,br,eu,eb,ea,em,Rn,wn,dk,kq⟩:=R9.push ar f ((a:Int),(c:Int)) NH;obtain rfl:u=u2:=hGr;have bx:=uM o9;have bB:GI q6 cv (Ea (ab4 gs f ((a:Int),(c:Int)))):=by rw[K];exact GS.kept bg fun b o hb N=>(kq b o N (fun e=>nc (by grind)) (fun j a ha J=>dc j a b ha J hb)).2.1
  simp only[HO,seval,cm,bh,s,lu,eq_false hz,bx,eb,ea,em,aaa i NH];refine tn (es.length-(i+1)) [(7,sL (Z C) n n),(11,.func (.func 57) #[] #[pT (Z S)]),(12,.map (Z M)),(13,cv),(74,ev),(75,es.length),(76,(i+1:Nat))] NH fD
   ⟨i+1,cv,br,rfl,d,rfl,?_⟩
  rw[aJ];refine⟨Rn,bB,nc,fun j a b ha hb hc=>?_,ac⟩;obtain⟨o,N⟩:=VU.1 (GS.Sy bg hc);exact(kq b o N (fun e=>nc (by grind)) (fun j a ha J=>dc j a b ha J hc)).2.2 j a ha hb
variable {a b c u v:Nat} {ls:List Lw} {num:Nat->Nat} {o:II} {up:Nat->Option Nat} {α:Type}
def low_lt(S:aay n es ls o num up)(a:v<n)(c:up v=Z u):((Ro ls v).2.2<(Ro ls u).1↔ym es num up u v):=by have b:=((S.fo.Kd v u a c).1.lt S.fo.rD).1;obtain⟨x,d,h2⟩:=S.low v a;rw[d,S.fO u b,<-S.fo.low_bey a c h2];omega
theorem up_of(S:aay n es ls o num up)(a:v<n):(0<=(Ro ls v).2.1/\∃u,up v=Z u/\(Ro ls v).2.1=(u:Int))\/(¬0<=(Ro ls v).2.1/\up v=Y):=by
 by_cases c:0<=(Ro ls v).2.1
 .obtain⟨u,b⟩:=Sb c;exact .inl ⟨c,u,by rw[<-S.ups v a,b,acm],b⟩
 .exact .inr ⟨c,by rw[<-S.ups v a];grind[upI]⟩
def Cl(n:Nat)(es:xLP)(v:Nat):Nat:=((hdM (Jz n es).1 (Jz n es).2 n).getD v 0).toNat
theorem hd_fold(S:aay n es ls o num up):∀k,k<=n->
  ∃hd:Nat->Nat,(∀(j v:Nat),j<k->o[j]?=Z v->((o.take k).foldl (hdS ls) (rP n 0)).getD v 0=(hd v:Int)/\
   (up v=Y->hd v=v)/\(∀u,up v=Z u->ym es num up u v->hd v=hd u)/\(∀u,up v=Z u->¬ym es num up u v->hd v=v)):=by
 intro k
 induction k with
 |zero=>intro _;exact⟨id,hGr⟩
 |succ k D=>
  intro J;obtain⟨hd,H⟩:=D NH;have h:k<o.length:=by rw[S.Em];omega
  have r:o.take (k+1)=o.take k++[o[k]]:=EL h;have a:=CA h;generalize o[k]=w at r a;have b:=(S.mem w).1 (BS a);have K:((o.take k).foldl (hdS ls) (rP n 0)).length=n:=by grind[Cc]
  have d:(o.take (k+1)).foldl (hdS ls) (rP n 0)=hdS ls ((o.take k).foldl (hdS ls) (rP n 0)) w:=hGr;rw[d];generalize (o.take k).foldl (hdS ls) (rP n 0)=L at*;have s:∀(j v:Nat),j<k->o[j]?=Z v->v≠w:=fun j v B g e=>by grind[List.getElem?_inj,aay.nd]
  have t:∀u,up w=Z u->∃j,j<k/\o[j]?=Z u:=fun u f=>by obtain⟨C,h2⟩:=S.fo.Kd w u b f;obtain⟨j,B⟩:=vZ.1 ((S.mem u).2 (C.lt S.fo.rD).1);grind[aay.ord]
  let x:Nat:=match up w with
   |none=>w
   |some u=>if 0<=(Ro ls w).2.1/\(Ro ls w).2.2<(Ro ls (Ro ls w).2.1.toNat).1 then hd u else w
  have E:(hdS ls L w).getD w 0=(x:Int)/\(∀v,v≠w->(hdS ls L w).getD v 0=L.getD v 0)/\(up w=Y->x=w)/\(∀u,up w=Z u->ym es num up u w->x=hd u)/\(∀u,up w=Z u->¬ym es num up u w->x=w):=by
   rcases up_of S b with⟨c,u,f,F⟩|⟨c,f⟩
   .have p:x=if 0<=(Ro ls w).2.1/\(Ro ls w).2.2<(Ro ls (Ro ls w).2.1.toNat).1 then hd u else w:=hGr
    have hb:=low_lt S b f;by_cases q:ym es num up u w
    .have i:0<=(Ro ls w).2.1/\(Ro ls w).2.2<(Ro ls (Ro ls w).2.1.toNat).1:=by grind[Int.toNat_natCast]
     obtain⟨j,l,m⟩:=t u f;have y:=(H j u l m).1;have G:=s j u l m;rw[p,IE i];refine⟨?_,fun v g=>?_,hGr,hGr,hGr⟩
     .unfold hdS;rw[IE i,cA,IE hGr,F,Z6,cA,yM hGr];exact y
     .unfold hdS;rw[IE i,cA,yM hGr,cA,yM hGr]
    .have i:¬(0<=(Ro ls w).2.1/\(Ro ls w).2.2<(Ro ls (Ro ls w).2.1.toNat).1):=by grind[Int.toNat_natCast]
     rw[p,yM i];refine⟨?_,fun v g=>?_,fun _=>rfl,hGr,fun u' e _=>rfl⟩
     .grind[hdS]
     grind[hdS]
   .have p:x=w:=hGr;rw[p];refine⟨?_,fun v g=>?_,fun _=>rfl,hGr,hGr⟩
    .grind[hdS]
    grind[hdS]
  obtain⟨M,N,O,P,Q⟩:=E
  refine⟨fun v=>if v=w then x else hd v,fun j v B g=>?_⟩
  by_cases e:v=w
  .grind
  .have z:j<k:=hGr;obtain⟨C,h2,h3,I⟩:=H j v z g;simp only[yM e];refine⟨hGr,h2,fun u f hb=>?_,I⟩;have A:=(S.mem v).1 (BS g);obtain⟨R,T⟩:=S.fo.Kd v u A f;have:u≠w:=by grind[aay.ord]
   grind
theorem FY(S:aay n es (Jz n es).1 (Jz n es).2 num up):Fo.abi n es num up (Cl n es)/\∀v,v<n->(hdM (Jz n es).1 (Jz n es).2 n).getD v 0=(Cl n es v:Int):=by
 obtain⟨hd,H⟩:=hd_fold S n (qL0 _);rw[HV (by grind[aay.Em])]at H;have ex:∀v,v<n->∃j,j<n/\(Jz n es).2[j]?=Z v:=fun v a=>by obtain⟨j,d⟩:=vZ.1 ((S.mem v).2 a);grind[aay.Em]
 have e:∀v,v<n->Cl n es v=hd v:=by grind[Cl,hdM]
 have ev:∀v,v<n->(hdM (Jz n es).1 (Jz n es).2 n).getD v 0=(Cl n es v:Int):=fun v a=>by obtain⟨j,c,h2⟩:=ex v a;have:=(H j v c h2).1;rw[e v a];exact this
 refine⟨⟨fun v a b=>?_,fun v u a b hb=>?_,fun v u a b hb=>?_⟩,ev⟩
 .grind
 .rw[e v a,e u ((S.fo.Kd v u a b).1.lt S.fo.rD).1];grind
 grind
theorem keyE_hd(S:aay n es (Jz n es).1 (Jz n es).2 num up)(ha:a<n)(d:c<n):cQ n es ((a:Int),(c:Int))=(Cl n es (Fo.lower num a c):Int):=by
 have e:pK (Jz n es).1 ((a:Int),(c:Int))=Fo.lower num a c:=by simp only[pK,Z6,Fo.lower,S.fO a ha,S.fO c d];grind
 have b:Fo.lower num a c<n:=by grind[Fo.lower]
 rw[cQ,e,(FY S).2 _ b]
theorem Ab(h:num a≠num b):Fo.lower num a b=Fo.lower num b a:=by grind[Fo.lower]
theorem jm(S:aay n es (Jz n es).1 (Jz n es).2 num up)(h:Jp es a b):cQ n es (GW a b)=(Cl n es (Fo.lower num a b):Int):=by have c:=S.fo.JD h;have d:=h.lt S.fo.rD;grind[bj,keyE_hd,Ab]
theorem dR(c:aV n es)(ha:Jp es v a)(hb:Jp es v b):cQ n es (GW v a)=cQ n es (GW v b)↔Cn (wo v) es a b:=by obtain⟨num,up,S⟩:=Ob c;rw[jm S ha,jm S hb,<-S.fo.Hp (FY S).1 ha hb];grind
theorem adg(k:aV n es)(of:Pr->α)(j:∀v a b,Jp es v a->Jp es v b->Cn (wo v) es a b->of (GW v a)=of (GW v b)){p q:Pr}(i:p∈es)(l:q∈es)(h:cQ n es p=cQ n es q):of p=of q:=by
 obtain⟨num,up,S⟩:=Ob k;have ex:∀p∈es,∃a b:Nat,Jp es a b/\p=GW a b:=fun p i=>by have e:=k p i;obtain⟨x,y⟩:=p;obtain⟨a,rfl⟩:=Sb e.1;obtain⟨c,rfl⟩:=Sb (show 0<=y by omega);exact⟨a,c,.inl i,by unfold GW;rw[Int.min_eq_left NH,Int.max_eq_right NH]⟩
 obtain⟨a,b,f,rfl⟩:=ex p i;obtain⟨c,d,g,rfl⟩:=ex q l;rw[jm S f,jm S g]at h;exact S.fo.link2 (FY S).1 (fun x y=>of (GW x y)) (by grind[so]) j f g (Int.ofNat.inj h)
def fkS(key:Pr->Int)(ks:RZ)(p:Pr):RZ:=if key p∈ks then ks else ks++[key p]
def CY(key:Pr->Int)(es:xLP):RZ:=es.foldl (fkS key) []
def Mr(key:Pr->Int)(es:xLP)(p:Pr):CY key (es++[p])=fkS key (CY key es) p:=by simp[CY]
theorem ahE(key:Pr->Int):∀(k:Nat)(es:xLP),es.length=k->(CY key es).Nodup/\∀x,x∈CY key es↔∃p∈es,key p=x:=by
 intro k
 induction k with
 |zero=>grind[CY]
 |succ k b=>
  intro es h;obtain⟨es,p,rfl⟩:∃a p,es=a++[p]:=by
   rcases gK es with rfl|⟨a,p,h'⟩
   all_goals grind
  rw[Mr];unfold fkS;by_cases q:key p∈CY key es
  .grind
  .refine⟨?_,fun x=>?_⟩
   .grind
   grind
theorem HK(F:Int->xLP)(f:Int)(p:Pr):∀(ks:RZ),ks.Nodup->ab4 (ks.map fun k=>(k,F k)) f p=if f∈ks then ks.map (fun k=>(k,if k=f then F k++[p]else F k))else ks.map (fun k=>(k,F k))++[(f,[p])]
 |[],_=>by simp[ab4]
 |k::ks,a=>by rw[jz]at a;have b:=HK F f p ks a.2;grind[ab4,List.map_congr_left]
theorem ba(key:Pr->Int)(es:xLP):∀m,m<=es.length->aaX (fun p _=>key p) es [] m=(CY key (es.take m)).map fun k=>(k,(es.take m).filter fun p=>decide (key p=k))
 |0,_=>by simp[aaX,CY]
 |m+1,h=>by
  have b:m<es.length:=h;have c:=CA b;have a:es.take (m+1)=es.take m++[es[m]]:=EL b;generalize es[m]=p at c a;obtain⟨d,h2⟩:=ahE key _ (es.take m) rfl;rw[dh c Ma,ba key es m NH,HK _ _ _ _ d,a,Mr];unfold fkS;by_cases q:key p∈CY key (es.take m)
  .grind
  .rw[yM q,yM q,Bx];congr 1
   .grind[List.map_congr_left]
   grind[List.filter_eq_nil_iff]
theorem aaB(n:Nat)(es:xLP):vq n es=(CY (cQ n es) es).map fun k=>es.filter fun p=>decide (cQ n es p=k):=by rw[vq,ba _ _ _ (qL0 _),dr,FD];rfl
theorem fk_first(key:Pr->Int):∀(k:Nat)(es:xLP),es.length=k->∀(i j:Nat) a b,i<j->(CY key es)[i]?=Z a->(CY key es)[j]?=Z b->∃(x:Nat)(p:Pr),es[x]?=Z p/\key p=a/\∀(y:Nat) q,es[y]?=Z q->key q=b->x<y:=by
 intro k
 induction k with
 |zero=>grind[CY]
 |succ k l=>
  intro es h i j a b f hi d;obtain⟨es,p,rfl⟩:∃g p,es=g++[p]:=by
   rcases gK es with rfl|⟨g,p,h'⟩
   all_goals grind
  have l:=l es (by simpa using h);obtain⟨z,h2⟩:=ahE key _ es rfl;rw[Mr]at hi d;have lift:∀a b,(∃(x:Nat)(p:Pr),es[x]?=Z p/\key p=a/\∀(y:Nat) q,es[y]?=Z q->key q=b->x<y)->∃(x:Nat)(r:Pr),(es++[p])[x]?=Z r/\key r=a/\∀(y:Nat) q,(es++[p])[y]?=Z q->key q=b->x<y:=by
   rintro a b ⟨x,r,t,u,e3⟩;have o:=(Ny.1 t).1;refine⟨x,r,hGr,u,fun y q m A=>?_⟩;by_cases c:y<es.length
   .grind
   .omega
  unfold fkS at hi d;by_cases q:key p∈CY key es
  .rw[IE q]at hi d;exact lift a b (l i j a b f hi d)
  .rw[yM q]at hi d;rcases abz j (CY key es).length with c|c
   .rw[iy c]at d;rw[iy NH]at hi;exact lift a b (l i j a b f hi d)
   .have n:=(Ny.1 d).1;simp at n;have:j=(CY key es).length:=NH;subst this;simp at d;subst d;rw[iy f]at hi;obtain⟨r,v,e⟩:=(h2 a).1 (BS hi);obtain⟨x,o⟩:=vZ.1 v;have w:=(Ny.1 o).1;refine⟨x,r,hGr,e,fun y s m hs=>?_⟩;by_cases c:y<es.length
    .rw[iy c]at m;exact absurd ((h2 _).2 ⟨s,BS m,hs⟩) q
    .omega
open Classical in
theorem Mo{n:Nat}{es:xLP}{ls:List Lw}{o:II}{num:Nat->Nat}{up:Nat->Option Nat}(S:aay n es ls o num up)(v:Nat)(d:v<n):∀(l:II),(∀x∈l,x<n)->∀c:RZ,c.length=n->
  (l.foldl (zD ls) c).getD v 0=c.getD v 0+((l.filter fun x=>decide (up x=Z v/\¬ym es num up v x)).length:Int)
 |[],_,c,_=>by simp
 |w::l,e,c,f=>by
  have a:=e w Ma;rw[Dj,Mo S v d l hGr _ (by grind[AX])]
  have key:(zD ls c w).getD v 0=c.getD v 0+if up w=Z v/\¬ym es num up v w then 1 else 0:=by
   rcases up_of S a with⟨h,u,b,g⟩|⟨h,b⟩
   .have hb:=low_lt S a b;unfold zD;by_cases q:ym es num up u w
    .grind
    grind
   grind[zD]
  grind
theorem Cv(s:aV n es){v:Nat}(o:v<n):isCut (Jz n es).1 (cntM (Jz n es).1 (Jz n es).2 n) v=tT↔Fo.Cut2 es v:=by
 classical
 obtain⟨num,up,S⟩:=Ob s;rw[S.fo.cut_iff v o];have q:=Mo S v o (Jz n es).2 (fun x t=>(S.mem x).1 t) (rP n 0) Ma;have u:(rP n (0:Int)).getD v 0=0:=hGr;rw[u,Int.zero_add]at q;have b:=S.nd.sublist (N8 (p:=fun x=>decide (up x=Z v/\¬ym es num up v x)));have a:∀x,x∈(Jz n es).2.filter (fun x=>decide (up x=Z v/\¬ym es num up v x))↔x<n/\up x=Z v/\¬ym es num up v x:=fun x=>by rw[Uz,S.mem,uV]
 have e:(Ro (Jz n es).1 v).2.1>=0↔up v≠Y:=by grind[up_of]
 have j:cntM (Jz n es).1 (Jz n es).2 n=(Jz n es).2.foldl (zD (Jz n es).1) (rP n 0):=rfl;simp only[isCut,ai7,zx,uV,j,q,e];generalize (Jz n es).2.filter (fun x=>decide (up x=Z v/\¬ym es num up v x))=L at*;constructor
 .rintro(h|⟨w,h2⟩)
  .match L,h,b,a with
   |[],h,_,_=>simp at h
   |[_],h,_,_=>simp at h
   |x::y::r,_,b,a=>obtain⟨a1,a2,z⟩:=(a x).1 Ma;obtain⟨A,B,C⟩:=(a y).1 Ma;grind
  .match L,w,a with
   |[],h,_=>simp at h
   |x::r,_,a=>obtain⟨a1,a2,z⟩:=(a x).1 Ma;grind
 .rintro(⟨c,d,f,k,ne,g,l,i,m⟩|⟨c,f,g,i,D⟩)
  .have m1:=(a c).2 ⟨f,g,i⟩;have m2:=(a d).2 ⟨k,l,m⟩;left
   match L,m1,m2 with
   |[],m1,_=>simp at m1
   |[x],m1,m2=>grind
   |x::y::r,_,_=>grind
  grind
theorem OI(a:aV n es)(v:Nat):v∈JL n es↔v<n/\Fo.Cut2 es v:=by grind[JL.eq_1,Cv]
theorem aiv:∀(a b:xLP),a.Pairwise (fun x y=>x.1<y.1\/x.1=y.1/\x.2<y.2)->b.Pairwise (fun x y=>x.1<y.1\/x.1=y.1/\x.2<y.2)->(∀x,x∈a↔x∈b)->a=b
 |[],[],_,_,_=>rfl
 |[],y::b,_,_,h=>by have:=(h y).2 Ma;simp at this
 |x::a,[],_,_,h=>by have:=(h x).1 Ma;simp at this
 |x::a,y::b,ha,hb,h=>by rw[acg]at ha hb;have e:x=y:=hGr;subst e;rw[aiv a b ha.2 hb.2 fun z=>?_];grind
attribute [local instance] Classical.propDecidable
def ZH(l:II):xLP:=(rG l.length).map fun i=>GW (l.getD i 0) (l.getD ((i+1)%l.length) 0)
theorem dN{l:II}(nd:l.Nodup){j:Nat}(a:j<l.length):nx l (l.getD j 0)=l.getD ((j+1)%l.length) 0:=by grind[ajw]
theorem mem_ringW{l:II}(nd:l.Nodup){v w:Nat}:GW v w∈ZH l↔Ei l v w:=by
 unfold ZH;rw[Eh];constructor
 .rintro⟨i,hi,e⟩;rw[K4]at hi;have c:l.getD i 0∈l:=hGr;rcases Dc e with⟨a,h2⟩|⟨a,h2⟩
  .rw[<-a,<-h2];exact .inl (by grind[dN])
  .rw[<-a,<-h2];exact .inr (by grind[dN])
 .have go:∀{v w},v∈l->nx l v=w->∃i∈rG l.length,GW (l.getD i 0) (l.getD ((i+1)%l.length) 0)=GW v w:=fun{v w} b e=>by
   obtain⟨i,hi,rfl⟩:=Q4.1 b;refine⟨i,K4.2 hi,?_⟩;grind[dN]
  rintro(⟨a,h2⟩|⟨a,h2⟩)
  all_goals grind[so]
structure Ho (n:Nat) (es:xLP) (l:II):Prop where
 nd:l.Nodup
 h3:3<=l.length
 Jp:∀v∈l,Jp es v (nx l v)
noncomputable def Mw(n:Nat)(es:xLP)(l:II)(L:RZ):ShM:=⟨tV (rP n fF) l,[l,l.reverse],(LJ n es (aa5 (ZH l)) L).map fun f=>⟨f.zp,f.Fm,zh [l,l.reverse] f.Fm [0,1]⟩⟩
section
variable{n:Nat}{es:List Pr}{l:II}{L:RZ}
theorem Ho.lt(R:Ho n es l)(hR:aV n es){v:Nat}(a:v∈l):v<n:=((R.Jp v a).lt hR).1
theorem Ho.ik(R:Ho n es l)(hR:aV n es){e:Pr}(a:e∈ZH l):e∈es:=by grind[ZH,dN,Ho.nd,T0,Ho.Jp]
theorem Ho.nodup(R:Ho n es l):(ZH l).Nodup:=by unfold ZH;rw[Gw,vY];refine(Gw.1 AQ).imp_of_mem fun{i j} hi b a e=>?_;grind[dN,Ho.nd,Dc,List.getElem_inj,fz,Ho.h3,c7]
theorem Ho.web(R:Ho n es l)(hR:aV n es):CU es (aa5 (ZH l)):=by refine⟨fun i p q hi a=>?_,(by grind[Ho.ik,Wb])⟩;have b:=VH (ZH l);have h2:=Gw.1 ((YA (ZH l)).nodup_iff.2 R.nodup);have h:=(b.and h2);rw[qH]at h;obtain⟨a1,c⟩:=Ny.1 hi;obtain⟨a2,d⟩:=Ny.1 a;have:=h i (i+1) a1 a2 NH;rw[c,d]at this;rw[Hv];grind
theorem Ho.mem(R:Ho n es l){v w:Nat}:GW v w∈aa5 (ZH l)↔Ei l v w:=by rw[Wb,mem_ringW R.nd]
theorem rng_on(nd:l.Nodup){v:Nat}:(∃w,Ei l v w)↔v∈l:=by
 constructor
 .rintro⟨w,h|h⟩
  all_goals grind[ZP]
 .intro h;exact⟨_,.inl ⟨h,rfl⟩⟩
theorem Ho.offl(R:Ho n es l)(hR:aV n es){v:Nat}:¬off (eN n es) (Ei l) v↔v∈l:=by
 constructor
 .grind[Q7,rng_on,Ho.nd]
 .intro h q;exact q _ ((vD hR).2 (R.Jp v h)) (.inl ⟨h,rfl⟩)
theorem Ho.wOn(R:Ho n es l){v:Nat}:onW (aa5 (ZH l)) v↔v∈l:=by
 constructor
 .rintro⟨e,a,h⟩;rw[Wb]at a;unfold ZH at a;grind[Sl,Nat.mod_lt]
 .intro h;refine⟨GW v (nx l v),R.mem.2 (.inl ⟨h,rfl⟩),?_⟩;grind[Sl]
theorem Ho.fOn(R:Ho n es l){v:Nat}(a:v<n):Qw n (aa5 (ZH l)) v=tT↔v∈l:=by grind[Cb,Ho.wOn]
theorem Ho.start(R:Ho n es l)(hR:aV n es)(hA:D3 es)(G:wx n (Qw n (aa5 (ZH l))) es L):Z8 n es (Ei l) (Mw n es l L):=by
 have E:=MG hR hA;have hs:∀v w,Ei l v w->Ei l w v:=by grind[ki]
 have s:∀v,v<n->(Qw n (aa5 (ZH l)) v=tT↔¬off (eN n es) (Ei l) v):=by grind[Ho.fOn,Ho.offl]
 have T:=Yn (n:=n) (web:=aa5 (ZH l)) (same:=FW (Qw n (aa5 (ZH l))) es) hA.nodup fun j M e e' o t _ _=>K2 hR hA.nodup G o t;have z:∀v w,GW v w∈es->GW v w∉aa5 (ZH l)->Un (eN n es) (Ei l) v w:=fun v w b h2=>by refine⟨(vD hR).2 (Mf (fun e=>?_) b),fun q=>h2 (R.mem.2 q)⟩;subst e;have:=(hR _ b).2.1;grind[bj]
 have A:LJ n es (aa5 (ZH l)) L=((aaX (Zo n (Qw n (aa5 (ZH l))) L) es (aa5 (ZH l)) es.length).map (·.2)).map fun g=>⟨g,YJ (Qw n (aa5 (ZH l))) g⟩:=by unfold LJ;rw[FD];rfl
 refine⟨PU.start R.nd R.h3 E (by grind[vD,Ho.Jp]),?_,fun v H=>?_,fun p m=>?_,fun v w r=>?_,?_,?_⟩
 .show(tV (rP n fF) l).length=n;grind[Pe]
 .show Wg (tV (rP n fF) l) v=tT↔_;grind[mQ,Ho.offl]
 .obtain⟨f,hf,rfl⟩:=Eh.1 m;rw[A]at hf;obtain⟨g,hg,rfl⟩:=Eh.1 hf;clear hf m;have a:=T.sub g hg;have one:∀{v w x y:Nat},Un (eN n es) (Ei l) x y->GW v w∈g->(GW x y∈g↔QI (eN n es) (Ei l) x y=QI (eN n es) (Ei l) v w):=fun{v w x y} k B=>
   Nj hR hA hs (fun e o=>o) s T z (fun v w x y r _ _ _=>⟨un_in hR r,fun q=>r.2 (R.mem.1 q)⟩) hg k B
  have un:∀{v w},GW v w∈g->Un (eN n es) (Ei l) v w:=by grind[GrpE.inP]
  have F:=feet_eq (web:=aa5 (ZH l)) hR fun p m=>a.subset m;have I:∀u:Nat,(u:Int)∈YJ (Qw n (aa5 (ZH l))) g↔¬off (eN n es) (Ei l) u/\∃w,Un (eN n es) (Ei l) u w/\GW u w∈g:=fun u=>by
   rw[F,E7];constructor
   .rintro⟨v,H,e,b,h2⟩;obtain rfl:u=v:=NH;obtain⟨e,o,k⟩:=DX.1 h2;obtain⟨p,m,J⟩:=DX.1 b;refine⟨(R.offl hR).2 (R.wOn.1 ⟨p,m,by grind[aO]⟩),?_⟩;obtain⟨c,d,rfl,C,hd⟩:=jB hR (a.subset o);have N:((c:Int),(d:Int))=GW c d:=(Ix C).symm;simp only[aO,ai7,uV]at k;rcases k with k|k
    .obtain rfl:c=u:=NH;grind
    grind[so]
   .rintro⟨b,w,h2,h3⟩;obtain⟨p,m,k⟩:=R.wOn.2 ((R.offl hR).1 b);refine⟨u,E.lt _ _ h2.1,rfl,(by grind[DX,aO]),DX.2 ⟨_,h3,?_⟩⟩;grind[GW,aO]
  refine⟨T.ne g hg,a,fun v w h=>(un h).2,hGr,I,fun x k=>?_,?_,fun i=>?_,?_⟩
  .grind[E7]
  .simp only;rw[F,kz,Gw,vY];unfold cX;exact(Gw.1 (by grind[List.nodup_range])).imp hGr
  .simp only;rw[WV];have K:(Mw n es l L).Jv.length=2:=rfl;rw[K];constructor
   .rintro⟨b,h2⟩;refine⟨?_,h2⟩;simp at b;omega
   .rintro⟨b,h2⟩;refine⟨?_,h2⟩;simp;omega
  .exact qL202 N8 Ma
 .have B:=un_in hR r;obtain⟨g,hg,D⟩:=T.cov _ B fun q=>r.2 (R.mem.1 q);refine⟨⟨g,YJ (Qw n (aa5 (ZH l))) g,zh [l,l.reverse] (YJ (Qw n (aa5 (ZH l))) g) [0,1]⟩,?_,D⟩;show _∈(LJ n es (aa5 (ZH l)) L).map _;grind
 .show((LJ n es (aa5 (ZH l)) L).map _).Pairwise _;grind[GrpE.TE]
 .show 2+OW es (Ei l)<=es.length+2;grind[OW]
end
end
end Go.Fw
