/- A text. -/
import Derived.Test.YtnakkbhjoiheoaaGreatFwLW5
set_option linter.all false
set_option maxRecDepth 99999
set_option maxHeartbeats 9999999
open Go.Proofs
open Option renaming some→Z,none→Y
open Bool renaming true→tT,false→fF
open List renaming replicate→rP,range→rG
open Go.Value renaming slice→sL,pointer→pT
open Go renaming Value→vV
open Go.Proofs.Tryz renaming prog→pG
open Go.Proofs.Tryz
namespace Go.Fw
section
attribute [local irreducible] Kp MQ lU KO1 KO KN KX KE VK Kl ZJ TC aab
variable {L LV id n:Nat} {h:aai} {ls:List Lw} {o:II} {ov:Value}
def mkCap(h:aai)(n:Nat)(d:n<=100000):abl pG h 28 (.int .i64 0) n=Z (sL (Z h.next) 0 n,h.alloc (.cells (rP n (.int .i64 0)))):=by have a:acd pG 3=Z (.int .i64 0):=Ji;have hb:pG.bytesOf 3=8:=Ji;have b:(8:Int)*n<=140737488355328:=NH;have c:(n:Int)<=140737488355328:=NH;simp[abl,Mb,Ac,a,hb,ts3,vV.cells,flat,b,c,IF,HW,vV.oneCell']
def GU.cap(a:h.own id=Z (.cells (rP n (.int .i64 0))))(b:n<=100000):GU h (sL (Z id) 0 n) []:=⟨by simp[Bp],.inr ⟨id,_,n,rfl,a,by simp[Bp],.inr ⟨abe _,NH,Ma⟩⟩⟩
theorem Dv(a b:Int):agw a [b]=Z (.int .i64 (min a b)):=by grind[agw]
def bL(a b c:Int):acB pG 94 [(0,a),(1,b),(2,c)]=Z (valL (a,b,c)):=Ji
theorem acj(ls:List Lw)(e:Pr):(bS ls e).length=ls.length:=by grind[bS]
def OQ:∀(es:xLP)(ls:List Lw),(es.foldl bS ls).length=ls.length
 |[],ls=>rfl
 |e::es,ls=>by rw[Dj,OQ es,acj]
theorem Bg(ls:List Lw)(a:Nat)(x:Int)(v:Nat):(Ro (ls.set a ((Ro ls a).1,(Ro ls a).2.1,x)) v).1=(Ro ls v).1/\(Ro (ls.set a ((Ro ls a).1,(Ro ls a).2.1,x)) v).2.1=(Ro ls v).2.1:=by grind[Uw]
theorem ab7(ls:List Lw)(e:Pr)(v:Nat):(Ro (bS ls e) v).1=(Ro ls v).1/\(Ro (bS ls e) v).2.1=(Ro ls v).2.1:=by grind[bS,Bg]
theorem RK:∀(es:xLP)(ls:List Lw)(v:Nat),(Ro (es.foldl bS ls) v).1=(Ro ls v).1/\(Ro (es.foldl bS ls) v).2.1=(Ro ls v).2.1
 |[],ls,v=>⟨rfl,rfl⟩
 |e::es,ls,v=>by rw[Dj];obtain⟨a1,a2⟩:=RK es (bS ls e) v;grind[ab7]
theorem tU(ls:List Lw)(x v:Nat):(Ro (Ke ls x) v).1=(Ro ls v).1/\(Ro (Ke ls x) v).2.1=(Ro ls v).2.1:=by grind[Ke,Bg]
theorem ack:∀(o:II)(ls:List Lw)(v:Nat),(Ro (o.foldl Ke ls) v).1=(Ro ls v).1/\(Ro (o.foldl Ke ls) v).2.1=(Ro ls v).2.1
 |[],ls,v=>⟨rfl,rfl⟩
 |e::es,ls,v=>by rw[Dj];obtain⟨a1,a2⟩:=ack es (Ke ls e) v;grind[tU]
theorem bq(ls:List Lw)(v:Nat):(Ke ls v).length=ls.length:=by grind[Ke]
theorem Qp:∀(o:II)(ls:List Lw),(o.foldl Ke ls).length=ls.length
 |[],ls=>rfl
 |e::es,ls=>by rw[Dj,Qp es,bq]
def LG(h:aai):abO pG h 90=Z (pT (Z h.next),h.alloc (.cells [.slice Y 0 0])):=rfl
structure TP (h1 hq:aai) (LV L n:Nat) (ov:vV) (ls:List Lw) (o:II):Prop where
 oV:hq.own LV=Z (.cells [sL (Z L) n n])
 oL:hq.own L=Z (.cells (Wo ls))
 go:GU hq ov (kz o)
 nb:blk ov≠Z LV/\blk ov≠Z L
 le:Le h1 hq
 nn:h1.own LV=Y/\h1.own L=Y/\LV≠L
 ao:Z2 h1 ov
theorem TP.put{b c:aai}{d L n:Nat}{e:vV}{ls:List Lw}{o:II}(S:TP b c d L n e ls o)(a:List Lw):TP b (c.put L (.cells (Wo a))) d L n e a o:=⟨by rw[aai.By _ _ _ _ S.nn.2.2];exact S.oV,aai.Y3 _ _ _,GT.put S.go _ S.nb.2,S.nb,S.le.put _ S.nn.2.1,S.nn,S.ao⟩
theorem TP.kept{a b c:aai}(S:TP a b LV L n ov ls o)(e:Le b c):TP a c LV L n ov ls o:=⟨e.own _ _ S.oV,e.own _ _ S.oL,S.go.le e,S.nb,S.le.trans e,S.nn,S.ao⟩
def Ze(up:RZ):∀(a b:II)(st:List Lw×II),acA up (a++b) st=acA up b (acA up a st)
 |[],b,st=>rfl
 |x::a,b,(ls,o)=>by rw[adz,acA,acA,Ze up a b]
theorem TP.push{e a:aai}{i L n:Nat}{f:vV}{ls:List Lw}{o:II}(S:TP e a i L n f ls o)(g:WF a)(x:Nat)(r:o.length<=1000):
  ∃v' d c,aas pG a 28 1 [(0,x)]=Z (sL (Z a.next) 1 1,d)/\aaR pG d 28 28 f (sL (Z a.next) 1 1)=Z (v',c)/\TP e c i L n v' ls (o++[x])/\WF c/\
   (∀b o,a.own b=Z o->blk f≠Z b->c.own b=Z o/\blk v'≠Z b):=by
 obtain⟨v',d,c,e4,j,s,k,l4,hf,h⟩:=S.go.push g (x:Int) (by grind[y6]);obtain⟨k1,k2⟩:=h _ _ S.oV S.nb.1;obtain⟨l,m⟩:=h _ _ S.oL S.nb.2;obtain⟨p,q⟩:=hf e S.le S.ao;exact⟨v',d,c,e4,j,⟨k1,l,by grind[kz],⟨k2,m⟩,p,S.nn,q⟩,k,h⟩
theorem qX(W0:LA)(v:vV)(G:GM)(h:aai)(hg:GR h v G):
  AC pG W0 56 [v] h fun x h'=>Le h h'/\((¬bX G/\x=.tuple #[.slice Y 0 0,.slice Y 0 0,.int .i64 20])\/
   (bX G/\∃L m,x=.tuple #[sL (Z ⟨L,0,Y⟩) G.n.toNat G.n.toNat,m,.int .i64 0]/\h'.own L=Z (.cells (Wo (Jz G.n.toNat G.es).1))/\h.own L=Y/\GU h' m (kz (Jz G.n.toNat G.es).2)/\blk m≠Z L/\Z2 h m)):=by
 have aj:=hg;obtain⟨gn,es⟩:=G
 obtain⟨ev,rfl,hp⟩:=hg.open
 refine AC.vE ⟨func56,rfl,WY⟩ ntmps56 results56 fun bh=>?_;simp only[Br,seval];obtain⟨h1,b1,T,cp,-,lA⟩:=r8 (n:=gn) bh hp
 generalize h.next=B at*
 have bk:=lA h1 (Le.refl _);simp only[HO,seval,b1,bk.1];refine TC.intro PJ ⟨qS7,rfl,WY⟩ (ak W0 _ _ h1 (aj.le T)) ?_;rintro x h2 aq ⟨⟨bb,rfl,bm⟩,r⟩;cases bb with
 |false=>refine sSs ?_;grind[Le.trans]
 |true=>
 have hr:=bm.1 rfl;have h0:0<=gn:=hr.n0;obtain⟨n,rfl⟩:=Sb h0;have cf:(n:Int)<=200:=hr.n1;have cg:es.length<=594:=hr.len;have hR:=hr.GD;simp only[Z6];have bo:=lA h2 r;obtain⟨h3,e3,l3,w3,o3⟩:=Tt aq (Wo (rP n (0,0,0)));have mk:=mkL h2 n NH;rw[e3]at mk;have al:=LG h3;obtain⟨h4,e4,l4,w4,o4⟩:=Tt w3 [.slice Y 0 0];rw[e4]at al
 have st:=QB (P:=pG) (t:=90) (x:=sL (Z h2.next) n n) sU Ji o4 (off:=0) Ma rfl rfl
 have nV:h3.own h3.next=Y:=(Le.refl h3).next w3 (qL0 _)
 have nL:h2.own h2.next=Y:=(Le.refl h2).next aq (qL0 _)
 have w5:=w4.put (.cells ([vV.slice Y 0 0].set 0 (sL (Z h2.next) n n))) (w4.lt o4)
 have l5:=(l3.trans l4).put (.cells ([vV.slice Y 0 0].set 0 (sL (Z h2.next) n n))) (l3.none nV)
 have aa:=aai.Y3 h4 h3.next (.cells ([vV.slice Y 0 0].set 0 (sL (Z h2.next) n n)))
 have ne:h3.next≠h2.next:=fun e=>by grind
 have ar:(h4.put h3.next (.cells ([vV.slice Y 0 0].set 0 (sL (Z h2.next) n n)))).own h2.next=Z (.cells (Wo (rP n (0,0,0)))):=by grind[aai.By,Le.own]
 have br:=l3.none nV;simp only[HO,seval,Ii,Ip,Gc,bo.2.1,mk,al,st];clear st al mk e4 o4 e3 o3
 generalize h4.put h3.next (.cells ([vV.slice Y 0 0].set 0 (sL (Z h2.next) n n)))=I at*
 generalize h3.next=q at*
 generalize h2.next=L at*
 clear l3 w3 nV w4 l4;clear h3 h4;simp only[qL200]at aa;have av:=lA I (r.trans l5);obtain⟨h6,e6,l6,w6,o6⟩:=Tt w5 (rP n (.int .i64 0));have mk:=mkCap I n NH;rw[e6]at mk;have ay:=lA h6 ((r.trans l5).trans l6)
 have nO:I.own I.next=Y:=(Le.refl I).next w5 (qL0 _)
 simp only[HO,seval,Ii,Ip,Gc,av.2.1,mk,ay.2.1]
 have S6:TP h2 h6 q L n (sL (Z I.next) 0 n) (aba n es 0).1 (aba n es 0).2:=⟨l6.own _ _ aa,l6.own _ _ ar,GU.cap o6 NH,⟨fun e=>(by injection e with e;grind),fun e=>(by injection e with e;grind)⟩,l5.trans l6,⟨br,nL,ne⟩,fun b hb=>by injection hb with hb;grind[Le.none]⟩
 generalize vV.slice (Z I.next) 0 n=ae at*
 clear nO ay mk o6 l6 e6 av l5 ar aa w5;refine aab.intro (fun k fr A=>∃(i:Nat)(m:vV),k=n-i/\i<=n/\fr=mkF [(1,pT (Z B)),(5,pT (Z q)),(6,m),(30,n),(31,i)]/\TP h2 A q L n m (aba n es i).1 (aba n es i).2)
  n [(1,pT (Z B)),(5,pT (Z q)),(6,ae),(30,n),(31,(0:Nat))] fD ⟨0,ae,rfl,abe _,rfl,S6⟩ ?_
 clear S6 ae w6;clear h6 I;rintro k fr A J ⟨i,m,rfl,hi,rfl,S⟩;obtain⟨C,az⟩:=ZC hR i hi;have s:=fun(g:aai)(o:g.own q=Z (.cells [sL (Z ⟨L,0,Y⟩) n n]))=>(Fq (P:=pG) sU rfl o (off:=0):aaC pG g 90 ⟨q,0,Y⟩=_);simp only[Bn]at s;refine sSs ?_;refine Kl.intro (fun ht=>?_) (fun hf=>?_)
 .have f:i<n:=CC ht;clear ht;have bx:=Nh S.oL (V0 (ls:=(aba n es i).1) (v:=i) (by rw[C.len];exact f));simp only[HO,seval,s A S.oV,Is i f,fl0,Ip,Ki,bx,bne];by_cases c:(Ro (aba n es i).1 i).1=0
  .have K:=lA A (r.trans S.le);simp only[HO,seval,c,K.1];refine TC.intro PJ ⟨func84,rfl,WY⟩ (Walk_any W0 _ n i es A (aj.le ((T.trans r).trans S.le)) hr f) ?_;rintro x h7 w7 ⟨R,U,P,up,rfl,gw,⟨oU,nbU,nU⟩,D,l7,aw⟩;have S7:=S.kept l7;obtain⟨p1,p2⟩:=TY hR C f c;have aC:=D.KP.upR hR f;have cq:=D.KP.len.2;have y:aba n es (i+1)=acA up P (aba n es i):=by grind[Oc.eq,aba.eq_2,jl.eq_1]
   obtain⟨e1,-⟩:=D.eq hR f;rw[<-e1]at p1 p2;clear e1 D;have cx:P.length<=n:=by have:=p1.length_le_of_subset (l₂:=rG n) fun x hx=>K4.2 (p2 x hx).1;grind
   have cz:U≠L/\U≠q:=⟨fun e=>(by rw[e,S.oL]at nU;cases nU),fun e=>(by grind[TP.oV])⟩;have bB:blk R≠Z L/\blk R≠Z q:=⟨fun e=>(by have:=aw _ e;rw[S.oL]at this;cases this),fun e=>(by have:=aw _ e;grind[TP.oV])⟩;have V:blk m≠Z U:=fun e=>by obtain⟨c,hc⟩:=GT.Sy S.go e;grind
   have W:∀b,blk R=Z b->blk m≠Z b:=fun b hb e=>by obtain⟨c,hc⟩:=GT.Sy S.go e;rw[aw b hb]at hc;cases hc
   have lo:=fun g=>gw.rl.DH g;rw[y6]at lo;simp only[HO,seval,bne,lo];refine aab.intro (fun k fr hh=>∃(j:Nat)(z:vV),k=P.length-j/\j<=P.length/\fr=mkF [(1,pT (Z B)),(5,pT (Z q)),(6,z),(9,sL (Z U) n n),(30,n),(31,i),(50,R),(51,P.length),(52,j)]/\
     TP h2 hh q L n z (acA up (P.take j) (aba n es i)).1 (acA up (P.take j) (aba n es i)).2/\GI hh R (kz P)/\hh.own U=Z (.cells (Bp up))/\blk z≠Z U/\(∀b,blk R=Z b->blk z≠Z b))
    P.length [(1,pT (Z B)),(5,pT (Z q)),(6,m),(9,sL (Z U) n n),(30,n),(31,i),(50,R),(51,P.length),(52,(0:Nat))] fD
    ⟨0,m,rfl,abe _,rfl,S7,gw,oU,V,W⟩ ?_
   clear S7 oU gw l7 w7 lo V W aw nU S K;clear h7;rintro k fr hh bF ⟨j,z,rfl,hj,rfl,S,gw,oU,V,W⟩;obtain⟨LI,-⟩:=Rx aC (P.take j) C.toLowI (p1.sublist (List.take_sublist _ _)) fun v hv=>p2 v (adQ hv);have bG:(acA up (P.take j) (aba n es i)).2.length<=n:=LI.Em;have aD:(acA up (P.take j) (aba n es i)).1.length=n:=LI.len;refine sSs ?_;refine Kl.intro (fun ht=>?_) (fun hf=>?_)
   .have F:j<P.length:=CC ht;clear ht;have aF:=CA F;have ad:=gw.rl.TA j (by rw[y6];exact F);have ld:=gw.rl.Uc j (by rw[y6];exact F);rw[sY F]at ld;have X:P.take (j+1)=P.take j++[P[j]]:=EL F;generalize P[j]=w at aF ld X;have aH:w<n:=(p2 w (BS aF)).1;obtain⟨v',h4,I,e4,e5,S5,w5,k5⟩:=S.push bF w NH;obtain⟨bH,aJ⟩:=k5 U _ oU V;have bI:GI I R (kz P):=GS.kept gw fun b o hb ho=>(k5 b o ho (W b hb)).1;have aK:∀b,blk R=Z b->blk v'≠Z b:=fun b hb=>by
     have:=GS.Sy gw hb;cases ho:hh.own b<;>grind
    have aL:=fun g=>S5.go.rl.DH g;simp only[y6,aaf,OM]at aL;have bN:=fun k=>Wc (P:=pG) (a:=⟨U,0,Y⟩) (n:=n) (cap:=n) (k:=k) Mb Ac Ji w aH;have bQ:aaC pG I 3 ⟨U,w,Y⟩=Z (.int .i64 (up.getD w 0)):=by rw[Fq Ac rfl bH];grind[Bp]
    have st:=sAll S5.oL (v:=w) (by grind) (((((acA up (P.take j) (aba n es i)).2.length+1:Nat):Int),up.getD w 0,(((acA up (P.take j) (aba n es i)).2.length+1:Nat):Int)));simp only[HO,seval,ad,ld,e4,e5];refine gh (tA [0,1,2,3,4,5,6,7,8,9,10,11] (JQ 12 [0,1,2,3,4,5,6,7,8,9,10,11] .done)) ?_;simp only[HO,seval,Qg,s I S5.oV,aL,bN,bQ,Is w aH,Ip,Gc,bL,st,aaa j NH];have ag:acA up (P.take (j+1)) (aba n es i)=((acA up (P.take j) (aba n es i)).1.set w (((((acA up (P.take j) (aba n es i)).2.length+1:Nat):Int),up.getD w 0,(((acA up (P.take j) (aba n es i)).2.length+1:Nat):Int))),(acA up (P.take j) (aba n es i)).2++[w]):=by rw[X,Ze];rfl
    have S6:=S5.put ((acA up (P.take j) (aba n es i)).1.set w (((((acA up (P.take j) (aba n es i)).2.length+1:Nat):Int),up.getD w 0,(((acA up (P.take j) (aba n es i)).2.length+1:Nat):Int))));refine tn (P.length-(j+1)) [(1,pT (Z B)),(5,pT (Z q)),(6,v'),(9,sL (Z U) n n),(30,n),(31,i),(50,R),(51,P.length),(52,(j+1:Nat))] NH fD
     ⟨j+1,v',rfl,F,rfl,(by grind),GS.put bI _ bB.1,by grind[aai.By],aJ,aK⟩
   .have H:P.length<=j:=vp hf;rw[HV H,<-y]at S;simp only[HO,seval,aaa i NH];exact tn (n-(i+1)) [(1,pT (Z B)),(5,pT (Z q)),(6,z),(30,n),(31,(i+1:Nat))] NH fD ⟨i+1,z,rfl,f,rfl,S⟩
  .have y:aba n es (i+1)=aba n es i:=by rw[aba,jl,yM c]
   simp only[HO,seval,c,aaa i NH];exact tn (n-(i+1)) [(1,pT (Z B)),(5,pT (Z q)),(6,m),(30,n),(31,(i+1:Nat))] NH fD ⟨i+1,m,rfl,f,rfl,by rw[y];exact S⟩
 have H:n<=i:=vp hf;obtain rfl:i=n:=NH;clear hf H hi az;have K:=lA A (r.trans S.le);have bW:=hp.le (T.trans r);simp only[HO,seval,Di,Ip,Gc,K.2.2,hp.len];refine aab.intro (fun k fr hh=>∃(j:Nat),k=es.length-j/\j<=es.length/\fr=mkF [(5,pT (Z q)),(6,m),(75,ev),(76,es.length),(77,j)]/\TP h2 hh q L i m ((es.take j).foldl bS (aba i es i).1) (aba i es i).2)
  es.length [(5,pT (Z q)),(6,m),(75,ev),(76,es.length),(77,(0:Nat))] fD ⟨0,rfl,abe _,rfl,S⟩ ?_
 clear K S J;clear A;rintro k fr A J ⟨j,rfl,hj,rfl,S⟩;have aD:((es.take j).foldl bS (aba i es i).1).length=i:=by rw[OQ];exact C.len
 refine sSs ?_;refine Kl.intro (fun ht=>?_) (fun hf=>?_)
 .have f:j<es.length:=CC ht;clear ht;have aN:=CA f;have X:es.take (j+1)=es.take j++[es[j]]:=EL f;have M:=hR es[j] (aev f);generalize es[j]=p at aN X M;have ad:=hp.addr (k:=.i64) j f;have ld:=(bW.le S.le).load aN;obtain⟨a,c⟩:=p;simp only at M;obtain⟨a,rfl⟩:=Sb M.1;obtain⟨c,rfl⟩:=Sb (show 0<=c by omega);obtain⟨cC,h4,e4,bY,bZ,cE,o4⟩:=Ut J ((a:Int),(c:Int));have S4:=S.kept bZ
  have nE:A.own A.next=Y:=(Le.refl A).next J (qL0 _)
  have cJ:A.next≠L:=fun e=>by rw[e,S.oL]at nE;cases nE
  generalize A.next=E at*
  have N:=lK o4;have Q:=HY o4;simp only at N Q;have b0:a<i:=NH;have b2:c<i:=NH;generalize cK:(es.take j).foldl bS (aba i es i).1=ls at*;have ga:=V0 (ls:=ls) (v:=a) NH;have gc:=V0 (ls:=ls) (v:=c) NH;have st1:=sLow S4.oL ga (min (Ro ls a).2.2 (Ro ls c).1);have S5:=S4.put (ls.set a ((Ro ls a).1,(Ro ls a).2.1,min (Ro ls a).2.2 (Ro ls c).1));generalize aP:ls.set a ((Ro ls a).1,(Ro ls a).2.1,min (Ro ls a).2.2 (Ro ls c).1)=l at*;have ck:l.length=i:=hGr;have b3:=V0 (ls:=l) (v:=a) NH;have aT:=V0 (ls:=l) (v:=c) NH;have st2:=sLow S5.oL aT (min (Ro l c).2.2 (Ro l a).1);have S6:=S5.put (l.set c ((Ro l c).1,(Ro l c).2.1,min (Ro l c).2.2 (Ro l a).1))
  have hB:bS ls ((a:Int),(c:Int))=if(Ro ls a).2.1=(c:Int)\/(Ro ls c).2.1=(a:Int)then ls else l.set c ((Ro l c).1,(Ro l c).2.1,min (Ro l c).2.2 (Ro l a).1):=by simp only[bS,Z6,aP]
  have b4:(es.take (j+1)).foldl bS (aba i es i).1=bS ls ((a:Int),(c:Int)):=hGr;simp only[HO,seval,ad,ld,e4,bY];refine gh (tA [0,1,2,3,4,5,6,7,8,9] .done) ?_;simp only[HO,seval,Qg,Dh,Z0,Ip,Ki,Gc,N,Q,s h4 S4.oV,Is a b0,Is c b2];have u1:=lUp S4.oL ga;have u2:=lUp S4.oL gc;by_cases c1:(Ro ls a).2.1=(c:Int)
  .have d1:decide ((Ro ls a).2.1=(c:Int))=tT:=qL7 c1;refine gh (tA [0,1,2,3,4,5,6,7,8,9,10,11,12,13,14,15] .done) ?_;simp only[HO,seval,Qg,Dh,Z0,Ip,Ki,Gc,N,Q,fl0,fl1,fl2,u1,u2,d1,aaa j NH];refine tn (es.length-(j+1)) [(5,pT (Z q)),(6,m),(75,ev),(76,es.length),(77,(j+1:Nat))] NH fD ⟨j+1,rfl,f,rfl,?_⟩;grind
  have d1:decide ((Ro ls a).2.1=(c:Int))=fF:=WA c1;by_cases c2:(Ro ls c).2.1=(a:Int)
  .have d2:decide ((Ro ls c).2.1=(a:Int))=tT:=qL7 c2;refine gh (tA [0,1,2,3,4,5,6,7,8,9,10,11,12,13,14,15] .done) ?_;simp only[HO,seval,Qg,Dh,Z0,Ip,Ki,Gc,N,Q,fl0,fl1,fl2,u1,u2,d1,d2,aaa j NH];refine tn (es.length-(j+1)) [(5,pT (Z q)),(6,m),(75,ev),(76,es.length),(77,(j+1:Nat))] NH fD ⟨j+1,rfl,f,rfl,?_⟩;grind
  have d2:decide ((Ro ls c).2.1=(a:Int))=fF:=WA c2;refine gh (tA [0,1,2,3,4,5,6,7,8,9,10,11,12,13,14,15] .done) ?_;simp only[HO,seval,Qg,Dh,Z0,Ip,Ki,Gc,N,Q,fl0,fl1,fl2,u1,u2,d1,d2];refine gh (tA [0,1,2,3,4,5,6,7,8,9,10,11] (JQ 12 [0,1,2,3,4,5,6,7,8,9,11] .done)) ?_;simp only[HO,seval,Qg,Ip,Ki,Gc,fl0,fl1,fl2,lLow S4.oL ga,Nh S4.oL gc,Dv,st1];refine gh (tA [0,1,2,3,4,5,6,7,8,9,10,11] (JQ 12 [0,1,2,3,4,5,6,7,8,9,11] .done)) ?_;simp only[HO,seval,Qg,Ip,Ki,Gc,fl0,fl1,fl2,lLow S5.oL aT,Nh S5.oL b3,Dv,st2,aaa j NH];refine tn (es.length-(j+1)) [(5,pT (Z q)),(6,m),(75,ev),(76,es.length),(77,(j+1:Nat))] NH fD ⟨j+1,rfl,f,rfl,?_⟩;grind
 have H:es.length<=j:=vp hf;rw[HV H]at S aD;clear H hf hj;refine sSs ?_;refine TC.intro PJ ⟨func85,rfl,WY⟩ (Back_any W0 m (kz (aba i es i).2) A S.go.rl) ?_;rintro x h7 w7 ⟨B2,rfl,cM,b5,l7⟩;have S7:=S.kept l7;have cN:B2≠L:=fun e=>by have:=J.lt S.oL;omega
 have bG:(aba i es i).2.length<=i:=C.toLowI.Em;have b6:(kz (aba i es i).2).length=(aba i es i).2.length:=y6 _;have aW:∀v∈(aba i es i).2,v<i:=C.lt;generalize hO:(aba i es i).2=O at*;have cm:Jz i es=(O.reverse.foldl Ke (es.foldl bS (aba i es i).1),O):=by rw[Jz,hO]
 have aX:∀v,v<i->(Ro (es.foldl bS (aba i es i).1) v).2.1<(i:Int):=fun v hv=>by rw[(RK es _ v).2];exact C.up v hv
 generalize es.foldl bS (aba i es i).1=LS at*;refine sSs ?_
 refine VK.rangeFunc (gf:=123) (first:=#[]) (cap:=#[pT (Z B2)]) (by simp only[HO,seval]) ⟨func123,rfl,WY⟩ WY fun W1 lp hy=>?_
 refine(Back1_any W1 lp B2 m (kz O) (fun k g=>TP h2 g q L i m (((O.drop k).reverse).foldl Ke LS) O/\g.own B2=Z (.cells [m])) h7 NH (fun k g hi=>⟨hi.2,hi.1.go.rl⟩) ⟨(by grind),b5⟩ ?_).mono fun _ h8 b8 cP=>?_
 .intro k g hk wg hle b9;obtain⟨S,oB⟩:=b9;refine hy _ _ _ rfl hle ?_;rw[b6]at hk;have a6:=sY hk;have a7:=CA hk;have a8:O.drop k=O[k]::O.drop (k+1):=Vn hk;generalize O[k]=v at a6 a7 a8;have ai:=aW v (BS a7);have ag:(O.drop k).reverse.foldl Ke LS=Ke ((O.drop (k+1)).reverse.foldl Ke LS) v:=by rw[a8,List.reverse_cons,qL206];rfl
  have aP:((O.drop (k+1)).reverse.foldl Ke LS).length=i:=by grind[Qp]
  have bg:=(ack (O.drop (k+1)).reverse LS v).2;have cc:=aX v ai;rw[<-bg]at cc;clear bg;generalize (O.drop (k+1)).reverse.foldl Ke LS=ls at*;have gv:=V0 (ls:=ls) (v:=v) NH;simp only[HO,seval,List.toList_toArray,aeJ,a6,s g S.oV,Is v ai,fl1,Ip,lUp S.oL gv];by_cases c:(Ro ls v).2.1>=0
  .obtain⟨u,hu⟩:=Sb c;have cd:u<i:=NH;have gu:=V0 (ls:=ls) (v:=u) NH;have st:=sLow S.oL gu (min (Ro ls u).2.2 (Ro ls v).2.2);have cR:Ke ls v=ls.set u ((Ro ls u).1,(Ro ls u).2.1,min (Ro ls u).2.2 (Ro ls v).2.2):=by grind[Ke,Int.toNat_natCast]
   have d:decide ((u:Int)>=0)=tT:=qL7 NH;simp only[hu,d,HO,seval];refine gh (tA [0,1,2,3,4,5,6,7,8,9,10,11,12,13,14] (JQ 15 [0,1,2,3,4,5,6,7,8,9,10,11,12,14] .done)) ?_;simp only[HO,seval,Qg,s g S.oV,Is v ai,Is u cd,fl2,Ip,lLow S.oL gu,lLow S.oL gv,Dv,st,aB];refine⟨hle,?_,?_⟩
   .grind[TP.put]
   grind[aai.By]
  .have d:decide ((Ro ls v).2.1>=0)=fF:=WA c;simp only[d,HO,seval,aB];grind[Ke.eq_1]
 .obtain⟨S8,-⟩:=b8;rw[akv]at S8;simp only[HO,seval,s h8 S8.oV];have lb:Le h h2:=T.trans r;refine⟨lb.trans S8.le,.inr ⟨hr,L,m,rfl,by grind[TP.oL],lb.none nL,by grind[TP.go],S8.nb.2,fun b hb=>lb.none (S8.ao b hb)⟩⟩
variable {a b i s u:Nat} {es:List Pr} {up:RZ} {x:Int}
def upI(x:Int):Option Nat:=if 0<=x then Z x.toNat else Y
def Yp(up:RZ)(v:Nat):Option Nat:=upI (up.getD v (-1))
theorem acm(u:Nat):upI (u:Int)=Z u:=by simp[upI]
theorem bA(h:upI x=Z u):x=(u:Int):=by grind[upI]
structure DI (es:xLP) (s:Nat) (o:II) (up:RZ):Prop where
 root:Yp up s=Y
 mem:∀v u,Yp up v=Z u->v∈o
 Kd:∀(k v:Nat),o[k]?=Z v->v=s\/∃j u,j<k/\o[j]?=Z u/\Yp up v=Z u/\Jp es u v
 open_:∀x∈o,¬Full es o x->∀l,o.getLast?=Z l->pJ (Yp up) x l
 anc:∀(j k a b:Nat),j<k->o[j]?=Z a->o[k]?=Z b->Jp es a b->pJ (Yp up) a b
theorem DI.idx(d:DI es s o up)(nd:o.Nodup)(h:pJ (Yp up) a b):∀(k:Nat),o[k]?=Z b->∃j:Nat,j<=k/\o[j]?=Z a:=by
 induction h<;>grind[DI.Kd,DI.root]
theorem pJ.mono{up d:Nat->Option Nat}(h:pJ up a b)(k:∀c u,up c=Z u->d c=Z u):pJ d a b:=by
 induction h with
 |refl=>exact .refl _
 |step h e f=>exact .step f (k _ _ e)
theorem du.di(N:aV n es)(d:du n es s o up):DI es s o up:=by
 induction d with
 |start=>
  have O:∀v,Yp (rP n (-1)) v=Y:=fun v=>by simp only[Yp,j9,List.getElem?_replicate];split<;>rfl
  refine⟨O s,hGr,fun k v h=>?_,fun x m _ l B=>?_,fun j k a b L h2 h3=>?_⟩
  .grind
  .simp at m B;subst m;subst B;exact .refl _
  grind
 |@step o up k v w d M ha hw X hf C=>
  have P:=(ha.lt N).2;have Q:up.length=n:=d.len.2;have F:=d.nodup
  have hu:∀x,Yp (up.set w (v:Int)) x=if x=w then Z v else Yp up x:=by grind[Yp,acm]
  have g:∀c u,Yp up c=Z u->Yp (up.set w (v:Int)) c=Z u:=by grind[DI.mem]
  have R:w≠s:=fun e=>by subst e;exact hw (BS d.head)
  have S:=(Ny.1 M).1;have G:o≠[]:=fun e=>by grind
  obtain⟨l,B⟩:∃l,o.getLast?=Z l:=⟨_,List.getLast?_eq_some_getLast G⟩;have H:=C.open_ v (BS M) (fun f=>hw (f w ha)) l B;have p:∀x∈o,¬Full es o x->pJ (Yp up) x v:=fun x m z=>by
   have I:=C.open_ x m z l B;rcases I.chain H with h|h
   .exact h
   .obtain⟨i,hi⟩:=vZ.1 m;obtain⟨j,T,U⟩:=C.idx F h i hi;grind[List.getElem?_inj]
  refine⟨by grind[DI.root],fun x u h=>?_,fun i x m=>?_,fun x m z l' r=>?_,fun i j a b J hi t D=>?_⟩
  .grind[DI.mem]
  .rcases abz i o.length with q|q
   .rw[iy q]at m;rcases C.Kd i x m with h|⟨j,u,L,h2,h3,V⟩
    .exact .inl h
    .exact .inr ⟨j,u,L,hGr,g _ _ h3,V⟩
   .rw[AE q]at m;have:=(Ny.1 m).1;simp at this;have K:i-o.length=0:=NH;rw[K]at m;simp at m;subst m;exact .inr ⟨k,v,NH,hGr,hGr,ha⟩
  .rw[List.getLast?_concat]at r;injection r with r;subst r;rw[aax,xD]at m;rcases m with m|rfl
   .have E:¬Full es o x:=fun f=>z fun y W=>abZ _ (f y W);exact((p x m E).mono g).step hGr
   .exact .refl _
  .have q:i<o.length:=by
    have:=(Ny.1 t).1;grind
   rw[iy q]at hi;rcases abz j o.length with A|A
   .rw[iy A]at t;exact(C.anc i j a b J hi t D).mono g
   .rw[AE A]at t;have:=(Ny.1 t).1;simp at this;have K:j-o.length=0:=NH;rw[K]at t;simp at t;subst t;exact((p a (BS hi) fun f=>hw (f w D)).mono g).step hGr
def Oj(ls:List Lw)(v:Nat):Option Nat:=upI (Ro ls v).2.1
structure FoI (es:xLP) (ls:List Lw) (o:II):Prop where
 num:∀(k v:Nat),o[k]?=Z v->(Ro ls v).1=((k+1:Nat):Int)/\(Ro ls v).2.2=((k+1:Nat):Int)
 up:∀(k v:Nat),o[k]?=Z v->(Ro ls v).2.1=-1\/∃j u:Nat,j<k/\o[j]?=Z u/\(Ro ls v).2.1=(u:Int)/\Jp es u v
 anc:∀(j k a b:Nat),j<k->o[j]?=Z a->o[k]?=Z b->Jp es a b->pJ (Oj ls) a b
theorem JK{n:Nat}{up:RZ}:∀(l:II){ls:List Lw}{o:II},ls.length=n->l.Nodup->(∀v∈l,v<n)->
  (∀(k v:Nat),l[k]?=Z v->Ro (acA up l (ls,o)).1 v=(((o.length+k+1:Nat):Int),up.getD v 0,((o.length+k+1:Nat):Int)))/\∀v,v∉l->Ro (acA up l (ls,o)).1 v=Ro ls v
 |[],ls,o,_,_,_=>⟨hGr,fun v _=>rfl⟩
 |x::r,ls,o,c,b,a=>by
  rw[jz]at b;obtain⟨f,g⟩:=JK r (ls:=ls.set x (((o.length+1:Nat):Int),up.getD x 0,((o.length+1:Nat):Int))) (o:=o++[x]) (by simp[c]) b.2 fun v d=>a v (by simp[d]);refine⟨fun k v e=>?_,fun v d=>?_⟩
  .cases k with
   |zero=>simp at e;subst e;rw[acA,g x b.1,Uw,IE ⟨rfl,by rw[c];exact a x Ma⟩]
   |succ k=>rw[acA,f k v hGr];grind[List.length_singleton]
  grind[acA.eq_2,Uw]
theorem FoI.xG{ls d:List Lw}(F:FoI es ls o)(hs:∀v∈o,Ro d v=Ro ls v)(h:pJ (Oj ls) a b):b∈o->pJ (Oj d) a b:=by
 induction h with
 |refl=>exact fun _=>.refl _
 |@step b c h e g=>
  intro i;obtain⟨k,l⟩:=vZ.1 i;have e':Oj d c=Z b:=by grind[Oj]
  rcases F.up k c l with f|⟨j,u,f,h2,h3,_⟩
  .unfold Oj at e;rw[f]at e;cases e
  .unfold Oj at e;rw[h3,acm]at e;injection e with e;subst e;exact(g (BS h2)).step e'
theorem du.upm(d:du n es s o up):∀v,-1<=up.getD v (-1):=by
 induction d with
 |start=>grind
 |step d _ _ _ _ _ a=>intro v;have:=a v;grind
theorem fromA_F(q:aV n es)(I:cV n es ls o)(F:FoI es ls o)(hi:i<n):FoI es (jl n es i (ls,o)).1 (jl n es i (ls,o)).2:=by
 unfold jl;split
 .rename_i z;obtain⟨t,A⟩:=TY q I hi z;have D:=Te q hi;obtain⟨_,B⟩:=Rx (D.KP.upR q hi) (K9 n es i).1 I.toLowI t A;have C:=D.KP.len.2;have di:=D.KP.di q;obtain⟨w,K⟩:=JK (up:=(K9 n es i).2) (K9 n es i).1 (ls:=ls) (o:=o) I.len t hGr;have x:∀v∈o,Ro (acA (K9 n es i).2 (K9 n es i).1 (ls,o)).1 v=Ro ls v:=hGr;rw[B];generalize (acA (K9 n es i).2 (K9 n es i).1 (ls,o)).1=l at*;generalize (K9 n es i).1=P at*;generalize (K9 n es i).2=up at*;have m:∀v∈P,up.getD v 0=up.getD v (-1):=hGr;have p:∀{a b:Nat},pJ (Yp up) a b->b∈P->pJ (Oj l) a b:=by
   intro a b h
   induction h with
   |refl=>exact fun _=>.refl _
   |@step b c h e E=>
    intro y;obtain⟨k,d⟩:=vZ.1 y;have e':Oj l c=Z b:=by unfold Oj;rw[w k c d];rw[m c y];exact e
    rcases di.Kd k c d with g|⟨j,u,g,h2,h3,_⟩
    .grind[DI.root]
    .rw[h3]at e;injection e with e;subst e;exact(E (BS h2)).step e'
  refine⟨fun k v d=>?_,fun k v d=>?_,fun j k a b G r d s=>?_⟩
  .rcases abz k o.length with h|h
   .grind[FoI.num]
   grind
  .rcases abz k o.length with h|h
   .rw[iy h]at d;rw[x v (BS d)];rcases F.up k v d with g|⟨j,u,g,h2,h3⟩
    .exact .inl g
    .exact .inr ⟨j,u,g,hGr,h3⟩
   .rw[AE h]at d;rw[w _ v d];simp only;have H:=BS d;rw[m v H];rcases di.Kd _ v d with g|⟨j,u,g,h2,h3,J⟩
    .subst g;have f:=di.root;unfold Yp upI at f;split at f
     .cases f
     .have:=D.KP.upm v;omega
    .exact .inr ⟨o.length+j,u,NH,by rw[AE NH];simpa using h2,bA h3,J⟩
  .rcases abz k o.length with h|h
   .rw[iy h]at d;rw[iy NH]at r;exact F.xG x (by grind[FoI.anc]) (BS d)
   .rw[AE h]at d;rcases abz j o.length with h'|h'
    .grind[cV.cl]
    .rw[AE h']at r;exact p (di.anc _ _ a b NH r d s) (BS d)
 .exact F
theorem PG{n:Nat}{es:xLP}(a:aV n es):∀i,i<=n->FoI es (aba n es i).1 (aba n es i).2
 |0,_=>⟨by grind[aba],(by grind[aba]),(by grind[aba])⟩
 |i+1,hi=>fromA_F a (by grind[ZC]) (PG a i NH) NH
def Vu(ls:List Lw)(v:Nat):Nat:=(Ro ls v).1.toNat
theorem metM_fo(d:aV n es):Fo n es (Vu (aba n es n).1) (Oj (aba n es n).1):=by
 have F:=PG d n (qL0 _);obtain⟨C,i⟩:=ZC d n (qL0 _);have ex:∀v,v<n->∃k,(aba n es n).2[k]?=Z v/\Vu (aba n es n).1 v=k+1:=fun v f=>by grind[List.mem_iff_getElem?,Vu,FoI.num]
 refine⟨d,fun u v o f e=>?_,fun v u f e=>?_,fun a b c h=>?_⟩
 .grind
 .obtain⟨k,g,h2⟩:=ex v f;unfold Oj at e;rcases F.up k v g with h|⟨j,w,h3,l,m,p⟩
  .rw[h]at e;cases e
  .rw[m,acm]at e;grind[Vu,FoI.num]
 .obtain⟨k,g,h2⟩:=ex a (c.lt d).1;obtain⟨j,h3,l⟩:=ex b (c.lt d).2;exact F.anc k j a b NH g h3 c
variable {D:Nat->Nat->Prop} {c v x y:Nat} {es':List Pr} {num:Nat->Nat} {up:Nat->Option Nat}
theorem EN{x:Int}:upI x=Z u↔x=(u:Int):=by grind[bA,acm]
theorem Iw.congr(L:Iw es num up D v x)(h:∀u w,D v u->(Nt es' up u w↔Nt es up u w)):Iw es' num up D v x:=⟨L.self,fun u w d k=>L.back u w d ((h u w d).1 k),(by grind[Iw.some_])⟩
theorem Iw.add(L:Iw es num up (fun a b=>a=b) v x)(h:∀w,Nt es' up v w↔Nt es up v w\/w=c):Iw es' num up (fun a b=>a=b) v (min x (num c)):=by
 refine⟨by grind[Iw.self],?_,?_⟩
 all_goals grind[Iw.back,Iw.some_]
theorem Iw.join(a:aV n es){D b f:Nat->Nat->Prop}(L:Iw es num up b v x)(M:Iw es num up f c y)(g:num v<=num c)(h:∀u,u<n->(D v u↔b v u\/f c u)):Iw es num up D v (min x y):=by
 refine⟨by grind[Iw.self],?_,?_⟩
 .intro u w d k;rcases(h u (k.1.lt a).1).1 d with d|d
  .grind[Iw.back]
  .have:=M.back u w d k;omega
 .by_cases q:x<=y
  .rw[af9 q];exact L.some_.imp id fun⟨u,w,d,k,e⟩=>⟨u,w,(h u (k.1.lt a).1).2 (.inl d),k,e⟩
  .rw[qL209 NH];rcases M.some_ with e|⟨u,w,d,k,e⟩
   .have:=L.self;omega
   .exact .inr ⟨u,w,(h u (k.1.lt a).1).2 (.inr d),k,e⟩
structure Same (n:Nat) (num:Nat->Nat) (up:Nat->Option Nat) (ls:List Lw):Prop where
 len:ls.length=n
 fO:∀v,v<n->(Ro ls v).1=(num v:Int)
 ups:∀v,v<n->upI (Ro ls v).2.1=up v
structure jF (n:Nat) (es:xLP) (num:Nat->Nat) (up:Nat->Option Nat) (D:Nat->Nat->Prop) (ls:List Lw):Prop extends Same n num up ls where
 low:∀v,v<n->∃x:Nat,(Ro ls v).2.2=(x:Int)/\Iw es num up D v x
theorem vz:Jp (es++[((a:Int),(c:Int))]) x y↔Jp es x y\/isE a c x y:=by grind[Jp,isE]
theorem edgeB_S(e:a<n)(f:c<n)(l:a≠c)(S:jF n es num up (fun a b=>a=b) ls):
  jF n (es++[((a:Int),(c:Int))]) num up (fun a b=>a=b) (bS ls ((a:Int),(c:Int))):=by
 have B:∀x y:Nat,x<n->((Ro ls x).2.1=(y:Int)↔up x=Z y):=fun x y C=>by rw[<-S.ups x C,EN]
 have D:Same n num up (bS ls ((a:Int),(c:Int))):=⟨by rw[acj];exact S.len,fun v g=>by rw[(ab7 ls _ v).1];exact S.fO v g,fun v g=>by rw[(ab7 ls _ v).2];exact S.ups v g⟩;refine⟨D,fun v g=>?_⟩;by_cases t:up a=Z c\/up c=Z a
 .have m:bS ls ((a:Int),(c:Int))=ls:=by grind[bS,Int.toNat_natCast]
  rw[m];obtain⟨x,z,h2⟩:=S.low v g;refine⟨x,z,h2.congr fun u w _=>?_⟩;simp only[Nt,vz];constructor
  .rintro⟨h|h,k1,k2⟩
   .grind
   .rcases h with⟨rfl,rfl⟩|⟨rfl,rfl⟩<;>rcases t with t|t<;>first|exact absurd t k1|grind
  grind
 .have o:∀u w,Nt (es++[((a:Int),(c:Int))]) up u w↔Nt es up u w\/isE a c u w:=fun u w=>by
   simp only[Nt,vz];constructor
   .grind
   .rintro(⟨h,k⟩|h)
    .grind
    .refine⟨.inr h,?_⟩;rcases h with⟨rfl,rfl⟩|⟨rfl,rfl⟩
     all_goals grind
  obtain⟨x,z,h2⟩:=S.low v g;obtain⟨xa,p,q⟩:=S.low a e;obtain⟨A,r,s⟩:=S.low c f
  have m:(Ro (bS ls ((a:Int),(c:Int))) v).2.2=if v=c then min (A:Int) (num a:Int)else if v=a then min (xa:Int) (num c:Int)else(x:Int):=by
   simp only[bS,Z6];rw[yM hGr];simp only[Uw,Yq,S.len,e,f,and_true];by_cases i:v=c
   .subst i;simp[l,r,S.fO a e]
   .rw[yM (j3 i),yM i];by_cases j:v=a
    .subst j;simp[p,S.fO c f]
    grind
  rw[m];by_cases i:v=c
  .subst i;refine⟨min A (num a),NH,s.add fun w=>?_⟩;rw[o];constructor
   .rintro(h|⟨h,_⟩|⟨_,h⟩)
    all_goals grind
   .rintro(h|rfl)
    .exact .inl h
    .exact .inr (.inr ⟨rfl,rfl⟩)
  .rw[yM i];by_cases j:v=a
   .subst j;refine⟨min xa (num c),NH,q.add fun w=>?_⟩;rw[o];constructor
    .rintro(h|⟨_,h⟩|⟨h,_⟩)
     all_goals grind
    .rintro(h|rfl)
     .exact .inl h
     .exact .inr (.inl ⟨rfl,rfl⟩)
   .rw[yM j];refine⟨x,rfl,h2.congr fun u w d=>?_⟩;rw[o];constructor
    .rintro(h|⟨h,_⟩|⟨h,_⟩)
     all_goals grind
    .exact .inl
theorem Hl{n:Nat}{num:Nat->Nat}{up:Nat->Option Nat}:∀(rest es:xLP)(ls:List Lw),aV n rest->jF n es num up (fun a b=>a=b) ls->jF n (es++rest) num up (fun a b=>a=b) (rest.foldl bS ls)
 |[],es,ls,_,S=>by simpa using S
 |(a,c)::rest,es,ls,d,S=>by have e:=d (a,c) Ma;obtain⟨a,rfl⟩:=Sb e.1;obtain⟨c,rfl⟩:=Sb (show 0<=c by omega);have:=Hl rest (es++[((a:Int),(c:Int))]) _ (fun q f=>d q (by simp[f])) (edgeB_S NH NH NH S);grind
def DT_(up:Nat->Option Nat)(T:II)(v u:Nat):Prop:=u=v\/∃c∈T,up c=Z v/\pJ up c u
theorem ups_S{n:Nat}{es:xLP}{num:Nat->Nat}{up:Nat->Option Nat}(F:Fo n es num up){ls:List Lw}:∀(T pre:II),(∀v,v<n->v∈pre++T)->(pre++T).Pairwise (fun a b=>num a<num b)->(∀v∈pre++T,v<n)->
  jF n es num up (fun a b=>a=b) ls->jF n es num up (DT_ up T) (T.foldr (fun x y=>Ke y x) ls)
 |[],pre,_,_,_,S=>by
  refine⟨S.toSame,fun v i=>?_⟩;obtain⟨x,E,h2⟩:=S.low v i;refine⟨x,E,h2.self,fun u w d=>?_,?_⟩
  .rcases d with rfl|⟨c,I,_⟩
   .exact h2.back _ w rfl
   .simp at I
  .exact h2.some_.imp id fun⟨u,w,d,k,e⟩=>⟨u,w,.inl d.symm,k,e⟩
 |c::T,pre,G,R,o,J=>by
  have S:=ups_S F T (pre++[c]) hGr hGr hGr J;rw[List.foldr_cons];generalize T.foldr (fun x y=>Ke y x) ls=l1 at*;have f:c<n:=o c Ma;have K:Same n num up (Ke l1 c):=⟨by rw[bq];exact S.len,fun v i=>by rw[(tU l1 _ v).1];exact S.fO v i,fun v i=>by rw[(tU l1 _ v).2];exact S.ups v i⟩;refine⟨K,fun v i=>?_⟩;obtain⟨x,E,h2⟩:=S.low v i;have r:∀d,up d=Z c->d<n->d∈T:=fun d hd s=>by have H:=(F.Kd d c s hd).2;grind
  have l:up c≠Z v->Iw es num up (DT_ up (c::T)) v x:=fun L=>by
   refine⟨h2.self,fun u w d=>h2.back u w ?_,h2.some_.imp id fun⟨u,w,d,k⟩=>⟨u,w,?_,k⟩⟩
   .rcases d with rfl|⟨d,hd,j,g⟩
    .exact .inl rfl
    .rw[Og]at hd;rcases hd with rfl|hd
     .grind
     .exact .inr hGr
   .exact d.imp id (by grind[List.mem_cons_of_mem])
  cases m:up c with
  |none=>
   have:Ke l1 c=l1:=by have:=S.ups c f;grind[upI,Ke]
   grind
  |some p=>
   have t:=F.Kd c p f m;have A:=(t.1.lt F.rD).1;obtain⟨y,M,B⟩:=S.low c f;obtain⟨z,N,C⟩:=S.low p A;have D:(Ro l1 c).2.1=(p:Int):=EN.1 ((S.ups c f).trans m)
   have O:(Ro (Ke l1 c) v).2.2=if v=p then min (z:Int) (y:Int)else(x:Int):=by simp only[Ke,D];rw[IE NH,Z6,Uw,S.len];grind
   rw[O];by_cases e:v=p
   .subst e;refine⟨min z y,NH,C.join F.rD B NH fun u U=>?_⟩;constructor
    .rintro(rfl|⟨d,hd,j,g⟩)
     .exact .inl (.inl rfl)
     .rw[Og]at hd;rcases hd with rfl|hd
      .by_cases q:d=u
       .subst q;exact .inr (.inl rfl)
       .obtain⟨k,P,Q⟩:=g.child q;exact .inr (.inr (by grind[Fo.yO]))
      .exact .inl (.inr hGr)
    .rintro(h|h)
     .exact h.imp id (by grind[List.mem_cons_of_mem])
     .rcases h with rfl|⟨d,hd,j,g⟩
      .exact .inr ⟨u,Ma,m,.refl _⟩
      .exact .inr ⟨c,Ma,m,(pJ.one j).trans g⟩
   grind
structure aay (n:Nat) (es:xLP) (ls:List Lw) (o:II) (num:Nat->Nat) (up:Nat->Option Nat):Prop extends jF n es num up (pJ up) ls where
 fo:Fo n es num up
 ord:∀(k v:Nat),o[k]?=Z v->num v=k+1
 mem:∀v,v∈o↔v<n
 nd:o.Nodup
 Em:o.length=n
 upr:∀v,v<n->-1<=(Ro ls v).2.1/\(Ro ls v).2.1<(n:Int)
theorem DT_all(F:Fo n es num up){T:II}(b:∀v,v<n->v∈T)(d:u<n):DT_ up T v u↔pJ up v u:=by
 constructor
 .rintro(rfl|⟨c,_,a,h2⟩)
  .exact .refl _
  .exact(pJ.one a).trans h2
 .intro h;by_cases e:v=u
  .exact .inl e.symm
  .obtain⟨c,a,h2⟩:=h.child e;exact .inr (by grind[Fo.yO])
theorem Iw.congrD(a:aV n es){D b:Nat->Nat->Prop}{v x:Nat}(L:Iw es num up D v x)(h:∀u,u<n->(b v u↔D v u)):Iw es num up b v x:=⟨L.self,fun u w d k=>L.back u w ((h u (k.1.lt a).1).1 d) k,L.some_.imp id fun⟨u,w,d,k,e⟩=>⟨u,w,(h u (k.1.lt a).1).2 d,k,e⟩⟩
theorem Ob(o:aV n es):∃num up,aay n es (Jz n es).1 (Jz n es).2 num up:=by
 obtain⟨C,c⟩:=ZC o n (qL0 _);have F:=PG o n (qL0 _);have fo:=metM_fo o;have l:∀v,v∈(aba n es n).2↔v<n:=fun v=>⟨C.lt v,c v⟩;have d:∀(k v:Nat),(aba n es n).2[k]?=Z v->Vu (aba n es n).1 v=k+1:=fun k v h=>by grind[Vu,FoI.num]
 have r:jF n [] (Vu (aba n es n).1) (Oj (aba n es n).1) (fun a b=>a=b) (aba n es n).1:=by
  refine⟨⟨C.len,fun v f=>?_,fun v f=>rfl⟩,fun v f=>?_⟩
  .grind[List.mem_iff_getElem?,FoI.num]
  .obtain⟨k,p⟩:=vZ.1 (c v f);refine⟨k+1,by grind[FoI.num],⟨hGr,fun u w _ h=>?_,.inl (d k v p).symm⟩⟩;rcases h.1 with h|h<;>simp at h
 have q:=Hl es [] _ o r;rw[ah2]at q;have g:((aba n es n).2).Pairwise fun a b=>Vu (aba n es n).1 a<Vu (aba n es n).1 b:=by rw[qH];intro i j hi s t;rw[d i _ (XJ hi),d j _ (XJ s)];omega
 have z:=ups_S fo (aba n es n).2 [] c g C.lt q;have m:(Jz n es).1=(aba n es n).2.foldr (fun x y=>Ke y x) (es.foldl bS (aba n es n).1):=by grind[Jz.eq_1]
 refine⟨Vu (aba n es n).1,Oj (aba n es n).1,⟨⟨?_,fun v f=>?_⟩,fo,d,l,C.nd,?_,fun v f=>?_⟩⟩
 .grind[jF.toSame]
 .grind[jF.low,Iw.congrD,DT_all]
 .have A:=C.toLowI.Em;have h2:=(AQ (n:=n)).length_le_of_subset (l₂:=(aba n es n).2) hGr;simp at h2;show(aba n es n).2.length=n;omega
 .rw[m];obtain⟨k,p⟩:=vZ.1 (c v f);have e:(Ro ((aba n es n).2.foldr (fun x y=>Ke y x) (es.foldl bS (aba n es n).1)) v).2.1=(Ro (aba n es n).1 v).2.1:=by grind[Jz.eq_1,ack,RK]
  rw[e];refine⟨?_,C.up v f⟩;grind[FoI.up]
variable {xs ys:RZ}
theorem GI.join{v x:vV}(g:GI h v xs)(c:WF h)(d:RL RP h x ys)(i:xs.length+ys.length<=1000000000):
  ∃v' a,aaR pG h 28 28 v x=Z (v',a)/\GI a v' (xs++ys)/\WF a/\
   (∀f,Le f h->Z2 f v->Le f a/\Z2 f v')/\(∀b o,h.own b=Z o->blk v≠Z b->a.own b=Z o/\blk v'≠Z b):=by
 have j:CS 1 h x ys.length (Bp ys):=by have:=RS.cs d.cellsI;grind[Bp]
 obtain⟨v',a,m,n,hf⟩:=GS.append (P:=pG) (t:=28) (xt:=28) (k:=1) Ji g (fun e l=>CS.src l j) (yG _) (yG _) (by simp[Bp]) i;grind[xr,aG,Bp,GI.eq_1]
variable {j:Nat} {x:Int}
def mk2I(h:aai)(x y:Int):aas pG h 28 2 [(0,x),(1,y)]=Z (sL (Z h.next) 2 2,h.alloc (.cells [x,y])):=rfl
def agl(rows:AM)(L:RZ):Nat->Nat->RZ
  |0,v=>[(v:Int)]
  |k+1,v=>(v:Int)::match(rows.getD v []).find? (fun w=>decide (L.getD w.toNat 0=L.getD v 0-1))with
    |some w=>agl rows L k w.toNat
    |none=>[]
def DO(n:Nat)(es:xLP)(a b:Nat):RZ:=agl (Zh n es) (NY (Zh n es) n b) ((NY (Zh n es) n b).getD a 0).toNat a
theorem find_at{p:Int->Bool}{l:RZ}(b:l[j]?=Z x)(c:p x=tT)(a:∀(i:Nat) y,i<j->l[i]?=Z y->p y=fF):l.find? p=Z x:=by grind[List.find?_eq_some_iff_getElem]
theorem Path_fun(W0:LA)(v:vV)(G:GM)(a b:Int)(h:aai)(hg:GR h v G):
  AC pG W0 124 [v,a,.int .i64 b] h fun x h'=>Le h h'/\∃r e,x=.tuple #[r,.int .i64 e]/\r.oneCell'=tT/\
   (bX G->0<=a->a<G.n->0<=b->b<G.n->(e=0↔Pu G.es b.toNat a.toNat)/\(e=0->GI h' r (DO G.n.toNat G.es a.toNat b.toNat)/\Z2 h r/\Far G.n.toNat G.es b.toNat (NY (Zh G.n.toNat G.es) G.n.toNat b.toNat))):=by
 have av:=hg;obtain⟨gn,es⟩:=G
 obtain⟨ev,rfl,hp⟩:=hg.open
 refine AC.vE ⟨func124,rfl,WY⟩ ntmps124 results124 fun ay=>?_;simp only[Br,seval];obtain⟨h1,b1,R,az,-,lA⟩:=r8 (n:=gn) ay hp
 generalize h.next=B at*
 have aC:=lA h1 (Le.refl _);obtain⟨h2,e2,l2,w2,o2⟩:=Tt az [a,.int .i64 b]
 have rs:RL RP h2 (sL (Z ⟨h1.next,0,Y⟩) 2 2) [a,b]:=RL.Wh (RS.whole o2 rfl)
 refine sFa (ae7 b1 aC.1 @mk2I e2) ?_
 generalize vV.slice (Z ⟨h1.next,0,Y⟩) 2 2=sv at*
 refine kCi func52 (N7 W0 _ sv ⟨gn,es⟩ [a,b] h2 (av.le (R.trans l2)) rs Ma) ?_;rintro x h3 bg ⟨aD,r,e,rfl,hc⟩;have d:=(R.trans l2).trans aD;rcases hc with⟨aF,rfl,rfl⟩|⟨J,bh,rfl,rfl⟩|⟨J,hs,rfl,c⟩
 .refine sFa (XC @bne.eq_1.{0} @d20) ?_
  exact⟨d,_,_,rfl,rfl,fun J=>absurd J aF⟩
 .refine sFa (XC @bne.eq_1.{0} @d2) ?_
  exact⟨d,_,_,rfl,rfl,fun _ h1 h2 h3 o=>by grind⟩
 have h0:0<=gn:=J.n0;obtain⟨n,rfl⟩:=Sb h0;have a8:(n:Int)<=200:=J.n1;have bb:es.length<=594:=J.len;have hR:=J.GD;have ha:=hs a Ma;have hb:=hs b Ma;simp only at ha hb;obtain⟨a,rfl⟩:=Sb ha.1;obtain⟨b,rfl⟩:=Sb hb.1;have C:a<n:=NH;have aH:b<n:=NH;clear hs ha hb;simp only[Z6]at c ⊢;refine sFa @bne.eq_1.{0} ?_
 refine kCi func157 (away_fun W0 r n b es h3 c hR NH NH aH) ?_;rintro D o S ⟨L,hL,P,s,eL⟩;have p:∀u,u<n->aao pG 28 D (.int .i64 u)=Z (pT (Z (aaq D u))):=fun u hu=>hL.TA u (by rw[P.len];exact hu);have K:∀g,Le o g->∀u l,u<n->L[u]?=Z l->aaC pG g 3 (aaq D u)=Z (.int .i64 l):=fun g lg u l hu hl=>by have:=(hL.le Nn.RP lg).Uc u (by rw[P.len];exact hu);grind
 have q:=CA (show a<L.length by grind[Far.len]);generalize L[a]'(by grind)=la at q
 have T:=K o (Le.refl _) a la C q;have U:=P.pos a la q;by_cases c0:la<0
 .refine sFa (adG (p a C) T c0) ?_;exact⟨d.trans s,_,_,rfl,rfl,fun _ _ _ _ _=>⟨⟨(fun h=>by cases h),fun h=>by grind⟩,fun h=>by cases h⟩⟩
 obtain⟨k0,rfl⟩:=Sb (show 0<=la by omega);obtain⟨h5,e5,l5,w5,o5⟩:=Tt S [a];refine sFa (afK (p a C) T c0 @DQ e5) ?_
 have nW:o.own o.next=Y:=(Le.refl o).next S (qL0 _)
 have g5:GI h5 (sL (Z ⟨o.next,0,Y⟩) 1 1) [(a:Int)]:=GS.full o5 rfl (show 1<1000000000000 by decide)
 have V:Z2 o (sL (Z ⟨o.next,0,Y⟩) 1 1):=fun b hb=>by grind[blk]
 generalize vV.slice (Z ⟨o.next,0,Y⟩) 1 1=M at*
 have W:=(P.bd a _ q).2;refine aab.intro (fun k fr X=>∃(v:Nat)(N:vV)(xs:RZ),fr=mkF [(2,.int .i64 b),(8,r),(10,D),(11,N),(12,v)]/\v<n/\L[v]?=Z (k:Int)/\GI X N xs/\xs.length+k<=300/\Le o X/\Z2 o N/\∃pre,xs=pre++[(v:Int)]/\pre++agl (Zh n es) L k v=agl (Zh n es) L k0 a)
  k0 [(2,.int .i64 b),(8,r),(10,D),(11,M),(12,a)] fD ⟨a,M,[(a:Int)],rfl,C,q,g5,by simp;omega,l5,V,[],rfl,rfl⟩ ?_
 clear V g5 nW o5 w5 l5 e5;clear h5 M;rintro k fr X bk ⟨v,N,xs,rfl,hv,E,gw,bm,leq,aa,pre,aJ,aK⟩;by_cases c1:(v:Int)=(b:Int)
 .obtain rfl:v=b:=NH;have cc:decide ((v:Int)=(v:Int))=tT:=by simp
  refine sFa (XC @bne.eq_1.{0} cc) ?_
  refine⟨(d.trans s).trans leq,_,_,rfl,gw.rl.one,fun _ _ _ _ _=>⟨⟨fun _=>U.1 NH,fun _=>rfl⟩,fun _=>⟨?_,fun b hb=>(d.trans s).none (aa b hb),hGr⟩⟩⟩;have W:k=0:=by grind[Far.self]
  subst W;have e1:DO n es a v=agl (Zh n es) L k0 a:=by unfold DO;rw[<-eL,j9,q];rfl
  grind[agl]
 have hk:0<k:=by
  rcases Nat.eq_zero_or_pos k with rfl|h
  all_goals grind[Far.zero]
 have cc:decide ((v:Int)=(b:Int))=fF:=hGr;have F:v<(Zh n es).length:=by grind[Xq]
 have aL:=c.Wm v F;obtain⟨uv,aN,f⟩:=c.NS v F;have t:(Zh n es).getD v []=(Zh n es)[v]:=D4 F;generalize (Zh n es)[v]=row at f t;have lr:=fun g=>f.DH g;have bo:row.length<=3000:=by have:=bV n es row (by rw[<-t,D4 F];grind);omega
 simp only[HO,seval,bne,cc,aL,aN X (s.trans leq),lr];refine aab.intro (fun m fr hh=>∃j:Nat,m=row.length-j/\j<=row.length/\fr=mkF [(2,.int .i64 b),(8,r),(10,D),(11,N),(12,v),(43,uv),(44,row.length),(45,j)]/\hh=X/\∀(i:Nat)(w:Nat),i<j->row[i]?=Z (w:Int)->L[w]?≠Z ((k:Int)-1))
  row.length [(2,.int .i64 b),(8,r),(10,D),(11,N),(12,v),(43,uv),(44,row.length),(45,(0:Nat))] fD ⟨0,rfl,abe _,rfl,rfl,NH⟩ ?_
 rintro m fr hh aP ⟨j,rfl,hj,rfl,rfl,aT⟩;refine sSs ?_;refine Kl.intro (fun ht=>?_) (fun hf=>?_)
 rotate_left
 .have br:row.length<=j:=vp hf;exfalso;obtain⟨w,aW,A⟩:=P.pre v k E NH;have hm:=(EW hR v w).2 aW;rw[t]at hm;obtain⟨i,hi⟩:=vZ.1 hm;grind
 have H:j<row.length:=CC ht;clear ht;have O:=CA H;have ae:=f.TA j H;have ag:=(f.le Nn.RP (s.trans leq)).Uc j H;have ai:row[j]∈(Zh n es).getD v []:=hGr;generalize row[j]=x at ag O ai;obtain⟨w,rfl,I⟩:=Ru hR ai;have A:=CA (show w<L.length by grind[Far.len]);generalize L[w]'(by grind)=lw at A
 have aj:=K hh leq w lw I A;have al:=K hh leq v k hv E;have aq:aaY .i64 ((k:Int)-1)=(k:Int)-1:=ie _ NH NH;refine sFa (XC ae ag) ?_;refine gh (tA [0,1,2,3,4,5,6,7,8,9] .done) ?_;by_cases c2:lw=(k:Int)-1
 .have dd:decide (lw=(k:Int)-1)=tT:=hGr;obtain⟨ar,h6,h7,e6,e7,g7,w7,l6,hf,bx⟩:=gw.push aP (w:Int) NH;obtain⟨l7,a7⟩:=hf o leq aa;refine sFd (afN (p w I) aj (p v hv) al aq dd) ?_;refine sFa (XC e6 e7) ?_;refine tn (k-1) [(2,.int .i64 b),(8,r),(10,D),(11,ar),(12,w)] NH fD ⟨w,ar,_,rfl,I,by rw[A,c2];congr 1;omega,g7,by simp;omega,l7,a7,pre++[(v:Int)],by rw[aJ],?_⟩;rw[<-aK,bC];congr 1;obtain⟨k,rfl⟩:∃k',k=k'+1:=⟨k-1,NH⟩;rw[agl,t,find_at O (by rw[uV,Z6,j9,j9,A,E];exact c2) (fun i y hi Q=>by
   have aX:y∈(Zh n es).getD v []:=by rw[t];exact BS Q
   obtain⟨z,rfl,hz⟩:=Ru hR aX;have a6:=CA (show z<L.length by rw[P.len];exact hz);have:=aT i z hi Q;rw[qL177,Z6,j9,j9,E];intro e;rw[a6]at this e;exact this (by congr 1))]
  simp
 .have dd:decide (lw=(k:Int)-1)=fF:=hGr;refine sFd (afN (p w I) aj (p v hv) al aq dd) ?_;refine sFa (aaa j NH) ?_;refine tn (row.length-(j+1)) [(2,.int .i64 b),(8,r),(10,D),(11,N),(12,v),(43,uv),(44,row.length),(45,(j+1:Nat))] NH fD ⟨j+1,rfl,H,rfl,rfl,fun i y hi Q=>?_⟩;by_cases e:i=j
  .subst e;rw[O]at Q;injection Q with Q;obtain rfl:w=y:=NH;grind
  grind
end
end Go.Fw
