/- A text. -/
import Derived.Test.YtnakkbhjoiheoaaGreatFwPA2
set_option linter.all false
set_option maxRecDepth 99999
set_option maxHeartbeats 9999999
open Go.Proofs
open Option renaming some→Z,none→Y
open Bool renaming true→tT,false→fF
open Go.Value renaming pointer→pT
open Go renaming Value→vV
open Go.Proofs.Tryz renaming prog→pG
open Go.Proofs.Tryz
namespace Go.Fw
section
attribute [local irreducible] Kp MQ lU KO1 KO KN KX KE VK Kl ZJ TC aab
attribute [local irreducible] Jz JL vq cQ aaN
variable {es ps:List Pr} {ev:Value} {n:Nat} {x:Pr}
def eqBQ(a b:Bool):aEq pG 4 (.bool a) (.bool b)=Z (a==b):=by simp[aEq,AV]
def ahG{h a:aai}(hw:WF h){Y:Nat}{n:Int}(o:h.own Y=Z (.cells [.int .i64 0,.slice none 0 0]))(g:GP h ev es)(b:blk ev≠Z Y)(l:Le a h)(n0:a.own Y=none):
  ∃h',aaK pG h 24 (pT (Z Y)) (.agg #[n,ev])=Z h'/\Le a h'/\WF h'/\GP h' ev es/\h'.own Y=Z (.cells [n,ev]):=by
 obtain⟨_,_,e,-⟩:=g.pr.sl;exact⟨_,aib o g.pr.sl.one (by rw[e];rfl),l.put _ n0,hw.put _ (hw.lt o),GS.put g _ b,aai.Y3 _ _ _⟩
def afb(d:LA)(n:Int)(v:vV)(ps:xLP)(h:aai)(e:PR h v ps)(c:ps.length<=100000):
  AC pG d 26 [n,v] h fun x h'=>Le h h'/\∃(m k:Int)(ev:vV)(L:xLP),x=.tuple #[.agg #[m,ev],k]/\GP h' ev L/\Z2 h ev/\((k=0/\m=n/\YG n ps/\L=sg ps)\/(k≠0/\¬YG n ps/\L=[])):=
 (akV d n v ps h e c).mono fun x h' ⟨l,q⟩=>⟨l,by
  rcases q with⟨no,k,f,rfl⟩|⟨ok,ev,rfl,g,a⟩
  .exact⟨0,k,_,[],rfl,GP.nil _,fun b hb=>by simp[blk]at hb,.inr ⟨f,no,rfl⟩⟩
  .exact⟨n,0,ev,_,rfl,g,a,.inl ⟨rfl,rfl,ok,rfl⟩⟩⟩
def akW(a:bX ⟨(n:Int),es⟩)(k:YG (n:Int) (es++[x])):lZ x∉es:=fun h=>by have nd:=k.nd;rw[Bx,jf]at nd;exact nd.2.2 (lZ x) (Eh.2 ⟨lZ x,h,akr (a.GD _ h).2.1⟩) (lZ x) Ma rfl
def akX:lZ x∈sg (es++[x]):=by unfold sg;rw[Wb];exact Eh.2 ⟨x,Ma,rfl⟩
def circ_no{d:AM}(e:bX ⟨(n:Int),es⟩)(k:YG (n:Int) (es++[x]))(G:Av n es d):¬akC ⟨(n:Int),sg (es++[x])⟩ d []:=fun⟨c,q⟩=>by
 rcases q with⟨-,g,-⟩|⟨q,-⟩
 .have f:=akX (es:=es) (x:=x);have h:=akW e k;obtain⟨l,i,m⟩:=c.GD _ f;generalize lZ x=p at*;obtain⟨a,b,rfl⟩:∃a b:Nat,p=((a:Int),(b:Int)):=⟨p.1.toNat,p.2.toNat,ahJ (by simp only;omega) (by simp only;omega)⟩;have j:b∈Xl d a:=(g.mem c.GD).2 (.inl f);rcases(G.mem e.GD).1 j with q|q
  .exact h q
  .have:=(e.GD _ q).2.1;simp only at i this;omega
 .exact q rfl
def list_no{es xs:xLP}(b:lZ x∉es):¬akC ⟨(n:Int),es⟩ [] (sg (xs++[x])):=fun⟨_,q⟩=>by
 have a:=akX (es:=xs) (x:=x);rcases q with⟨q,-⟩|⟨-,-,-,q⟩
 .rw[q]at a;cases a
 .exact b (q _ a)
def nil_no(h2:2<=n)(a:ps=[]):¬akC ⟨(n:Int),es⟩ [] ps:=fun⟨_,q⟩=>by
 rcases q with⟨-,G,-⟩|⟨q,-⟩
 .have:=G.len;simp only[Z6,air]at this;omega
 .exact q a
def ahH{b:Bool}{p:Prop}(h:b=tT↔p)(a:¬p):b=fF:=by
 cases b
 .rfl
 .exact absurd (h.1 rfl) a
def akg(t:LA)(v ov bv mv:vV)(G:GM)(os:RZ)(bs:List Bool)(mp:Pr)(h:aai)(hg:GR h v G)(ho:RL isH h ov os)(hb:RL sJ h bv bs)(hm:U2 mv mp):
  AC pG t 5 [v,ov,bv,mv] h fun x h'=>x=.bool tT/\Le h h':=by
 have c6:=hg;obtain⟨gn,es⟩:=G
 obtain⟨ev,rfl,hp⟩:=hg.open
 obtain⟨rfl,m1,m2,m3,m4⟩:=hm;refine AC.vE ⟨func5,rfl,WY⟩ ntmps5 results5 fun kv=>?_;simp only[Br,seval];obtain⟨h1,b1,kx,ky,-,lA⟩:=r8 (n:=gn) kv hp;obtain⟨h2,b2,iu,lJ,o2⟩:=box48 ky mp
 generalize h.next=B at*
 generalize h1.next=M at*
 have jv:=kx.trans iu;refine sFa (adG b1 b2 ((lA h2 iu).1)) ?_;refine kCi func21 (ajp t _ ⟨gn,es⟩ h2 (c6.le jv)) ?_;rintro x h3 w3 ⟨⟨bb,rfl,jx⟩,l3⟩;have eC:=jv.trans l3;have gq:=iu.trans l3;have o3:=l3.own _ _ o2;clear o2;cases bb with
 |false=>refine sSs ?_;refine kCi qS26 (ahU t h3) ?_;rintro x h4 w4 ⟨rfl,l4⟩;refine sSs ?_;exact⟨trivial,eC.trans l4⟩
 |true=>
 obtain⟨U,hn,he⟩:=jx.1 rfl;clear jx;obtain⟨n,rfl⟩:=Sb U.n0;simp only at hn he;by_cases c2:n<2
 .have d2:decide ((n:Int)<2)=tT:=qL7 NH;refine sFa (afK @Ii @Ip.eq_1 @Gc ((lA h3 gq).2.1) @d2) ?_;refine kCi qS26 (ahU t h3) ?_;rintro x h4 w4 ⟨rfl,l4⟩;refine sSs ?_;exact⟨trivial,eC.trans l4⟩
 have d2:decide ((n:Int)<2)=fF:=WA NH;have n2:2<=n:=NH;refine sFa (afK @Ii @Ip.eq_1 @Gc ((lA h3 gq).2.1) @d2) ?_;refine gh (tA [0,1,3,4] (JQ 2 [0,1] (JQ 5 [2,3,4] (tA [6,7] .done)))) ?_;refine sFd ((lA h3 gq).1) ?_;refine kGi func22 (akJ t _ ov n es os h3 (c6.le eC) (ho.le Nn.isH eC) U) ?_;rintro sv h4 w4 ⟨ss,SG,hs,l4⟩;have gu:=gq.trans l4;have eG:=eC.trans l4;refine sFd ((lA h4 gu).1) ?_;refine kGi func23 (akL t _ bv ⟨(n:Int),es⟩ bs h4 (c6.le eG) (hb.le Nn.sJ eG) (by simp only;omega)) ?_;rintro xv h5 w5 ⟨gx,l5,ax⟩;have eH:=gu.trans l5;have eI:=eG.trans l5;have jA:=aj2 es bs;simp only at gx;generalize afD es bs=xs at*;have gv:=(rlG_rl hs).le (Nn.RL Nn.RP) (Le.refl h4);have iv:=gv.le (Nn.RL Nn.RP) l5;have lx:=fun g=>gx.pr.len g;have kQ:ss≠[]:=fun e=>by have:=SG.len;rw[e,air]at this;omega
 simp only[HO,seval,Qg];apply Ya (F:=fun(fr:aam)(hq:aai)=>Fj fr [(4,pT (Z B)),(7,pT (Z M)),(9,sv),(10,xv),(57,.bool fF)]/\Le h5 hq/\WF hq)
 .intro cont;refine gh (tA [0,1,3,4] (JQ 2 [0,1] (JQ 5 [2,3,4] (tA [6,7,8,9,10,11,12,13,14] (JQ 15 [11,12,13,14] (tA [16,17,18,20] (JQ 19 [16,17,18] (JQ 21 [16,19,20] (tA [22,23,24,25,26] .done))))))))) ?_;simp only[kJJ,seval,Qg,(lA h5 eH).1];refine kGi UP (ahY t _ sv (.slice none 0 0) ⟨(n:Int),es⟩ ss [] h5 (c6.le eI) iv (PR.nil _)) ?_;rintro y h6 w6 ⟨⟨q1,rfl,e1⟩,l6⟩;simp only[kJJ,seval,Qg,(lA h6 (eH.trans l6)).1];refine kGi func24 (akf t _ sv ⟨(n:Int),es⟩ ss h6 (c6.le (eI.trans l6)) (iv.le (Nn.RL Nn.RP) l6)) ?_;rintro y h7 w7 ⟨⟨q2,rfl,e2⟩,l7⟩;have eu:=l6.trans l7;have e3:q1=tT↔q2=tT:=by
   rw[e1,e2];exact⟨fun q=>⟨q.1,q.2.elim (fun k=>k.2) fun k=>absurd rfl k.1⟩,fun q=>⟨q.1,.inl ⟨rfl,q.2⟩⟩⟩
  obtain rfl:q1=q2:=by cases q1<;>cases q2<;>simp_all
  have eb:(q1==q1)=tT:=by cases q1<;>rfl
  clear e1 e2 e3;by_cases cx:xs=[]
  .subst cx;have dx:decide (((([]:xLP).length:Nat):Int)>0)=fF:=by decide
   simp only[kJJ,seval,Qg,lx,dx,eqBQ,bne,eb,Bc];refine KN.UJ fun fr' h' x y=>cont fr' h' ?_;rw[x,y];exact⟨fD,eu,w7⟩
  have xp:0<xs.length:=dU.2 cx;have dx:decide ((xs.length:Int)>0)=tT:=qL7 NH;have iz:decide (0<(xs.length:Int))=tT:=qL7 NH;simp only[kJJ,seval,Qg,lx,dx,eqBQ,bne,eb,Bc,(lA h7 (eH.trans eu)).1];refine kGi UP (ahY t _ sv xv ⟨(n:Int),es⟩ ss xs h7 (c6.le (eI.trans eu)) (iv.le (Nn.RL Nn.RP) eu) (gx.pr.le eu)) ?_;rintro y h8 w8 ⟨⟨q3,rfl,e1⟩,l8⟩;obtain rfl:q3=fF:=ahH e1 fun q=>q.2.elim (fun k=>cx k.1) fun k=>kQ k.2.1;clear e1;have gy:=eu.trans l8;simp only[kJJ,seval,Qg,lx,dx,iz,eqBQ,bne,eb,Bc,(lA h8 (eH.trans gy)).1];refine kGi UP (ahY t _ (.slice none 0 0) xv ⟨(n:Int),es⟩ [] xs h8 (c6.le (eI.trans gy)) (RN _) (gx.pr.le gy)) ?_;rintro y h9 w9 ⟨⟨q4,rfl,e1⟩,l9⟩;have jC:=gy.trans l9;simp only[kJJ,seval,Qg,lx,dx,iz,eqBQ,bne,eb,Bc];refine kGi func25 (akB t xv xs h9 (gx.pr.le jC)) ?_;rintro y lL kR ⟨rfl,kT⟩;have e2:q4=!decide (aaz xs=0):=by
   by_cases k:aaz xs=0
   .rw[qL7 k];exact ahH e1 fun q=>q.2.elim (fun k=>cx k.1) fun q=>q.2.2.1 k
   .rw[WA k];exact e1.2 ⟨U,.inr ⟨cx,rfl,k,fun p hp=>jA.subset hp⟩⟩
  have kU:(q4==q4)=tT:=by cases q4<;>rfl
  simp only[kJJ,seval,Qg,lx,dx,iz,bne,eqBQ,eb,<-e2,kU,Bc];refine KN.UJ fun fr' h' x y=>cont fr' h' ?_;rw[x,y];exact⟨fD,jC.trans kT,kR⟩
 rintro fr hq ⟨c9,gA,wq⟩;simp only[Fj]at c9;obtain⟨i,f7,j,c,jE,-⟩:=c9;have gG:=eH.trans gA;have kW:=eI.trans gA;have jG:=gx.le gA;have jH:=l5.trans gA;have cv:∀(x:Int)(g:aai),0<=x->x<256->acX pG g 5 3 (.int .u8 x)=Z (.int .i64 x,g):=fun x g h1 h2=>by simp only[acX,qS14,Ac,ie x NH NH]
 have kX:=fun g=>cv mp.1 g m1 m2;have k3:=fun g=>cv mp.2 g m3 m4;have nz:¬((n:Int)=0):=NH;obtain⟨x,hx⟩:∃x:Pr,x=(mp.1.tmod (n:Int),mp.2.tmod (n:Int)):=⟨_,rfl⟩;have k7:acB pG 49 [(0,.int .i64 (mp.1.tmod (n:Int))),(1,.int .i64 (mp.2.tmod (n:Int)))]=Z (UI x):=by rw[hx];exact xe _ _
 obtain⟨g5,g6,q5,q6,l6,w6,o6,jK⟩:=new42b wq x;have iA:=l4.trans jH;have k4:=ld48 (iA.own _ _ o3);have k5:=ld48 ((iA.trans jK).own _ _ o3);have k6:=ld48 ((iA.trans l6).own _ _ o3);have j4:=(lA hq gG).2.1;have j5:=(lA g5 (gG.trans jK)).2.1;have j6:=(lA g6 (gG.trans l6)).2.1
 have nE:hq.own hq.next=none:=(Le.refl hq).next wq (qL0 _)
 have xE:blk xv≠Z hq.next:=fun e=>GS.Sy jG e nE
 have oE:=o6
 generalize hq.next=E at*
 refine sFa jE ?_;refine gh (tA [0,1,2,3,4,5,6,7,8,9,10,11,12] (JQ 13 [] (JQ 14 [0,1,2,3,4,5,6,7,8,9,10,11,12,13] .done))) ?_;simp only[HO,seval,Qg,i,f7,ua0,ua1,Ii,Ip,Gc,k4.1,k4.2,k5.1,k5.2,k6.1,k6.2,j4,j5,j6,kX,k3,nz,k7,q5,q6];have jO:=gG.trans l6;have jP:=kW.trans l6;have iB:=jH.trans l6;have iD:=jG.le l6;have pe:∀g,Le g6 g->PR g ev es:=fun g l=>hp.le (jP.trans l);have f:∀g,Le g6 g->aaC pG g 3 ⟨B,0,none⟩=Z (.int .i64 (n:Int))/\aaC pG g 22 ⟨B,1,none⟩=Z ev/\aaC pG g 49 ⟨E,0,none⟩=Z (UI x):=fun g l=>⟨(lA g (jO.trans l)).2.1,(lA g (jO.trans l)).2.2,uM (l.own _ _ oE)⟩;obtain⟨hz,iE⟩:∃hz,hz=g6:=⟨_,rfl⟩;obtain⟨gz,iF⟩:∃gz,gz=g6:=⟨_,rfl⟩;have wz:WF gz:=iF▸w6;apply Ya (F:=fun(fr:aam)(h':aai)=>∃(Y:Nat)(m k:Int)(a:vV)(L:xLP),Fj fr [(4,pT (Z B)),(9,sv),(10,xv),(11,pT (Z E)),(12,pT (Z Y)),(13,.int .i64 k)]/\hz.own Y=none/\
  Le hz h'/\WF h'/\GP h' a L/\Z2 hz a/\h'.own Y=Z (.cells [m,a])/\((k=0/\m=(n:Int)/\YG (n:Int) (es++[x])/\L=sg (es++[x]))\/(k≠0/\¬YG (n:Int) (es++[x])/\L=[])))
 .intro cont;have lz:Le hz gz:=by rw[iE,iF];exact Le.refl _
  rw[<-iE]at pe f;rw[<-iF];refine gh (tA [0,1,2,3,5] (.ch 4 [3] (.ch 6 [5] (.ch 7 [4,6] (.ch 8 [1,7] (tA [9,10,11] (JQ 12 [] (JQ 13 [0,1,2,3,4,5,6,7,8,9,10,12] (tA [14] .done)))) (JQ 12 [] (JQ 8 [1,7] (tA [9,10,11] (JQ 13 [0,1,2,3,4,5,6,7,8,9,10,12] (tA [14] .done)))))) (JQ 12 [] (JQ 7 [4,6] (JQ 8 [1,7] (tA [9,10,11] (JQ 13 [0,1,2,3,4,5,6,7,8,9,10,12] (tA [14] .done))))))) (JQ 12 [] (JQ 6 [5] (JQ 7 [4,6] (JQ 8 [1,7] (tA [9,10,11] (JQ 13 [0,1,2,3,4,5,6,7,8,9,10,12] (tA [14] .done)))))))) (.ch 6 [5] (.ch 4 [3] (.ch 7 [4,6] (.ch 8 [1,7] (tA [9,10,11] (JQ 12 [] (JQ 13 [0,1,2,3,4,5,6,7,8,9,10,12] (tA [14] .done)))) (JQ 12 [] (JQ 8 [1,7] (tA [9,10,11] (JQ 13 [0,1,2,3,4,5,6,7,8,9,10,12] (tA [14] .done)))))) (JQ 12 [] (JQ 7 [4,6] (JQ 8 [1,7] (tA [9,10,11] (JQ 13 [0,1,2,3,4,5,6,7,8,9,10,12] (tA [14] .done))))))) (JQ 12 [] (JQ 4 [3] (JQ 7 [4,6] (JQ 8 [1,7] (tA [9,10,11] (JQ 13 [0,1,2,3,4,5,6,7,8,9,10,12] (tA [14] .done)))))))) (JQ 12 [] (.ch 4 [3] (JQ 6 [5] (JQ 7 [4,6] (JQ 8 [1,7] (tA [9,10,11] (JQ 13 [0,1,2,3,4,5,6,7,8,9,10,12] (tA [14] .done)))))) (JQ 6 [5] (JQ 4 [3] (JQ 7 [4,6] (JQ 8 [1,7] (tA [9,10,11] (JQ 13 [0,1,2,3,4,5,6,7,8,9,10,12] (tA [14] .done)))))))))))) ?_;have Sz:=f gz lz;obtain⟨ew,jQ,jR,jS,ij⟩:=afX wz x;have ey:=lz.trans jR;have k8:=f ew ey;obtain⟨eL,iG,eM,lG,eO⟩:=agm jS;have ec:=ey.trans eM
  have eQ:hz.own ew.next=none:=ey.next jS (qL0 _)
  have iH:=ij.le eM;have jT:=f eL ec;obtain⟨iI,jU,jV,k9,eS⟩:=agm wz;have eT:=lz.trans jV
  have ed:hz.own gz.next=none:=lz.next wz (qL0 _)
  have la:=f iI eT;obtain⟨eU,iK,eV,lI,iL⟩:=afX k9 x;have ee:=eT.trans eV;have eW:=eV.own _ _ eS;have jZ:=f eU ee;simp only[kJJ,seval,Qg,i,j,c,Ii,Di,Ip,Gc,Sz,jQ,k8,iG,jT,jU,la,iK,jZ];refine⟨?_,⟨⟨?_,?_⟩,⟨?_,?_⟩⟩⟩
  .refine kGi aky (ad8 t ev es gz (pe gz lz) (akK U.len)) ?_;rintro cv aa b5 ⟨aF,lC,aC⟩;have b6:=lz.trans lC;have V:Z2 hz cv:=fun b hb=>lz.none (aC b hb);have iM:=f aa b6;obtain⟨J,dB,aH,ae,aJ⟩:=afX b5 x;have ag:=b6.trans aH;have W:=aF.le aH;have eX:=f J ag;obtain⟨aK,u,b8,ai,aP,b9,gJ⟩:=W.join ae aJ (aj1 U.len);obtain⟨o,-⟩:=b9 hz ag V;have dE:=f u o;obtain⟨aj,aT,K,gM,N⟩:=agm aP;have w:=o.trans K
   have O:hz.own u.next=none:=o.next aP (qL0 _)
   have aW:=ai.le K;have cc:=f aj w;obtain⟨dF,cd,z,dH,cf⟩:=agm ae;have aX:=ag.trans z
   have al:hz.own J.next=none:=ag.next ae (qL0 _)
   have cg:=W.le z
   have ck:blk cv≠Z J.next:=fun e=>GS.Sy W e ((Le.refl J).next ae (qL0 _))
   have cm:=aJ.le z;have dI:=f dF aX;obtain⟨cp,aq,a6,a7,gR,a8,bh⟩:=cg.join dH cm (aj1 U.len);obtain⟨A,-⟩:=a8 hz aX V;have P:=(bh _ _ cf ck).1;have cq:=f aq A;obtain⟨eZ,dJ,bk,e0,dL⟩:=agm b5;have da:=b6.trans bk
   have bm:hz.own aa.next=none:=b6.next b5 (qL0 _)
   have dM:=aF.le bk
   have dO:blk cv≠Z aa.next:=fun e=>GS.Sy aF e ((Le.refl aa).next b5 (qL0 _))
   have e5:=f eZ da;obtain⟨dQ,cz,C,dS,cC⟩:=afX e0 x;have bo:=da.trans C;have cE:=dM.le C;have cJ:=C.own _ _ dL;have dT:=f dQ bo;obtain⟨cK,ar,br,bx,gS,bB,bF⟩:=cE.join dS cC (aj1 U.len);obtain⟨D,-⟩:=bB hz bo V;have Q:=(bF _ _ cJ dO).1;have cM:=f ar D;simp only[kJJ,seval,Qg,i,j,c,Ii,Di,Ip,Gc,iM,dB,eX,b8,dE,aT,cc,cd,dI,a6,cq,dJ,e5,cz,dT,br,cM];refine⟨⟨⟨?_,?_⟩,?_⟩,?_⟩
   .refine kGi yU (afb t (n:Int) aK _ u ai.pr (ajs U.len)) ?_;rintro y av ay ⟨H,m,k,a,L,rfl,X,I,cN⟩;have d:=o.trans H;have cP:=f av d;obtain⟨gE,gF,eE,eF,s,wF,oF,lE⟩:=newGo ay (n:=m) X.pr;have SE:=f gE (d.trans lE);have SF:=f gF (d.trans s);simp only[kJJ,seval,Qg,i,j,c,Ii,Di,Ip,Gc,cP,SE,SF,eE,eF];refine KN.UJ fun fr' h' x y=>cont fr' h' ?_;rw[x,y]
    exact⟨av.next,m,k,a,L,(by simp only[Fj,HO,seval,i,j,c];simp),d.next ay (qL0 _),d.trans s,wF,X.le s,fun b hb=>o.none (I b hb),oF,cN⟩
   .refine kGi yU (afb t (n:Int) aK _ aj aW.pr (ajs U.len)) ?_;rintro y bG bH ⟨H,m,k,a,L,rfl,X,I,cN⟩;have R:=w.trans H;have bI:=f bG R;obtain⟨gF,eF,s,wF,gL,oF⟩:=ahG (n:=m) bH (H.own _ _ N) X (fun e=>by have:=I _ e;rw[N]at this;cases this) R O;have SF:=f gF s;simp only[kJJ,seval,Qg,i,j,c,Ii,Di,Ip,Gc,bI,SF,eF];refine KN.UJ fun fr' h' x y=>cont fr' h' ?_;rw[x,y]
    exact⟨u.next,m,k,a,L,(by simp only[Fj,HO,seval,i,j,c];simp),O,s,wF,gL,fun b hb=>w.none (I b hb),oF,cN⟩
   .refine kGi yU (afb t (n:Int) cp _ aq a7.pr (ajs U.len)) ?_;rintro y bN bQ ⟨H,m,k,a,L,rfl,X,I,cN⟩;have S:=A.trans H;have bW:=f bN S;obtain⟨gF,eF,s,wF,gL,oF⟩:=ahG (n:=m) bQ (H.own _ _ P) X (fun e=>by have:=I _ e;rw[P]at this;cases this) S al;have SF:=f gF s;simp only[kJJ,seval,Qg,i,j,c,Ii,Di,Ip,Gc,bW,SF,eF];refine KN.UJ fun fr' h' x y=>cont fr' h' ?_;rw[x,y]
    exact⟨J.next,m,k,a,L,(by simp only[Fj,HO,seval,i,j,c];simp),al,s,wF,gL,fun b hb=>A.none (I b hb),oF,cN⟩
   .refine kGi yU (afb t (n:Int) cK _ ar bx.pr (ajs U.len)) ?_;rintro y bY bZ ⟨H,m,k,a,L,rfl,X,I,cN⟩;have T:=D.trans H;have b0:=f bY T;obtain⟨gF,eF,s,wF,gL,oF⟩:=ahG (n:=m) bZ (H.own _ _ Q) X (fun e=>by have:=I _ e;rw[Q]at this;cases this) T bm;have SF:=f gF s;simp only[kJJ,seval,Qg,i,j,c,Ii,Di,Ip,Gc,b0,SF,eF];refine KN.UJ fun fr' h' x y=>cont fr' h' ?_;rw[x,y]
    exact⟨aa.next,m,k,a,L,(by simp only[Fj,HO,seval,i,j,c];simp),bm,s,wF,gL,fun b hb=>D.none (I b hb),oF,cN⟩
  .refine kGi aky (ad8 t ev es ew (pe ew ey) (akK U.len)) ?_;rintro cv db ef ⟨dV,lC,aC⟩;have eg:=ey.trans lC;have V:Z2 hz cv:=fun b hb=>ey.none (aC b hb);have e6:=ij.le lC;have j0:=f db eg;obtain⟨e7,cR,gT,eh,e8,gU,kn⟩:=dV.join ef e6 (aj1 U.len);obtain⟨b3,-⟩:=gU hz eg V;have iR:=f cR b3;obtain⟨ei,e9,dc,kp,dd⟩:=agm e8;have cU:=b3.trans dc
   have de:hz.own cR.next=none:=b3.next e8 (qL0 _)
   have fb:=eh.le dc;have gV:=f ei cU;obtain⟨iS,gX,cW,iT,gZ⟩:=agm ef;have fc:=eg.trans cW
   have ej:hz.own db.next=none:=eg.next ef (qL0 _)
   have hc:=dV.le cW
   have hj:blk cv≠Z db.next:=fun e=>GS.Sy dV e ((Le.refl db).next ef (qL0 _))
   have hl:=e6.le cW;have iW:=f iS fc;obtain⟨ht,ek,fe,fg,kq,fh,fi⟩:=hc.join iT hl (aj1 U.len);obtain⟨cZ,-⟩:=fh hz fc V;have dg:=(fi _ _ gZ hj).1;have hy:=f ek cZ;simp only[kJJ,seval,Qg,i,j,c,Ii,Di,Ip,Gc,j0,gT,iR,e9,gV,gX,iW,fe,hy];refine⟨⟨?_,?_⟩,?_⟩
   .refine kGi yU (afb t (n:Int) e7 _ cR eh.pr (ajs U.len)) ?_;rintro y en eo ⟨H,m,k,a,L,rfl,X,I,cN⟩;have az:=b3.trans H;have hE:=f en az;obtain⟨gE,gF,eE,eF,s,wF,oF,lE⟩:=newGo eo (n:=m) X.pr;have SE:=f gE (az.trans lE);have SF:=f gF (az.trans s);simp only[kJJ,seval,Qg,i,j,c,Ii,Di,Ip,Gc,hE,SE,SF,eE,eF];refine KN.UJ fun fr' h' x y=>cont fr' h' ?_;rw[x,y]
    exact⟨en.next,m,k,a,L,(by simp only[Fj,HO,seval,i,j,c];simp),az.next eo (qL0 _),az.trans s,wF,X.le s,fun b hb=>b3.none (I b hb),oF,cN⟩
   .refine kGi yU (afb t (n:Int) e7 _ ei fb.pr (ajs U.len)) ?_;rintro y fk fm ⟨H,m,k,a,L,rfl,X,I,cN⟩;have dj:=cU.trans H;have fp:=f fk dj;obtain⟨gF,eF,s,wF,gL,oF⟩:=ahG (n:=m) fm (H.own _ _ dd) X (fun e=>by have:=I _ e;rw[dd]at this;cases this) dj de;have SF:=f gF s;simp only[kJJ,seval,Qg,i,j,c,Ii,Di,Ip,Gc,fp,SF,eF];refine KN.UJ fun fr' h' x y=>cont fr' h' ?_;rw[x,y]
    exact⟨cR.next,m,k,a,L,(by simp only[Fj,HO,seval,i,j,c];simp),de,s,wF,gL,fun b hb=>cU.none (I b hb),oF,cN⟩
   .refine kGi yU (afb t (n:Int) ht _ ek fg.pr (ajs U.len)) ?_;rintro y fq fs ⟨H,m,k,a,L,rfl,X,I,cN⟩;have dm:=cZ.trans H;have ft:=f fq dm;obtain⟨gF,eF,s,wF,gL,oF⟩:=ahG (n:=m) fs (H.own _ _ dg) X (fun e=>by have:=I _ e;rw[dg]at this;cases this) dm ej;have SF:=f gF s;simp only[kJJ,seval,Qg,i,j,c,Ii,Di,Ip,Gc,ft,SF,eF];refine KN.UJ fun fr' h' x y=>cont fr' h' ?_;rw[x,y]
    exact⟨db.next,m,k,a,L,(by simp only[Fj,HO,seval,i,j,c];simp),ej,s,wF,gL,fun b hb=>cZ.none (I b hb),oF,cN⟩
  .refine kGi aky (ad8 t ev es eL (pe eL ec) (akK U.len)) ?_;rintro cv iX iY ⟨hF,lC,aC⟩;have fv:=ec.trans lC;have V:Z2 hz cv:=fun b hb=>ec.none (aC b hb);have hG:=iH.le lC;have hI:=lC.own _ _ eO
   have hJ:blk cv≠Z ew.next:=fun e=>by have:=aC _ e;rw[eO]at this;cases this
   have iZ:=f iX fv;obtain⟨hK,ep,fw,fx,kr,fy,fC⟩:=hF.join iY hG (aj1 U.len);obtain⟨c0,-⟩:=fy hz fv V;have dp:=(fC _ _ hI hJ).1;have hL:=f ep c0;simp only[kJJ,seval,Qg,i,j,c,Ii,Di,Ip,Gc,iZ,fw,hL];refine kGi yU (afb t (n:Int) hK _ ep fx.pr (ajs U.len)) ?_;rintro y fJ fL ⟨H,m,k,a,L,rfl,X,I,cN⟩;have dq:=c0.trans H;have fM:=f fJ dq;obtain⟨gF,eF,s,wF,gL,oF⟩:=ahG (n:=m) fL (H.own _ _ dp) X (fun e=>by have:=I _ e;rw[dp]at this;cases this) dq eQ;have SF:=f gF s;simp only[kJJ,seval,Qg,i,j,c,Ii,Di,Ip,Gc,fM,SF,eF];refine KN.UJ fun fr' h' x y=>cont fr' h' ?_;rw[x,y]
   exact⟨ew.next,m,k,a,L,(by simp only[Fj,HO,seval,i,j,c];simp),eQ,s,wF,gL,fun b hb=>c0.none (I b hb),oF,cN⟩
  .refine kGi aky (ad8 t ev es iI (pe iI eT) (akK U.len)) ?_;rintro cv j1 j2 ⟨ja,lC,aC⟩;have il:=eT.trans lC;have V:Z2 hz cv:=fun b hb=>eT.none (aC b hb);have jb:=lC.own _ _ eS
   have je:blk cv≠Z gz.next:=fun e=>by have:=aC _ e;rw[eS]at this;cases this
   have ka:=f j1 il;obtain⟨jg,hM,c3,ji,hN⟩:=afX j2 x;have fN:=il.trans c3;have hS:=ja.le c3;have hT:=c3.own _ _ jb;have jj:=f jg fN;obtain⟨hU,er,fQ,fR,kt,fS,fU⟩:=hS.join ji hN (aj1 U.len);obtain⟨c4,-⟩:=fS hz fN V;have dv:=(fU _ _ hT je).1;have hV:=f er c4;simp only[kJJ,seval,Qg,i,j,c,Ii,Di,Ip,Gc,ka,hM,jj,fQ,hV];refine kGi yU (afb t (n:Int) hU _ er fR.pr (ajs U.len)) ?_;rintro y fV fW ⟨H,m,k,a,L,rfl,X,I,cN⟩;have dw:=c4.trans H;have fY:=f fV dw;obtain⟨gF,eF,s,wF,gL,oF⟩:=ahG (n:=m) fW (H.own _ _ dv) X (fun e=>by have:=I _ e;rw[dv]at this;cases this) dw ed;have SF:=f gF s;simp only[kJJ,seval,Qg,i,j,c,Ii,Di,Ip,Gc,fY,SF,eF];refine KN.UJ fun fr' h' x y=>cont fr' h' ?_;rw[x,y]
   exact⟨gz.next,m,k,a,L,(by simp only[Fj,HO,seval,i,j,c];simp),ed,s,wF,gL,fun b hb=>c4.none (I b hb),oF,cN⟩
  .refine kGi aky (ad8 t ev es eU (pe eU ee) (akK U.len)) ?_;rintro cv jk jq ⟨hW,lC,aC⟩;have fZ:=ee.trans lC;have V:Z2 hz cv:=fun b hb=>ee.none (aC b hb);have hX:=iL.le lC;have hY:=lC.own _ _ eW
   have hZ:blk cv≠Z gz.next:=fun e=>by have:=aC _ e;rw[eW]at this;cases this
   have jr:=f jk fZ;obtain⟨h0,et,ga,gf,ku,gg,gi⟩:=hW.join jq hX (aj1 U.len);obtain⟨c5,-⟩:=gg hz fZ V;have dy:=(gi _ _ hY hZ).1;have ic:=f et c5;simp only[kJJ,seval,Qg,i,j,c,Ii,Di,Ip,Gc,jr,ga,ic];refine kGi yU (afb t (n:Int) h0 _ et gf.pr (ajs U.len)) ?_;rintro y gj gk ⟨H,m,k,a,L,rfl,X,I,cN⟩;have dz:=c5.trans H;have gl:=f gj dz;obtain⟨gF,eF,s,wF,gL,oF⟩:=ahG (n:=m) gk (H.own _ _ dy) X (fun e=>by have:=I _ e;rw[dy]at this;cases this) dz ed;have SF:=f gF s;simp only[kJJ,seval,Qg,i,j,c,Ii,Di,Ip,Gc,gl,SF,eF];refine KN.UJ fun fr' h' x y=>cont fr' h' ?_;rw[x,y]
   exact⟨gz.next,m,k,a,L,(by simp only[Fj,HO,seval,i,j,c];simp),ed,s,wF,gL,fun b hb=>c5.none (I b hb),oF,cN⟩
 clear i f7 j c jE;rintro lO hw ⟨Y,m,k,a,L,c9,nY,lw,w7,gL,aL,oY,hk⟩;simp only[Fj]at c9;obtain⟨i,j,c,aD,dA,js,-⟩:=c9;rw[iE]at lw aL nY;have kb:=jP.trans lw;rcases hk with⟨rfl,rfl,kc,rfl⟩|⟨k0,kd,-⟩
 rotate_left
 .have dk:decide (k=0)=fF:=WA k0;have L2:∀g,Le hw g->aaC pG g 3 ⟨B,0,none⟩=Z (.int .i64 (n:Int))/\aaC pG g 22 ⟨B,1,none⟩=Z ev/\aaC pG g 49 ⟨E,0,none⟩=Z (UI x):=fun g l=>f g (lw.trans l);have pw:∀g,Le hw g->PR g ev es:=fun g l=>pe g (lw.trans l);obtain⟨hB,eB,lB,wB,lb⟩:=afX w7 x;have S0:=L2 hw (Le.refl _);have SB:=L2 hB lB;refine sFa (adG js @bne.eq_1.{0} dk) ?_
  refine gh (tA [0,1,2,3,5,9] (.ch 4 [3] (JQ 6 [5] (JQ 7 [4,6] (tA [8] (JQ 10 [7,8,9] (tA [11,12] (JQ 13 [12] (tA [14,15] .done))))))) (JQ 6 [5] (JQ 4 [3] (JQ 7 [4,6] (tA [8] (JQ 10 [7,8,9] (tA [11,12] (JQ 13 [12] (tA [14,15] .done)))))))))) ?_;refine sFd (afS i j aD @Ii @Di @Ip.eq_1 @Gc S0 eB SB) ?_;refine⟨?_,?_⟩
  .refine kGi aky (ad8 t ev es hw (pw hw (Le.refl _)) (akK U.len)) ?_;rintro cv hC wC ⟨gC,lC,aC⟩;obtain⟨hD,eD,lD,wD,lf⟩:=afX wC x;have kf:=lC.trans lD;have SC:=L2 hC lC;have SD:=L2 hD kf;obtain⟨vP,hP,eP,gP,wP,fP,-⟩:=(gC.le lD).join wD lf (aj1 U.len);obtain⟨lP,-⟩:=fP hw kf aC;have SP:=L2 hP lP;have bg:=Wj (n:=(n:Int)) gP.pr.sl;refine sFd (aNd13 i j aD @Ii @Di @Ip.eq_1 @Gc SC eD SD eP SP bg) ?_;refine kGi UP (ahY t _ sv (.slice none 0 0) ⟨(n:Int),es++[x]⟩ ss [] hP ⟨vP,rfl,gP.pr⟩ (gv.le (Nn.RL Nn.RP) (iB.trans (lw.trans lP))) (PR.nil _)) ?_;rintro y hQ wQ ⟨⟨q,rfl,e1⟩,lQ⟩;obtain rfl:q=fF:=ahH e1 fun q=>kd q.1.newOK;have SQ:=L2 hQ (lP.trans lQ);refine sFd (afS i j aD @Ii @Di @Ip.eq_1 @Gc SQ bg @oZ) ?_;refine kGi qS26 (ahU t hQ) ?_;rintro y hR wR ⟨rfl,lR⟩;have SR:=L2 hR ((lP.trans lQ).trans lR);refine sFd (afS i j aD @Ii @Di @Ip.eq_1 @Gc SR bg @oZ) ?_;exact((kb.trans lP).trans lQ).trans lR
  .refine kGi aky (ad8 t ev es hB (pw hB lB) (akK U.len)) ?_;rintro cv hC wC ⟨gC,lC,aC⟩;have kh:=lB.trans lC;have SC:=L2 hC kh;obtain⟨vP,hP,eP,gP,wP,fP,-⟩:=gC.join wC (lb.le lC) (aj1 U.len);obtain⟨lP,-⟩:=fP hw kh fun b hb=>lB.none (aC b hb);have SP:=L2 hP lP;have bg:=Wj (n:=(n:Int)) gP.pr.sl;refine sFd (aga i j aD @Ii @Di @Ip.eq_1 @Gc SC eP SP bg) ?_;refine kGi UP (ahY t _ sv (.slice none 0 0) ⟨(n:Int),es++[x]⟩ ss [] hP ⟨vP,rfl,gP.pr⟩ (gv.le (Nn.RL Nn.RP) (iB.trans (lw.trans lP))) (PR.nil _)) ?_;rintro y hQ wQ ⟨⟨q,rfl,e1⟩,lQ⟩;obtain rfl:q=fF:=ahH e1 fun q=>kd q.1.newOK;have SQ:=L2 hQ (lP.trans lQ);refine sFd (afS i j aD @Ii @Di @Ip.eq_1 @Gc SQ bg @oZ) ?_;refine kGi qS26 (ahU t hQ) ?_;rintro y hR wR ⟨rfl,lR⟩;have SR:=L2 hR ((lP.trans lQ).trans lR);refine sFd (afS i j aD @Ii @Di @Ip.eq_1 @Gc SR bg @oZ) ?_;exact((kb.trans lP).trans lQ).trans lR
 have lg:decide ((0:Int)=0)=tT:=by decide
 obtain⟨r,b4⟩:∃r,r=rem (bl xv) hw:=⟨_,rfl⟩;have lr:Le r hw:=b4▸Sa _ _;have V:Z2 r xv:=fun b hb=>by rw[b4,DC,IE (Zr.2 hb)]
 have kj:Le h4 r:=b4▸(iB.trans lw).iV fun b hb=>ax b (Zr.1 hb);have lh:r.own E=Z (.cells (xM x)):=by rw[b4];exact Th.2 ⟨lw.own _ _ oE,fun hm=>xE (Zr.1 hm)⟩
 have lj:r.own Y=Z (.cells [n,a]):=by rw[b4];exact Th.2 ⟨oY,fun hm=>GS.Sy iD (Zr.1 hm) nY⟩
 have kk:GP r a (sg (es++[x])):=by rw[b4];exact GS.Fi gL fun b hb hm=>GS.Sy iD (Zr.1 hm) (aL b hb)
 have L3:∀g,Le r g->aaC pG g 3 ⟨B,0,none⟩=Z (.int .i64 (n:Int))/\aaC pG g 49 ⟨E,0,none⟩=Z (UI x):=fun g l=>⟨(lA g (gu.trans (kj.trans l))).2.1,uM (l.own _ _ lh)⟩;have dW:xs.length<=594:=EP jA.length_le U.len;obtain⟨aa,ih⟩:∃g,g=hw:=⟨_,rfl⟩;have b5:WF aa:=ih▸w7;have b6:Le r aa:=ih▸lr;have aF:GP aa xv xs:=ih▸iD.le lw;refine sFa (adG js @bne.eq_1.{0} lg) ?_
 apply Ya (F:=fun(fr:aam)(h':aai)=>∃(Y2:Nat)(m k:Int)(eA:vV)(L:xLP),Fj fr [(4,pT (Z B)),(9,sv),(12,pT (Z Y)),(14,pT (Z Y2))]/\r.own Y2=none/\
  Le r h'/\WF h'/\GP h' eA L/\Z2 r eA/\h'.own Y2=Z (.cells [m,eA])/\((k=0/\m=(n:Int)/\YG (n:Int) (xs++[x])/\L=sg (xs++[x]))\/(k≠0/\¬YG (n:Int) (xs++[x])/\L=[])))
 .intro cont;rw[<-ih];refine gh (tA [0,1,2,3] (.ch 4 [3] (.ch 5 [2,4] (.ch 6 [1,5] (tA [7,8,9] (JQ 10 [] (JQ 11 [0,1,2,3,4,5,6,7,8,10] (tA [12] .done)))) (JQ 10 [] (JQ 6 [1,5] (tA [7,8,9] (JQ 11 [0,1,2,3,4,5,6,7,8,10] (tA [12] .done)))))) (JQ 10 [] (JQ 5 [2,4] (JQ 6 [1,5] (tA [7,8,9] (JQ 11 [0,1,2,3,4,5,6,7,8,10] (tA [12] .done))))))) (JQ 10 [] (JQ 4 [3] (JQ 5 [2,4] (JQ 6 [1,5] (tA [7,8,9] (JQ 11 [0,1,2,3,4,5,6,7,8,10] (tA [12] .done))))))))) ?_;have iM:=L3 aa b6;obtain⟨J,dB,aH,ae,aJ⟩:=afX b5 x;have ag:=b6.trans aH;have W:=aF.le aH;have eX:=L3 J ag;obtain⟨aK,u,b8,ai,aP,b9,gJ⟩:=W.join ae aJ (aj1 dW);obtain⟨o,-⟩:=b9 r ag V;have dE:=L3 u o;obtain⟨aj,aT,K,gM,N⟩:=agm aP;have w:=o.trans K
  have O:r.own u.next=none:=o.next aP (qL0 _)
  have aW:=ai.le K;have cc:=L3 aj w;obtain⟨dF,cd,z,dH,cf⟩:=agm ae;have aX:=ag.trans z
  have al:r.own J.next=none:=ag.next ae (qL0 _)
  have cg:=W.le z
  have ck:blk xv≠Z J.next:=fun e=>GS.Sy W e ((Le.refl J).next ae (qL0 _))
  have cm:=aJ.le z;have dI:=L3 dF aX;obtain⟨cp,aq,a6,a7,gR,a8,bh⟩:=cg.join dH cm (aj1 dW);obtain⟨A,-⟩:=a8 r aX V;have P:=(bh _ _ cf ck).1;have cq:=L3 aq A;obtain⟨eZ,dJ,bk,e0,dL⟩:=agm b5;have da:=b6.trans bk
  have bm:r.own aa.next=none:=b6.next b5 (qL0 _)
  have dM:=aF.le bk
  have dO:blk xv≠Z aa.next:=fun e=>GS.Sy aF e ((Le.refl aa).next b5 (qL0 _))
  have e5:=L3 eZ da;obtain⟨dQ,cz,C,dS,cC⟩:=afX e0 x;have bo:=da.trans C;have cE:=dM.le C;have cJ:=C.own _ _ dL;have dT:=L3 dQ bo;obtain⟨cK,ar,br,bx,gS,bB,bF⟩:=cE.join dS cC (aj1 dW);obtain⟨D,-⟩:=bB r bo V;have Q:=(bF _ _ cJ dO).1;have cM:=L3 ar D;simp only[kJJ,seval,Qg,i,j,c,aD,Ii,Di,Ip,Gc,iM,dB,eX,b8,dE,aT,cc,cd,dI,a6,cq,dJ,e5,cz,dT,br,cM];refine⟨⟨⟨?_,?_⟩,?_⟩,?_⟩
  .refine kGi yU (afb t (n:Int) aK _ u ai.pr (ajs dW)) ?_;rintro y av ay ⟨H,m,k,a,L,rfl,X,I,cN⟩;have d:=o.trans H;have cP:=L3 av d;obtain⟨gE,gF,eE,eF,s,wF,oF,lE⟩:=newGo ay (n:=m) X.pr;have SE:=L3 gE (d.trans lE);have SF:=L3 gF (d.trans s);simp only[kJJ,seval,Qg,i,j,c,aD,Ii,Di,Ip,Gc,cP,SE,SF,eE,eF];refine KN.UJ fun fr' h' x y=>cont fr' h' ?_;rw[x,y]
   exact⟨av.next,m,k,a,L,(by simp only[Fj,HO,seval,i,j,dA];simp),d.next ay (qL0 _),d.trans s,wF,X.le s,fun b hb=>o.none (I b hb),oF,cN⟩
  .refine kGi yU (afb t (n:Int) aK _ aj aW.pr (ajs dW)) ?_;rintro y bG bH ⟨H,m,k,a,L,rfl,X,I,cN⟩;have R:=w.trans H;have bI:=L3 bG R;obtain⟨gF,eF,s,wF,gL,oF⟩:=ahG (n:=m) bH (H.own _ _ N) X (fun e=>by have:=I _ e;rw[N]at this;cases this) R O;have SF:=L3 gF s;simp only[kJJ,seval,Qg,i,j,c,aD,Ii,Di,Ip,Gc,bI,SF,eF];refine KN.UJ fun fr' h' x y=>cont fr' h' ?_;rw[x,y]
   exact⟨u.next,m,k,a,L,(by simp only[Fj,HO,seval,i,j,dA];simp),O,s,wF,gL,fun b hb=>w.none (I b hb),oF,cN⟩
  .refine kGi yU (afb t (n:Int) cp _ aq a7.pr (ajs dW)) ?_;rintro y bN bQ ⟨H,m,k,a,L,rfl,X,I,cN⟩;have S:=A.trans H;have bW:=L3 bN S;obtain⟨gF,eF,s,wF,gL,oF⟩:=ahG (n:=m) bQ (H.own _ _ P) X (fun e=>by have:=I _ e;rw[P]at this;cases this) S al;have SF:=L3 gF s;simp only[kJJ,seval,Qg,i,j,c,aD,Ii,Di,Ip,Gc,bW,SF,eF];refine KN.UJ fun fr' h' x y=>cont fr' h' ?_;rw[x,y]
   exact⟨J.next,m,k,a,L,(by simp only[Fj,HO,seval,i,j,dA];simp),al,s,wF,gL,fun b hb=>A.none (I b hb),oF,cN⟩
  .refine kGi yU (afb t (n:Int) cK _ ar bx.pr (ajs dW)) ?_;rintro y bY bZ ⟨H,m,k,a,L,rfl,X,I,cN⟩;have T:=D.trans H;have b0:=L3 bY T;obtain⟨gF,eF,s,wF,gL,oF⟩:=ahG (n:=m) bZ (H.own _ _ Q) X (fun e=>by have:=I _ e;rw[Q]at this;cases this) T bm;have SF:=L3 gF s;simp only[kJJ,seval,Qg,i,j,c,aD,Ii,Di,Ip,Gc,b0,SF,eF];refine KN.UJ fun fr' h' x y=>cont fr' h' ?_;rw[x,y]
   exact⟨aa.next,m,k,a,L,(by simp only[Fj,HO,seval,i,j,dA];simp),bm,s,wF,gL,fun b hb=>D.none (I b hb),oF,cN⟩
 clear i j c aD dA js;rintro lT hv ⟨Y2,m2,k2,eA,L4,c9,-,lv,w8,lk,-,ll,lp⟩;simp only[Fj]at c9;obtain⟨i,j,dA,kl,-⟩:=c9;have km:=kj.trans lv;refine sFa (afK i j dA kl (ldGo (kk.le lv).pr (lv.own _ _ lj))) ?_;refine kCi UP (ahY t _ sv (.slice none 0 0) ⟨(n:Int),sg (es++[x])⟩ ss [] hv ⟨a,rfl,(kk.le lv).pr⟩ (gv.le (Nn.RL Nn.RP) km) (PR.nil _)) ?_;rintro y t1 v1 ⟨⟨q,rfl,e1⟩,n1⟩;obtain rfl:q=fF:=ahH e1 (circ_no U kc SG);clear e1;have jt:=km.trans n1;have ly:aaC pG t1 22 ⟨Y2,1,none⟩=Z eA:=Fq eY rfl (n1.own _ _ ll);refine sFa (aNd9 i j dA kl @Di @Ip.eq_1 @Gc ((lA t1 (gu.trans jt)).1) ly) ?_;refine kCi UP (ahY t _ (.slice none 0 0) eA ⟨(n:Int),es⟩ [] L4 t1 (c6.le (eG.trans jt)) (RN _) (lk.le n1).pr) ?_;rintro y t2 v2 ⟨⟨q,rfl,e1⟩,lq⟩;obtain rfl:q=fF:=ahH e1 (by
  rcases lp with⟨-,-,-,rfl⟩|⟨-,-,rfl⟩
  .exact list_no (akW U kc)
  .exact nil_no n2 rfl)
 refine sSs ?_;refine kCi qS26 (ahU t t2) ?_;rintro y t3 v3 ⟨rfl,n3⟩;refine sSs ?_;exact⟨trivial,((eG.trans jt).trans lq).trans n3⟩
end
section
open Go.Proofs Go.ChangeShapes Go.WideShapes Go.RowKit Go.ChangeAt
open Go.Proofs.YtnakkbhjoiheoaaGreat
def aiK(os:Os)(started:os.Started)(H:Type)(enc:TypeId×vV->H):
  ReturnsInHanded {} Tryz.checked os 5 .any (Rows.planarCheckSpec.pre6 enc pG Tryz.f5 Rows.planarCheckRow.domain fF) (Rows.planarCheckSpec.post enc pG Tryz.f5 fF tT fF fF):=by
 have own:ownKnob pG.godebug=Option.none:=Ji;have laidOut:laidOutB pG=tT:=Ji;refine returnsInHanded_of_change (C:=Tryz.checked) own started Ji func5
  (ChangeSpec.witness6 (enc:=enc) (C:=Tryz.checked) fF ⟨#[],#[.agg #[.int .i64 0,.slice Option.none 0 0],.slice Option.none 0 0,.slice Option.none 0 0,.agg #[.int .u8 0,.int .u8 0]],[]⟩ 8 Ji Ji Ji Ji) ?_
 intro W base args ds gs before d G I _;have a:∀(j:Nat) t v,Tryz.f5.params[j]?=Z t->args[j]?=Z v->vV.okWide pG W .any base t v:=d;have c:=G;obtain⟨p,q,m,L,rfl,M,N⟩:=G;have hA:DataW.TrodAll enc pG W 0 (fun _=>tT) tT Tryz.f5.params.toList args.toList ds p:=m;rw[Tryz.params5]at hA a;obtain⟨n,w0,d0,e0,O,q0,b,rfl,rfl,J,hA⟩:=trodAll_cons hA;obtain⟨o,w1,d1,e1,P,q1,rfl,rfl,rfl,K,hA⟩:=trodAll_cons hA;obtain⟨r,w2,d2,e2,Q,q2,rfl,rfl,rfl,h2,hA⟩:=trodAll_cons hA;obtain⟨s,w3,d3,e3,S,q3,rfl,rfl,rfl,h3,hA⟩:=trodAll_cons hA;obtain⟨rfl,rfl,rfl⟩:=trodAll_nil hA;obtain rfl:args=#[n,o,r,s]:=by cases args;simp_all
 obtain⟨rfl,rfl⟩:=trodVars_none L;obtain⟨T,x0,u,w⟩:=afp (a 0 24 n rfl rfl) J (fun _=>⟨0,0,0⟩);obtain⟨u1,x1,z,A⟩:=open_u16s (a 1 40 o rfl rfl) K (fun _=>⟨0,0,0⟩);obtain⟨U,V,B,D⟩:=akH (a 2 41 r rfl rfl) h2 (fun _=>⟨0,0,0⟩);obtain⟨X,x3,E,F⟩:=open_u82 (a 3 48 s rfl rfl) h3 (fun _=>⟨0,0,0⟩);refine(akg (LA.of W) T u1 U X x0 x1 V x3 (MR W) w A D F [] (fun _=>⟨0,0,0⟩) W [n,o,r,s] (Rel.start W _) ?_).mono ?_
 .exact .cons u (.cons z (.cons B (.cons E ((.nil _ _)))))
 .rintro e W' ⟨x,x',m',h',rfl,R,-,-,hx,rfl,-⟩;obtain rfl:=hx.YE;have hb:=R.below;have h:∀y∈O,y.block<W.heap.size:=fun y f=>c.lt y (by simp[f]);have i:∀y∈P,y.block<W.heap.size:=fun y f=>c.lt y (by simp[f]);have k:∀y∈Q,y.block<W.heap.size:=fun y f=>c.lt y (by simp[f]);have l:∀y∈S,y.block<W.heap.size:=fun y f=>c.lt y (by simp[f]);have g:DataW.Trod enc pG W' W.heap.size (fun _=>fF) fF 4 (.bool tT) (.lit (.bool tT)) []:=⟨1,by simp[DataW.trod,vV.cells,AV]⟩;have b:=
   akT (Below.trod laidOut Ji (ail Ji) J hb h) (akT (Below.trod laidOut Ji (ail Ji) K hb i) (akT (Below.trod laidOut Ji (ail Ji) h2 hb k) (akT (Below.trod laidOut Ji (ail Ji) h3 hb l) (trodAll_mk0))))
  try simp only[ai4,ah2]at b
  exact⟨_,rfl,_,_,_,[],_,[],c,trodAll_mk1 g,b,rfl,hb.frame _,fun e=>by cases e⟩
def planarCheck_said:Rows.PlanarCheckSaid:=
 OpenClaim.holds_of_wide 5 Tryz.f5 rfl rfl rfl rfl rfl rfl rfl ⟨rfl,rfl,rfl,rfl,rfl⟩ rfl rfl rfl rfl rfl Ji func5 Ji
  (ail Ji) (by unfold Func.isWrapper;first|(rw[IE iw];kernel_rfl)|(rw[yM iw];exact⟨rfl,rfl⟩))
  (fun os started H enc _=>aiK os started H enc)
end
end Go.Fw
