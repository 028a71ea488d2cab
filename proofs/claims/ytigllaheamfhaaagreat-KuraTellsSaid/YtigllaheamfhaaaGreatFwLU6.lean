/- A text. -/
import Derived.Test.YtigllaheamfhaaaGreatFwLS6
set_option linter.all false
set_option maxRecDepth 99999
set_option maxHeartbeats 9999999
open Go.Proofs
open Option renaming some→Z,none→Y
open Bool renaming true→tT,false→fF
open List renaming range→rG
open Go.Value renaming slice→sL,pointer→pT
open Go renaming Value→vV
open Go.Proofs.Tryz renaming prog→pG
open Go.Proofs.Tryz
open List
namespace Go.Fw
section
attribute [local irreducible] Kp MQ lU KO1 KO KN KX KE VK Kl ZJ TC aab
variable {X:Nat} {h:aai} {lv:Value}
theorem WsS.side{P:Program}{i:abw}{r a:aai}{X n:Nat}{c e j:vV}{us:xLV}{rows:AM}{th:II}{left:xLP}(S:WsS r a X n c e j us rows th left){f:FuncId}{args:xLV}{Q:vV->aai->Prop}(t:∀x g m,Q x g->Le g m->Q x m)(q:AC P i f args (rem (X::(bl c++bl e)) a) fun x g=>Le (rem (X::(bl c++bl e)) a) g/\Q x g):
  AC P i f args a fun x h'=>∃h,WsS h h' X n c e j us rows th left/\Le r h/\Le a h'/\Q x h:=by
 have mem:∀b,b∈X::(bl c++bl e)↔blk c=Z b\/blk e=Z b\/b=X:=fun b=>by grind[Zr]
 have p:∀v:vV,(bl v).Nodup:=fun v=>by grind[bl]
 have nd:(X::(bl c++bl e)).Nodup:=by grind[WsS.dx,Zr,WsS.dt,WsS.d]
 refine(AC.side _ a _ (fun b hb=>S.ownx ((mem b).1 hb)) nd q).mono ?_;rintro x h' ⟨g,⟨l1,s⟩,l2,k⟩;have l:Le a h':=⟨by grind[Le.trans,Le.ext,vL],fun b o u=>by grind[Le.own,Th]⟩;grind[WsS.frz]
def ldX1{n:Int}(o:h.own X=Z (.cells [n,lv])):aaC pG h 22 ⟨X,1,Y⟩=Z lv:=by rw[Fq AV rfl o];rfl
theorem Ways_any(W0:abw)(v:vV)(n:Nat)(es:xLP)(h:aai)(hg:GR h v ⟨(n:Int),es⟩)(G:bX ⟨(n:Int),es⟩)(T2:zW n es):
  AC pG W0 46 [v] h fun x h'=>Le h h'/\∃(a:Nat)(l:II)(ws:List Way),RL (RL RP) h' x (kz (a::l)::(ws.map pathOf).map kz)/\okc 1 x/\(∃d,(∀g,Le h' g->aaC pG g 47 (aaq x 0)=Z d)/\RL RP h' d (kz (a::l))/\okc 1 d)/\l.Nodup/\3<=l.length/\l.length<=n/\(∀v∈l,nx l v∈eN n es v)/\aid (eN n es) (Ei l) ws/\ws.length<=es.length/\∀w∈ws,2<=(pathOf w).length/\(pathOf w).length<=n:=by
 have hR:=G.GD;have dd:(n:Int)<=200:=G.n1;have de:es.length<=594:=G.len;have aC:=hg
 obtain⟨ev,rfl,hp⟩:=hg.open
 have⟨p0,rest,bz⟩:=eR (T2.es_ne hR);have aD:es[0]?=Z p0:=by rw[bz];rfl
 obtain⟨a,b,rfl,dm,hb⟩:=jB hR (show p0∈es by grind);have bA:Jp es a b:=.inl hGr;have aE:a<n:=NH;have bB:a≠b:=NH;refine AC.vF func46 ntmps46 results46 fun bF=>?_;have⟨h1,b1,t,dp,oB,lA⟩:=r8 (n:=(n:Int)) bF hp
 generalize h.next=B at*
 have aF:=lA h1 (Le.refl _);have aa:=hp.le t;have aH:=aa.addr (k:=.i64) 0 hGr;have q0:=aa.l0 aD;have q1:=aa.l1 aD;simp only[oZ]at aH;refine Sk b1 ?_;refine gh (fRn 0 12 .done) ?_;have bH:aca pG 24 (pT (Z B)) 1=Z (pT (Z ⟨B,1,Y⟩)):=rfl;refine CO (adG bH aF.2.2 aF.1 aH @Dh @Z0 q0 q1) ?_;refine kCi qS34 (akT W0 _ (n:Int) a b es h1 (aC.le t) NH) ?_;rintro x h2 w2 ⟨e2,rfl,g2,l2,-⟩;have bI:=G.sub (anw es a b);have aJ:=ring_con G T2 aE hb bB;refine Uy ?_;refine kCi func63 (anv W0 _ n b a (akC es a b) h2 ⟨e2,rfl,g2.pr⟩ bI hb aE) ?_;rintro x h3 w3 ⟨l3,⟨hn,-⟩|⟨-,wv,c,rfl,aK,-,bN,bQ,aL⟩⟩
 .exact absurd aJ hn
 have⟨nd,bW,bY,I0,bZ⟩:=aow G bA bN aL;have ae:=l2.trans l3;have⟨h4,e4,l4,w4,o4⟩:=Tt w3 [a];have aN:=DQ h3 (a:Int);rw[e4]at aN
 have nR:h3.own h3.next=Y:=(Le.refl h3).next w3 (qL0 _)
 have g4:GI h4 (sL (Z h3.next) 1 1) [(a:Int)]:=GS.full o4 rfl (show 1<1000000000000 by decide)
 have b0:Z2 h3 (sL (Z h3.next) 1 1):=fun b hb=>by grind[blk]
 generalize h3.next=N3 at*
 obtain⟨d,H,e5,g5,w5,f5,-⟩:=GI.join g4 w4 (aK.le Nn.RP l4) (by grind[kz]);have⟨l5,a5⟩:=f5 h3 l4 b0;have er:[(a:Int)]++kz c=kz (a::c):=by simp[kz]
 rw[er]at g5;have b2:okc 1 d:=GS.okc g5;have⟨A,e6,l6,w6,o6⟩:=Tt w5 [d]
 have b3:aas pG H 45 1 [(0,d)]=Z (sL (Z H.next) 1 1,A):=by
  have:aas pG H 45 1 [(0,d)]=Z (sL (Z H.next) 1 1,H.alloc (.cells [d])):=by obtain⟨_,_,rfl,-⟩:=g5.rl.sl;rfl
  rw[this,e6]
 have b4:H.own H.next=Y:=(Le.refl H).next w5 (qL0 _)
 generalize H.next=p at*
 have⟨h7,e7,l7,w7,o7⟩:=Tt w6 []
 have b5:aas pG A 47 0 []=Z (sL (Z A.next) 0 0,h7):=by rw[<-e7];rfl
 have nT:A.own A.next=Y:=(Le.refl A).next w6 (qL0 _)
 have g7:GI h7 (sL (Z A.next) 0 0) []:=GS.full o7 rfl WY
 have b6:Z2 A (sL (Z A.next) 0 0):=fun b hb=>by grind[blk]
 generalize A.next=N6 at*
 have b8:=(l5.trans l6).trans l7;obtain⟨tv,h8,e8,g8,w8,f8,-⟩:=GI.join g7 w7 (aK.le Nn.RP b8) (by grind[kz]);have⟨l8,a8⟩:=f8 A l7 b6;rw[Cj]at g8;have b9:=l8.own _ _ o6;have aP:=((ae.trans l5).trans l6).trans l8;have cc:(kz (a::c)).length=(a::c).length:=y6 _;have df:0<(kz c).length:=hGr;obtain⟨f,bT⟩:∃f,blk tv=Z f:=by
  obtain⟨hl,⟨q,h0⟩|⟨id,c',cap,q,ho,-⟩⟩:=g8
  .omega
  .exact⟨id,by rw[q];rfl⟩
 have dq:=GS.Sy g8 bT;have dg:p≠f:=fun e=>by have:=a8 f bT;grind
 have dr:blk d≠Z p:=fun e=>by have:=GS.Sy g5 e;grind
 have dv:blk d≠Z f:=fun e=>by have⟨o,ho⟩:=N8.1 (GS.Sy (g5.le l6) e);have:=a8 f bT;grind
 have ag:∀b∈[p,f],h.own b=Y:=fun b hb=>by
  rcases Og.1 hb with rfl|hb
  .exact(t.trans (ae.trans l5)).none b4
  .rw[xD.1 hb];exact(t.trans ((ae.trans l5).trans l6)).none (a8 f bT)
 have aT:Le h (rem [p,f] h8):=(t.trans aP).iV ag;have cd:RL RP (rem [p,f] h8) d (kz (a::c)):=RL.remK ((g5.rl.le Nn.RP l6).le Nn.RP l8) fun b hb=>by grind
 refine Sk (bG aN e5 b3 b5 e8 ((lA h8 aP).1)) ?_;refine kCi func64 (AC.side [p,f] h8 _ (fun b hb=>by grind) hGr (amF W0 _ d (n:Int) es (kz (a::c)) (rem [p,f] h8) (aC.le aT) cd NH hGr)) ?_;rintro x F w9 ⟨g9,⟨s,rfl,pl,lg⟩,J,kg⟩;rw[cc]at pl;have ai:Le h8 F:=⟨by
   grind[Le.trans,Le.ext,vL],fun b o ho=>by
  by_cases q:b∈[p,f]
  .grind
  .exact J.own _ _ (lg.own _ _ (Th.2 ⟨ho,q⟩))⟩
 have⟨L,aV,aW,aj,al⟩:=Tt w9 [.int .i64 0,.slice Y 0 0];have C:=Lo F;rw[aV]at C
 have nG:F.own F.next=Y:=(Le.refl F).next w9 (qL0 _)
 have st:=aib (n:=(n:Int)) (ev:=s) al pl.sl.one pl.sl.cell;have cf:=aj.put (.cells [n,s]) (aj.lt al)
 have aX:=aai.Y3 L F.next (.cells [n,s])
 have M:Le F (L.put F.next (.cells [n,s])):=aW.put _ nG
 generalize L.put F.next (.cells [n,s])=aq at*
 generalize F.next=X at*
 have R:=J.trans M;have T:=M.own _ _ (ai.own _ _ b9);have cg:∀b,blk (sL (Z ⟨p,0,Y⟩) 1 1)=Z b->b=p:=fun b hb=>by grind[blk]
 have kX:=(kg p Ma).1;have kT:=(kg f Ma).1;have cj:p≠X:=fun e=>by grind
 have ck:f≠X:=fun e=>by grind
 have O0:afg g9 aq (sL (Z ⟨p,0,Y⟩) 1 1) [d] [kz (a::c)]:=by
  refine⟨GS.full T rfl (show 1<1000000000000 by decide),R,fun b hb=>?_,rfl,fun i x u h1 h2=>?_⟩
  .grind
  grind[RL.le,Nn.RP]
 have S0:WsS g9 aq X n (sL (Z ⟨p,0,Y⟩) 1 1) tv s [d] [kz (a::c)] c (afn es (kz (a::c)) ((a::c).length-1)):=by
  refine⟨O0,(g8.le ai).le M,fun b hb=>?_,aX,J.none nG,fun hb=>?_,fun hb=>?_,fun b hb ht=>?_,pl⟩
  .grind
  .grind
  all_goals grind
 have l0:Le h g9:=aT.trans lg;have ar:(afn es (kz (a::c)) ((a::c).length-1)).length<=es.length:=amz _ _ _;simp only[HO,seval,C,st];refine lIn (fun k fr hq=>∃(left:xLP)(th:II)(ws:List Way)(xv tv s:vV)(us:xLV)(r:aai),k=left.length/\fr=mkF [(8,xv),(9,tv),(10,pT (Z X))]/\WsS r hq X n xv tv s us (kz (a::c)::(ws.map pathOf).map kz) th left/\us[0]?=Z d/\Le h r/\anG n es left th/\(∀rest,aid (eN n es) (HdW es left) rest->aid (eN n es) (Ei c) (ws++rest))/\ws.length+left.length<=es.length/\∀w∈ws,2<=(pathOf w).length/\(pathOf w).length<=n) ⟨_,c,[],_,tv,s,[d],g9,rfl,rfl,S0,rfl,l0,I0,fun rest q=>by have e:HdW es (afn es (kz (a::c)) ((a::c).length-1))=Ei c:=funext fun x=>funext fun y=>propext (bZ x y);grind,hGr,fun w hw=>by cases hw⟩ ?_;clear S0 O0 cg kX kT cj ck I0 l0 ar aX T R M cf st nG C al aj aW aV ai kg J lg w9 pl;clear aq L s g9;rintro k fr hq cm ⟨left,th,ws,xv,D,s,us,r,rfl,rfl,S,av,lq,I,K,dw,a6⟩;have lP:=fun g=>(S.pl.le S.O.lr).len g;by_cases c0:left=[]
 .have d0:decide ((left.length:Int)>0)=fF:=Sb (by rw[c0];simp);refine Sk (bG @Di @Ip.eq_1 @Gc (ldX1 S.oX) lP d0) ?_;have⟨u,U,lu,ru⟩:=S.O.row (i:=0) Ma;rw[av]at U;injection U with U;subst U;refine⟨lq.trans S.O.lr,a,c,ws,S.O.rl,GS.okc S.O.g,⟨_,lu,ru,b2⟩,nd,bW,bQ,bY,?_,NH,a6⟩;have:=K [] (.nil fun x y cp=>⟨(vD hR).1 cp,fun q=>by rw[c0]at q;rcases q with q|q<;>cases q⟩);grind
 have dj:0<left.length:=qL165.2 c0;have d0:decide ((left.length:Int)>0)=tT:=EL NH;have cq:=G.sub I.sub;have dk:th.length<=n:=by have:=acK I.nd (B:=rG n) fun u U=>j3.2 (I.lt u U);grind
 have dy:=I.sub.length_le;have pq:=S.pl.le S.O.lr;obtain⟨_,_,ay,-⟩:=pq.sl;refine Sk (rE @Di @Ip.eq_1 @Gc (ldX1 S.oX) lP d0 (ai2 S.oX ⟨_,_,_,ay⟩)) ?_;refine kCi func65 (way1_any W0 _ D n left th hq ⟨s,rfl,pq⟩ cq S.gt.rl I.lt NH (I.two G T2 c0)) ?_;rintro cv cx a7 ⟨ba,c',rc,bb,cz⟩;obtain⟨r',S',cC,mkR,-⟩:=S.frz ba;have E:=mkR cv _ rc bb;have⟨a',inn,b',ec,W,I',hH,cE,dz,dA,bg⟩:=I.step G cz;have cJ:pathOf (a',inn,b')=c':=ec.symm;have cK:=lq.trans cC;have bh:(kz (a::c)::(ws.map pathOf).map kz).length<=100000:=by simp;omega
 have⟨cM,N,cN,bj,bk,az,cP⟩:=S'.push a7 E bh;have bm:kz (a::c)::(ws.map pathOf).map kz++[kz c']=kz (a::c)::((ws++[(a',inn,b')]).map pathOf).map kz:=by simp[cJ]
 rw[bm]at az;have lc:=fun g=>E.TA g;rw[y6]at lc;have adc:=fun(j:Nat)(hj:j<c'.length)=>E.DH j (by rw[y6];exact hj);have cR:=fun(g:aai)(lg:Le r' g)(j:Nat)(hj:j<c'.length)=>show aaC pG g 3 (aaq cv j)=Z (.int .i64 (c'[j]:Nat)) by rw[(E.le Nn.RP lg).Uc j (by rw[y6];exact hj),sY hj]
 refine Sk (XC bj bk) ?_;refine lIn (fun k fr hz=>∃(j:Nat)(D:vV),k=c'.length-j/\j<=c'.length/\fr=mkF [(8,N),(9,D),(10,pT (Z X)),(11,cv),(12,j)]/\WsS r' hz X n N D s (us++[cv]) (kz (a::c)::((ws++[(a',inn,b')]).map pathOf).map kz) (alT th (c'.take j)) left) ⟨0,D,rfl,Z6 _,rfl,az⟩ ?_;clear az cP bj bk S' S a7 ba rc bb mkR cm pq lP;clear cx cM cN hq;rintro k fr hz cU ⟨j,P,rfl,hj,rfl,S⟩;have bo:(alT th (c'.take j)).length<=n:=by
  have⟨k1,k2⟩:=amO (c'.take j) th I.nd;have:=acK k1 (B:=rG n) fun u U=>j3.2 (by
   rcases(k2 u).1 U with q|q
   .exact I.lt u q
   .exact bg u (aj8 q))
  grind
 simp only[HO,seval,lc];refine Kl.intro (fun ht=>?_) (fun hf=>?_)
 .have m:j<c'.length:=acb ht;clear ht;have br:=aaa j NH;have am:=addM_take (th:=th) m;have a1:=adc j m;have l1:=cR hz S.O.lr j m;generalize c'[j]=y at*;refine Sk (XC a1 l1) ?_;refine kCi ap6 (ahz W0 P (kz (alT th (c'.take j))) (y:Int) hz S.gt.rl (by rw[y6];omega)) ?_;rintro x dB dE ⟨aA,rfl⟩;rcases aA with⟨cW,rfl⟩|⟨i,rfl,hi,-⟩
  .have aB:y∉alT th (c'.take j):=fun q=>cW (by unfold kz;grind);rw[abE aB]at am;have dn:decide ((-1:Int)<0)=tT:=by decide
   have⟨cZ,dF,dH,c3,c4,bx,dI⟩:=S.addT cU y NH;rw[<-am]at bx;simp only[HO,seval,dn,a1,l1,c3,c4,br];exact lgA (JS m) ⟨j+1,cZ,rfl,m,rfl,bx⟩
  .have aB:y∈alT th (c'.take j):=by
    have:=BS hi;unfold kz at this;have⟨z,dJ,e⟩:=aev.1 this;have:z=y:=NH;grind
   rw[abe aB]at am;have dn:decide ((i:Int)<0)=fF:=Sb NH;rw[<-am]at S;simp only[HO,seval,dn,br];exact lgA (JS m) ⟨j+1,P,rfl,m,rfl,S⟩
 have c5:c'.length<=j:=vp hf;rw[HV c5]at S bo;have pq:=S.pl.le S.O.lr;obtain⟨_,_,ay,-⟩:=pq.sl;have V:Le r' (rem (X::(bl N++bl P)) hz):=S.O.lr.iV fun b hb=>by
  rcases Og.1 hb with rfl|hb
  .exact S.nX
  .rcases aax.1 hb with q|q
   .exact S.O.ap b (Zr.1 q)
   .exact S.at_ b (Zr.1 q)
 refine Sk (ai2 S.oX ⟨_,_,_,ay⟩) ?_;refine kCi func64 (S.side (Q:=fun x g=>∃ev,x=.agg #[n,ev]/\PR g ev (afn left (kz c') (c'.length-1))) (fun x g g' ⟨ev,q1,q2⟩ lg=>⟨ev,q1,q2.le lg⟩) ((amF W0 _ cv (n:Int) left (kz c') _ ⟨s,rfl,S.pl.le V⟩ (E.le Nn.RP V) NH (by rw[y6];omega)).mono fun x g ⟨ev,q1,q2,q3⟩=>⟨q3,ev,q1,by rw[y6]at q2;exact q2⟩)) ?_;rintro x dL c6 ⟨r2,S2,c9,-,da,rfl,db⟩;have⟨dM,dc,S3,dO⟩:=S2.setX c6 db;refine Sk dc ?_;exact lgA cE ⟨_,_,ws++[(a',inn,b')],N,P,da,us++[cv],r2,rfl,rfl,S3,by rw[si (Ny.1 av).1];exact av,cK.trans c9,I',fun rest q=>by
   have e:HdW es (afn left (kz c') (c'.length-1))=fun x y=>HdW es left x y\/Ay a' inn b' x y:=funext fun x=>funext fun y=>propext (hH x y);rw[e]at q;have:=K _ (.cons W q);rwa[Cg],by rw[Eh,vY];omega,fun w hw=>by
   rcases aax.1 hw with q|q
   .exact a6 w q
   grind[mem_singleton]⟩
attribute [local irreducible] Jz JL vq cQ
variable {x:Int} {xs:RZ}
theorem RL.tailI{v:vV}(r:RL RP h v (x::xs))(m:okc 1 v):
  ∃v',abf pG 47 v (Z (.int .i64 1)) Y Y=Z v'/\RL RP h v' xs:=by
 have⟨vs,rs,ln,rd⟩:=r;obtain⟨a,n,c,rfl,f⟩:=m;have⟨a',c',e,hs⟩:=rs.sl;injection e with o p e3;subst o p;have j:0<vs.length:=by rw[ln];simp
 obtain⟨a,rfl⟩:=abV.1 (hs j);have rest:∀c',RL RP h (sL (Z (Ip a 1)) (vs.length-1) c') xs:=fun c'=>by have k:=rs.part (cap':=c') (lo:=1) (hi:=vs.length) j (qL0 _) rfl;rw[HV Ma]at k;refine⟨vs.drop 1,k,hGr,fun i y u l h2=>?_⟩;grind
 have b:(1:Int)<=(vs.length:Int):=NH;rcases f with⟨l,h2⟩|⟨rfl,-⟩
 .have d:¬UNK<=c:=Bc.2 h2;by_cases q:c=1
  .subst q;have e:vs.length=1:=NH;refine⟨sL (Z a) 0 0,?_,?_⟩
   .simp[abf,Mb,Ac,ts3,abm,abL,d,e]
   .have:xs=[]:=ak3.1 hGr;rw[this];exact⟨[],⟨⟨_,_,rfl,Ma⟩,fun i x g=>by cases g⟩,rfl,fun i x u g=>by cases g⟩
  .refine⟨sL (Z (Ip a 1)) (vs.length-1) (c-1),?_,rest _⟩;simp[abf,Mb,Ac,ts3,abm,abL,d,l,q,b]
 .refine⟨sL (Z (Ip a 1)) (vs.length-1) (UNK+1),?_,rest _⟩;simp[abf,Mb,Ac,ts3,abm,abL,b]
def mkRows2(h:aai)(u w:vV)(b:∃a l c,u=.slice a l c)(hw:∃a l c,w=.slice a l c):aas pG h 45 2 [(0,u),(1,w)]=Z (sL (Z h.next) 2 2,h.alloc (.cells [u,w])):=by obtain⟨_,_,_,rfl⟩:=b;obtain⟨_,_,_,rfl⟩:=hw;kernel_rfl
theorem aox{n:Nat}{E:Nat->II}{l:II}(a:∀v∈l,nx l v∈E v)(nd:l.Nodup):am7 E (Ei l) [l,l.reverse]:=fun f hf=>by grind[Ei]
theorem anH(z:abw)(v:vV)(n:Nat)(es:xLP)(h:aai)(hg:GR h v ⟨(n:Int),es⟩)(A:bX ⟨(n:Int),es⟩)(T2:zW n es)(hn:n<=20)(ag:es.length<=40):
  AC pG z 25 [v] h fun x h'=>adP (XU n (eN n es)) x/\Le h h':=by
 have hR:=A.GD;have hE:=MG hR A.q9;have C:=hg
 obtain⟨ev,rfl,hp⟩:=hg.open
 refine AC.vF func25 ntmps25 results25 fun D=>?_;obtain⟨e,b1,m,aj,-,lA⟩:=r8 (n:=(n:Int)) D hp
 generalize h.next=B at*
 refine Sk (XC b1 ((lA e (Le.refl _)).1)) ?_;refine kCi func46 (Ways_any z _ n es e (C.le m) A T2) ?_;rintro E h2 w2 ⟨l2,a,l,ws,rx,F,⟨rv,G,rr,H⟩,nd,h3,al,o,W,aq,ar⟩;have I:=m.trans l2;have er:kz (a::l)=(a:Int)::kz l:=rfl;rw[er]at rr;have⟨d,J,rl⟩:=rr.tailI H;have p:=rx.NS 0 Ma;simp only[oZ]at p;have ll:=fun g=>rl.TA g;rw[y6]at ll;have K:aaY .i64 ((l.length:Int)-1)=(l.length:Int)-1:=ie _ NH NH;have L:=fun(j:Nat)(q:j<l.length)=>rl.DH j (by rw[y6];exact q);have M:=fun(g:aai)(lg:Le h2 g)(j:Nat)(q:j<l.length)=>show aaC pG g 3 (aaq d j)=Z (.int .i64 (l[j]:Nat)) by rw[(rl.le Nn.RP lg).Uc j (by rw[y6];exact q),sY q]
 refine Sk (IX p (G h2 (Le.refl _)) J ll K) ?_;refine aab.intro (fun k fr f=>∃(j:Nat)(bv:vV),k=l.length-j/\j<=l.length/\fr=mkF [(3,E),(4,d),(5,bv),(6,.int .i64 ((l.length:Int)-1-(j:Nat)))]/\GI f bv (kz (l.reverse.take j))/\Le h2 f/\Z2 h2 bv)
  l.length [(3,E),(4,d),(5,.slice Y 0 0),(6,.int .i64 ((l.length:Int)-1))] hAs
  ⟨0,_,rfl,Z6 _,Ma,GI.nil _,Le.refl _,fun b hb=>by grind[blk]⟩ ?_
 rintro k fr f r ⟨j,bv,rfl,q,rfl,g,y,ap⟩;by_cases c:j<l.length
 .have dc:decide ((l.length:Int)-1-(j:Int)>=0)=tT:=EL NH;have N:((l.length:Int)-1-(j:Int)>=0)=True:=eq_true NH;have ej:(l.length:Int)-1-(j:Int)=((l.length-1-j:Nat):Int):=NH;have s:l.length-1-j<l.length:=NH;have O:aaY .i64 ((l.length:Int)-1-(j:Int)-1)=(l.length:Int)-1-((j+1:Nat):Int):=by grind[ie]
  have a1:=L _ s;have d1:=M f y _ s;rw[<-ej]at a1;have ai:l.reverse.take (j+1)=l.reverse.take j++[l[l.length-1-j]]:=by grind[take_succ_eq_append_getElem]
  have hb:(kz (l.reverse.take j)).length<=100000:=by grind[y6]
  obtain⟨v',P,h5,e4,e5,g5,w5,l4,Q,-⟩:=g.push r (l[l.length-1-j]:Int) hb;have⟨l5,a5⟩:=Q h2 y ap;have R:kz (l.reverse.take j)++[((l[l.length-1-j]:Nat):Int)]=kz (l.reverse.take (j+1)):=by grind[kz]
  rw[R]at g5;refine Sk (rE dc N a1 d1 e4 e5 O) ?_;exact tn (l.length-(j+1)) [(3,E),(4,d),(5,v'),(6,.int .i64 ((l.length:Int)-1-(j+1:Nat)))] NH hAs ⟨j+1,v',rfl,c,rfl,g5,l5,a5⟩
 have dc:decide ((l.length:Int)-1-(j:Int)>=0)=fF:=Sb NH;have N:((l.length:Int)-1-(j:Int)>=0)=False:=eq_false NH;rw[HV hGr]at g;have S:=rl.le Nn.RP y;obtain⟨_,_,T,-⟩:=S.sl;obtain⟨_,_,U,-⟩:=g.rl.sl;have⟨P,e4,l4,w4,o4⟩:=Tt r [d,bv];have bs:=mkRows2 f d bv ⟨_,_,_,T⟩ ⟨_,_,_,U⟩;rw[e4]at bs
 have rF:RL (RL RP) P (sL (Z ⟨f.next,0,Y⟩) 2 2) ([l,l.reverse].map kz):=by
  refine⟨[d,bv],RS.whole o4 rfl,rfl,fun i x u e h2=>?_⟩
  match i with
  |0=>grind[RL.le,Nn.RP]
  |1=>simp at e h2;subst e h2;exact g.rl.le Nn.RP l4
  |i+2=>simp at e
 have t:=y.trans l4;have⟨wv,V,X,aa⟩:=RL.tail (rx.le (Nn.RL Nn.RP) t) F;have key:akR (ws.map pathOf) [l,l.reverse]↔XU n (eN n es):=(drawn_eq hE W (aox (n:=n) o nd) (.refl _)).trans (apB hE nd h3 o W);refine Sk (xU dc N bs V) ?_;refine kCi func47 (Drawn_any z (ws.map pathOf) [l,l.reverse] n _ wv P rF X aa (fun w hw=>by
   grind) (fun x hx=>by
   rcases Og.1 hx with rfl|hx
   all_goals grind) hGr hGr) ?_
 rintro x h5 w5 ⟨⟨bb,rfl,ae⟩,l5⟩;refine Uy ?_;exact⟨⟨bb,rfl,ae.trans key⟩,(I.trans t).trans l5⟩
attribute [local instance] Classical.propDecidable
variable {G:GM}
def ajO{α:Type}:∀(l:List α)(i j:Nat),j<i->((l.eraseIdx i).eraseIdx j).Sublist (l.eraseIdx j)
 |[],i,j,_=>by simp
 |a::l,i+1,0,_=>by rw[alJ,qL216,qL216];exact gK l i
 |a::l,i+1,j+1,h=>by rw[alJ,alJ,alJ];exact(ajO l i j NH).cons₂ a
def akZ{n:Nat}:∀(f i:Nat)(l:xLP),¬aak n l->(∀j,j<i->j<l.length->aak n (l.eraseIdx j))->l.length<=i+f->(aeH n f i l).Sublist l/\¬aak n (aeH n f i l)/\∀j,j<(aeH n f i l).length->aak n ((aeH n f i l).eraseIdx j)
 |0,i,l,h,a,d=>⟨ann _,h,fun j q=>a j (by have:j<l.length:=q;omega) q⟩
 |f+1,i,l,h,a,d=>by
  rw[aeH];by_cases c:i<l.length
  rotate_left
  .rw[abE c];exact⟨ann _,h,fun j q=>a j NH q⟩
  rw[abe c];by_cases p:aak n (l.eraseIdx i)
  .rw[abe p];exact akZ f (i+1) l h (fun j q b=>by
    by_cases e:j=i
    .rw[e];exact p
    .exact a j NH b) NH
  .rw[abE p];have g:(l.eraseIdx i).length=l.length-1:=by rw[length_eraseIdx,abe c]
   have⟨k,h2,h3⟩:=akZ f i (l.eraseIdx i) p (fun j q b=>ahs (ajO l i j q) (a j q NH)) NH;exact⟨k.trans (gK l i),h2,h3⟩
def fnd_some(h:¬aak G.n.toNat G.es):(abv G).Sublist G.es/\¬aak G.n.toNat (abv G)/\∀j,j<(abv G).length->aak G.n.toNat ((abv G).eraseIdx j):=by rw[abv,abE h];exact akZ _ 0 _ h (fun j q=>absurd q (y5 _)) NH
def aog(h:aak G.n.toNat G.es):abv G=[]:=by rw[abv,abe h]
end
section
attribute [local instance] Classical.propDecidable
attribute [local irreducible] Jz JL vq cQ aaN
structure TwF (K:Int) (N:Nat) (l:xLP):Prop where
 r:bX ⟨(N:Int),l⟩
 kind:aaz l=K
 less:∀i,i<l.length->aak N (l.eraseIdx i)
section
variable{K:Int}{N:Nat}{l:List Pr}(T:TwF K N l)(hK:K≠0)
include T hK
end
end
section
attribute [local irreducible] Jz JL vq cQ
variable {L es:List Pr} {a b c d e n v w:Nat} {p q:Nat->Nat}
def dec_k5:∀v:Nat,v<5->∀w:Nat,w<5->(((((v:Int),(w:Int)):Pr)∈k5L\/(((w:Int),(v:Int)):Pr)∈k5L)↔v≠w):=by decide+kernel
def dec_k33b:(rG 6).all (fun v=>(rG 6).all fun w=>(akF.contains ((v:Int),(w:Int))||akF.contains ((w:Int),(v:Int)))==((decide (v<3)&&decide (3<=w))||(decide (3<=v)&&decide (w<3))))=tT:=by decide+kernel
theorem apk(v:Nat)(a:v<6)(w:Nat)(hw:w<6):(((((v:Int),(w:Int)):Pr)∈akF\/(((w:Int),(v:Int)):Pr)∈akF)↔(v<3/\3<=w/\w<6)\/(3<=v/\v<6/\w<3)):=by have:=fj.1 (fj.1 dec_k33b v (j3.2 a)) w (j3.2 hw);grind
attribute [local instance] Classical.propDecidable
theorem ana(hR:InR n es){p:Pr}(c:p∈es):∃a b:Nat,p=GW a b/\Jp es a b:=by
 have⟨d,h2,h3⟩:=hR p c;refine⟨p.1.toNat,p.2.toNat,?_,?_⟩
 .grind[GW]
 .left;grind
theorem anI(hR:InR n es)(hA:D3 es)(nd:L.Nodup)(h:∀p,p∈L↔∃a b,Jp es a b/\p=GW a b):es.Perm L:=by grind[D3.nodup,ana,H4]
def apl{es c:xLP}(N:Ren 200 p q)(hR:InR 200 es)(f:InR 200 c)(h:∀a b,a<200->b<200->(Jp c (p a) (p b)↔Jp es a b)):H9 200 es c p:=⟨hR,f,N.pl,fun _ _ ha hb e=>N.inj ha hb e,fun x d=>⟨q x,N.ql x d,N.pq x d⟩,h⟩
theorem ak0{l:II}(nd:l.Nodup)(N:Ren 200 p q)(a:∀i,(h:i<l.length)->p i=l[i])(c:l.length<=200)(b:v<200):p v∈l↔v<l.length:=by
 constructor
 .intro h;have⟨i,hi,e⟩:=qL194 h;rw[<-a i hi]at e;have:=N.inj NH b e;omega
 grind
def adj_k5:Jp k5L v w↔v<5/\w<5/\v≠w:=by
 have hR:InR 5 k5L:=k5R.GD;constructor
 .intro h;have l:=h.lt hR;exact⟨l.1,l.2,(dec_k5 v l.1 w l.2).1 h⟩
 .rintro⟨a,h2,h3⟩;exact(dec_k5 v a w h2).2 h3
def adj_k33:Jp akF v w↔(v<3/\3<=w/\w<6)\/(3<=v/\v<6/\w<3):=by
 have hR:InR 6 akF:=k33R.GD;constructor
 .intro h;have l:=h.lt hR;exact(apk v l.1 w l.2).1 h
 .intro h;exact(apk v NH w NH).2 h
theorem aij{K:Int}(a:bX ⟨((200:Nat):Int),L⟩)(d:aaz L=K)(b:bX ⟨((200:Nat):Int),es⟩)(I:H9 200 L es p)(c:es.length=L.length):aaN es=K:=by rw[akQ I a.q9 b.q9 c];grind[aaz.eq_1]
theorem five_kind(nd:[a,b,c,d,e].Nodup)(f:bX ⟨((200:Nat):Int),es⟩)(mem:∀v w,Jp es v w↔v∈[a,b,c,d,e]/\w∈[a,b,c,d,e]/\v≠w):aaN es=5:=by
 have lt:∀v∈[a,b,c,d,e],v<200:=fun v g=>by
  by_cases k:v=a
  .have:Jp es a b:=(mem a b).2 ⟨Ma,Ma,hGr⟩;rw[k];exact(this.lt f.GD).1
  .exact(((mem a v).2 ⟨Ma,g,EH k⟩).lt f.GD).2
 have⟨p,q,N,h⟩:=ren_ex nd lt;have i:bX ⟨((200:Nat):Int),k5L⟩:=k5R.up200;refine aij i apd f (apl N i.GD f.GD fun v w g hw=>?_) ?_
 .rw[mem,adj_k5,ak0 nd N h Ma g,ak0 nd N h Ma hw];simp only[Fu,alv];have:p v≠p w↔v≠w:=⟨fun k e=>k (by rw[e]),fun k e=>k (N.inj g hw e)⟩;rw[this]
 .have:=(anI f.GD f.q9 (alI nd) fun p=>by grind[ahj]).length_eq;rw[this];rfl
theorem six_kind{a b c d e f:Nat}(nd:[a,b,c,d,e,f].Nodup)(h:bX ⟨((200:Nat):Int),es⟩)(mem:∀v w,Jp es v w↔(v∈[a,b,c]/\w∈[d,e,f])\/(v∈[d,e,f]/\w∈[a,b,c])):aaN es=33:=by
 have lt:∀v∈[a,b,c,d,e,f],v<200:=fun v i=>by
  by_cases k:v∈[a,b,c]
  .exact(((mem v d).2 (.inl ⟨k,Ma⟩)).lt h.GD).1
  .exact(((mem v a).2 (.inr ⟨hGr,Ma⟩)).lt h.GD).1
 have⟨p,q,N,g⟩:=ren_ex nd lt;have m:bX ⟨((200:Nat):Int),akF⟩:=k33R.up200;have o:=g 0 Ma;have j:=g 1 Ma;have h2:=g 2 Ma;have h3:=g 3 Ma;have n:=g 4 Ma;have r:=g 5 Ma;simp at o j h2 h3 n r;have six:∀v,v<200->(p v∈[a,b,c]↔v<3)/\(p v∈[d,e,f]↔3<=v/\v<6):=fun v i=>by
  by_cases k:v<6
  .have:v=0\/v=1\/v=2\/v=3\/v=4\/v=5:=NH;simp at nd;rcases this with rfl|rfl|rfl|rfl|rfl|rfl
   .grind
   .grind
   .grind
   .grind
   all_goals grind
  .have:=mt (ak0 nd N g Ma i).1 k;grind
 refine aij m an8 h (apl N m.GD h.GD fun v w i hw=>?_) ?_
 .rw[mem,adj_k33,(six v i).1,(six v i).2,(six w hw).1,(six w hw).2];omega
 .have l:([a,b,c]++[d,e,f]).Nodup:=nd;have:=(anI h.GD h.q9 (crs_nd l) fun p=>by
   rw[aiG];constructor
   .grind
   .rintro⟨x,y,j,n⟩;rcases(mem x y).1 j with k|k
    all_goals grind[so]).length_eq
  rw[this];rfl
attribute [local instance] Classical.propDecidable
variable {b:List Pr}
theorem aoy(a:bX ⟨(n:Int),b⟩)(h:b.length<9):XU n (eN n b):=by have hR:InR (n+3) b:=a.GD.up NH;have R:=MG hR a.q9;have lt:∀v w,w∈eN (n+3) b v->w<n+3:=fun v w q=>R.lt w v (R.sy v w q);refine(planar_up a.GD (ail n 3)).1 (few_plan (n:=n+3) NH _ (fun v w=>w∈eN (n+3) b v) rfl ?_ lt R.sy R.ir);have c:=(anA (fun v=>(lst (n+3) (fun v w=>w∈eN (n+3) b v) v).length) (fun v=>(eN (n+3) b v).length) (rG (n+3)) fun v _=>acK ((aej lt R.sy R.ir).nd v) fun w hw=>(aaD lt).1 hw).1;rw[<-Vq (n+3) (eN (n+3) b),Ud R a.q9.nodup hR fun v w=>vD hR]at c;grind[szA]
def aem(O:aeo n b):aak n b↔XU n (eN n b):=by rw[abc O,O.flat];exact⟨fun h=>h.elim (aoy O.1) id,.inr⟩
variable {b:Nat} {l:List Pr} {n:Int} {p q:Pr}
theorem akx{v y:Int}:y∈acv l v↔(v,y)∈l\/(y,v)∈l:=by grind[acv,amy]
theorem norm_eq:lZ p=lZ q↔p=q\/(p.1=q.2/\p.2=q.1):=by have⟨a,b⟩:=p;grind[lZ]
theorem ahS(h:0<=(lZ p).1/\(lZ p).1≠(lZ p).2/\(lZ p).2<n):0<=p.1/\0<=p.2/\p.1<n/\p.2<n/\p.1≠p.2:=by grind[lZ]
theorem anJ{v:Int}:∀{l:xLP},(∀p∈l,p.1≠p.2)->(l.map lZ).Nodup->(acv l v).Nodup
 |[],_,_=>by simp[acv]
 |p::l,h,nd=>by
  rw[QD,VU]at nd;have d:=anJ (v:=v) (fun q f=>h q (by simp[f])) nd.2;have e:acv (p::l) v=amy p v++acv l v:=by simp[acv]
  rw[e,j9];have g:=h p Ma;refine⟨?_,d,fun a ha b hb c=>?_⟩
  .grind[amy]
  .subst c;grind[amy,akx,norm_eq]
theorem amp{v:Int}:∀{l:xLP},(∀p∈l,p.1≠p.2)->(l.filter fun p=>alr p v).length+(acv l v).length=l.length
 |[],_=>by simp[acv]
 |p::l,h=>by have b:=amp (v:=v) (l:=l) fun q a=>h q (by simp[a]);grind[acv,amy,alr]
def YG.loop(k:YG n l):∀p∈l,p.1≠p.2:=fun p a=>(ahS (k.ok p a)).2.2.2.2
theorem agZ:(w:Int)∈acv l (v:Int)↔Jp l v w:=akx
theorem amw(k:YG ((200:Nat):Int) l)(v:Nat):((Zh 200 (sg l)).getD v []).length=(acv l (v:Int)).length:=by
 have a:bX ⟨((200:Nat):Int),sg l⟩:=k.right;have hR:=a.GD;have pos:∀y∈acv l (v:Int),0<=y:=fun y b=>by
  rcases akx.1 b with h|h
  .exact(ahS (k.ok _ h)).2.1
  .exact(ahS (k.ok _ h)).1
 have nd:=anJ (v:=(v:Int)) k.loop k.nd;have:(agX (Zh 200 (sg l)) v).Perm ((acv l (v:Int)).map (·.toNat)):=agD (agE hR a.q9 _) (by
  grind[List.Pairwise.imp_of_mem]) fun w=>by
  rw[acu hR,ai8];simp only[aev];constructor
  .intro h;exact⟨(w:Int),agZ.2 h,Ma⟩
  grind[agZ]
 rw[<-agb,this.length_eq,wI]
theorem anb(l:xLP):(sg l).length=l.length:=by grind[ZS]
theorem tri_no(f:bX ⟨((200:Nat):Int),es⟩)(h2:((Zh 200 es).getD v []).length=2)(ha:Jp es v a)(hb:Jp es v b)(ne:a≠b)(d:Jp es a b):aaN es=0:=by
 refine ZT fun j=>?_;have⟨E,ks,K,S⟩:=ahk f j;have hR:=f.GD;have hA:=f.q9;have n:a∉aad (Zh 200 es):=fun h=>K.apart f h2 h ha hb ne d;have nb:b∉aad (Zh 200 es):=fun h=>K.apart f h2 h hb ha (EH ne) d.symm;have nva:v≠a:=fun e=>by grind[Xa]
 have nvb:v≠b:=fun e=>by grind[Xa]
 have only:∀{x y z:Nat},((Zh 200 es).getD x []).length=2->Jp es x y->Jp es x z->y≠z->∀w,Jp es x w->w=y\/w=z:=fun{x y z} q r s o w hw=>by grind[ahQ]
 have cv:=@only v a b h2 ha hb ne;have ca:=@only a v b (K.two a v ha.symm n) ha.symm d nvb;have cb:=@only b v a (K.two b v hb.symm nb) hb.symm d.symm nva;obtain⟨T,-⟩:=kind_no _ es rfl f j;obtain⟨t,k⟩:∃t,t∈aad (Zh 200 es):=by
  have l5:5<=(aad (Zh 200 es)).length:=by
   rcases S with⟨h,-⟩|⟨A,B,p,u,lB,-⟩
   all_goals grind[List.Perm.length_eq,List.length_append]
  exact⟨_,aaf (show 0<(aad (Zh 200 es)).length by omega)⟩
 have⟨m,C⟩:=agY k;have g:∃w,Jp es t w:=by
  have hd:=K.deg t k;have:=K.e3;rw[<-agb]at hd;rcases h:agX (Zh 200 es) t with _|⟨w,l⟩
  .grind
  .exact⟨w,(acu hR).1 (by rw[h];simp)⟩
 have i:=(ha.lt hR).1;have R:=T 200 v t ⟨a,ha⟩ g NH NH;have closed:∀{x},Rc (Jp es) 200 v x->x=v\/x=a\/x=b:=fun{x} c=>by
  induction c<;>grind
 grind
theorem apm:l.any (fun p=>afX p (a:Int) (b:Int))=tT↔Jp l a b:=by
 rw[agN];constructor
 .rintro⟨p,c,h⟩;have⟨x,y⟩:=p;simp only[afX,Dj,rY,vg]at h;rcases h with⟨rfl,rfl⟩|⟨rfl,rfl⟩
  .exact .inl c
  .exact .inr c
 .rintro(h|h)
  all_goals grind[afX]
theorem tak_adj(x y:Nat):Jp (akA l (v:Int) (a:Int) (b:Int)) x y↔(Jp l x y/\x≠v/\y≠v)\/(x=a/\y=b)\/(x=b/\y=a):=by grind[Jp,akA,alr]
theorem tak_step(k:YG ((200:Nat):Int) l){a b:Int}(f:acv l (v:Int)=[a,b]):
  (l.any (fun p=>afX p a b)=tT->aaN (sg l)=0)/\(l.any (fun p=>afX p a b)=fF->YG ((200:Nat):Int) (akA l (v:Int) a b)/\aaN (sg (akA l (v:Int) a b))=aaN (sg l)/\
   ∀u:Nat,u<v->(acv (akA l (v:Int) a b) (u:Int)).length=(acv l (u:Int)).length)/\(acv (akA l (v:Int) a b) (v:Int)).length=0:=by
 have i:bX ⟨((200:Nat):Int),sg l⟩:=k.right;have hR:=i.GD;have nd:=anJ (v:=(v:Int)) k.loop k.nd;rw[f]at nd;have o:a∈acv l (v:Int):=by rw[f];simp
 have mb:b∈acv l (v:Int):=by rw[f];simp
 have rD:∀y∈acv l (v:Int),0<=y/\y<200/\y≠(v:Int)/\v<200:=fun y g=>by
  rcases akx.1 g with h|h
  .have:=ahS (k.ok _ h);grind
  .have:=ahS (k.ok _ h);grind
 have⟨s,a2,t,A⟩:=rD a o;obtain⟨b0,B,bv,-⟩:=rD b mb;obtain⟨a,rfl⟩:=WA s;obtain⟨b,rfl⟩:=WA b0;have ne:a≠b:=fun e=>by grind
 have nva:a≠v:=fun e=>t (by rw[e]);have nvb:b≠v:=fun e=>bv (by rw[e]);have ha:Jp l v a:=agZ.1 o;have hb:Jp l v b:=agZ.1 mb;have only:∀w,Jp l v w->w=a\/w=b:=fun w hw=>by have:=agZ.2 hw;grind
 have h2:((Zh 200 (sg l)).getD v []).length=2:=by grind[amw]
 have ad:∀x y,Jp (sg l) x y↔Jp l x y:=ai8 l;refine⟨fun h=>tri_no i h2 ((ad _ _).2 ha) ((ad _ _).2 hb) ne ((ad _ _).2 (apm.1 h)),fun h=>?_,?_⟩
 .have nab:¬Jp l a b:=fun q=>by grind[apm]
  have j:YG ((200:Nat):Int) (akA l (v:Int) (a:Int) (b:Int)):=by
   have r:=amp (v:=(v:Int)) k.loop;rw[f]at r;refine⟨NH,NH,?_,fun p c=>?_,?_⟩
   .grind[YG.len,akA]
   .rcases aax.1 c with c|c
    .exact k.ok p (K4.1 c).1
    grind[lZ]
   .unfold akA;rw[akG,j9];refine⟨k.nd.sublist (EP.map _),Ma,fun x z y g e=>?_⟩;obtain⟨p,c,rfl⟩:=aev.1 z;have g:y=lZ ((a:Int),(b:Int)):=hGr;rw[g]at e;have m:=(K4.1 c).1;rcases norm_eq.1 e with e|⟨C,D⟩
    .exact nab (.inl (e▸m))
    .refine nab (.inr ?_);grind
  have d:bX ⟨((200:Nat):Int),sg (akA l (v:Int) (a:Int) (b:Int))⟩:=j.right;have n:∀x y,Jp (sg (akA l (v:Int) (a:Int) (b:Int))) x y↔_:=fun x y=>(ai8 _ x y).trans (tak_adj x y);have U:UpK (sg (akA l (v:Int) (a:Int) (b:Int))) (sg l) a b v:=by
   refine⟨d.GD,hR,d.q9,i.q9,(n a b).2 (.inr (.inl ⟨rfl,rfl⟩)),fun w q=>?_,fun x y=>?_,?_⟩
   .grind
   .grind[upA,Jp.symm]
   .rw[anb,anb];have r:=amp (v:=(v:Int)) k.loop;grind[akA]
  refine⟨j,U.kind.symm,fun u E=>?_⟩;rw[<-amw j,<-amw k];grind[UpK.deg]
 .rw[ak3,qH];grind[akx,akA,alr]
theorem red_ok{es:xLP}(f:bX ⟨((200:Nat):Int),es⟩):∀v:Nat,(∀l,ajq es v=Z l->YG ((200:Nat):Int) l/\aaN (sg l)=aaN es/\∀u:Nat,u<v->(acv l (u:Int)).length≠2)/\(ajq es v=Y->aaN es=0)
 |0=>by refine⟨fun l h=>?_,(fun h=>by cases h)⟩;injection h with h;subst h;have k:YG ((200:Nat):Int) es:=f.newOK;refine⟨k,?_,fun u j=>absurd j (y5 u)⟩;have d:bX ⟨((200:Nat):Int),sg es⟩:=k.right;exact akQ (π:=id) ⟨f.GD,d.GD,fun a h=>h,fun a b _ _ e=>e,fun x h=>⟨x,h,rfl⟩,fun a b _ _=>ai8 es a b⟩ f.q9 d.q9 (anb es)
 |v+1=>by
  have⟨m,h2⟩:=red_ok f v;cases g:ajq es v with
  |none=>
   have:ajq es (v+1)=Y:=by grind[ajq]
   grind
  |some l=>
   have⟨k,n,hd⟩:=m l g;have e:ajq es (v+1)=am6 l (v:Int):=by grind[ajq]
   rw[e];by_cases c:∃a b,acv l (v:Int)=[a,b]
   .obtain⟨a,b,i⟩:=c;have⟨t1,o,r⟩:=tak_step k i
    have s:am6 l (v:Int)=if l.any (fun p=>afX p a b)then Y else Z (akA l (v:Int) a b):=by grind[am6]
    cases ha:l.any fun p=>afX p a b<;>grind
   .have t:(acv l (v:Int)).length≠2:=fun q=>c (by
     match hh:acv l (v:Int),q with
     |[a,b],_=>grind)
    grind[am6]
theorem apn{α:Type}{A B:List α}(nd:A.Nodup)(h:∀a∈A,a∈B)(d:B.length<=A.length):∀b∈B,b∈A:=fun b hb=>ZT fun q=>by have:=acK (A:=b::A) (B:=B) (VU.2 ⟨q,nd⟩) fun x c=>(Og.1 c).elim (fun e=>e▸hb) (h x);grind
noncomputable def ahJ(l:xLP):II:=(rG 200).filter fun(v:Nat)=>decide (0<(acv l (v:Int)).length)
theorem corn_act(l:xLP):akq l 200=(ahJ l).map fun(v:Nat)=>(v:Int):=by grind[akq,ahJ]
theorem prs5{cs:II}(h:cs.length=5):(aj6 cs).length=10:=by
 match cs,h with
 |[a,b,c,d,e],_=>rfl
section
variable{l:List Pr}(k:YG ((200:Nat):Int) l)
include k
def sgR:bX ⟨((200:Nat):Int),sg l⟩:=k.right
theorem agy{v:Nat}:v∈ahJ l↔∃w,Jp (sg l) v w:=by
 have hR:=(sgR k).GD;simp only[ahJ,K4,j3,vg];constructor
 .rintro⟨b,h⟩;have⟨y,a⟩:=exists_mem_of_ne_nil _ (ne_nil_of_length_pos h);have y0:0<=y:=by
   rcases akx.1 a with q|q
   .exact(ahS (k.ok _ q)).2.1
   .exact(ahS (k.ok _ q)).1
  refine⟨y.toNat,(ai8 _ _ _).2 (agZ.1 ?_)⟩;grind
 .rintro⟨w,h⟩;refine⟨(h.lt hR).1,?_⟩;exact aho (agZ.2 ((ai8 _ _ _).1 h))
def aoz:(ahJ l).Nodup:=(fun _=>uV.filter _:YG ((200:Nat):Int) l->(ahJ l).Nodup) k
variable(no2:∀u:Nat,u<200->(acv l (u:Int)).length≠2)
include no2
theorem deg_no2(v:Nat):((Zh 200 (sg l)).getD v []).length≠2:=by grind[amw,Xq]
theorem ane(f:aaN (sg l)≠0):((ahJ l).length=5/\l.length=10)\/((ahJ l).length=6/\l.length=9/\∃A B:II,(A++B).Nodup/\∀x y,Jp (sg l) x y↔(x∈A/\y∈B)\/(x∈B/\y∈A)):=by
 have d:=sgR k;have hR:=d.GD;have⟨E,ks,K,S⟩:=ahk d f;have base:=K.base d (deg_no2 k no2);have pm:=anI hR d.q9 K.nd fun p=>by grind[akY.ends]
 have i:l.length=ks.length:=by rw[<-pm.length_eq,anb]
 have e:(aad (Zh 200 (sg l))).Nodup:=uV.filter _;rcases S with⟨j,rfl⟩|⟨A,B,p,g,lB,rfl⟩
 .left;have ad:∀x y,Jp (sg l) x y↔x∈aad (Zh 200 (sg l))/\y∈aad (Zh 200 (sg l))/\x≠y:=fun x y=>by grind[ahj,afc]
  have:(ahJ l).Perm (aad (Zh 200 (sg l))):=agD (aoz k) e fun v=>by
   rw[agy k];constructor
   .grind
   .intro h;obtain⟨w,hw,ne⟩:∃w∈aad (Zh 200 (sg l)),w≠v:=by
     refine ZT fun q=>?_;have:=acK (A:=aad (Zh 200 (sg l))) (B:=[v]) e fun x m=>by grind
     grind
    exact⟨w,(ad v w).2 ⟨h,hw,EH ne⟩⟩
  grind[List.Perm.length_eq,prs5]
 .right;have nd:=p.nodup_iff.2 e;have ad:∀x y,Jp (sg l) x y↔(x∈A/\y∈B)\/(x∈B/\y∈A):=fun x y=>by
   rw[base,aiG];grind[afc]
  have Z:∀X:II,X.length=3->∃x,x∈X:=fun X h=>by
   match X,h with
   |[a,b,c],_=>exact⟨a,Ma⟩
  have:(ahJ l).Perm (A++B):=agD (aoz k) nd fun v=>by
   rw[agy k,aax];constructor
   .grind
   .rintro(h|h)
    .obtain⟨w,hw⟩:=Z B lB;exact⟨w,(ad v w).2 (.inl ⟨h,hw⟩)⟩
    .obtain⟨w,hw⟩:=Z A g;exact⟨w,(ad v w).2 (.inr ⟨h,hw⟩)⟩
  refine⟨by rw[this.length_eq,Eh];omega,by grind[amu],A,B,nd,ad⟩
theorem end_eq:endR l=aaN (sg l):=by
 have n:=sgR k;have hR:=n.GD;have Q:=anb l;have nC:=aoz k;unfold endR;rw[corn_act,wI];by_cases r:(ahJ l).length=5/\l.length=10
 .rw[abe r];have on:∀p∈sg l,p∈aj6 (ahJ l):=fun p i=>by grind[ana,ahj,agy,Jp.symm,Xa]
  have all:=apn n.q9.nodup on (by grind[prs5]);have ad:∀x y,Jp (sg l) x y↔x∈ahJ l/\y∈ahJ l/\x≠y:=fun x y=>by grind[agy,Jp.symm,Xa,Mf,ahj]
  have c:=r.1;clear on all r no2;generalize ahJ l=C at*
  match C,c with
  |[a,b,c,d,e],_=>grind[five_kind]
 rw[abE r];by_cases I:(ahJ l).length≠6\/l.length≠9
 .grind[ane]
 rw[abE I];obtain⟨c,J,s⟩:∃c:Nat,((ahJ l).map fun(v:Nat)=>(v:Int)).headD 0=(c:Int)/\c∈ahJ l:=by
  cases h:ahJ l<;>grind
 rw[J];have t:∀w:Nat,(w:Int)∈acv l (c:Int)↔Jp (sg l) c w:=fun w=>agZ.trans (ai8 _ _ _).symm;have UQ:∀p∈l,∃x y:Nat,p=((x:Int),(y:Int))/\Jp (sg l) x y:=fun p i=>by have:=ahS (k.ok p i);have⟨S,T⟩:=p;simp only at this;obtain⟨x,rfl⟩:=WA this.1;obtain⟨y,rfl⟩:=WA this.2.1;exact⟨x,y,rfl,(ai8 _ _ _).2 (.inl i)⟩
 cases ha:l.any fun p=>decide (p.1∈acv l (c:Int))==decide (p.2∈acv l (c:Int))with
 |true=>
  rw[abe rfl];refine ZT fun q=>?_;rcases ane k no2 (EH q)with h|⟨-,-,A,B,nd,ad⟩
  .exact r h
  have⟨p,i,hb⟩:=agN.1 ha;obtain⟨x,y,rfl,D⟩:=UQ p i;have ap:∀v,v∈A->v∈B->False:=fun v j h2=>(j9.1 nd).2.2 v j v h2 rfl;rw[beq_iff_eq,ai7]at hb;simp only[t,ad]at hb;have⟨w,hw⟩:=(agy k).1 s;have j:=(ad c w).1 hw;have h2:=(ad x y).1 D;have a1:=ap c;have a2:=ap x;have U:=ap y;grind
 |false=>
  simp only[acg,if_false];have one:∀x y,Jp (sg l) x y->(Jp (sg l) c x↔¬Jp (sg l) c y):=fun x y h=>by grind[Jp,ai8]
  obtain⟨F,H⟩:∃F:II,F=(ahJ l).filter fun v=>decide (Jp (sg l) c v):=⟨_,rfl⟩;obtain⟨R,E⟩:∃R:II,R=(ahJ l).filter fun v=>decide (¬Jp (sg l) c v):=⟨_,rfl⟩;have m:∀v,v∈F↔Jp (sg l) c v:=fun v=>by rw[H,K4,vg];exact⟨fun h=>h.2,fun h=>⟨(agy k).2 ⟨c,h.symm⟩,h⟩⟩
  have g:∀v,v∈R↔v∈ahJ l/\¬Jp (sg l) c v:=fun v=>by grind
  have K:F.Nodup:=hGr;have L:R.Nodup:=hGr;have nd:(F++R).Nodup:=hGr;have pm:(F++R).Perm (ahJ l):=agD nd nC fun v=>by
   rw[aax,m,g];constructor
   all_goals grind
  have hlen:=pm.length_eq;rw[Eh]at hlen;have on:∀p∈sg l,p∈aln F R:=fun p i=>by
   obtain⟨a,b,rfl,h⟩:=ana hR i;have o:=one a b h;by_cases q:Jp (sg l) c a
   .exact aiG.2 ⟨a,b,(m a).2 q,(g b).2 ⟨(agy k).2 ⟨a,h.symm⟩,o.1 q⟩,rfl⟩
   .have M:Jp (sg l) c b:=ZT fun z=>q (o.2 z);exact aiG.2 ⟨b,a,(m b).2 M,(g a).2 ⟨(agy k).2 ⟨b,h⟩,q⟩,so ..⟩
  have hle:=acK n.q9.nodup on;have hle:9<=F.length*R.length:=by grind[amu]
  have G:F.length=3/\R.length=3:=by have N:F.length+R.length=6:=NH;have:F.length=0\/F.length=1\/F.length=2\/F.length=3\/F.length=4\/F.length=5\/F.length=6:=NH;rcases this with h|h|h|h|h|h|h<;>rw[h]at hle N<;>omega
  have all:=apn n.q9.nodup on (by grind[amu]);have ad:∀x y,Jp (sg l) x y↔(x∈F/\y∈R)\/(x∈R/\y∈F):=fun x y=>by
   constructor
   .intro h;have o:=one x y h;have V:=(agy k).2 ⟨y,h⟩;have W:=(agy k).2 ⟨x,h.symm⟩;rw[m,m,g,g];by_cases q:Jp (sg l) c x
    all_goals grind
   .rintro(⟨j,h2⟩|⟨j,h2⟩)
    .exact Mf (fun e=>((g y).1 h2).2 hGr) (all _ (aiG.2 ⟨x,y,j,h2,rfl⟩))
    .exact(Mf (fun e=>((g x).1 j).2 hGr) (all _ (aiG.2 ⟨y,x,h2,j,rfl⟩))).symm
  have⟨O,P⟩:=G;clear on all hle hlen pm m g K L H E one
  match F,O,R,P with
  |[a,b,c],_,[d,e,f],_=>exact(six_kind nd n ad).symm
end
theorem kindR_eq(es:xLP):ant es=aaz es:=by unfold ant aaz;grind[red_ok,end_eq]
end
section
attribute [local irreducible] Kp MQ lU KO1 KO KN KX KE VK Kl ZJ TC aab
attribute [local irreducible] Jz JL vq cQ
variable {es l:List Pr} {i n:Nat} {p:Pr}
def amI(n:Nat)(b:xLP):Prop:=(aag n b).length<=2\/XU (aag n b).length (eN (aag n b).length (aat n b))
theorem vert_le{b:xLP}(h:b.length<2):(aag n b).length<=2:=by
 have nd:(aag n b).Nodup:=uV.filter _
 match b,h with
 |[],_=>grind[aag,filter_eq_nil_iff]
 |[p],_=>
  have:=acK nd (B:=[p.1.toNat,p.2.toNat]) fun v a=>by grind[aeT,aO]
  grind
theorem fine_iff(a:bX ⟨(n:Int),es⟩):aak n es↔∀b∈vq n es,amI n b:=by
 rw[acp a];have key:∀b∈vq n es,aak n b↔amI n b:=fun b hb=>by
  have O:=aaQ a hb;constructor
  .intro h;exact .inr ((afA O.1.GD).2 ((aem O).1 h))
  .rintro(h|h)
   .refine(abc O).2 (.inl ?_);refine ZT fun q=>?_;have:=(O.two NH).n3;omega
   .exact(aem O).2 ((afA O.1.GD).1 h)
 grind
theorem ajs(J:abw)(v:vV)(G:GM)(h:aai)(hg:GR h v G)(hn:G.n<=20)(he:G.es.length<=40):
  AC pG J 9 [v] h fun x h'=>adP (bX G/\aak G.n.toNat G.es) x/\Le h h':=by
 have aa:=hg;have⟨gn,es⟩:=G
 obtain⟨ev,rfl,hp⟩:=hg.open
 simp only at hn he;refine AC.vF func9 ntmps9 results9 fun ae=>?_;obtain⟨h1,b1,ag,aC,-,I⟩:=r8 (n:=gn) ae hp
 generalize h.next=B at*
 have ai:=I h1 (Le.refl _);refine Sk (XC b1 ai.1) ?_;refine kCi func23 (an1 J _ ⟨gn,es⟩ h1 (aa.le ag)) ?_;rintro x h2 w2 ⟨l2,⟨aD,rfl⟩|⟨U,bv,rfl,hB⟩⟩
 .have d:decide ((20:Int)=0)=fF:=by decide
  refine Sk (XC @bne.eq_1.{0} d) ?_
  grind[adP.f,Le.trans]
 have h0:0<=gn:=U.n0;obtain⟨n,rfl⟩:=WA h0;have aj:(n:Int)<=200:=U.n1;simp only[yM]at hB ⊢;have d0:decide ((0:Int)=0)=tT:=by decide
 have lB:=fun g=>hB.len (P:=pG) sU g;have al:=fine_iff U;have K:∀b∈vq n es,aeo n b/\b.Sublist es:=fun b hb=>⟨aaQ U hb,by grind[aaP,ajm]⟩;have aE:(vq n es).length<=40:=by grind[afx]
 generalize vq n es=bs at*;refine Sk (XC @bne.eq_1.{0} d0) ?_
 refine lIn (fun k fr o=>∃i:Nat,k=bs.length-i/\i<=bs.length/\fr=mkF [(1,pT (Z B)),(3,bv),(5,i)]/\Le h2 o/\∀j b,j<i->bs[j]?=Z b->amI n b) ⟨0,rfl,Z6 _,rfl,Le.refl _,fun j b hj=>absurd hj (y5 j)⟩ ?_;rintro k fr o L ⟨i,rfl,hi,rfl,V,aA⟩;have s:=l2.trans V;simp only[HO,seval,lB];refine Kl.intro (fun ht=>?_) (fun hf=>?_)
 rotate_left
 .have aF:bs.length<=i:=vp hf;refine Uy ?_;grind[adP.t,Le.trans,mem_iff_getElem?]
 have r:i<bs.length:=acb ht;clear ht;have aH:=CA r;have⟨O,aq⟩:=K bs[i] (aaf r);have D:=hB.addr (P:=pG) sU AV Ji (k:=.i64) i r;have⟨xb,pb,u⟩:=(hB.le Nn.PR V).loadS AV rfl i r;have aJ:bs[i].length<=40:=jz aq.length_le he;generalize bs[i]=b at*;have aw:=aaa i NH;have A1:=I o s;refine Uy ?_;apply Ya (F:=fun(fr:aam)(A:aai)=>∃(X:Nat)(cv:vV),Fj fr [(1,pT (Z B)),(3,bv),(5,i),(6,pT (Z X))]/\Le o A/\WF A/\GP A cv (aat n b)/\A.own X=Z (.cells [((aag n b).length:Int),cv]))
 .intro cont;refine gh (fRn 0 6 (.ch 6 [1,5] (JQ 7 [] (JQ 8 [0,1,2,3,4,5,6,7] .done)) (JQ 7 [] (JQ 6 [1,5] (JQ 8 [0,1,2,3,4,5,6,7] .done))))) ?_
  have ar:∃g,o.alloc (.cells [.int .i64 0,.slice Y 0 0])=g/\Le o g/\WF g/\g.own o.next=Z (.cells [.int .i64 0,.slice Y 0 0]):=Tt L _
  have⟨W,y1,m1,v1,u1⟩:=ar
  have av:abO pG o 24=Z (pT (Z ⟨o.next,0,Y⟩),W):=by rw[Lo,y1]
  have Q1:=I W (s.trans m1);simp only[kJJ,seval,Qg,Ii,Ip,Gc,A1.2.1,Q1.2.1,D,u o (Le.refl _),u W m1,av];refine⟨?_,?_⟩
  .refine kGi func24 (am5 J xb n b o pb O.1.GD NH NH) ?_;rintro x a w ⟨cv,rfl,z,l,M⟩;have⟨C,y3,m3,v3,u3⟩:=Tt w [.int .i64 0,.slice Y 0 0]
   have al3:abO pG a 24=Z (pT (Z a.next),C):=by rw[Lo,y3]
   have st:=aib (n:=((aag n b).length:Int)) (ev:=cv) u3 z.pr.sl.one z.pr.sl.cell
   have nX:a.own a.next=Y:=(Le.refl a).next w (qL0 _)
   have l4:Le a (C.put a.next (.cells [((aag n b).length:Int),cv])):=m3.put _ nX
   have B2:=I a (s.trans l);have B3:=I C ((s.trans l).trans m3);simp only[kJJ,seval,Qg,Ii,Ip,Gc,B2.2.1,B3.2.1,D,u a l,u C (l.trans m3),al3,st];refine KN.UJ fun fr' h' x y=>cont fr' h' ?_;subst x y
   exact⟨a.next,cv,hAs,l.trans l4,v3.put _ (v3.lt u3),GS.put (z.le m3) _ (fun e=>GS.Sy z e nX),aai.Y3 _ _ _⟩
  .refine kGi func24 (am5 J xb n b W (pb.le m1) O.1.GD NH NH) ?_;rintro x a w ⟨cv,rfl,z,l,M⟩;have oX:=l.own _ _ u1;have st:=aib (n:=((aag n b).length:Int)) (ev:=cv) oX z.pr.sl.one z.pr.sl.cell
   have n1:o.own o.next=Y:=(Le.refl o).next L (qL0 _)
   have l4:Le o (a.put o.next (.cells [((aag n b).length:Int),cv])):=(m1.trans l).put _ n1
   have B2:=I a ((s.trans m1).trans l);simp only[kJJ,seval,Qg,Ii,Ip,Gc,B2.2.1,D,u a (m1.trans l),st];refine KN.UJ fun fr' h' x y=>cont fr' h' ?_;subst x y
   exact⟨o.next,cv,hAs,l4,w.put _ (w.lt oX),GS.put z _ (fun e=>by have:=M _ e;rw[u1]at this;cases this),aai.Y3 _ _ _⟩
 rintro fr A ⟨X,cv,N,l5,w5,z,oX⟩;simp only[Fj]at N;obtain⟨E,H,Q,R,-⟩:=N;have lX:=amr oX;have ay:=ad6 O.1;have aB:amI n b↔(aag n b).length<=2\/XU (aag n b).length (eN (aag n b).length (aat n b)):=Iff.rfl;have aK:(aag n b).length<=n:=by have:=abZ (fun v=>b.any fun p=>aO p ((v:Nat):Int)) (rG n);rw[amP]at this;exact this
 have aL:(aat n b).length=b.length:=by simp[aat]
 have two:2<(aag n b).length->zW (aag n b).length (aat n b):=fun h=>O.two (ZT fun q=>by grind[vert_le])
 have next:amI n b->∀j c,j<i+1->bs[j]?=Z c->amI n c:=fun hF j c hj hc=>by grind
 have S:(aag n b).length<=2->amI n b:=.inl;have T:XU (aag n b).length (eN (aag n b).length (aat n b))->amI n b:=.inr;generalize (aag n b).length=m at*;generalize aat n b=cs at*;by_cases c:2<m
 rotate_left
 .have d:decide ((m:Int)>2)=fF:=Sb NH;simp only[HO,seval,E,H,Q,R,Ii,Ip,Gc,(lX A (Le.refl _)).2.1,d,aw];exact tn (bs.length-(i+1)) [(1,pT (Z B)),(3,bv),(5,(i+1:Nat))] NH (by simp only[Fj,HO,seval,E,H,Q,R];simp[E,H])
   ⟨i+1,rfl,r,rfl,V.trans l5,next (S NH)⟩
 have d:decide ((m:Int)>2)=tT:=EL NH;refine Sk (Pj E H Q R @Ii @Ip.eq_1 @Gc ((lX A (Le.refl _)).2.1) ((lX A (Le.refl _)).1) d) ?_;refine kCi func25 (anH J _ m cs A ⟨cv,rfl,z.pr⟩ ay (two c) NH NH) ?_;rintro x h6 w6 ⟨⟨bb,rfl,az⟩,l6⟩;cases bb with
 |true=>
  simp only[HO,seval,E,H,Q,R,aw];exact tn (bs.length-(i+1)) [(1,pT (Z B)),(3,bv),(5,(i+1:Nat))] NH (by simp only[Fj,HO,seval,E,H,Q,R];simp[E,H])
   ⟨i+1,rfl,r,rfl,(V.trans l5).trans l6,next (T (az.1 rfl))⟩
 |false=>refine Uy ?_;grind[adP.f,Le.trans]
theorem btw_one(b:bX ⟨(n:Int),l⟩)(hi:l[i]?=Z p):akC l p.1 p.2=l.eraseIdx i:=by
 have c:=(Ny.1 hi).1;have g:=b.GD p (BS hi);have key:∀q∈l,afX q p.1 p.2=decide (q=p):=fun q a=>by have h2:=b.GD q a;grind[afX]
 have nd:=b.q9.nodup;unfold akC;have e:l=l.take i++p::l.drop (i+1):=by grind[drop_eq_getElem_cons,take_append_drop]
 have d:(l.filter fun q=>!afX q p.1 p.2)=l.filter fun q=>decide (q≠p):=Uz fun q a=>by grind
 rw[d,qL149];rw[e]at nd
 conv=>lhs;rw[e]
 rw[Db,ahG];have⟨n1,f,n3⟩:=j9.1 nd;have⟨h,j⟩:=VU.1 f;have k1:(l.take i).filter (fun q=>decide (q≠p))=l.take i:=OM.2 fun q a=>by grind
 have k2:(l.drop (i+1)).filter (fun q=>decide (q≠p))=l.drop (i+1):=OM.2 fun q a=>by grind
 grind
attribute [local instance] Classical.propDecidable in
theorem find_step{n f i:Nat}{l:xLP}(hi:i<l.length):aeH n (f+1) i l=if aak n (l.eraseIdx i)then aeH n f (i+1) l else aeH n f i (l.eraseIdx i):=by grind[aeH.eq_2]
theorem find_end{n f i:Nat}(hi:l.length<=i):aeH n f i l=l:=by
 cases f<;>grind[aeH.eq_1,aeH.eq_2]
theorem RFind_any(Q:abw)(v:vV)(G:GM)(h:aai)(hg:GR h v G)(hn:G.n<=20)(he:G.es.length<=40):
  AC pG Q 7 [v] h fun x h'=>Le h h'/\((¬bX G/\x=.tuple #[.slice Y 0 0,.int .i64 20])\/(bX G/\∃E,x=.tuple #[E,.int .i64 0]/\PR h' E (abv G))):=by
 have V:=hg;have⟨gn,es⟩:=G
 obtain⟨ev,rfl,J⟩:=hg.open
 simp only at hn he;refine AC.vF func7 ntmps7 results7 fun ar=>?_;obtain⟨h1,b1,w,aE,-,W⟩:=r8 (n:=gn) ar J
 generalize h.next=B at*
 have av:=W h1 (Le.refl _);refine Sk (XC b1 av.1) ?_;refine kCi apZ (agd Q _ ⟨gn,es⟩ h1 (V.le w)) ?_;rintro x h2 w2 ⟨⟨bb,rfl,f⟩,l2⟩;cases bb with
 |false=>refine Uy ?_;grind[Le.trans]
 |true=>
 have hr:=f.1 rfl;clear f;have h0:0<=gn:=hr.n0;obtain⟨n,rfl⟩:=WA h0;refine Sk ((W h2 l2).1) ?_;refine kCi func9 (ajs Q _ ⟨(n:Int),es⟩ h2 (V.le (w.trans l2)) hn he) ?_;rintro x h3 w3 ⟨⟨bb,rfl,f⟩,l3⟩;simp only[yM]at f;have M:=l2.trans l3;cases bb with
 |true=>have z:=(f.1 rfl).2;have hF:abv ⟨(n:Int),es⟩=[]:=aog (G:=⟨(n:Int),es⟩) z;refine Uy ?_;grind[Le.trans,PR.nil]
 |false=>
 have aF:¬aak n es:=fun q=>by grind
 clear f;have hF:abv ⟨(n:Int),es⟩=aeH n es.length 0 es:=by grind[abv.eq_1]
 rw[hF];clear hF
 obtain⟨R,m,e4,e5,l5,w5,nX,oL⟩:∃R m,abO pG h3 24=Z (pT (Z h3.next),R)/\aaK pG R 24 (pT (Z h3.next)) (.agg #[n,ev])=Z m/\Le h3 m/\WF m/\h3.own h3.next=Y/\m.own h3.next=Z (.cells [n,ev]):=by
  have⟨R,y3,m3,v3,u3⟩:=Tt w3 [.int .i64 0,.slice Y 0 0]
  have nX:h3.own h3.next=Y:=(Le.refl h3).next w3 (qL0 _)
  exact⟨R,_,by grind[Lo],aib (n:=(n:Int)) (ev:=ev) u3 J.sl.one J.sl.cell,m3.put _ nX,v3.put _ (v3.lt u3),nX,aai.Y3 _ _ _⟩
 have A3:=W h3 M;have lP:=fun g=>J.len g
 generalize h3.next=L at*
 refine Sk (Yb A3.1 e4 e5) ?_;refine lIn (fun k fr d=>∃(t i:Nat)(l:xLP)(E:vV),k=es.length-t/\t<=es.length/\fr=mkF [(1,pT (Z B)),(4,pT (Z L)),(5,t)]/\Le h3 d/\d.own L=Z (.cells [n,E])/\PR d E l/\l.Sublist es/\i<=l.length/\l.drop i=es.drop t/\aeH n (es.length-t) i l=aeH n es.length 0 es) ⟨0,0,es,ev,rfl,Z6 _,rfl,l5,oL,J.le ((w.trans M).trans l5),ann _,Z6 _,rfl,rfl⟩ ?_;clear oL l5 w5 e4 e5;clear R m;rintro k fr d aa ⟨t,i,l,E,rfl,aH,rfl,lq,oL,pl,A,aJ,ay,r⟩;have H:=M.trans lq;have Aq:=W d H;refine Sk (IX @Di @Ip.eq_1 @Gc Aq.2.2 lP) ?_;have az:l.length<=40:=jz A.length_le he;refine Kl.intro (fun ht=>?_) (fun hf=>?_)
 rotate_left
 .have aK:es.length<=t:=vp hf;have N:l.length<=i:=by grind[length_drop]
  rw[find_end N]at r;refine Sk (xU @Di @Ip.eq_1 @Gc ((amr oL d (Le.refl _)).2.2)) ?_;grind[Le.trans]
 have I:t<es.length:=acb ht;clear ht;have ae:=CA I;have aL:l.length-i=es.length-t:=by grind[length_drop]
 have K:i<l.length:=NH;have N:l[i]?=Z es[t]:=by
  have:(l.drop i)[0]?=(es.drop t)[0]?:=by rw[ay]
  grind
 have aA:bX ⟨(n:Int),l⟩:=hr.sub A;have hle:=btw_one aA N;have aB:es.length-t=(es.length-(t+1))+1:=NH;rw[aB,find_step K]at r;have ag:∀(l':xLP)(i':Nat),l'.drop i'=l.drop (i+1)->l'.drop i'=es.drop (t+1):=fun l' i' q=>by grind[tail_drop]
 generalize es[t]=p at*;have ad:=J.addr (k:=.i64) t I;have S:=fun g (e:Le d g)=>(J.le ((w.trans H).trans e)).l0 ae;have T:=fun g (e:Le d g)=>(J.le ((w.trans H).trans e)).l1 ae;simp only[Ip]at S T;have aw:=aaa t NH;have C:=fun g (e:Le d g)=>(amr oL g e).1;have AB:=fun g (e:Le d g)=>(W g (H.trans e)).2.2;refine Uy ?_;apply Ya (F:=fun(fr:aam)(m:aai)=>∃(X:Nat)(cv:vV),Fj fr [(1,pT (Z B)),(4,pT (Z L)),(5,t),(6,pT (Z X))]/\Le d m/\WF m/\GP m cv (l.eraseIdx i)/\m.own X=Z (.cells [n,cv])/\Z2 d cv)
 .intro cont;refine gh (fRn 0 13 (.ch 13 [0,6,12] (JQ 14 [] (JQ 15 [0,1,2,3,4,5,6,7,8,9,10,11,12,13,14] .done)) (JQ 14 [] (JQ 13 [0,6,12] (JQ 15 [0,1,2,3,4,5,6,7,8,9,10,11,12,13,14] .done))))) ?_
  have aC:∃g,d.alloc (.cells [.int .i64 0,.slice Y 0 0])=g/\Le d g/\WF g/\g.own d.next=Z (.cells [.int .i64 0,.slice Y 0 0]):=Tt aa _
  have⟨U,y1,m1,v1,u1⟩:=aC
  have aD:abO pG d 24=Z (pT (Z ⟨d.next,0,Y⟩),U):=by rw[Lo,y1]
  simp only[kJJ,seval,Qg,Di,Ip,Gc,C d (Le.refl _),C U m1,AB d (Le.refl _),AB U m1,ad,Dh,Z0,S d (Le.refl _),S U m1,T d (Le.refl _),T U m1,aD];refine⟨?_,?_⟩
  .refine kGi qS34 (akT Q _ (n:Int) p.1 p.2 l d ⟨E,rfl,pl⟩ NH) ?_;rintro x a D ⟨cv,rfl,j,c,s⟩;rw[hle]at j;have⟨u,y3,m3,v3,u3⟩:=Tt D [.int .i64 0,.slice Y 0 0]
   have al3:abO pG a 24=Z (pT (Z a.next),u):=by rw[Lo,y3]
   have st:=aib (n:=(n:Int)) (ev:=cv) u3 j.pr.sl.one j.pr.sl.cell
   have nX:a.own a.next=Y:=(Le.refl a).next D (qL0 _)
   have l4:Le a (u.put a.next (.cells [n,cv])):=m3.put _ nX
   simp only[kJJ,seval,Qg,Di,Ip,Gc,C a c,C u (c.trans m3),AB a c,AB u (c.trans m3),ad,Dh,Z0,S a c,S u (c.trans m3),T a c,T u (c.trans m3),al3,st];refine KN.UJ fun fr' h' x y=>cont fr' h' ?_;subst x y
   exact⟨a.next,cv,hAs,c.trans l4,v3.put _ (v3.lt u3),GS.put (j.le m3) _ (fun e=>GS.Sy j e nX),aai.Y3 _ _ _,s⟩
  .refine kGi qS34 (akT Q _ (n:Int) p.1 p.2 l U ⟨E,rfl,pl.le m1⟩ NH) ?_;rintro x a D ⟨cv,rfl,j,c,s⟩;rw[hle]at j;have oX:=c.own _ _ u1;have st:=aib (n:=(n:Int)) (ev:=cv) oX j.pr.sl.one j.pr.sl.cell
   have n1:d.own d.next=Y:=(Le.refl d).next aa (qL0 _)
   have l4:Le d (a.put d.next (.cells [n,cv])):=(m1.trans c).put _ n1
   simp only[kJJ,seval,Qg,Di,Ip,Gc,C a (m1.trans c),AB a (m1.trans c),ad,Dh,Z0,S a (m1.trans c),T a (m1.trans c),st];refine KN.UJ fun fr' h' x y=>cont fr' h' ?_;subst x y
   exact⟨d.next,cv,hAs,l4,D.put _ (D.lt oX),GS.put j _ (fun e=>by have:=s _ e;rw[u1]at this;cases this),aai.Y3 _ _ _,fun b hb=>by
    have:=s b hb;cases hz:d.own b with
    |none=>rfl
    |some o=>grind[Le.own]⟩
 rintro fr m ⟨X,cv,ai,l5,w5,j,oX,s⟩;simp only[Fj]at ai;obtain⟨O,P,f5,f6,-⟩:=ai;have lX:=amr oX;have aN:=A;have aj:=(gK l i).trans A;refine Sk (IX O P f5 f6 ((lX m (Le.refl _)).1)) ?_;refine kCi func9 (ajs Q _ ⟨(n:Int),l.eraseIdx i⟩ m ⟨cv,rfl,j.pr⟩ hn (jz (gK l i).length_le az)) ?_;rintro x h6 w6 ⟨⟨bb,rfl,f⟩,l6⟩;simp only[yM]at f;have al:=(l5.trans l6).own _ _ oL;have aq:=(lq.trans l5).trans l6;cases bb with
 |true=>
  have z:=(f.1 rfl).2;rw[abe z]at r;simp only[HO,seval,O,P,f5,f6,aw];exact tn (es.length-(t+1)) [(1,pT (Z B)),(4,pT (Z L)),(5,(t+1:Nat))] NH (by simp only[Fj,HO,seval,O,P,f5,f6];simp[O,P])
   ⟨t+1,i+1,l,E,rfl,I,rfl,aq,al,(pl.le l5).le l6,A,K,ag _ _ rfl,r⟩
 |false=>
  have z:¬aak n (l.eraseIdx i):=fun q=>by grind[bX.sub]
  rw[abE z]at r;have nL:blk cv≠Z L:=fun e=>by have:=s _ e;grind
  have st:=aib (n:=(n:Int)) (ev:=cv) al j.pr.sl.one j.pr.sl.cell;simp only[HO,seval,O,P,f5,f6,(lX h6 l6).1,st,aw];exact tn (es.length-(t+1)) [(1,pT (Z B)),(4,pT (Z L)),(5,(t+1:Nat))] NH (by simp only[Fj,HO,seval,O,P,f5,f6];simp[O,P])
   ⟨t+1,i,l.eraseIdx i,cv,rfl,I,rfl,aq.put _ nX,aai.Y3 _ _ _,GP.pr (GS.put (j.le l6) _ nL),aj,hGr,ag _ _ hGr,r⟩
end
section
attribute [local instance] Classical.propDecidable
attribute [local irreducible] Kp MQ lU KO1 KO KN KX KE VK Kl ZJ TC aab
attribute [local irreducible] Jz JL vq cQ aaN
def aoA(j:abw)(v S:vV)(G:GM)(ps:xLP)(h:aai)(hg:GR h v G)(hw:PR h S ps):
  AC pG j 3 [v,S] h fun x h'=>x=.bool tT/\Le h h':=by
 have V:=hg;have⟨a,es⟩:=G
 obtain⟨ev,rfl,hp⟩:=hg.open
 refine AC.vF func3 ntmps3 results3 fun al=>?_;obtain⟨i,b1,k,W,-,J⟩:=r8 (n:=a) al hp
 generalize h.next=B at*
 have C:=J i (Le.refl _);have lP:=fun g=>hp.len g;have lW:=fun g=>hw.len g;have K:∀{Φ:Prop},(a<=8/\es.length<=20/\ps.length<=40->Φ)->((a>8\/(¬a>8/\(es.length:Int)>20)\/(¬a>8/\¬(es.length:Int)>20/\(ps.length:Int)>40))->Φ)->Φ:=fun{Φ} i h2=>by
  by_cases c:a<=8/\es.length<=20/\ps.length<=40
  .exact i c
  .exact h2 NH
 apply K
 rotate_left
 .intro c;have aw:∀(hh:aai),Le h hh->AC pG j 4 [] hh fun x h'=>x=.bool tT/\Le hh h':=fun hh _=>agL j hh;rcases c with c|⟨c1,c⟩|⟨c1,c2,c⟩
  .have d1:decide (a>8)=tT:=EL c;refine Sk (bG b1 @Ii @Ip.eq_1 @Gc C.2.1 d1) ?_;refine kCi qS35 (agL j i) ?_;rintro x h2 w2 ⟨rfl,l2⟩;refine Uy ?_;exact⟨trivial,k.trans l2⟩
  .have d1:decide (a>8)=fF:=Sb c1;have d2:decide ((es.length:Int)>20)=tT:=EL c;refine Sk (Pj b1 @Ii @Di @Ip.eq_1 @Gc C.2.1 C.2.2 lP d1 @d2) ?_;refine kCi qS35 (agL j i) ?_;rintro x h2 w2 ⟨rfl,l2⟩;refine Uy ?_;exact⟨trivial,k.trans l2⟩
  .have d1:decide (a>8)=fF:=Sb c1;have d2:decide ((es.length:Int)>20)=fF:=Sb c2;have d3:decide ((ps.length:Int)>40)=tT:=EL c;refine Sk (ahv b1 @Ii @Di @Ip.eq_1 @Gc C.2.1 C.2.2 lP lW d1 @d2 d3) ?_;refine kCi qS35 (agL j i) ?_;rintro x h2 w2 ⟨rfl,l2⟩;refine Uy ?_;exact⟨trivial,k.trans l2⟩
 rintro⟨aD,aB,aC⟩;have d1:decide (a>8)=fF:=Sb NH;have d2:decide ((es.length:Int)>20)=fF:=Sb NH;have d3:decide ((ps.length:Int)>40)=fF:=Sb NH;refine Sk (ahv b1 @Ii @Di @Ip.eq_1 @Gc C.2.1 C.2.2 lP lW d1 @d2 d3) ?_;have aa:=hp.le k;apply Ya (F:=fun(fr:aam)(T:aai)=>∃(X:Nat)(cv:vV),Fj fr [(1,S),(2,pT (Z B)),(5,pT (Z X))]/\Le i T/\WF T/\PR T cv es/\T.own X=Z (.cells [a,cv]))
 .intro cont;refine gh (tA [0,1,2,3] (.ch 4 [3] (tA [5] (JQ 6 [] (JQ 7 [0,1,2,3,4,5,6] .done))) (JQ 6 [] (JQ 4 [3] (tA [5] (JQ 7 [0,1,2,3,4,5,6] .done)))))) ?_
  have aq:∃g,i.alloc (.cells [.int .i64 0,.slice Y 0 0])=g/\Le i g/\WF g/\g.own i.next=Z (.cells [.int .i64 0,.slice Y 0 0]):=Tt W _
  have⟨q1,y1,m1,v1,u1⟩:=aq
  have ar:abO pG i 24=Z (pT (Z i.next),q1):=by rw[Lo,y1]
  have Q1:=J q1 m1;simp only[kJJ,seval,Qg,Ii,Di,Ip,Gc,C.2.1,C.2.2,ar,Q1.2.1,Q1.2.2];refine⟨?_,?_⟩
  .refine kGi func5 (aiK j ev es i aa NH) ?_;rintro cv d w ⟨gc,o,ac⟩;have A2:=J d o;have L:=Wj (n:=a) gc.pr.sl;have⟨M,y3,m3,v3,u3⟩:=Tt w [.int .i64 0,.slice Y 0 0]
   have al3:abO pG d 24=Z (pT (Z d.next),M):=by rw[Lo,y3]
   have st:=aib (n:=a) (ev:=cv) u3 gc.pr.sl.one gc.pr.sl.cell
   have nX:d.own d.next=Y:=(Le.refl d).next w (qL0 _)
   have l4:Le d (M.put d.next (.cells [a,cv])):=m3.put _ nX
   have A3:=J M (o.trans m3);simp only[kJJ,seval,Qg,Ii,Di,Ip,Gc,A2.2.1,A2.2.2,A3.2.1,A3.2.2,L,al3,st];refine KN.UJ fun fr' h' x y=>cont fr' h' ?_;subst x y
   exact⟨d.next,cv,hAs,o.trans l4,v3.put _ (v3.lt u3),gc.pr.le l4,aai.Y3 _ _ _⟩
  .refine kGi func5 (aiK j ev es q1 (aa.le m1) NH) ?_;rintro cv d w ⟨gc,o,ac⟩;have A2:=J d (m1.trans o);have L:=Wj (n:=a) gc.pr.sl
   have nX:blk cv≠Z i.next:=fun e=>by have:=ac _ e;rw[u1]at this;cases this
   have oX:=o.own _ _ u1
   have n1:i.own i.next=Y:=(Le.refl i).next W (qL0 _)
   have st:=aib (n:=a) (ev:=cv) oX gc.pr.sl.one gc.pr.sl.cell
   have l4:Le i (d.put i.next (.cells [a,cv])):=(m1.trans o).put _ n1
   simp only[kJJ,seval,Qg,Ii,Di,Ip,Gc,A2.2.1,A2.2.2,L,st];refine KN.UJ fun fr' h' x y=>cont fr' h' ?_;subst x y
   exact⟨i.next,cv,hAs,l4,w.put _ (w.lt oX),GP.pr (GS.put gc _ nX),aai.Y3 _ _ _⟩
 rintro fr T ⟨X,cv,ae,l5,w5,pc,oX⟩;simp only[Fj]at ae;obtain⟨s,t,u,-⟩:=ae;have lX:=amr oX;have av:=k.trans l5;refine Sk (Yb s t u) ?_;refine kCi func5 (aiK j S ps T (hw.le av) NH) ?_;rintro on h6 w6 ⟨go,l6,-⟩;have X6:=lX h6 l6;refine Sk (xU s t u X6.1) ?_;refine kCi ap8 (akm j _ ⟨a,es⟩ h6 ⟨cv,rfl,pc.le l6⟩) ?_;rintro x h7 w7 ⟨l7,ag⟩;have N:=(l5.trans l6).trans l7;have A7:=J h7 N
 obtain⟨lv,e,rfl,pl,f⟩:∃(lv:vV)(e:Int),x=.tuple #[lv,.int .i64 e]/\PR h7 lv (if bX ⟨a,es⟩then abv ⟨a,es⟩else[])/\e=if bX ⟨a,es⟩then 0 else 20:=by
  rcases ag with⟨hn,rfl⟩|⟨hr,lv,rfl,pl,-⟩
  .exact⟨_,_,rfl,by rw[abE hn];exact PR.nil _,by rw[abE hn]⟩
  .exact⟨_,_,rfl,by rw[abe hr];exact pl,by rw[abe hr]⟩
 refine Sk (xU s t u A7.1) ?_;refine kCi func7 (RFind_any j _ ⟨a,es⟩ h7 (V.le (k.trans N)) (by simp only;omega) (by simp only;omega)) ?_;rintro x O w8 ⟨l8,ai⟩;have D:=N.trans l8
 obtain⟨z,rfl,P⟩:∃(z:vV),x=.tuple #[z,.int .i64 e]/\PR O z (if bX ⟨a,es⟩then abv ⟨a,es⟩else[]):=by
  rcases ai with⟨hn,rfl⟩|⟨hr,z,rfl,P⟩
  .rw[abE hn]at f ⊢;exact⟨_,by rw[f],PR.nil _⟩
  .rw[abe hr]at f ⊢;exact⟨_,by rw[f],P⟩
 have ay:(if bX ⟨a,es⟩then abv ⟨a,es⟩else[]).length<=100000:=by
  split
  .rename_i hr;by_cases q:aak a.toNat es
   .rw[aog (G:=⟨a,es⟩) q];simp
   .have:=(fnd_some (G:=⟨a,es⟩) q).1.length_le;simp only at this;omega
  .simp
 generalize (if bX ⟨a,es⟩then abv ⟨a,es⟩else[])=F at*
 clear f ag ai;have Q:=l7.trans l8;have H:=fun g (l:Le O g)=>(lX g ((l6.trans Q).trans l)).1;have I:=fun g (l:Le O g)=>(J g (D.trans l)).1;have aj:=V.le (k.trans D);have gX:GR O (.agg #[a,cv]) ⟨a,es⟩:=⟨cv,rfl,pc.le (l6.trans Q)⟩;have pF:=pl.le l8;have po:=go.pr.le Q;have pw:=hw.le (k.trans D);have R:decide (e=e)=tT:=EL rfl;have U:decide (F=F)=tT:=EL rfl;have dk:decide (aaz ps=aaz ps)=tT:=EL rfl;have dp:decide (ps=ps)=tT:=EL rfl;have dg:decide (a=a/\es=es)=tT:=EL ⟨rfl,rfl⟩;have p:∀b:Bool,(b==b)=tT:=fun b=>by cases b<;>rfl
 refine Sk (Yb s t u) ?_;refine gh (tA [0,2] (JQ 1 [0] (JQ 3 [1,2] (fRn 4 9 (JQ 13 [10,11,12] (tA [14,15,16,18] (JQ 17 [15,16] (JQ 19 [15,17,18] (tA [20,21,22,23,24] (JQ 25 [22,23,24] (tA [26,27,28,29] (JQ 30 [27,28,29] (tA [31,32] (JQ 33 [32] (tA [34,35] .done))))))))))))))) ?_;refine CO (IX s t u (H O (Le.refl _)) (I O (Le.refl _))) ?_;refine kGi aol (aaO j _ ⟨a,es⟩ O gX) ?_;rintro x k1 v1 ⟨⟨c1,rfl,az⟩,m1⟩;refine CO (IX s t u (H k1 m1) (I k1 m1)) ?_;refine kGi func9 (ajs j _ ⟨a,es⟩ k1 (aj.le m1) (by simp only;omega) (by simp only;omega)) ?_;rintro x k2 v2 ⟨⟨c2,rfl,aA⟩,m2⟩;have m:=m1.trans m2;obtain rfl:c2=c1:=by rw[TV,az,aA]
 refine CO (adG s t u (H k2 m) (I k2 m) @amt p R) ?_;refine kGi YW (abn j lv z F F k2 (pF.le m) (P.le m) ay) ?_;rintro x k3 v3 ⟨rfl,rfl⟩;refine CO (aoh s t u (H k3 m) (I k3 m) @amt p R U) ?_;refine kGi akP (aj2 j on ps k3 (po.le m)) ?_;rintro x k4 v4 ⟨rfl,m4⟩;have E:=m.trans m4;refine CO (aoh s t u (H k4 E) (I k4 E) @amt p R U) ?_;refine kGi func12 (RKind_any j S ps k4 (pw.le E)) ?_;rintro x k5 v5 ⟨rfl,m5⟩;have A:=E.trans m5;rw[kindR_eq];refine CO (Pj s t u (H k5 A) (I k5 A) @amt p R U dk) ?_;refine kGi func13 (anj j _ _ ⟨a,es⟩ ⟨a,es⟩ k5 (gX.le A) (aj.le A) (by simp only;omega)) ?_;rintro x k6 v6 ⟨rfl,m6⟩;have r:=A.trans m6;refine CO (rk s t u (H k6 r) (I k6 r) @amt p R U dk dg) ?_;refine kGi YW (abn j on S ps ps k6 (po.le r) (pw.le r) NH) ?_;rintro x k7 v7 ⟨rfl,rfl⟩;refine CO (ahv s t u (H k7 r) (I k7 r) @amt p R U dk dg dp) ?_;refine kGi qS35 (agL j k7) ?_;rintro x k8 v8 ⟨rfl,m8⟩;refine CO (Pj s t u @amt p R U dk dg dp) ?_;exact((k.trans D).trans r).trans m8
end
section
open Go.Proofs Go.ChangeShapes Go.WideShapes Go.RowKit Go.ChangeAt
open Go.Proofs.YtigllaheamfhaaaGreat
def amB(os:Os)(started:os.Started)(H:Type)(enc:TypeId×vV->H):
  ReturnsInHanded {} Tryz.checked os 3 .any (Rows.kuraTellsSpec.pre6 enc pG Tryz.f3 Rows.kuraTellsRow.domain fF) (Rows.kuraTellsSpec.post enc pG Tryz.f3 fF tT fF fF):=by
 have own:ownKnob pG.godebug=Option.none:=Ji;have laidOut:laidOutB pG=tT:=Ji;refine returnsInHanded_of_change (C:=Tryz.checked) own started Ji func3
  (ChangeSpec.witness6 (enc:=enc) (C:=Tryz.checked) fF ⟨#[],#[.agg #[.int .i64 0,.slice Option.none 0 0],.slice Option.none 0 0],[]⟩ 8 Ji Ji Ji Ji) ?_
 intro W base args ds gs before c u w _;have b:∀(j:Nat) t v,Tryz.f3.params[j]?=Z t->args[j]?=Z v->vV.okWide pG W .any base t v:=c;have d:=u;obtain⟨p,q,i,B,rfl,D,E⟩:=u;have hA:DataW.TrodAll enc pG W 0 (fun _=>tT) tT Tryz.f3.params.toList args.toList ds p:=i;rw[Tryz.params3]at hA b;obtain⟨k,L,M,N,F,O,a,rfl,rfl,z,hA⟩:=trodAll_cons hA;obtain⟨l,w1,d1,P,G,Q,rfl,rfl,rfl,A,hA⟩:=trodAll_cons hA;obtain⟨rfl,rfl,rfl⟩:=trodAll_nil hA;obtain rfl:args=#[k,l]:=by cases args;simp_all
 obtain⟨rfl,rfl⟩:=trodVars_none B;have⟨I,x0,m,n⟩:=afp (b 0 24 k rfl rfl) z (fun _=>⟨0,0,0⟩);have⟨u1,x1,o,r⟩:=aon (b 1 22 l rfl rfl) A (fun _=>⟨0,0,0⟩);refine(aoA (abw.of W) I u1 x0 x1 (MR W) n r [] (fun _=>⟨0,0,0⟩) W [k,l] (Rel.start W _) ?_).mono ?_
 .exact .cons m (.cons o ((.nil _ _)))
 .rintro e J ⟨x,x',S,h',rfl,R,-,-,K,rfl,-⟩;obtain rfl:=K.YE;have hb:=R.below;have g:∀y∈F,y.block<W.heap.size:=fun y s=>d.lt y (by simp[s]);have h:∀y∈G,y.block<W.heap.size:=fun y s=>d.lt y (by simp[s]);have f:DataW.Trod enc pG J W.heap.size (fun _=>fF) fF 4 (.bool tT) (.lit (.bool tT)) []:=⟨1,by simp[DataW.trod,vV.cells,eY]⟩;have a:=
   tcons (Below.trod laidOut Ji (ag1 Ji) z hb g) (tcons (Below.trod laidOut Ji (ag1 Ji) A hb h) (trodAll_mk0))
  try simp only[adN,Cj]at a
  exact⟨_,rfl,_,_,_,[],_,[],d,trodAll_mk1 f,a,rfl,hb.frame _,fun e=>by cases e⟩
def kuraTells_said:Rows.KuraTellsSaid:=
 OpenClaim.holds_of_wide 3 Tryz.f3 rfl rfl rfl rfl rfl rfl rfl ⟨rfl,rfl,rfl,rfl,rfl⟩ rfl rfl rfl rfl rfl Ji func3 Ji
  (ag1 Ji) (by unfold Func.isWrapper;first|(rw[abe iw];kernel_rfl)|(rw[abE iw];exact⟨rfl,rfl⟩))
  (fun os started H enc _=>amB os started H enc)
end
end Go.Fw
