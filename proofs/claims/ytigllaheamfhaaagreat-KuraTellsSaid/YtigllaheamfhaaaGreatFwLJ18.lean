/- A text. -/
import Derived.Test.YtigllaheamfhaaaGreatFwLJ13
set_option linter.all false
set_option maxRecDepth 99999
set_option maxHeartbeats 9999999
open Go.Proofs
open Option renaming some→Z,none→Y
open Bool renaming true→tT,false→fF
open List renaming replicate→rP,range→rG
open Go.Value renaming slice→sL,pointer→pT
open Go renaming Value→vV
open Go.Proofs.Tryz renaming prog→pG
open Go.Proofs.Tryz
open List
namespace Go.Fw
section
attribute [local instance] Classical.propDecidable
attribute [local irreducible] Kp MQ lU KO1 KO KN KX KE VK Kl ZJ TC aab
variable {B O a b c i n:Nat} {bv fv iv lv:Value} {cs us ws:List Value} {es:List Pr} {g h h':aai} {left:List wW} {rows:AM}
theorem ao4(hi:i<left.length):LF left i=left[i].fits.length:=by grind[LF]
theorem refit_set{a:List wW}{φ:wW->wW}{q c:wW}(hi:i<a.length)(b:a.drop i=q::a.drop (i+1)):((a.take i).map φ++a.drop i).set i c=(a.take i).map φ++c::a.drop (i+1):=by have d:((a.take i).map φ).length=i:=hGr;rw[b,fE _ _ NH,d,aj3];rfl
def Xi(h:a<=b)(h2:b<=c+2)(h3:c<=594):a<=100000:=NH
def ig(h:a<=b)(h2:b<=c+2)(h3:c<=594):a+1<=100000:=NH
def sr(h:a<=n)(h2:(n:Int)<=200):a<=100000:=NH
theorem app_b{α β:Type}{L:List β}{ps:List α}{φ:α->β}(h:L.length<=594)(h2:ps.length<=594)(i:Nat):(L++(ps.take i).map φ).length<=100000:=hGr
theorem le_4(h:a<=n)(h2:(n:Int)<=200):a<=40000:=NH
theorem ShS.other{on:List Bool}{d e:Cs}(S:ShS g h B O n rows bv fv iv lv us ws cs on d e left)(l:Le g h')(c:∀z o,InS B O fv iv lv z->h.own z=Z o->h'.own z=Z o):ShS g h' B O n rows bv fv iv lv us ws cs on d e left:=
 {S with
  f:=⟨c _ _ (.inl rfl) S.f.o⟩
  oO:=c _ _ (.inr (.inl rfl)) S.oO
  gF:=GS.kept S.gF fun b o hb a=>c b o (.inr hGr) a
  gI:=GS.kept S.gI fun b o hb a=>c b o (.inr hGr) a
  gL:=GS.kept S.gL fun b o hb a=>c b o (.inr hGr) a
  sep:=⟨S.sep.TE,fun i u b j hb=>by have⟨o,a⟩:=N8.1 (S.sep.own i u b j hb);rw[c b o (.inr (by grind[mem_of_getElem?])) a];simp,S.sep.ap,l⟩}
theorem lay_any(W0:abw){H:Nat->Nat->Prop}{m:ShM}(S:ShS g h B O n (Zh n es) bv fv iv lv us ws cs m.on m.Jv m.Jv m.left)(hr:bX ⟨(n:Int),es⟩)(D:QG (eN n es))(I:Z8 n es H m)(eu:m.left≠[]):
  AC pG W0 60 [pT (Z B)] h fun x h'=>∃g',Le g g'/\Le g' h'/\((AU n (Zh n es) m=Y/\x=.bool fF)\/∃aX ev ew ey eA eB eC,AU n (Zh n es) m=Z aX/\x=.bool tT/\ShS g' h' B O n (Zh n es) bv ev ew ey eA eB eC aX.on aX.Jv aX.Jv aX.left):=by
 have hR:=hr.GD;have hA:=hr.q9;have a6:(n:Int)<=200:=hr.n1;have U:es.length<=594:=hr.len;have gG:=I.Vw;have aH:=I.My;have c6:0<m.left.length:=qL165.2 eu;refine AC.vF func60 ntmps60 results60 fun gJ=>?_;have J:=sB B 5 NH;have eD:=sB B 3 NH;have eE:=sB B 2 NH;have a7:=fun k hk=>S.gL.ad3 (k:=k) hk;have eL:=fun k r (hk:k<m.left.length)=>eA3 (k:=k) (r:=r) S.gL hk;have b5:∀k (hk:k<m.left.length),∃c,aaC pG h 47 (aaq lv (k*3+2))=Z c/\∀g',aeh pG g' 47 c=Z (.int .i64 (m.left[k].fits.length:Nat)):=fun k hk=>by have⟨a,b,c,q1,q2,q3,q4,q5,q6⟩:=S.at_ hk;refine⟨c,by rw[Bj Mb rfl];exact S.gL.cs.get _ _ q3,fun g'=>?_⟩;have:=q6.TA g';rwa[y6]at this
 refine Sk (Yb J S.f.l5 S.lenL) ?_;refine aab.intro (fun k fr X=>∃i:Nat,k=m.left.length-i/\i<=m.left.length/\fr=mkF [(0,pT (Z B)),(3,(abx m.left i:Nat)),(20,(m.left.length:Nat)),(21,(i:Nat))]/\X=h)
  m.left.length [(0,pT (Z B)),(3,(0:Nat)),(20,(m.left.length:Nat)),(21,(0:Nat))] hAs ⟨0,rfl,Z6 _,rfl,rfl⟩ ?_
 rintro k fr X aJ ⟨i,rfl,hi,rfl,rfl⟩;refine Uy ?_;refine Kl.intro (fun ht=>?_) (fun hf=>?_)
 .have s:i<m.left.length:=acb ht;clear ht;have F:abx m.left i<m.left.length:=by
   have:=(EY m.left i).1;rcases Nat.eq_zero_or_pos i with rfl|h
   .exact c6
   grind
  have⟨c1,q1,q2⟩:=b5 i s;have⟨c2,q3,q4⟩:=b5 _ F;have aw:=aaa i NH;have e1:=ao4 s;have e2:=ao4 F;refine Uy ?_;refine gh (fRn 0 19 .done) ?_;by_cases c:m.left[i].fits.length<(m.left[abx m.left i]).fits.length
  .have d:decide (((m.left[i].fits.length:Nat):Int)<(((m.left[abx m.left i]).fits.length:Nat):Int))=tT:=EL NH;have eb:abx m.left (i+1)=i:=by grind[abx.eq_2]
   simp only[HO,seval,Qg,J,S.f.l5,a7 i s,a7 _ F,pf2,eL i 2 s,eL _ 2 F,q1,q2,q3,q4,d,aw];exact tn (m.left.length-(i+1)) [(0,pT (Z B)),(3,(i:Nat)),(20,(m.left.length:Nat)),(21,(i+1:Nat))] (JS s) hAs ⟨i+1,rfl,s,by rw[eb];rfl,rfl⟩
  .have d:decide (((m.left[i].fits.length:Nat):Int)<(((m.left[abx m.left i]).fits.length:Nat):Int))=fF:=Sb NH;have eb:abx m.left (i+1)=abx m.left i:=by grind[abx.eq_2]
   simp only[HO,seval,Qg,J,S.f.l5,a7 i s,a7 _ F,pf2,eL i 2 s,eL _ 2 F,q1,q2,q3,q4,d,aw];exact tn (m.left.length-(i+1)) [(0,pT (Z B)),(3,(abx m.left i:Nat)),(20,(m.left.length:Nat)),(21,(i+1:Nat))] (JS s) hAs ⟨i+1,rfl,s,by rw[eb];rfl,rfl⟩
 have aa:m.left.length<=i:=vp hf;obtain rfl:i=m.left.length:=NH;clear aa hf hi b5;have F:=(EY m.left m.left.length).1 c6
 have bY:AU n (Zh n es) m=if(m.left.getD (abx m.left m.left.length) default).fits.length=0 then Y else
   if(J6 n (Zh n es) m.on (m.left.getD (abx m.left m.left.length) default)).length<2 then Y else
   Z ⟨tV m.on (J6 n (Zh n es) m.on (m.left.getD (abx m.left m.left.length) default)),kY m.Jv ((m.left.getD (abx m.left m.left.length) default).fits.headD 0) (J6 n (Zh n es) m.on (m.left.getD (abx m.left m.left.length) default)),
    (m.left.eraseIdx (abx m.left m.left.length)).map (GF (kY m.Jv ((m.left.getD (abx m.left m.left.length) default).fits.headD 0) (J6 n (Zh n es) m.on (m.left.getD (abx m.left m.left.length) default))) ((m.left.getD (abx m.left m.left.length) default).fits.headD 0) m.Jv.length)++
    (vX n (tV m.on (J6 n (Zh n es) m.on (m.left.getD (abx m.left m.left.length) default))) (V8 n (m.left.getD (abx m.left m.left.length) default).zp (J6 n (Zh n es) m.on (m.left.getD (abx m.left m.left.length) default)))).map fun q=>{q with fits:=zh (kY m.Jv ((m.left.getD (abx m.left m.left.length) default).fits.headD 0) (J6 n (Zh n es) m.on (m.left.getD (abx m.left m.left.length) default))) q.Fm ((m.left.getD (abx m.left m.left.length) default).fits++[m.Jv.length])}⟩:=rfl
 rw[bY];clear bY;have⟨a,b,c,q1,q2,q3,q4,q5,q6⟩:=S.at_ F;have eF:=S.gL.load3 F q1 q2 q3;have eG:=a7 _ F;have ae:m.left[abx m.left m.left.length]∈m.left:=aaf F;have eH:m.left.getD (abx m.left m.left.length) default=m.left[abx m.left m.left.length]:=D4 F;rw[eH];generalize eI:abx m.left m.left.length=M at*;generalize hp:m.left[M]=p at*;obtain⟨h1,h2,e1,e2,l2,w2,oP,-⟩:=Od aJ q4.sl.one q5.one q6.one;have⟨S2,bN⟩:=(S.up l2).reg
 have gM:∀z,InS B O fv iv lv z->z≠X.next:=fun z hz e=>by
  have:=(S.own hz).2;rw[e]at this
  exact this ((Le.refl X).next aJ (qL0 _))
 have gP:(Hg h2 B O fv iv lv).own X.next=Z (.cells [a,b,c]):=by grind[Hg,Th,HX]
 generalize X.next=P at*
 have eM:=pB P 0 NH;have gN:=pB P 1 NH;have b6:=pB P 2 NH;have lc:=fun g'=>q6.TA g';rw[y6]at lc;simp only[HO,seval,J,S.f.l5,eG,eF,e1,e2,b6,lP2 oP,lc];by_cases c0:p.fits.length=0
 .have d0:decide (((p.fits.length:Nat):Int)=0)=tT:=EL NH;refine Sk (XC @ag6 d0) ?_;grind[ShS.le]
 have d0:decide (((p.fits.length:Nat):Int)=0)=fF:=Sb NH;rw[abE c0];have c9:p.fits.headD 0∈p.fits:=by grind[Lt]
 have⟨eO,wh,b8,bQ,gQ⟩:=I.way_face hR hA D ae c9;rw[abE NH];have da:=((I.Aa p ae).fits _).1 c9;have b9:InR n p.zp:=fun e he=>hR e ((I.Aa p ae).sub.subset he);have gR:=I.edges_len ae;have gS:=I.UO hR ae;have db:=I.Xg ae;have eP:=I.abJ hR ae;have dc:=q4.le bN;have eQ:=q5.le Nn.RP bN;have dd:=q6.le Nn.RP bN;refine Sk (Yb @ag6 d0 (OU oP)) ?_;refine kCi func93 (way_any W0 B n bv _ fv iv lv a b c es m.on p h2 S2.f (S2.cB.le (Nn.RL Nn.RP) S2.le) S2.rlO S2.ZA (dc.le S2.le) (eQ.le Nn.RP S2.le) q6.one hR b9 eP NH NH NH NH) ?_;rintro wv h3 w3 ⟨gw,l3,aw3⟩;have⟨S3,a8⟩:=(S2.up l3).reg;have de:GI (Hg h3 B O fv iv lv) wv (kz (J6 n (Zh n es) m.on p)):=Pv (h:=h3) S2 gw aw3;have df:=a8.own _ _ gP;have gT:∀x∈J6 n (Zh n es) m.on p,x<n:=bQ;have⟨eS,gU⟩:=I.face_lt da.1;have gV:=zh;generalize dg:J6 n (Zh n es) m.on p=way at*;have lw:=fun g'=>gw.rl.TA g';rw[y6]at lw;have dw:decide (((way.length:Nat):Int)<2)=fF:=Sb NH;have eT:aaY .i64 ((M:Int)+1)=((M+1:Nat):Int):=by grind[aaa]
 simp only[HO,seval,lw,dw,J,S3.f.l5,eT];refine kCi func94 (afs W0 S3.gL S3.cuL S3.c1 F NH) ?_;rintro w h4 w4 ⟨gd,eU,eV,eW,eX⟩;have⟨h5,e5,S5,w5⟩:=S3.delL w4 F gd eU eV eW eX;have l5g:=S5.le;have eZ:=l5g.own _ _ df;have e0:=(dd.le Nn.RP a8).le Nn.RP l5g;have dj:=q6.DH 0 (by rw[y6];omega);have dk:=e0.Uc 0 (by rw[y6];omega);have t0:0<p.fits.length:=NH;rw[sY t0,<-headN0 t0]at dk;simp only[Gg]at dj;generalize gW:p.fits.headD 0=f at*;generalize gX:(cs.take (M*3)++cs.drop ((M+1)*3))=e6 at*;refine Sk (XC J e5) ?_;refine gh (fRn 0 11 .done) ?_;refine CO (rE b6 (lP2 eZ) dj dk eD S5.f.l3 S5.LF) ?_;have e7:=Kz W0 S5 (f:=f) (way:=way) da.1 de eO wh b8 eS bQ NH NH NH NH;refine kCi func95 e7 ?_;rintro x h6 w6 ⟨g6,A,C,ba,bb,S6,cc⟩;have gZ:(m.left.eraseIdx M).length=m.left.length-1:=hGr;have cd:∀q∈m.left.eraseIdx M,q∈m.left:=by grind[List.mem_of_mem_eraseIdx]
 generalize hl:m.left.eraseIdx M=K at*;have dm:(kY m.Jv f way).length=m.Jv.length+1:=Yz;generalize hn:kY m.Jv f way=N at*;have hx:=sB B 0 NH;refine Sk (Yb J S6.f.l5 S6.lenL) ?_;refine aab.intro (fun k fr hz=>∃(i:Nat)(g7:aai)(bg:xLV)(L:List wW),k=K.length-i/\i<=K.length/\fr=mkF [(0,pT (Z B)),(5,pT (Z P)),(6,wv),(7,(f:Nat)),(8,(m.Jv.length:Nat)),(89,w),(90,(K.length:Nat)),(91,(i:Nat))]/\
   ShS g7 hz B O n (Zh n es) bv A C w ba bb bg m.on N N L/\Le g6 g7/\L=(K.take i).map (GF N f m.Jv.length)++K.drop i)
  K.length [(0,pT (Z B)),(5,pT (Z P)),(6,wv),(7,(f:Nat)),(8,(m.Jv.length:Nat)),(89,w),(90,(K.length:Nat)),(91,(0:Nat))] hAs
  ⟨0,g6,e6,K,rfl,Z6 _,rfl,S6,Le.refl _,Ma⟩ ?_
 rintro k fr hz cf ⟨i,g7,bg,L,rfl,hi,rfl,S7,aK,aL⟩;have dp:L.length=K.length:=by rw[aL,Eh,wI,WL,aeP];omega
 refine Uy ?_;refine Kl.intro (fun ht=>?_) (fun hf=>?_)
 .have s:i<K.length:=acb ht;clear ht;have aN:i<L.length:=NH;have cg:L[i]=K[i]:=by
   have h1:L[i]?=Z K[i]:=by rw[aL,AE (by rw[wI,WL];omega),wI,WL,alN NH,aj3,b7,DF];grind
   grind
  have⟨a',b',c',r1,r2,r3,r4,r5,r6⟩:=S7.at_ aN;have cj:=S7.gL.load3 aN r1 r2 r3;have bh:=S7.gL.ad3 aN;have fb:=eA3 (r:=2) S7.gL aN;have dq:aca pG 130 (pT (Z (aaq w (i*3)))) 2=Z (pT (Z (aaq w (i*3+2)))):=by rw[pf2,fb]
  rw[cg]at r4 r5 r6;have bT:=cd _ (aaf s);have bZ:=I.abJ hR bT;have b0:=I.UO hR bT;have aC:=I.Xg bT;have fc:=(I.Aa _ bT).fits;generalize dr:K[i]=q at*;have⟨h8,h9,e8,e9,l9,w9,oQ,l8⟩:=Od cf r4.sl.one r5.one r6.one;have S9:=S7.up l9;have aw:=aaa i NH
  have dQ:∀z,InS B O A C w z->z≠hz.next:=fun z G e=>by
   have:=(S7.own G).2;rw[e]at this
   exact this ((Le.refl hz).next cf (qL0 _))
  generalize hz.next=Q at*
  have aq:=pB Q 1 NH;have ag:=pB Q 2 NH;have ar:K.take (i+1)=K.take i++[q]:=by rw[XJ s,dr]
  have dv:K.drop i=q::K.drop (i+1):=by rw[AQ s,dr]
  have aD:∀q':wW,L.set i q'=(K.take i).map (GF N f m.Jv.length)++q'::K.drop (i+1):=fun q'=>by rw[aL];exact refit_set s dv
  refine Sk (bG bh cj e8 e9 ag (lP2 oQ)) ?_;refine kCi func49 (W3 W0 c' (kz q.fits) ((f:Nat):Int) h9 (r6.le Nn.RP S9.le) (by rw[y6];omega)) ?_;rintro y aP fe ⟨rfl,rfl⟩;by_cases cm:f∈q.fits
  rotate_left
  .have d:decide (((f:Nat):Int)∈kz q.fits)=fF:=Sb fun hm=>cm (by
    have⟨z,G,e⟩:=aev.1 hm;have:z=f:=NH;grind)
   simp only[HO,seval,d,aw];refine tn (K.length-(i+1)) [(0,pT (Z B)),(5,pT (Z P)),(6,wv),(7,(f:Nat)),(8,(m.Jv.length:Nat)),(89,w),(90,(K.length:Nat)),(91,(i+1:Nat))] (JS s) hAs
    ⟨i+1,g7,bg,L,rfl,s,rfl,S9,aK,?_⟩
   rw[aL,ar,dv,akG,Cg];have:GF N f m.Jv.length q=q:=by unfold GF;grind
   simp[this]
  have d:decide (((f:Nat):Int)∈kz q.fits)=tT:=EL (aev.2 ⟨f,cm,rfl⟩);refine Sk d ?_;have R:∀h',Le aP h'->aaC pG h' 96 ⟨B,5,Y⟩=Z w/\aaC pG h' 47 ⟨Q,1,Y⟩=Z b'/\aaC pG h' 47 ⟨Q,2,Y⟩=Z c':=fun h' l=>⟨(S9.f.le l).l5,lP1 (l.own _ _ oQ),lP2 (l.own _ _ oQ)⟩;have⟨ck,cp,cq⟩:=R aP (Le.refl _);have aE:∀z∈q.fits++[m.Jv.length],z<N.length:=fun z G=>by
   rw[dm];rcases aax.1 G with h|h
   .have:=((fc z).1 h).1;omega
   .have:=xD.1 h;omega
  have aF:kz q.fits++[((m.Jv.length:Nat):Int)]=kz (q.fits++[m.Jv.length]):=by simp[kz]
  have⟨ha,ea,la,wa,oa⟩:=Tt fe [((m.Jv.length:Nat):Int)];have⟨fg,fh,fi⟩:=R ha la;refine gh (fRn 0 10 (tA [11] (.ch 10 [9] (JQ 12 [11] (JQ 13 [10,12] (JQ 14 [5,7,13] (tA [15,16] (JQ 17 [0,1,2,3,4,5,6,7,8,9,10,11,12,13,14,16] .done))))) (JQ 12 [11] (JQ 10 [9] (JQ 13 [10,12] (JQ 14 [5,7,13] (tA [15,16] (JQ 17 [0,1,2,3,4,5,6,7,8,9,10,11,12,13,14,16] .done))))))))) ?_;simp only[HO,seval,Qg,J,ck,fg,aq,ag,cp,fh,cq,fi,DQ,ea];refine⟨?_,?_⟩
  .refine kGi qS30 (QY W0 c' (kz q.fits) aP (r6.le Nn.RP S9.le) (by rw[y6];exact Xi aC aH U)) ?_;rintro y sZ wb ⟨gb,lb,ab⟩;have⟨bj,bk,bm⟩:=R sZ lb;have⟨av,fk,hc,dy,ec,az,wc,fm,cx,fp⟩:=gb.push wb ((m.Jv.length:Nat):Int) (by rw[y6];grind);have⟨E,fq⟩:=cx aP lb ab;rw[aF]at az;have⟨dz,dA,dB⟩:=R fk (lb.trans fm);have⟨bo,br,bx⟩:=R hc E;simp only[DQ]at dy;simp only[HO,seval,Qg,J,ck,bj,dz,bo,aq,ag,cp,bk,dA,br,cq,bm,dB,bx,DQ,dy,ec];have⟨fs,ft,fw⟩:=R hc E;refine kGi qS32 (NR W0 B n bv _ A C w b' av N q.Fm (q.fits++[m.Jv.length]) hc (S9.f.le E) (S9.rlI.le (Nn.RL Nn.sJ) E) ((r5.le Nn.RP S9.le).le Nn.RP E) az.rl bZ aE (sr b0 a6) (by rw[Eh,vY];exact ig aC aH U)) ?_;rintro y hd wd ⟨gy,cz,ay⟩;have bz:=E.trans cz;have⟨cC,cE,cJ⟩:=R hd bz;have⟨Sd,cK⟩:=(S9.up bz).reg;have cM:GI (Hg hd B O A C w) y (kz (zh N q.Fm (q.fits++[m.Jv.length]))):=Pv (h:=hd) S9 gy (fun b hb=>E.none (ay b hb));have⟨he,ee,Se,we⟩:=Sd.setT wd aN cM.rl;rw[cg]at Se;simp only[HO,seval,Qg,J,aq,ag,cC,cE,cJ,bh,dq,ee,aw];refine tn (K.length-(i+1)) [(0,pT (Z B)),(5,pT (Z P)),(6,wv),(7,(f:Nat)),(8,(m.Jv.length:Nat)),(89,w),(90,(K.length:Nat)),(91,(i+1:Nat))] (JS s) hAs
    ⟨i+1,_,_,_,rfl,s,rfl,Se,aK.trans cK,?_⟩
   rw[aD,ar,akG,Cg];have:GF N f m.Jv.length q={q with fits:=zh N q.Fm (q.fits++[m.Jv.length])}:=by unfold GF;grind
   simp[this]
  .refine kGi qS30 (QY W0 c' (kz q.fits) ha ((r6.le Nn.RP S9.le).le Nn.RP la) (by rw[y6];exact Xi aC aH U)) ?_;rintro y sZ wb ⟨gb,lb,ab⟩;have⟨bj,bk,bm⟩:=R sZ (la.trans lb)
   have ro:RL RP sZ (sL (Z aP.next) 1 1) [((m.Jv.length:Nat):Int)]:=RL.Wh (RS.whole (lb.own _ _ oa) rfl)
   have⟨av,hc,ec,az,wc,cx,fp⟩:=GI.join gb wb ro (by rw[y6,vY];grind);have⟨fx,fq⟩:=cx ha lb ab;have E:=la.trans fx;rw[aF]at az;have⟨bo,br,bx⟩:=R hc E;refine CO (Da J ck bj bo aq ag cp bk br cq bm bx @DQ ec) ?_;have⟨fs,ft,fw⟩:=R hc E;refine kGi qS32 (NR W0 B n bv _ A C w b' av N q.Fm (q.fits++[m.Jv.length]) hc (S9.f.le E) (S9.rlI.le (Nn.RL Nn.sJ) E) ((r5.le Nn.RP S9.le).le Nn.RP E) az.rl bZ aE (sr b0 a6) (by rw[Eh,vY];exact ig aC aH U)) ?_;rintro y hd wd ⟨gy,cz,ay⟩;have bz:=E.trans cz;have⟨cC,cE,cJ⟩:=R hd bz;have⟨Sd,cK⟩:=(S9.up bz).reg;have cM:GI (Hg hd B O A C w) y (kz (zh N q.Fm (q.fits++[m.Jv.length]))):=Pv (h:=hd) S9 gy (fun b hb=>E.none (ay b hb));have⟨he,ee,Se,we⟩:=Sd.setT wd aN cM.rl;rw[cg]at Se;simp only[HO,seval,Qg,J,aq,ag,cC,cE,cJ,bh,dq,ee,aw];refine tn (K.length-(i+1)) [(0,pT (Z B)),(5,pT (Z P)),(6,wv),(7,(f:Nat)),(8,(m.Jv.length:Nat)),(89,w),(90,(K.length:Nat)),(91,(i+1:Nat))] (JS s) hAs
    ⟨i+1,_,_,_,rfl,s,rfl,Se,aK.trans cK,?_⟩
   rw[aD,ar,akG,Cg];have:GF N f m.Jv.length q={q with fits:=zh N q.Fm (q.fits++[m.Jv.length])}:=by unfold GF;grind
   simp[this]
 have aa:K.length<=i:=vp hf;obtain rfl:i=K.length:=NH;rw[HV (qL0 _),qL177 (qL0 _),adN]at aL;clear aa hf hi;have dE:=aK.own _ _ (cc.own _ _ df);have cN:=de.le (cc.trans aK);have dF:=fun g'=>cN.rl.TA g';rw[y6]at dF;refine Sk dF ?_;refine aab.intro (fun k fr hy=>∃(i:Nat),k=way.length-i/\i<=way.length/\fr=mkF [(0,pT (Z B)),(5,pT (Z P)),(6,wv),(8,(m.Jv.length:Nat)),(118,wv),(119,(way.length:Nat)),(120,(i:Nat))]/\
   ShS g7 hy B O n (Zh n es) bv A C w ba bb bg (tV m.on (way.take i)) N N L)
  way.length [(0,pT (Z B)),(5,pT (Z P)),(6,wv),(8,(m.Jv.length:Nat)),(118,wv),(119,(way.length:Nat)),(120,(0:Nat))] hAs
  ⟨0,rfl,Z6 _,rfl,S7⟩ ?_
 clear S7 cf;clear hz;rintro k fr hy dg ⟨i,rfl,hi,rfl,S8⟩;refine Uy ?_;refine Kl.intro (fun ht=>?_) (fun hf=>?_)
 .have s:i<way.length:=acb ht;clear ht;have gy:=cN.le S8.le;have fy:=gy.rl.DH i (by rw[y6];exact s);have dH:=gy.rl.Uc i (by rw[y6];exact s);rw[sY s]at dH;have hv:=bQ way[i] (aaf s);have ar:way.take (i+1)=way.take i++[way[i]]:=XJ s;generalize way[i]=v at*;have fB:aao pG 94 (sL (Z O) n n) v=Z (pT (Z ⟨O,v,Y⟩)):=by rw[Wc Uh eY Ji v hv];simp[Ip]
  have⟨h9,e9,S9,w9⟩:=S8.setO dg hv;have fC:(tV m.on (way.take i)).set v tT=tV m.on (way.take (i+1)):=by rw[ar];unfold tV;rw[qL209];rfl
  rw[fC]at S9;have aw:=aaa i (by grind[le_4]);simp only[HO,seval,fy,dH,eE,S8.f.l2,fB,e9,aw];exact tn (way.length-(i+1)) [(0,pT (Z B)),(5,pT (Z P)),(6,wv),(8,(m.Jv.length:Nat)),(118,wv),(119,(way.length:Nat)),(120,(i+1:Nat))] (JS s) hAs ⟨i+1,rfl,s,rfl,S9⟩
 have aa:way.length<=i:=vp hf;rw[HV aa]at S8;clear aa hf hi;have fD:=S8.le.own _ _ dE;have bA:=cc.trans aK;have r6:=((dd.le Nn.RP a8).le Nn.RP bA);have r4:=((dc.le a8).le bA);refine Sk (XC b6 (lP2 fD)) ?_;refine kCi qS30 (QY W0 c (kz p.fits) hy (r6.le Nn.RP S8.le) (by rw[y6];exact Xi db aH U)) ?_;rintro y h9 w9 ⟨g9,l9,a9⟩;have⟨av,aP,cP,dI,fJ,dJ,hC,hD,dL,gE⟩:=g9.push w9 ((m.Jv.length:Nat):Int) (by grind[y6]);have⟨dM,fL⟩:=dL hy l9 a9;have aF:kz p.fits++[((m.Jv.length:Nat):Int)]=kz (p.fits++[m.Jv.length]):=by simp[kz]
 rw[aF]at dJ;have⟨aT,ai⟩:=(S8.up dM).reg;have az:GI (Hg cP B O A C w) av (kz (p.fits++[m.Jv.length])):=Pv (h:=cP) S8 dJ fL;have dO:=ai.own _ _ dE;have dS:=aT.le.own _ _ dO;have fM:=cN.le ai;simp only[DQ]at dI;refine Sk (IX @DQ dI fJ eM (lP0 dS)) ?_;refine kCi func97 (Bs W0 B n bv _ A C w a wv p.zp way cP aT.f ((r4.le ai).le aT.le) (fM.le aT.le).rl b9 bQ NH NH NH) ?_;rintro y2 fN hE ⟨fP,fQ,hF⟩;have⟨aj,bB⟩:=(aT.up fQ).reg;have cR:(V8 n p.zp way).Sublist p.zp:=EP;have cU:InR n (V8 n p.zp way):=fun e he=>b9 e (cR.subset he);have cW:(V8 n p.zp way).length<=594:=by grind[List.Sublist.length_le]
 generalize hG:V8 n p.zp way=wo at*;refine Uy ?_;refine kCi func96 (Xr W0 B n bv _ A C w y2 (tV m.on way) wo fN aj.f aj.rlO aj.ZA fP.pr cU NH NH) ?_;rintro x W fR ⟨vs,OP⟩;have⟨dT,bF⟩:=(aj.up OP.sep.le).reg;have cZ:vX n (tV m.on way) wo=(qT (Wg (tV m.on way)) (aaX (frL n (Wg (tV m.on way)) wo) wo [] wo.length)).map fun q=>⟨q.1,q.2,[]⟩:=by unfold vX qT;rw[KG];rfl
 have bW:∀q∈qT (Wg (tV m.on way)) (aaX (frL n (Wg (tV m.on way)) wo) wo [] wo.length),(∀z∈q.2,∃v:Nat,z=(v:Int)/\v<n)/\q.2.length<=n:=fun q X=>by
  obtain⟨gr,fS,rfl⟩:=aev.1 X;obtain⟨-,-,-,-,dV⟩:=Pt (frL n (Wg (tV m.on way)) wo) wo [] wo.length;have b1:=dV gr fS;refine⟨fun z G=>?_,dd_len cU b1⟩;have⟨_,e,he,h⟩:=zS.1 (((VW _).2 z).1 G);obtain⟨u,v,rfl,hI,hJ⟩:=jB cU (b1 e he);simp only at h;rcases h with rfl|rfl
  .grind
  grind
 have dW:(qT (Wg (tV m.on way)) (aaX (frL n (Wg (tV m.on way)) wo) wo [] wo.length)).length<=wo.length:=by unfold qT;rw[wI];exact(Pt _ _ _ _).2.2.2.1
 rw[cZ];generalize qT (Wg (tV m.on way)) (aaX (frL n (Wg (tV m.on way)) wo) wo [] wo.length)=ps at*;have fU:=OP.len_;have gx:GS 3 (Hg W B O A C w) x ps.length (abS vs ps.length):=Pv (h:=W) aj OP.sl (OP.sep.ap 0 x rfl);have fV:∀(j:Nat) q,ps[j]?=Z q->GP (Hg W B O A C w) (vs.getD (2*j) rW) q.1/\GI (Hg W B O A C w) (vs.getD (2*j+1) rW) q.2:=fun j q X=>by have⟨k1,k2⟩:=OP.ge j q X;have hj:=(Ny.1 X).1;have hK:=OP.len;exact⟨Pv (h:=W) aj k1 (OP.sep.ap _ _ (u6 OP NH)),Pv (h:=W) aj k2 (OP.sep.ap _ _ (u6 OP NH))⟩
 have c3:=az.le (bB.trans bF);have fW:Le g (Hg W B O A C w):=bN.trans (a8.trans (bA.trans (ai.trans (bB.trans bF))));have aE:∀z∈p.fits++[m.Jv.length],z<N.length:=fun z G=>by
  rw[dm];rcases aax.1 G with h|h
  .have:=(((I.Aa p ae).fits z).1 h).1;omega
  .have:=xD.1 h;omega
 have dp:L.length<=594:=hGr;clear OP bF aj bB aT ai S8;generalize Hg W B O A C w=dZ at*;refine Sk fU ?_;refine aab.intro (fun k fr X=>∃(i:Nat)(aV:aai)(al:xLV)(T:vV),k=ps.length-i/\i<=ps.length/\fr=mkF [(0,pT (Z B)),(13,av),(143,x),(144,(ps.length:Nat)),(145,(i:Nat))]/\
   ShS aV X B O n (Zh n es) bv A C T ba bb al (tV m.on way) N N (L++(ps.take i).map fun q=>⟨q.1,q.2,zh N q.2 (p.fits++[m.Jv.length])⟩)/\Le dZ aV)
  ps.length [(0,pT (Z B)),(13,av),(143,x),(144,(ps.length:Nat)),(145,(0:Nat))] hAs
  ⟨0,dZ,bg,w,rfl,Z6 _,rfl,by simpa using dT,Le.refl _⟩ ?_
 clear dT fR;clear W;rintro k fr X aJ ⟨i,aV,al,T,rfl,hi,rfl,aA,V⟩;refine Uy ?_;refine Kl.intro (fun ht=>?_) (fun hf=>?_)
 .have s:i<ps.length:=acb ht;clear ht;have fY:=qL7 s;have⟨ge,gf⟩:=fV i _ fY;have⟨ed,ef⟩:=bW _ (aaf s);have ar:ps.take (i+1)=ps.take i++[ps[i]]:=XJ s;generalize ps[i]=q at*;have eg:=gx.le (V.trans aA.le);have⟨z1,z2,z3⟩:=aY vs ps.length s;have cj:=eg.load3 s z1 z2 z3;have bh:=eg.ad3 s;have b2:=ge.le V;have bH:=gf.le V;generalize vs.getD (2*i) rW=a' at*;generalize vs.getD (2*i+1) rW=b' at*;have⟨hL,fZ,ga,gg,gi,hM,oQ,hN⟩:=Od aJ (a:=a') (b:=b') (c:=rW) b2.pr.sl.one bH.rl.one rfl;have aW:=aA.up gi
  have dQ:∀z,InS B O A C T z->z≠X.next:=fun z G e=>by
   have:=(aA.own G).2;rw[e]at this
   exact this ((Le.refl X).next aJ (qL0 _))
  have eh:aV.own X.next=Y:=aA.le.next aJ (qL0 _)
  generalize X.next=Q at*
  have aq:=pB Q 1 NH;have ag:=pB Q 2 NH;have aw:=aaa i (by grind[QJ]);refine Sk (bG bh cj ga gg aq (lP1 oQ)) ?_;refine kCi qS32 (NR W0 B n bv _ A C T b' av N q.2 (p.fits++[m.Jv.length]) fZ aW.f aW.rlI ((bH.le aW.le).rl) (((c3.le V).le aW.le).rl) ed aE (sr ef a6) (by rw[Eh,vY];exact ig db aH U)) ?_;rintro y aB ei ⟨c4,ej,ek⟩;have b3:=ej.own _ _ oQ;have st:=QB (P:=pG) (t:=47) (x:=y) Mb Ji b3 (off:=2) Ma c4.rl.sl.cell c4.rl.one;have aD:([a',b',rW]:xLV).set 2 y=[a',b',y]:=rfl;rw[aD]at st;have b4:(aB.put Q (.cells [a',b',y])).own Q=Z (.cells [a',b',y]):=aai.Y3 _ _ _;have gj:WF (aB.put Q (.cells [a',b',y])):=ei.put _ (ei.lt b3);have gk:blk y≠Z Q:=fun e=>by have:=ek Q e;grind
  have gl:=GS.put c4 (fK.cells [a',b',y]) gk;have en:∀z o,z≠Q->aB.own z=Z o->(aB.put Q (.cells [a',b',y])).own z=Z o:=fun z o G ho=>by rw[aai.By _ _ _ _ G];exact ho
  have eo:=aW.up ej;have gn:ShS aV (aB.put Q (.cells [a',b',y])) B O n (Zh n es) bv A C T ba bb al (tV m.on way) N N (L++(ps.take i).map fun q=>⟨q.1,q.2,zh N q.2 (p.fits++[m.Jv.length])⟩):=eo.other (eo.le.put _ eh) fun z o G ho=>en z o (dQ z G) ho;have⟨c5,bI⟩:=gn.reg;have gy:GI (Hg (aB.put Q (.cells [a',b',y])) B O A C T) y (kz (zh N q.2 (p.fits++[m.Jv.length]))):=Pv (h:=aB.put Q (.cells [a',b',y])) aW gl ek;obtain⟨ep,hP,hQ,hS,gq,gu,gv,gz,hT,er,gA,-⟩:=c5.pushL gj (a:=a') (b:=b') (c:=y) (p:=⟨q.1,q.2,zh N q.2 (p.fits++[m.Jv.length])⟩) ((b2.le bI).pr) ((bH.le bI).rl) gy.rl (app_b dp (jz dW cW) i);have gC:=OU b4;have et:=OU (er.own _ _ b4);have gD:=c5.f.le er;simp only[HO,seval,ag,st];refine gh (fRn 0 6 (JQ 6 [5] (JQ 7 [4,6] (tA [8,9] (JQ 10 [0,1,2,3,4,5,6,7,9] .done))))) ?_;simp only[HO,seval,Qg,J,c5.f.l5,gD.l5,gA.l5,gC,et,gq,gu,gv,aw];refine tn (ps.length-(i+1)) [(0,pT (Z B)),(13,av),(143,x),(144,(ps.length:Nat)),(145,(i+1:Nat))] (JS s) hAs
   ⟨i+1,_,al++[a',b',y],ep,rfl,s,rfl,?_,V.trans bI⟩
  rw[ar,akG,<-Cg];exact gz
 have aa:ps.length<=i:=vp hf;rw[HV aa]at aA;refine Uy ?_;refine⟨aV,fW.trans V,aA.le,.inr ⟨_,A,C,T,ba,bb,al,rfl,trivial,?_⟩⟩;simp only;rw[<-aL,KG];exact aA
variable {T:AM} {b0:aai} {j m t w:Nat}
theorem Rows.setRow{L:Nat}(R:Rows b0 h L us rows)(c:WF h)(hw:w<us.length){u:vV}{r:RZ}(g:GI h u r)(k:Z2 b0 u)(i:blk u≠Z L)(hd:∀(v:Nat) a b,us[v]?=Z a->blk a=Z b->blk u≠Z b):
  ∃h',aaK pG h 47 (pT (Z ⟨L,w,Y⟩)) u=Z h'/\Rows b0 h' L (us.set w u) (rows.set w r)/\WF h'/\Le (h.kill L) h'/\∀b o,b≠L->h.own b=Z o->h'.own b=Z o:=by
 have st:=QB (P:=pG) (t:=47) (x:=u) Mb Ji R.oL (off:=w) hw g.rl.sl.cell g.rl.one;have keep:∀b o,b≠L->h.own b=Z o->(h.put L (.cells (us.set w u))).own b=Z o:=fun b o hb l=>by grind[aai.By]
 have key:∀(v:Nat) a,(us.set w u)[v]?=Z a->(v=w/\a=u)\/(v≠w/\us[v]?=Z a):=fun v a ha=>by grind
 refine⟨_,st,⟨aai.Y3 _ _ _,by grind[Rows.len],fun v a q ha d=>?_,fun v a ha=>?_,fun v w' a a' b j ha mi hb=>?_,fun v a ha=>?_,R.le.put _ R.bL,R.bL⟩,c.put _ (c.lt R.oL),((Le.Qz h L).put _ (aai.Dg _ _)),keep⟩
 .rcases key v a ha with⟨e,f⟩|⟨e,f⟩
  .rw[e,Tn,abe rfl]at d;simp only[show w<rows.length by grind,if_true]at d;injection d with d;rw[f,<-d];exact GS.put g _ i
  grind[GS.put,Rows.gs,Rows.nL]
 .grind[Rows.nL]
 .rcases key v a ha with⟨e,f⟩|⟨e,f⟩
  .grind
  grind[Rows.TE]
 grind[Rows.ap]
def xi(n:Nat)(a:List (Nat×Nat×Nat)):AM:=a.foldl XN (rP n (rP n (-1)))
def adh{n:Nat}:∀(a:List (Nat×Nat×Nat))(T:AM),(T.length=n/\∀v,v<n->(T.getD v []).length=n)->(a.foldl XN T).length=n/\∀v,v<n->((a.foldl XN T).getD v []).length=n
 |[],_,h=>h
 |t::a,T,h=>adh a (XN T t) (sQ h)
theorem BA(n:Nat):(rP n (rP n (-1:Int))).length=n/\∀v,v<n->((rP n (rP n (-1:Int))).getD v []).length=n:=hGr
theorem tabP_snoc(n:Nat)(a:List (Nat×Nat×Nat))(t:Nat×Nat×Nat):xi n (a++[t])=XN (xi n a) t:=by grind[xi]
def Hz(n i:Nat):AM:=rP i (rP n (-1))++rP (n-i) []
def rowsI_set(h:i<n):(Hz n i).set i (rP n (-1))=Hz n (i+1):=by unfold Hz;rw[fE _ _ Ma,length_replicate,aj3,qL235,show n-i=(n-(i+1))+1 by omega,qL195];simp
def BU(n:Nat)(T rows:AM)(i k:Nat):AM:=(rG i).map (lH T rows)++((rG k).map fun t=>itI (T.getD i []) t ((rows.getD i []).getD 0 0))::rP (n-(i+1)) []
theorem rowsR_at(n:Nat)(T rows:AM)(i k:Nat):(BU n T rows i k)[i]?=Z ((rG k).map fun t=>itI (T.getD i []) t ((rows.getD i []).getD 0 0)):=by grind[BU]
def rowsR_set(n:Nat)(T rows:AM)(i k:Nat):(BU n T rows i k).set i (((rG k).map fun t=>itI (T.getD i []) t ((rows.getD i []).getD 0 0))++[itI (T.getD i []) k ((rows.getD i []).getD 0 0)])=BU n T rows i (k+1):=by unfold BU;rw[fE _ _ Ma,wI,amP,aj3,Bx,akG];rfl
theorem Ow(h:i+1<n):BU n T rows i (rows.getD i []).length=BU n T rows (i+1) 0:=by unfold BU;rw[Bx,akG,Cg];congr 1;rw[show n-(i+1)=(n-(i+1+1))+1 by omega,qL195];rfl
theorem iP(h:i+1=n):BU n T rows i (rows.getD i []).length=(rG n).map (lH T rows):=by unfold BU;rw[<-h,Bx,akG,aj3];rfl
theorem j8(h:0<n):BU n T rows 0 0=rP n []:=by unfold BU;rw[show n=(n-1)+1 by omega,qL195];simp
theorem tmod_pred(h:j<m):((j:Int)+(m:Int)-1).tmod (m:Int)=(((j+m-1)%m:Nat):Int):=hGr
theorem Y7(h:0<m)(b:m<=1000):aaY .i64 ((a%m:Nat):Int)=((a%m:Nat):Int):=by have:a%m<m:=Q4 _ h;grind[cT]
def rh(h:t<m)(a:m<=1000):aaY .i64 ((t:Int)+(m:Int))=(t:Int)+(m:Int):=ie _ NH NH
def Ad(h:t<m)(a:m<=1000):aaY .i64 ((t:Int)+(m:Int)-1)=(t:Int)+(m:Int)-1:=ie _ NH NH
def nz_len(h:t<m):¬((m:Int)=0):=NH
theorem Wt(h:t<m):(((t+1:Nat):Int)).tmod (m:Int)=(((t+1)%m:Nat):Int):=hGr
def FI(h:a<b):0<b:=aoE (Z6 _) h
theorem pY(W0:abw)(B n:Nat)(bv ov fv iv lv:vV)(rows:AM)(F:Cs)(h:aai)(hs:Sr h B n bv ov fv iv lv)(hb:RL (RL RP) h bv rows)(hF:RL (RL RP) h fv (F.map kz))(b2:rows.length=n)(h0:∀v,v<n->0<(rows.getD v []).length/\(rows.getD v []).length<=2000)(aN:∀f∈F,(∀x∈f,x<n)/\f.length<=1000)(hn:n<=300)(aP:0<n)(b3:F.length<=1000)(aT:∀v,v<n->∀k,k<=(rows.getD v []).length->∃u:Nat,u<n/\itI ((N4 n F).getD v []) k ((rows.getD v []).getD 0 0)=(u:Int)):
  AC pG W0 61 [pT (Z B)] h fun x h'=>RL (RL RP) h' x (xY n rows F)/\Le h h':=by
 refine AC.vF func61 ntmps61 results61 fun ar=>?_;have W:=sB B 0 NH;have aV:=sB B 1 NH;have aW:=sB B 3 NH;have⟨h1,e1,l1,w1,o1⟩:=Tt ar (rP n rW);have mk:=mk57 h n NH;rw[e1]at mk
 have nL:h.own h.next=Y:=(Le.refl h).next ar (qL0 _)
 have R0:Rows h h1 h.next (rP n rW) (Hz n 0):=by grind[Rows.start,Hz]
 generalize h.next=D at*
 have aX:=fun g=>Jg (P:=pG) (t:=45) (a:=Z D) (n:=n) (cap:=n) qS6 g;have Q:∀v,v<n->aao pG 45 (sL (Z D) n n) (.int .i64 (v:Int))=Z (pT (Z ⟨D,v,Y⟩)):=fun v S=>by rw[Wc qS6 Mb Ji v S];simp[Ip]
 simp only[HO,seval,W,hs.l0,mk,aX];refine lIn (fun k fr s=>∃(i:Nat)(us:xLV),k=n-i/\i<=n/\fr=mkF [(0,pT (Z B)),(3,sL (Z D) n n),(20,(n:Nat)),(21,(i:Nat))]/\Rows h s D us (Hz n i)/\us.length=n) ⟨0,_,rfl,Z6 _,rfl,R0,Ma⟩ ?_;clear R0 mk o1 w1 l1 e1;clear h1;rintro k fr s av ⟨i,us,rfl,hi,rfl,R,m⟩;refine Uy ?_;refine Kl.intro (fun A=>?_) (fun hf=>?_)
 .have C:i<n:=acb A;clear A;have⟨h4,e4,l4,w4,o4⟩:=Tt av [.int .i64 (-1)];have s4:=hs.le (R.le.trans l4);refine Sk (xU @DQ e4 W s4.l0) ?_;refine kCi alD (rN W0 _ n hn h4 (RL.Wh (RS.whole o4 rfl))) ?_;rintro x h5 w5 ⟨T,rfl,hT,o5,l5⟩;have R5:=(R.up l4).up l5;have gT:GI h5 (sL (Z T) n n) (rP n (-1)):=by
   have:h5.own T=Z (.cells (Bp (rP n (-1)))):=by rw[o5];simp[Bp]
   have:=GS.full (k:=1) (n:=n) this (by simp[Bp]) NH;show GS 1 h5 _ _ _;grind
  have dT:∀{b o},h4.own b=Z o->T≠b:=fun{b o} ob e=>by have:=w4.lt ob;omega
  obtain⟨h6,e6,R6,w6,-,-⟩:=R5.setRow w5 (w:=i) NH gT (fun b sZ=>by
    simp[blk]at sZ;subst sZ
    exact(R.le.trans l4).next w4 hT) (fun e=>by
    simp[blk]at e;exact dT (l4.own _ _ R.oL) e) (fun v a b ha sZ e=>by
    simp[blk]at e;have S:v<(Hz n i).length:=by grind[Rows.len]
    have:=GS.Sy (R.gs v a _ ha (qL7 S)) sZ;have⟨o,ho⟩:=N8.1 this;grind[Le.own])
  rw[rowsI_set C]at R6;refine Sk (Yb (Q i C) e6 (aaa i NH)) ?_;exact lgA (JS C) ⟨i+1,_,rfl,C,rfl,R6,by rw[Q9];exact m⟩
 have y:n<=i:=vp hf;obtain rfl:i=n:=NH;clear y hf hi;have ay:Hz i i=xi i ((F.take 0).flatMap ZO):=by simp[Hz,xi]
 rw[ay]at R;have lF:=fun g=>hF.qP5 g;rw[wI]at lF;have sq:=hs.le R.le;refine Sk (Yb aW sq.l3 lF) ?_;refine lIn (fun k fr p=>∃(j:Nat)(us:xLV),k=F.length-j/\j<=F.length/\fr=mkF [(0,pT (Z B)),(3,sL (Z D) i i),(37,fv),(38,(F.length:Nat)),(39,(j:Nat))]/\Rows h p D us (xi i ((F.take j).flatMap ZO))/\us.length=i) ⟨0,us,rfl,Z6 _,rfl,R,m⟩ ?_;clear R m av ay sq;clear us s;rintro k fr p X ⟨j,us,rfl,hj,rfl,R,m⟩;refine Uy ?_;refine Kl.intro (fun A=>?_) (fun hf=>?_)
 .have E:j<F.length:=acb A;clear A;have a6:=hF.NS j (by rw[wI];exact E);have⟨u,lu,hu⟩:=hF.Wm j (by rw[wI];exact E);rw[NC]at hu;have⟨a7,K⟩:=aN F[j] (aaf E);have b4:F.take (j+1)=F.take j++[F[j]]:=XJ E;generalize F[j]=f at*;have aa:=fun g=>hu.TA g;rw[y6]at aa;simp only[HO,seval,a6,lu p R.le,aa];have R':Rows h p D us (xi i ((F.take j).flatMap ZO++(ZO f).take 0)):=by simpa using R
  refine lIn (fun k fr G=>∃(t:Nat)(us:xLV),k=f.length-t/\t<=f.length/\fr=mkF [(0,pT (Z B)),(3,sL (Z D) i i),(6,u),(37,fv),(38,(F.length:Nat)),(39,(j:Nat)),(43,u),(44,(f.length:Nat)),(45,(t:Nat))]/\Rows h G D us (xi i ((F.take j).flatMap ZO++(ZO f).take t))/\us.length=i) ⟨0,us,rfl,Z6 _,rfl,R',m⟩ ?_;clear R' R m X;clear us p;rintro k fr G ae ⟨t,us,rfl,b5,rfl,R,m⟩;refine Uy ?_;have tl:(ZO f).length=f.length:=by simp[ZO]
  refine Kl.intro (fun A=>?_) (fun hf=>?_)
  .have l:t<f.length:=acb A;clear A;have fp:(t+f.length-1)%f.length<f.length:=Q4 _ NH;have az:(t+1)%f.length<f.length:=Q4 _ NH;have ad:∀q,q<f.length->aao pG 47 u (.int .i64 (q:Int))=Z (pT (Z (aaq u q))):=fun q s=>hu.DH q (by rw[y6];exact s);have ld:∀q (s:q<f.length),aaC pG G 3 (aaq u q)=Z (.int .i64 ((f.getD q 0:Nat):Int)):=fun q s=>by rw[(hu.le Nn.RP R.le).Uc q (by rw[y6];exact s),sY s,D4 s]
   have mm:∀q,q<f.length->f.getD q 0<i:=fun q s=>by rw[D4 s];exact a7 _ (aaf s)
   have a8:(ZO f).take (t+1)=(ZO f).take t++[(f.getD t 0,f.getD ((t+f.length-1)%f.length) 0,f.getD ((t+1)%f.length) 0)]:=by rw[XJ (by rw[tl];exact l)];congr 2;unfold ZO;rw[NC,List.getElem_range]
   have S:=mm t l;have b6:=mm _ fp;have d:=adh ((F.take j).flatMap ZO++(ZO f).take t) _ (BA i);obtain⟨L,ag⟩:∃a,us[f.getD t 0]?=Z a:=⟨_,qL7 NH⟩;have U:(xi i ((F.take j).flatMap ZO++(ZO f).take t))[f.getD t 0]?=Z ((xi i ((F.take j).flatMap ZO++(ZO f).take t)).getD (f.getD t 0) []):=by grind[xi,D4]
   have V:f.getD ((t+f.length-1)%f.length) 0<((xi i ((F.take j).flatMap ZO++(ZO f).take t)).getD (f.getD t 0) []).length:=by grind[xi]
   obtain⟨h9,e9,R9,w9,-,-⟩:=R.put ae ag U V ((f.getD ((t+1)%f.length) 0:Nat):Int);have ba:=R.gs _ L _ ag U;have bb:=(show GI G L _ from ba).rl.DH _ V;have bg:aaC pG G 47 ⟨D,f.getD t 0,Y⟩=Z L:=by rw[Fq Mb rfl R.oL];exact ag
   have bh:aaY .i64 ((t:Int)+(f.length:Int))=(t:Int)+(f.length:Int):=rh l K;have bj:aaY .i64 ((t:Int)+(f.length:Int)-1)=(t:Int)+(f.length:Int)-1:=Ad l K;have nz:¬((f.length:Int)=0):=nz_len l;have bk:=tmod_pred l;have bm:aaY .i64 (((t+f.length-1)%f.length:Nat):Int)=(((t+f.length-1)%f.length:Nat):Int):=Y7 (FI l) K;have aw:=aaa t (Lb l (jz K WY));have bo:(((t+1:Nat):Int)).tmod (f.length:Int)=(((t+1)%f.length:Nat):Int):=Wt l;have br:aaY .i64 (((t+1)%f.length:Nat):Int)=(((t+1)%f.length:Nat):Int):=Y7 (FI l) K;simp only[HO,seval,ad t l,ld t l];refine gh (fRn 0 21 .done) ?_;simp only[HO,seval,Qg,aa,bh,bj,nz,bk,bm,aw,bo,br,ad _ fp,ad _ az,ld _ fp,ld _ az,Q _ S,bg,bb,e9];refine lgA (JS l) ⟨t+1,us,rfl,l,rfl,?_,m⟩;rw[a8,<-Cg,tabP_snoc];exact R9
  .have y:f.length<=t:=vp hf;have bx:(ZO f).take t=ZO f:=HV hGr;rw[bx]at R;refine Sk (aaa j NH) ?_;refine lgA (JS E) ⟨j+1,us,rfl,E,rfl,?_,m⟩;grind
 have y:F.length<=j:=vp hf;rw[HV y]at R;have eT:xi i (F.flatMap ZO)=N4 i F:=rfl;rw[eT]at R;have dT:(N4 i F).length=i/\∀v,v<i->((N4 i F).getD v []).length=i:=adh (F.flatMap ZO) _ (BA i);clear y hf hj eT;have sz:=hs.le R.le;have⟨h7,e7,l7,w7,o7⟩:=Tt X (rP i rW)
 have mk:abl pG p 70 i i=Z (sL (Z ⟨p.next,0,Y⟩) i i,p.alloc (.cells (rP i rW))):=Ye (P:=pG) (t:=70) (z:=.slice Y 0 0) p qS38 Ji rfl rfl rfl Ji Mb Ji i NH
 rw[e7]at mk
 have b8:p.own p.next=Y:=(Le.refl p).next X (qL0 _)
 have J:Rows p h7 p.next (rP i rW) (BU i (N4 i F) rows 0 0):=by grind[j8,Rows.start]
 have aA:=R.rl (n:=i) (c:=i) m
 generalize p.next=M at*
 have aB:=fun g=>Jg (P:=pG) (t:=70) (a:=Z M) (n:=i) (cap:=i) qS38 g;have aC:∀v,v<i->aao pG 70 (sL (Z M) i i) (.int .i64 (v:Int))=Z (pT (Z ⟨M,v,Y⟩)):=fun v S=>by rw[Wc qS38 Mb Ji v S];simp[Ip]
 simp only[HO,seval,W,sz.l0,mk,aB];refine lIn (fun k fr G=>∃(v:Nat)(us:xLV),k=i-v/\v<=i/\fr=mkF [(0,pT (Z B)),(3,sL (Z D) i i),(11,sL (Z M) i i),(84,(i:Nat)),(85,(v:Nat))]/\us.length=i/\((v<i/\Rows p G M us (BU i (N4 i F) rows v 0))\/(v=i/\Rows p G M us ((rG i).map (lH (N4 i F) rows))))) ⟨0,_,rfl,Z6 _,rfl,Ma,.inl ⟨aP,J⟩⟩ ?_;clear J mk o7 w7 l7 e7;clear h7;rintro k fr G ae ⟨v,H,rfl,S,rfl,r,bz⟩;refine Uy ?_;refine Kl.intro (fun A=>?_) (fun hf=>?_)
 .have I:v<i:=acb A;clear A;have J:Rows p G M H (BU i (N4 i F) rows v 0):=hGr;clear bz;have ai:v<rows.length:=hGr;have bA:rows.getD v []=rows[v]:=D4 ai;have bB:=hb.NS v ai;have⟨bu,bF,N⟩:=hb.Wm v ai;rw[<-bA]at N;have⟨aD,b9⟩:=h0 v I;have aE:=aT v I;have bH:=fun g=>N.TA g;have aF:=N.DH 0 aD;have O:=R.le.trans J.le;have aj:=(N.le Nn.RP O).Uc 0 aD;have g0:(rows.getD v [])[0]=itI ((N4 i F).getD v []) 0 ((rows.getD v []).getD 0 0):=by
   show _=(rows.getD v []).getD 0 0;grind[D4]
  rw[g0]at aj;simp only[Gg]at aF;have sy:=hs.le O;have al:v<(N4 i F).length:=hGr;have bI:=aA.NS v al;have⟨tu,bN,aq⟩:=aA.Wm v al;have bQ:(N4 i F)[v]=(N4 i F).getD v []:=(D4 al).symm;rw[bQ]at aq;have aH:=dT.2 v I;simp only[HO,seval,aV,sy.l1,bB,bF G O,aF,aj,bH];refine lIn (fun k fr hx=>∃(q:Nat)(us:xLV),k=(rows.getD v []).length-q/\q<=(rows.getD v []).length/\fr=mkF [(0,pT (Z B)),(3,sL (Z D) i i),(11,sL (Z M) i i),(12,(v:Nat)),(13,.int .i64 (itI ((N4 i F).getD v []) q ((rows.getD v []).getD 0 0))),(84,(i:Nat)),(85,(v:Nat)),(104,((rows.getD v []).length:Nat)),(105,(q:Nat))]/\us.length=i/\Rows p hx M us (BU i (N4 i F) rows v q)) ⟨0,H,rfl,Z6 _,rfl,r,J⟩ ?_;clear J r ae sy aj O;clear H G;rintro k fr hx bT ⟨q,H,rfl,s,rfl,r,J⟩;refine Uy ?_;refine Kl.intro (fun A=>?_) (fun hf=>?_)
  .have aJ:q<(rows.getD v []).length:=acb A;clear A;have⟨w,aK,ew⟩:=aE q s;have eN:itI ((N4 i F).getD v []) (q+1) ((rows.getD v []).getD 0 0)=((N4 i F).getD v []).getD w 0:=by grind[itI,Int.toNat_natCast]
   have⟨uo,un,h9,cc,bW,k1,k2,k3,k4,k5,k6,k7,R3,cd,kk⟩:=J.push bT (rowsR_at i (N4 i F) rows v q) (itI ((N4 i F).getD v []) q ((rows.getD v []).getD 0 0)) hGr;rw[rowsR_set]at R3;have bY:aaC pG hx 47 ⟨M,v,Y⟩=Z uo:=by rw[Fq Mb rfl J.oL];exact k1
   have bZ:=aq.DH w (by rw[aH];exact aK);have aL:=(aq.le Nn.RP R3.le).Uc w (by rw[aH];exact aK);have b0:((N4 i F).getD v [])[w]'(by grind)=((N4 i F).getD v []).getD w 0:=(D4 _).symm
   rw[b0,<-eN]at aL;rw[ew]at k2
   have b1:aas pG hx 47 1 [(0,w)]=Z (sL (Z ⟨hx.next,0,Y⟩) 1 1,h9):=by rw[DQ,k2]
   refine Sk (rk (aC v I) bY ew b1 k3 k4 bI (bN bW R3.le) bZ aL (aaa q NH)) ?_;exact lgA (JS aJ) ⟨q+1,_,rfl,aJ,rfl,hGr,R3⟩
  .have y:(rows.getD v []).length<=q:=vp hf;obtain rfl:q=(rows.getD v []).length:=NH;refine Sk (aaa v NH) ?_;refine lgA (JS I) ⟨v+1,H,rfl,I,rfl,r,?_⟩;by_cases c:v+1<i
   .grind[Ow]
   grind[iP]
 have y:i<=v:=vp hf;have J:Rows p G M H ((rG i).map (lH (N4 i F) rows)):=hGr;refine Uy ?_;exact⟨J.rl r,R.le.trans J.le⟩
variable {F:Cs} {ps web:List Pr}
def Xy(fr:Pr->Nat->Int)(r:Nat×Pr×xLP):Int×xLP:=(fr r.2.1 r.1,r.2.2)
theorem Ij{es web:xLP}{fr fr':Pr->Nat->Int}(h:∀(j d:Nat) e e',es[j]?=Z e->es[d]?=Z e'->e∉web->e'∉web->(fr e j=fr e' d↔fr' e j=fr' e' d)){i:Nat}{p:Pr}(f:es[i]?=Z p)(hw:p∉web):
  ∀rs:List (Nat×Pr×xLP),(∀r∈rs,es[r.1]?=Z r.2.1/\r.2.1∉web)->∃a:List (Nat×Pr×xLP),(∀r∈a,es[r.1]?=Z r.2.1/\r.2.1∉web)/\ab4 (rs.map (Xy fr)) (fr p i) p=a.map (Xy fr)/\ab4 (rs.map (Xy fr')) (fr' p i) p=a.map (Xy fr')
 |[],_=>⟨[(i,p,[p])],hGr,rfl,rfl⟩
 |r::rs,g=>by
  have⟨k,h2⟩:=g r Ma;have key:=h r.1 i r.2.1 p k f h2 hw;by_cases c:fr r.2.1 r.1=fr p i
  .have c':=key.1 c;refine⟨(r.1,r.2.1,r.2.2++[p])::rs,fun q b=>?_,?_,?_⟩
   .rcases Og.1 b with rfl|b
    .grind
    grind
   .grind[Xy.eq_1,ab4.eq_2]
   grind[Xy.eq_1,ab4.eq_2]
  .have c':¬fr' r.2.1 r.1=fr' p i:=fun q=>c (key.2 q);have⟨a,k1,k2,l⟩:=Ij h f hw rs fun q b=>g q (by simp[b]);refine⟨r::a,fun q b=>?_,?_,?_⟩
   .rcases Og.1 b with rfl|b
    .grind
    grind
   .grind[Xy.eq_1,ab4.eq_2]
   grind[Xy.eq_1,ab4.eq_2]
theorem aeR{es web:xLP}{fr fr':Pr->Nat->Int}(h:∀(j a:Nat) e e',es[j]?=Z e->es[a]?=Z e'->e∉web->e'∉web->(fr e j=fr e' a↔fr' e j=fr' e' a)):
  ∀i:Nat,∃rs:List (Nat×Pr×xLP),(∀r∈rs,es[r.1]?=Z r.2.1/\r.2.1∉web)/\aaX fr es web i=rs.map (Xy fr)/\aaX fr' es web i=rs.map (Xy fr')
 |0=>⟨[],Ma,rfl,rfl⟩
 |i+1=>by
  have⟨rs,b,h2,h3⟩:=aeR h i;cases c:es[i]? with
  |none=>grind[aaX]
  |some p=>
   by_cases w:p∈web
   .grind[JJ]
   .rw[dh c w,dh c w,h2,h3];exact Ij h c w rs b
def frag_tog{L b:RZ}(hR:InR n es)(nd:es.Nodup)(f:wx n (fun u=>(Cb n web).getD u fF) es L)(c:wx n (fun u=>(Cb n web).getD u fF) es b):LJ n es web L=LJ n es web b:=by
 obtain⟨rs,-,h2,h3⟩:=aeR (es:=es) (web:=web) (fr:=Zo n (fun u=>(Cb n web).getD u fF) L) (fr':=Zo n (fun u=>(Cb n web).getD u fF) b)
  (fun j g e e' d a _ _=>(K2 hR nd f d a).trans (K2 hR nd c d a).symm) es.length
 unfold LJ;rw[h2,h3,KG,KG];rfl
theorem circ_hit(p:bX ⟨(n:Int),es⟩)(q:zW n es){r:Nat->II}(G:abK n r F)(s:∀x y,y∈r x↔y∈eN n es x):
  ∀v,v<n->∀k,k<=((Zh n es).getD v []).length->∃u:Nat,u<n/\itI ((N4 n F).getD v []) k (((Zh n es).getD v []).getD 0 0)=(u:Int):=by
 have hR:=p.GD;have m:∀f∈F,f.Nodup:=G.O.nd;let a:Nat->Nat->Nat:=fun v u=>nx (r v) u;have b:∀t∈F.flatMap ZO,t.1<n/\t.2.1<n/\t.2.2=a t.1 t.2.1:=fun t z=>by have⟨f,hf,h⟩:=uu.1 z;have⟨o,h2,h3⟩:=vh (m f hf) h;have⟨D,E,H⟩:=G.O.pv hf o;have hi:=G.O.akH G.Rl hf o;refine⟨G.Rl.lt _ _ hi,by rw[h2];exact G.Rl.lt _ _ (G.Rl.sy _ _ hi),?_⟩;grind
 obtain⟨-,A⟩:=Vx (F.flatMap ZO) _ (BA n) b;have d:∀v u,u∈r v->MC (N4 n F) v u=(a v u:Int):=fun v u i=>by
  refine A v u (.inr ?_);have⟨f,hf,B,e⟩:=G.O.cover u v (G.Rl.sy _ _ i);have j:v∈f:=by grind[ZP]
  refine⟨_,uu.2 ⟨f,hf,aoZ (m f hf) j⟩,rfl,?_⟩;grind[c7]
 intro v j k _;have⟨w,hw⟩:=q.ne hR j;have⟨u,c,e⟩:=eR ((aU hR).2 ⟨w,hw⟩);have hb:=(qG n es).back hR v;have i:u∈r v:=(s v u).2 (by rw[e];simp);have C:(Zh n es).getD v []=(u:Int)::kz c:=by rw[<-hb];show(eN n es v).map _=_;rw[e];rfl
 rw[C];have⟨k1,k2⟩:=HN (T:=(N4 n F).getD v []) (g:=a v) (P:=fun x=>x∈r v) (fun x l=>d v x l) (fun x l=>ZP l) i k;exact⟨it (a v) k u,G.Rl.lt _ _ (G.Rl.sy _ _ k2),hGr⟩
abbrev BP:=Fin 1000×Fin 1000
def qf(x:BP):Pr:=((x.1.1:Int),(x.2.1:Int))
def zM(x y:BP):Int:=if(x.1.1:Int)=(y.1.1:Int)then(x.2.1:Int)-(y.2.1:Int)else(x.1.1:Int)-(y.1.1:Int)
theorem Z9(x y:BP):Go.Proofs.ltOf zM x y=ltP (qf x) (qf y):=by rw[TV,XW];unfold Go.Proofs.ltOf zM qf;grind
theorem prB_inj{x y:BP}(h:qf x=qf y):x=y:=by grind[qf]
theorem swoB:Go.Sort.SWO (Go.Proofs.ltOf zM):=by
 refine⟨fun x=>?_,fun x y z a h2=>?_,fun x y z a h2=>?_⟩
 .grind[Z9,Nc]
 all_goals grind[Z9,Nc]
theorem ao5(xs:List BP):Go.Sort.flatK (fun x=>xM (qf x)) 2 xs.toArray=(Iu (xs.map qf)).toArray:=by
 rw[<-flatK_P];apply Array.ext
 .simp
 .intro i a h2;have b:i<xs.length*2:=by simpa using a
  have hi:i / 2<xs.length:=NH;simp only[Go.Sort.flatK,Array.getElem_map,Array.getElem_range];grind
def subB(a b:Fin 1000):aaY .i64 ((a.1:Int)-(b.1:Int))=(a.1:Int)-(b.1:Int):=ie _ NH NH
theorem X8(f:abw)(x y:BP)(h:aai):AC pG f 87 [UI (qf x),UI (qf y)] h fun v h'=>v=.int .i64 (zM x y)/\Le h h':=by
 refine AC.vF func87 ntmps87 results87 fun e=>?_;have⟨g,i,l1,w1,j⟩:=Tt e (xM (qf x));have⟨h2,k,l2,w2,d⟩:=Tt w1 (xM (qf y));have c:=l2.own _ _ j;refine Sk (Yb @Ci i k) ?_
 generalize h.next=a at*
 generalize g.next=b at*
 have s1:aaY .i64 ((qf x).1-(qf y).1)=(qf x).1-(qf y).1:=subB x.1 y.1;have s2:aaY .i64 ((qf x).2-(qf y).2)=(qf x).2-(qf y).2:=subB x.2 y.2;refine Sk (Pj @Dh @Z0 @Ip.eq_1 @Gc (lK c) (HY c) (lK d) (HY d) s1 s2) ?_;refine Kl.intro (fun l=>?_) (fun hf=>?_)
 .refine Sk (Pj @Dh @Z0 @Ip.eq_1 @Gc (lK c) (HY c) (lK d) (HY d) s1 s2) ?_;grind[qf,zM,Le.trans]
 .refine Sk (Pj @Dh @Z0 @Ip.eq_1 @Gc (lK c) (HY c) (lK d) (HY d) s1 s2) ?_;grind[qf,zM,Le.trans]
def bp_of(hb:∀p∈ps,∃a b:Nat,p=((a:Int),(b:Int))/\a<1000/\b<1000):∃xs:List BP,ps=xs.map qf:=by
 induction ps with
 |nil=>exact⟨[],rfl⟩
 |cons p ps c=>have⟨xs,e⟩:=c fun q d=>hb q (by simp[d]);have⟨a,b,f,ha,sZ⟩:=hb p Ma;exact⟨(⟨a,ha⟩,⟨b,sZ⟩)::xs,by rw[e,f];rfl⟩
theorem sortB(xs:List BP):(xs.mergeSort fun x y=>!Go.Proofs.ltOf zM y x).map qf=aa5 (xs.map qf):=by grind[aa5,map_mergeSort,Z9]
theorem CH(u:abw){v:vV}(g:GP h v ps)(z:ps.length<=100000)(hb:∀p∈ps,∃a b:Nat,p=((a:Int),(b:Int))/\a<1000/\b<1000):
  AC pG u 86 [v,.func (.func 87) #[] #[]] h fun x h'=>x=.tuple #[]/\GP h' v (aa5 ps)/\∀f,Le f h->Z2 f v->Le f h':=by
 have A:∀args w,(callFunc 87 args).run pG w=.ok (.enter 87 args) w:=enters_of func87 Ji rfl;have⟨bs,i⟩:=bp_of hb;rcases g.cases z with⟨a,cap,rfl,rfl⟩|⟨id,c,cap,rfl,B,C,j,D,l,o⟩
 .refine(AC.ofNoneF fun a' cap' w=>AnyF.slices_SortFunc_none {Tryz.aa5 with} a' cap' (.func (.func 87) #[] #[]) w).mono ?_;rintro x h' ⟨rfl,rfl⟩;exact⟨rfl,by simpa[aa5]using g,fun f q _=>q⟩
 .have r:bs.length=ps.length:=hGr;have key:=fun(blk off cap':Nat)(w:World) s hb (d:ps.length<=cap')=>
   AnyQ.slices_SortFunc_total (α:=BP) Tryz.aa5 2 Tryz.isAgg37 Tryz.sizeOf37 (fun x=>xM (qf x)) (fun _=>rfl) (fun x v E=>(amj [qf x] v (by simpa[Iu]using E)).2) zM swoB 87 #[] blk off cap' bs.toArray w A
    (fun m os G _ x y=>AC.grown (args:=[UI (qf x),UI (qf y)]) _ ((X8 _ x y _).mono fun _ _ h=>h.1) (fun m=>valP_vrs m (qf x) (qf y))) s hb (by simp;omega)
    (fun x y H h2=>by grind[Z9,Nc,prB_inj])
  refine(AC.ofRowK (k:=2) (xs:=Iu ps) (ys:=Iu (aa5 ps)) B C (Ta _) (by rw[Ta,ZS]) o l D (fun y F=>(amj ps y F).1) (amj _) fun blk off cap' w s hb d=>?_).mono ?_
  .have t:Go.Sort.HoldsK (fun x:BP=>xM (qf x)) 2 w blk off bs.toArray:=by
    unfold Go.Sort.HoldsK;rw[ao5,<-i];exact s
   have k:=key blk off cap' w t hb d;rw[show bs.toArray.size=ps.length by simp[r]]at k;refine k.mono ?_;rintro e w' ⟨rfl,n,os,rfl⟩;refine⟨rfl,n,os,?_⟩;unfold Go.Proofs.sortWorldK Go.Sort.putRowK;rw[ao5,sortB,<-i];rfl
  .rintro x h' ⟨rfl,rfl⟩;refine⟨rfl,?_,fun f q af=>q.put _ (af id rfl)⟩;rw[GP,ZS];refine⟨by rw[Ta,ZS],.inr ⟨id,_,cap,rfl,aai.Y3 _ _ _,?_,j⟩⟩;grind[Ta,ZS]
variable {F1 F2:Cs} {on:List Bool} {v:Value}
theorem AC.side{P:Program}{d:abw}{f:FuncId}{args:xLV}:∀(X:II)(h:aai)(Q:vV->aai->Prop),(∀b∈X,h.own b≠Y)->X.Nodup->AC P d f args (rem X h) Q->
  AC P d f args h fun x h'=>∃g,Q x g/\Le g h'/\∀b∈X,g.own b=Y/\h'.own b=h.own b
 |[],h,Q,_,_,q=>q.mono fun x h' i=>⟨h',i,Le.refl _,fun b hb=>by cases hb⟩
 |a::l,h,Q,e,nd,q=>by
  have q:AC P d f args ((rem l h).kill a) Q:=q;have j:∀b∈l,h.own b≠Y:=fun b hb=>e b (by simp[hb]);have⟨k,nl⟩:=VU.1 nd;have⟨o,m⟩:=N8.1 (e a Ma);have c:(rem l h).own a=Z o:=by grind[DC]
  refine(AC.side l h _ j nl (AC.frame c q)).mono ?_;grind[Le.Y5,Le.trans,Le.own,aai.Y3,aai.By]
theorem ShS.ndX(S:ShS g h B O n rows bv fv iv lv us ws cs on F1 F2 left):(B::O::(bl fv++bl iv++bl lv)).Nodup:=by
 have d:=S.sep.TE;have n1:=S.nb fv Ma;have c:=S.nb iv Ma;have n3:=S.nb lv Ma;have nd:∀v,(bl v).Nodup:=fun v=>by grind[bl]
 simp only[VU,Og,aax,Zr,j9,not_or];refine⟨⟨S.bO,⟨n1.1,c.1⟩,n3.1⟩,⟨⟨n1.2,c.2⟩,n3.2⟩,⟨nd _,nd _,fun a ha b hb e=>?_⟩,nd _,fun a ha b hb e=>?_⟩
 .subst e;exact d 0 1 fv iv a NH rfl rfl ha hb
 .subst e;rcases ha with ha|ha
  .exact d 0 2 fv lv a NH rfl rfl ha hb
  .exact d 1 2 iv lv a NH rfl rfl ha hb
theorem ShS.side{i:abw}{P:Program}{g h:aai}{B O n:Nat}{rows:AM}{bv c d e:vV}{us ws cs:xLV}{on:List Bool}{j m:Cs}{left:List wW}(S:ShS g h B O n rows bv c d e us ws cs on j m left){f:FuncId}{args:xLV}{Q:vV->aai->Prop}(q:AC P i f args (Hg h B O c d e) fun x a=>Le (Hg h B O c d e) a/\Q x a):
  AC P i f args h fun x h'=>∃a,Q x a/\ShS a h' B O n rows bv c d e us ws cs on j m left/\Le h h'/\Le (Hg h B O c d e) a/\Le a h':=by
 refine(AC.side _ h _ (fun b hb=>(S.own (HX.1 hb)).2) S.ndX q).mono ?_;rintro x h' ⟨a,⟨l1,p⟩,l2,k⟩;have l:Le h h':=⟨by have:=(l1.trans l2).ext;rw[this];exact vL _,fun b o r=>by grind[Le.own,Hg,DC]⟩;have⟨s,l3⟩:=S.reg;grind[ShS.up,ShS.ground,HX]
def okc(k:Nat)(v:vV):Prop:=∃a n c,v=.slice a n c/\((n<=c/\c<UNK)\/(c=UNK+k/\a.isSome=tT))
def GS.okc{k n:Nat}{h:aai}{v:vV}{cs:xLV}(g:GS k h v n cs):okc k v:=by
 obtain⟨-,⟨rfl,b⟩|⟨id,c,cap,rfl,d,e,rfl|⟨rfl,a⟩⟩⟩:=g
 .exact⟨Y,0,0,rfl,.inl ⟨qL0 _,WY⟩⟩
 .exact⟨_,_,_,rfl,.inr ⟨rfl,rfl⟩⟩
 .exact⟨_,_,_,rfl,.inl ⟨qL0 _,V9 a WY⟩⟩
theorem CS.drop{k n i:Nat}{h:aai}{a:Addr}{c c':Nat}{cs:xLV}(r:CS k h (sL (Z a) n c) n cs)(hi:i<=n):CS k h (sL (Z (Ip a (i*k))) (n-i) c') (n-i) (cs.drop (i*k)):=by refine⟨⟨_,_,rfl,fun _=>rfl⟩,by grind[CS.len,Nat.sub_mul],fun j x b=>?_⟩;rw[b7]at b;have:=r.get _ x b;grind[fA,Ub]
theorem PR.cut(r:PR h v ps)(o:okc 2 v)(hi:i<=ps.length):∃v',abf pG 22 v (Z (.int .i64 i)) Y Y=Z v'/\PR h v' (ps.drop i)/\okc 2 v':=by
 have n1:(0:Int)<=i:=NH;have k:(i:Int)<=ps.length:=NH;have⟨l,d,m,hs⟩:=r.sl;have⟨a,n,c,e,f⟩:=o;rw[m]at e;injection e with p s e3;subst p s e3 m;rcases f with⟨t,h2⟩|⟨rfl,h2⟩
 .have b:¬UNK<=d:=Bc.2 h2;by_cases q:d=i
  .have:i=ps.length:=NH;subst q this;refine⟨.slice l 0 0,?_,?_⟩
   .simp[abf,AV,qS7,WE,abm,abL,n1,b]
   .rw[qL177 (qL0 _)];exact⟨⟨⟨_,_,rfl,Ma⟩,rfl,fun j x g=>by cases g⟩,⟨_,_,_,rfl,.inl ⟨qL0 _,WY⟩⟩⟩
  .cases l with
   |none=>
    have u:ps.length=0:=hGr;obtain rfl:ps=[]:=ak3.1 u;refine⟨.slice Y 0 (d-i),?_,?_⟩
    .have:i=0:=hGr;subst this;simp[abf,AV,qS7,WE,abm,abL,b]
    .rw[drop_nil];exact⟨⟨⟨_,_,rfl,Ma⟩,rfl,fun j x g=>by cases g⟩,⟨_,_,_,rfl,.inl ⟨Z6 _,NH⟩⟩⟩
   |some a=>
    refine⟨sL (Z (Ip a (i*2))) (ps.length-i) (d-i),?_,?_⟩
    .simp[abf,AV,qS7,WE,abm,abL,n1,k,b,t,q]
    .have:=CS.drop (c':=d-i) r hi;rw[<-za]at this;exact⟨by grind[PR.eq_1],⟨_,_,_,rfl,.inl ⟨NH,NH⟩⟩⟩
 .obtain⟨a,rfl⟩:=abV.1 h2;refine⟨sL (Z (Ip a (i*2))) (ps.length-i) (UNK+2),?_,?_⟩
  .simp[abf,AV,qS7,WE,abm,abL,n1,k]
  .have:=CS.drop (c':=UNK+2) r hi;rw[<-za]at this;exact⟨by grind[PR.eq_1],⟨_,_,_,rfl,.inr ⟨rfl,rfl⟩⟩⟩
theorem DA(g:abw)(v:vV)(ps:xLP)(h:aai)(e:PR h v ps)(p:ps.length<=100000):AC pG g 17 [v] h fun x h'=>GP h' x ps/\Le h h'/\Z2 h x:=by
 obtain⟨a,c,rfl,hs⟩:=e.sl;refine AC.vF qS33 ntmps17 results17 fun d=>?_;cases a with
 |none=>
  have i:ps=[]:=by
   cases ps<;>grind
  subst i;simp only[HO,seval,aEq,AV,qL201];exact⟨GP.nil _,Le.refl _,fun b hb=>by grind[blk]⟩
 |some a=>
  have⟨f,j,l1,w1,k⟩:=Tt d []
  have mk:aas pG h 22 0 []=Z (sL (Z h.next) 0 0,f):=by rw[<-j];rfl
  have q:h.own h.next=Y:=(Le.refl h).next d (qL0 _)
  have l:GP f (sL (Z h.next) 0 0) []:=GS.full k rfl WY
  have m:Z2 h (sL (Z h.next) 0 0):=fun b hb=>by injection hb with hb;grind
  obtain⟨r,s,n,t,u,o,-⟩:=GP.join l w1 (e.le l1) (by simp;omega);have⟨l6,w⟩:=o h l1 m;simp only[HO,seval,aEq,AV,Ex,mk,n];grind
theorem bX.tail{n:Int}(a:bX ⟨n,es⟩):bX ⟨n,es.drop 1⟩:=by
 refine⟨a.n0,a.n1,?_,fun i hi p b=>?_⟩
 .have:=a.len;grind
 .simp only[aeP]at hi;simp only[b7]at b ⊢;have⟨c,h2⟩:=a.ok (1+i) hGr p b;grind
end
end Go.Fw
