/- A text. -/
import Derived.Test.YtnakkbhjoiheoaaGreatFwLJ13
set_option linter.all false
set_option maxRecDepth 99999
set_option maxHeartbeats 9999999
open Go.Proofs
open Option renaming some→Z,none→Y
open Bool renaming true→tT,false→fF
open Go.Value renaming slice→sL,pointer→pT
open Go renaming Value→vV
open Go.Proofs.Tryz renaming prog→pG
open Go.Proofs.Tryz
namespace Go.Fw
section
attribute [local instance] Classical.propDecidable
attribute [local irreducible] Kp MQ lU KO1 KO KN KX KE VK Kl ZJ TC aab
variable {B O a b c i n:Nat} {bv fv iv lv:Value} {cs us ws:List Value} {es:List Pr} {g h h':aai} {left:List wW} {rows:AM}
theorem Jd(hi:i<left.length):LF left i=left[i].fits.length:=by grind[LF]
theorem refit_set{a:List wW}{φ:wW->wW}{q c:wW}(hi:i<a.length)(b:a.drop i=q::a.drop (i+1)):((a.take i).map φ++a.drop i).set i c=(a.take i).map φ++c::a.drop (i+1):=by have d:((a.take i).map φ).length=i:=hGr;rw[b,Fu _ _ NH,d,ahe];rfl
def Xi(h:a<=b)(h2:b<=c+2)(h3:c<=594):a<=100000:=NH
def ig(h:a<=b)(h2:b<=c+2)(h3:c<=594):a+1<=100000:=NH
def sr(h:a<=n)(h2:(n:Int)<=200):a<=100000:=NH
theorem app_b{α β:Type}{L:List β}{ps:List α}{φ:α->β}(h:L.length<=594)(h2:ps.length<=594)(i:Nat):(L++(ps.take i).map φ).length<=100000:=hGr
theorem le_4(h:a<=n)(h2:(n:Int)<=200):a<=40000:=NH
theorem ShS.other{on:List Bool}{d e:Cs}(S:ShS g h B O n rows bv fv iv lv us ws cs on d e left)(l:Le g h')(c:∀z o,InS B O fv iv lv z->h.own z=Z o->h'.own z=Z o):ShS g h' B O n rows bv fv iv lv us ws cs on d e left:=
 {S with
  f:=⟨c _ _ (.inl rfl) S.f.o⟩
  oO:=c _ _ (.inr (.inl rfl)) S.oO
  gF:=GS.kept S.gF fun b o hb a=>c b o (.inr hGr) a
  gI:=GS.kept S.gI fun b o hb a=>c b o (.inr hGr) a
  gL:=GS.kept S.gL fun b o hb a=>c b o (.inr hGr) a
  sep:=⟨S.sep.TE,fun i u b j hb=>by obtain⟨o,a⟩:=VU.1 (S.sep.own i u b j hb);rw[c b o (.inr (by grind[List.mem_of_getElem?])) a];simp,S.sep.ap,l⟩}
theorem lay_any(W0:LA){H:Nat->Nat->Prop}{m:ShM}(S:ShS g h B O n (Zh n es) bv fv iv lv us ws cs m.on m.Jv m.Jv m.left)(hr:bX ⟨(n:Int),es⟩)(D:QG (eN n es))(I:Z8 n es H m)(eI:m.left≠[]):
  AC pG W0 88 [pT (Z B)] h fun x h'=>∃g',Le g g'/\Le g' h'/\((AU n (Zh n es) m=Y/\x=.bool fF)\/∃bb eM eO eP eQ eS eT,AU n (Zh n es) m=Z bb/\x=.bool tT/\ShS g' h' B O n (Zh n es) bv eM eO eP eQ eS eT bb.on bb.Jv bb.Jv bb.left):=by
 have hR:=hr.GD;have hA:=hr.q9;have bg:(n:Int)<=200:=hr.n1;have U:es.length<=594:=hr.len;have hD:=I.Vw;have aL:=I.My;have dk:0<m.left.length:=dU.2 eI;refine AC.vE ⟨func88,rfl,WY⟩ ntmps88 results88 fun hE=>?_;simp only[Br,seval];have J:=sB B 5 NH;have eU:=sB B 3 NH;have eV:=sB B 2 NH;have bh:=fun k hk=>S.gL.ad3 (k:=k) hk;have eL:=fun k r (hk:k<m.left.length)=>eA3 (k:=k) (r:=r) S.gL hk;have ck:∀k (hk:k<m.left.length),∃c,aaC pG h 28 (aaq lv (k*3+2))=Z c/\∀g',aeh pG g' 28 c=Z (.int .i64 (m.left[k].fits.length:Nat)):=fun k hk=>by obtain⟨a,b,c,q1,q2,q3,q4,q5,q6⟩:=S.at_ hk;refine⟨c,by rw[Bj Mb rfl];exact S.gL.cs.get _ _ q3,fun g'=>?_⟩;have:=q6.DH g';rwa[y6]at this
 refine sFa (adG J S.f.l5 S.lenL) ?_;refine aab.intro (fun k fr X=>∃i:Nat,k=m.left.length-i/\i<=m.left.length/\fr=mkF [(0,pT (Z B)),(3,(abx m.left i:Nat)),(20,(m.left.length:Nat)),(21,(i:Nat))]/\X=h)
  m.left.length [(0,pT (Z B)),(3,(0:Nat)),(20,(m.left.length:Nat)),(21,(0:Nat))] fD ⟨0,rfl,abe _,rfl,rfl⟩ ?_
 rintro k fr X aN ⟨i,rfl,hi,rfl,rfl⟩;refine sSs ?_;refine Kl.intro (fun ht=>?_) (fun hf=>?_)
 .have s:i<m.left.length:=CC ht;clear ht;have F:abx m.left i<m.left.length:=by
   have:=(EY m.left i).1;rcases Nat.eq_zero_or_pos i with rfl|h
   .exact dk
   grind
  obtain⟨c1,q1,q2⟩:=ck i s;obtain⟨c2,q3,q4⟩:=ck _ F;have aw:=aaa i NH;have e1:=Jd s;have e2:=Jd F;refine sSs ?_;refine gh (tA [0,1,2,3,4,5,6,7,8,9,10,11,12,13,14,15,16,17,18] .done) ?_;by_cases c:m.left[i].fits.length<(m.left[abx m.left i]).fits.length
  .have d:decide (((m.left[i].fits.length:Nat):Int)<(((m.left[abx m.left i]).fits.length:Nat):Int))=tT:=qL7 NH;have eb:abx m.left (i+1)=i:=by grind[abx.eq_2]
   simp only[HO,seval,Qg,J,S.f.l5,bh i s,bh _ F,pf2,eL i 2 s,eL _ 2 F,q1,q2,q3,q4,d,aw];exact tn (m.left.length-(i+1)) [(0,pT (Z B)),(3,(i:Nat)),(20,(m.left.length:Nat)),(21,(i+1:Nat))] (JS s) fD ⟨i+1,rfl,s,by rw[eb];rfl,rfl⟩
  .have d:decide (((m.left[i].fits.length:Nat):Int)<(((m.left[abx m.left i]).fits.length:Nat):Int))=fF:=WA NH;have eb:abx m.left (i+1)=abx m.left i:=by grind[abx.eq_2]
   simp only[HO,seval,Qg,J,S.f.l5,bh i s,bh _ F,pf2,eL i 2 s,eL _ 2 F,q1,q2,q3,q4,d,aw];exact tn (m.left.length-(i+1)) [(0,pT (Z B)),(3,(abx m.left i:Nat)),(20,(m.left.length:Nat)),(21,(i+1:Nat))] (JS s) fD ⟨i+1,rfl,s,by rw[eb];rfl,rfl⟩
 have aa:m.left.length<=i:=vp hf;obtain rfl:i=m.left.length:=NH;clear aa hf hi ck;have F:=(EY m.left m.left.length).1 dk
 have b6:AU n (Zh n es) m=if(m.left.getD (abx m.left m.left.length) default).fits.length=0 then Y else
   if(J6 n (Zh n es) m.on (m.left.getD (abx m.left m.left.length) default)).length<2 then Y else
   Z ⟨tV m.on (J6 n (Zh n es) m.on (m.left.getD (abx m.left m.left.length) default)),kY m.Jv ((m.left.getD (abx m.left m.left.length) default).fits.headD 0) (J6 n (Zh n es) m.on (m.left.getD (abx m.left m.left.length) default)),
    (m.left.eraseIdx (abx m.left m.left.length)).map (GF (kY m.Jv ((m.left.getD (abx m.left m.left.length) default).fits.headD 0) (J6 n (Zh n es) m.on (m.left.getD (abx m.left m.left.length) default))) ((m.left.getD (abx m.left m.left.length) default).fits.headD 0) m.Jv.length)++
    (vX n (tV m.on (J6 n (Zh n es) m.on (m.left.getD (abx m.left m.left.length) default))) (V8 n (m.left.getD (abx m.left m.left.length) default).zp (J6 n (Zh n es) m.on (m.left.getD (abx m.left m.left.length) default)))).map fun q=>{q with fits:=zh (kY m.Jv ((m.left.getD (abx m.left m.left.length) default).fits.headD 0) (J6 n (Zh n es) m.on (m.left.getD (abx m.left m.left.length) default))) q.Fm ((m.left.getD (abx m.left m.left.length) default).fits++[m.Jv.length])}⟩:=rfl
 rw[b6];clear b6;obtain⟨a,b,c,q1,q2,q3,q4,q5,q6⟩:=S.at_ F;have eW:=S.gL.load3 F q1 q2 q3;have eX:=bh _ F;have ae:m.left[abx m.left m.left.length]∈m.left:=aev F;have eZ:m.left.getD (abx m.left m.left.length) default=m.left[abx m.left m.left.length]:=D4 F;rw[eZ];generalize e0:abx m.left m.left.length=M at*;generalize hp:m.left[M]=p at*;obtain⟨h1,h2,e1,e2,l2,w2,oP,-⟩:=Od aN q4.sl.one q5.one q6.one;obtain⟨S2,b2⟩:=(S.up l2).pV
 have hF:∀z,InS B O fv iv lv z->z≠X.next:=fun z hz e=>by
  have:=(S.own hz).2;rw[e]at this
  exact this ((Le.refl X).next aN (qL0 _))
 have gP:(Hg h2 B O fv iv lv).own X.next=Z (.cells [a,b,c]):=by grind[Hg,Th,HX]
 generalize X.next=P at*
 have e6:=pB P 0 NH;have hG:=pB P 1 NH;have cp:=pB P 2 NH;have lc:=fun g'=>q6.DH g';rw[y6]at lc;simp only[HO,seval,J,S.f.l5,eX,eW,e1,e2,cp,lP2 oP,lc];by_cases c0:p.fits.length=0
 .have d0:decide (((p.fits.length:Nat):Int)=0)=tT:=qL7 NH;refine sFa (XC @ag6 d0) ?_;grind[ShS.le]
 have d0:decide (((p.fits.length:Nat):Int)=0)=fF:=WA NH;rw[yM c0];have dm:p.fits.headD 0∈p.fits:=by grind[Lt]
 obtain⟨e7,wh,cq,b3,hI⟩:=I.way_face hR hA D ae dm;rw[yM NH];have dp:=((I.Aa p ae).fits _).1 dm;have cx:aV n p.zp:=fun e he=>hR e ((I.Aa p ae).sub.subset he);have hJ:=I.edges_len ae;have hK:=I.UO hR ae;have dq:=I.Xg ae;have fb:=I.abJ hR ae;have dv:=q4.le b2;have fc:=q5.le Nn.RP b2;have dy:=q6.le Nn.RP b2;refine sFa (adG @ag6 d0 (OU oP)) ?_;refine kCi func132 (way_any W0 B n bv _ fv iv lv a b c es m.on p h2 S2.f (S2.cB.le (Nn.RL Nn.RP) S2.le) S2.rlO S2.ZA (dv.le S2.le) (fc.le Nn.RP S2.le) q6.one hR cx fb NH NH NH NH) ?_;rintro wv h3 w3 ⟨gw,l3,aw3⟩;obtain⟨S3,bk⟩:=(S2.up l3).pV;have dz:GI (Hg h3 B O fv iv lv) wv (kz (J6 n (Zh n es) m.on p)):=Pv (h:=h3) S2 gw aw3;have dA:=bk.own _ _ gP;have hL:∀x∈J6 n (Zh n es) m.on p,x<n:=b3;obtain⟨fe,hM⟩:=I.face_lt dp.1;have hN:=zh;generalize dB:J6 n (Zh n es) m.on p=way at*;have lw:=fun g'=>gw.rl.DH g';rw[y6]at lw;have dw:decide (((way.length:Nat):Int)<2)=fF:=WA NH;have fg:aaY .i64 ((M:Int)+1)=((M+1:Nat):Int):=by grind[aaa]
 simp only[HO,seval,lw,dw,J,S3.f.l5,fg];refine kCi func133 (afs W0 S3.gL S3.cuL S3.c1 F NH) ?_;rintro w h4 w4 ⟨gd,fh,fi,fk,fm⟩;obtain⟨h5,e5,S5,w5⟩:=S3.delL w4 F gd fh fi fk fm;have l5g:=S5.le;have fp:=l5g.own _ _ dA;have fq:=(dy.le Nn.RP bk).le Nn.RP l5g;have dE:=q6.TA 0 (by rw[y6];omega);have dF:=fq.Uc 0 (by rw[y6];omega);have t0:0<p.fits.length:=NH;rw[sY t0,<-headN0 t0]at dF;simp only[aku]at dE;generalize hP:p.fits.headD 0=f at*;generalize hQ:(cs.take (M*3)++cs.drop ((M+1)*3))=fs at*;refine sFa (XC J e5) ?_;refine gh (tA [0,1,2,3,4,5,6,7,8,9,10] .done) ?_;refine sFd (ahn cp (lP2 fp) dE dF eU S5.f.l3 S5.LF) ?_;have ft:=Kz W0 S5 (f:=f) (way:=way) dp.1 dz e7 wh cq fe b3 NH NH NH NH;refine kCi func134 ft ?_;rintro x h6 w6 ⟨g6,A,C,bm,bo,S6,cz⟩;have hS:(m.left.eraseIdx M).length=m.left.length-1:=hGr;have cC:∀q∈m.left.eraseIdx M,q∈m.left:=by grind[List.mem_of_mem_eraseIdx]
 generalize hT:m.left.eraseIdx M=K at*;have dH:(kY m.Jv f way).length=m.Jv.length+1:=Yz;generalize hU:kY m.Jv f way=N at*;have hV:=sB B 0 NH;refine sFa (adG J S6.f.l5 S6.lenL) ?_;refine aab.intro (fun k fr hz=>∃(i:Nat)(g7:aai)(br:xLV)(L:List wW),k=K.length-i/\i<=K.length/\fr=mkF [(0,pT (Z B)),(5,pT (Z P)),(6,wv),(7,(f:Nat)),(8,(m.Jv.length:Nat)),(89,w),(90,(K.length:Nat)),(91,(i:Nat))]/\
   ShS g7 hz B O n (Zh n es) bv A C w bm bo br m.on N N L/\Le g6 g7/\L=(K.take i).map (GF N f m.Jv.length)++K.drop i)
  K.length [(0,pT (Z B)),(5,pT (Z P)),(6,wv),(7,(f:Nat)),(8,(m.Jv.length:Nat)),(89,w),(90,(K.length:Nat)),(91,(0:Nat))] fD
  ⟨0,g6,fs,K,rfl,abe _,rfl,S6,Le.refl _,Ma⟩ ?_
 rintro k fr hz cE ⟨i,g7,br,L,rfl,hi,rfl,S7,aP,aT⟩;have dI:L.length=K.length:=by rw[aT,aaf,fj,KG,qL211];omega
 refine sSs ?_;refine Kl.intro (fun ht=>?_) (fun hf=>?_)
 .have s:i<K.length:=CC ht;clear ht;have aW:i<L.length:=NH;have cJ:L[i]=K[i]:=by
   have h1:L[i]?=Z K[i]:=by rw[aT,AE (by rw[fj,KG];omega),fj,KG,af9 NH,ahe,b7,Ki];grind
   grind
  obtain⟨a',b',c',r1,r2,r3,r4,r5,r6⟩:=S7.at_ aW;have cK:=S7.gL.load3 aW r1 r2 r3;have bx:=S7.gL.ad3 aW;have fw:=eA3 (r:=2) S7.gL aW;have dJ:aca pG 168 (pT (Z (aaq w (i*3)))) 2=Z (pT (Z (aaq w (i*3+2)))):=by rw[pf2,fw]
  rw[cJ]at r4 r5 r6;have b4:=cC _ (aev s);have b8:=I.abJ hR b4;have b9:=I.UO hR b4;have aF:=I.Xg b4;have fx:=(I.Aa _ b4).fits;generalize dL:K[i]=q at*;obtain⟨h8,h9,e8,e9,l9,w9,oQ,l8⟩:=Od cE r4.sl.one r5.one r6.one;have S9:=S7.up l9;have aw:=aaa i NH
  have dQ:∀z,InS B O A C w z->z≠hz.next:=fun z G e=>by
   have:=(S7.own G).2;rw[e]at this
   exact this ((Le.refl hz).next cE (qL0 _))
  generalize hz.next=Q at*
  have aq:=pB Q 1 NH;have ag:=pB Q 2 NH;have ar:K.take (i+1)=K.take i++[q]:=by rw[EL s,dL]
  have dM:K.drop i=q::K.drop (i+1):=by rw[Vn s,dL]
  have aH:∀q':wW,L.set i q'=(K.take i).map (GF N f m.Jv.length)++q'::K.drop (i+1):=fun q'=>by rw[aT];exact refit_set s dM
  refine sFa (afN bx cK e8 e9 ag (lP2 oQ)) ?_;refine kCi func77 (W3 W0 c' (kz q.fits) ((f:Nat):Int) h9 (r6.le Nn.RP S9.le) (by rw[y6];omega)) ?_;rintro y aX fy ⟨rfl,rfl⟩;by_cases cm:f∈q.fits
  rotate_left
  .have d:decide (((f:Nat):Int)∈kz q.fits)=fF:=WA fun hm=>cm (by
    obtain⟨z,G,e⟩:=Eh.1 hm;have:z=f:=NH;grind)
   simp only[HO,seval,d,aw];refine tn (K.length-(i+1)) [(0,pT (Z B)),(5,pT (Z P)),(6,wv),(7,(f:Nat)),(8,(m.Jv.length:Nat)),(89,w),(90,(K.length:Nat)),(91,(i+1:Nat))] (JS s) fD
    ⟨i+1,g7,br,L,rfl,s,rfl,S9,aP,?_⟩
   rw[aT,ar,dM,Bx,bC];have:GF N f m.Jv.length q=q:=by unfold GF;grind
   simp[this]
  have d:decide (((f:Nat):Int)∈kz q.fits)=tT:=qL7 (Eh.2 ⟨f,cm,rfl⟩);refine sFa d ?_;have R:∀h',Le aX h'->aaC pG h' 127 ⟨B,5,Y⟩=Z w/\aaC pG h' 28 ⟨Q,1,Y⟩=Z b'/\aaC pG h' 28 ⟨Q,2,Y⟩=Z c':=fun h' l=>⟨(S9.f.le l).l5,lP1 (l.own _ _ oQ),lP2 (l.own _ _ oQ)⟩;obtain⟨cM,cN,cP⟩:=R aX (Le.refl _);have aJ:∀z∈q.fits++[m.Jv.length],z<N.length:=fun z G=>by
   rw[dH];rcases aax.1 G with h|h
   .have:=((fx z).1 h).1;omega
   .have:=xD.1 h;omega
  have aK:kz q.fits++[((m.Jv.length:Nat):Int)]=kz (q.fits++[m.Jv.length]):=by simp[kz]
  obtain⟨ha,ea,la,wa,oa⟩:=Tt fy [((m.Jv.length:Nat):Int)];obtain⟨fC,fJ,fL⟩:=R ha la;refine gh (tA [0,1,2,3,4,5,6,7,8,9,11] (.ch 10 [9] (JQ 12 [11] (JQ 13 [10,12] (JQ 14 [5,7,13] (tA [15,16] (JQ 17 [0,1,2,3,4,5,6,7,8,9,10,11,12,13,14,16] .done))))) (JQ 12 [11] (JQ 10 [9] (JQ 13 [10,12] (JQ 14 [5,7,13] (tA [15,16] (JQ 17 [0,1,2,3,4,5,6,7,8,9,10,11,12,13,14,16] .done)))))))) ?_;simp only[HO,seval,Qg,J,cM,fC,aq,ag,cN,fJ,cP,fL,DQ,ea];refine⟨?_,?_⟩
  .refine kGi qS30 (QY W0 c' (kz q.fits) aX (r6.le Nn.RP S9.le) (by rw[y6];exact Xi aF aL U)) ?_;rintro y sZ wb ⟨gb,lb,ab⟩;obtain⟨bB,bF,bG⟩:=R sZ lb;obtain⟨av,fM,hc,dO,ec,az,wc,fN,cR,fP⟩:=gb.push wb ((m.Jv.length:Nat):Int) (by rw[y6];grind);obtain⟨E,fQ⟩:=cR aX lb ab;rw[aK]at az;obtain⟨dS,dT,dV⟩:=R fM (lb.trans fN);obtain⟨bH,bI,bN⟩:=R hc E;simp only[DQ]at dO;simp only[HO,seval,Qg,J,cM,bB,dS,bH,aq,ag,cN,bF,dT,bI,cP,bG,dV,bN,DQ,dO,ec];obtain⟨fR,fS,fU⟩:=R hc E;refine kGi qS32 (NR W0 B n bv _ A C w b' av N q.Fm (q.fits++[m.Jv.length]) hc (S9.f.le E) (S9.rlI.le (Nn.RL Nn.sJ) E) ((r5.le Nn.RP S9.le).le Nn.RP E) az.rl b8 aJ (sr b9 bg) (by rw[aaf,OM];exact ig aF aL U)) ?_;rintro y hd wd ⟨gy,cU,ay⟩;have bQ:=E.trans cU;obtain⟨cW,cZ,c3⟩:=R hd bQ;obtain⟨Sd,c4⟩:=(S9.up bQ).pV;have c5:GI (Hg hd B O A C w) y (kz (zh N q.Fm (q.fits++[m.Jv.length]))):=Pv (h:=hd) S9 gy (fun b hb=>E.none (ay b hb));obtain⟨he,ee,Se,we⟩:=Sd.setT wd aW c5.rl;rw[cJ]at Se;simp only[HO,seval,Qg,J,aq,ag,cW,cZ,c3,bx,dJ,ee,aw];refine tn (K.length-(i+1)) [(0,pT (Z B)),(5,pT (Z P)),(6,wv),(7,(f:Nat)),(8,(m.Jv.length:Nat)),(89,w),(90,(K.length:Nat)),(91,(i+1:Nat))] (JS s) fD
    ⟨i+1,_,_,_,rfl,s,rfl,Se,aP.trans c4,?_⟩
   rw[aH,ar,Bx,bC];have:GF N f m.Jv.length q={q with fits:=zh N q.Fm (q.fits++[m.Jv.length])}:=by unfold GF;grind
   simp[this]
  .refine kGi qS30 (QY W0 c' (kz q.fits) ha ((r6.le Nn.RP S9.le).le Nn.RP la) (by rw[y6];exact Xi aF aL U)) ?_;rintro y sZ wb ⟨gb,lb,ab⟩;obtain⟨bB,bF,bG⟩:=R sZ (la.trans lb)
   have ro:RL RP sZ (sL (Z aX.next) 1 1) [((m.Jv.length:Nat):Int)]:=RL.Wh (RS.whole (lb.own _ _ oa) rfl)
   obtain⟨av,hc,ec,az,wc,cR,fP⟩:=GI.join gb wb ro (by rw[y6,OM];grind);obtain⟨fV,fQ⟩:=cR ha lb ab;have E:=la.trans fV;rw[aK]at az;obtain⟨bH,bI,bN⟩:=R hc E;refine sFd (ahk J cM bB bH aq ag cN bF bI cP bG bN @DQ ec) ?_;obtain⟨fR,fS,fU⟩:=R hc E;refine kGi qS32 (NR W0 B n bv _ A C w b' av N q.Fm (q.fits++[m.Jv.length]) hc (S9.f.le E) (S9.rlI.le (Nn.RL Nn.sJ) E) ((r5.le Nn.RP S9.le).le Nn.RP E) az.rl b8 aJ (sr b9 bg) (by rw[aaf,OM];exact ig aF aL U)) ?_;rintro y hd wd ⟨gy,cU,ay⟩;have bQ:=E.trans cU;obtain⟨cW,cZ,c3⟩:=R hd bQ;obtain⟨Sd,c4⟩:=(S9.up bQ).pV;have c5:GI (Hg hd B O A C w) y (kz (zh N q.Fm (q.fits++[m.Jv.length]))):=Pv (h:=hd) S9 gy (fun b hb=>E.none (ay b hb));obtain⟨he,ee,Se,we⟩:=Sd.setT wd aW c5.rl;rw[cJ]at Se;simp only[HO,seval,Qg,J,aq,ag,cW,cZ,c3,bx,dJ,ee,aw];refine tn (K.length-(i+1)) [(0,pT (Z B)),(5,pT (Z P)),(6,wv),(7,(f:Nat)),(8,(m.Jv.length:Nat)),(89,w),(90,(K.length:Nat)),(91,(i+1:Nat))] (JS s) fD
    ⟨i+1,_,_,_,rfl,s,rfl,Se,aP.trans c4,?_⟩
   rw[aH,ar,Bx,bC];have:GF N f m.Jv.length q={q with fits:=zh N q.Fm (q.fits++[m.Jv.length])}:=by unfold GF;grind
   simp[this]
 have aa:K.length<=i:=vp hf;obtain rfl:i=K.length:=NH;rw[HV (qL0 _),qL224 (qL0 _),ai4]at aT;clear aa hf hi;have dW:=aP.own _ _ (cz.own _ _ dA);have c6:=dz.le (cz.trans aP);have ed:=fun g'=>c6.rl.DH g';rw[y6]at ed;refine sFa ed ?_;refine aab.intro (fun k fr hy=>∃(i:Nat),k=way.length-i/\i<=way.length/\fr=mkF [(0,pT (Z B)),(5,pT (Z P)),(6,wv),(8,(m.Jv.length:Nat)),(118,wv),(119,(way.length:Nat)),(120,(i:Nat))]/\
   ShS g7 hy B O n (Zh n es) bv A C w bm bo br (tV m.on (way.take i)) N N L)
  way.length [(0,pT (Z B)),(5,pT (Z P)),(6,wv),(8,(m.Jv.length:Nat)),(118,wv),(119,(way.length:Nat)),(120,(0:Nat))] fD
  ⟨0,rfl,abe _,rfl,S7⟩ ?_
 clear S7 cE;clear hz;rintro k fr hy dB ⟨i,rfl,hi,rfl,S8⟩;refine sSs ?_;refine Kl.intro (fun ht=>?_) (fun hf=>?_)
 .have s:i<way.length:=CC ht;clear ht;have gy:=c6.le S8.le;have fW:=gy.rl.TA i (by rw[y6];exact s);have ef:=gy.rl.Uc i (by rw[y6];exact s);rw[sY s]at ef;have hv:=b3 way[i] (aev s);have ar:way.take (i+1)=way.take i++[way[i]]:=EL s;generalize way[i]=v at*;have fY:aao pG 41 (sL (Z O) n n) v=Z (pT (Z ⟨O,v,Y⟩)):=by rw[Wc Uh AV Ji v hv];simp[Ip]
  obtain⟨h9,e9,S9,w9⟩:=S8.setO dB hv;have fZ:(tV m.on (way.take i)).set v tT=tV m.on (way.take (i+1)):=by rw[ar];unfold tV;rw[qL206];rfl
  rw[fZ]at S9;have aw:=aaa i (by grind[le_4]);simp only[HO,seval,fW,ef,eV,S8.f.l2,fY,e9,aw];exact tn (way.length-(i+1)) [(0,pT (Z B)),(5,pT (Z P)),(6,wv),(8,(m.Jv.length:Nat)),(118,wv),(119,(way.length:Nat)),(120,(i+1:Nat))] (JS s) fD ⟨i+1,rfl,s,rfl,S9⟩
 have aa:way.length<=i:=vp hf;rw[HV aa]at S8;clear aa hf hi;have ga:=S8.le.own _ _ dW;have bW:=cz.trans aP;have r6:=((dy.le Nn.RP bk).le Nn.RP bW);have r4:=((dv.le bk).le bW);refine sFa (XC cp (lP2 ga)) ?_;refine kCi qS30 (QY W0 c (kz p.fits) hy (r6.le Nn.RP S8.le) (by rw[y6];exact Xi dq aL U)) ?_;rintro y h9 w9 ⟨g9,l9,a9⟩;obtain⟨av,aX,c9,eg,gg,eh,hW,hX,ei,hC⟩:=g9.push w9 ((m.Jv.length:Nat):Int) (by grind[y6]);obtain⟨ej,gi⟩:=ei hy l9 a9;have aK:kz p.fits++[((m.Jv.length:Nat):Int)]=kz (p.fits++[m.Jv.length]):=by simp[kz]
 rw[aK]at eh;obtain⟨a6,ai⟩:=(S8.up ej).pV;have az:GI (Hg c9 B O A C w) av (kz (p.fits++[m.Jv.length])):=Pv (h:=c9) S8 eh gi;have ek:=ai.own _ _ dW;have en:=a6.le.own _ _ ek;have gj:=c6.le ai;simp only[DQ]at eg;refine sFa (afK @DQ eg gg e6 (lP0 en)) ?_;refine kCi func136 (Bs W0 B n bv _ A C w a wv p.zp way c9 a6.f ((r4.le ai).le a6.le) (gj.le a6.le).rl cx b3 NH NH NH) ?_;rintro y2 gk hY ⟨gl,gn,hZ⟩;obtain⟨aj,bY⟩:=(a6.up gn).pV;have da:(V8 n p.zp way).Sublist p.zp:=N8;have db:aV n (V8 n p.zp way):=fun e he=>cx e (da.subset he);have dc:(V8 n p.zp way).length<=594:=by grind[List.Sublist.length_le]
 generalize h0:V8 n p.zp way=wo at*;refine sSs ?_;refine kCi func135 (Xr W0 B n bv _ A C w y2 (tV m.on way) wo gk aj.f aj.rlO aj.ZA gl.pr db NH NH) ?_;rintro x W gq ⟨vs,OP⟩;obtain⟨eo,bZ⟩:=(aj.up OP.sep.le).pV;have dd:vX n (tV m.on way) wo=(qT (Wg (tV m.on way)) (aaX (frL n (Wg (tV m.on way)) wo) wo [] wo.length)).map fun q=>⟨q.1,q.2,[]⟩:=by unfold vX qT;rw[FD];rfl
 have b5:∀q∈qT (Wg (tV m.on way)) (aaX (frL n (Wg (tV m.on way)) wo) wo [] wo.length),(∀z∈q.2,∃v:Nat,z=(v:Int)/\v<n)/\q.2.length<=n:=fun q X=>by
  obtain⟨gr,gu,rfl⟩:=Eh.1 X;obtain⟨-,-,-,-,ep⟩:=Pt (frL n (Wg (tV m.on way)) wo) wo [] wo.length;have cc:=ep gr gu;refine⟨fun z G=>?_,Qr db cc⟩;obtain⟨_,e,he,h⟩:=zS.1 (((VW _).2 z).1 G);obtain⟨u,v,rfl,h7,ic⟩:=jB db (cc e he);simp only at h;rcases h with rfl|rfl
  .grind
  grind
 have er:(qT (Wg (tV m.on way)) (aaX (frL n (Wg (tV m.on way)) wo) wo [] wo.length)).length<=wo.length:=by unfold qT;rw[fj];exact(Pt _ _ _ _).2.2.2.1
 rw[dd];generalize qT (Wg (tV m.on way)) (aaX (frL n (Wg (tV m.on way)) wo) wo [] wo.length)=ps at*;have gv:=OP.len_;have gx:GS 3 (Hg W B O A C w) x ps.length (abS vs ps.length):=Pv (h:=W) aj OP.sl (OP.sep.ap 0 x rfl);have gz:∀(j:Nat) q,ps[j]?=Z q->GP (Hg W B O A C w) (vs.getD (2*j) rW) q.1/\GI (Hg W B O A C w) (vs.getD (2*j+1) rW) q.2:=fun j q X=>by obtain⟨k1,k2⟩:=OP.ge j q X;have hj:=(Ny.1 X).1;have ih:=OP.len;exact⟨Pv (h:=W) aj k1 (OP.sep.ap _ _ (u6 OP NH)),Pv (h:=W) aj k2 (OP.sep.ap _ _ (u6 OP NH))⟩
 have de:=az.le (bY.trans bZ);have gA:Le g (Hg W B O A C w):=b2.trans (bk.trans (bW.trans (ai.trans (bY.trans bZ))));have aJ:∀z∈p.fits++[m.Jv.length],z<N.length:=fun z G=>by
  rw[dH];rcases aax.1 G with h|h
  .have:=(((I.Aa p ae).fits z).1 h).1;omega
  .have:=xD.1 h;omega
 have dI:L.length<=594:=hGr;clear OP bZ aj bY a6 ai S8;generalize Hg W B O A C w=et at*;refine sFa gv ?_;refine aab.intro (fun k fr X=>∃(i:Nat)(a7:aai)(al:xLV)(T:vV),k=ps.length-i/\i<=ps.length/\fr=mkF [(0,pT (Z B)),(13,av),(143,x),(144,(ps.length:Nat)),(145,(i:Nat))]/\
   ShS a7 X B O n (Zh n es) bv A C T bm bo al (tV m.on way) N N (L++(ps.take i).map fun q=>⟨q.1,q.2,zh N q.2 (p.fits++[m.Jv.length])⟩)/\Le et a7)
  ps.length [(0,pT (Z B)),(13,av),(143,x),(144,(ps.length:Nat)),(145,(0:Nat))] fD
  ⟨0,et,br,w,rfl,abe _,rfl,by simpa using eo,Le.refl _⟩ ?_
 clear eo gq;clear W;rintro k fr X aN ⟨i,a7,al,T,rfl,hi,rfl,aC,V⟩;refine sSs ?_;refine Kl.intro (fun ht=>?_) (fun hf=>?_)
 .have s:i<ps.length:=CC ht;clear ht;have gC:=XJ s;obtain⟨ge,gf⟩:=gz i _ gC;obtain⟨eu,ev⟩:=b5 _ (aev s);have ar:ps.take (i+1)=ps.take i++[ps[i]]:=EL s;generalize ps[i]=q at*;have ew:=gx.le (V.trans aC.le);obtain⟨z1,z2,z3⟩:=aY vs ps.length s;have cK:=ew.load3 s z1 z2 z3;have bx:=ew.ad3 s;have cd:=ge.le V;have b0:=gf.le V;generalize vs.getD (2*i) rW=a' at*;generalize vs.getD (2*i+1) rW=b' at*;obtain⟨ij,gE,gG,gJ,gM,il,oQ,iu⟩:=Od aN (a:=a') (b:=b') (c:=rW) cd.pr.sl.one b0.rl.one rfl;have a8:=aC.up gM
  have dQ:∀z,InS B O A C T z->z≠X.next:=fun z G e=>by
   have:=(aC.own G).2;rw[e]at this
   exact this ((Le.refl X).next aN (qL0 _))
  have ey:a7.own X.next=Y:=aC.le.next aN (qL0 _)
  generalize X.next=Q at*
  have aq:=pB Q 1 NH;have ag:=pB Q 2 NH;have aw:=aaa i (by grind[QJ]);refine sFa (afN bx cK gG gJ aq (lP1 oQ)) ?_;refine kCi qS32 (NR W0 B n bv _ A C T b' av N q.2 (p.fits++[m.Jv.length]) gE a8.f a8.rlI ((b0.le a8.le).rl) (((de.le V).le a8.le).rl) eu aJ (sr ev bg) (by rw[aaf,OM];exact ig dq aL U)) ?_;rintro y aD eA ⟨dg,eB,eC⟩;have cf:=eB.own _ _ oQ;have st:=QB (P:=pG) (t:=28) (x:=y) Mb Ji cf (off:=2) Ma dg.rl.sl.cell dg.rl.one;have aH:([a',b',rW]:xLV).set 2 y=[a',b',y]:=rfl;rw[aH]at st;have cg:(aD.put Q (.cells [a',b',y])).own Q=Z (.cells [a',b',y]):=aai.Y3 _ _ _;have gN:WF (aD.put Q (.cells [a',b',y])):=eA.put _ (eA.lt cf);have gR:blk y≠Z Q:=fun e=>by have:=eC Q e;grind
  have gS:=GS.put dg (fK.cells [a',b',y]) gR;have eD:∀z o,z≠Q->aD.own z=Z o->(aD.put Q (.cells [a',b',y])).own z=Z o:=fun z o G ho=>by rw[aai.By _ _ _ _ G];exact ho
  have eE:=a8.up eB;have gT:ShS a7 (aD.put Q (.cells [a',b',y])) B O n (Zh n es) bv A C T bm bo al (tV m.on way) N N (L++(ps.take i).map fun q=>⟨q.1,q.2,zh N q.2 (p.fits++[m.Jv.length])⟩):=eE.other (eE.le.put _ ey) fun z o G ho=>eD z o (dQ z G) ho;obtain⟨dj,b1⟩:=gT.pV;have gy:GI (Hg (aD.put Q (.cells [a',b',y])) B O A C T) y (kz (zh N q.2 (p.fits++[m.Jv.length]))):=Pv (h:=aD.put Q (.cells [a',b',y])) a8 gS eC;obtain⟨eF,iz,iA,iB,gU,gV,gX,gZ,iD,eG,hl,-⟩:=dj.pushL gN (a:=a') (b:=b') (c:=y) (p:=⟨q.1,q.2,zh N q.2 (p.fits++[m.Jv.length])⟩) ((cd.le b1).pr) ((b0.le b1).rl) gy.rl (app_b dI (EP er dc) i);have hn:=OU cg;have eH:=OU (eG.own _ _ cg);have hx:=dj.f.le eG;simp only[HO,seval,ag,st];refine gh (tA [0,1,2,3,4,5] (JQ 6 [5] (JQ 7 [4,6] (tA [8,9] (JQ 10 [0,1,2,3,4,5,6,7,9] .done))))) ?_;simp only[HO,seval,Qg,J,dj.f.l5,hx.l5,hl.l5,hn,eH,gU,gV,gX,aw];refine tn (ps.length-(i+1)) [(0,pT (Z B)),(13,av),(143,x),(144,(ps.length:Nat)),(145,(i+1:Nat))] (JS s) fD
   ⟨i+1,_,al++[a',b',y],eF,rfl,s,rfl,?_,V.trans b1⟩
  rw[ar,Bx,<-bC];exact gZ
 have aa:ps.length<=i:=vp hf;rw[HV aa]at aC;refine sSs ?_;refine⟨a7,gA.trans V,aC.le,.inr ⟨_,A,C,T,bm,bo,al,rfl,trivial,?_⟩⟩;simp only;rw[<-aT,FD];exact aC
end
end Go.Fw
