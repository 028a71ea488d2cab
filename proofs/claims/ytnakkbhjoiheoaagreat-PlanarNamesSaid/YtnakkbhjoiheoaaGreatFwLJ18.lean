/- A text. -/
import Derived.Test.YtnakkbhjoiheoaaGreatFwLJ13
set_option linter.all false
set_option maxRecDepth 99999
set_option maxHeartbeats 9999999
open Go.Proofs
open Option renaming some→Z,none→Y
open Bool renaming true→tT,false→fF
open List renaming replicate→rP,range→rG
open Go.Value renaming slice→sL,pointer→pT
open Go renaming Value→vV
open Go.Proofs.Tryz renaming prog→pG
open Go.Proofs.Tryz
open List
namespace Go.Fw
section
attribute [local instance] Classical.propDecidable
attribute [local irreducible] Kp MQ lU KO1 KO KN KX KE VK Kl ZJ TC aab
variable {B O a b c i n:Nat} {bv fv iv lv:Value} {cs us ws:List Value} {es:List Pr} {g h h':aai} {left:List wW} {rows:AM}
theorem lenF_at(hi:i<left.length):LF left i=left[i].fits.length:=by grind[LF]
theorem refit_set{L1:List wW}{φ:wW->wW}{q b:wW}(hi:i<L1.length)(a:L1.drop i=q::L1.drop (i+1)):((L1.take i).map φ++L1.drop i).set i b=(L1.take i).map φ++b::L1.drop (i+1):=by have c:((L1.take i).map φ).length=i:=hGr;rw[a,adN _ _ NH,c,aiq];rfl
def Xi(h:a<=b)(h2:b<=c+2)(h3:c<=594):a<=100000:=NH
def ig(h:a<=b)(h2:b<=c+2)(h3:c<=594):a+1<=100000:=NH
def sr(h:a<=n)(h2:(n:Int)<=200):a<=100000:=NH
theorem app_b{α β:Type}{L:List β}{ps:List α}{φ:α->β}(h:L.length<=594)(h2:ps.length<=594)(i:Nat):(L++(ps.take i).map φ).length<=100000:=hGr
theorem le_4(h:a<=n)(h2:(n:Int)<=200):a<=40000:=NH
theorem ShS.other{on:List Bool}{d e:Cs}(S:ShS g h B O n rows bv fv iv lv us ws cs on d e left)(l:Le g h')(c:∀z o,InS B O fv iv lv z->h.own z=Z o->h'.own z=Z o):ShS g h' B O n rows bv fv iv lv us ws cs on d e left:=
 {S with
  f:=⟨c _ _ (.inl rfl) S.f.o⟩
  oO:=c _ _ (.inr (.inl rfl)) S.oO
  gF:=GS.kept S.gF fun b o hb a=>c b o (.inr hGr) a
  gI:=GS.kept S.gI fun b o hb a=>c b o (.inr hGr) a
  gL:=GS.kept S.gL fun b o hb a=>c b o (.inr hGr) a
  sep:=⟨S.sep.TE,fun i u b j hb=>by have⟨o,a⟩:=uV.1 (S.sep.own i u b j hb);rw[c b o (.inr (by grind[mem_of_getElem?])) a];simp,S.sep.ap,l⟩}
theorem lay_any(W0:LA){H:Nat->Nat->Prop}{m:ShM}(S:ShS g h B O n (Zh n es) bv fv iv lv us ws cs m.on m.Jv m.Jv m.left)(hr:bX ⟨(n:Int),es⟩)(D:QG (eN n es))(I:Z8 n es H m)(eM:m.left≠[]):
  AC pG W0 88 [pT (Z B)] h fun x h'=>∃g',Le g g'/\Le g' h'/\((AU n (Zh n es) m=Y/\x=.bool fF)\/∃bh eO eP eQ eS eT eU,AU n (Zh n es) m=Z bh/\x=.bool tT/\ShS g' h' B O n (Zh n es) bv eO eP eQ eS eT eU bh.on bh.Jv bh.Jv bh.left):=by
 have hR:=hr.GD;have hA:=hr.q9;have bk:(n:Int)<=200:=hr.n1;have T:es.length<=594:=hr.len;have hE:=I.Vw;have aP:=I.My;have dq:0<m.left.length:=kS.2 eM;refine AC.vF func88 ntmps88 results88 fun hF=>?_;have J:=sB B 5 NH;have eV:=sB B 3 NH;have eW:=sB B 2 NH;have bm:=fun k hk=>S.gL.ad3 (k:=k) hk;have eL:=fun k r (hk:k<m.left.length)=>eA3 (k:=k) (r:=r) S.gL hk;have cx:∀k (hk:k<m.left.length),∃c,aaC pG h 28 (aaq lv (k*3+2))=Z c/\∀g',aeh pG g' 28 c=Z (.int .i64 (m.left[k].fits.length:Nat)):=fun k hk=>by have⟨a,b,c,q1,q2,q3,q4,q5,q6⟩:=S.at_ hk;refine⟨c,by rw[Bj Mb rfl];exact S.gL.cs.get _ _ q3,fun g'=>?_⟩;have:=q6.TA g';rwa[y6]at this
 refine Sk (Yb J S.f.l5 S.lenL) ?_;refine aab.intro (fun k fr W=>∃i:Nat,k=m.left.length-i/\i<=m.left.length/\fr=mkF [(0,pT (Z B)),(3,(abx m.left i:Nat)),(20,(m.left.length:Nat)),(21,(i:Nat))]/\W=h)
  m.left.length [(0,pT (Z B)),(3,(0:Nat)),(20,(m.left.length:Nat)),(21,(0:Nat))] fD ⟨0,rfl,aax _,rfl,rfl⟩ ?_
 rintro k fr W aT ⟨i,rfl,hi,rfl,rfl⟩;refine Uy ?_;refine Kl.intro (fun ht=>?_) (fun hf=>?_)
 .have s:i<m.left.length:=acb ht;clear ht;have F:abx m.left i<m.left.length:=by
   have:=(EY m.left i).1;rcases Nat.eq_zero_or_pos i with rfl|h
   .exact dq
   grind
  have⟨c1,q1,q2⟩:=cx i s;have⟨c2,q3,q4⟩:=cx _ F;have aw:=aaa i NH;have e1:=lenF_at s;have e2:=lenF_at F;refine Uy ?_;refine gh (fRn 0 19 .done) ?_;by_cases c:m.left[i].fits.length<(m.left[abx m.left i]).fits.length
  .have d:decide (((m.left[i].fits.length:Nat):Int)<(((m.left[abx m.left i]).fits.length:Nat):Int))=tT:=Z6 NH;have eb:abx m.left (i+1)=i:=by grind[abx.eq_2]
   simp only[HO,seval,Qg,J,S.f.l5,bm i s,bm _ F,pf2,eL i 2 s,eL _ 2 F,q1,q2,q3,q4,d,aw];exact tn (m.left.length-(i+1)) [(0,pT (Z B)),(3,(i:Nat)),(20,(m.left.length:Nat)),(21,(i+1:Nat))] (JS s) fD ⟨i+1,rfl,s,by rw[eb];rfl,rfl⟩
  .have d:decide (((m.left[i].fits.length:Nat):Int)<(((m.left[abx m.left i]).fits.length:Nat):Int))=fF:=IE NH;have eb:abx m.left (i+1)=abx m.left i:=by grind[abx.eq_2]
   simp only[HO,seval,Qg,J,S.f.l5,bm i s,bm _ F,pf2,eL i 2 s,eL _ 2 F,q1,q2,q3,q4,d,aw];exact tn (m.left.length-(i+1)) [(0,pT (Z B)),(3,(abx m.left i:Nat)),(20,(m.left.length:Nat)),(21,(i+1:Nat))] (JS s) fD ⟨i+1,rfl,s,by rw[eb];rfl,rfl⟩
 have aa:m.left.length<=i:=vp hf;obtain rfl:i=m.left.length:=NH;clear aa hf hi cx;have F:=(EY m.left m.left.length).1 dq
 have cc:AU n (Zh n es) m=if(m.left.getD (abx m.left m.left.length) default).fits.length=0 then Y else
   if(J6 n (Zh n es) m.on (m.left.getD (abx m.left m.left.length) default)).length<2 then Y else
   Z ⟨tV m.on (J6 n (Zh n es) m.on (m.left.getD (abx m.left m.left.length) default)),kY m.Jv ((m.left.getD (abx m.left m.left.length) default).fits.headD 0) (J6 n (Zh n es) m.on (m.left.getD (abx m.left m.left.length) default)),
    (m.left.eraseIdx (abx m.left m.left.length)).map (GF (kY m.Jv ((m.left.getD (abx m.left m.left.length) default).fits.headD 0) (J6 n (Zh n es) m.on (m.left.getD (abx m.left m.left.length) default))) ((m.left.getD (abx m.left m.left.length) default).fits.headD 0) m.Jv.length)++
    (vX n (tV m.on (J6 n (Zh n es) m.on (m.left.getD (abx m.left m.left.length) default))) (V8 n (m.left.getD (abx m.left m.left.length) default).zp (J6 n (Zh n es) m.on (m.left.getD (abx m.left m.left.length) default)))).map fun q=>{q with fits:=zh (kY m.Jv ((m.left.getD (abx m.left m.left.length) default).fits.headD 0) (J6 n (Zh n es) m.on (m.left.getD (abx m.left m.left.length) default))) q.Fm ((m.left.getD (abx m.left m.left.length) default).fits++[m.Jv.length])}⟩:=rfl
 rw[cc];clear cc;have⟨a,b,c,q1,q2,q3,q4,q5,q6⟩:=S.at_ F;have eX:=S.gL.load3 F q1 q2 q3;have eZ:=bm _ F;have ae:m.left[abx m.left m.left.length]∈m.left:=aev F;have e0:m.left.getD (abx m.left m.left.length) default=m.left[abx m.left m.left.length]:=D4 F;rw[e0];generalize e6:abx m.left m.left.length=K at*;generalize hp:m.left[K]=p at*;obtain⟨h1,h2,e1,e2,l2,w2,oP,-⟩:=Od aT q4.sl.one q5.one q6.one;have⟨S2,b5⟩:=(S.up l2).reg
 have hG:∀z,InS B O fv iv lv z->z≠W.next:=fun z hz e=>by
  have:=(S.own hz).2;rw[e]at this
  exact this ((Le.refl W).next aT (qL0 _))
 have gP:(Hg h2 B O fv iv lv).own W.next=Z (.cells [a,b,c]):=by grind[Hg,Th,HX]
 generalize W.next=P at*
 have e7:=pB P 0 NH;have hI:=pB P 1 NH;have cz:=pB P 2 NH;have lc:=fun g'=>q6.TA g';rw[y6]at lc;simp only[HO,seval,J,S.f.l5,eZ,eX,e1,e2,cz,lP2 oP,lc];by_cases c0:p.fits.length=0
 .have d0:decide (((p.fits.length:Nat):Int)=0)=tT:=Z6 NH;refine Sk (XC @ag6 d0) ?_;grind[ShS.le]
 have d0:decide (((p.fits.length:Nat):Int)=0)=fF:=IE NH;rw[WA c0];have dr:p.fits.headD 0∈p.fits:=by grind[Lt]
 have⟨fb,wh,cC,b6,hJ⟩:=I.way_face hR hA D ae dr;rw[WA NH];have dv:=((I.Aa p ae).fits _).1 dr;have cE:aV n p.zp:=fun e he=>hR e ((I.Aa p ae).sub.subset he);have hK:=I.edges_len ae;have hL:=I.UO hR ae;have dy:=I.Xg ae;have fc:=I.abJ hR ae;have dz:=q4.le b5;have fe:=q5.le Nn.RP b5;have dA:=q6.le Nn.RP b5;refine Sk (Yb @ag6 d0 (OU oP)) ?_;refine kCi func132 (way_any W0 B n bv _ fv iv lv a b c es m.on p h2 S2.f (S2.cB.le (Nn.RL Nn.RP) S2.le) S2.rlO S2.ZA (dz.le S2.le) (fe.le Nn.RP S2.le) q6.one hR cE fc NH NH NH NH) ?_;rintro wv h3 w3 ⟨gw,l3,aw3⟩;have⟨S3,bo⟩:=(S2.up l3).reg;have dB:GI (Hg h3 B O fv iv lv) wv (kz (J6 n (Zh n es) m.on p)):=Pv (h:=h3) S2 gw aw3;have dE:=bo.own _ _ gP;have hM:∀x∈J6 n (Zh n es) m.on p,x<n:=b6;have⟨fg,hN⟩:=I.face_lt dv.1;have hS:=zh;generalize dF:J6 n (Zh n es) m.on p=way at*;have lw:=fun g'=>gw.rl.TA g';rw[y6]at lw;have dw:decide (((way.length:Nat):Int)<2)=fF:=IE NH;have fh:aaY .i64 ((K:Int)+1)=((K+1:Nat):Int):=by grind[aaa]
 simp only[HO,seval,lw,dw,J,S3.f.l5,fh];refine kCi func133 (afs W0 S3.gL S3.cuL S3.c1 F NH) ?_;rintro w h4 w4 ⟨gd,fi,fk,fm,fp⟩;have⟨h5,e5,S5,w5⟩:=S3.delL w4 F gd fi fk fm fp;have l5g:=S5.le;have fq:=l5g.own _ _ dE;have fs:=(dA.le Nn.RP bo).le Nn.RP l5g;have dH:=q6.DH 0 (by rw[y6];omega);have dI:=fs.Uc 0 (by rw[y6];omega);have t0:0<p.fits.length:=NH;rw[sY t0,<-headN0 t0]at dI;simp only[af9]at dH;generalize hT:p.fits.headD 0=f at*;generalize hU:(cs.take (K*3)++cs.drop ((K+1)*3))=ft at*;refine Sk (XC J e5) ?_;refine gh (fRn 0 11 .done) ?_;refine CO (rE cz (lP2 fq) dH dI eV S5.f.l3 S5.LF) ?_;have fw:=Kz W0 S5 (f:=f) (way:=way) dv.1 dB fb wh cC fg b6 NH NH NH NH;refine kCi func134 fw ?_;rintro x h6 w6 ⟨g6,A,C,br,bx,S6,cJ⟩;have hV:(m.left.eraseIdx K).length=m.left.length-1:=hGr;have cK:∀q∈m.left.eraseIdx K,q∈m.left:=by grind[List.mem_of_mem_eraseIdx]
 generalize hW:m.left.eraseIdx K=L1 at*;have dJ:(kY m.Jv f way).length=m.Jv.length+1:=Yz;generalize hX:kY m.Jv f way=M at*;have hY:=sB B 0 NH;refine Sk (Yb J S6.f.l5 S6.lenL) ?_;refine aab.intro (fun k fr hz=>∃(i:Nat)(g7:aai)(bB:xLV)(L:List wW),k=L1.length-i/\i<=L1.length/\fr=mkF [(0,pT (Z B)),(5,pT (Z P)),(6,wv),(7,(f:Nat)),(8,(m.Jv.length:Nat)),(89,w),(90,(L1.length:Nat)),(91,(i:Nat))]/\
   ShS g7 hz B O n (Zh n es) bv A C w br bx bB m.on M M L/\Le g6 g7/\L=(L1.take i).map (GF M f m.Jv.length)++L1.drop i)
  L1.length [(0,pT (Z B)),(5,pT (Z P)),(6,wv),(7,(f:Nat)),(8,(m.Jv.length:Nat)),(89,w),(90,(L1.length:Nat)),(91,(0:Nat))] fD
  ⟨0,g6,ft,L1,rfl,aax _,rfl,S6,Le.refl _,Ma⟩ ?_
 rintro k fr hz cM ⟨i,g7,bB,L,rfl,hi,rfl,S7,aW,aX⟩;have dL:L.length=L1.length:=by rw[aX,aaf,vg,zx,qL233];omega
 refine Uy ?_;refine Kl.intro (fun ht=>?_) (fun hf=>?_)
 .have s:i<L1.length:=acb ht;clear ht;have a6:i<L.length:=NH;have cN:L[i]=L1[i]:=by
   have h1:L[i]?=Z L1[i]:=by rw[aX,jf (by rw[vg,zx];omega),vg,zx,air NH,aiq,Ki,Yq];grind
   grind
  have⟨a',X,c',r1,r2,r3,r4,r5,r6⟩:=S7.at_ a6;have cP:=S7.gL.load3 a6 r1 r2 r3;have bF:=S7.gL.ad3 a6;have fx:=eA3 (r:=2) S7.gL a6;have dM:aca pG 168 (pT (Z (aaq w (i*3)))) 2=Z (pT (Z (aaq w (i*3+2)))):=by rw[pf2,fx]
  rw[cN]at r4 r5 r6;have b8:=cK _ (aev s);have cd:=I.abJ hR b8;have cf:=I.UO hR b8;have aJ:=I.Xg b8;have fy:=(I.Aa _ b8).fits;generalize dO:L1[i]=q at*;have⟨h8,h9,e8,e9,l9,w9,oQ,l8⟩:=Od cM r4.sl.one r5.one r6.one;have S9:=S7.up l9;have aw:=aaa i NH
  have dQ:∀z,InS B O A C w z->z≠hz.next:=fun z G e=>by
   have:=(S7.own G).2;rw[e]at this
   exact this ((Le.refl hz).next cM (qL0 _))
  generalize hz.next=Q at*
  have az:=pB Q 1 NH;have ai:=pB Q 2 NH;have aC:L1.take (i+1)=L1.take i++[q]:=by rw[XJ s,dO]
  have dS:L1.drop i=q::L1.drop (i+1):=by rw[qL68 s,dO]
  have aK:∀q':wW,L.set i q'=(L1.take i).map (GF M f m.Jv.length)++q'::L1.drop (i+1):=fun q'=>by rw[aX];exact refit_set s dS
  refine Sk (bG bF cP e8 e9 ai (lP2 oQ)) ?_;refine kCi func77 (W3 W0 c' (kz q.fits) ((f:Nat):Int) h9 (r6.le Nn.RP S9.le) (by rw[y6];omega)) ?_;rintro y a7 fC ⟨rfl,rfl⟩;by_cases cm:f∈q.fits
  rotate_left
  .have d:decide (((f:Nat):Int)∈kz q.fits)=fF:=IE fun hm=>cm (by
    have⟨z,G,e⟩:=si.1 hm;have:z=f:=NH;grind)
   simp only[HO,seval,d,aw];refine tn (L1.length-(i+1)) [(0,pT (Z B)),(5,pT (Z P)),(6,wv),(7,(f:Nat)),(8,(m.Jv.length:Nat)),(89,w),(90,(L1.length:Nat)),(91,(i+1:Nat))] (JS s) fD
    ⟨i+1,g7,bB,L,rfl,s,rfl,S9,aW,?_⟩
   rw[aX,aC,dS,abZ,ah6];have:GF M f m.Jv.length q=q:=by unfold GF;grind
   simp[this]
  have d:decide (((f:Nat):Int)∈kz q.fits)=tT:=Z6 (si.2 ⟨f,cm,rfl⟩);refine Sk d ?_;have N:∀h',Le a7 h'->aaC pG h' 127 ⟨B,5,Y⟩=Z w/\aaC pG h' 28 ⟨Q,1,Y⟩=Z X/\aaC pG h' 28 ⟨Q,2,Y⟩=Z c':=fun h' l=>⟨(S9.f.le l).l5,lP1 (l.own _ _ oQ),lP2 (l.own _ _ oQ)⟩;have⟨cR,cU,cW⟩:=N a7 (Le.refl _);have aL:∀z∈q.fits++[m.Jv.length],z<M.length:=fun z G=>by
   rw[dJ];rcases vZ.1 G with h|h
   .have:=((fy z).1 h).1;omega
   .have:=iy.1 h;omega
  have aN:kz q.fits++[((m.Jv.length:Nat):Int)]=kz (q.fits++[m.Jv.length]):=by simp[kz]
  have⟨ha,ea,la,wa,oa⟩:=Tt fC [((m.Jv.length:Nat):Int)];have⟨fJ,fL,fM⟩:=N ha la;refine gh (fRn 0 10 (tA [11] (.ch 10 [9] (JQ 12 [11] (JQ 13 [10,12] (JQ 14 [5,7,13] (tA [15,16] (JQ 17 [0,1,2,3,4,5,6,7,8,9,10,11,12,13,14,16] .done))))) (JQ 12 [11] (JQ 10 [9] (JQ 13 [10,12] (JQ 14 [5,7,13] (tA [15,16] (JQ 17 [0,1,2,3,4,5,6,7,8,9,10,11,12,13,14,16] .done))))))))) ?_;simp only[HO,seval,Qg,J,cR,fJ,az,ai,cU,fL,cW,fM,DQ,ea];refine⟨?_,?_⟩
  .refine kGi qS27 (QY W0 c' (kz q.fits) a7 (r6.le Nn.RP S9.le) (by rw[y6];exact Xi aJ aP T)) ?_;rintro y sZ wb ⟨gb,lb,ab⟩;have⟨bH,bI,bN⟩:=N sZ lb;have⟨av,fN,hc,dT,ec,aD,wc,fP,cZ,fQ⟩:=gb.push wb ((m.Jv.length:Nat):Int) (by rw[y6];grind);have⟨E,fR⟩:=cZ a7 lb ab;rw[aN]at aD;have⟨dV,dW,dZ⟩:=N fN (lb.trans fP);have⟨bQ,bW,bY⟩:=N hc E;simp only[DQ]at dT;simp only[HO,seval,Qg,J,cR,bH,dV,bQ,az,ai,cU,bI,dW,bW,cW,bN,dZ,bY,DQ,dT,ec];have⟨fS,fU,fV⟩:=N hc E;refine kGi qS29 (NR W0 B n bv _ A C w X av M q.Fm (q.fits++[m.Jv.length]) hc (S9.f.le E) (S9.rlI.le (Nn.RL Nn.sJ) E) ((r5.le Nn.RP S9.le).le Nn.RP E) aD.rl cd aL (sr cf bk) (by rw[aaf,Bn];exact ig aJ aP T)) ?_;rintro y hd wd ⟨gy,c3,ay⟩;have bZ:=E.trans c3;have⟨c4,c5,c6⟩:=N hd bZ;have⟨Sd,c9⟩:=(S9.up bZ).reg;have da:GI (Hg hd B O A C w) y (kz (zh M q.Fm (q.fits++[m.Jv.length]))):=Pv (h:=hd) S9 gy (fun b hb=>E.none (ay b hb));have⟨he,ee,Se,we⟩:=Sd.setT wd a6 da.rl;rw[cN]at Se;simp only[HO,seval,Qg,J,az,ai,c4,c5,c6,bF,dM,ee,aw];refine tn (L1.length-(i+1)) [(0,pT (Z B)),(5,pT (Z P)),(6,wv),(7,(f:Nat)),(8,(m.Jv.length:Nat)),(89,w),(90,(L1.length:Nat)),(91,(i+1:Nat))] (JS s) fD
    ⟨i+1,_,_,_,rfl,s,rfl,Se,aW.trans c9,?_⟩
   rw[aK,aC,abZ,ah6];have:GF M f m.Jv.length q={q with fits:=zh M q.Fm (q.fits++[m.Jv.length])}:=by unfold GF;grind
   simp[this]
  .refine kGi qS27 (QY W0 c' (kz q.fits) ha ((r6.le Nn.RP S9.le).le Nn.RP la) (by rw[y6];exact Xi aJ aP T)) ?_;rintro y sZ wb ⟨gb,lb,ab⟩;have⟨bH,bI,bN⟩:=N sZ (la.trans lb)
   have ro:RL RP sZ (sL (Z a7.next) 1 1) [((m.Jv.length:Nat):Int)]:=RL.Wh (RS.whole (lb.own _ _ oa) rfl)
   have⟨av,hc,ec,aD,wc,cZ,fQ⟩:=GI.join gb wb ro (by rw[y6,Bn];grind);have⟨fW,fR⟩:=cZ ha lb ab;have E:=la.trans fW;rw[aN]at aD;have⟨bQ,bW,bY⟩:=N hc E;refine CO (Da J cR bH bQ az ai cU bI bW cW bN bY @DQ ec) ?_;have⟨fS,fU,fV⟩:=N hc E;refine kGi qS29 (NR W0 B n bv _ A C w X av M q.Fm (q.fits++[m.Jv.length]) hc (S9.f.le E) (S9.rlI.le (Nn.RL Nn.sJ) E) ((r5.le Nn.RP S9.le).le Nn.RP E) aD.rl cd aL (sr cf bk) (by rw[aaf,Bn];exact ig aJ aP T)) ?_;rintro y hd wd ⟨gy,c3,ay⟩;have bZ:=E.trans c3;have⟨c4,c5,c6⟩:=N hd bZ;have⟨Sd,c9⟩:=(S9.up bZ).reg;have da:GI (Hg hd B O A C w) y (kz (zh M q.Fm (q.fits++[m.Jv.length]))):=Pv (h:=hd) S9 gy (fun b hb=>E.none (ay b hb));have⟨he,ee,Se,we⟩:=Sd.setT wd a6 da.rl;rw[cN]at Se;simp only[HO,seval,Qg,J,az,ai,c4,c5,c6,bF,dM,ee,aw];refine tn (L1.length-(i+1)) [(0,pT (Z B)),(5,pT (Z P)),(6,wv),(7,(f:Nat)),(8,(m.Jv.length:Nat)),(89,w),(90,(L1.length:Nat)),(91,(i+1:Nat))] (JS s) fD
    ⟨i+1,_,_,_,rfl,s,rfl,Se,aW.trans c9,?_⟩
   rw[aK,aC,abZ,ah6];have:GF M f m.Jv.length q={q with fits:=zh M q.Fm (q.fits++[m.Jv.length])}:=by unfold GF;grind
   simp[this]
 have aa:L1.length<=i:=vp hf;obtain rfl:i=L1.length:=NH;rw[abe (qL0 _),qL251 (qL0 _),ag1]at aX;clear aa hf hi;have ed:=aW.own _ _ (cJ.own _ _ dE);have db:=dB.le (cJ.trans aW);have ef:=fun g'=>db.rl.TA g';rw[y6]at ef;refine Sk ef ?_;refine aab.intro (fun k fr hy=>∃(i:Nat),k=way.length-i/\i<=way.length/\fr=mkF [(0,pT (Z B)),(5,pT (Z P)),(6,wv),(8,(m.Jv.length:Nat)),(118,wv),(119,(way.length:Nat)),(120,(i:Nat))]/\
   ShS g7 hy B O n (Zh n es) bv A C w br bx bB (tV m.on (way.take i)) M M L)
  way.length [(0,pT (Z B)),(5,pT (Z P)),(6,wv),(8,(m.Jv.length:Nat)),(118,wv),(119,(way.length:Nat)),(120,(0:Nat))] fD
  ⟨0,rfl,aax _,rfl,S7⟩ ?_
 clear S7 cM;clear hz;rintro k fr hy dF ⟨i,rfl,hi,rfl,S8⟩;refine Uy ?_;refine Kl.intro (fun ht=>?_) (fun hf=>?_)
 .have s:i<way.length:=acb ht;clear ht;have gy:=db.le S8.le;have fY:=gy.rl.DH i (by rw[y6];exact s);have eg:=gy.rl.Uc i (by rw[y6];exact s);rw[sY s]at eg;have hv:=b6 way[i] (aev s);have aC:way.take (i+1)=way.take i++[way[i]]:=XJ s;generalize way[i]=v at*;have fZ:aao pG 41 (sL (Z O) n n) v=Z (pT (Z ⟨O,v,Y⟩)):=by rw[Wc Uh AV Ji v hv];simp[Ip]
  have⟨h9,e9,S9,w9⟩:=S8.setO dF hv;have ga:(tV m.on (way.take i)).set v tT=tV m.on (way.take (i+1)):=by rw[aC];unfold tV;rw[qL223];rfl
  rw[ga]at S9;have aw:=aaa i (by grind[le_4]);simp only[HO,seval,fY,eg,eW,S8.f.l2,fZ,e9,aw];exact tn (way.length-(i+1)) [(0,pT (Z B)),(5,pT (Z P)),(6,wv),(8,(m.Jv.length:Nat)),(118,wv),(119,(way.length:Nat)),(120,(i+1:Nat))] (JS s) fD ⟨i+1,rfl,s,rfl,S9⟩
 have aa:way.length<=i:=vp hf;rw[abe aa]at S8;clear aa hf hi;have gg:=S8.le.own _ _ ed;have b0:=cJ.trans aW;have r6:=((dA.le Nn.RP bo).le Nn.RP b0);have r4:=((dz.le bo).le b0);refine Sk (XC cz (lP2 gg)) ?_;refine kCi qS27 (QY W0 c (kz p.fits) hy (r6.le Nn.RP S8.le) (by rw[y6];exact Xi dy aP T)) ?_;rintro y h9 w9 ⟨g9,l9,a9⟩;have⟨av,a7,dc,eh,gi,ei,hZ,h0,ej,hD⟩:=g9.push w9 ((m.Jv.length:Nat):Int) (by grind[y6]);have⟨ek,gj⟩:=ej hy l9 a9;have aN:kz p.fits++[((m.Jv.length:Nat):Int)]=kz (p.fits++[m.Jv.length]):=by simp[kz]
 rw[aN]at ei;have⟨a8,aj⟩:=(S8.up ek).reg;have aD:GI (Hg dc B O A C w) av (kz (p.fits++[m.Jv.length])):=Pv (h:=dc) S8 ei gj;have en:=aj.own _ _ ed;have eo:=a8.le.own _ _ en;have gk:=db.le aj;simp only[DQ]at eh;refine Sk (IX @DQ eh gi e7 (lP0 eo)) ?_;refine kCi func136 (Bs W0 B n bv _ A C w a wv p.zp way dc a8.f ((r4.le aj).le a8.le) (gk.le a8.le).rl cE b6 NH NH NH) ?_;rintro y2 gl h7 ⟨gn,gq,ic⟩;have⟨aq,b1⟩:=(a8.up gq).reg;have dd:(V8 n p.zp way).Sublist p.zp:=Tn;have de:aV n (V8 n p.zp way):=fun e he=>cE e (dd.subset he);have dg:(V8 n p.zp way).length<=594:=by grind[List.Sublist.length_le]
 generalize ih:V8 n p.zp way=wo at*;refine Uy ?_;refine kCi func135 (Xr W0 B n bv _ A C w y2 (tV m.on way) wo gl aq.f aq.rlO aq.ZA gn.pr de NH NH) ?_;rintro x V gu ⟨vs,OP⟩;have⟨ep,b2⟩:=(aq.up OP.sep.le).reg;have dj:vX n (tV m.on way) wo=(qT (Wg (tV m.on way)) (aaX (frL n (Wg (tV m.on way)) wo) wo [] wo.length)).map fun q=>⟨q.1,q.2,[]⟩:=by unfold vX qT;rw[Lm];rfl
 have b9:∀q∈qT (Wg (tV m.on way)) (aaX (frL n (Wg (tV m.on way)) wo) wo [] wo.length),(∀z∈q.2,∃v:Nat,z=(v:Int)/\v<n)/\q.2.length<=n:=fun q W=>by
  obtain⟨gr,gv,rfl⟩:=si.1 W;obtain⟨-,-,-,-,er⟩:=Pt (frL n (Wg (tV m.on way)) wo) wo [] wo.length;have cg:=er gr gv;refine⟨fun z G=>?_,Qr de cg⟩;have⟨_,e,he,h⟩:=zS.1 (((VW _).2 z).1 G);obtain⟨u,v,rfl,ij,il⟩:=jB de (cg e he);simp only at h;rcases h with rfl|rfl
  .grind
  grind
 have et:(qT (Wg (tV m.on way)) (aaX (frL n (Wg (tV m.on way)) wo) wo [] wo.length)).length<=wo.length:=by unfold qT;rw[vg];exact(Pt _ _ _ _).2.2.2.1
 rw[dj];generalize qT (Wg (tV m.on way)) (aaX (frL n (Wg (tV m.on way)) wo) wo [] wo.length)=ps at*;have gA:=OP.len_;have gx:GS 3 (Hg V B O A C w) x ps.length (abS vs ps.length):=Pv (h:=V) aq OP.sl (OP.sep.ap 0 x rfl);have gC:∀(j:Nat) q,ps[j]?=Z q->GP (Hg V B O A C w) (vs.getD (2*j) rW) q.1/\GI (Hg V B O A C w) (vs.getD (2*j+1) rW) q.2:=fun j q W=>by have⟨k1,k2⟩:=OP.ge j q W;have hj:=(Ny.1 W).1;have iu:=OP.len;exact⟨Pv (h:=V) aq k1 (OP.sep.ap _ _ (u6 OP NH)),Pv (h:=V) aq k2 (OP.sep.ap _ _ (u6 OP NH))⟩
 have dk:=aD.le (b1.trans b2);have gE:Le g (Hg V B O A C w):=b5.trans (bo.trans (b0.trans (aj.trans (b1.trans b2))));have aL:∀z∈p.fits++[m.Jv.length],z<M.length:=fun z G=>by
  rw[dJ];rcases vZ.1 G with h|h
  .have:=(((I.Aa p ae).fits z).1 h).1;omega
  .have:=iy.1 h;omega
 have dL:L.length<=594:=hGr;clear OP b2 aq b1 a8 aj S8;generalize Hg V B O A C w=eu at*;refine Sk gA ?_;refine aab.intro (fun k fr W=>∃(i:Nat)(bb:aai)(ar:xLV)(R:vV),k=ps.length-i/\i<=ps.length/\fr=mkF [(0,pT (Z B)),(13,av),(143,x),(144,(ps.length:Nat)),(145,(i:Nat))]/\
   ShS bb W B O n (Zh n es) bv A C R br bx ar (tV m.on way) M M (L++(ps.take i).map fun q=>⟨q.1,q.2,zh M q.2 (p.fits++[m.Jv.length])⟩)/\Le eu bb)
  ps.length [(0,pT (Z B)),(13,av),(143,x),(144,(ps.length:Nat)),(145,(0:Nat))] fD
  ⟨0,eu,bB,w,rfl,aax _,rfl,by simpa using ep,Le.refl _⟩ ?_
 clear ep gu;clear V;rintro k fr W aT ⟨i,bb,ar,R,rfl,hi,rfl,aF,U⟩;refine Uy ?_;refine Kl.intro (fun ht=>?_) (fun hf=>?_)
 .have s:i<ps.length:=acb ht;clear ht;have gG:=Gc s;have⟨ge,gf⟩:=gC i _ gG;have⟨ev,ew⟩:=b9 _ (aev s);have aC:ps.take (i+1)=ps.take i++[ps[i]]:=XJ s;generalize ps[i]=q at*;have ey:=gx.le (U.trans aF.le);have⟨z1,z2,z3⟩:=aY vs ps.length s;have cP:=ey.load3 s z1 z2 z3;have bF:=ey.ad3 s;have ck:=ge.le U;have b3:=gf.le U;generalize vs.getD (2*i) rW=a' at*;generalize vs.getD (2*i+1) rW=X at*;have⟨iz,gJ,gM,gN,gR,iA,oQ,iB⟩:=Od aT (a:=a') (b:=X) (c:=rW) ck.pr.sl.one b3.rl.one rfl;have bg:=aF.up gR
  have dQ:∀z,InS B O A C R z->z≠W.next:=fun z G e=>by
   have:=(aF.own G).2;rw[e]at this
   exact this ((Le.refl W).next aT (qL0 _))
  have eA:bb.own W.next=Y:=aF.le.next aT (qL0 _)
  generalize W.next=Q at*
  have az:=pB Q 1 NH;have ai:=pB Q 2 NH;have aw:=aaa i (by grind[QJ]);refine Sk (bG bF cP gM gN az (lP1 oQ)) ?_;refine kCi qS29 (NR W0 B n bv _ A C R X av M q.2 (p.fits++[m.Jv.length]) gJ bg.f bg.rlI ((b3.le bg.le).rl) (((dk.le U).le bg.le).rl) ev aL (sr ew bk) (by rw[aaf,Bn];exact ig dy aP T)) ?_;rintro y aH eB ⟨dm,eC,eD⟩;have cp:=eC.own _ _ oQ;have st:=QB (P:=pG) (t:=28) (x:=y) Mb Ji cp (off:=2) Ma dm.rl.sl.cell dm.rl.one;have aK:([a',X,rW]:xLV).set 2 y=[a',X,y]:=rfl;rw[aK]at st;have cq:(aH.put Q (.cells [a',X,y])).own Q=Z (.cells [a',X,y]):=aai.Y3 _ _ _;have gS:WF (aH.put Q (.cells [a',X,y])):=eB.put _ (eB.lt cp);have gT:blk y≠Z Q:=fun e=>by have:=eD Q e;grind
  have gU:=GS.put dm (fK.cells [a',X,y]) gT;have eE:∀z o,z≠Q->aH.own z=Z o->(aH.put Q (.cells [a',X,y])).own z=Z o:=fun z o G ho=>by rw[aai.By _ _ _ _ G];exact ho
  have eF:=bg.up eC;have gV:ShS bb (aH.put Q (.cells [a',X,y])) B O n (Zh n es) bv A C R br bx ar (tV m.on way) M M (L++(ps.take i).map fun q=>⟨q.1,q.2,zh M q.2 (p.fits++[m.Jv.length])⟩):=eF.other (eF.le.put _ eA) fun z o G ho=>eE z o (dQ z G) ho;have⟨dp,b4⟩:=gV.reg;have gy:GI (Hg (aH.put Q (.cells [a',X,y])) B O A C R) y (kz (zh M q.2 (p.fits++[m.Jv.length]))):=Pv (h:=aH.put Q (.cells [a',X,y])) bg gU eD;obtain⟨eG,iD,iE,iF,gW,gX,gZ,hl,iG,eH,hn,-⟩:=dp.pushL gS (a:=a') (b:=X) (c:=y) (p:=⟨q.1,q.2,zh M q.2 (p.fits++[m.Jv.length])⟩) ((ck.le b4).pr) ((b3.le b4).rl) gy.rl (app_b dL (ff et dg) i);have hx:=OU cq;have eI:=OU (eH.own _ _ cq);have hC:=dp.f.le eH;simp only[HO,seval,ai,st];refine gh (fRn 0 6 (JQ 6 [5] (JQ 7 [4,6] (tA [8,9] (JQ 10 [0,1,2,3,4,5,6,7,9] .done))))) ?_;simp only[HO,seval,Qg,J,dp.f.l5,hC.l5,hn.l5,hx,eI,gW,gX,gZ,aw];refine tn (ps.length-(i+1)) [(0,pT (Z B)),(13,av),(143,x),(144,(ps.length:Nat)),(145,(i+1:Nat))] (JS s) fD
   ⟨i+1,_,ar++[a',X,y],eG,rfl,s,rfl,?_,U.trans b4⟩
  rw[aC,abZ,<-ah6];exact hl
 have aa:ps.length<=i:=vp hf;rw[abe aa]at aF;refine Uy ?_;refine⟨bb,gE.trans U,aF.le,.inr ⟨_,A,C,R,br,bx,ar,rfl,trivial,?_⟩⟩;simp only;rw[<-aX,Lm];exact aF
variable {T:AM} {b0:aai} {j m t w:Nat}
theorem Rows.setRow{L:Nat}(R:Rows b0 h L us rows)(c:WF h)(hw:w<us.length){u:vV}{r:RZ}(g:GI h u r)(ag:Z2 b0 u)(i:blk u≠Z L)(hd:∀(v:Nat) a b,us[v]?=Z a->blk a=Z b->blk u≠Z b):
  ∃h',aaK pG h 28 (pT (Z ⟨L,w,Y⟩)) u=Z h'/\Rows b0 h' L (us.set w u) (rows.set w r)/\WF h'/\Le (h.kill L) h'/\∀b o,b≠L->h.own b=Z o->h'.own b=Z o:=by
 have st:=QB (P:=pG) (t:=28) (x:=u) Mb Ji R.oL (off:=w) hw g.rl.sl.cell g.rl.one;have keep:∀b o,b≠L->h.own b=Z o->(h.put L (.cells (us.set w u))).own b=Z o:=fun b o hb k=>by grind[aai.By]
 have key:∀(v:Nat) a,(us.set w u)[v]?=Z a->(v=w/\a=u)\/(v≠w/\us[v]?=Z a):=fun v a ha=>by grind
 refine⟨_,st,⟨aai.Y3 _ _ _,by grind[Rows.len],fun v a q ha d=>?_,fun v a ha=>?_,fun v w' a a' b j ha mi hb=>?_,fun v a ha=>?_,R.le.put _ R.bL,R.bL⟩,c.put _ (c.lt R.oL),((Le.Qz h L).put _ (aai.Dg _ _)),keep⟩
 .rcases key v a ha with⟨e,f⟩|⟨e,f⟩
  .rw[e,K4,Sb rfl]at d;simp only[show w<rows.length by grind,if_true]at d;injection d with d;rw[f,<-d];exact GS.put g _ i
  grind[GS.put,Rows.gs,Rows.nL]
 .grind[Rows.nL]
 .rcases key v a ha with⟨e,f⟩|⟨e,f⟩
  .grind
  grind[Rows.TE]
 grind[Rows.ap]
def xi(n:Nat)(a:List (Nat×Nat×Nat)):AM:=a.foldl XN (rP n (rP n (-1)))
def adh{n:Nat}:∀(a:List (Nat×Nat×Nat))(T:AM),(T.length=n/\∀v,v<n->(T.getD v []).length=n)->(a.foldl XN T).length=n/\∀v,v<n->((a.foldl XN T).getD v []).length=n
 |[],_,h=>h
 |t::a,T,h=>adh a (XN T t) (sQ h)
theorem BA(n:Nat):(rP n (rP n (-1:Int))).length=n/\∀v,v<n->((rP n (rP n (-1:Int))).getD v []).length=n:=hGr
theorem tabP_snoc(n:Nat)(a:List (Nat×Nat×Nat))(t:Nat×Nat×Nat):xi n (a++[t])=XN (xi n a) t:=by grind[xi]
def Hz(n i:Nat):AM:=rP i (rP n (-1))++rP (n-i) []
def rowsI_set(h:i<n):(Hz n i).set i (rP n (-1))=Hz n (i+1):=by unfold Hz;rw[adN _ _ Ma,qL206,aiq,replicate_succ',show n-i=(n-(i+1))+1 by omega,alP];simp
def BU(n:Nat)(T rows:AM)(i k:Nat):AM:=(rG i).map (lH T rows)++((rG k).map fun t=>itI (T.getD i []) t ((rows.getD i []).getD 0 0))::rP (n-(i+1)) []
theorem rowsR_at(n:Nat)(T rows:AM)(i k:Nat):(BU n T rows i k)[i]?=Z ((rG k).map fun t=>itI (T.getD i []) t ((rows.getD i []).getD 0 0)):=by grind[BU]
def rowsR_set(n:Nat)(T rows:AM)(i k:Nat):(BU n T rows i k).set i (((rG k).map fun t=>itI (T.getD i []) t ((rows.getD i []).getD 0 0))++[itI (T.getD i []) k ((rows.getD i []).getD 0 0)])=BU n T rows i (k+1):=by unfold BU;rw[adN _ _ Ma,vg,ag4,aiq,rY,abZ];rfl
theorem Ow(h:i+1<n):BU n T rows i (rows.getD i []).length=BU n T rows (i+1) 0:=by unfold BU;rw[rY,abZ,ah6];congr 1;rw[show n-(i+1)=(n-(i+1+1))+1 by omega,alP];rfl
theorem iP(h:i+1=n):BU n T rows i (rows.getD i []).length=(rG n).map (lH T rows):=by unfold BU;rw[<-h,rY,abZ,aiq];rfl
theorem j8(h:0<n):BU n T rows 0 0=rP n []:=by unfold BU;rw[show n=(n-1)+1 by omega,alP];simp
theorem tmod_pred(h:j<m):((j:Int)+(m:Int)-1).tmod (m:Int)=(((j+m-1)%m:Nat):Int):=hGr
theorem Y7(h:0<m)(b:m<=1000):aaY .i64 ((a%m:Nat):Int)=((a%m:Nat):Int):=by have:a%m<m:=aj3 _ h;grind[cT]
def rh(h:t<m)(a:m<=1000):aaY .i64 ((t:Int)+(m:Int))=(t:Int)+(m:Int):=ie _ NH NH
def Ad(h:t<m)(a:m<=1000):aaY .i64 ((t:Int)+(m:Int)-1)=(t:Int)+(m:Int)-1:=ie _ NH NH
def nz_len(h:t<m):¬((m:Int)=0):=NH
theorem Wt(h:t<m):(((t+1:Nat):Int)).tmod (m:Int)=(((t+1)%m:Nat):Int):=hGr
def FI(h:a<b):0<b:=QU (aax _) h
theorem pY(W0:LA)(B n:Nat)(bv ov fv iv lv:vV)(rows:AM)(F:Cs)(h:aai)(hs:Sr h B n bv ov fv iv lv)(hb:RL (RL RP) h bv rows)(hF:RL (RL RP) h fv (F.map kz))(cf:rows.length=n)(h0:∀v,v<n->0<(rows.getD v []).length/\(rows.getD v []).length<=2000)(aW:∀f∈F,(∀x∈f,x<n)/\f.length<=1000)(hn:n<=300)(aX:0<n)(cg:F.length<=1000)(a6:∀v,v<n->∀k,k<=(rows.getD v []).length->∃u:Nat,u<n/\itI ((N4 n F).getD v []) k ((rows.getD v []).getD 0 0)=(u:Int)):
  AC pG W0 89 [pT (Z B)] h fun x h'=>RL (RL RP) h' x (xY n rows F)/\Le h h':=by
 refine AC.vF func89 ntmps89 results89 fun ar=>?_;have U:=sB B 0 NH;have a7:=sB B 1 NH;have a8:=sB B 3 NH;have⟨h1,e1,l1,w1,o1⟩:=Tt ar (rP n rW);have mk:=mk57 h n NH;rw[e1]at mk
 have nL:h.own h.next=Y:=(Le.refl h).next ar (qL0 _)
 have R0:Rows h h1 h.next (rP n rW) (Hz n 0):=by grind[Rows.start,Hz]
 generalize h.next=L1 at*
 have bb:=fun g=>Jg (P:=pG) (t:=25) (a:=Z L1) (n:=n) (cap:=n) qS8 g;have N:∀v,v<n->aao pG 25 (sL (Z L1) n n) (.int .i64 (v:Int))=Z (pT (Z ⟨L1,v,Y⟩)):=fun v O=>by rw[Wc qS8 Mb Ji v O];simp[Ip]
 simp only[HO,seval,U,hs.l0,mk,bb];refine lIn (fun k fr s=>∃(i:Nat)(us:xLV),k=n-i/\i<=n/\fr=mkF [(0,pT (Z B)),(3,sL (Z L1) n n),(20,(n:Nat)),(21,(i:Nat))]/\Rows h s L1 us (Hz n i)/\us.length=n) ⟨0,_,rfl,aax _,rfl,R0,Ma⟩ ?_;clear R0 mk o1 w1 l1 e1;clear h1;rintro k fr s av ⟨i,us,rfl,hi,rfl,R,m⟩;refine Uy ?_;refine Kl.intro (fun A=>?_) (fun hf=>?_)
 .have C:i<n:=acb A;clear A;have⟨h4,e4,l4,w4,o4⟩:=Tt av [.int .i64 (-1)];have s4:=hs.le (R.le.trans l4);refine Sk (xU @DQ e4 U s4.l0) ?_;refine kCi YW (rN W0 _ n hn h4 (RL.Wh (RS.whole o4 rfl))) ?_;rintro x h5 w5 ⟨T,rfl,hT,o5,l5⟩;have R5:=(R.up l4).up l5;have gT:GI h5 (sL (Z T) n n) (rP n (-1)):=by
   have:h5.own T=Z (.cells (Bp (rP n (-1)))):=by rw[o5];simp[Bp]
   have:=GS.full (k:=1) (n:=n) this (by simp[Bp]) NH;show GS 1 h5 _ _ _;grind
  have dT:∀{b o},h4.own b=Z o->T≠b:=fun{b o} ob e=>by have:=w4.lt ob;omega
  obtain⟨h6,e6,R6,w6,-,-⟩:=R5.setRow w5 (w:=i) NH gT (fun b sZ=>by
    simp[blk]at sZ;subst sZ
    exact(R.le.trans l4).next w4 hT) (fun e=>by
    simp[blk]at e;exact dT (l4.own _ _ R.oL) e) (fun v a b ha sZ e=>by
    simp[blk]at e;have O:v<(Hz n i).length:=by grind[Rows.len]
    have:=GS.Sy (R.gs v a _ ha (Gc O)) sZ;have⟨o,ho⟩:=uV.1 this;grind[Le.own])
  rw[rowsI_set C]at R6;refine Sk (Yb (N i C) e6 (aaa i NH)) ?_;exact lgA (JS C) ⟨i+1,_,rfl,C,rfl,R6,by rw[WZ];exact m⟩
 have y:n<=i:=vp hf;obtain rfl:i=n:=NH;clear y hf hi;have ay:Hz i i=xi i ((F.take 0).flatMap ZO):=by simp[Hz,xi]
 rw[ay]at R;have lF:=fun g=>hF.qP5 g;rw[vg]at lF;have sq:=hs.le R.le;refine Sk (Yb a8 sq.l3 lF) ?_;refine lIn (fun k fr p=>∃(j:Nat)(us:xLV),k=F.length-j/\j<=F.length/\fr=mkF [(0,pT (Z B)),(3,sL (Z L1) i i),(37,fv),(38,(F.length:Nat)),(39,(j:Nat))]/\Rows h p L1 us (xi i ((F.take j).flatMap ZO))/\us.length=i) ⟨0,us,rfl,aax _,rfl,R,m⟩ ?_;clear R m av ay sq;clear us s;rintro k fr p V ⟨j,us,rfl,hj,rfl,R,m⟩;refine Uy ?_;refine Kl.intro (fun A=>?_) (fun hf=>?_)
 .have D:j<F.length:=acb A;clear A;have bg:=hF.Wm j (by rw[vg];exact D);have⟨u,lu,hu⟩:=hF.NS j (by rw[vg];exact D);rw[List.getElem_map]at hu;have⟨bh,J⟩:=aW F[j] (aev D);have ck:F.take (j+1)=F.take j++[F[j]]:=XJ D;generalize F[j]=f at*;have W:=fun g=>hu.TA g;rw[y6]at W;simp only[HO,seval,bg,lu p R.le,W];have R':Rows h p L1 us (xi i ((F.take j).flatMap ZO++(ZO f).take 0)):=by simpa using R
  refine lIn (fun k fr E=>∃(t:Nat)(us:xLV),k=f.length-t/\t<=f.length/\fr=mkF [(0,pT (Z B)),(3,sL (Z L1) i i),(6,u),(37,fv),(38,(F.length:Nat)),(39,(j:Nat)),(43,u),(44,(f.length:Nat)),(45,(t:Nat))]/\Rows h E L1 us (xi i ((F.take j).flatMap ZO++(ZO f).take t))/\us.length=i) ⟨0,us,rfl,aax _,rfl,R',m⟩ ?_;clear R' R m V;clear us p;rintro k fr E X ⟨t,us,rfl,cm,rfl,R,m⟩;refine Uy ?_;have tl:(ZO f).length=f.length:=by simp[ZO]
  refine Kl.intro (fun A=>?_) (fun hf=>?_)
  .have l:t<f.length:=acb A;clear A;have fp:(t+f.length-1)%f.length<f.length:=aj3 _ NH;have az:(t+1)%f.length<f.length:=aj3 _ NH;have ad:∀q,q<f.length->aao pG 28 u (.int .i64 (q:Int))=Z (pT (Z (aaq u q))):=fun q s=>hu.DH q (by rw[y6];exact s);have ld:∀q (s:q<f.length),aaC pG E 3 (aaq u q)=Z (.int .i64 ((f.getD q 0:Nat):Int)):=fun q s=>by rw[(hu.le Nn.RP R.le).Uc q (by rw[y6];exact s),sY s,D4 s]
   have mm:∀q,q<f.length->f.getD q 0<i:=fun q s=>by rw[D4 s];exact bh _ (aev s)
   have bk:(ZO f).take (t+1)=(ZO f).take t++[(f.getD t 0,f.getD ((t+f.length-1)%f.length) 0,f.getD ((t+1)%f.length) 0)]:=by rw[XJ (by rw[tl];exact l)];congr 2;unfold ZO;rw[List.getElem_map,List.getElem_range]
   have O:=mm t l;have cp:=mm _ fp;have d:=adh ((F.take j).flatMap ZO++(ZO f).take t) _ (BA i);obtain⟨K,aa⟩:∃a,us[f.getD t 0]?=Z a:=⟨_,Gc NH⟩;have Q:(xi i ((F.take j).flatMap ZO++(ZO f).take t))[f.getD t 0]?=Z ((xi i ((F.take j).flatMap ZO++(ZO f).take t)).getD (f.getD t 0) []):=by grind[xi,D4]
   have S:f.getD ((t+f.length-1)%f.length) 0<((xi i ((F.take j).flatMap ZO++(ZO f).take t)).getD (f.getD t 0) []).length:=by grind[xi]
   obtain⟨h9,e9,R9,w9,-,-⟩:=R.put X aa Q S ((f.getD ((t+1)%f.length) 0:Nat):Int);have bm:=R.gs _ K _ aa Q;have bo:=(show GI E K _ from bm).rl.DH _ S;have br:aaC pG E 28 ⟨L1,f.getD t 0,Y⟩=Z K:=by rw[Fq Mb rfl R.oL];exact aa
   have bx:aaY .i64 ((t:Int)+(f.length:Int))=(t:Int)+(f.length:Int):=rh l J;have bB:aaY .i64 ((t:Int)+(f.length:Int)-1)=(t:Int)+(f.length:Int)-1:=Ad l J;have nz:¬((f.length:Int)=0):=nz_len l;have bF:=tmod_pred l;have bH:aaY .i64 (((t+f.length-1)%f.length:Nat):Int)=(((t+f.length-1)%f.length:Nat):Int):=Y7 (FI l) J;have aw:=aaa t (Lb l (ff J WY));have bI:(((t+1:Nat):Int)).tmod (f.length:Int)=(((t+1)%f.length:Nat):Int):=Wt l;have bN:aaY .i64 (((t+1)%f.length:Nat):Int)=(((t+1)%f.length:Nat):Int):=Y7 (FI l) J;simp only[HO,seval,ad t l,ld t l];refine gh (fRn 0 21 .done) ?_;simp only[HO,seval,Qg,W,bx,bB,nz,bF,bH,aw,bI,bN,ad _ fp,ad _ az,ld _ fp,ld _ az,N _ O,br,bo,e9];refine lgA (JS l) ⟨t+1,us,rfl,l,rfl,?_,m⟩;rw[bk,<-ah6,tabP_snoc];exact R9
  .have y:f.length<=t:=vp hf;have bQ:(ZO f).take t=ZO f:=abe hGr;rw[bQ]at R;refine Sk (aaa j NH) ?_;refine lgA (JS D) ⟨j+1,us,rfl,D,rfl,?_,m⟩;grind
 have y:F.length<=j:=vp hf;rw[abe y]at R;have eT:xi i (F.flatMap ZO)=N4 i F:=rfl;rw[eT]at R;have dT:(N4 i F).length=i/\∀v,v<i->((N4 i F).getD v []).length=i:=adh (F.flatMap ZO) _ (BA i);clear y hf hj eT;have sz:=hs.le R.le;have⟨h7,e7,l7,w7,o7⟩:=Tt V (rP i rW)
 have mk:abl pG p 26 i i=Z (sL (Z ⟨p.next,0,Y⟩) i i,p.alloc (.cells (rP i rW))):=Ye (P:=pG) (t:=26) (z:=.slice Y 0 0) p qS19 Ji rfl rfl rfl Ji Mb Ji i NH
 rw[e7]at mk
 have cq:p.own p.next=Y:=(Le.refl p).next V (qL0 _)
 have I:Rows p h7 p.next (rP i rW) (BU i (N4 i F) rows 0 0):=by grind[j8,Rows.start]
 have aC:=R.rl (n:=i) (c:=i) m
 generalize p.next=L2 at*
 have aD:=fun g=>Jg (P:=pG) (t:=26) (a:=Z L2) (n:=i) (cap:=i) qS19 g;have aF:∀v,v<i->aao pG 26 (sL (Z L2) i i) (.int .i64 (v:Int))=Z (pT (Z ⟨L2,v,Y⟩)):=fun v O=>by rw[Wc qS19 Mb Ji v O];simp[Ip]
 simp only[HO,seval,U,sz.l0,mk,aD];refine lIn (fun k fr E=>∃(v:Nat)(us:xLV),k=i-v/\v<=i/\fr=mkF [(0,pT (Z B)),(3,sL (Z L1) i i),(11,sL (Z L2) i i),(84,(i:Nat)),(85,(v:Nat))]/\us.length=i/\((v<i/\Rows p E L2 us (BU i (N4 i F) rows v 0))\/(v=i/\Rows p E L2 us ((rG i).map (lH (N4 i F) rows))))) ⟨0,_,rfl,aax _,rfl,Ma,.inl ⟨aX,I⟩⟩ ?_;clear I mk o7 w7 l7 e7;clear h7;rintro k fr E X ⟨v,G,rfl,O,rfl,r,bW⟩;refine Uy ?_;refine Kl.intro (fun A=>?_) (fun hf=>?_)
 .have H:v<i:=acb A;clear A;have I:Rows p E L2 G (BU i (N4 i F) rows v 0):=hGr;clear bW;have ae:v<rows.length:=hGr;have bY:rows.getD v []=rows[v]:=D4 ae;have bZ:=hb.Wm v ae;have⟨bu,b0,L⟩:=hb.NS v ae;rw[<-bY]at L;have⟨aH,cx⟩:=h0 v H;have aJ:=a6 v H;have b1:=fun g=>L.TA g;have aK:=L.DH 0 aH;have M:=R.le.trans I.le;have ai:=(L.le Nn.RP M).Uc 0 aH;have g0:(rows.getD v [])[0]=itI ((N4 i F).getD v []) 0 ((rows.getD v []).getD 0 0):=by
   show _=(rows.getD v []).getD 0 0;grind[D4]
  rw[g0]at ai;simp only[af9]at aK;have sy:=hs.le M;have aj:v<(N4 i F).length:=hGr;have b2:=aC.Wm v aj;have⟨tu,b3,aq⟩:=aC.NS v aj;have b4:(N4 i F)[v]=(N4 i F).getD v []:=(D4 aj).symm;rw[b4]at aq;have aL:=dT.2 v H;simp only[HO,seval,a7,sy.l1,bZ,b0 E M,aK,ai,b1];refine lIn (fun k fr hx=>∃(q:Nat)(us:xLV),k=(rows.getD v []).length-q/\q<=(rows.getD v []).length/\fr=mkF [(0,pT (Z B)),(3,sL (Z L1) i i),(11,sL (Z L2) i i),(12,(v:Nat)),(13,.int .i64 (itI ((N4 i F).getD v []) q ((rows.getD v []).getD 0 0))),(84,(i:Nat)),(85,(v:Nat)),(104,((rows.getD v []).length:Nat)),(105,(q:Nat))]/\us.length=i/\Rows p hx L2 us (BU i (N4 i F) rows v q)) ⟨0,G,rfl,aax _,rfl,r,I⟩ ?_;clear I r X sy ai M;clear G E;rintro k fr hx b5 ⟨q,G,rfl,s,rfl,r,I⟩;refine Uy ?_;refine Kl.intro (fun A=>?_) (fun hf=>?_)
  .have aN:q<(rows.getD v []).length:=acb A;clear A;have⟨w,aP,ew⟩:=aJ q s;have eN:itI ((N4 i F).getD v []) (q+1) ((rows.getD v []).getD 0 0)=((N4 i F).getD v []).getD w 0:=by grind[itI,Int.toNat_natCast]
   have⟨uo,un,h9,cz,b6,k1,k2,k3,k4,k5,k6,k7,R3,cC,kk⟩:=I.push b5 (rowsR_at i (N4 i F) rows v q) (itI ((N4 i F).getD v []) q ((rows.getD v []).getD 0 0)) hGr;rw[rowsR_set]at R3;have b8:aaC pG hx 28 ⟨L2,v,Y⟩=Z uo:=by rw[Fq Mb rfl I.oL];exact k1
   have b9:=aq.DH w (by rw[aL];exact aP);have aT:=(aq.le Nn.RP R3.le).Uc w (by rw[aL];exact aP);have cc:((N4 i F).getD v [])[w]'(by grind)=((N4 i F).getD v []).getD w 0:=(D4 _).symm
   rw[cc,<-eN]at aT;rw[ew]at k2
   have cd:aas pG hx 28 1 [(0,w)]=Z (sL (Z ⟨hx.next,0,Y⟩) 1 1,h9):=by rw[DQ,k2]
   refine Sk (rk (aF v H) b8 ew cd k3 k4 b2 (b3 b6 R3.le) b9 aT (aaa q NH)) ?_;exact lgA (JS aN) ⟨q+1,_,rfl,aN,rfl,hGr,R3⟩
  .have y:(rows.getD v []).length<=q:=vp hf;obtain rfl:q=(rows.getD v []).length:=NH;refine Sk (aaa v NH) ?_;refine lgA (JS H) ⟨v+1,G,rfl,H,rfl,r,?_⟩;by_cases c:v+1<i
   .grind[Ow]
   grind[iP]
 have y:i<=v:=vp hf;have I:Rows p E L2 G ((rG i).map (lH (N4 i F) rows)):=hGr;refine Uy ?_;exact⟨I.rl r,R.le.trans I.le⟩
variable {ps web:List Pr} {r:Nat->II}
def Xy(fr:Pr->Nat->Int)(r:Nat×Pr×xLP):Int×xLP:=(fr r.2.1 r.1,r.2.2)
theorem Ij{es web:xLP}{fr fr':Pr->Nat->Int}(h:∀(j d:Nat) e e',es[j]?=Z e->es[d]?=Z e'->e∉web->e'∉web->(fr e j=fr e' d↔fr' e j=fr' e' d)){i:Nat}{p:Pr}(f:es[i]?=Z p)(hw:p∉web):
  ∀rs:List (Nat×Pr×xLP),(∀r∈rs,es[r.1]?=Z r.2.1/\r.2.1∉web)->∃a:List (Nat×Pr×xLP),(∀r∈a,es[r.1]?=Z r.2.1/\r.2.1∉web)/\ab4 (rs.map (Xy fr)) (fr p i) p=a.map (Xy fr)/\ab4 (rs.map (Xy fr')) (fr' p i) p=a.map (Xy fr')
 |[],_=>⟨[(i,p,[p])],hGr,rfl,rfl⟩
 |r::rs,g=>by
  have⟨k,h2⟩:=g r Ma;have key:=h r.1 i r.2.1 p k f h2 hw;by_cases c:fr r.2.1 r.1=fr p i
  .have c':=key.1 c;refine⟨(r.1,r.2.1,r.2.2++[p])::rs,fun q b=>?_,?_,?_⟩
   .rcases HV.1 b with rfl|b
    .grind
    grind
   .grind[Xy.eq_1,ab4.eq_2]
   grind[Xy.eq_1,ab4.eq_2]
  .have c':¬fr' r.2.1 r.1=fr' p i:=fun q=>c (key.2 q);have⟨a,k1,k2,l⟩:=Ij h f hw rs fun q b=>g q (by simp[b]);refine⟨r::a,fun q b=>?_,?_,?_⟩
   .rcases HV.1 b with rfl|b
    .grind
    grind
   .grind[Xy.eq_1,ab4.eq_2]
   grind[Xy.eq_1,ab4.eq_2]
theorem aeR{es web:xLP}{fr fr':Pr->Nat->Int}(h:∀(j a:Nat) e e',es[j]?=Z e->es[a]?=Z e'->e∉web->e'∉web->(fr e j=fr e' a↔fr' e j=fr' e' a)):
  ∀i:Nat,∃rs:List (Nat×Pr×xLP),(∀r∈rs,es[r.1]?=Z r.2.1/\r.2.1∉web)/\aaX fr es web i=rs.map (Xy fr)/\aaX fr' es web i=rs.map (Xy fr')
 |0=>⟨[],Ma,rfl,rfl⟩
 |i+1=>by
  have⟨rs,b,h2,h3⟩:=aeR h i;cases c:es[i]? with
  |none=>grind[aaX]
  |some p=>
   by_cases w:p∈web
   .grind[JJ]
   .rw[dh c w,dh c w,h2,h3];exact Ij h c w rs b
def frag_tog{L b:RZ}(hR:aV n es)(nd:es.Nodup)(f:wx n (fun u=>(Cb n web).getD u fF) es L)(c:wx n (fun u=>(Cb n web).getD u fF) es b):LJ n es web L=LJ n es web b:=by
 obtain⟨rs,-,h2,h3⟩:=aeR (es:=es) (web:=web) (fr:=Zo n (fun u=>(Cb n web).getD u fF) L) (fr':=Zo n (fun u=>(Cb n web).getD u fF) b)
  (fun j g e e' d a _ _=>(K2 hR nd f d a).trans (K2 hR nd c d a).symm) es.length
 unfold LJ;rw[h2,h3,Lm,Lm];rfl
theorem circ_hit(p:bX ⟨(n:Int),es⟩)(q:zW n es){F:Cs}(G:abK n r F)(s:∀x y,y∈r x↔y∈eN n es x):
  ∀v,v<n->∀k,k<=((Zh n es).getD v []).length->∃u:Nat,u<n/\itI ((N4 n F).getD v []) k (((Zh n es).getD v []).getD 0 0)=(u:Int):=by
 have hR:=p.GD;have m:∀f∈F,f.Nodup:=G.O.nd;let a:Nat->Nat->Nat:=fun v u=>nx (r v) u;have b:∀t∈F.flatMap ZO,t.1<n/\t.2.1<n/\t.2.2=a t.1 t.2.1:=fun t z=>by have⟨f,hf,h⟩:=KG.1 z;have⟨o,h2,h3⟩:=vh (m f hf) h;have⟨D,E,H⟩:=G.O.pv hf o;have hi:=G.O.df G.Rl hf o;refine⟨G.Rl.lt _ _ hi,by rw[h2];exact G.Rl.lt _ _ (G.Rl.sy _ _ hi),?_⟩;grind
 obtain⟨-,A⟩:=Vx (F.flatMap ZO) _ (BA n) b;have d:∀v u,u∈r v->MC (N4 n F) v u=(a v u:Int):=fun v u i=>by
  refine A v u (.inr ?_);have⟨f,hf,B,e⟩:=G.O.cover u v (G.Rl.sy _ _ i);have j:v∈f:=by grind[ZP]
  refine⟨_,KG.2 ⟨f,hf,trip_of (m f hf) j⟩,rfl,?_⟩;grind[c7]
 intro v j k _;have⟨w,hw⟩:=q.ne hR j;have⟨u,c,e⟩:=N8 ((aU hR).2 ⟨w,hw⟩);have hb:=(qG n es).back hR v;have i:u∈r v:=(s v u).2 (by rw[e];simp);have C:(Zh n es).getD v []=(u:Int)::kz c:=by rw[<-hb];show(eN n es v).map _=_;rw[e];rfl
 rw[C];have⟨k1,k2⟩:=HN (T:=(N4 n F).getD v []) (g:=a v) (P:=fun x=>x∈r v) (fun x l=>d v x l) (fun x l=>ZP l) i k;exact⟨it (a v) k u,G.Rl.lt _ _ (G.Rl.sy _ _ k2),hGr⟩
abbrev BP:=Fin 1000×Fin 1000
def qf(x:BP):Pr:=((x.1.1:Int),(x.2.1:Int))
def zM(x y:BP):Int:=if(x.1.1:Int)=(y.1.1:Int)then(x.2.1:Int)-(y.2.1:Int)else(x.1.1:Int)-(y.1.1:Int)
theorem Z9(x y:BP):Go.Proofs.ltOf zM x y=ltP (qf x) (qf y):=by rw[af2,XW];unfold Go.Proofs.ltOf zM qf;grind
theorem prB_inj{x y:BP}(h:qf x=qf y):x=y:=by grind[qf]
theorem swoB:Go.Sort.SWO (Go.Proofs.ltOf zM):=by
 refine⟨fun x=>?_,fun x y z a h2=>?_,fun x y z a h2=>?_⟩
 .grind[Z9,Nc]
 all_goals grind[Z9,Nc]
theorem flatK_B(xs:List BP):Go.Sort.flatK (fun x=>xM (qf x)) 2 xs.toArray=(Iu (xs.map qf)).toArray:=by
 rw[<-ai0];apply Array.ext
 .simp
 .intro i a h2;have b:i<xs.length*2:=by simpa using a
  have hi:i / 2<xs.length:=NH;simp only[Go.Sort.flatK,Array.getElem_map,Array.getElem_range];grind
def subB(a b:Fin 1000):aaY .i64 ((a.1:Int)-(b.1:Int))=(a.1:Int)-(b.1:Int):=ie _ NH NH
theorem X8(f:LA)(x y:BP)(h:aai):AC pG f 126 [UI (qf x),UI (qf y)] h fun v h'=>v=.int .i64 (zM x y)/\Le h h':=by
 refine AC.vF func126 ntmps126 results126 fun e=>?_;have⟨g,i,l1,w1,j⟩:=Tt e (xM (qf x));have⟨h2,k,l2,w2,d⟩:=Tt w1 (xM (qf y));have c:=l2.own _ _ j;refine Sk (Yb @Ci i k) ?_
 generalize h.next=a at*
 generalize g.next=b at*
 have s1:aaY .i64 ((qf x).1-(qf y).1)=(qf x).1-(qf y).1:=subB x.1 y.1;have s2:aaY .i64 ((qf x).2-(qf y).2)=(qf x).2-(qf y).2:=subB x.2 y.2;refine Sk (Pj @Dh @Z0 @Ip.eq_1 @EL (lK c) (HY c) (lK d) (HY d) s1 s2) ?_;refine Kl.intro (fun l=>?_) (fun hf=>?_)
 .refine Sk (Pj @Dh @Z0 @Ip.eq_1 @EL (lK c) (HY c) (lK d) (HY d) s1 s2) ?_;grind[qf,zM,Le.trans]
 .refine Sk (Pj @Dh @Z0 @Ip.eq_1 @EL (lK c) (HY c) (lK d) (HY d) s1 s2) ?_;grind[qf,zM,Le.trans]
def bp_of(hb:∀p∈ps,∃a b:Nat,p=((a:Int),(b:Int))/\a<1000/\b<1000):∃xs:List BP,ps=xs.map qf:=by
 induction ps with
 |nil=>exact⟨[],rfl⟩
 |cons p ps c=>have⟨xs,e⟩:=c fun q d=>hb q (by simp[d]);have⟨a,b,f,ha,sZ⟩:=hb p Ma;exact⟨(⟨a,ha⟩,⟨b,sZ⟩)::xs,by rw[e,f];rfl⟩
theorem sortB(xs:List BP):(xs.mergeSort fun x y=>!Go.Proofs.ltOf zM y x).map qf=aa5 (xs.map qf):=by grind[aa5,map_mergeSort,Z9]
theorem CH(u:LA){v:vV}(g:GP h v ps)(z:ps.length<=100000)(hb:∀p∈ps,∃a b:Nat,p=((a:Int),(b:Int))/\a<1000/\b<1000):
  AC pG u 49 [v,.func (.func 126) #[] #[]] h fun x h'=>x=.tuple #[]/\GP h' v (aa5 ps)/\∀f,Le f h->Z2 f v->Le f h':=by
 have A:∀args w,(callFunc 126 args).run pG w=.ok (.enter 126 args) w:=enters_of func126 Ji rfl;have⟨bs,i⟩:=bp_of hb;rcases g.cases z with⟨a,cap,rfl,rfl⟩|⟨id,c,cap,rfl,B,C,j,D,l,o⟩
 .refine(AC.ajW fun a' cap' w=>AnyF.slices_SortFunc_none {Tryz.aa5 with} a' cap' (.func (.func 126) #[] #[]) w).mono ?_;rintro x h' ⟨rfl,rfl⟩;exact⟨rfl,by simpa[aa5]using g,fun f q _=>q⟩
 .have r:bs.length=ps.length:=hGr;have key:=fun(blk off cap':Nat)(w:World) s hb (d:ps.length<=cap')=>
   AnyQ.slices_SortFunc_total (α:=BP) Tryz.aa5 2 Tryz.isAgg49 Tryz.sizeOf49 (fun x=>xM (qf x)) (fun _=>rfl) (fun x v E=>(Aq [qf x] v (by simpa[Iu]using E)).2) zM swoB 126 #[] blk off cap' bs.toArray w A
    (fun m os G _ x y=>AC.grown (args:=[UI (qf x),UI (qf y)]) _ ((X8 _ x y _).mono fun _ _ h=>h.1) (fun m=>ajc m (qf x) (qf y))) s hb (by simp;omega)
    (fun x y H h2=>by grind[Z9,Nc,prB_inj])
  refine(AC.ofRowK (k:=2) (xs:=Iu ps) (ys:=Iu (aa5 ps)) B C (Ta _) (by rw[Ta,ZS]) o l D (fun y F=>(Aq ps y F).1) (Aq _) fun blk off cap' w s hb d=>?_).mono ?_
  .have t:Go.Sort.HoldsK (fun x:BP=>xM (qf x)) 2 w blk off bs.toArray:=by
    unfold Go.Sort.HoldsK;rw[flatK_B,<-i];exact s
   have k:=key blk off cap' w t hb d;rw[show bs.toArray.size=ps.length by simp[r]]at k;refine k.mono ?_;rintro e w' ⟨rfl,n,os,rfl⟩;refine⟨rfl,n,os,?_⟩;unfold Go.Proofs.sortWorldK Go.Sort.putRowK;rw[flatK_B,sortB,<-i];rfl
  .rintro x h' ⟨rfl,rfl⟩;refine⟨rfl,?_,fun f q af=>q.put _ (af id rfl)⟩;rw[GP,ZS];refine⟨by rw[Ta,ZS],.inr ⟨id,_,cap,rfl,aai.Y3 _ _ _,?_,j⟩⟩;grind[Ta,ZS]
variable {F1 F2:Cs} {on:List Bool} {v:Value}
theorem AC.side{P:Program}{d:LA}{f:FuncId}{args:xLV}:∀(X:II)(h:aai)(Q:vV->aai->Prop),(∀b∈X,h.own b≠Y)->X.Nodup->AC P d f args (rem X h) Q->
  AC P d f args h fun x h'=>∃g,Q x g/\Le g h'/\∀b∈X,g.own b=Y/\h'.own b=h.own b
 |[],h,Q,_,_,q=>q.mono fun x h' i=>⟨h',i,Le.refl _,fun b hb=>by cases hb⟩
 |a::l,h,Q,e,nd,q=>by
  have q:AC P d f args ((rem l h).kill a) Q:=q;have j:∀b∈l,h.own b≠Y:=fun b hb=>e b (by simp[hb]);have⟨k,nl⟩:=eR.1 nd;have⟨o,m⟩:=uV.1 (e a Ma);have c:(rem l h).own a=Z o:=by grind[DC]
  refine(AC.side l h _ j nl (AC.frame c q)).mono ?_;grind[Le.Y5,Le.trans,Le.own,aai.Y3,aai.By]
theorem ShS.ndX(S:ShS g h B O n rows bv fv iv lv us ws cs on F1 F2 left):(B::O::(bl fv++bl iv++bl lv)).Nodup:=by
 have d:=S.sep.TE;have n1:=S.nb fv Ma;have c:=S.nb iv Ma;have n3:=S.nb lv Ma;have nd:∀v,(bl v).Nodup:=fun v=>by grind[bl]
 simp only[eR,HV,vZ,Zr,ZT,not_or];refine⟨⟨S.bO,⟨n1.1,c.1⟩,n3.1⟩,⟨⟨n1.2,c.2⟩,n3.2⟩,⟨nd _,nd _,fun a ha b hb e=>?_⟩,nd _,fun a ha b hb e=>?_⟩
 .subst e;exact d 0 1 fv iv a NH rfl rfl ha hb
 .subst e;rcases ha with ha|ha
  .exact d 0 2 fv lv a NH rfl rfl ha hb
  .exact d 1 2 iv lv a NH rfl rfl ha hb
theorem ShS.side{i:LA}{P:Program}{g h:aai}{B O n:Nat}{rows:AM}{bv c d e:vV}{us ws cs:xLV}{on:List Bool}{j m:Cs}{left:List wW}(S:ShS g h B O n rows bv c d e us ws cs on j m left){f:FuncId}{args:xLV}{Q:vV->aai->Prop}(q:AC P i f args (Hg h B O c d e) fun x a=>Le (Hg h B O c d e) a/\Q x a):
  AC P i f args h fun x h'=>∃a,Q x a/\ShS a h' B O n rows bv c d e us ws cs on j m left/\Le h h'/\Le (Hg h B O c d e) a/\Le a h':=by
 refine(AC.side _ h _ (fun b hb=>(S.own (HX.1 hb)).2) S.ndX q).mono ?_;rintro x h' ⟨a,⟨l1,p⟩,l2,k⟩;have l:Le h h':=⟨by have:=(l1.trans l2).ext;rw[this];exact vL _,fun b o r=>by grind[Le.own,Hg,DC]⟩;have⟨s,l3⟩:=S.reg;grind[ShS.up,ShS.ground,HX]
def okc(k:Nat)(v:vV):Prop:=∃a n c,v=.slice a n c/\((n<=c/\c<UNK)\/(c=UNK+k/\a.isSome=tT))
def GS.okc{k n:Nat}{h:aai}{v:vV}{cs:xLV}(g:GS k h v n cs):okc k v:=by
 obtain⟨-,⟨rfl,b⟩|⟨id,c,cap,rfl,d,e,rfl|⟨rfl,a⟩⟩⟩:=g
 .exact⟨Y,0,0,rfl,.inl ⟨qL0 _,WY⟩⟩
 .exact⟨_,_,_,rfl,.inr ⟨rfl,rfl⟩⟩
 .exact⟨_,_,_,rfl,.inl ⟨qL0 _,ahD a WY⟩⟩
theorem CS.drop{k n i:Nat}{h:aai}{a:Addr}{c c':Nat}{cs:xLV}(r:CS k h (sL (Z a) n c) n cs)(hi:i<=n):CS k h (sL (Z (Ip a (i*k))) (n-i) c') (n-i) (cs.drop (i*k)):=by refine⟨⟨_,_,rfl,fun _=>rfl⟩,by grind[CS.len,Nat.sub_mul],fun j x b=>?_⟩;rw[Ki]at b;have:=r.get _ x b;grind[fA,Ub]
theorem PR.cut(r:PR h v ps)(o:okc 2 v)(hi:i<=ps.length):∃v',abf pG 22 v (Z (.int .i64 i)) Y Y=Z v'/\PR h v' (ps.drop i)/\okc 2 v':=by
 have n1:(0:Int)<=i:=NH;have k:(i:Int)<=ps.length:=NH;have⟨l,d,m,hs⟩:=r.sl;have⟨a,n,c,e,f⟩:=o;rw[m]at e;injection e with p s e3;subst p s e3 m;rcases f with⟨t,h2⟩|⟨rfl,h2⟩
 .have b:¬UNK<=d:=aku.2 h2;by_cases q:d=i
  .have:i=ps.length:=NH;subst q this;refine⟨.slice l 0 0,?_,?_⟩
   .simp[abf,eY,qS5,WE,abm,abL,n1,b]
   .rw[qL251 (qL0 _)];exact⟨⟨⟨_,_,rfl,Ma⟩,rfl,fun j x g=>by cases g⟩,⟨_,_,_,rfl,.inl ⟨qL0 _,WY⟩⟩⟩
  .cases l with
   |none=>
    have u:ps.length=0:=hGr;obtain rfl:ps=[]:=fE.1 u;refine⟨.slice Y 0 (d-i),?_,?_⟩
    .have:i=0:=hGr;subst this;simp[abf,eY,qS5,WE,abm,abL,b]
    .rw[drop_nil];exact⟨⟨⟨_,_,rfl,Ma⟩,rfl,fun j x g=>by cases g⟩,⟨_,_,_,rfl,.inl ⟨aax _,NH⟩⟩⟩
   |some a=>
    refine⟨sL (Z (Ip a (i*2))) (ps.length-i) (d-i),?_,?_⟩
    .simp[abf,eY,qS5,WE,abm,abL,n1,k,b,t,q]
    .have:=CS.drop (c':=d-i) r hi;rw[<-za]at this;exact⟨by grind[PR.eq_1],⟨_,_,_,rfl,.inl ⟨NH,NH⟩⟩⟩
 .obtain⟨a,rfl⟩:=mJ.1 h2;refine⟨sL (Z (Ip a (i*2))) (ps.length-i) (UNK+2),?_,?_⟩
  .simp[abf,eY,qS5,WE,abm,abL,n1,k]
  .have:=CS.drop (c':=UNK+2) r hi;rw[<-za]at this;exact⟨by grind[PR.eq_1],⟨_,_,_,rfl,.inr ⟨rfl,rfl⟩⟩⟩
theorem DA(g:LA)(v:vV)(ps:xLP)(h:aai)(e:PR h v ps)(p:ps.length<=100000):AC pG g 61 [v] h fun x h'=>GP h' x ps/\Le h h'/\Z2 h x:=by
 obtain⟨a,c,rfl,hs⟩:=e.sl;refine AC.vF qS32 ntmps61 results61 fun d=>?_;cases a with
 |none=>
  have i:ps=[]:=by
   cases ps<;>grind
  subst i;simp only[HO,seval,aEq,eY,Option.isNone_none];exact⟨GP.nil _,Le.refl _,fun b hb=>by grind[blk]⟩
 |some a=>
  have⟨f,j,l1,w1,k⟩:=Tt d []
  have mk:aas pG h 22 0 []=Z (sL (Z h.next) 0 0,f):=by rw[<-j];rfl
  have q:h.own h.next=Y:=(Le.refl h).next d (qL0 _)
  have l:GP f (sL (Z h.next) 0 0) []:=GS.full k rfl WY
  have m:Z2 h (sL (Z h.next) 0 0):=fun b hb=>by injection hb with hb;grind
  obtain⟨r,s,n,t,u,o,-⟩:=GP.join l w1 (e.le l1) (by simp;omega);have⟨l6,w⟩:=o h l1 m;simp only[HO,seval,aEq,eY,akN,mk,n];grind
theorem bX.tail{n:Int}(a:bX ⟨n,es⟩):bX ⟨n,es.drop 1⟩:=by
 refine⟨a.n0,a.n1,?_,fun i hi p b=>?_⟩
 .have:=a.len;grind
 .simp only[qL233]at hi;simp only[Ki]at b ⊢;have⟨c,h2⟩:=a.ok (1+i) hGr p b;grind
end
end Go.Fw
