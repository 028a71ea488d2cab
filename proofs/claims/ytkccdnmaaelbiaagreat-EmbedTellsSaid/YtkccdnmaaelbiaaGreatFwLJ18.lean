/- A text. -/
import Derived.Test.YtkccdnmaaelbiaaGreatFwLJ13
set_option linter.all false
set_option maxRecDepth 99999
set_option maxHeartbeats 9999999
open Go.Proofs
namespace Go.Fw
section
attribute [local instance] Classical.propDecidable
attribute [local irreducible] Kp MQ lU rS KO KN KX KE VK Kl ZJ TC aab
variable {B O a b c i n:Nat} {bv fv iv lv:Value} {cs us ws:List Value} {es:List Pr} {g h h':aae} {left:List wW} {rows:AM}
theorem Jd(hi:i<left.length):LF left i=left[i].fits.length:=by grind[LF]
theorem Vr{a:List wW}{φ:wW->wW}{q c:wW}(hi:i<a.length)(b:a.drop i=q::a.drop (i+1)):((a.take i).map φ++a.drop i).set i c=(a.take i).map φ++c::a.drop (i+1):=by have d:((a.take i).map φ).length=i:=pw;rw[b,acw _ _ NH,d,Q4];rfl
def Xi(h:a<=b)(h2:b<=c+2)(h3:c<=594):a<=100000:=NH
def ig(h:a<=b)(h2:b<=c+2)(h3:c<=594):a+1<=100000:=NH
def sr(h:a<=n)(h2:(n:Int)<=200):a<=100000:=NH
theorem app_b{α β:Type}{L:List β}{ps:List α}{φ:α->β}(h:L.length<=594)(h2:ps.length<=594)(i:Nat):(L++(ps.take i).map φ).length<=100000:=pw
theorem le_4(h:a<=n)(h2:(n:Int)<=200):a<=40000:=NH
theorem ShS.other{on:List Bool}{d e:Cs}(S:ShS g h B O n rows bv fv iv lv us ws cs on d e left)(l:Le g h')(c:∀z o,InS B O fv iv lv z->h.own z=some o->h'.own z=some o):ShS g h' B O n rows bv fv iv lv us ws cs on d e left:=
 {S with
  f:=⟨c _ _ (.inl rfl) S.f.o⟩
  oO:=c _ _ (.inr (.inl rfl)) S.oO
  gF:=GS.kept S.gF fun b o hb a=>c b o (.inr pw) a
  gI:=GS.kept S.gI fun b o hb a=>c b o (.inr pw) a
  gL:=GS.kept S.gL fun b o hb a=>c b o (.inr pw) a
  sep:=⟨S.sep.TE,fun i u b j hb=>by obtain⟨o,a⟩:=iy.1 (S.sep.own i u b j hb);rw[c b o (.inr (by grind[List.mem_of_getElem?])) a];simp,S.sep.ap,l⟩}
theorem lay_any(W0:LA){H:Nat->Nat->Prop}{m:kR}(S:ShS g h B O n (Zh n es) bv fv iv lv us ws cs m.on m.Jv m.Jv m.left)(hr:bX ⟨(n:Int),es⟩)(D:QG (eN n es))(I:Z8 n es H m)(eG:m.left≠[]):
  AC Tryz.prog W0 53 [.pointer (some ⟨B,0,none⟩)] h fun x h'=>∃g',Le g g'/\Le g' h'/\((AU n (Zh n es) m=none/\x=.bool false)\/∃a8 eH eI eM eO eP eQ,AU n (Zh n es) m=some a8/\x=.bool true/\ShS g' h' B O n (Zh n es) bv eH eI eM eO eP eQ a8.on a8.Jv a8.Jv a8.left):=by
 have hR:=hr.GD;have hA:=hr.q9;have ba:(n:Int)<=200:=hr.n1;have U:es.length<=594:=hr.len;have hx:=I.Vw;have aK:=I.My;have df:0<m.left.length:=amm.2 eG;refine AC.vE ⟨Tryz.func53,rfl,WY⟩ Tryz.ntmps53 Tryz.results53 fun hC=>?_;simp only[Br,seval];have J:=sB B 5 NH;have eS:=sB B 3 NH;have eT:=sB B 2 NH;have bb:=fun k hk=>S.gL.ad3 (k:=k) hk;have eL:=fun k r (hk:k<m.left.length)=>eA3 (k:=k) (r:=r) S.gL hk;have cd:∀k (hk:k<m.left.length),∃c,acd Tryz.prog h 49 (abv lv (k*3+2))=some c/\∀g',ahz Tryz.prog g' 49 c=some (.int .i64 (m.left[k].fits.length:Nat)):=fun k hk=>by obtain⟨a,b,c,q1,q2,q3,q4,q5,q6⟩:=S.at_ hk;refine⟨c,by rw[Bj Mb rfl];exact S.gL.cs.get _ _ q3,fun g'=>?_⟩;have:=q6.DH g';rwa[y6]at this
 refine Sk (Yb J S.f.l5 S.lenL) ?_;refine aab.intro (fun k fr X=>∃i:Nat,k=m.left.length-i/\i<=m.left.length/\fr=mkF [(0,.pointer (some ⟨B,0,none⟩)),(3,.int .i64 (afO m.left i:Nat)),(20,.int .i64 (m.left.length:Nat)),(21,.int .i64 (i:Nat))]/\X=h)
  m.left.length [(0,.pointer (some ⟨B,0,none⟩)),(3,.int .i64 (0:Nat)),(20,.int .i64 (m.left.length:Nat)),(21,.int .i64 (0:Nat))] hAs ⟨0,rfl,WA _,rfl,rfl⟩ ?_
 rintro k fr X aP ⟨i,rfl,hi,rfl,rfl⟩;refine Uy ?_;refine Kl.intro (fun ht=>?_) (fun hf=>?_)
 .have s:i<m.left.length:=CC ht;clear ht;have F:afO m.left i<m.left.length:=by
   have:=(EY m.left i).1;rcases Nat.eq_zero_or_pos i with rfl|h
   .exact df
   grind
  obtain⟨c1,q1,q2⟩:=cd i s;obtain⟨c2,q3,q4⟩:=cd _ F;have aw:=Tw i NH;have e1:=Jd s;have e2:=Jd F;refine Uy ?_;refine gh (tA [0,1,2,3,4,5,6,7,8,9,10,11,12,13,14,15,16,17,18] .done) ?_;by_cases c:m.left[i].fits.length<(m.left[afO m.left i]).fits.length
  .have d:decide (((m.left[i].fits.length:Nat):Int)<(((m.left[afO m.left i]).fits.length:Nat):Int))=true:=XJ NH;have eb:afO m.left (i+1)=i:=by grind[afO.eq_2]
   simp only[HO,seval,Qg,J,S.f.l5,bb i s,bb _ F,pf2,eL i 2 s,eL _ 2 F,q1,q2,q3,q4,d,aw];exact tn (m.left.length-(i+1)) [(0,.pointer (some ⟨B,0,none⟩)),(3,.int .i64 (i:Nat)),(20,.int .i64 (m.left.length:Nat)),(21,.int .i64 (i+1:Nat))] (JS s) hAs ⟨i+1,rfl,s,by rw[eb];rfl,rfl⟩
  .have d:decide (((m.left[i].fits.length:Nat):Int)<(((m.left[afO m.left i]).fits.length:Nat):Int))=false:=Sb NH;have eb:afO m.left (i+1)=afO m.left i:=by grind[afO.eq_2]
   simp only[HO,seval,Qg,J,S.f.l5,bb i s,bb _ F,pf2,eL i 2 s,eL _ 2 F,q1,q2,q3,q4,d,aw];exact tn (m.left.length-(i+1)) [(0,.pointer (some ⟨B,0,none⟩)),(3,.int .i64 (afO m.left i:Nat)),(20,.int .i64 (m.left.length:Nat)),(21,.int .i64 (i+1:Nat))] (JS s) hAs ⟨i+1,rfl,s,by rw[eb];rfl,rfl⟩
 have aa:m.left.length<=i:=vp hf;obtain rfl:i=m.left.length:=NH;clear aa hf hi cd;have F:=(EY m.left m.left.length).1 df
 have b3:AU n (Zh n es) m=if(m.left.getD (afO m.left m.left.length) default).fits.length=0 then none else
   if(J6 n (Zh n es) m.on (m.left.getD (afO m.left m.left.length) default)).length<2 then none else
   some ⟨tV m.on (J6 n (Zh n es) m.on (m.left.getD (afO m.left m.left.length) default)),kY m.Jv ((m.left.getD (afO m.left m.left.length) default).fits.headD 0) (J6 n (Zh n es) m.on (m.left.getD (afO m.left m.left.length) default)),
    (m.left.eraseIdx (afO m.left m.left.length)).map (GF (kY m.Jv ((m.left.getD (afO m.left m.left.length) default).fits.headD 0) (J6 n (Zh n es) m.on (m.left.getD (afO m.left m.left.length) default))) ((m.left.getD (afO m.left m.left.length) default).fits.headD 0) m.Jv.length)++
    (vX n (tV m.on (J6 n (Zh n es) m.on (m.left.getD (afO m.left m.left.length) default))) (V8 n (m.left.getD (afO m.left m.left.length) default).zp (J6 n (Zh n es) m.on (m.left.getD (afO m.left m.left.length) default)))).map fun q=>{q with fits:=zh (kY m.Jv ((m.left.getD (afO m.left m.left.length) default).fits.headD 0) (J6 n (Zh n es) m.on (m.left.getD (afO m.left m.left.length) default))) q.Fm ((m.left.getD (afO m.left m.left.length) default).fits++[m.Jv.length])}⟩:=rfl
 rw[b3];clear b3;obtain⟨a,b,c,q1,q2,q3,q4,q5,q6⟩:=S.at_ F;have eU:=S.gL.load3 F q1 q2 q3;have eV:=bb _ F;have ae:m.left[afO m.left m.left.length]∈m.left:=j9 F;have eW:m.left.getD (afO m.left m.left.length) default=m.left[afO m.left m.left.length]:=D4 F;rw[eW];generalize eX:afO m.left m.left.length=M at*;generalize hp:m.left[M]=p at*;obtain⟨h1,h2,e1,e2,l2,w2,oP,-⟩:=Od aP q4.sl.one q5.one q6.one;obtain⟨S2,bZ⟩:=(S.up l2).pV
 have hD:∀z,InS B O fv iv lv z->z≠X.next:=fun z hz e=>by
  have:=(S.own hz).2;rw[e]at this
  exact this ((Le.refl X).next aP (qL0 _))
 have gP:(Hg h2 B O fv iv lv).own X.next=some (.cells [a,b,c]):=by grind[Hg,Th,HX]
 generalize X.next=P at*
 have eZ:=pB P 0 NH;have hE:=pB P 1 NH;have cf:=pB P 2 NH;have lc:=fun g'=>q6.DH g';rw[y6]at lc;simp only[HO,seval,J,S.f.l5,eV,eU,e1,e2,cf,lP2 oP,lc];by_cases c0:p.fits.length=0
 .have d0:decide (((p.fits.length:Nat):Int)=0)=true:=XJ NH;refine Sk (XC @ahI d0) ?_;grind[ShS.le]
 have d0:decide (((p.fits.length:Nat):Int)=0)=false:=Sb NH;rw[aal c0];have dj:p.fits.headD 0∈p.fits:=by grind[Lt]
 obtain⟨e0,wh,cg,b0,hF⟩:=I.way_face hR hA D ae dj;rw[aal NH];have dk:=((I.Aa p ae).fits _).1 dj;have ck:InR n p.zp:=fun e he=>hR e ((I.Aa p ae).sub.subset he);have hG:=I.Ca ae;have hI:=I.UO hR ae;have dm:=I.Xg ae;have e3:=I.fS hR ae;have dp:=q4.le bZ;have e4:=q5.le Nn.RP bZ;have dq:=q6.le Nn.RP bZ;refine Sk (Yb @ahI d0 (OU oP)) ?_;refine kCi Tryz.func98 (way_any W0 B n bv _ fv iv lv a b c es m.on p h2 S2.f (S2.cB.le (Nn.RL Nn.RP) S2.le) S2.rlO S2.ZA (dp.le S2.le) (e4.le Nn.RP S2.le) q6.one hR ck e3 NH NH NH NH) ?_;rintro wv h3 w3 ⟨gw,l3,aw3⟩;obtain⟨S3,bg⟩:=(S2.up l3).pV;have dv:GI (Hg h3 B O fv iv lv) wv (aaa (J6 n (Zh n es) m.on p)):=Pv (h:=h3) S2 gw aw3;have dz:=bg.own _ _ gP;have hJ:∀x∈J6 n (Zh n es) m.on p,x<n:=b0;obtain⟨e6,hK⟩:=I.face_lt dk.1;have hL:=zh;generalize dA:J6 n (Zh n es) m.on p=way at*;have lw:=fun g'=>gw.rl.DH g';rw[y6]at lw;have dw:decide (((way.length:Nat):Int)<2)=false:=Sb NH;have e7:adA .i64 ((M:Int)+1)=((M+1:Nat):Int):=by grind[Tw]
 simp only[HO,seval,lw,dw,J,S3.f.l5,e7];refine kCi Tryz.func99 (F5 W0 S3.gL S3.cuL S3.c1 F NH) ?_;rintro w h4 w4 ⟨gd,fb,fc,fe,fg⟩;obtain⟨h5,e5,S5,w5⟩:=S3.delL w4 F gd fb fc fe fg;have l5g:=S5.le;have fh:=l5g.own _ _ dz;have fi:=(dq.le Nn.RP bg).le Nn.RP l5g;have dB:=q6.TA 0 (by rw[y6];omega);have dE:=fi.Uc 0 (by rw[y6];omega);have t0:0<p.fits.length:=NH;rw[sY t0,<-headN0 t0]at dE;simp only[P2]at dB;generalize hM:p.fits.headD 0=f at*;generalize hN:(cs.take (M*3)++cs.drop ((M+1)*3))=fm at*;refine Sk (XC J e5) ?_;refine gh (tA [0,1,2,3,4,5,6,7,8,9,10] .done) ?_;refine CO (rE cf (lP2 fh) dB dE eS S5.f.l3 S5.LF) ?_;have fp:=Kz W0 S5 (f:=f) (way:=way) dk.1 dv e0 wh cg e6 b0 NH NH NH NH;refine kCi Tryz.func100 fp ?_;rintro x h6 w6 ⟨g6,A,C,bh,bj,S6,cp⟩;have hP:(m.left.eraseIdx M).length=m.left.length-1:=pw;have cq:∀q∈m.left.eraseIdx M,q∈m.left:=by grind[List.mem_of_mem_eraseIdx]
 generalize hQ:m.left.eraseIdx M=K at*;have dF:(kY m.Jv f way).length=m.Jv.length+1:=Yz;generalize hS:kY m.Jv f way=N at*;have hT:=sB B 0 NH;refine Sk (Yb J S6.f.l5 S6.lenL) ?_;refine aab.intro (fun k fr hz=>∃(i:Nat)(g7:aae)(bk:List Value)(L:List wW),k=K.length-i/\i<=K.length/\fr=mkF [(0,.pointer (some ⟨B,0,none⟩)),(5,.pointer (some ⟨P,0,none⟩)),(6,wv),(7,.int .i64 (f:Nat)),(8,.int .i64 (m.Jv.length:Nat)),(89,w),(90,.int .i64 (K.length:Nat)),(91,.int .i64 (i:Nat))]/\
   ShS g7 hz B O n (Zh n es) bv A C w bh bj bk m.on N N L/\Le g6 g7/\L=(K.take i).map (GF N f m.Jv.length)++K.drop i)
  K.length [(0,.pointer (some ⟨B,0,none⟩)),(5,.pointer (some ⟨P,0,none⟩)),(6,wv),(7,.int .i64 (f:Nat)),(8,.int .i64 (m.Jv.length:Nat)),(89,w),(90,.int .i64 (K.length:Nat)),(91,.int .i64 (0:Nat))] hAs
  ⟨0,g6,fm,K,rfl,WA _,rfl,S6,Le.refl _,Ma⟩ ?_
 rintro k fr hz cr ⟨i,g7,bk,L,rfl,hi,rfl,S7,aT,aV⟩;have dG:L.length=K.length:=by rw[aV,eR,vY,iB,oK];omega
 refine Uy ?_;refine Kl.intro (fun ht=>?_) (fun hf=>?_)
 .have s:i<K.length:=CC ht;clear ht;have aW:i<L.length:=NH;have cx:L[i]=K[i]:=by
   have h1:L[i]?=some K[i]:=by rw[aV,Og (by rw[vY,iB];omega),vY,iB,Nat.min_eq_left NH,Q4,im,Qn];grind
   grind
  obtain⟨a',b',c',r1,r2,r3,r4,r5,r6⟩:=S7.at_ aW;have cz:=S7.gL.load3 aW r1 r2 r3;have bm:=S7.gL.ad3 aW;have fq:=eA3 (r:=2) S7.gL aW;have dH:agQ Tryz.prog 125 (.pointer (some (abv w (i*3)))) 2=some (.pointer (some (abv w (i*3+2)))):=by rw[pf2,fq]
  rw[cx]at r4 r5 r6;have b1:=cq _ (j9 s);have b4:=I.fS hR b1;have b5:=I.UO hR b1;have aE:=I.Xg b1;have fs:=(I.Aa _ b1).fits;generalize dI:K[i]=q at*;obtain⟨h8,h9,e8,e9,l9,w9,oQ,l8⟩:=Od cr r4.sl.one r5.one r6.one;have S9:=S7.up l9;have aw:=Tw i NH
  have dQ:∀z,InS B O A C w z->z≠hz.next:=fun z G e=>by
   have:=(S7.own G).2;rw[e]at this
   exact this ((Le.refl hz).next cr (qL0 _))
  generalize hz.next=Q at*
  have ar:=pB Q 1 NH;have ag:=pB Q 2 NH;have az:K.take (i+1)=K.take i++[q]:=by rw[EL s,dI]
  have dK:K.drop i=q::K.drop (i+1):=by rw[Yi s,dI]
  have aF:∀q':wW,L.set i q'=(K.take i).map (GF N f m.Jv.length)++q'::K.drop (i+1):=fun q'=>by rw[aV];exact Vr s dK
  refine Sk (bG bm cz e8 e9 ag (lP2 oQ)) ?_;refine kCi Tryz.func101 (W3 W0 c' (aaa q.fits) ((f:Nat):Int) h9 (r6.le Nn.RP S9.le) (by rw[y6];omega)) ?_;rintro y aX ft ⟨rfl,rfl⟩;by_cases cm:f∈q.fits
  rotate_left
  .have d:decide (((f:Nat):Int)∈aaa q.fits)=false:=Sb fun hm=>cm (by
    obtain⟨z,G,e⟩:=N8.1 hm;have:z=f:=NH;grind)
   simp only[HO,seval,d,aw];refine tn (K.length-(i+1)) [(0,.pointer (some ⟨B,0,none⟩)),(5,.pointer (some ⟨P,0,none⟩)),(6,wv),(7,.int .i64 (f:Nat)),(8,.int .i64 (m.Jv.length:Nat)),(89,w),(90,.int .i64 (K.length:Nat)),(91,.int .i64 (i+1:Nat))] (JS s) hAs
    ⟨i+1,g7,bk,L,rfl,s,rfl,S9,aT,?_⟩
   rw[aV,az,dK,MY,bC];have:GF N f m.Jv.length q=q:=by unfold GF;grind
   simp[this]
  have d:decide (((f:Nat):Int)∈aaa q.fits)=true:=XJ (N8.2 ⟨f,cm,rfl⟩);refine Sk d ?_;have R:∀h',Le aX h'->acd Tryz.prog h' 75 ⟨B,5,none⟩=some w/\acd Tryz.prog h' 49 ⟨Q,1,none⟩=some b'/\acd Tryz.prog h' 49 ⟨Q,2,none⟩=some c':=fun h' l=>⟨(S9.f.le l).l5,lP1 (l.own _ _ oQ),lP2 (l.own _ _ oQ)⟩;obtain⟨cC,cE,cM⟩:=R aX (Le.refl _);have aH:∀z∈q.fits++[m.Jv.length],z<N.length:=fun z G=>by
   rw[dF];rcases yM.1 G with h|h
   .have:=((fs z).1 h).1;omega
   .have:=jf.1 h;omega
  have aJ:aaa q.fits++[((m.Jv.length:Nat):Int)]=aaa (q.fits++[m.Jv.length]):=by simp[aaa]
  obtain⟨ha,ea,la,wa,oa⟩:=Tt ft [.int .i64 ((m.Jv.length:Nat):Int)];obtain⟨fu,fx,fy⟩:=R ha la;refine gh (tA [0,1,2,3,4,5,6,7,8,9,11] (.ch 10 [9] (JQ 12 [11] (JQ 13 [10,12] (JQ 14 [5,7,13] (tA [15,16] (JQ 17 [0,1,2,3,4,5,6,7,8,9,10,11,12,13,14,16] .done))))) (JQ 12 [11] (JQ 10 [9] (JQ 13 [10,12] (JQ 14 [5,7,13] (tA [15,16] (JQ 17 [0,1,2,3,4,5,6,7,8,9,10,11,12,13,14,16] .done)))))))) ?_;simp only[HO,seval,Qg,J,cC,fu,ar,ag,cE,fx,cM,fy,DQ,ea];refine⟨?_,?_⟩
  .refine kGi qS28 (QY W0 c' (aaa q.fits) aX (r6.le Nn.RP S9.le) (by rw[y6];exact Xi aE aK U)) ?_;rintro y sZ wb ⟨gb,lb,ab⟩;obtain⟨bo,br,bx⟩:=R sZ lb;obtain⟨av,fz,hc,dL,ec,aB,wc,fB,cN,fC⟩:=gb.push wb ((m.Jv.length:Nat):Int) (by rw[y6];grind);obtain⟨E,fD⟩:=cN aX lb ab;rw[aJ]at aB;obtain⟨dM,dO,dS⟩:=R fz (lb.trans fB);obtain⟨bB,bF,bH⟩:=R hc E;simp only[DQ]at dL;simp only[HO,seval,Qg,J,cC,bo,dM,bB,ar,ag,cE,br,dO,bF,cM,bx,dS,bH,DQ,dL,ec];obtain⟨fE,fJ,fL⟩:=R hc E;refine kGi qS30 (NR W0 B n bv _ A C w b' av N q.Fm (q.fits++[m.Jv.length]) hc (S9.f.le E) (S9.rlI.le (Nn.RL Nn.sJ) E) ((r5.le Nn.RP S9.le).le Nn.RP E) aB.rl b4 aH (sr b5 ba) (by rw[eR,qH];exact ig aE aK U)) ?_;rintro y hd wd ⟨gy,cP,ay⟩;have bI:=E.trans cP;obtain⟨cR,cU,cW⟩:=R hd bI;obtain⟨Sd,cZ⟩:=(S9.up bI).pV;have c3:GI (Hg hd B O A C w) y (aaa (zh N q.Fm (q.fits++[m.Jv.length]))):=Pv (h:=hd) S9 gy (fun b hb=>E.none (ay b hb));obtain⟨he,ee,Se,we⟩:=Sd.setT wd aW c3.rl;rw[cx]at Se;simp only[HO,seval,Qg,J,ar,ag,cR,cU,cW,bm,dH,ee,aw];refine tn (K.length-(i+1)) [(0,.pointer (some ⟨B,0,none⟩)),(5,.pointer (some ⟨P,0,none⟩)),(6,wv),(7,.int .i64 (f:Nat)),(8,.int .i64 (m.Jv.length:Nat)),(89,w),(90,.int .i64 (K.length:Nat)),(91,.int .i64 (i+1:Nat))] (JS s) hAs
    ⟨i+1,_,_,_,rfl,s,rfl,Se,aT.trans cZ,?_⟩
   rw[aF,az,MY,bC];have:GF N f m.Jv.length q={q with fits:=zh N q.Fm (q.fits++[m.Jv.length])}:=by unfold GF;grind
   simp[this]
  .refine kGi qS28 (QY W0 c' (aaa q.fits) ha ((r6.le Nn.RP S9.le).le Nn.RP la) (by rw[y6];exact Xi aE aK U)) ?_;rintro y sZ wb ⟨gb,lb,ab⟩;obtain⟨bo,br,bx⟩:=R sZ (la.trans lb)
   have ro:RL RP sZ (.slice (some ⟨aX.next,0,none⟩) 1 1) [((m.Jv.length:Nat):Int)]:=RL.Wh (RS.whole (lb.own _ _ oa) rfl)
   obtain⟨av,hc,ec,aB,wc,cN,fC⟩:=GI.join gb wb ro (by rw[y6,qH];grind);obtain⟨fN,fD⟩:=cN ha lb ab;have E:=la.trans fN;rw[aJ]at aB;obtain⟨bB,bF,bH⟩:=R hc E;refine CO (Da J cC bo bB ar ag cE br bF cM bx bH @DQ ec) ?_;obtain⟨fE,fJ,fL⟩:=R hc E;refine kGi qS30 (NR W0 B n bv _ A C w b' av N q.Fm (q.fits++[m.Jv.length]) hc (S9.f.le E) (S9.rlI.le (Nn.RL Nn.sJ) E) ((r5.le Nn.RP S9.le).le Nn.RP E) aB.rl b4 aH (sr b5 ba) (by rw[eR,qH];exact ig aE aK U)) ?_;rintro y hd wd ⟨gy,cP,ay⟩;have bI:=E.trans cP;obtain⟨cR,cU,cW⟩:=R hd bI;obtain⟨Sd,cZ⟩:=(S9.up bI).pV;have c3:GI (Hg hd B O A C w) y (aaa (zh N q.Fm (q.fits++[m.Jv.length]))):=Pv (h:=hd) S9 gy (fun b hb=>E.none (ay b hb));obtain⟨he,ee,Se,we⟩:=Sd.setT wd aW c3.rl;rw[cx]at Se;simp only[HO,seval,Qg,J,ar,ag,cR,cU,cW,bm,dH,ee,aw];refine tn (K.length-(i+1)) [(0,.pointer (some ⟨B,0,none⟩)),(5,.pointer (some ⟨P,0,none⟩)),(6,wv),(7,.int .i64 (f:Nat)),(8,.int .i64 (m.Jv.length:Nat)),(89,w),(90,.int .i64 (K.length:Nat)),(91,.int .i64 (i+1:Nat))] (JS s) hAs
    ⟨i+1,_,_,_,rfl,s,rfl,Se,aT.trans cZ,?_⟩
   rw[aF,az,MY,bC];have:GF N f m.Jv.length q={q with fits:=zh N q.Fm (q.fits++[m.Jv.length])}:=by unfold GF;grind
   simp[this]
 have aa:K.length<=i:=vp hf;obtain rfl:i=K.length:=NH;rw[HV (qL0 _),qL207 (qL0 _),Ua]at aV;clear aa hf hi;have dT:=aT.own _ _ (cp.own _ _ dz);have c4:=dv.le (cp.trans aT);have dV:=fun g'=>c4.rl.DH g';rw[y6]at dV;refine Sk dV ?_;refine aab.intro (fun k fr hy=>∃(i:Nat),k=way.length-i/\i<=way.length/\fr=mkF [(0,.pointer (some ⟨B,0,none⟩)),(5,.pointer (some ⟨P,0,none⟩)),(6,wv),(8,.int .i64 (m.Jv.length:Nat)),(118,wv),(119,.int .i64 (way.length:Nat)),(120,.int .i64 (i:Nat))]/\
   ShS g7 hy B O n (Zh n es) bv A C w bh bj bk (tV m.on (way.take i)) N N L)
  way.length [(0,.pointer (some ⟨B,0,none⟩)),(5,.pointer (some ⟨P,0,none⟩)),(6,wv),(8,.int .i64 (m.Jv.length:Nat)),(118,wv),(119,.int .i64 (way.length:Nat)),(120,.int .i64 (0:Nat))] hAs
  ⟨0,rfl,WA _,rfl,S7⟩ ?_
 clear S7 cr;clear hz;rintro k fr hy dA ⟨i,rfl,hi,rfl,S8⟩;refine Uy ?_;refine Kl.intro (fun ht=>?_) (fun hf=>?_)
 .have s:i<way.length:=CC ht;clear ht;have gy:=c4.le S8.le;have fP:=gy.rl.TA i (by rw[y6];exact s);have dZ:=gy.rl.Uc i (by rw[y6];exact s);rw[sY s]at dZ;have hv:=b0 way[i] (j9 s);have az:way.take (i+1)=way.take i++[way[i]]:=EL s;generalize way[i]=v at*;have fQ:abX Tryz.prog 59 (.slice (some ⟨O,0,none⟩) n n) (.int .i64 (v:Int))=some (.pointer (some ⟨O,v,none⟩)):=by rw[Wc Uh AV Ji v hv];simp[Ip]
  obtain⟨h9,e9,S9,w9⟩:=S8.setO dA hv;have fU:(tV m.on (way.take i)).set v true=tV m.on (way.take (i+1)):=by rw[az];unfold tV;rw[amq];rfl
  rw[fU]at S9;have aw:=Tw i (by grind[le_4]);simp only[HO,seval,fP,dZ,eT,S8.f.l2,fQ,e9,aw];exact tn (way.length-(i+1)) [(0,.pointer (some ⟨B,0,none⟩)),(5,.pointer (some ⟨P,0,none⟩)),(6,wv),(8,.int .i64 (m.Jv.length:Nat)),(118,wv),(119,.int .i64 (way.length:Nat)),(120,.int .i64 (i+1:Nat))] (JS s) hAs ⟨i+1,rfl,s,rfl,S9⟩
 have aa:way.length<=i:=vp hf;rw[HV aa]at S8;clear aa hf hi;have fV:=S8.le.own _ _ dT;have bN:=cp.trans aT;have r6:=((dq.le Nn.RP bg).le Nn.RP bN);have r4:=((dp.le bg).le bN);refine Sk (XC cf (lP2 fV)) ?_;refine kCi qS28 (QY W0 c (aaa p.fits) hy (r6.le Nn.RP S8.le) (by rw[y6];exact Xi dm aK U)) ?_;rintro y h9 w9 ⟨g9,l9,a9⟩;obtain⟨av,aX,c5,ed,fW,ef,hU,hV,eg,hn⟩:=g9.push w9 ((m.Jv.length:Nat):Int) (by grind[y6]);obtain⟨eh,fY⟩:=eg hy l9 a9;have aJ:aaa p.fits++[((m.Jv.length:Nat):Int)]=aaa (p.fits++[m.Jv.length]):=by simp[aaa]
 rw[aJ]at ef;obtain⟨a1,aj⟩:=(S8.up eh).pV;have aB:GI (Hg c5 B O A C w) av (aaa (p.fits++[m.Jv.length])):=Pv (h:=c5) S8 ef fY;have ei:=aj.own _ _ dT;have ej:=a1.le.own _ _ ei;have ga:=c4.le aj;simp only[DQ]at ed;refine Sk (IX @DQ ed fW eZ (lP0 ej)) ?_;refine kCi Tryz.func103 (Bs W0 B n bv _ A C w a wv p.zp way c5 a1.f ((r4.le aj).le a1.le) (ga.le a1.le).rl ck b0 NH NH NH) ?_;rintro y2 gg hW ⟨gi,gj,hX⟩;obtain⟨al,bQ⟩:=(a1.up gj).pV;have c6:(V8 n p.zp way).Sublist p.zp:=fR;have c9:InR n (V8 n p.zp way):=fun e he=>ck e (c6.subset he);have da:(V8 n p.zp way).length<=594:=by grind[List.Sublist.length_le]
 generalize hY:V8 n p.zp way=wo at*;refine Uy ?_;refine kCi Tryz.func102 (Xr W0 B n bv _ A C w y2 (tV m.on way) wo gg al.f al.rlO al.ZA gi.pr c9 NH NH) ?_;rintro x W gk ⟨vs,OP⟩;obtain⟨ek,bT⟩:=(al.up OP.sep.le).pV;have db:vX n (tV m.on way) wo=(qT (Wg (tV m.on way)) (ac3 (frL n (Wg (tV m.on way)) wo) wo [] wo.length)).map fun q=>⟨q.1,q.2,[]⟩:=by unfold vX qT;rw[C4];rfl
 have b2:∀q∈qT (Wg (tV m.on way)) (ac3 (frL n (Wg (tV m.on way)) wo) wo [] wo.length),(∀z∈q.2,∃v:Nat,z=(v:Int)/\v<n)/\q.2.length<=n:=fun q X=>by
  obtain⟨gr,gl,rfl⟩:=N8.1 X;obtain⟨-,-,-,-,en⟩:=Pt (frL n (Wg (tV m.on way)) wo) wo [] wo.length;have b6:=en gr gl;refine⟨fun z G=>?_,Qr c9 b6⟩;obtain⟨_,e,he,h⟩:=zS.1 (((VW _).2 z).1 G);obtain⟨u,v,rfl,hZ,h0⟩:=jB c9 (b6 e he);simp only at h;rcases h with rfl|rfl
  .grind
  grind
 have eo:(qT (Wg (tV m.on way)) (ac3 (frL n (Wg (tV m.on way)) wo) wo [] wo.length)).length<=wo.length:=by unfold qT;rw[vY];exact(Pt _ _ _ _).2.2.2.1
 rw[db];generalize qT (Wg (tV m.on way)) (ac3 (frL n (Wg (tV m.on way)) wo) wo [] wo.length)=ps at*;have gn:=OP.len_;have gx:GS 3 (Hg W B O A C w) x ps.length (agJ vs ps.length):=Pv (h:=W) al OP.sl (OP.sep.ap 0 x rfl);have gq:∀(j:Nat) q,ps[j]?=some q->GP (Hg W B O A C w) (vs.getD (2*j) rW) q.1/\GI (Hg W B O A C w) (vs.getD (2*j+1) rW) q.2:=fun j q X=>by obtain⟨k1,k2⟩:=OP.ge j q X;have hj:=(Ny.1 X).1;have h7:=OP.len;exact⟨Pv (h:=W) al k1 (OP.sep.ap _ _ (u6 OP NH)),Pv (h:=W) al k2 (OP.sep.ap _ _ (u6 OP NH))⟩
 have dc:=aB.le (bQ.trans bT);have gu:Le g (Hg W B O A C w):=bZ.trans (bg.trans (bN.trans (aj.trans (bQ.trans bT))));have aH:∀z∈p.fits++[m.Jv.length],z<N.length:=fun z G=>by
  rw[dF];rcases yM.1 G with h|h
  .have:=(((I.Aa p ae).fits z).1 h).1;omega
  .have:=jf.1 h;omega
 have dG:L.length<=594:=pw;clear OP bT al bQ a1 aj S8;generalize Hg W B O A C w=ep at*;refine Sk gn ?_;refine aab.intro (fun k fr X=>∃(i:Nat)(a6:aae)(aq:List Value)(T:Value),k=ps.length-i/\i<=ps.length/\fr=mkF [(0,.pointer (some ⟨B,0,none⟩)),(13,av),(143,x),(144,.int .i64 (ps.length:Nat)),(145,.int .i64 (i:Nat))]/\
   ShS a6 X B O n (Zh n es) bv A C T bh bj aq (tV m.on way) N N (L++(ps.take i).map fun q=>⟨q.1,q.2,zh N q.2 (p.fits++[m.Jv.length])⟩)/\Le ep a6)
  ps.length [(0,.pointer (some ⟨B,0,none⟩)),(13,av),(143,x),(144,.int .i64 (ps.length:Nat)),(145,.int .i64 (0:Nat))] hAs
  ⟨0,ep,bk,w,rfl,WA _,rfl,by simpa using ek,Le.refl _⟩ ?_
 clear ek gk;clear W;rintro k fr X aP ⟨i,a6,aq,T,rfl,hi,rfl,aC,V⟩;refine Uy ?_;refine Kl.intro (fun ht=>?_) (fun hf=>?_)
 .have s:i<ps.length:=CC ht;clear ht;have gv:=yY s;obtain⟨ge,gf⟩:=gq i _ gv;obtain⟨er,et⟩:=b2 _ (j9 s);have az:ps.take (i+1)=ps.take i++[ps[i]]:=EL s;generalize ps[i]=q at*;have eu:=gx.le (V.trans aC.le);obtain⟨z1,z2,z3⟩:=aY vs ps.length s;have cz:=eu.load3 s z1 z2 z3;have bm:=eu.ad3 s;have b8:=ge.le V;have bW:=gf.le V;generalize vs.getD (2*i) rW=a' at*;generalize vs.getD (2*i+1) rW=b' at*;obtain⟨ic,gz,gA,gC,gD,ih,oQ,ij⟩:=Od aP (a:=a') (b:=b') (c:=rW) b8.pr.sl.one bW.rl.one rfl;have a7:=aC.up gD
  have dQ:∀z,InS B O A C T z->z≠X.next:=fun z G e=>by
   have:=(aC.own G).2;rw[e]at this
   exact this ((Le.refl X).next aP (qL0 _))
  have ev:a6.own X.next=none:=aC.le.next aP (qL0 _)
  generalize X.next=Q at*
  have ar:=pB Q 1 NH;have ag:=pB Q 2 NH;have aw:=Tw i (by grind[QJ]);refine Sk (bG bm cz gA gC ar (lP1 oQ)) ?_;refine kCi qS30 (NR W0 B n bv _ A C T b' av N q.2 (p.fits++[m.Jv.length]) gz a7.f a7.rlI ((bW.le a7.le).rl) (((dc.le V).le a7.le).rl) er aH (sr et ba) (by rw[eR,qH];exact ig dm aK U)) ?_;rintro y aD ew ⟨dd,ey,eA⟩;have b9:=ey.own _ _ oQ;have st:=QB (P:=Tryz.prog) (t:=49) (x:=y) Mb Ji b9 (off:=2) Ma dd.rl.sl.cell dd.rl.one;have aF:([a',b',rW]:List Value).set 2 y=[a',b',y]:=rfl;rw[aF]at st;have cc:(aD.put Q (.cells [a',b',y])).own Q=some (.cells [a',b',y]):=aae.Y3 _ _ _;have gE:WF (aD.put Q (.cells [a',b',y])):=ew.put _ (ew.lt b9);have gJ:blk y≠some Q:=fun e=>by have:=eA Q e;grind
  have gM:=GS.put dd (fK.cells [a',b',y]) gJ;have eB:∀z o,z≠Q->aD.own z=some o->(aD.put Q (.cells [a',b',y])).own z=some o:=fun z o G ho=>by rw[aae.By _ _ _ _ G];exact ho
  have eC:=a7.up ey;have gR:ShS a6 (aD.put Q (.cells [a',b',y])) B O n (Zh n es) bv A C T bh bj aq (tV m.on way) N N (L++(ps.take i).map fun q=>⟨q.1,q.2,zh N q.2 (p.fits++[m.Jv.length])⟩):=eC.other (eC.le.put _ ev) fun z o G ho=>eB z o (dQ z G) ho;obtain⟨de,bY⟩:=gR.pV;have gy:GI (Hg (aD.put Q (.cells [a',b',y])) B O A C T) y (aaa (zh N q.2 (p.fits++[m.Jv.length]))):=Pv (h:=aD.put Q (.cells [a',b',y])) a7 gM eA;obtain⟨eD,il,ix,iz,gS,gT,gU,gV,iD,eE,gX,-⟩:=de.pushL gE (a:=a') (b:=b') (c:=y) (p:=⟨q.1,q.2,zh N q.2 (p.fits++[m.Jv.length])⟩) ((b8.le bY).pr) ((bW.le bY).rl) gy.rl (app_b dG (Tn eo da) i);have gZ:=OU cc;have eF:=OU (eE.own _ _ cc);have hl:=de.f.le eE;simp only[HO,seval,ag,st];refine gh (tA [0,1,2,3,4,5] (JQ 6 [5] (JQ 7 [4,6] (tA [8,9] (JQ 10 [0,1,2,3,4,5,6,7,9] .done))))) ?_;simp only[HO,seval,Qg,J,de.f.l5,hl.l5,gX.l5,gZ,eF,gS,gT,gU,aw];refine tn (ps.length-(i+1)) [(0,.pointer (some ⟨B,0,none⟩)),(13,av),(143,x),(144,.int .i64 (ps.length:Nat)),(145,.int .i64 (i+1:Nat))] (JS s) hAs
   ⟨i+1,_,aq++[a',b',y],eD,rfl,s,rfl,?_,V.trans bY⟩
  rw[az,MY,<-bC];exact gV
 have aa:ps.length<=i:=vp hf;rw[HV aa]at aC;refine Uy ?_;refine⟨a6,gu.trans V,aC.le,.inr ⟨_,A,C,T,bh,bj,aq,rfl,trivial,?_⟩⟩;simp only;rw[<-aV,C4];exact aC
variable {T:AM} {b0:aae} {j m t w:Nat}
theorem Rows.setRow{L:Nat}(R:Rows b0 h L us rows)(c:WF h)(hw:w<us.length){u:Value}{r:RZ}(g:GI h u r)(k:Z2 b0 u)(i:blk u≠some L)(hd:∀(v:Nat) a b,us[v]?=some a->blk a=some b->blk u≠some b):
  ∃h',acs Tryz.prog h 49 (.pointer (some ⟨L,w,none⟩)) u=some h'/\Rows b0 h' L (us.set w u) (rows.set w r)/\WF h'/\Le (h.kill L) h'/\∀b o,b≠L->h.own b=some o->h'.own b=some o:=by
 have st:=QB (P:=Tryz.prog) (t:=49) (x:=u) Mb Ji R.oL (off:=w) hw g.rl.sl.cell g.rl.one;have keep:∀b o,b≠L->h.own b=some o->(h.put L (.cells (us.set w u))).own b=some o:=fun b o hb l=>by grind[aae.By]
 have key:∀(v:Nat) a,(us.set w u)[v]?=some a->(v=w/\a=u)\/(v≠w/\us[v]?=some a):=fun v a ha=>by grind
 refine⟨_,st,⟨aae.Y3 _ _ _,by grind[Rows.len],fun v a q ha d=>?_,fun v a ha=>?_,fun v w' a a' b j ha mi hb=>?_,fun v a ha=>?_,R.le.put _ R.bL,R.bL⟩,c.put _ (c.lt R.oL),((Le.Qz h L).put _ (aae.Dg _ _)),keep⟩
 .rcases key v a ha with⟨e,f⟩|⟨e,f⟩
  .rw[e,VU,AE rfl]at d;simp only[show w<rows.length by grind,if_true]at d;injection d with d;rw[f,<-d];exact GS.put g _ i
  grind[GS.put,Rows.gs,Rows.nL]
 .grind[Rows.nL]
 .rcases key v a ha with⟨e,f⟩|⟨e,f⟩
  .grind
  grind[Rows.TE]
 grind[Rows.ap]
def xi(n:Nat)(a:List (Nat×Nat×Nat)):AM:=a.foldl XN (List.replicate n (List.replicate n (-1)))
def acC{n:Nat}:∀(a:List (Nat×Nat×Nat))(T:AM),(T.length=n/\∀v,v<n->(T.getD v []).length=n)->(a.foldl XN T).length=n/\∀v,v<n->((a.foldl XN T).getD v []).length=n
 |[],_,h=>h
 |t::a,T,h=>acC a (XN T t) (sQ h)
theorem BA(n:Nat):(List.replicate n (List.replicate n (-1:Int))).length=n/\∀v,v<n->((List.replicate n (List.replicate n (-1:Int))).getD v []).length=n:=pw
theorem ZB(n:Nat)(a:List (Nat×Nat×Nat))(t:Nat×Nat×Nat):xi n (a++[t])=XN (xi n a) t:=by grind[xi]
def Hz(n i:Nat):AM:=List.replicate i (List.replicate n (-1))++List.replicate (n-i) []
def jG(h:i<n):(Hz n i).set i (List.replicate n (-1))=Hz n (i+1):=by unfold Hz;rw[acw _ _ Ma,List.length_replicate,Q4,qL215,show n-i=(n-(i+1))+1 by omega,aeC];simp
def BU(n:Nat)(T rows:AM)(i k:Nat):AM:=(List.range i).map (aci T rows)++((List.range k).map fun t=>itI (T.getD i []) t ((rows.getD i []).getD 0 0))::List.replicate (n-(i+1)) []
theorem rowsR_at(n:Nat)(T rows:AM)(i k:Nat):(BU n T rows i k)[i]?=some ((List.range k).map fun t=>itI (T.getD i []) t ((rows.getD i []).getD 0 0)):=by grind[BU]
def ZX(n:Nat)(T rows:AM)(i k:Nat):(BU n T rows i k).set i (((List.range k).map fun t=>itI (T.getD i []) t ((rows.getD i []).getD 0 0))++[itI (T.getD i []) k ((rows.getD i []).getD 0 0)])=BU n T rows i (k+1):=by unfold BU;rw[acw _ _ Ma,vY,GK,Q4,V3,MY];rfl
theorem Ow(h:i+1<n):BU n T rows i (rows.getD i []).length=BU n T rows (i+1) 0:=by unfold BU;rw[V3,MY,bC];congr 1;rw[show n-(i+1)=(n-(i+1+1))+1 by omega,aeC];rfl
theorem iP(h:i+1=n):BU n T rows i (rows.getD i []).length=(List.range n).map (aci T rows):=by unfold BU;rw[<-h,V3,MY,Q4];rfl
theorem j8(h:0<n):BU n T rows 0 0=List.replicate n []:=by unfold BU;rw[show n=(n-1)+1 by omega,aeC];simp
theorem H7(h:j<m):((j:Int)+(m:Int)-1).tmod (m:Int)=(((j+m-1)%m:Nat):Int):=pw
theorem Y7(h:0<m)(b:m<=1000):adA .i64 ((a%m:Nat):Int)=((a%m:Nat):Int):=by have:a%m<m:=OM _ h;grind[cT]
def rh(h:t<m)(a:m<=1000):adA .i64 ((t:Int)+(m:Int))=(t:Int)+(m:Int):=ie _ NH NH
def Ad(h:t<m)(a:m<=1000):adA .i64 ((t:Int)+(m:Int)-1)=(t:Int)+(m:Int)-1:=ie _ NH NH
def nz_len(h:t<m):¬((m:Int)=0):=NH
theorem Wt(h:t<m):(((t+1:Nat):Int)).tmod (m:Int)=(((t+1)%m:Nat):Int):=pw
def FI(h:a<b):0<b:=acP (WA _) h
theorem pY(W0:LA)(B n:Nat)(bv ov fv iv lv:Value)(rows:AM)(F:Cs)(h:aae)(hs:Sr h B n bv ov fv iv lv)(hb:RL (RL RP) h bv rows)(hF:RL (RL RP) h fv (F.map aaa))(b8:rows.length=n)(h0:∀v,v<n->0<(rows.getD v []).length/\(rows.getD v []).length<=2000)(aW:∀f∈F,(∀x∈f,x<n)/\f.length<=1000)(hn:n<=300)(aX:0<n)(b9:F.length<=1000)(a1:∀v,v<n->∀k,k<=(rows.getD v []).length->∃u:Nat,u<n/\itI ((N4 n F).getD v []) k ((rows.getD v []).getD 0 0)=(u:Int)):
  AC Tryz.prog W0 54 [.pointer (some ⟨B,0,none⟩)] h fun x h'=>RL (RL RP) h' x (xY n rows F)/\Le h h':=by
 refine AC.vE ⟨Tryz.func54,rfl,WY⟩ Tryz.ntmps54 Tryz.results54 fun av=>?_;simp only[Br,seval];have W:=sB B 0 NH;have a6:=sB B 1 NH;have a7:=sB B 3 NH;obtain⟨h1,e1,l1,w1,o1⟩:=Tt av (List.replicate n rW);have mk:=mk57 h n NH;rw[e1]at mk
 have nL:h.own h.next=none:=(Le.refl h).next av (qL0 _)
 have R0:Rows h h1 h.next (List.replicate n rW) (Hz n 0):=by grind[Rows.start,Hz]
 generalize h.next=A at*
 have a8:=fun g=>Jg (P:=Tryz.prog) (t:=27) (a:=some ⟨A,0,none⟩) (n:=n) (cap:=n) pE g;have Q:∀v,v<n->abX Tryz.prog 27 (.slice (some ⟨A,0,none⟩) n n) (.int .i64 (v:Int))=some (.pointer (some ⟨A,v,none⟩)):=fun v S=>by rw[Wc pE Mb Ji v S];simp[Ip]
 simp only[HO,seval,W,hs.l0,mk,a8];refine lIn (fun k fr s=>∃(i:Nat)(us:List Value),k=n-i/\i<=n/\fr=mkF [(0,.pointer (some ⟨B,0,none⟩)),(3,.slice (some ⟨A,0,none⟩) n n),(20,.int .i64 (n:Nat)),(21,.int .i64 (i:Nat))]/\Rows h s A us (Hz n i)/\us.length=n) ⟨0,_,rfl,WA _,rfl,R0,Ma⟩ ?_;clear R0 mk o1 w1 l1 e1;clear h1;rintro k fr s ay ⟨i,us,rfl,hi,rfl,R,m⟩;refine Uy ?_;refine Kl.intro (fun C=>?_) (fun hf=>?_)
 .have D:i<n:=CC C;clear C;obtain⟨h4,e4,l4,w4,o4⟩:=Tt ay [.int .i64 (-1)];have s4:=hs.le (R.le.trans l4);refine Sk (xU @DQ e4 W s4.l0) ?_;refine kCi NQ (rN W0 _ n hn h4 (RL.Wh (RS.whole o4 rfl))) ?_;rintro x h5 w5 ⟨T,rfl,hT,o5,l5⟩;have R5:=(R.up l4).up l5;have gT:GI h5 (.slice (some ⟨T,0,none⟩) n n) (List.replicate n (-1)):=by
   have:h5.own T=some (.cells (Bp (List.replicate n (-1)))):=by rw[o5];simp[Bp]
   have:=GS.full (k:=1) (n:=n) this (by simp[Bp]) NH;show GS 1 h5 _ _ _;grind
  have dT:∀{b o},h4.own b=some o->T≠b:=fun{b o} ob e=>by have:=w4.lt ob;omega
  obtain⟨h6,e6,R6,w6,-,-⟩:=R5.setRow w5 (w:=i) NH gT (fun b sZ=>by
    simp[blk]at sZ;subst sZ
    exact(R.le.trans l4).next w4 hT) (fun e=>by
    simp[blk]at e;exact dT (l4.own _ _ R.oL) e) (fun v a b ha sZ e=>by
    simp[blk]at e;have S:v<(Hz n i).length:=by grind[Rows.len]
    have:=GS.Sy (R.gs v a _ ha (yY S)) sZ;obtain⟨o,ho⟩:=iy.1 this;grind[Le.own])
  rw[jG D]at R6;refine Sk (Yb (Q i D) e6 (Tw i NH)) ?_;exact lgA (JS D) ⟨i+1,_,rfl,D,rfl,R6,by rw[Zw];exact m⟩
 have y:n<=i:=vp hf;obtain rfl:i=n:=NH;clear y hf hi;have az:Hz i i=xi i ((F.take 0).flatMap ZO):=by simp[Hz,xi]
 rw[az]at R;have lF:=fun g=>hF.qP5 g;rw[vY]at lF;have sq:=hs.le R.le;refine Sk (Yb a7 sq.l3 lF) ?_;refine lIn (fun k fr p=>∃(j:Nat)(us:List Value),k=F.length-j/\j<=F.length/\fr=mkF [(0,.pointer (some ⟨B,0,none⟩)),(3,.slice (some ⟨A,0,none⟩) i i),(37,fv),(38,.int .i64 (F.length:Nat)),(39,.int .i64 (j:Nat))]/\Rows h p A us (xi i ((F.take j).flatMap ZO))/\us.length=i) ⟨0,us,rfl,WA _,rfl,R,m⟩ ?_;clear R m ay az sq;clear us s;rintro k fr p X ⟨j,us,rfl,hj,rfl,R,m⟩;refine Uy ?_;refine Kl.intro (fun C=>?_) (fun hf=>?_)
 .have E:j<F.length:=CC C;clear C;have ba:=hF.NS j (by rw[vY];exact E);obtain⟨u,lu,hu⟩:=hF.Wm j (by rw[vY];exact E);rw[List.getElem_map]at hu;obtain⟨bb,L⟩:=aW F[j] (j9 E);have cc:F.take (j+1)=F.take j++[F[j]]:=EL E;generalize F[j]=f at*;have aa:=fun g=>hu.DH g;rw[y6]at aa;simp only[HO,seval,ba,lu p R.le,aa];have R':Rows h p A us (xi i ((F.take j).flatMap ZO++(ZO f).take 0)):=by simpa using R
  refine lIn (fun k fr G=>∃(t:Nat)(us:List Value),k=f.length-t/\t<=f.length/\fr=mkF [(0,.pointer (some ⟨B,0,none⟩)),(3,.slice (some ⟨A,0,none⟩) i i),(6,u),(37,fv),(38,.int .i64 (F.length:Nat)),(39,.int .i64 (j:Nat)),(43,u),(44,.int .i64 (f.length:Nat)),(45,.int .i64 (t:Nat))]/\Rows h G A us (xi i ((F.take j).flatMap ZO++(ZO f).take t))/\us.length=i) ⟨0,us,rfl,WA _,rfl,R',m⟩ ?_;clear R' R m X;clear us p;rintro k fr G ae ⟨t,us,rfl,cd,rfl,R,m⟩;refine Uy ?_;have tl:(ZO f).length=f.length:=by simp[ZO]
  refine Kl.intro (fun C=>?_) (fun hf=>?_)
  .have l:t<f.length:=CC C;clear C;have fp:(t+f.length-1)%f.length<f.length:=OM _ NH;have aB:(t+1)%f.length<f.length:=OM _ NH;have ad:∀q,q<f.length->abX Tryz.prog 49 u (.int .i64 (q:Int))=some (.pointer (some (abv u q))):=fun q s=>hu.TA q (by rw[y6];exact s);have ld:∀q (s:q<f.length),acd Tryz.prog G 3 (abv u q)=some (.int .i64 ((f.getD q 0:Nat):Int)):=fun q s=>by rw[(hu.le Nn.RP R.le).Uc q (by rw[y6];exact s),sY s,D4 s]
   have mm:∀q,q<f.length->f.getD q 0<i:=fun q s=>by rw[D4 s];exact bb _ (j9 s)
   have bg:(ZO f).take (t+1)=(ZO f).take t++[(f.getD t 0,f.getD ((t+f.length-1)%f.length) 0,f.getD ((t+1)%f.length) 0)]:=by rw[EL (by rw[tl];exact l)];congr 2;unfold ZO;rw[List.getElem_map,List.getElem_range]
   have S:=mm t l;have cf:=mm _ fp;have d:=acC ((F.take j).flatMap ZO++(ZO f).take t) _ (BA i);obtain⟨M,ag⟩:∃a,us[f.getD t 0]?=some a:=⟨_,yY NH⟩;have U:(xi i ((F.take j).flatMap ZO++(ZO f).take t))[f.getD t 0]?=some ((xi i ((F.take j).flatMap ZO++(ZO f).take t)).getD (f.getD t 0) []):=by grind[xi,D4]
   have V:f.getD ((t+f.length-1)%f.length) 0<((xi i ((F.take j).flatMap ZO++(ZO f).take t)).getD (f.getD t 0) []).length:=by grind[xi]
   obtain⟨h9,e9,R9,w9,-,-⟩:=R.put ae ag U V ((f.getD ((t+1)%f.length) 0:Nat):Int);have bh:=R.gs _ M _ ag U;have bj:=(show GI G M _ from bh).rl.TA _ V;have bk:acd Tryz.prog G 49 ⟨A,f.getD t 0,none⟩=some M:=by rw[Fq Mb rfl R.oL];exact ag
   have bm:adA .i64 ((t:Int)+(f.length:Int))=(t:Int)+(f.length:Int):=rh l L;have bo:adA .i64 ((t:Int)+(f.length:Int)-1)=(t:Int)+(f.length:Int)-1:=Ad l L;have nz:¬((f.length:Int)=0):=nz_len l;have br:=H7 l;have bx:adA .i64 (((t+f.length-1)%f.length:Nat):Int)=(((t+f.length-1)%f.length:Nat):Int):=Y7 (FI l) L;have aw:=Tw t (Lb l (Tn L WY));have bB:(((t+1:Nat):Int)).tmod (f.length:Int)=(((t+1)%f.length:Nat):Int):=Wt l;have bF:adA .i64 (((t+1)%f.length:Nat):Int)=(((t+1)%f.length:Nat):Int):=Y7 (FI l) L;simp only[HO,seval,ad t l,ld t l];refine gh (tA [0,1,2,3,4,5,6,7,8,9,10,11,12,13,14,15,16,17,18,19,20] .done) ?_;simp only[HO,seval,Qg,aa,bm,bo,nz,br,bx,aw,bB,bF,ad _ fp,ad _ aB,ld _ fp,ld _ aB,Q _ S,bk,bj,e9];refine lgA (JS l) ⟨t+1,us,rfl,l,rfl,?_,m⟩;rw[bg,<-bC,ZB];exact R9
  .have y:f.length<=t:=vp hf;have bH:(ZO f).take t=ZO f:=HV pw;rw[bH]at R;refine Sk (Tw j NH) ?_;refine lgA (JS E) ⟨j+1,us,rfl,E,rfl,?_,m⟩;grind
 have y:F.length<=j:=vp hf;rw[HV y]at R;have eT:xi i (F.flatMap ZO)=N4 i F:=rfl;rw[eT]at R;have dT:(N4 i F).length=i/\∀v,v<i->((N4 i F).getD v []).length=i:=acC (F.flatMap ZO) _ (BA i);clear y hf hj eT;have sz:=hs.le R.le;obtain⟨h7,e7,l7,w7,o7⟩:=Tt X (List.replicate i rW)
 have mk:afD Tryz.prog p 28 (.int .i64 (i:Int)) (.int .i64 (i:Int))=some (.slice (some ⟨p.next,0,none⟩) i i,p.alloc (.cells (List.replicate i rW))):=Ye (P:=Tryz.prog) (t:=28) (z:=.slice none 0 0) p qS42 Ji rfl rfl rfl Ji Mb Ji i NH
 rw[e7]at mk
 have cg:p.own p.next=none:=(Le.refl p).next X (qL0 _)
 have J:Rows p h7 p.next (List.replicate i rW) (BU i (N4 i F) rows 0 0):=by grind[j8,Rows.start]
 have aC:=R.rl (n:=i) (c:=i) m
 generalize p.next=K at*
 have aD:=fun g=>Jg (P:=Tryz.prog) (t:=28) (a:=some ⟨K,0,none⟩) (n:=i) (cap:=i) qS42 g;have aE:∀v,v<i->abX Tryz.prog 28 (.slice (some ⟨K,0,none⟩) i i) (.int .i64 (v:Int))=some (.pointer (some ⟨K,v,none⟩)):=fun v S=>by rw[Wc qS42 Mb Ji v S];simp[Ip]
 simp only[HO,seval,W,sz.l0,mk,aD];refine lIn (fun k fr G=>∃(v:Nat)(us:List Value),k=i-v/\v<=i/\fr=mkF [(0,.pointer (some ⟨B,0,none⟩)),(3,.slice (some ⟨A,0,none⟩) i i),(11,.slice (some ⟨K,0,none⟩) i i),(84,.int .i64 (i:Nat)),(85,.int .i64 (v:Nat))]/\us.length=i/\((v<i/\Rows p G K us (BU i (N4 i F) rows v 0))\/(v=i/\Rows p G K us ((List.range i).map (aci (N4 i F) rows))))) ⟨0,_,rfl,WA _,rfl,Ma,.inl ⟨aX,J⟩⟩ ?_;clear J mk o7 w7 l7 e7;clear h7;rintro k fr G ae ⟨v,H,rfl,S,rfl,r,bI⟩;refine Uy ?_;refine Kl.intro (fun C=>?_) (fun hf=>?_)
 .have I:v<i:=CC C;clear C;have J:Rows p G K H (BU i (N4 i F) rows v 0):=pw;clear bI;have aj:v<rows.length:=pw;have bN:rows.getD v []=rows[v]:=D4 aj;have bQ:=hb.NS v aj;obtain⟨bu,bT,N⟩:=hb.Wm v aj;rw[<-bN]at N;obtain⟨aF,ck⟩:=h0 v I;have aH:=a1 v I;have bW:=fun g=>N.DH g;have aJ:=N.TA 0 aF;have O:=R.le.trans J.le;have al:=(N.le Nn.RP O).Uc 0 aF;have g0:(rows.getD v [])[0]=itI ((N4 i F).getD v []) 0 ((rows.getD v []).getD 0 0):=by
   show _=(rows.getD v []).getD 0 0;grind[D4]
  rw[g0]at al;simp only[P2]at aJ;have sy:=hs.le O;have aq:v<(N4 i F).length:=pw;have bY:=aC.NS v aq;obtain⟨tu,bZ,ar⟩:=aC.Wm v aq;have b0:(N4 i F)[v]=(N4 i F).getD v []:=(D4 aq).symm;rw[b0]at ar;have aK:=dT.2 v I;simp only[HO,seval,a6,sy.l1,bQ,bT G O,aJ,al,bW];refine aab.intro (fun k fr hx=>∃(q:Nat)(us:List Value),k=(rows.getD v []).length-q/\q<=(rows.getD v []).length/\fr=mkF [(0,.pointer (some ⟨B,0,none⟩)),(3,.slice (some ⟨A,0,none⟩) i i),(11,.slice (some ⟨K,0,none⟩) i i),(12,.int .i64 (v:Nat)),(13,.int .i64 (itI ((N4 i F).getD v []) q ((rows.getD v []).getD 0 0))),(84,.int .i64 (i:Nat)),(85,.int .i64 (v:Nat)),(104,.int .i64 ((rows.getD v []).length:Nat)),(105,.int .i64 (q:Nat))]/\us.length=i/\Rows p hx K us (BU i (N4 i F) rows v q))
   (rows.getD v []).length [(0,.pointer (some ⟨B,0,none⟩)),(3,.slice (some ⟨A,0,none⟩) i i),(11,.slice (some ⟨K,0,none⟩) i i),(12,.int .i64 (v:Nat)),(13,.int .i64 (itI ((N4 i F).getD v []) 0 ((rows.getD v []).getD 0 0))),(84,.int .i64 (i:Nat)),(85,.int .i64 (v:Nat)),(104,.int .i64 ((rows.getD v []).length:Nat)),(105,.int .i64 (0:Nat))] hAs
   ⟨0,H,rfl,WA _,rfl,r,J⟩ ?_
  clear J r ae sy al O;clear H G;rintro k fr hx b1 ⟨q,H,rfl,s,rfl,r,J⟩;refine Uy ?_;refine Kl.intro (fun C=>?_) (fun hf=>?_)
  .have aP:q<(rows.getD v []).length:=CC C;clear C;obtain⟨w,aT,ew⟩:=aH q s;have eN:itI ((N4 i F).getD v []) (q+1) ((rows.getD v []).getD 0 0)=((N4 i F).getD v []).getD w 0:=by grind[itI,Int.toNat_natCast]
   obtain⟨uo,un,h9,cm,b2,k1,k2,k3,k4,k5,k6,k7,R3,cp,kk⟩:=J.push b1 (rowsR_at i (N4 i F) rows v q) (itI ((N4 i F).getD v []) q ((rows.getD v []).getD 0 0)) pw;rw[ZX]at R3;have b3:acd Tryz.prog hx 49 ⟨K,v,none⟩=some uo:=by rw[Fq Mb rfl J.oL];exact k1
   have b4:=ar.TA w (by rw[aK];exact aT);have aV:=(ar.le Nn.RP R3.le).Uc w (by rw[aK];exact aT);have b5:((N4 i F).getD v [])[w]'(by grind)=((N4 i F).getD v []).getD w 0:=(D4 _).symm
   rw[b5,<-eN]at aV;rw[ew]at k2
   have b6:abB Tryz.prog hx 49 1 [(0,.int .i64 (w:Int))]=some (.slice (some ⟨hx.next,0,none⟩) 1 1,h9):=by rw[DQ,k2]
   refine Sk (rk (aE v I) b3 ew b6 k3 k4 bY (bZ b2 R3.le) b4 aV (Tw q NH)) ?_;exact lgA (JS aP) ⟨q+1,_,rfl,aP,rfl,pw,R3⟩
  .have y:(rows.getD v []).length<=q:=vp hf;obtain rfl:q=(rows.getD v []).length:=NH;refine Sk (Tw v NH) ?_;refine lgA (JS I) ⟨v+1,H,rfl,I,rfl,r,?_⟩;by_cases c:v+1<i
   .grind[Ow]
   grind[iP]
 have y:i<=v:=vp hf;have J:Rows p G K H ((List.range i).map (aci (N4 i F) rows)):=pw;refine Uy ?_;exact⟨J.rl r,R.le.trans J.le⟩
variable {F:Cs} {ps web:List Pr} {r:Nat->II} {v:Value}
def Xy(fr:Pr->Nat->Int)(r:Nat×Pr×List Pr):Int×List Pr:=(fr r.2.1 r.1,r.2.2)
theorem Ij{es web:List Pr}{fr fr':Pr->Nat->Int}(h:∀(j d:Nat) e e',es[j]?=some e->es[d]?=some e'->e∉web->e'∉web->(fr e j=fr e' d↔fr' e j=fr' e' d)){i:Nat}{p:Pr}(f:es[i]?=some p)(hw:p∉web):
  ∀rs:List (Nat×Pr×List Pr),(∀r∈rs,es[r.1]?=some r.2.1/\r.2.1∉web)->∃a:List (Nat×Pr×List Pr),(∀r∈a,es[r.1]?=some r.2.1/\r.2.1∉web)/\agN (rs.map (Xy fr)) (fr p i) p=a.map (Xy fr)/\agN (rs.map (Xy fr')) (fr' p i) p=a.map (Xy fr')
 |[],_=>⟨[(i,p,[p])],pw,rfl,rfl⟩
 |r::rs,g=>by
  obtain⟨k,h2⟩:=g r Ma;have key:=h r.1 i r.2.1 p k f h2 hw;by_cases c:fr r.2.1 r.1=fr p i
  .have c':=key.1 c;refine⟨(r.1,r.2.1,r.2.2++[p])::rs,fun q b=>?_,?_,?_⟩
   .rcases vZ.1 b with rfl|b
    .grind
    grind
   .grind[Xy.eq_1,agN.eq_2]
   grind[Xy.eq_1,agN.eq_2]
  .have c':¬fr' r.2.1 r.1=fr' p i:=fun q=>c (key.2 q);obtain⟨a,k1,k2,l⟩:=Ij h f hw rs fun q b=>g q (by simp[b]);refine⟨r::a,fun q b=>?_,?_,?_⟩
   .rcases vZ.1 b with rfl|b
    .grind
    grind
   .grind[Xy.eq_1,agN.eq_2]
   grind[Xy.eq_1,agN.eq_2]
theorem rR{es web:List Pr}{fr fr':Pr->Nat->Int}(h:∀(j a:Nat) e e',es[j]?=some e->es[a]?=some e'->e∉web->e'∉web->(fr e j=fr e' a↔fr' e j=fr' e' a)):
  ∀i:Nat,∃rs:List (Nat×Pr×List Pr),(∀r∈rs,es[r.1]?=some r.2.1/\r.2.1∉web)/\ac3 fr es web i=rs.map (Xy fr)/\ac3 fr' es web i=rs.map (Xy fr')
 |0=>⟨[],Ma,rfl,rfl⟩
 |i+1=>by
  obtain⟨rs,b,h2,h3⟩:=rR h i;cases c:es[i]? with
  |none=>grind[ac3]
  |some p=>
   by_cases w:p∈web
   .grind[JJ]
   .rw[dh c w,dh c w,h2,h3];exact Ij h c w rs b
def frag_tog{L b:RZ}(hR:InR n es)(nd:es.Nodup)(f:wx n (fun u=>(Cb n web).getD u false) es L)(c:wx n (fun u=>(Cb n web).getD u false) es b):LJ n es web L=LJ n es web b:=by
 obtain⟨rs,-,h2,h3⟩:=rR (es:=es) (web:=web) (fr:=Zo n (fun u=>(Cb n web).getD u false) L) (fr':=Zo n (fun u=>(Cb n web).getD u false) b)
  (fun j g e e' d a _ _=>(K2 hR nd f d a).trans (K2 hR nd c d a).symm) es.length
 unfold LJ;rw[h2,h3,C4,C4];rfl
theorem circ_hit(p:bX ⟨(n:Int),es⟩)(q:zW n es)(G:vy n r F)(s:∀x y,y∈r x↔y∈eN n es x):
  ∀v,v<n->∀k,k<=((Zh n es).getD v []).length->∃u:Nat,u<n/\itI ((N4 n F).getD v []) k (((Zh n es).getD v []).getD 0 0)=(u:Int):=by
 have hR:=p.GD;have m:∀f∈F,f.Nodup:=G.O.nd;let a:Nat->Nat->Nat:=fun v u=>nx (r v) u;have b:∀t∈F.flatMap ZO,t.1<n/\t.2.1<n/\t.2.2=a t.1 t.2.1:=fun t z=>by obtain⟨f,hf,h⟩:=y5.1 z;obtain⟨o,h2,h3⟩:=vh (m f hf) h;obtain⟨D,E,H⟩:=G.O.pv hf o;have hi:=G.O.ah5 G.Rl hf o;refine⟨G.Rl.lt _ _ hi,by rw[h2];exact G.Rl.lt _ _ (G.Rl.sy _ _ hi),?_⟩;grind
 obtain⟨-,A⟩:=Vx (F.flatMap ZO) _ (BA n) b;have d:∀v u,u∈r v->MC (N4 n F) v u=(a v u:Int):=fun v u i=>by
  refine A v u (.inr ?_);obtain⟨f,hf,B,e⟩:=G.O.cover u v (G.Rl.sy _ _ i);have j:v∈f:=by grind[ZP]
  refine⟨_,y5.2 ⟨f,hf,alH (m f hf) j⟩,rfl,?_⟩;grind[c7]
 intro v j k _;obtain⟨w,hw⟩:=q.ne hR j;obtain⟨u,c,e⟩:=xD ((aU hR).2 ⟨w,hw⟩);have hb:=(qG n es).back hR v;have i:u∈r v:=(s v u).2 (by rw[e];simp);have C:(Zh n es).getD v []=(u:Int)::aaa c:=by rw[<-hb];show(eN n es v).map _=_;rw[e];rfl
 rw[C];obtain⟨k1,k2⟩:=HN (T:=(N4 n F).getD v []) (g:=a v) (P:=fun x=>x∈r v) (fun x l=>d v x l) (fun x l=>ZP l) i k;exact⟨it (a v) k u,G.Rl.lt _ _ (G.Rl.sy _ _ k2),pw⟩
abbrev BP:=Fin 1000×Fin 1000
def qf(x:BP):Pr:=((x.1.1:Int),(x.2.1:Int))
def zM(x y:BP):Int:=if(x.1.1:Int)=(y.1.1:Int)then(x.2.1:Int)-(y.2.1:Int)else(x.1.1:Int)-(y.1.1:Int)
theorem Z9(x y:BP):Go.Proofs.ltOf zM x y=ltP (qf x) (qf y):=by rw[Bool.eq_iff_iff,XW];unfold Go.Proofs.ltOf zM qf;grind
theorem prB_inj{x y:BP}(h:qf x=qf y):x=y:=by grind[qf]
theorem swoB:Go.Sort.SWO (Go.Proofs.ltOf zM):=by
 refine⟨fun x=>?_,fun x y z a h2=>?_,fun x y z a h2=>?_⟩
 .grind[Z9,Nc]
 all_goals grind[Z9,Nc]
theorem VO(xs:List BP):Go.Sort.flatK (fun x=>xM (qf x)) 2 xs.toArray=(Iu (xs.map qf)).toArray:=by
 rw[<-kh];apply Array.ext
 .simp
 .intro i a h2;have b:i<xs.length*2:=by simpa using a
  have hi:i / 2<xs.length:=NH;simp only[Go.Sort.flatK,Array.getElem_map,Array.getElem_range];grind
def subB(a b:Fin 1000):adA .i64 ((a.1:Int)-(b.1:Int))=(a.1:Int)-(b.1:Int):=ie _ NH NH
theorem X8(f:LA)(x y:BP)(h:aae):AC Tryz.prog f 92 [UI (qf x),UI (qf y)] h fun v h'=>v=.int .i64 (zM x y)/\Le h h':=by
 refine AC.vE ⟨Tryz.func92,rfl,WY⟩ Tryz.ntmps92 Tryz.results92 fun e=>?_;simp only[Br,seval];obtain⟨g,i,l1,w1,j⟩:=Tt e (xM (qf x));obtain⟨h2,k,l2,l,d⟩:=Tt w1 (xM (qf y));have c:=l2.own _ _ j;refine Sk (Yb @Ci i k) ?_
 generalize h.next=a at*
 generalize g.next=b at*
 have s1:adA .i64 ((qf x).1-(qf y).1)=(qf x).1-(qf y).1:=subB x.1 y.1;have s2:adA .i64 ((qf x).2-(qf y).2)=(qf x).2-(qf y).2:=subB x.2 y.2;refine Sk (Pj @Dh @Z0 @Ip.eq_1 @Gc (lK c) (HY c) (lK d) (HY d) s1 s2) ?_;refine Kl.intro (fun m=>?_) (fun hf=>?_)
 .refine Sk (Pj @Dh @Z0 @Ip.eq_1 @Gc (lK c) (HY c) (lK d) (HY d) s1 s2) ?_;grind[qf,zM,Le.trans]
 .refine Sk (Pj @Dh @Z0 @Ip.eq_1 @Gc (lK c) (HY c) (lK d) (HY d) s1 s2) ?_;grind[qf,zM,Le.trans]
def bp_of(hb:∀p∈ps,∃a b:Nat,p=((a:Int),(b:Int))/\a<1000/\b<1000):∃xs:List BP,ps=xs.map qf:=by
 induction ps with
 |nil=>exact⟨[],rfl⟩
 |cons p ps c=>obtain⟨xs,e⟩:=c fun q d=>hb q (by simp[d]);obtain⟨a,b,f,ha,sZ⟩:=hb p Ma;exact⟨(⟨a,ha⟩,⟨b,sZ⟩)::xs,by rw[e,f];rfl⟩
theorem sortB(xs:List BP):(xs.mergeSort fun x y=>!Go.Proofs.ltOf zM y x).map qf=aej (xs.map qf):=by grind[aej,List.map_mergeSort,Z9]
theorem CH(u:LA)(g:GP h v ps)(z:ps.length<=100000)(hb:∀p∈ps,∃a b:Nat,p=((a:Int),(b:Int))/\a<1000/\b<1000):
  AC Tryz.prog u 69 [v,.func (.func 92) #[] #[]] h fun x h'=>x=.tuple #[]/\GP h' v (aej ps)/\∀f,Le f h->Z2 f v->Le f h':=by
 have A:∀args w,(callFunc 92 args).run Tryz.prog w=.ok (.enter 92 args) w:=enters_of Tryz.func92 Ji rfl;obtain⟨bs,i⟩:=bp_of hb;rcases g.cases z with⟨a,cap,rfl,rfl⟩|⟨id,c,cap,rfl,B,C,j,D,l,o⟩
 .refine(AC.FE fun a' cap' w=>AnyF.slices_SortFunc_none {Tryz.aej with} a' cap' (.func (.func 92) #[] #[]) w).mono ?_;rintro x h' ⟨rfl,rfl⟩;exact⟨rfl,by simpa[aej]using g,fun f q _=>q⟩
 .have r:bs.length=ps.length:=pw;have key:=fun(blk off cap':Nat)(w:World) s hb (d:ps.length<=cap')=>
   AnyQ.slices_SortFunc_total (α:=BP) Tryz.aej 2 Tryz.isAgg38 Tryz.sizeOf38 (fun x=>xM (qf x)) (fun _=>rfl) (fun x v E=>(Aq [qf x] v (by simpa[Iu]using E)).2) zM swoB 92 #[] blk off cap' bs.toArray w A
    (fun m os G _ x y=>AC.grown (args:=[UI (qf x),UI (qf y)]) _ ((X8 _ x y _).mono fun _ _ h=>h.1) (fun m=>Ql m (qf x) (qf y))) s hb (by simp;omega)
    (fun x y H h2=>by grind[Z9,Nc,prB_inj])
  refine(AC.ofRowK (k:=2) (xs:=Iu ps) (ys:=Iu (aej ps)) B C (Ta _) (by rw[Ta,ZS]) o l D (fun y F=>(Aq ps y F).1) (Aq _) fun blk off cap' w s hb d=>?_).mono ?_
  .have t:Go.Sort.HoldsK (fun x:BP=>xM (qf x)) 2 w blk off bs.toArray:=by
    unfold Go.Sort.HoldsK;rw[VO,<-i];exact s
   have k:=key blk off cap' w t hb d;rw[show bs.toArray.size=ps.length by simp[r]]at k;refine k.mono ?_;rintro e w' ⟨rfl,n,os,rfl⟩;refine⟨rfl,n,os,?_⟩;unfold Go.Proofs.sortWorldK Go.Sort.putRowK;rw[VO,sortB,<-i];rfl
  .rintro x h' ⟨rfl,rfl⟩;refine⟨rfl,?_,fun f q af=>q.put _ (af id rfl)⟩;rw[GP,ZS];refine⟨by rw[Ta,ZS],.inr ⟨id,_,cap,rfl,aae.Y3 _ _ _,?_,j⟩⟩;grind[Ta,ZS]
variable {F1 F2:Cs} {on:List Bool}
theorem AC.side{P:Program}{d:LA}{f:FuncId}{args:List Value}:∀(X:II)(h:aae)(Q:Value->aae->Prop),(∀b∈X,h.own b≠none)->X.Nodup->AC P d f args (rem X h) Q->
  AC P d f args h fun x h'=>∃g,Q x g/\Le g h'/\∀b∈X,g.own b=none/\h'.own b=h.own b
 |[],h,Q,_,_,q=>q.mono fun x h' i=>⟨h',i,Le.refl _,fun b hb=>by cases hb⟩
 |a::l,h,Q,e,nd,q=>by
  have q:AC P d f args ((rem l h).kill a) Q:=q;have j:∀b∈l,h.own b≠none:=fun b hb=>e b (by simp[hb]);obtain⟨k,nl⟩:=jz.1 nd;obtain⟨o,m⟩:=iy.1 (e a Ma);have c:(rem l h).own a=some o:=by grind[DC]
  refine(AC.side l h _ j nl (AC.frame c q)).mono ?_;grind[Le.Y5,Le.trans,Le.own,aae.Y3,aae.By]
theorem ShS.ndX(S:ShS g h B O n rows bv fv iv lv us ws cs on F1 F2 left):(B::O::(bl fv++bl iv++bl lv)).Nodup:=by
 have d:=S.sep.TE;have n1:=S.nb fv Ma;have c:=S.nb iv Ma;have n3:=S.nb lv Ma;have nd:∀v,(bl v).Nodup:=fun v=>by grind[bl]
 simp only[jz,vZ,yM,Zr,ZT,not_or];refine⟨⟨S.bO,⟨n1.1,c.1⟩,n3.1⟩,⟨⟨n1.2,c.2⟩,n3.2⟩,⟨nd _,nd _,fun a ha b hb e=>?_⟩,nd _,fun a ha b hb e=>?_⟩
 .subst e;exact d 0 1 fv iv a NH rfl rfl ha hb
 .subst e;rcases ha with ha|ha
  .exact d 0 2 fv lv a NH rfl rfl ha hb
  .exact d 1 2 iv lv a NH rfl rfl ha hb
theorem ShS.side{i:LA}{P:Program}{g h:aae}{B O n:Nat}{rows:AM}{bv c d e:Value}{us ws cs:List Value}{on:List Bool}{j m:Cs}{left:List wW}(S:ShS g h B O n rows bv c d e us ws cs on j m left){f:FuncId}{args:List Value}{Q:Value->aae->Prop}(q:AC P i f args (Hg h B O c d e) fun x a=>Le (Hg h B O c d e) a/\Q x a):
  AC P i f args h fun x h'=>∃a,Q x a/\ShS a h' B O n rows bv c d e us ws cs on j m left/\Le h h'/\Le (Hg h B O c d e) a/\Le a h':=by
 refine(AC.side _ h _ (fun b hb=>(S.own (HX.1 hb)).2) S.ndX q).mono ?_;rintro x h' ⟨a,⟨l1,p⟩,l2,k⟩;have l:Le h h':=⟨by have:=(l1.trans l2).ext;rw[this];exact vL _,fun b o r=>by grind[Le.own,Hg,DC]⟩;obtain⟨s,l3⟩:=S.pV;grind[ShS.up,ShS.ground,HX]
def okc(k:Nat)(v:Value):Prop:=∃a n c,v=.slice a n c/\((n<=c/\c<UNK)\/(c=UNK+k/\a.isSome=true))
def GS.okc{k n:Nat}{h:aae}{v:Value}{cs:List Value}(g:GS k h v n cs):okc k v:=by
 obtain⟨-,⟨rfl,b⟩|⟨id,c,cap,rfl,d,e,rfl|⟨rfl,a⟩⟩⟩:=g
 .exact⟨none,0,0,rfl,.inl ⟨qL0 _,WY⟩⟩
 .exact⟨_,_,_,rfl,.inr ⟨rfl,rfl⟩⟩
 .exact⟨_,_,_,rfl,.inl ⟨qL0 _,V9 a WY⟩⟩
theorem CS.drop{k n i:Nat}{h:aae}{a:Addr}{c c':Nat}{cs:List Value}(r:CS k h (.slice (some a) n c) n cs)(hi:i<=n):CS k h (.slice (some (Ip a (i*k))) (n-i) c') (n-i) (cs.drop (i*k)):=by refine⟨⟨_,_,rfl,fun _=>rfl⟩,by grind[CS.len,Nat.sub_mul],fun j x b=>?_⟩;rw[im]at b;have:=r.get _ x b;grind[fA,Ub]
theorem PR.cut(r:PR h v ps)(o:okc 2 v)(hi:i<=ps.length):∃v',afp Tryz.prog 22 v (some (.int .i64 i)) none none=some v'/\PR h v' (ps.drop i)/\okc 2 v':=by
 have n1:(0:Int)<=i:=NH;have k:(i:Int)<=ps.length:=NH;obtain⟨l,d,m,hs⟩:=r.sl;obtain⟨a,n,c,e,f⟩:=o;rw[m]at e;injection e with p s t;subst p s t m;rcases f with⟨u,h2⟩|⟨rfl,h2⟩
 .have b:¬UNK<=d:=M1.2 h2;by_cases q:d=i
  .have:i=ps.length:=NH;subst q this;refine⟨.slice l 0 0,?_,?_⟩
   .simp[afp,eY,qS8,WE,afB,af4,n1,b]
   .rw[qL207 (qL0 _)];exact⟨⟨⟨_,_,rfl,Ma⟩,rfl,fun j x g=>by cases g⟩,⟨_,_,_,rfl,.inl ⟨qL0 _,WY⟩⟩⟩
  .cases l with
   |none=>
    have w:ps.length=0:=pw;obtain rfl:ps=[]:=aml.1 w;refine⟨.slice none 0 (d-i),?_,?_⟩
    .have:i=0:=pw;subst this;simp[afp,eY,qS8,WE,afB,af4,b]
    .rw[List.drop_nil];exact⟨⟨⟨_,_,rfl,Ma⟩,rfl,fun j x g=>by cases g⟩,⟨_,_,_,rfl,.inl ⟨WA _,NH⟩⟩⟩
   |some a=>
    refine⟨.slice (some (Ip a (i*2))) (ps.length-i) (d-i),?_,?_⟩
    .simp[afp,eY,qS8,WE,afB,af4,n1,k,b,u,q]
    .have:=CS.drop (c':=d-i) r hi;rw[<-za]at this;exact⟨by grind[PR.eq_1],⟨_,_,_,rfl,.inl ⟨NH,NH⟩⟩⟩
 .obtain⟨a,rfl⟩:=EP.1 h2;refine⟨.slice (some (Ip a (i*2))) (ps.length-i) (UNK+2),?_,?_⟩
  .simp[afp,eY,qS8,WE,afB,af4,n1,k]
  .have:=CS.drop (c':=UNK+2) r hi;rw[<-za]at this;exact⟨by grind[PR.eq_1],⟨_,_,_,rfl,.inr ⟨rfl,rfl⟩⟩⟩
theorem DA(g:LA)(v:Value)(ps:List Pr)(h:aae)(e:PR h v ps)(p:ps.length<=100000):AC Tryz.prog g 72 [v] h fun x h'=>GP h' x ps/\Le h h'/\Z2 h x:=by
 obtain⟨a,c,rfl,hs⟩:=e.sl;refine AC.vE ⟨Tryz.func72,rfl,WY⟩ Tryz.ntmps72 Tryz.results72 fun d=>?_;simp only[Br,seval];cases a with
 |none=>
  have i:ps=[]:=by
   cases ps<;>grind
  subst i;simp only[HO,seval,aEq,eY,afn];exact⟨GP.nil _,Le.refl _,fun b hb=>by grind[blk]⟩
 |some a=>
  obtain⟨f,j,l1,w1,k⟩:=Tt d []
  have mk:abB Tryz.prog h 22 0 []=some (.slice (some ⟨h.next,0,none⟩) 0 0,f):=by rw[<-j];rfl
  have q:h.own h.next=none:=(Le.refl h).next d (qL0 _)
  have l:GP f (.slice (some ⟨h.next,0,none⟩) 0 0) []:=GS.full k rfl WY
  have m:Z2 h (.slice (some ⟨h.next,0,none⟩) 0 0):=fun b hb=>by injection hb with hb;grind
  obtain⟨r,s,n,t,u,o,-⟩:=GP.join l w1 (e.le l1) (by simp;omega);obtain⟨l6,w⟩:=o h l1 m;simp only[HO,seval,aEq,eY,Po,mk,n];grind
theorem bX.tail{n:Int}(a:bX ⟨n,es⟩):bX ⟨n,es.drop 1⟩:=by
 refine⟨a.n0,a.n1,?_,fun i hi p b=>?_⟩
 .have:=a.len;grind
 .simp only[oK]at hi;simp only[im]at b ⊢;obtain⟨c,h2⟩:=a.ok (1+i) pw p b;grind
end
end Go.Fw
