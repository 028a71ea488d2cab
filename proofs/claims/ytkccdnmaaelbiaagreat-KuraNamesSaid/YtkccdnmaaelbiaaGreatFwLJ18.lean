/- A text. -/
import Derived.Test.YtkccdnmaaelbiaaGreatFwLJ13
set_option linter.all false
set_option maxRecDepth 99999
set_option maxHeartbeats 9999999
namespace Go.Fw
section
attribute [local instance] Classical.propDecidable
attribute [local irreducible] Kp MQ lU rS KO KN KX KE VK Kl ZJ TC aat
open Go.Proofs
variable {B O a b c i n:Nat} {bv fv iv lv:Value} {cs us ws:List Value} {es:List Pr} {g h h':AHeap} {left:List wW} {rows:AM}
theorem Jd (hi:i<left.length):LF left i=left[i].fits.length:=by grind [LF]
theorem Vr {a:List wW} {φ:wW->wW} {q c:wW} (hi:i<a.length) (b:a.drop i=q::a.drop (i+1)):((a.take i).map φ++a.drop i).set i c=(a.take i).map φ++c::a.drop (i+1):=by
 have d:((a.take i).map φ).length=i:=pw;rw[b,wV _ _ NH,d,pz];rfl
def Xi (h:a<=b) (h2:b<=c+2) (h3:c<=594):a<=100000:=NH
def ig (h:a<=b) (h2:b<=c+2) (h3:c<=594):a+1<=100000:=NH
def sr (h:a<=n) (h2:(n:Int)<=200):a<=100000:=NH
theorem app_b {α β:Type} {L:List β} {ps:List α} {φ:α->β} (h:L.length<=594) (h2:ps.length<=594) (i:Nat):(L++(ps.take i).map φ).length<=100000:=pw
def le_4 (h:a<=n) (h2:(n:Int)<=200):a<=40000:=NH
def lx.other {on:List Bool} {d e:Cs} (S:lx g h B O n rows bv fv iv lv us ws cs on d e left) (l:Le g h')
  (c:∀z o,InS B O fv iv lv z->h.own z=some o->h'.own z=some o):lx g h' B O n rows bv fv iv lv us ws cs on d e left:=
 {S with
  f:=⟨c _ _ (.inl rfl) S.f.o⟩
  oO:=c _ _ (.inr (.inl rfl)) S.oO
  gF:=GS.kept S.gF fun b o hb a=>c b o (.inr (.inr ⟨fv,Ma,hb⟩)) a
  gI:=GS.kept S.gI fun b o hb a=>c b o (.inr (.inr ⟨iv,Ma,hb⟩)) a
  gL:=GS.kept S.gL fun b o hb a=>c b o (.inr (.inr ⟨lv,Ma,hb⟩)) a
  sep:=⟨S.sep.TE,fun i u b j hb=>by
   obtain⟨o,a⟩:=Db.1 (S.sep.own i u b j hb);rw[c b o (.inr (.inr ⟨u,Gc j,hb⟩)) a];simp,S.sep.ap,l⟩}
theorem lay_any (W0:LA) {H:Nat->Nat->Prop} {m:kR} (S:lx g h B O n (Zh n es) bv fv iv lv us ws cs m.on m.Jv m.Jv m.left)
  (hr:bX ⟨(n:Int),es⟩) (D:QG (eN n es)) (I:Z8 n es H m) (e6:m.left≠[]):
  AC Tryz.prog W0 53 [.pointer (some ⟨B,0,none⟩)] h fun x h'=>∃g',Le g g'/\Le g' h'/\((AU n (Zh n es) m=none/\x=.bool false)\/∃bm e7 fb fc fe fg fh,AU n (Zh n es) m=some bm/\x=.bool true/\lx g' h' B O n (Zh n es) bv e7 fb fc fe fg fh bm.on bm.Jv bm.Jv bm.left):=by
 have hR:=hr.GD;have hA:=hr.q9;have aK:(n:Int)<=200:=hr.n1;have R:es.length<=594:=hr.len;have ih:=I.Vw;have aW:=I.My;have dE:0<m.left.length:=Zt.2 e6;refine AC.vE ⟨Tryz.func53,rfl,WY⟩ Tryz.ntmps53 Tryz.results53 fun ij=>?_;simp only[Br,Nat.reduceAdd];have K:=sB B 5 NH;have fi:=sB B 3 NH;have fm:=sB B 2 NH;have bo:=fun k hk=>S.gL.ad3 (k:=k) hk;have eL:=fun k r (hk:k<m.left.length)=>eA3 (k:=k) (r:=r) S.gL hk;have cC:∀k (hk:k<m.left.length),∃c,aload Tryz.prog h 49 (elemAddr lv (k*3+2))=some c/\∀g',aLen Tryz.prog g' 49 c=some (.int .i64 (m.left[k].fits.length:Nat)):=fun k hk=>by
  obtain⟨a,b,c,q1,q2,q3,q4,q5,q6⟩:=S.at_ hk;refine⟨c,by rw[Bj Ac rfl];exact S.gL.cs.get _ _ q3,fun g'=>?_⟩;have:=q6.DH g';rwa[y6]at this
 refine Sk (Yb K S.f.l5 S.lenL) ?_;refine aat.intro (fun k fr V=>∃i:Nat,k=m.left.length-i/\i<=m.left.length/\fr=mkF [(0,.pointer (some ⟨B,0,none⟩)),(3,.int .i64 (bestK m.left i:Nat)),(20,.int .i64 (m.left.length:Nat)),(21,.int .i64 (i:Nat))]/\V=h)
  m.left.length [(0,.pointer (some ⟨B,0,none⟩)),(3,.int .i64 (0:Nat)),(20,.int .i64 (m.left.length:Nat)),(21,.int .i64 (0:Nat))] fD ⟨0,rfl,Og _,rfl,rfl⟩ ?_
 rintro k fr V aX ⟨i,rfl,hi,rfl,rfl⟩;refine Uy ?_;refine Kl.intro (fun ht=>?_) (fun hf=>?_)
 .have s : i < m.left.length := CC ht
  clear ht;have F:bestK m.left i<m.left.length:=by
   have:=(EY m.left i).1;rcases Nat.eq_zero_or_pos i with rfl|h
   .exact dE
   grind
  obtain⟨c1,q1,q2⟩:=cC i s;obtain⟨c2,q3,q4⟩:=cC _ F;have aw:=Tw i NH;have e1:=Jd s;have e2:=Jd F;refine Uy ?_;refine gh (tA [0,1,2,3,4,5,6,7,8,9,10,11,12,13,14,15,16,17,18] .done) ?_;by_cases c:m.left[i].fits.length<(m.left[bestK m.left i]).fits.length
  .have d : decide (((m.left[i].fits.length : Nat) : Int) < (((m.left[bestK m.left i]).fits.length : Nat) : Int)) = true := decide_eq_true NH
   have eb:bestK m.left (i+1)=i:=by grind [bestK.eq_2]
   simp only[HO,Nat.reduceLT,↓reduceIte,Nat.reduceEqDiff,reduceCtorEq,Nat.reduceBEq,Qg,K,S.f.l5,bo i s,bo _ F,pf2,eL i 2 s,eL _ 2 F,q1,q2,q3,q4,d,aw];exact tn (m.left.length-(i+1)) [(0,.pointer (some ⟨B,0,none⟩)),(3,.int .i64 (i:Nat)),(20,.int .i64 (m.left.length:Nat)),(21,.int .i64 (i+1:Nat))] (JS s) fD ⟨i+1,rfl,s,by rw[eb];rfl,rfl⟩
  .have d : decide (((m.left[i].fits.length : Nat) : Int) < (((m.left[bestK m.left i]).fits.length : Nat) : Int)) = false := decide_eq_false NH
   have eb:bestK m.left (i+1)=bestK m.left i:=by grind [bestK.eq_2]
   simp only[HO,Nat.reduceLT,↓reduceIte,Nat.reduceEqDiff,reduceCtorEq,Nat.reduceBEq,Qg,K,S.f.l5,bo i s,bo _ F,pf2,eL i 2 s,eL _ 2 F,q1,q2,q3,q4,d,aw];exact tn (m.left.length-(i+1)) [(0,.pointer (some ⟨B,0,none⟩)),(3,.int .i64 (bestK m.left i:Nat)),(20,.int .i64 (m.left.length:Nat)),(21,.int .i64 (i+1:Nat))] (JS s) fD ⟨i+1,rfl,s,by rw[eb];rfl,rfl⟩
 have ag:m.left.length<=i:=vp hf;obtain rfl:i=m.left.length:=NH;clear ag hf hi cC;have F:=(EY m.left m.left.length).1 dE
 have cg:AU n (Zh n es) m=if(m.left.getD (bestK m.left m.left.length) default).fits.length=0 then none else
   if(J6 n (Zh n es) m.on (m.left.getD (bestK m.left m.left.length) default)).length<2 then none else
   some ⟨tV m.on (J6 n (Zh n es) m.on (m.left.getD (bestK m.left m.left.length) default)),kY m.Jv ((m.left.getD (bestK m.left m.left.length) default).fits.headD 0) (J6 n (Zh n es) m.on (m.left.getD (bestK m.left m.left.length) default)),
    (m.left.eraseIdx (bestK m.left m.left.length)).map (GF (kY m.Jv ((m.left.getD (bestK m.left m.left.length) default).fits.headD 0) (J6 n (Zh n es) m.on (m.left.getD (bestK m.left m.left.length) default))) ((m.left.getD (bestK m.left m.left.length) default).fits.headD 0) m.Jv.length)++
    (vX n (tV m.on (J6 n (Zh n es) m.on (m.left.getD (bestK m.left m.left.length) default))) (V8 n (m.left.getD (bestK m.left m.left.length) default).zp (J6 n (Zh n es) m.on (m.left.getD (bestK m.left m.left.length) default)))).map fun q=>{q with fits:=zh (kY m.Jv ((m.left.getD (bestK m.left m.left.length) default).fits.headD 0) (J6 n (Zh n es) m.on (m.left.getD (bestK m.left m.left.length) default))) q.Fm ((m.left.getD (bestK m.left m.left.length) default).fits++[m.Jv.length])}⟩:=rfl
 rw[cg];clear cg;obtain⟨a,b,c,q1,q2,q3,q4,q5,q6⟩:=S.at_ F;have fp:=S.gL.Mx F q1 q2 q3;have fq:=bo _ F;have aj:m.left[bestK m.left m.left.length]∈m.left:=Gw F;have fs:m.left.getD (bestK m.left m.left.length) default=m.left[bestK m.left m.left.length]:=D4 F;rw[fs];generalize ft:bestK m.left m.left.length=G at*;generalize hp:m.left[G]=p at*;obtain⟨h1,h2,e1,e2,l2,w2,oP,-⟩:=Od aX q4.sl.one q5.one q6.one;obtain⟨S2,b9⟩:=(S.up l2).pV
 have il:∀z,InS B O fv iv lv z->z≠V.next:=fun z hz e=>by
  have:=(S.own hz).2;rw[e]at this
  exact this ((Le.refl V).next aX (qL0 _))
 have gP:(Hg h2 B O fv iv lv).own V.next=some (.cells [a,b,c]):=by grind [Hg,Th,HX]
 generalize V.next=P at*
 have fx:=pB P 0 NH;have ix:=pB P 1 NH;have cE:=pB P 2 NH;have lc:=fun g'=>q6.DH g';rw[y6]at lc;simp only[HO,Nat.reduceLT,↓reduceIte,Nat.reduceEqDiff,reduceCtorEq,K,S.f.l5,fq,fp,e1,e2,cE,lP2 oP,lc];by_cases c0:p.fits.length=0
 .have d0 : decide (((p.fits.length : Nat) : Int) = 0) = true := decide_eq_true NH
  refine Sk (XC @lW d0) ?_
  grind [lx.le]
 have d0:decide (((p.fits.length:Nat):Int)=0)=false:=decide_eq_false NH;rw[if_neg c0];have dF:p.fits.headD 0∈p.fits:=Lt fun e=>c0 (by rw[e];rfl);obtain⟨fy,wh,cM,cc,fz⟩:=I.Kg hR hA D aj dF;rw[if_neg NH];have dH:=((I.Aa p aj).fits _).1 dF;have cN:aV n p.zp:=fun e he=>hR e ((I.Aa p aj).sub.subset he);have fF:=I.Ca aj;have iz:=I.UO hR aj;have dI:=I.Xg aj;have fJ:=I.fS hR aj;have dJ:=q4.le b9;have fL:=q5.le Nn.RP b9;have dL:=q6.le Nn.RP b9;refine Sk (Yb @lW d0 (OU oP)) ?_;refine TC.intro PJ ⟨Tryz.func98,rfl,WY⟩ (way_any W0 B n bv _ fv iv lv a b c es m.on p h2 S2.f (S2.cB.le (Nn.RL Nn.RP) S2.le) S2.rlO S2.ZA (dJ.le S2.le) (fL.le Nn.RP S2.le) q6.one hR cN fJ NH NH NH NH) ?_;rintro wv h3 w3 ⟨gw,l3,aw3⟩;obtain⟨S3,br⟩:=(S2.up l3).pV;have dM:GI (Hg h3 B O fv iv lv) wv (aab (J6 n (Zh n es) m.on p)):=Pv (h:=h3) S2 gw aw3;have dO:=br.own _ _ gP;have iD:∀x∈J6 n (Zh n es) m.on p,x<n:=cc;obtain⟨fN,iF⟩:=I.face_lt dH.1;have iH:=zh;generalize dS:J6 n (Zh n es) m.on p=way at*;have lw:=fun g'=>gw.rl.DH g';rw[y6]at lw;have dw:decide (((way.length:Nat):Int)<2)=false:=decide_eq_false NH;have fP:awrap .i64 ((G:Int)+1)=((G+1:Nat):Int):=Tw G NH;simp only[HO,Nat.reduceLT,↓reduceIte,Nat.reduceEqDiff,reduceCtorEq,lw,dw,K,S3.f.l5,fP];refine TC.intro PJ ⟨Tryz.func99,rfl,WY⟩ (F5 W0 S3.gL S3.cuL S3.c1 F NH) ?_;rintro w h4 w4 ⟨gd,fU,fV,fY,ga⟩;obtain⟨h5,e5,S5,w5⟩:=S3.delL w4 F gd fU fV fY ga;have l5g:=S5.le;have gg:=l5g.own _ _ dO;have gi:=(dL.le Nn.RP br).le Nn.RP l5g;have dT:=q6.TA 0 (by rw[y6];omega);have dV:=gi.Uc 0 (by rw[y6];omega);have t0:0<p.fits.length:=NH;rw[sY t0,<-Bw t0]at dV;simp only[aaQ]at dT;generalize iI:p.fits.headD 0=f at*;generalize iK:(cs.take (G*3)++cs.drop ((G+1)*3))=gj at*;refine Sk (XC K e5) ?_;refine gh (tA [0,1,2,3,4,5,6,7,8,9,10] .done) ?_;refine CO (rE cE (lP2 gg) dT dV fi S5.f.l3 S5.LF) ?_;have gk:=Kz W0 S5 (f:=f) (way:=way) dH.1 dM fy wh cM fN cc NH NH NH NH;refine TC.intro PJ ⟨Tryz.func100,rfl,WY⟩ gk ?_;rintro x h6 w6 ⟨g6,A,C,bx,bB,S6,cP⟩;have iL:(m.left.eraseIdx G).length=m.left.length-1:=pw;have cR:∀q∈m.left.eraseIdx G,q∈m.left:=fun q V=>List.mem_of_mem_eraseIdx V;generalize iM:m.left.eraseIdx G=M at*;have ed:(kY m.Jv f way).length=m.Jv.length+1:=Yz;generalize iT:kY m.Jv f way=N at*;have iW:=sB B 0 NH;refine Sk (Yb K S6.f.l5 S6.lenL) ?_;refine aat.intro (fun k fr hz=>∃(i:Nat) (g7:AHeap) (bF:List Value) (L:List wW),k=M.length-i/\i<=M.length/\fr=mkF [(0,.pointer (some ⟨B,0,none⟩)),(5,.pointer (some ⟨P,0,none⟩)),(6,wv),(7,.int .i64 (f:Nat)),(8,.int .i64 (m.Jv.length:Nat)),(89,w),(90,.int .i64 (M.length:Nat)),(91,.int .i64 (i:Nat))]/\
   lx g7 hz B O n (Zh n es) bv A C w bx bB bF m.on N N L/\Le g6 g7/\L=(M.take i).map (GF N f m.Jv.length)++M.drop i)
  M.length [(0,.pointer (some ⟨B,0,none⟩)),(5,.pointer (some ⟨P,0,none⟩)),(6,wv),(7,.int .i64 (f:Nat)),(8,.int .i64 (m.Jv.length:Nat)),(89,w),(90,.int .i64 (M.length:Nat)),(91,.int .i64 (0:Nat))] fD
  ⟨0,g6,gj,M,rfl,Og _,rfl,S6,Le.refl _,Ma⟩ ?_
 rintro k fr hz cU ⟨i,g7,bF,L,rfl,hi,rfl,S7,a6,a7⟩;have ef:L.length=M.length:=by rw[a7,Eh,jz,BR,xj];omega
 refine Uy ?_;refine Kl.intro (fun ht=>?_) (fun hf=>?_)
 .have s : i < M.length := CC ht
  clear ht;have a8:i<L.length:=NH;have cZ:L[i]=M[i]:=by
   have h1:L[i]?=some M[i]:=by
    rw[a7,Z6 (by rw[jz,BR];omega),jz,BR,acA NH,pz,DF,rY]
    grind
   grind
  obtain⟨a',Y,c',r1,r2,r3,r4,r5,r6⟩:=S7.at_ a8;have c3:=S7.gL.Mx a8 r1 r2 r3;have bH:=S7.gL.ad3 a8;have gl:=eA3 (r:=2) S7.gL a8;have eg:aField Tryz.prog 125 (.pointer (some (elemAddr w (i*3)))) 2=some (.pointer (some (elemAddr w (i*3+2)))):=by rw[pf2,gl]
  rw[cZ]at r4 r5 r6;have cd:=cR _ (Gw s);have ck:=I.fS hR cd;have cp:=I.UO hR cd;have aL:=I.Xg cd;have gn:=(I.Aa _ cd).fits;generalize eh:M[i]=q at*;obtain⟨h8,h9,e8,e9,l9,w9,oQ,l8⟩:=Od cU r4.sl.one r5.one r6.one;have Z:=S7.up l9;have aw:=Tw i NH
  have dQ:∀z,InS B O A C w z->z≠hz.next:=fun z J e=>by
   have:=(S7.own J).2;rw[e]at this
   exact this ((Le.refl hz).next cU (qL0 _))
  generalize hz.next=Q at*
  have aC:=pB Q 1 NH;have al:=pB Q 2 NH;have aD:M.take (i+1)=M.take i++[q]:=by rw[EL s,eh]
  have ei:M.drop i=q::M.drop (i+1):=by rw[QD s,eh]
  have aN:∀q':wW,L.set i q'=(M.take i).map (GF N f m.Jv.length)++q'::M.drop (i+1):=fun q'=>by rw[a7];exact Vr s ei
  refine Sk (bG bH c3 e8 e9 al (lP2 oQ)) ?_;refine TC.intro PJ ⟨qS34,rfl,WY⟩ (W3 W0 c' (aab q.fits) ((f:Nat):Int) h9 (r6.le Nn.RP Z.le) (by rw[y6];omega)) ?_;rintro y bb gq ⟨rfl,rfl⟩;by_cases cm:f∈q.fits
  rotate_left
  .have d:decide (((f:Nat):Int)∈aab q.fits)=false:=decide_eq_false fun hm=>cm (by
    obtain⟨z,J,e⟩:=yM.1 hm;have:z=f:=NH
    grind)
   simp only[HO,Nat.reduceLT,↓reduceIte,Nat.reduceEqDiff,reduceCtorEq,d,aw];refine tn (M.length-(i+1)) [(0,.pointer (some ⟨B,0,none⟩)),(5,.pointer (some ⟨P,0,none⟩)),(6,wv),(7,.int .i64 (f:Nat)),(8,.int .i64 (m.Jv.length:Nat)),(89,w),(90,.int .i64 (M.length:Nat)),(91,.int .i64 (i+1:Nat))] (JS s) fD
    ⟨i+1,g7,bF,L,rfl,s,rfl,Z,a6,?_⟩
   rw[a7,aD,ei,AQ,Bx];have:GF N f m.Jv.length q=q:=by unfold GF;grind
   simp[this]
  have d:decide (((f:Nat):Int)∈aab q.fits)=true:=decide_eq_true (yM.2 ⟨f,cm,rfl⟩);refine Sk d ?_;have T:∀h',Le bb h'->aload Tryz.prog h' 75 ⟨B,5,none⟩=some w/\aload Tryz.prog h' 49 ⟨Q,1,none⟩=some Y/\aload Tryz.prog h' 49 ⟨Q,2,none⟩=some c':=fun h' l=>⟨(Z.f.le l).l5,lP1 (l.own _ _ oQ),lP2 (l.own _ _ oQ)⟩;obtain⟨c4,c5,c6⟩:=T bb (Le.refl _);have aP:∀z∈q.fits++[m.Jv.length],z<N.length:=fun z J=>by
   rw[ed];rcases WA.1 J with h|h
   .have:=((gn z).1 h).1;omega
   .have:=jf.1 h;omega
  have aT:aab q.fits++[((m.Jv.length:Nat):Int)]=aab (q.fits++[m.Jv.length]):=by simp[aab]
  obtain⟨ha,ea,la,wa,oa⟩:=Tt gq [.int .i64 ((m.Jv.length:Nat):Int)];obtain⟨gu,gv,gz⟩:=T ha la;refine gh (tA [0,1,2,3,4,5,6,7,8,9,11] (.ch 10 [9] (JQ 12 [11] (JQ 13 [10,12] (JQ 14 [5,7,13] (tA [15,16] (JQ 17 [0,1,2,3,4,5,6,7,8,9,10,11,12,13,14,16] .done))))) (JQ 12 [11] (JQ 10 [9] (JQ 13 [10,12] (JQ 14 [5,7,13] (tA [15,16] (JQ 17 [0,1,2,3,4,5,6,7,8,9,10,11,12,13,14,16] .done)))))))) ?_;simp only[HO,Nat.reduceLT,↓reduceIte,Nat.reduceEqDiff,reduceCtorEq,Nat.reduceBEq,Qg,K,c4,gu,aC,al,c5,gv,c6,gz,DQ,ea];refine⟨?_,?_⟩
  .refine VA.intro PJ ⟨afI, rfl, WY⟩ (QY W0 c' (aab q.fits) bb (r6.le Nn.RP Z.le) (by rw [y6]; exact Xi aL aW R)) ?_
   rintro y sZ wb ⟨gb,lb,ab⟩;obtain⟨bI,bN,bQ⟩:=T sZ lb;obtain⟨av,gA,hc,ej,ec,aF,wc,gC,c9,gE⟩:=gb.push wb ((m.Jv.length:Nat):Int) (by rw[y6];grind);obtain⟨E,gJ⟩:=c9 bb lb ab;rw[aT]at aF;obtain⟨ek,en,eo⟩:=T gA (lb.trans gC);obtain⟨bW,bZ,b0⟩:=T hc E;simp only[DQ]at ej;simp only[HO,Nat.reduceLT,↓reduceIte,Nat.reduceEqDiff,reduceCtorEq,Nat.reduceBEq,Qg,K,c4,bI,ek,bW,aC,al,c5,bN,en,bZ,c6,bQ,eo,b0,DQ,ej,ec];obtain⟨gK,gM,gN⟩:=T hc E;refine VA.intro PJ ⟨afK,rfl,WY⟩ (NR W0 B n bv _ A C w Y av N q.Fm (q.fits++[m.Jv.length]) hc (Z.f.le E) (Z.rlI.le (Nn.RL Nn.sJ) E) ((r5.le Nn.RP Z.le).le Nn.RP E) aF.rl ck aP (sr cp aK) (by rw[Eh,Qn];exact ig aL aW R)) ?_;rintro y hd wd ⟨gy,da,ay⟩;have b1:=E.trans da;obtain⟨db,dc,dd⟩:=T hd b1;obtain⟨Sd,de⟩:=(Z.up b1).pV;have dj:GI (Hg hd B O A C w) y (aab (zh N q.Fm (q.fits++[m.Jv.length]))):=Pv (h:=hd) Z gy (fun b hb=>E.none (ay b hb));obtain⟨he,ee,Se,we⟩:=Sd.setT wd a8 dj.rl;rw[cZ]at Se;simp only[HO,Nat.reduceLT,↓reduceIte,Nat.reduceEqDiff,reduceCtorEq,Nat.reduceBEq,Qg,K,aC,al,db,dc,dd,bH,eg,ee,aw];refine tn (M.length-(i+1)) [(0,.pointer (some ⟨B,0,none⟩)),(5,.pointer (some ⟨P,0,none⟩)),(6,wv),(7,.int .i64 (f:Nat)),(8,.int .i64 (m.Jv.length:Nat)),(89,w),(90,.int .i64 (M.length:Nat)),(91,.int .i64 (i+1:Nat))] (JS s) fD
    ⟨i+1,_,_,_,rfl,s,rfl,Se,a6.trans de,?_⟩
   rw[aN,aD,AQ,Bx];have:GF N f m.Jv.length q={q with fits:=zh N q.Fm (q.fits++[m.Jv.length])}:=by unfold GF;grind
   simp[this]
  .refine VA.intro PJ ⟨afI, rfl, WY⟩ (QY W0 c' (aab q.fits) ha ((r6.le Nn.RP Z.le).le Nn.RP la) (by rw [y6]; exact Xi aL aW R)) ?_
   rintro y sZ wb ⟨gb,lb,ab⟩;obtain⟨bI,bN,bQ⟩:=T sZ (la.trans lb)
   have ro:RL RP sZ (.slice (some ⟨bb.next,0,none⟩) 1 1) [((m.Jv.length:Nat):Int)]:=RL.Wh (RS.whole (lb.own _ _ oa) rfl)
   obtain⟨av,hc,ec,aF,wc,c9,gE⟩:=GI.join gb wb ro (by rw[y6,Qn];grind);obtain⟨gR,gJ⟩:=c9 ha lb ab;have E:=la.trans gR;rw[aT]at aF;obtain⟨bW,bZ,b0⟩:=T hc E;refine CO (Da K c4 bI bW aC al c5 bN bZ c6 bQ b0 @DQ ec) ?_;obtain⟨gK,gM,gN⟩:=T hc E;refine VA.intro PJ ⟨afK,rfl,WY⟩ (NR W0 B n bv _ A C w Y av N q.Fm (q.fits++[m.Jv.length]) hc (Z.f.le E) (Z.rlI.le (Nn.RL Nn.sJ) E) ((r5.le Nn.RP Z.le).le Nn.RP E) aF.rl ck aP (sr cp aK) (by rw[Eh,Qn];exact ig aL aW R)) ?_;rintro y hd wd ⟨gy,da,ay⟩;have b1:=E.trans da;obtain⟨db,dc,dd⟩:=T hd b1;obtain⟨Sd,de⟩:=(Z.up b1).pV;have dj:GI (Hg hd B O A C w) y (aab (zh N q.Fm (q.fits++[m.Jv.length]))):=Pv (h:=hd) Z gy (fun b hb=>E.none (ay b hb));obtain⟨he,ee,Se,we⟩:=Sd.setT wd a8 dj.rl;rw[cZ]at Se;simp only[HO,Nat.reduceLT,↓reduceIte,Nat.reduceEqDiff,reduceCtorEq,Nat.reduceBEq,Qg,K,aC,al,db,dc,dd,bH,eg,ee,aw];refine tn (M.length-(i+1)) [(0,.pointer (some ⟨B,0,none⟩)),(5,.pointer (some ⟨P,0,none⟩)),(6,wv),(7,.int .i64 (f:Nat)),(8,.int .i64 (m.Jv.length:Nat)),(89,w),(90,.int .i64 (M.length:Nat)),(91,.int .i64 (i+1:Nat))] (JS s) fD
    ⟨i+1,_,_,_,rfl,s,rfl,Se,a6.trans de,?_⟩
   rw[aN,aD,AQ,Bx];have:GF N f m.Jv.length q={q with fits:=zh N q.Fm (q.fits++[m.Jv.length])}:=by unfold GF;grind
   simp[this]
 have ag:M.length<=i:=vp hf;obtain rfl:i=M.length:=NH;rw[HV (qL0 _),qL212 (qL0 _),P2]at a7;clear ag hf hi;have ep:=a6.own _ _ (cP.own _ _ dO);have dk:=dM.le (cP.trans a6);have er:=fun g'=>dk.rl.DH g';rw[y6]at er;refine Sk er ?_;refine aat.intro (fun k fr hy=>∃(i:Nat),k=way.length-i/\i<=way.length/\fr=mkF [(0,.pointer (some ⟨B,0,none⟩)),(5,.pointer (some ⟨P,0,none⟩)),(6,wv),(8,.int .i64 (m.Jv.length:Nat)),(118,wv),(119,.int .i64 (way.length:Nat)),(120,.int .i64 (i:Nat))]/\
   lx g7 hy B O n (Zh n es) bv A C w bx bB bF (tV m.on (way.take i)) N N L)
  way.length [(0,.pointer (some ⟨B,0,none⟩)),(5,.pointer (some ⟨P,0,none⟩)),(6,wv),(8,.int .i64 (m.Jv.length:Nat)),(118,wv),(119,.int .i64 (way.length:Nat)),(120,.int .i64 (0:Nat))] fD
  ⟨0,rfl,Og _,rfl,S7⟩ ?_
 clear S7 cU;clear hz;rintro k fr hy dS ⟨i,rfl,hi,rfl,S8⟩;refine Uy ?_;refine Kl.intro (fun ht=>?_) (fun hf=>?_)
 .have s : i < way.length := CC ht
  clear ht;have gy:=dk.le S8.le;have gS:=gy.rl.TA i (by rw[y6];exact s);have et:=gy.rl.Uc i (by rw[y6];exact s);rw[sY s]at et;have hv:=cc way[i] (Gw s);have aD:way.take (i+1)=way.take i++[way[i]]:=EL s;generalize way[i]=v at*;have gT:aIndexAddr Tryz.prog 59 (.slice (some ⟨O,0,none⟩) n n) (.int .i64 (v:Int))=some (.pointer (some ⟨O,v,none⟩)):=by rw[Wc eY AV Ji v hv];simp[Ip]
  obtain⟨h9,e9,Z,w9⟩:=S8.setO dS hv;have gU:(tV m.on (way.take i)).set v true=tV m.on (way.take (i+1)):=by rw[aD];unfold tV;rw[aaL];rfl
  rw[gU]at Z;have aw:=Tw i (Lb s (le_4 fz aK));simp only[HO,Nat.reduceLT,↓reduceIte,Nat.reduceEqDiff,reduceCtorEq,gS,et,fm,S8.f.l2,gT,e9,aw];exact tn (way.length-(i+1)) [(0,.pointer (some ⟨B,0,none⟩)),(5,.pointer (some ⟨P,0,none⟩)),(6,wv),(8,.int .i64 (m.Jv.length:Nat)),(118,wv),(119,.int .i64 (way.length:Nat)),(120,.int .i64 (i+1:Nat))] (JS s) fD ⟨i+1,rfl,s,rfl,Z⟩
 have ag:way.length<=i:=vp hf;rw[HV ag]at S8;clear ag hf hi;have gV:=S8.le.own _ _ ep;have b2:=cP.trans a6;have r6:=((dL.le Nn.RP br).le Nn.RP b2);have r4:=((dJ.le br).le b2);refine Sk (XC cE (lP2 gV)) ?_;refine TC.intro PJ ⟨afI,rfl,WY⟩ (QY W0 c (aab p.fits) hy (r6.le Nn.RP S8.le) (by rw[y6];exact Xi dI aW R)) ?_;rintro y h9 w9 ⟨g9,l9,a9⟩;obtain⟨av,bb,dm,eu,gZ,ev,iX,iY,ew,ic⟩:=g9.push w9 ((m.Jv.length:Nat):Int) (by grind [y6]);obtain⟨ey,hl⟩:=ew hy l9 a9;have aT:aab p.fits++[((m.Jv.length:Nat):Int)]=aab (p.fits++[m.Jv.length]):=by simp[aab]
 rw[aT]at ev;obtain⟨bg,aq⟩:=(S8.up ey).pV;have aF:GI (Hg dm B O A C w) av (aab (p.fits++[m.Jv.length])):=Pv (h:=dm) S8 ev hl;have ez:=aq.own _ _ ep;have eA:=bg.le.own _ _ ez;have hn:=dk.le aq;simp only[DQ]at eu;refine Sk (IX @DQ eu gZ fx (lP0 eA)) ?_;refine TC.intro PJ ⟨Tryz.func103,rfl,WY⟩ (Bs W0 B n bv _ A C w a wv p.zp way dm bg.f ((r4.le aq).le bg.le) (hn.le bg.le).rl cN cc NH NH NH) ?_;rintro y2 hx ja ⟨hC,hD,jb⟩;obtain⟨ar,b3⟩:=(bg.up hD).pV;have b4:(V8 n p.zp way).Sublist p.zp:=fR;have dp:aV n (V8 n p.zp way):=fun e he=>cN e (b4.subset he);have dq:(V8 n p.zp way).length<=594:=EP b4.length_le (EP fF R);generalize je:V8 n p.zp way=wo at*;refine Uy ?_;refine TC.intro PJ ⟨Tryz.func102,rfl,WY⟩ (Xr W0 B n bv _ A C w y2 (tV m.on way) wo hx ar.f ar.rlO ar.ZA hC.pr dp NH NH) ?_;rintro x X hE ⟨vs,OP⟩;obtain⟨eB,b5⟩:=(ar.up OP.sep.le).pV;have dv:vX n (tV m.on way) wo=(qT (Wg (tV m.on way)) (grpsM (frL n (Wg (tV m.on way)) wo) wo [] wo.length)).map fun q=>⟨q.1,q.2,[]⟩:=by
  unfold vX qT;rw[FD];rfl
 have cf:∀q∈qT (Wg (tV m.on way)) (grpsM (frL n (Wg (tV m.on way)) wo) wo [] wo.length),(∀z∈q.2,∃v:Nat,z=(v:Int)/\v<n)/\q.2.length<=n:=fun q V=>by
  obtain⟨gr,hF,rfl⟩:=yM.1 V;obtain⟨-,-,-,-,eC⟩:=Pt (frL n (Wg (tV m.on way)) wo) wo [] wo.length;have cq:=eC gr hF;refine⟨fun z J=>?_,Qr dp cq⟩;obtain⟨_,e,he,h⟩:=zS.1 (((VW _).2 z).1 J);obtain⟨u,v,rfl,jg,ji⟩:=jB dp (cq e he);simp only at h;rcases h with rfl|rfl
  .grind
  grind
 have eE:(qT (Wg (tV m.on way)) (grpsM (frL n (Wg (tV m.on way)) wo) wo [] wo.length)).length<=wo.length:=by
  unfold qT;rw[jz];exact(Pt _ _ _ _).2.2.2.1
 rw[dv];generalize qT (Wg (tV m.on way)) (grpsM (frL n (Wg (tV m.on way)) wo) wo [] wo.length)=ps at*;have hG:=OP.len_;have gx:GS 3 (Hg X B O A C w) x ps.length (cellsO vs ps.length):=Pv (h:=X) ar OP.sl (OP.sep.ap 0 x rfl);have hI:∀(j:Nat) q,ps[j]?=some q->GP (Hg X B O A C w) (vs.getD (2*j) rW) q.1/\GI (Hg X B O A C w) (vs.getD (2*j+1) rW) q.2:=fun j q V=>by
  obtain⟨k1,k2⟩:=OP.ge j q V;have hj:=(Ny.1 V).1;have jj:=OP.len;exact⟨Pv (h:=X) ar k1 (OP.sep.ap _ _ (u6 OP NH)),Pv (h:=X) ar k2 (OP.sep.ap _ _ (u6 OP NH))⟩
 have dz:=aF.le (b3.trans b5);have hJ:Le g (Hg X B O A C w):=b9.trans (br.trans (b2.trans (aq.trans (b3.trans b5))));have aP:∀z∈p.fits++[m.Jv.length],z<N.length:=fun z J=>by
  rw[ed];rcases WA.1 J with h|h
  .have:=(((I.Aa p aj).fits z).1 h).1;omega
  .have:=jf.1 h;omega
 have ef:L.length<=594:=pw;clear OP b5 ar b3 bg aq S8;generalize Hg X B O A C w=eF at*;refine Sk hG ?_;refine aat.intro (fun k fr V=>∃(i:Nat) (bh:AHeap) (az:List Value) (U:Value),k=ps.length-i/\i<=ps.length/\fr=mkF [(0,.pointer (some ⟨B,0,none⟩)),(13,av),(143,x),(144,.int .i64 (ps.length:Nat)),(145,.int .i64 (i:Nat))]/\
   lx bh V B O n (Zh n es) bv A C U bx bB az (tV m.on way) N N (L++(ps.take i).map fun q=>⟨q.1,q.2,zh N q.2 (p.fits++[m.Jv.length])⟩)/\Le eF bh)
  ps.length [(0,.pointer (some ⟨B,0,none⟩)),(13,av),(143,x),(144,.int .i64 (ps.length:Nat)),(145,.int .i64 (0:Nat))] fD
  ⟨0,eF,bF,w,rfl,Og _,rfl,by simpa using eB,Le.refl _⟩ ?_
 clear eB hE;clear X;rintro k fr V aX ⟨i,bh,az,U,rfl,hi,rfl,aH,W⟩;refine Uy ?_;refine Kl.intro (fun ht=>?_) (fun hf=>?_)
 .have s : i < ps.length := CC ht
  clear ht;have hK:=XJ s;obtain⟨ge,gf⟩:=hI i _ hK;obtain⟨eG,eI⟩:=cf _ (Gw s);have aD:ps.take (i+1)=ps.take i++[ps[i]]:=EL s;generalize ps[i]=q at*;have eM:=gx.le (W.trans aH.le);obtain⟨z1,z2,z3⟩:=aY vs ps.length s;have c3:=eM.Mx s z1 z2 z3;have bH:=eM.ad3 s;have cr:=ge.le W;have b6:=gf.le W;generalize vs.getD (2*i) rW=a' at*;generalize vs.getD (2*i+1) rW=Y at*;obtain⟨jk,hL,hM,hN,hP,jq,oQ,jr⟩:=Od aX (a:=a') (b:=Y) (c:=rW) cr.pr.sl.one b6.rl.one rfl;have bk:=aH.up hP
  have dQ:∀z,InS B O A C U z->z≠V.next:=fun z J e=>by
   have:=(aH.own J).2;rw[e]at this
   exact this ((Le.refl V).next aX (qL0 _))
  have eO:bh.own V.next=none:=aH.le.next aX (qL0 _)
  generalize V.next=Q at*
  have aC:=pB Q 1 NH;have al:=pB Q 2 NH;have aw:=Tw i (Lb s (QJ NH));refine Sk (bG bH c3 hM hN aC (lP1 oQ)) ?_;refine TC.intro PJ ⟨afK,rfl,WY⟩ (NR W0 B n bv _ A C U Y av N q.2 (p.fits++[m.Jv.length]) hL bk.f bk.rlI ((b6.le bk.le).rl) (((dz.le W).le bk.le).rl) eG aP (sr eI aK) (by rw[Eh,Qn];exact ig dI aW R)) ?_;rintro y aJ eQ ⟨dA,eS,eT⟩;have cx:=eS.own _ _ oQ;have st:=QB (P:=Tryz.prog) (t:=49) (x:=y) Ac Ji cx (off:=2) Ma dA.rl.sl.cell dA.rl.one;have aN:([a',Y,rW]:List Value).set 2 y=[a',Y,y]:=rfl;rw[aN]at st;have cz:(aJ.put Q (.cells [a',Y,y])).own Q=some (.cells [a',Y,y]):=AHeap.Y3 _ _ _;have hQ:WF (aJ.put Q (.cells [a',Y,y])):=eQ.put _ (eQ.lt cx);have hS:blk y≠some Q:=fun e=>by have:=eT Q e;grind
  have hT:=GS.put dA (fK.cells [a',Y,y]) hS;have eU:∀z o,z≠Q->aJ.own z=some o->(aJ.put Q (.cells [a',Y,y])).own z=some o:=fun z o J ho=>by rw[AHeap.By _ _ _ _ J];exact ho
  have eV:=bk.up eS;have hU:lx bh (aJ.put Q (.cells [a',Y,y])) B O n (Zh n es) bv A C U bx bB az (tV m.on way) N N (L++(ps.take i).map fun q=>⟨q.1,q.2,zh N q.2 (p.fits++[m.Jv.length])⟩):=
   eV.other (eV.le.put _ eO) fun z o J ho=>eU z o (dQ z J) ho
  obtain⟨dB,b8⟩:=hU.pV;have gy:GI (Hg (aJ.put Q (.cells [a',Y,y])) B O A C U) y (aab (zh N q.2 (p.fits++[m.Jv.length]))):=Pv (h:=aJ.put Q (.cells [a',Y,y])) bk hT eT;obtain⟨eW,jv,jx,jE,hV,hW,hX,hY,jH,eZ,hZ,-⟩:=dB.pushL hQ (a:=a') (b:=Y) (c:=y) (p:=⟨q.1,q.2,zh N q.2 (p.fits++[m.Jv.length])⟩) ((cr.le b8).pr) ((b6.le b8).rl) gy.rl (app_b ef (EP eE dq) i);have h0:=OU cz;have e0:=OU (eZ.own _ _ cz);have h7:=dB.f.le eZ;simp only[HO,Nat.reduceLT,↓reduceIte,Nat.reduceEqDiff,reduceCtorEq,al,st];refine gh (tA [0,1,2,3,4,5] (JQ 6 [5] (JQ 7 [4,6] (tA [8,9] (JQ 10 [0,1,2,3,4,5,6,7,9] .done))))) ?_;simp only[HO,Nat.reduceLT,↓reduceIte,Nat.reduceEqDiff,reduceCtorEq,Nat.reduceBEq,Qg,K,dB.f.l5,h7.l5,hZ.l5,h0,e0,hV,hW,hX,aw];refine tn (ps.length-(i+1)) [(0,.pointer (some ⟨B,0,none⟩)),(13,av),(143,x),(144,.int .i64 (ps.length:Nat)),(145,.int .i64 (i+1:Nat))] (JS s) fD
   ⟨i+1,_,az++[a',Y,y],eW,rfl,s,rfl,?_,W.trans b8⟩
  rw[aD,AQ,<-Bx];exact hY
 have ag:ps.length<=i:=vp hf;rw[HV ag]at aH;refine Uy ?_;refine⟨bh,hJ.trans W,aH.le,.inr ⟨_,A,C,U,bx,bB,az,rfl,trivial,?_⟩⟩;simp only;rw[<-a7,FD];exact aH
end
end Go.Fw
