/- A text. -/
import Derived.Test.YtkccdnmaaelbiaaGreatFwLJ13
set_option linter.all false
set_option maxRecDepth 99999
set_option maxHeartbeats 9999999
namespace Go.Fw
section
attribute [local instance] Classical.propDecidable
attribute [local irreducible] Kp MQ lU rS KO KN KX KE VK Kl ZJ TC aat
open Go.Proofs
variable {B O a b c i n:Nat} {bv fv iv lv:Value} {cs us ws:List Value} {es:List Pr} {g h h':AHeap} {left:List wW} {rows:AM}
theorem Jd (hi:i<left.length):LF left i=left[i].fits.length:=by grind [LF]
theorem Vr {a:List wW} {φ:wW->wW} {q c:wW} (hi:i<a.length) (b:a.drop i=q::a.drop (i+1)):((a.take i).map φ++a.drop i).set i c=(a.take i).map φ++c::a.drop (i+1):=by
 have d:((a.take i).map φ).length=i:=pw;rw[b,Dj _ _ NH,d,abT];rfl
def Xi (h:a<=b) (h2:b<=c+2) (h3:c<=594):a<=100000:=NH
def ig (h:a<=b) (h2:b<=c+2) (h3:c<=594):a+1<=100000:=NH
def sr (h:a<=n) (h2:(n:Int)<=200):a<=100000:=NH
theorem app_b {α β:Type} {L:List β} {ps:List α} {φ:α->β} (h:L.length<=594) (h2:ps.length<=594) (i:Nat):(L++(ps.take i).map φ).length<=100000:=pw
def le_4 (h:a<=n) (h2:(n:Int)<=200):a<=40000:=NH
def lx.other {on:List Bool} {d e:Cs} (S:lx g h B O n rows bv fv iv lv us ws cs on d e left) (l:Le g h')
  (c:∀z o,InS B O fv iv lv z->h.own z=some o->h'.own z=some o):lx g h' B O n rows bv fv iv lv us ws cs on d e left:=
 {S with
  f:=⟨c _ _ (.inl rfl) S.f.o⟩
  oO:=c _ _ (.inr (.inl rfl)) S.oO
  gF:=GS.kept S.gF fun b o hb a=>c b o (.inr (.inr ⟨fv,Ma,hb⟩)) a
  gI:=GS.kept S.gI fun b o hb a=>c b o (.inr (.inr ⟨iv,Ma,hb⟩)) a
  gL:=GS.kept S.gL fun b o hb a=>c b o (.inr (.inr ⟨lv,Ma,hb⟩)) a
  sep:=⟨S.sep.TE,fun i u b j hb=>by
   obtain⟨o,a⟩:=xD.1 (S.sep.own i u b j hb);rw[c b o (.inr (.inr ⟨u,Gc j,hb⟩)) a];simp,S.sep.ap,l⟩}
theorem af3 (W0:LA) {H:Nat->Nat->Prop} {m:kR} (S:lx g h B O n (Zh n es) bv fv iv lv us ws cs m.on m.Jv m.Jv m.left)
  (hr:bX ⟨(n:Int),es⟩) (D:QG (eN n es)) (I:Z8 n es H m) (eZ:m.left≠[]):
  AC Tryz.prog W0 53 [.pointer (some ⟨B,0,none⟩)] h fun x h'=>∃g',Le g g'/\Le g' h'/\((AU n (Zh n es) m=none/\x=.bool false)\/∃bh e0 e3 e4 e6 e7 fb,AU n (Zh n es) m=some bh/\x=.bool true/\lx g' h' B O n (Zh n es) bv e0 e3 e4 e6 e7 fb bh.on bh.Jv bh.Jv bh.left):=by
 have hR:=hr.GD;have hA:=hr.q9;have aJ:(n:Int)<=200:=hr.n1;have R:es.length<=594:=hr.len;have hZ:=I.Vw;have aT:=I.My;have dz:0<m.left.length:=Dl.2 eZ;refine AC.vE ⟨Tryz.func53,rfl,WY⟩ Tryz.ntmps53 Tryz.results53 fun h0=>?_;simp only[Br,Nat.reduceAdd];have K:=sB B 5 NH;have fc:=sB B 3 NH;have fe:=sB B 2 NH;have bk:=fun k hk=>S.gL.ad3 (k:=k) hk;have eL:=fun k r (hk:k<m.left.length)=>eA3 (k:=k) (r:=r) S.gL hk;have cx:∀k (hk:k<m.left.length),∃c,aload Tryz.prog h 49 (elemAddr lv (k*3+2))=some c/\∀g',aLen Tryz.prog g' 49 c=some (.int .i64 (m.left[k].fits.length:Nat)):=fun k hk=>by
  obtain⟨a,b,c,q1,q2,q3,q4,q5,q6⟩:=S.at_ hk;refine⟨c,by rw[Bj Ac rfl];exact S.gL.cs.get _ _ q3,fun g'=>?_⟩;have:=q6.Uc g';rwa[y6]at this
 refine Sk (Yb K S.f.l5 S.lenL) ?_;refine aat.intro (fun k fr V=>∃i:Nat,k=m.left.length-i/\i<=m.left.length/\fr=mkF [(0,.pointer (some ⟨B,0,none⟩)),(3,.int .i64 (bestK m.left i:Nat)),(20,.int .i64 (m.left.length:Nat)),(21,.int .i64 (i:Nat))]/\V=h)
  m.left.length [(0,.pointer (some ⟨B,0,none⟩)),(3,.int .i64 (0:Nat)),(20,.int .i64 (m.left.length:Nat)),(21,.int .i64 (0:Nat))] fD ⟨0,rfl,vZ _,rfl,rfl⟩ ?_
 rintro k fr V aW ⟨i,rfl,hi,rfl,rfl⟩;refine Uy ?_;refine Kl.intro (fun ht=>?_) (fun hf=>?_)
 .have s : i < m.left.length := CC ht
  clear ht;have F:bestK m.left i<m.left.length:=by
   have:=(EY m.left i).1;rcases Nat.eq_zero_or_pos i with rfl|h
   .exact dz
   grind
  obtain⟨c1,q1,q2⟩:=cx i s;obtain⟨c2,q3,q4⟩:=cx _ F;have aw:=Tw i NH;have e1:=Jd s;have e2:=Jd F;refine Uy ?_;refine gh (tA [0,1,2,3,4,5,6,7,8,9,10,11,12,13,14,15,16,17,18] .done) ?_;by_cases c:m.left[i].fits.length<(m.left[bestK m.left i]).fits.length
  .have d : decide (((m.left[i].fits.length : Nat) : Int) < (((m.left[bestK m.left i]).fits.length : Nat) : Int)) = true := decide_eq_true NH
   have eb:bestK m.left (i+1)=i:=by grind [bestK.eq_2]
   simp only[HO,Nat.reduceLT,↓reduceIte,Nat.reduceEqDiff,reduceCtorEq,Nat.reduceBEq,Qg,K,S.f.l5,bk i s,bk _ F,pf2,eL i 2 s,eL _ 2 F,q1,q2,q3,q4,d,aw];exact tn (m.left.length-(i+1)) [(0,.pointer (some ⟨B,0,none⟩)),(3,.int .i64 (i:Nat)),(20,.int .i64 (m.left.length:Nat)),(21,.int .i64 (i+1:Nat))] (JS s) fD ⟨i+1,rfl,s,by rw[eb];rfl,rfl⟩
  .have d : decide (((m.left[i].fits.length : Nat) : Int) < (((m.left[bestK m.left i]).fits.length : Nat) : Int)) = false := decide_eq_false NH
   have eb:bestK m.left (i+1)=bestK m.left i:=by grind [bestK.eq_2]
   simp only[HO,Nat.reduceLT,↓reduceIte,Nat.reduceEqDiff,reduceCtorEq,Nat.reduceBEq,Qg,K,S.f.l5,bk i s,bk _ F,pf2,eL i 2 s,eL _ 2 F,q1,q2,q3,q4,d,aw];exact tn (m.left.length-(i+1)) [(0,.pointer (some ⟨B,0,none⟩)),(3,.int .i64 (bestK m.left i:Nat)),(20,.int .i64 (m.left.length:Nat)),(21,.int .i64 (i+1:Nat))] (JS s) fD ⟨i+1,rfl,s,by rw[eb];rfl,rfl⟩
 have ad:m.left.length<=i:=vp hf;obtain rfl:i=m.left.length:=NH;clear ad hf hi cx;have F:=(EY m.left m.left.length).1 dz
 have cd:AU n (Zh n es) m=if(m.left.getD (bestK m.left m.left.length) default).fits.length=0 then none else
   if(J6 n (Zh n es) m.on (m.left.getD (bestK m.left m.left.length) default)).length<2 then none else
   some ⟨tV m.on (J6 n (Zh n es) m.on (m.left.getD (bestK m.left m.left.length) default)),kY m.Jv ((m.left.getD (bestK m.left m.left.length) default).fits.headD 0) (J6 n (Zh n es) m.on (m.left.getD (bestK m.left m.left.length) default)),
    (m.left.eraseIdx (bestK m.left m.left.length)).map (GF (kY m.Jv ((m.left.getD (bestK m.left m.left.length) default).fits.headD 0) (J6 n (Zh n es) m.on (m.left.getD (bestK m.left m.left.length) default))) ((m.left.getD (bestK m.left m.left.length) default).fits.headD 0) m.Jv.length)++
    (vX n (tV m.on (J6 n (Zh n es) m.on (m.left.getD (bestK m.left m.left.length) default))) (V8 n (m.left.getD (bestK m.left m.left.length) default).zp (J6 n (Zh n es) m.on (m.left.getD (bestK m.left m.left.length) default)))).map fun q=>{q with fits:=zh (kY m.Jv ((m.left.getD (bestK m.left m.left.length) default).fits.headD 0) (J6 n (Zh n es) m.on (m.left.getD (bestK m.left m.left.length) default))) q.Fm ((m.left.getD (bestK m.left m.left.length) default).fits++[m.Jv.length])}⟩:=rfl
 rw[cd];clear cd;obtain⟨a,b,c,q1,q2,q3,q4,q5,q6⟩:=S.at_ F;have fg:=S.gL.Mx F q1 q2 q3;have fh:=bk _ F;have ag:m.left[bestK m.left m.left.length]∈m.left:=VU F;have fi:m.left.getD (bestK m.left m.left.length) default=m.left[bestK m.left m.left.length]:=D4 F;rw[fi];generalize fm:bestK m.left m.left.length=G at*;generalize hp:m.left[G]=p at*;obtain⟨h1,h2,e1,e2,l2,w2,oP,-⟩:=Od aW q4.sl.one q5.one q6.one;obtain⟨S2,b6⟩:=(S.up l2).pV
 have h7:∀z,InS B O fv iv lv z->z≠V.next:=fun z hz e=>by
  have:=(S.own hz).2;rw[e]at this
  exact this ((Le.refl V).next aW (Ny _))
 have gP:(Hg h2 B O fv iv lv).own V.next=some (.cells [a,b,c]):=by grind [Hg,Th,HX]
 generalize V.next=P at*
 have fp:=pB P 0 NH;have ic:=pB P 1 NH;have cz:=pB P 2 NH;have lc:=fun g'=>q6.Uc g';rw[y6]at lc;simp only[HO,Nat.reduceLT,↓reduceIte,Nat.reduceEqDiff,reduceCtorEq,K,S.f.l5,fh,fg,e1,e2,cz,lP2 oP,lc];by_cases c0:p.fits.length=0
 .have d0 : decide (((p.fits.length : Nat) : Int) = 0) = true := decide_eq_true NH
  refine Sk (XC @lW d0) ?_
  grind [lx.le]
 have d0:decide (((p.fits.length:Nat):Int)=0)=false:=decide_eq_false NH;rw[if_neg c0];have dA:p.fits.headD 0∈p.fits:=Lt fun e=>c0 (by rw[e];rfl);obtain⟨fq,wh,cC,b8,fs⟩:=I.Kg hR hA D ag dA;rw[if_neg NH];have dB:=((I.Aa p ag).fits _).1 dA;have cE:aV n p.zp:=fun e he=>hR e ((I.Aa p ag).sub.subset he);have ft:=I.Ca ag;have ih:=I.UO hR ag;have dE:=I.Xg ag;have fx:=I.fS hR ag;have dF:=q4.le b6;have fy:=q5.le Nn.RP b6;have dH:=q6.le Nn.RP b6;refine Sk (Yb @lW d0 (OU oP)) ?_;refine TC.intro PJ ⟨Tryz.func98,rfl,WY⟩ (afU W0 B n bv _ fv iv lv a b c es m.on p h2 S2.f (S2.cB.le (Nn.RL Nn.RP) S2.le) S2.rlO S2.ZA (dF.le S2.le) (fy.le Nn.RP S2.le) q6.one hR cE fx NH NH NH NH) ?_;rintro wv h3 w3 ⟨gw,l3,aw3⟩;obtain⟨S3,bm⟩:=(S2.up l3).pV;have dI:GI (Hg h3 B O fv iv lv) wv (aab (J6 n (Zh n es) m.on p)):=Pv (h:=h3) S2 gw aw3;have dJ:=bm.own _ _ gP;have ij:∀x∈J6 n (Zh n es) m.on p,x<n:=b8;obtain⟨fz,il⟩:=I.af2 dB.1;have ix:=zh;generalize dL:J6 n (Zh n es) m.on p=way at*;have lw:=fun g'=>gw.rl.Uc g';rw[y6]at lw;have dw:decide (((way.length:Nat):Int)<2)=false:=decide_eq_false NH;have fF:awrap .i64 ((G:Int)+1)=((G+1:Nat):Int):=Tw G NH;simp only[HO,Nat.reduceLT,↓reduceIte,Nat.reduceEqDiff,reduceCtorEq,lw,dw,K,S3.f.l5,fF];refine TC.intro PJ ⟨Tryz.func99,rfl,WY⟩ (F5 W0 S3.gL S3.cuL S3.c1 F NH) ?_;rintro w h4 w4 ⟨gd,fJ,fL,fN,fP⟩;obtain⟨h5,e5,S5,w5⟩:=S3.delL w4 F gd fJ fL fN fP;have dM:=S5.le;have fU:=dM.own _ _ dJ;have fV:=(dH.le Nn.RP bm).le Nn.RP dM;have dO:=q6.TA 0 (by rw[y6];omega);have dS:=fV.DH 0 (by rw[y6];omega);have t0:0<p.fits.length:=NH;rw[sY t0,<-Bw t0]at dS;simp only[gX]at dO;generalize iz:p.fits.headD 0=f at*;generalize iD:(cs.take (G*3)++cs.drop ((G+1)*3))=fY at*;refine Sk (XC K e5) ?_;refine gh (tA [0,1,2,3,4,5,6,7,8,9,10] .done) ?_;refine CO (rE cz (lP2 fU) dO dS fc S5.f.l3 S5.LF) ?_;have ga:=Kz W0 S5 (f:=f) (way:=way) dB.1 dI fq wh cC fz b8 NH NH NH NH;refine TC.intro PJ ⟨Tryz.func100,rfl,WY⟩ ga ?_;rintro x h6 w6 ⟨g6,A,C,bo,br,S6,cM⟩;have iF:(m.left.eraseIdx G).length=m.left.length-1:=pw;have cN:∀q∈m.left.eraseIdx G,q∈m.left:=fun q V=>List.mem_of_mem_eraseIdx V;generalize iH:m.left.eraseIdx G=M at*;have dT:(kY m.Jv f way).length=m.Jv.length+1:=Yz;generalize iI:kY m.Jv f way=N at*;have iK:=sB B 0 NH;refine Sk (Yb K S6.f.l5 S6.lenL) ?_;refine aat.intro (fun k fr hz=>∃(i:Nat) (g7:AHeap) (bx:List Value) (L:List wW),k=M.length-i/\i<=M.length/\fr=mkF [(0,.pointer (some ⟨B,0,none⟩)),(5,.pointer (some ⟨P,0,none⟩)),(6,wv),(7,.int .i64 (f:Nat)),(8,.int .i64 (m.Jv.length:Nat)),(89,w),(90,.int .i64 (M.length:Nat)),(91,.int .i64 (i:Nat))]/\
   lx g7 hz B O n (Zh n es) bv A C w bo br bx m.on N N L/\Le g6 g7/\L=(M.take i).map (GF N f m.Jv.length)++M.drop i)
  M.length [(0,.pointer (some ⟨B,0,none⟩)),(5,.pointer (some ⟨P,0,none⟩)),(6,wv),(7,.int .i64 (f:Nat)),(8,.int .i64 (m.Jv.length:Nat)),(89,w),(90,.int .i64 (M.length:Nat)),(91,.int .i64 (0:Nat))] fD
  ⟨0,g6,fY,M,rfl,vZ _,rfl,S6,Le.refl _,Ma⟩ ?_
 rintro k fr hz cP ⟨i,g7,bx,L,rfl,hi,rfl,S7,aX,a1⟩;have dV:L.length=M.length:=by rw[a1,jf,qH,Cg,QU];omega
 refine Uy ?_;refine Kl.intro (fun ht=>?_) (fun hf=>?_)
 .have s : i < M.length := CC ht
  clear ht;have a6:i<L.length:=NH;have cR:L[i]=M[i]:=by
   have h1:L[i]?=some M[i]:=by
    rw[a1,WA (by rw[qH,Cg];omega),qH,Cg,Nat.min_eq_left NH,abT,EH,b7]
    grind
   grind
  obtain⟨a',Y,c',r1,r2,r3,r4,r5,r6⟩:=S7.at_ a6;have cU:=S7.gL.Mx a6 r1 r2 r3;have bB:=S7.gL.ad3 a6;have gg:=eA3 (r:=2) S7.gL a6;have ed:aField Tryz.prog 125 (.pointer (some (elemAddr w (i*3)))) 2=some (.pointer (some (elemAddr w (i*3+2)))):=by rw[pf2,gg]
  rw[cR]at r4 r5 r6;have b9:=cN _ (VU s);have cf:=I.fS hR b9;have cg:=I.UO hR b9;have aK:=I.Xg b9;have gi:=(I.Aa _ b9).fits;generalize ef:M[i]=q at*;obtain⟨h8,h9,e8,e9,l9,w9,oQ,l8⟩:=Od cP r4.sl.one r5.one r6.one;have Z:=S7.up l9;have aw:=Tw i NH
  have dQ:∀z,InS B O A C w z->z≠hz.next:=fun z J e=>by
   have:=(S7.own J).2;rw[e]at this
   exact this ((Le.refl hz).next cP (Ny _))
  generalize hz.next=Q at*
  have az:=pB Q 1 NH;have aj:=pB Q 2 NH;have aC:M.take (i+1)=M.take i++[q]:=by rw[EL s,ef]
  have eg:M.drop i=q::M.drop (i+1):=by rw[Qn s,ef]
  have aL:∀q':wW,L.set i q'=(M.take i).map (GF N f m.Jv.length)++q'::M.drop (i+1):=fun q'=>by rw[a1];exact Vr s eg
  refine Sk (bG bB cU e8 e9 aj (lP2 oQ)) ?_;refine TC.intro PJ ⟨afd,rfl,WY⟩ (W3 W0 c' (aab q.fits) ((f:Nat):Int) h9 (r6.le Nn.RP Z.le) (by rw[y6];omega)) ?_;rintro y a7 gj ⟨rfl,rfl⟩;by_cases cm:f∈q.fits
  rotate_left
  .have d:decide (((f:Nat):Int)∈aab q.fits)=false:=decide_eq_false fun hm=>cm (by
    obtain⟨z,J,e⟩:=Eh.1 hm;have:z=f:=NH
    grind)
   simp only[HO,Nat.reduceLT,↓reduceIte,Nat.reduceEqDiff,reduceCtorEq,d,aw];refine tn (M.length-(i+1)) [(0,.pointer (some ⟨B,0,none⟩)),(5,.pointer (some ⟨P,0,none⟩)),(6,wv),(7,.int .i64 (f:Nat)),(8,.int .i64 (m.Jv.length:Nat)),(89,w),(90,.int .i64 (M.length:Nat)),(91,.int .i64 (i+1:Nat))] (JS s) fD
    ⟨i+1,g7,bx,L,rfl,s,rfl,Z,aX,?_⟩
   rw[a1,aC,eg,MY,im];have:GF N f m.Jv.length q=q:=by unfold GF;grind
   simp[this]
  have d:decide (((f:Nat):Int)∈aab q.fits)=true:=decide_eq_true (Eh.2 ⟨f,cm,rfl⟩);refine Sk d ?_;have T:∀h',Le a7 h'->aload Tryz.prog h' 75 ⟨B,5,none⟩=some w/\aload Tryz.prog h' 49 ⟨Q,1,none⟩=some Y/\aload Tryz.prog h' 49 ⟨Q,2,none⟩=some c':=fun h' l=>⟨(Z.f.le l).l5,lP1 (l.own _ _ oQ),lP2 (l.own _ _ oQ)⟩;obtain⟨cZ,c3,c4⟩:=T a7 (Le.refl _);have aN:∀z∈q.fits++[m.Jv.length],z<N.length:=fun z J=>by
   rw[dT];rcases yY.1 J with h|h
   .have:=((gi z).1 h).1;omega
   .have:=si.1 h;omega
  have aP:aab q.fits++[((m.Jv.length:Nat):Int)]=aab (q.fits++[m.Jv.length]):=by simp[aab]
  obtain⟨ha,ea,la,wa,oa⟩:=Tt gj [.int .i64 ((m.Jv.length:Nat):Int)];obtain⟨gk,gl,gn⟩:=T ha la;refine gh (tA [0,1,2,3,4,5,6,7,8,9,11] (.ch 10 [9] (JQ 12 [11] (JQ 13 [10,12] (JQ 14 [5,7,13] (tA [15,16] (JQ 17 [0,1,2,3,4,5,6,7,8,9,10,11,12,13,14,16] .done))))) (JQ 12 [11] (JQ 10 [9] (JQ 13 [10,12] (JQ 14 [5,7,13] (tA [15,16] (JQ 17 [0,1,2,3,4,5,6,7,8,9,10,11,12,13,14,16] .done)))))))) ?_;simp only[HO,Nat.reduceLT,↓reduceIte,Nat.reduceEqDiff,reduceCtorEq,Nat.reduceBEq,Qg,K,cZ,gk,az,aj,c3,gl,c4,gn,DQ,ea];refine⟨?_,?_⟩
  .refine VA.intro PJ ⟨aee, rfl, WY⟩ (QY W0 c' (aab q.fits) a7 (r6.le Nn.RP Z.le) (by rw [y6]; exact Xi aK aT R)) ?_
   rintro y sZ wb ⟨gb,lb,ab⟩;obtain⟨bF,bH,bI⟩:=T sZ lb;obtain⟨av,gq,hc,eh,ec,aD,wc,gu,c5,gv⟩:=gb.push wb ((m.Jv.length:Nat):Int) (by rw[y6];grind);obtain⟨E,gz⟩:=c5 a7 lb ab;rw[aP]at aD;obtain⟨ei,ej,ek⟩:=T gq (lb.trans gu);obtain⟨bN,bQ,bW⟩:=T hc E;simp only[DQ]at eh;simp only[HO,Nat.reduceLT,↓reduceIte,Nat.reduceEqDiff,reduceCtorEq,Nat.reduceBEq,Qg,K,cZ,bF,ei,bN,az,aj,c3,bH,ej,bQ,c4,bI,ek,bW,DQ,eh,ec];obtain⟨gA,gC,gE⟩:=T hc E;refine VA.intro PJ ⟨abr,rfl,WY⟩ (NR W0 B n bv _ A C w Y av N q.Fm (q.fits++[m.Jv.length]) hc (Z.f.le E) (Z.rlI.le (Nn.RL Nn.sJ) E) ((r5.le Nn.RP Z.le).le Nn.RP E) aD.rl cf aN (sr cg aJ) (by rw[jf,V3];exact ig aK aT R)) ?_;rintro y hd wd ⟨gy,c6,ay⟩;have bZ:=E.trans c6;obtain⟨c9,da,db⟩:=T hd bZ;obtain⟨Sd,dc⟩:=(Z.up bZ).pV;have dd:GI (Hg hd B O A C w) y (aab (zh N q.Fm (q.fits++[m.Jv.length]))):=Pv (h:=hd) Z gy (fun b hb=>E.none (ay b hb));obtain⟨he,ee,Se,we⟩:=Sd.setT wd a6 dd.rl;rw[cR]at Se;simp only[HO,Nat.reduceLT,↓reduceIte,Nat.reduceEqDiff,reduceCtorEq,Nat.reduceBEq,Qg,K,az,aj,c9,da,db,bB,ed,ee,aw];refine tn (M.length-(i+1)) [(0,.pointer (some ⟨B,0,none⟩)),(5,.pointer (some ⟨P,0,none⟩)),(6,wv),(7,.int .i64 (f:Nat)),(8,.int .i64 (m.Jv.length:Nat)),(89,w),(90,.int .i64 (M.length:Nat)),(91,.int .i64 (i+1:Nat))] (JS s) fD
    ⟨i+1,_,_,_,rfl,s,rfl,Se,aX.trans dc,?_⟩
   rw[aL,aC,MY,im];have:GF N f m.Jv.length q={q with fits:=zh N q.Fm (q.fits++[m.Jv.length])}:=by unfold GF;grind
   simp[this]
  .refine VA.intro PJ ⟨aee, rfl, WY⟩ (QY W0 c' (aab q.fits) ha ((r6.le Nn.RP Z.le).le Nn.RP la) (by rw [y6]; exact Xi aK aT R)) ?_
   rintro y sZ wb ⟨gb,lb,ab⟩;obtain⟨bF,bH,bI⟩:=T sZ (la.trans lb)
   have ro:RL RP sZ (.slice (some ⟨a7.next,0,none⟩) 1 1) [((m.Jv.length:Nat):Int)]:=RL.Wh (RS.whole (lb.own _ _ oa) rfl)
   obtain⟨av,hc,ec,aD,wc,c5,gv⟩:=GI.join gb wb ro (by rw[y6,V3];grind);obtain⟨gJ,gz⟩:=c5 ha lb ab;have E:=la.trans gJ;rw[aP]at aD;obtain⟨bN,bQ,bW⟩:=T hc E;refine CO (Da K cZ bF bN az aj c3 bH bQ c4 bI bW @DQ ec) ?_;obtain⟨gA,gC,gE⟩:=T hc E;refine VA.intro PJ ⟨abr,rfl,WY⟩ (NR W0 B n bv _ A C w Y av N q.Fm (q.fits++[m.Jv.length]) hc (Z.f.le E) (Z.rlI.le (Nn.RL Nn.sJ) E) ((r5.le Nn.RP Z.le).le Nn.RP E) aD.rl cf aN (sr cg aJ) (by rw[jf,V3];exact ig aK aT R)) ?_;rintro y hd wd ⟨gy,c6,ay⟩;have bZ:=E.trans c6;obtain⟨c9,da,db⟩:=T hd bZ;obtain⟨Sd,dc⟩:=(Z.up bZ).pV;have dd:GI (Hg hd B O A C w) y (aab (zh N q.Fm (q.fits++[m.Jv.length]))):=Pv (h:=hd) Z gy (fun b hb=>E.none (ay b hb));obtain⟨he,ee,Se,we⟩:=Sd.setT wd a6 dd.rl;rw[cR]at Se;simp only[HO,Nat.reduceLT,↓reduceIte,Nat.reduceEqDiff,reduceCtorEq,Nat.reduceBEq,Qg,K,az,aj,c9,da,db,bB,ed,ee,aw];refine tn (M.length-(i+1)) [(0,.pointer (some ⟨B,0,none⟩)),(5,.pointer (some ⟨P,0,none⟩)),(6,wv),(7,.int .i64 (f:Nat)),(8,.int .i64 (m.Jv.length:Nat)),(89,w),(90,.int .i64 (M.length:Nat)),(91,.int .i64 (i+1:Nat))] (JS s) fD
    ⟨i+1,_,_,_,rfl,s,rfl,Se,aX.trans dc,?_⟩
   rw[aL,aC,MY,im];have:GF N f m.Jv.length q={q with fits:=zh N q.Fm (q.fits++[m.Jv.length])}:=by unfold GF;grind
   simp[this]
 have ad:M.length<=i:=vp hf;obtain rfl:i=M.length:=NH;rw[HV (Ny _),qL197 (Ny _),Zw]at a1;clear ad hf hi;have en:=aX.own _ _ (cM.own _ _ dJ);have de:=dI.le (cM.trans aX);have eo:=fun g'=>de.rl.Uc g';rw[y6]at eo;refine Sk eo ?_;refine aat.intro (fun k fr hy=>∃(i:Nat),k=way.length-i/\i<=way.length/\fr=mkF [(0,.pointer (some ⟨B,0,none⟩)),(5,.pointer (some ⟨P,0,none⟩)),(6,wv),(8,.int .i64 (m.Jv.length:Nat)),(118,wv),(119,.int .i64 (way.length:Nat)),(120,.int .i64 (i:Nat))]/\
   lx g7 hy B O n (Zh n es) bv A C w bo br bx (tV m.on (way.take i)) N N L)
  way.length [(0,.pointer (some ⟨B,0,none⟩)),(5,.pointer (some ⟨P,0,none⟩)),(6,wv),(8,.int .i64 (m.Jv.length:Nat)),(118,wv),(119,.int .i64 (way.length:Nat)),(120,.int .i64 (0:Nat))] fD
  ⟨0,rfl,vZ _,rfl,S7⟩ ?_
 clear S7 cP;clear hz;rintro k fr hy dL ⟨i,rfl,hi,rfl,S8⟩;refine Uy ?_;refine Kl.intro (fun ht=>?_) (fun hf=>?_)
 .have s : i < way.length := CC ht
  clear ht;have gy:=de.le S8.le;have gK:=gy.rl.TA i (by rw[y6];exact s);have ep:=gy.rl.DH i (by rw[y6];exact s);rw[sY s]at ep;have hv:=b8 way[i] (VU s);have aC:way.take (i+1)=way.take i++[way[i]]:=EL s;generalize way[i]=v at*;have gM:aIndexAddr Tryz.prog 59 (.slice (some ⟨O,0,none⟩) n n) (.int .i64 (v:Int))=some (.pointer (some ⟨O,v,none⟩)):=by rw[Wc Uh AV Ji v hv];simp[Ip]
  obtain⟨h9,e9,Z,w9⟩:=S8.setO dL hv;have gN:(tV m.on (way.take i)).set v true=tV m.on (way.take (i+1)):=by rw[aC];unfold tV;rw[adR];rfl
  rw[gN]at Z;have aw:=Tw i (Lb s (le_4 fs aJ));simp only[HO,Nat.reduceLT,↓reduceIte,Nat.reduceEqDiff,reduceCtorEq,gK,ep,fe,S8.f.l2,gM,e9,aw];exact tn (way.length-(i+1)) [(0,.pointer (some ⟨B,0,none⟩)),(5,.pointer (some ⟨P,0,none⟩)),(6,wv),(8,.int .i64 (m.Jv.length:Nat)),(118,wv),(119,.int .i64 (way.length:Nat)),(120,.int .i64 (i+1:Nat))] (JS s) fD ⟨i+1,rfl,s,rfl,Z⟩
 have ad:way.length<=i:=vp hf;rw[HV ad]at S8;clear ad hf hi;have gR:=S8.le.own _ _ en;have b0:=cM.trans aX;have r6:=((dH.le Nn.RP bm).le Nn.RP b0);have r4:=((dF.le bm).le b0);refine Sk (XC cz (lP2 gR)) ?_;refine TC.intro PJ ⟨aee,rfl,WY⟩ (QY W0 c (aab p.fits) hy (r6.le Nn.RP S8.le) (by rw[y6];exact Xi dE aT R)) ?_;rintro y h9 w9 ⟨g9,l9,a9⟩;obtain⟨av,a7,dj,er,gS,et,iL,iM,eu,hY⟩:=g9.push w9 ((m.Jv.length:Nat):Int) (by grind [y6]);obtain⟨ev,gT⟩:=eu hy l9 a9;have aP:aab p.fits++[((m.Jv.length:Nat):Int)]=aab (p.fits++[m.Jv.length]):=by simp[aab]
 rw[aP]at et;obtain⟨a8,al⟩:=(S8.up ev).pV;have aD:GI (Hg dj B O A C w) av (aab (p.fits++[m.Jv.length])):=Pv (h:=dj) S8 et gT;have ew:=al.own _ _ en;have ey:=a8.le.own _ _ ew;have gU:=de.le al;simp only[DQ]at er;refine Sk (IX @DQ er gS fp (lP0 ey)) ?_;refine TC.intro PJ ⟨Tryz.func103,rfl,WY⟩ (Bs W0 B n bv _ A C w a wv p.zp way dj a8.f ((r4.le al).le a8.le) (gU.le a8.le).rl cE b8 NH NH NH) ?_;rintro y2 gV iT ⟨gZ,hl,iW⟩;obtain⟨aq,b1⟩:=(a8.up hl).pV;have b2:(V8 n p.zp way).Sublist p.zp:=kc;have dk:aV n (V8 n p.zp way):=fun e he=>cE e (b2.subset he);have dm:(V8 n p.zp way).length<=594:=Db b2.length_le (Db ft R);generalize iX:V8 n p.zp way=wo at*;refine Uy ?_;refine TC.intro PJ ⟨Tryz.func102,rfl,WY⟩ (Xr W0 B n bv _ A C w y2 (tV m.on way) wo gV aq.f aq.rlO aq.ZA gZ.pr dk NH NH) ?_;rintro x X hn ⟨vs,OP⟩;obtain⟨ez,b3⟩:=(aq.up OP.sep.le).pV;have dp:vX n (tV m.on way) wo=(qT (Wg (tV m.on way)) (grpsM (frL n (Wg (tV m.on way)) wo) wo [] wo.length)).map fun q=>⟨q.1,q.2,[]⟩:=by
  unfold vX qT;rw[Jf];rfl
 have cc:∀q∈qT (Wg (tV m.on way)) (grpsM (frL n (Wg (tV m.on way)) wo) wo [] wo.length),(∀z∈q.2,∃v:Nat,z=(v:Int)/\v<n)/\q.2.length<=n:=fun q V=>by
  obtain⟨gr,hx,rfl⟩:=Eh.1 V;obtain⟨-,-,-,-,eA⟩:=Pt (frL n (Wg (tV m.on way)) wo) wo [] wo.length;have ck:=eA gr hx;refine⟨fun z J=>?_,Qr dk ck⟩;obtain⟨_,e,he,h⟩:=zS.1 (((VW _).2 z).1 J);obtain⟨u,v,rfl,iY,ja⟩:=jB dk (ck e he);simp only at h;rcases h with rfl|rfl
  .grind
  grind
 have eB:(qT (Wg (tV m.on way)) (grpsM (frL n (Wg (tV m.on way)) wo) wo [] wo.length)).length<=wo.length:=by
  unfold qT;rw[qH];exact(Pt _ _ _ _).2.2.2.1
 rw[dp];generalize qT (Wg (tV m.on way)) (grpsM (frL n (Wg (tV m.on way)) wo) wo [] wo.length)=ps at*;have hC:=OP.len_;have gx:GS 3 (Hg X B O A C w) x ps.length (cellsO vs ps.length):=Pv (h:=X) aq OP.sl (OP.sep.ap 0 x rfl);have hD:∀(j:Nat) q,ps[j]?=some q->GP (Hg X B O A C w) (vs.getD (2*j) rW) q.1/\GI (Hg X B O A C w) (vs.getD (2*j+1) rW) q.2:=fun j q V=>by
  obtain⟨k1,k2⟩:=OP.ge j q V;have hj:=(qL0.1 V).1;have jb:=OP.len;exact⟨Pv (h:=X) aq k1 (OP.sep.ap _ _ (u6 OP NH)),Pv (h:=X) aq k2 (OP.sep.ap _ _ (u6 OP NH))⟩
 have dq:=aD.le (b1.trans b3);have hE:Le g (Hg X B O A C w):=b6.trans (bm.trans (b0.trans (al.trans (b1.trans b3))));have aN:∀z∈p.fits++[m.Jv.length],z<N.length:=fun z J=>by
  rw[dT];rcases yY.1 J with h|h
  .have:=(((I.Aa p ag).fits z).1 h).1;omega
  .have:=si.1 h;omega
 have dV:L.length<=594:=pw;clear OP b3 aq b1 a8 al S8;generalize Hg X B O A C w=eC at*;refine Sk hC ?_;refine aat.intro (fun k fr V=>∃(i:Nat) (bb:AHeap) (ar:List Value) (U:Value),k=ps.length-i/\i<=ps.length/\fr=mkF [(0,.pointer (some ⟨B,0,none⟩)),(13,av),(143,x),(144,.int .i64 (ps.length:Nat)),(145,.int .i64 (i:Nat))]/\
   lx bb V B O n (Zh n es) bv A C U bo br ar (tV m.on way) N N (L++(ps.take i).map fun q=>⟨q.1,q.2,zh N q.2 (p.fits++[m.Jv.length])⟩)/\Le eC bb)
  ps.length [(0,.pointer (some ⟨B,0,none⟩)),(13,av),(143,x),(144,.int .i64 (ps.length:Nat)),(145,.int .i64 (0:Nat))] fD
  ⟨0,eC,bx,w,rfl,vZ _,rfl,by simpa using ez,Le.refl _⟩ ?_
 clear ez hn;clear X;rintro k fr V aW ⟨i,bb,ar,U,rfl,hi,rfl,aF,W⟩;refine Uy ?_;refine Kl.intro (fun ht=>?_) (fun hf=>?_)
 .have s : i < ps.length := CC ht
  clear ht;have hF:=BS s;obtain⟨ge,gf⟩:=hD i _ hF;obtain⟨eE,eF⟩:=cc _ (VU s);have aC:ps.take (i+1)=ps.take i++[ps[i]]:=EL s;generalize ps[i]=q at*;have eG:=gx.le (W.trans aF.le);obtain⟨z1,z2,z3⟩:=aY vs ps.length s;have cU:=eG.Mx s z1 z2 z3;have bB:=eG.ad3 s;have cp:=ge.le W;have b4:=gf.le W;generalize vs.getD (2*i) rW=a' at*;generalize vs.getD (2*i+1) rW=Y at*;obtain⟨je,hG,hI,hJ,hK,jg,oQ,ji⟩:=Od aW (a:=a') (b:=Y) (c:=rW) cp.pr.sl.one b4.rl.one rfl;have bg:=aF.up hK
  have dQ:∀z,InS B O A C U z->z≠V.next:=fun z J e=>by
   have:=(aF.own J).2;rw[e]at this
   exact this ((Le.refl V).next aW (Ny _))
  have eI:bb.own V.next=none:=aF.le.next aW (Ny _)
  generalize V.next=Q at*
  have az:=pB Q 1 NH;have aj:=pB Q 2 NH;have aw:=Tw i (Lb s (QJ NH));refine Sk (bG bB cU hI hJ az (lP1 oQ)) ?_;refine TC.intro PJ ⟨abr,rfl,WY⟩ (NR W0 B n bv _ A C U Y av N q.2 (p.fits++[m.Jv.length]) hG bg.f bg.rlI ((b4.le bg.le).rl) (((dq.le W).le bg.le).rl) eE aN (sr eF aJ) (by rw[jf,V3];exact ig dE aT R)) ?_;rintro y aH eM ⟨dv,eO,eQ⟩;have cq:=eO.own _ _ oQ;have st:=QB (P:=Tryz.prog) (t:=49) (x:=y) Ac Ji cq (off:=2) Ma dv.rl.sl.cell dv.rl.one;have aL:([a',Y,rW]:List Value).set 2 y=[a',Y,y]:=rfl;rw[aL]at st;have cr:(aH.put Q (.cells [a',Y,y])).own Q=some (.cells [a',Y,y]):=AHeap.Y3 _ _ _;have hL:WF (aH.put Q (.cells [a',Y,y])):=eM.put _ (eM.lt cq);have hM:blk y≠some Q:=fun e=>by have:=eQ Q e;grind
  have hN:=GS.put dv (fK.cells [a',Y,y]) hM;have eS:∀z o,z≠Q->aH.own z=some o->(aH.put Q (.cells [a',Y,y])).own z=some o:=fun z o J ho=>by rw[AHeap.By _ _ _ _ J];exact ho
  have eT:=bg.up eO;have hP:lx bb (aH.put Q (.cells [a',Y,y])) B O n (Zh n es) bv A C U bo br ar (tV m.on way) N N (L++(ps.take i).map fun q=>⟨q.1,q.2,zh N q.2 (p.fits++[m.Jv.length])⟩):=
   eT.other (eT.le.put _ eI) fun z o J ho=>eS z o (dQ z J) ho
  obtain⟨dx,b5⟩:=hP.pV;have gy:GI (Hg (aH.put Q (.cells [a',Y,y])) B O A C U) y (aab (zh N q.2 (p.fits++[m.Jv.length]))):=Pv (h:=aH.put Q (.cells [a',Y,y])) bg hN eQ;obtain⟨eU,jj,jk,jq,hQ,hS,hT,hU,jr,eV,hV,-⟩:=dx.pushL hL (a:=a') (b:=Y) (c:=y) (p:=⟨q.1,q.2,zh N q.2 (p.fits++[m.Jv.length])⟩) ((cp.le b5).pr) ((b4.le b5).rl) gy.rl (app_b dV (Db eB dm) i);have hW:=OU cr;have eW:=OU (eV.own _ _ cr);have hX:=dx.f.le eV;simp only[HO,Nat.reduceLT,↓reduceIte,Nat.reduceEqDiff,reduceCtorEq,aj,st];refine gh (tA [0,1,2,3,4,5] (JQ 6 [5] (JQ 7 [4,6] (tA [8,9] (JQ 10 [0,1,2,3,4,5,6,7,9] .done))))) ?_;simp only[HO,Nat.reduceLT,↓reduceIte,Nat.reduceEqDiff,reduceCtorEq,Nat.reduceBEq,Qg,K,dx.f.l5,hX.l5,hV.l5,hW,eW,hQ,hS,hT,aw];refine tn (ps.length-(i+1)) [(0,.pointer (some ⟨B,0,none⟩)),(13,av),(143,x),(144,.int .i64 (ps.length:Nat)),(145,.int .i64 (i+1:Nat))] (JS s) fD
   ⟨i+1,_,ar++[a',Y,y],eU,rfl,s,rfl,?_,W.trans b5⟩
  rw[aC,MY,<-im];exact hU
 have ad:ps.length<=i:=vp hf;rw[HV ad]at aF;refine Uy ?_;refine⟨bb,hE.trans W,aF.le,.inr ⟨_,A,C,U,bo,br,ar,rfl,trivial,?_⟩⟩;simp only;rw[<-a1,Jf];exact aF
end
end Go.Fw
