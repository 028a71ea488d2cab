/- A text. -/
import Derived.Test.YtkccdnmaaelbiaaGreatFwLJ13
set_option linter.all false
set_option maxRecDepth 99999
set_option maxHeartbeats 9999999
namespace Go.Fw
section
attribute [local instance] Classical.propDecidable
attribute [local irreducible] Kp MQ lU rS KO KN KX KE VK Kl ZJ TC aat
open Go.Proofs
variable {B O a b c i n:Nat} {bv fv iv lv:Value} {cs us ws:List Value} {es:List Pr} {g h h':AHeap} {left:List wW} {rows:AM}
theorem Jd (hi:i<left.length):LF left i=left[i].fits.length:=by grind [LF]
theorem Vr {a:List wW} {φ:wW->wW} {q c:wW} (hi:i<a.length) (b:a.drop i=q::a.drop (i+1)):((a.take i).map φ++a.drop i).set i c=(a.take i).map φ++c::a.drop (i+1):=by
 have d:((a.take i).map φ).length=i:=pw;rw[b,Dj _ _ NH,d,Bx];rfl
def Xi (h:a<=b) (h2:b<=c+2) (h3:c<=594):a<=100000:=NH
def ig (h:a<=b) (h2:b<=c+2) (h3:c<=594):a+1<=100000:=NH
def sr (h:a<=n) (h2:(n:Int)<=200):a<=100000:=NH
theorem app_b {α β:Type} {L:List β} {ps:List α} {φ:α->β} (h:L.length<=594) (h2:ps.length<=594) (i:Nat):(L++(ps.take i).map φ).length<=100000:=pw
def le_4 (h:a<=n) (h2:(n:Int)<=200):a<=40000:=NH
def lx.other {on:List Bool} {d e:Cs} (S:lx g h B O n rows bv fv iv lv us ws cs on d e left) (l:Le g h')
  (c:∀z o,InS B O fv iv lv z->h.own z=some o->h'.own z=some o):lx g h' B O n rows bv fv iv lv us ws cs on d e left:=
 {S with
  f:=⟨c _ _ (.inl rfl) S.f.o⟩
  oO:=c _ _ (.inr (.inl rfl)) S.oO
  gF:=GS.kept S.gF fun b o hb a=>c b o (.inr (.inr ⟨fv,Ma,hb⟩)) a
  gI:=GS.kept S.gI fun b o hb a=>c b o (.inr (.inr ⟨iv,Ma,hb⟩)) a
  gL:=GS.kept S.gL fun b o hb a=>c b o (.inr (.inr ⟨lv,Ma,hb⟩)) a
  sep:=⟨S.sep.TE,fun i u b j hb=>by
   obtain⟨o,a⟩:=N8.1 (S.sep.own i u b j hb);rw[c b o (.inr (.inr ⟨u,Gc j,hb⟩)) a];simp,S.sep.ap,l⟩}
theorem lay_any (W0:LA) {H:Nat->Nat->Prop} {m:kR} (S:lx g h B O n (Zh n es) bv fv iv lv us ws cs m.on m.Jv m.Jv m.left)
  (hr:bX ⟨(n:Int),es⟩) (D:QG (eN n es)) (I:Z8 n es H m) (e4:m.left≠[]):
  AC Tryz.prog W0 53 [.pointer (some ⟨B,0,none⟩)] h fun x h'=>∃g',Le g g'/\Le g' h'/\((AU n (Zh n es) m=none/\x=.bool false)\/∃bo e6 e7 fb fc fe fg,AU n (Zh n es) m=some bo/\x=.bool true/\lx g' h' B O n (Zh n es) bv e6 e7 fb fc fe fg bo.on bo.Jv bo.Jv bo.left):=by
 have hR:=hr.GD;have hA:=hr.q9;have aL:(n:Int)<=200:=hr.n1;have R:es.length<=594:=hr.len;have ih:=I.Vw;have aX:=I.My;have dF:0<m.left.length:=aa5.2 e4;refine AC.vE ⟨Tryz.func53,rfl,WY⟩ Tryz.ntmps53 Tryz.results53 fun ij=>?_;simp only[kAr,Nat.reduceAdd];have K:=sB B 5 NH;have fh:=sB B 3 NH;have fi:=sB B 2 NH;have br:=fun k hk=>S.gL.ad3 (k:=k) hk;have eL:=fun k r (hk:k<m.left.length)=>eA3 (k:=k) (r:=r) S.gL hk;have cE:∀k (hk:k<m.left.length),∃c,aload Tryz.prog h 49 (elemAddr lv (k*3+2))=some c/\∀g',aLen Tryz.prog g' 49 c=some (.int .i64 (m.left[k].fits.length:Nat)):=fun k hk=>by
  obtain⟨a,b,c,q1,q2,q3,q4,q5,q6⟩:=S.at_ hk;refine⟨c,by rw[Bj Ac rfl];exact S.gL.cs.get _ _ q3,fun g'=>?_⟩;have:=q6.Uc g';rwa[y6]at this
 refine Sk (Yb K S.f.l5 S.lenL) ?_;refine aat.intro (fun k fr V=>∃i:Nat,k=m.left.length-i/\i<=m.left.length/\fr=mkF [(0,.pointer (some ⟨B,0,none⟩)),(3,.int .i64 (bestK m.left i:Nat)),(20,.int .i64 (m.left.length:Nat)),(21,.int .i64 (i:Nat))]/\V=h)
  m.left.length [(0,.pointer (some ⟨B,0,none⟩)),(3,.int .i64 (0:Nat)),(20,.int .i64 (m.left.length:Nat)),(21,.int .i64 (0:Nat))] fD ⟨0,rfl,yM _,rfl,rfl⟩ ?_
 rintro k fr V a6 ⟨i,rfl,hi,rfl,rfl⟩;refine Uy ?_;refine Kl.intro (fun ht=>?_) (fun hf=>?_)
 .have s : i < m.left.length := CC ht
  clear ht;have F:bestK m.left i<m.left.length:=by
   have:=(EY m.left i).1;rcases Nat.eq_zero_or_pos i with rfl|h
   .exact dF
   grind
  obtain⟨c1,q1,q2⟩:=cE i s;obtain⟨c2,q3,q4⟩:=cE _ F;have aw:=Tw i NH;have e1:=Jd s;have e2:=Jd F;refine Uy ?_;refine gh (tA [0,1,2,3,4,5,6,7,8,9,10,11,12,13,14,15,16,17,18] .done) ?_;by_cases c:m.left[i].fits.length<(m.left[bestK m.left i]).fits.length
  .have d : decide (((m.left[i].fits.length : Nat) : Int) < (((m.left[bestK m.left i]).fits.length : Nat) : Int)) = true := decide_eq_true NH
   have eb:bestK m.left (i+1)=i:=by grind [bestK.eq_2]
   simp only[HO,Nat.reduceLT,↓reduceIte,Nat.reduceEqDiff,reduceCtorEq,Nat.reduceBEq,Qg,K,S.f.l5,br i s,br _ F,pf2,eL i 2 s,eL _ 2 F,q1,q2,q3,q4,d,aw];exact tn (m.left.length-(i+1)) [(0,.pointer (some ⟨B,0,none⟩)),(3,.int .i64 (i:Nat)),(20,.int .i64 (m.left.length:Nat)),(21,.int .i64 (i+1:Nat))] (JS s) fD ⟨i+1,rfl,s,by rw[eb];rfl,rfl⟩
  .have d : decide (((m.left[i].fits.length : Nat) : Int) < (((m.left[bestK m.left i]).fits.length : Nat) : Int)) = false := decide_eq_false NH
   have eb:bestK m.left (i+1)=bestK m.left i:=by grind [bestK.eq_2]
   simp only[HO,Nat.reduceLT,↓reduceIte,Nat.reduceEqDiff,reduceCtorEq,Nat.reduceBEq,Qg,K,S.f.l5,br i s,br _ F,pf2,eL i 2 s,eL _ 2 F,q1,q2,q3,q4,d,aw];exact tn (m.left.length-(i+1)) [(0,.pointer (some ⟨B,0,none⟩)),(3,.int .i64 (bestK m.left i:Nat)),(20,.int .i64 (m.left.length:Nat)),(21,.int .i64 (i+1:Nat))] (JS s) fD ⟨i+1,rfl,s,by rw[eb];rfl,rfl⟩
 have ag:m.left.length<=i:=vp hf;obtain rfl:i=m.left.length:=NH;clear ag hf hi cE;have F:=(EY m.left m.left.length).1 dF
 have ck:AU n (Zh n es) m=if(m.left.getD (bestK m.left m.left.length) default).fits.length=0 then none else
   if(J6 n (Zh n es) m.on (m.left.getD (bestK m.left m.left.length) default)).length<2 then none else
   some ⟨tV m.on (J6 n (Zh n es) m.on (m.left.getD (bestK m.left m.left.length) default)),kY m.Jv ((m.left.getD (bestK m.left m.left.length) default).fits.headD 0) (J6 n (Zh n es) m.on (m.left.getD (bestK m.left m.left.length) default)),
    (m.left.eraseIdx (bestK m.left m.left.length)).map (GF (kY m.Jv ((m.left.getD (bestK m.left m.left.length) default).fits.headD 0) (J6 n (Zh n es) m.on (m.left.getD (bestK m.left m.left.length) default))) ((m.left.getD (bestK m.left m.left.length) default).fits.headD 0) m.Jv.length)++
    (vX n (tV m.on (J6 n (Zh n es) m.on (m.left.getD (bestK m.left m.left.length) default))) (V8 n (m.left.getD (bestK m.left m.left.length) default).zp (J6 n (Zh n es) m.on (m.left.getD (bestK m.left m.left.length) default)))).map fun q=>{q with fits:=zh (kY m.Jv ((m.left.getD (bestK m.left m.left.length) default).fits.headD 0) (J6 n (Zh n es) m.on (m.left.getD (bestK m.left m.left.length) default))) q.Fm ((m.left.getD (bestK m.left m.left.length) default).fits++[m.Jv.length])}⟩:=rfl
 rw[ck];clear ck;obtain⟨a,b,c,q1,q2,q3,q4,q5,q6⟩:=S.at_ F;have fm:=S.gL.Mx F q1 q2 q3;have fp:=br _ F;have aj:m.left[bestK m.left m.left.length]∈m.left:=Gw F;have fq:m.left.getD (bestK m.left m.left.length) default=m.left[bestK m.left m.left.length]:=D4 F;rw[fq];generalize fs:bestK m.left m.left.length=G at*;generalize hp:m.left[G]=p at*;obtain⟨h1,h2,e1,e2,l2,w2,oP,-⟩:=Od a6 q4.sl.one q5.one q6.one;obtain⟨S2,cc⟩:=(S.up l2).pV
 have il:∀z,InS B O fv iv lv z->z≠V.next:=fun z hz e=>by
  have:=(S.own hz).2;rw[e]at this
  exact this ((Le.refl V).next a6 (Ny _))
 have gP:(Hg h2 B O fv iv lv).own V.next=some (.cells [a,b,c]):=by grind [Hg,Th,HX]
 generalize V.next=P at*
 have ft:=pB P 0 NH;have ix:=pB P 1 NH;have cM:=pB P 2 NH;have lc:=fun g'=>q6.Uc g';rw[y6]at lc;simp only[HO,Nat.reduceLT,↓reduceIte,Nat.reduceEqDiff,reduceCtorEq,K,S.f.l5,fp,fm,e1,e2,cM,lP2 oP,lc];by_cases c0:p.fits.length=0
 .have d0 : decide (((p.fits.length : Nat) : Int) = 0) = true := decide_eq_true NH
  refine Sk (XC @lW d0) ?_
  grind [lx.le]
 have d0:decide (((p.fits.length:Nat):Int)=0)=false:=decide_eq_false NH;rw[if_neg c0];have dH:p.fits.headD 0∈p.fits:=Lt fun e=>c0 (by rw[e];rfl);obtain⟨fx,wh,cN,cd,fy⟩:=I.Kg hR hA D aj dH;rw[if_neg NH];have dI:=((I.Aa p aj).fits _).1 dH;have cP:aV n p.zp:=fun e he=>hR e ((I.Aa p aj).sub.subset he);have fz:=I.Ca aj;have iz:=I.UO hR aj;have dJ:=I.Xg aj;have fF:=I.fS hR aj;have dL:=q4.le cc;have fJ:=q5.le Nn.RP cc;have dM:=q6.le Nn.RP cc;refine Sk (Yb @lW d0 (OU oP)) ?_;refine TC.intro PJ ⟨Tryz.func98,rfl,WY⟩ (way_any W0 B n bv _ fv iv lv a b c es m.on p h2 S2.f (S2.cB.le (Nn.RL Nn.RP) S2.le) S2.rlO S2.ZA (dL.le S2.le) (fJ.le Nn.RP S2.le) q6.one hR cP fF NH NH NH NH) ?_;rintro wv h3 w3 ⟨gw,l3,aw3⟩;obtain⟨S3,bx⟩:=(S2.up l3).pV;have dO:GI (Hg h3 B O fv iv lv) wv (aab (J6 n (Zh n es) m.on p)):=Pv (h:=h3) S2 gw aw3;have dS:=bx.own _ _ gP;have iD:∀x∈J6 n (Zh n es) m.on p,x<n:=cd;obtain⟨fL,iF⟩:=I.face_lt dI.1;have iH:=zh;generalize dT:J6 n (Zh n es) m.on p=way at*;have lw:=fun g'=>gw.rl.Uc g';rw[y6]at lw;have dw:decide (((way.length:Nat):Int)<2)=false:=decide_eq_false NH;have fN:awrap .i64 ((G:Int)+1)=((G+1:Nat):Int):=Tw G NH;simp only[HO,Nat.reduceLT,↓reduceIte,Nat.reduceEqDiff,reduceCtorEq,lw,dw,K,S3.f.l5,fN];refine TC.intro PJ ⟨Tryz.func99,rfl,WY⟩ (F5 W0 S3.gL S3.cuL S3.c1 F NH) ?_;rintro w h4 w4 ⟨gd,fP,fU,fV,fY⟩;obtain⟨h5,e5,S5,w5⟩:=S3.delL w4 F gd fP fU fV fY;have l5g:=S5.le;have ga:=l5g.own _ _ dS;have gg:=(dM.le Nn.RP bx).le Nn.RP l5g;have dV:=q6.TA 0 (by rw[y6];omega);have ed:=gg.DH 0 (by rw[y6];omega);have t0:0<p.fits.length:=NH;rw[sY t0,<-Bw t0]at ed;simp only[qQ]at dV;generalize iI:p.fits.headD 0=f at*;generalize iK:(cs.take (G*3)++cs.drop ((G+1)*3))=gi at*;refine Sk (XC K e5) ?_;refine gh (tA [0,1,2,3,4,5,6,7,8,9,10] .done) ?_;refine CO (rE cM (lP2 ga) dV ed fh S5.f.l3 S5.LF) ?_;have gj:=Kz W0 S5 (f:=f) (way:=way) dI.1 dO fx wh cN fL cd NH NH NH NH;refine TC.intro PJ ⟨Tryz.func100,rfl,WY⟩ gj ?_;rintro x h6 w6 ⟨g6,A,C,bB,bF,S6,cR⟩;have iL:(m.left.eraseIdx G).length=m.left.length-1:=pw;have cU:∀q∈m.left.eraseIdx G,q∈m.left:=fun q V=>List.mem_of_mem_eraseIdx V;generalize iM:m.left.eraseIdx G=M at*;have ef:(kY m.Jv f way).length=m.Jv.length+1:=Yz;generalize iT:kY m.Jv f way=N at*;have iW:=sB B 0 NH;refine Sk (Yb K S6.f.l5 S6.lenL) ?_;refine aat.intro (fun k fr hz=>∃(i:Nat) (g7:AHeap) (bH:List Value) (L:List wW),k=M.length-i/\i<=M.length/\fr=mkF [(0,.pointer (some ⟨B,0,none⟩)),(5,.pointer (some ⟨P,0,none⟩)),(6,wv),(7,.int .i64 (f:Nat)),(8,.int .i64 (m.Jv.length:Nat)),(89,w),(90,.int .i64 (M.length:Nat)),(91,.int .i64 (i:Nat))]/\
   lx g7 hz B O n (Zh n es) bv A C w bB bF bH m.on N N L/\Le g6 g7/\L=(M.take i).map (GF N f m.Jv.length)++M.drop i)
  M.length [(0,.pointer (some ⟨B,0,none⟩)),(5,.pointer (some ⟨P,0,none⟩)),(6,wv),(7,.int .i64 (f:Nat)),(8,.int .i64 (m.Jv.length:Nat)),(89,w),(90,.int .i64 (M.length:Nat)),(91,.int .i64 (0:Nat))] fD
  ⟨0,g6,gi,M,rfl,yM _,rfl,S6,Le.refl _,Ma⟩ ?_
 rintro k fr hz cZ ⟨i,g7,bH,L,rfl,hi,rfl,S7,a7,a8⟩;have eg:L.length=M.length:=by rw[a8,Eh,wI,zx,LN];omega
 refine Uy ?_;refine Kl.intro (fun ht=>?_) (fun hf=>?_)
 .have s : i < M.length := CC ht
  clear ht;have bb:i<L.length:=NH;have c3:L[i]=M[i]:=by
   have h1:L[i]?=some M[i]:=by
    rw[a8,Z6 (by rw[wI,zx];omega),wI,zx,Ua NH,Bx,vY,im]
    grind
   grind
  obtain⟨a',Y,c',r1,r2,r3,r4,r5,r6⟩:=S7.at_ bb;have c4:=S7.gL.Mx bb r1 r2 r3;have bI:=S7.gL.ad3 bb;have gk:=eA3 (r:=2) S7.gL bb;have eh:aField Tryz.prog 125 (.pointer (some (elemAddr w (i*3)))) 2=some (.pointer (some (elemAddr w (i*3+2)))):=by rw[pf2,gk]
  rw[c3]at r4 r5 r6;have cf:=cU _ (Gw s);have cp:=I.fS hR cf;have cq:=I.UO hR cf;have aN:=I.Xg cf;have gl:=(I.Aa _ cf).fits;generalize ei:M[i]=q at*;obtain⟨h8,h9,e8,e9,l9,w9,oQ,l8⟩:=Od cZ r4.sl.one r5.one r6.one;have Z:=S7.up l9;have aw:=Tw i NH
  have dQ:∀z,InS B O A C w z->z≠hz.next:=fun z J e=>by
   have:=(S7.own J).2;rw[e]at this
   exact this ((Le.refl hz).next cZ (Ny _))
  generalize hz.next=Q at*
  have aC:=pB Q 1 NH;have al:=pB Q 2 NH;have aD:M.take (i+1)=M.take i++[q]:=by rw[EL s,ei]
  have ej:M.drop i=q::M.drop (i+1):=by rw[Yi s,ei]
  have aP:∀q':wW,L.set i q'=(M.take i).map (GF N f m.Jv.length)++q'::M.drop (i+1):=fun q'=>by rw[a8];exact Vr s ej
  refine Sk (bG bI c4 e8 e9 al (lP2 oQ)) ?_;refine TC.intro PJ ⟨aga,rfl,WY⟩ (W3 W0 c' (aab q.fits) ((f:Nat):Int) h9 (r6.le Nn.RP Z.le) (by rw[y6];omega)) ?_;rintro y bg gn ⟨rfl,rfl⟩;by_cases cm:f∈q.fits
  rotate_left
  .have d:decide (((f:Nat):Int)∈aab q.fits)=false:=decide_eq_false fun hm=>cm (by
    obtain⟨z,J,e⟩:=jf.1 hm;have:z=f:=NH
    grind)
   simp only[HO,Nat.reduceLT,↓reduceIte,Nat.reduceEqDiff,reduceCtorEq,d,aw];refine tn (M.length-(i+1)) [(0,.pointer (some ⟨B,0,none⟩)),(5,.pointer (some ⟨P,0,none⟩)),(6,wv),(7,.int .i64 (f:Nat)),(8,.int .i64 (m.Jv.length:Nat)),(89,w),(90,.int .i64 (M.length:Nat)),(91,.int .i64 (i+1:Nat))] (JS s) fD
    ⟨i+1,g7,bH,L,rfl,s,rfl,Z,a7,?_⟩
   rw[a8,aD,ej,pz,Bn];have:GF N f m.Jv.length q=q:=by unfold GF;grind
   simp[this]
  have d:decide (((f:Nat):Int)∈aab q.fits)=true:=decide_eq_true (jf.2 ⟨f,cm,rfl⟩);refine Sk d ?_;have T:∀h',Le bg h'->aload Tryz.prog h' 75 ⟨B,5,none⟩=some w/\aload Tryz.prog h' 49 ⟨Q,1,none⟩=some Y/\aload Tryz.prog h' 49 ⟨Q,2,none⟩=some c':=fun h' l=>⟨(Z.f.le l).l5,lP1 (l.own _ _ oQ),lP2 (l.own _ _ oQ)⟩;obtain⟨c5,c6,c9⟩:=T bg (Le.refl _);have aT:∀z∈q.fits++[m.Jv.length],z<N.length:=fun z J=>by
   rw[ef];rcases WA.1 J with h|h
   .have:=((gl z).1 h).1;omega
   .have:=j9.1 h;omega
  have aW:aab q.fits++[((m.Jv.length:Nat):Int)]=aab (q.fits++[m.Jv.length]):=by simp[aab]
  obtain⟨ha,ea,la,wa,oa⟩:=Tt gn [.int .i64 ((m.Jv.length:Nat):Int)];obtain⟨gq,gu,gv⟩:=T ha la;refine gh (tA [0,1,2,3,4,5,6,7,8,9,11] (.ch 10 [9] (JQ 12 [11] (JQ 13 [10,12] (JQ 14 [5,7,13] (tA [15,16] (JQ 17 [0,1,2,3,4,5,6,7,8,9,10,11,12,13,14,16] .done))))) (JQ 12 [11] (JQ 10 [9] (JQ 13 [10,12] (JQ 14 [5,7,13] (tA [15,16] (JQ 17 [0,1,2,3,4,5,6,7,8,9,10,11,12,13,14,16] .done)))))))) ?_;simp only[HO,Nat.reduceLT,↓reduceIte,Nat.reduceEqDiff,reduceCtorEq,Nat.reduceBEq,Qg,K,c5,gq,aC,al,c6,gu,c9,gv,DQ,ea];refine⟨?_,?_⟩
  .refine VA.intro PJ ⟨ae4, rfl, WY⟩ (QY W0 c' (aab q.fits) bg (r6.le Nn.RP Z.le) (by rw [y6]; exact Xi aN aX R)) ?_
   rintro y sZ wb ⟨gb,lb,ab⟩;obtain⟨bN,bQ,bW⟩:=T sZ lb;obtain⟨av,gz,hc,ek,ec,aH,wc,gA,da,gC⟩:=gb.push wb ((m.Jv.length:Nat):Int) (by rw[y6];grind);obtain⟨E,gE⟩:=da bg lb ab;rw[aW]at aH;obtain⟨en,eo,ep⟩:=T gz (lb.trans gA);obtain⟨bZ,b0,b1⟩:=T hc E;simp only[DQ]at ek;simp only[HO,Nat.reduceLT,↓reduceIte,Nat.reduceEqDiff,reduceCtorEq,Nat.reduceBEq,Qg,K,c5,bN,en,bZ,aC,al,c6,bQ,eo,b0,c9,bW,ep,b1,DQ,ek,ec];obtain⟨gJ,gK,gM⟩:=T hc E;refine VA.intro PJ ⟨ae6,rfl,WY⟩ (NR W0 B n bv _ A C w Y av N q.Fm (q.fits++[m.Jv.length]) hc (Z.f.le E) (Z.rlI.le (Nn.RL Nn.sJ) E) ((r5.le Nn.RP Z.le).le Nn.RP E) aH.rl cp aT (sr cq aL) (by rw[Eh,Qn];exact ig aN aX R)) ?_;rintro y hd wd ⟨gy,db,ay⟩;have b2:=E.trans db;obtain⟨dc,dd,de⟩:=T hd b2;obtain⟨Sd,dj⟩:=(Z.up b2).pV;have dk:GI (Hg hd B O A C w) y (aab (zh N q.Fm (q.fits++[m.Jv.length]))):=Pv (h:=hd) Z gy (fun b hb=>E.none (ay b hb));obtain⟨he,ee,Se,we⟩:=Sd.setT wd bb dk.rl;rw[c3]at Se;simp only[HO,Nat.reduceLT,↓reduceIte,Nat.reduceEqDiff,reduceCtorEq,Nat.reduceBEq,Qg,K,aC,al,dc,dd,de,bI,eh,ee,aw];refine tn (M.length-(i+1)) [(0,.pointer (some ⟨B,0,none⟩)),(5,.pointer (some ⟨P,0,none⟩)),(6,wv),(7,.int .i64 (f:Nat)),(8,.int .i64 (m.Jv.length:Nat)),(89,w),(90,.int .i64 (M.length:Nat)),(91,.int .i64 (i+1:Nat))] (JS s) fD
    ⟨i+1,_,_,_,rfl,s,rfl,Se,a7.trans dj,?_⟩
   rw[aP,aD,pz,Bn];have:GF N f m.Jv.length q={q with fits:=zh N q.Fm (q.fits++[m.Jv.length])}:=by unfold GF;grind
   simp[this]
  .refine VA.intro PJ ⟨ae4, rfl, WY⟩ (QY W0 c' (aab q.fits) ha ((r6.le Nn.RP Z.le).le Nn.RP la) (by rw [y6]; exact Xi aN aX R)) ?_
   rintro y sZ wb ⟨gb,lb,ab⟩;obtain⟨bN,bQ,bW⟩:=T sZ (la.trans lb)
   have ro:RL RP sZ (.slice (some ⟨bg.next,0,none⟩) 1 1) [((m.Jv.length:Nat):Int)]:=RL.Wh (RS.whole (lb.own _ _ oa) rfl)
   obtain⟨av,hc,ec,aH,wc,da,gC⟩:=GI.join gb wb ro (by rw[y6,Qn];grind);obtain⟨gN,gE⟩:=da ha lb ab;have E:=la.trans gN;rw[aW]at aH;obtain⟨bZ,b0,b1⟩:=T hc E;refine CO (Da K c5 bN bZ aC al c6 bQ b0 c9 bW b1 @DQ ec) ?_;obtain⟨gJ,gK,gM⟩:=T hc E;refine VA.intro PJ ⟨ae6,rfl,WY⟩ (NR W0 B n bv _ A C w Y av N q.Fm (q.fits++[m.Jv.length]) hc (Z.f.le E) (Z.rlI.le (Nn.RL Nn.sJ) E) ((r5.le Nn.RP Z.le).le Nn.RP E) aH.rl cp aT (sr cq aL) (by rw[Eh,Qn];exact ig aN aX R)) ?_;rintro y hd wd ⟨gy,db,ay⟩;have b2:=E.trans db;obtain⟨dc,dd,de⟩:=T hd b2;obtain⟨Sd,dj⟩:=(Z.up b2).pV;have dk:GI (Hg hd B O A C w) y (aab (zh N q.Fm (q.fits++[m.Jv.length]))):=Pv (h:=hd) Z gy (fun b hb=>E.none (ay b hb));obtain⟨he,ee,Se,we⟩:=Sd.setT wd bb dk.rl;rw[c3]at Se;simp only[HO,Nat.reduceLT,↓reduceIte,Nat.reduceEqDiff,reduceCtorEq,Nat.reduceBEq,Qg,K,aC,al,dc,dd,de,bI,eh,ee,aw];refine tn (M.length-(i+1)) [(0,.pointer (some ⟨B,0,none⟩)),(5,.pointer (some ⟨P,0,none⟩)),(6,wv),(7,.int .i64 (f:Nat)),(8,.int .i64 (m.Jv.length:Nat)),(89,w),(90,.int .i64 (M.length:Nat)),(91,.int .i64 (i+1:Nat))] (JS s) fD
    ⟨i+1,_,_,_,rfl,s,rfl,Se,a7.trans dj,?_⟩
   rw[aP,aD,pz,Bn];have:GF N f m.Jv.length q={q with fits:=zh N q.Fm (q.fits++[m.Jv.length])}:=by unfold GF;grind
   simp[this]
 have ag:M.length<=i:=vp hf;obtain rfl:i=M.length:=NH;rw[HV (Ny _),qL205 (Ny _),Gg]at a8;clear ag hf hi;have er:=a7.own _ _ (cR.own _ _ dS);have dm:=dO.le (cR.trans a7);have et:=fun g'=>dm.rl.Uc g';rw[y6]at et;refine Sk et ?_;refine aat.intro (fun k fr hy=>∃(i:Nat),k=way.length-i/\i<=way.length/\fr=mkF [(0,.pointer (some ⟨B,0,none⟩)),(5,.pointer (some ⟨P,0,none⟩)),(6,wv),(8,.int .i64 (m.Jv.length:Nat)),(118,wv),(119,.int .i64 (way.length:Nat)),(120,.int .i64 (i:Nat))]/\
   lx g7 hy B O n (Zh n es) bv A C w bB bF bH (tV m.on (way.take i)) N N L)
  way.length [(0,.pointer (some ⟨B,0,none⟩)),(5,.pointer (some ⟨P,0,none⟩)),(6,wv),(8,.int .i64 (m.Jv.length:Nat)),(118,wv),(119,.int .i64 (way.length:Nat)),(120,.int .i64 (0:Nat))] fD
  ⟨0,rfl,yM _,rfl,S7⟩ ?_
 clear S7 cZ;clear hz;rintro k fr hy dT ⟨i,rfl,hi,rfl,S8⟩;refine Uy ?_;refine Kl.intro (fun ht=>?_) (fun hf=>?_)
 .have s : i < way.length := CC ht
  clear ht;have gy:=dm.le S8.le;have gR:=gy.rl.TA i (by rw[y6];exact s);have eu:=gy.rl.DH i (by rw[y6];exact s);rw[sY s]at eu;have hv:=cd way[i] (Gw s);have aD:way.take (i+1)=way.take i++[way[i]]:=EL s;generalize way[i]=v at*;have gT:aIndexAddr Tryz.prog 59 (.slice (some ⟨O,0,none⟩) n n) (.int .i64 (v:Int))=some (.pointer (some ⟨O,v,none⟩)):=by rw[Wc Uh AV Ji v hv];simp[Ip]
  obtain⟨h9,e9,Z,w9⟩:=S8.setO dT hv;have gU:(tV m.on (way.take i)).set v true=tV m.on (way.take (i+1)):=by rw[aD];unfold tV;rw[abm];rfl
  rw[gU]at Z;have aw:=Tw i (Lb s (le_4 fy aL));simp only[HO,Nat.reduceLT,↓reduceIte,Nat.reduceEqDiff,reduceCtorEq,gR,eu,fi,S8.f.l2,gT,e9,aw];exact tn (way.length-(i+1)) [(0,.pointer (some ⟨B,0,none⟩)),(5,.pointer (some ⟨P,0,none⟩)),(6,wv),(8,.int .i64 (m.Jv.length:Nat)),(118,wv),(119,.int .i64 (way.length:Nat)),(120,.int .i64 (i+1:Nat))] (JS s) fD ⟨i+1,rfl,s,rfl,Z⟩
 have ag:way.length<=i:=vp hf;rw[HV ag]at S8;clear ag hf hi;have gV:=S8.le.own _ _ er;have b3:=cR.trans a7;have r6:=((dM.le Nn.RP bx).le Nn.RP b3);have r4:=((dL.le bx).le b3);refine Sk (XC cM (lP2 gV)) ?_;refine TC.intro PJ ⟨ae4,rfl,WY⟩ (QY W0 c (aab p.fits) hy (r6.le Nn.RP S8.le) (by rw[y6];exact Xi dJ aX R)) ?_;rintro y h9 w9 ⟨g9,l9,a9⟩;obtain⟨av,bg,dp,ev,gZ,ew,iX,iY,ey,ic⟩:=g9.push w9 ((m.Jv.length:Nat):Int) (by grind [y6]);obtain⟨ez,hl⟩:=ey hy l9 a9;have aW:aab p.fits++[((m.Jv.length:Nat):Int)]=aab (p.fits++[m.Jv.length]):=by simp[aab]
 rw[aW]at ew;obtain⟨bh,aq⟩:=(S8.up ez).pV;have aH:GI (Hg dp B O A C w) av (aab (p.fits++[m.Jv.length])):=Pv (h:=dp) S8 ew hl;have eA:=aq.own _ _ er;have eB:=bh.le.own _ _ eA;have hn:=dm.le aq;simp only[DQ]at ev;refine Sk (IX @DQ ev gZ ft (lP0 eB)) ?_;refine TC.intro PJ ⟨Tryz.func103,rfl,WY⟩ (Bs W0 B n bv _ A C w a wv p.zp way dp bh.f ((r4.le aq).le bh.le) (hn.le bh.le).rl cP cd NH NH NH) ?_;rintro y2 hx ja ⟨hC,hD,jb⟩;obtain⟨ar,b4⟩:=(bh.up hD).pV;have b5:(V8 n p.zp way).Sublist p.zp:=vZ;have dq:aV n (V8 n p.zp way):=fun e he=>cP e (b5.subset he);have dv:(V8 n p.zp way).length<=594:=VU b5.length_le (VU fz R);generalize je:V8 n p.zp way=wo at*;refine Uy ?_;refine TC.intro PJ ⟨Tryz.func102,rfl,WY⟩ (Xr W0 B n bv _ A C w y2 (tV m.on way) wo hx ar.f ar.rlO ar.ZA hC.pr dq NH NH) ?_;rintro x X hE ⟨vs,OP⟩;obtain⟨eC,b6⟩:=(ar.up OP.sep.le).pV;have dz:vX n (tV m.on way) wo=(qT (Wg (tV m.on way)) (grpsM (frL n (Wg (tV m.on way)) wo) wo [] wo.length)).map fun q=>⟨q.1,q.2,[]⟩:=by
  unfold vX qT;rw[vu];rfl
 have cg:∀q∈qT (Wg (tV m.on way)) (grpsM (frL n (Wg (tV m.on way)) wo) wo [] wo.length),(∀z∈q.2,∃v:Nat,z=(v:Int)/\v<n)/\q.2.length<=n:=fun q V=>by
  obtain⟨gr,hF,rfl⟩:=jf.1 V;obtain⟨-,-,-,-,eE⟩:=Pt (frL n (Wg (tV m.on way)) wo) wo [] wo.length;have cr:=eE gr hF;refine⟨fun z J=>?_,Qr dq cr⟩;obtain⟨_,e,he,h⟩:=zS.1 (((VW _).2 z).1 J);obtain⟨u,v,rfl,jg,ji⟩:=jB dq (cr e he);simp only at h;rcases h with rfl|rfl
  .grind
  grind
 have eF:(qT (Wg (tV m.on way)) (grpsM (frL n (Wg (tV m.on way)) wo) wo [] wo.length)).length<=wo.length:=by
  unfold qT;rw[wI];exact(Pt _ _ _ _).2.2.2.1
 rw[dz];generalize qT (Wg (tV m.on way)) (grpsM (frL n (Wg (tV m.on way)) wo) wo [] wo.length)=ps at*;have hG:=OP.len_;have gx:GS 3 (Hg X B O A C w) x ps.length (cellsO vs ps.length):=Pv (h:=X) ar OP.sl (OP.sep.ap 0 x rfl);have hI:∀(j:Nat) q,ps[j]?=some q->GP (Hg X B O A C w) (vs.getD (2*j) rW) q.1/\GI (Hg X B O A C w) (vs.getD (2*j+1) rW) q.2:=fun j q V=>by
  obtain⟨k1,k2⟩:=OP.ge j q V;have hj:=(qL0.1 V).1;have jj:=OP.len;exact⟨Pv (h:=X) ar k1 (OP.sep.ap _ _ (u6 OP NH)),Pv (h:=X) ar k2 (OP.sep.ap _ _ (u6 OP NH))⟩
 have dA:=aH.le (b4.trans b6);have hJ:Le g (Hg X B O A C w):=cc.trans (bx.trans (b3.trans (aq.trans (b4.trans b6))));have aT:∀z∈p.fits++[m.Jv.length],z<N.length:=fun z J=>by
  rw[ef];rcases WA.1 J with h|h
  .have:=(((I.Aa p aj).fits z).1 h).1;omega
  .have:=j9.1 h;omega
 have eg:L.length<=594:=pw;clear OP b6 ar b4 bh aq S8;generalize Hg X B O A C w=eG at*;refine Sk hG ?_;refine aat.intro (fun k fr V=>∃(i:Nat) (bk:AHeap) (az:List Value) (U:Value),k=ps.length-i/\i<=ps.length/\fr=mkF [(0,.pointer (some ⟨B,0,none⟩)),(13,av),(143,x),(144,.int .i64 (ps.length:Nat)),(145,.int .i64 (i:Nat))]/\
   lx bk V B O n (Zh n es) bv A C U bB bF az (tV m.on way) N N (L++(ps.take i).map fun q=>⟨q.1,q.2,zh N q.2 (p.fits++[m.Jv.length])⟩)/\Le eG bk)
  ps.length [(0,.pointer (some ⟨B,0,none⟩)),(13,av),(143,x),(144,.int .i64 (ps.length:Nat)),(145,.int .i64 (0:Nat))] fD
  ⟨0,eG,bH,w,rfl,yM _,rfl,by simpa using eC,Le.refl _⟩ ?_
 clear eC hE;clear X;rintro k fr V a6 ⟨i,bk,az,U,rfl,hi,rfl,aJ,W⟩;refine Uy ?_;refine Kl.intro (fun ht=>?_) (fun hf=>?_)
 .have s : i < ps.length := CC ht
  clear ht;have hK:=BS s;obtain⟨ge,gf⟩:=hI i _ hK;obtain⟨eI,eM⟩:=cg _ (Gw s);have aD:ps.take (i+1)=ps.take i++[ps[i]]:=EL s;generalize ps[i]=q at*;have eO:=gx.le (W.trans aJ.le);obtain⟨z1,z2,z3⟩:=aY vs ps.length s;have c4:=eO.Mx s z1 z2 z3;have bI:=eO.ad3 s;have cx:=ge.le W;have b8:=gf.le W;generalize vs.getD (2*i) rW=a' at*;generalize vs.getD (2*i+1) rW=Y at*;obtain⟨jk,hL,hM,hN,hP,jq,oQ,jr⟩:=Od a6 (a:=a') (b:=Y) (c:=rW) cx.pr.sl.one b8.rl.one rfl;have bm:=aJ.up hP
  have dQ:∀z,InS B O A C U z->z≠V.next:=fun z J e=>by
   have:=(aJ.own J).2;rw[e]at this
   exact this ((Le.refl V).next a6 (Ny _))
  have eQ:bk.own V.next=none:=aJ.le.next a6 (Ny _)
  generalize V.next=Q at*
  have aC:=pB Q 1 NH;have al:=pB Q 2 NH;have aw:=Tw i (Lb s (QJ NH));refine Sk (bG bI c4 hM hN aC (lP1 oQ)) ?_;refine TC.intro PJ ⟨ae6,rfl,WY⟩ (NR W0 B n bv _ A C U Y av N q.2 (p.fits++[m.Jv.length]) hL bm.f bm.rlI ((b8.le bm.le).rl) (((dA.le W).le bm.le).rl) eI aT (sr eM aL) (by rw[Eh,Qn];exact ig dJ aX R)) ?_;rintro y aK eS ⟨dB,eT,eU⟩;have cz:=eT.own _ _ oQ;have st:=QB (P:=Tryz.prog) (t:=49) (x:=y) Ac Ji cz (off:=2) Ma dB.rl.sl.cell dB.rl.one;have aP:([a',Y,rW]:List Value).set 2 y=[a',Y,y]:=rfl;rw[aP]at st;have cC:(aK.put Q (.cells [a',Y,y])).own Q=some (.cells [a',Y,y]):=AHeap.Y3 _ _ _;have hQ:WF (aK.put Q (.cells [a',Y,y])):=eS.put _ (eS.lt cz);have hS:blk y≠some Q:=fun e=>by have:=eU Q e;grind
  have hT:=GS.put dB (fK.cells [a',Y,y]) hS;have eV:∀z o,z≠Q->aK.own z=some o->(aK.put Q (.cells [a',Y,y])).own z=some o:=fun z o J ho=>by rw[AHeap.By _ _ _ _ J];exact ho
  have eW:=bm.up eT;have hU:lx bk (aK.put Q (.cells [a',Y,y])) B O n (Zh n es) bv A C U bB bF az (tV m.on way) N N (L++(ps.take i).map fun q=>⟨q.1,q.2,zh N q.2 (p.fits++[m.Jv.length])⟩):=
   eW.other (eW.le.put _ eQ) fun z o J ho=>eV z o (dQ z J) ho
  obtain⟨dE,b9⟩:=hU.pV;have gy:GI (Hg (aK.put Q (.cells [a',Y,y])) B O A C U) y (aab (zh N q.2 (p.fits++[m.Jv.length]))):=Pv (h:=aK.put Q (.cells [a',Y,y])) bm hT eU;obtain⟨eZ,jv,jx,jE,hV,hW,hX,hY,jH,e0,hZ,-⟩:=dE.pushL hQ (a:=a') (b:=Y) (c:=y) (p:=⟨q.1,q.2,zh N q.2 (p.fits++[m.Jv.length])⟩) ((cx.le b9).pr) ((b8.le b9).rl) gy.rl (app_b eg (VU eF dv) i);have h0:=OU cC;have e3:=OU (e0.own _ _ cC);have h7:=dE.f.le e0;simp only[HO,Nat.reduceLT,↓reduceIte,Nat.reduceEqDiff,reduceCtorEq,al,st];refine gh (tA [0,1,2,3,4,5] (JQ 6 [5] (JQ 7 [4,6] (tA [8,9] (JQ 10 [0,1,2,3,4,5,6,7,9] .done))))) ?_;simp only[HO,Nat.reduceLT,↓reduceIte,Nat.reduceEqDiff,reduceCtorEq,Nat.reduceBEq,Qg,K,dE.f.l5,h7.l5,hZ.l5,h0,e3,hV,hW,hX,aw];refine tn (ps.length-(i+1)) [(0,.pointer (some ⟨B,0,none⟩)),(13,av),(143,x),(144,.int .i64 (ps.length:Nat)),(145,.int .i64 (i+1:Nat))] (JS s) fD
   ⟨i+1,_,az++[a',Y,y],eZ,rfl,s,rfl,?_,W.trans b9⟩
  rw[aD,pz,<-Bn];exact hY
 have ag:ps.length<=i:=vp hf;rw[HV ag]at aJ;refine Uy ?_;refine⟨bk,hJ.trans W,aJ.le,.inr ⟨_,A,C,U,bB,bF,az,rfl,trivial,?_⟩⟩;simp only;rw[<-a8,vu];exact aJ
end
end Go.Fw
