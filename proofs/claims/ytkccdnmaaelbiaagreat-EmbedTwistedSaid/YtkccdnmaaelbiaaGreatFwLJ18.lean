/- A text. -/
import Derived.Test.YtkccdnmaaelbiaaGreatFwLJ13
set_option linter.all false
set_option maxRecDepth 99999
set_option maxHeartbeats 9999999
namespace Go.Fw
section
attribute [local instance] Classical.propDecidable
attribute [local irreducible] Kp MQ lU rS KO KN KX KE VK Kl ZJ TC gU
open Go.Proofs
variable {B O a b c i n:Nat} {bv fv iv lv:Value} {cs us ws:List Value} {es:List Pr} {g h h':AHeap} {left:List wW} {rows:AM}
theorem Jd (hi:i<left.length):LF left i=left[i].fits.length:=by grind [LF]
theorem Vr {a:List wW} {φ:wW->wW} {q c:wW} (hi:i<a.length) (b:a.drop i=q::a.drop (i+1)):((a.take i).map φ++a.drop i).set i c=(a.take i).map φ++c::a.drop (i+1):=by
 have d:((a.take i).map φ).length=i:=pw;rw[b,wV _ _ NH,d,b5];rfl
def Xi (h:a<=b) (h2:b<=c+2) (h3:c<=594):a<=100000:=NH
def ig (h:a<=b) (h2:b<=c+2) (h3:c<=594):a+1<=100000:=NH
def sr (h:a<=n) (h2:(n:Int)<=200):a<=100000:=NH
theorem app_b {α β:Type} {L:List β} {ps:List α} {φ:α->β} (h:L.length<=594) (h2:ps.length<=594) (i:Nat):(L++(ps.take i).map φ).length<=100000:=pw
def le_4 (h:a<=n) (h2:(n:Int)<=200):a<=40000:=NH
def lx.other {on:List Bool} {d e:Cs} (S:lx g h B O n rows bv fv iv lv us ws cs on d e left) (l:Le g h')
  (c:∀z o,InS B O fv iv lv z->h.own z=some o->h'.own z=some o):lx g h' B O n rows bv fv iv lv us ws cs on d e left:=
 {S with
  f:=⟨c _ _ (.inl rfl) S.f.o⟩
  oO:=c _ _ (.inr (.inl rfl)) S.oO
  gF:=GS.kept S.gF fun b o hb a=>c b o (.inr (.inr ⟨fv,Ma,hb⟩)) a
  gI:=GS.kept S.gI fun b o hb a=>c b o (.inr (.inr ⟨iv,Ma,hb⟩)) a
  gL:=GS.kept S.gL fun b o hb a=>c b o (.inr (.inr ⟨lv,Ma,hb⟩)) a
  sep:=⟨S.sep.TE,fun i u b j hb=>by
   obtain⟨o,a⟩:=EP.1 (S.sep.own i u b j hb);rw[c b o (.inr (.inr ⟨u,Gc j,hb⟩)) a];simp,S.sep.ap,l⟩}
theorem lay_any (W0:LA) {H:Nat->Nat->Prop} {m:kR} (S:lx g h B O n (Zh n es) bv fv iv lv us ws cs m.on m.Jv m.Jv m.left)
  (hr:bX ⟨(n:Int),es⟩) (D:QG (eN n es)) (I:Z8 n es H m) (ft:m.left≠[]):
  AC Tryz.prog W0 53 [.pointer (some ⟨B,0,none⟩)] h fun x h'=>∃g',Le g g'/\Le g' h'/\((AU n (Zh n es) m=none/\x=.bool false)\/∃bx fx fz fF fL fN fP,AU n (Zh n es) m=some bx/\x=.bool true/\lx g' h' B O n (Zh n es) bv fx fz fF fL fN fP bx.on bx.Jv bx.Jv bx.left):=by
 have hR:=hr.GD;have hA:=hr.q9;have aL:(n:Int)<=200:=hr.n1;have R:es.length<=594:=hr.len;have je:=I.Vw;have aX:=I.My;have ef:0<m.left.length:=NC.2 ft;refine AC.vE ⟨Tryz.func53,rfl,WY⟩ Tryz.ntmps53 Tryz.results53 fun jg=>?_;simp only[Br,Nat.reduceAdd];have K:=sB B 5 NH;have fU:=sB B 3 NH;have fV:=sB B 2 NH;have bB:=fun k hk=>S.gL.ad3 (k:=k) hk;have eL:=fun k r (hk:k<m.left.length)=>eA3 (k:=k) (r:=r) S.gL hk;have c4:∀k (hk:k<m.left.length),∃c,aload Tryz.prog h 49 (elemAddr lv (k*3+2))=some c/\∀g',aLen Tryz.prog g' 49 c=some (.int .i64 (m.left[k].fits.length:Nat)):=fun k hk=>by
  obtain⟨a,b,c,q1,q2,q3,q4,q5,q6⟩:=S.at_ hk;refine⟨c,by rw[Bj Mb rfl];exact S.gL.cs.get _ _ q3,fun g'=>?_⟩;have:=q6.Uc g';rwa[y6]at this
 refine Sk (Yb K S.f.l5 S.lenL) ?_;refine gU.intro (fun k fr V=>∃i:Nat,k=m.left.length-i/\i<=m.left.length/\fr=mkF [(0,.pointer (some ⟨B,0,none⟩)),(3,.int .i64 (bestK m.left i:Nat)),(20,.int .i64 (m.left.length:Nat)),(21,.int .i64 (i:Nat))]/\V=h)
  m.left.length [(0,.pointer (some ⟨B,0,none⟩)),(3,.int .i64 (0:Nat)),(20,.int .i64 (m.left.length:Nat)),(21,.int .i64 (0:Nat))] fD ⟨0,rfl,qy _,rfl,rfl⟩ ?_
 rintro k fr V a1 ⟨i,rfl,hi,rfl,rfl⟩;refine Uy ?_;refine Kl.intro (fun ht=>?_) (fun hf=>?_)
 .have s : i < m.left.length := CC ht
  clear ht;have F:bestK m.left i<m.left.length:=by
   have:=(EY m.left i).1;rcases Nat.eq_zero_or_pos i with rfl|h
   .exact ef
   grind
  obtain⟨c1,q1,q2⟩:=c4 i s;obtain⟨c2,q3,q4⟩:=c4 _ F;have aw:=Tw i NH;have e1:=Jd s;have e2:=Jd F;refine Uy ?_;refine gh (tA [0,1,2,3,4,5,6,7,8,9,10,11,12,13,14,15,16,17,18] .done) ?_;by_cases c:m.left[i].fits.length<(m.left[bestK m.left i]).fits.length
  .have d : decide (((m.left[i].fits.length : Nat) : Int) < (((m.left[bestK m.left i]).fits.length : Nat) : Int)) = true := decide_eq_true NH
   have eb:bestK m.left (i+1)=i:=by grind [bestK.eq_2]
   simp only[HO,Nat.reduceLT,↓reduceIte,Nat.reduceEqDiff,reduceCtorEq,Nat.reduceBEq,Qg,K,S.f.l5,bB i s,bB _ F,pf2,eL i 2 s,eL _ 2 F,q1,q2,q3,q4,d,aw];exact tn (m.left.length-(i+1)) [(0,.pointer (some ⟨B,0,none⟩)),(3,.int .i64 (i:Nat)),(20,.int .i64 (m.left.length:Nat)),(21,.int .i64 (i+1:Nat))] (JS s) fD ⟨i+1,rfl,s,by rw[eb];rfl,rfl⟩
  .have d : decide (((m.left[i].fits.length : Nat) : Int) < (((m.left[bestK m.left i]).fits.length : Nat) : Int)) = false := decide_eq_false NH
   have eb:bestK m.left (i+1)=bestK m.left i:=by grind [bestK.eq_2]
   simp only[HO,Nat.reduceLT,↓reduceIte,Nat.reduceEqDiff,reduceCtorEq,Nat.reduceBEq,Qg,K,S.f.l5,bB i s,bB _ F,pf2,eL i 2 s,eL _ 2 F,q1,q2,q3,q4,d,aw];exact tn (m.left.length-(i+1)) [(0,.pointer (some ⟨B,0,none⟩)),(3,.int .i64 (bestK m.left i:Nat)),(20,.int .i64 (m.left.length:Nat)),(21,.int .i64 (i+1:Nat))] (JS s) fD ⟨i+1,rfl,s,by rw[eb];rfl,rfl⟩
 have ad:m.left.length<=i:=vp hf;obtain rfl:i=m.left.length:=NH;clear ad hf hi c4;have F:=(EY m.left m.left.length).1 ef
 have cC:AU n (Zh n es) m=if(m.left.getD (bestK m.left m.left.length) default).fits.length=0 then none else
   if(J6 n (Zh n es) m.on (m.left.getD (bestK m.left m.left.length) default)).length<2 then none else
   some ⟨tV m.on (J6 n (Zh n es) m.on (m.left.getD (bestK m.left m.left.length) default)),kY m.Jv ((m.left.getD (bestK m.left m.left.length) default).fits.headD 0) (J6 n (Zh n es) m.on (m.left.getD (bestK m.left m.left.length) default)),
    (m.left.eraseIdx (bestK m.left m.left.length)).map (GF (kY m.Jv ((m.left.getD (bestK m.left m.left.length) default).fits.headD 0) (J6 n (Zh n es) m.on (m.left.getD (bestK m.left m.left.length) default))) ((m.left.getD (bestK m.left m.left.length) default).fits.headD 0) m.Jv.length)++
    (vX n (tV m.on (J6 n (Zh n es) m.on (m.left.getD (bestK m.left m.left.length) default))) (V8 n (m.left.getD (bestK m.left m.left.length) default).zp (J6 n (Zh n es) m.on (m.left.getD (bestK m.left m.left.length) default)))).map fun q=>{q with fits:=zh (kY m.Jv ((m.left.getD (bestK m.left m.left.length) default).fits.headD 0) (J6 n (Zh n es) m.on (m.left.getD (bestK m.left m.left.length) default))) q.Fm ((m.left.getD (bestK m.left m.left.length) default).fits++[m.Jv.length])}⟩:=rfl
 rw[cC];clear cC;obtain⟨a,b,c,q1,q2,q3,q4,q5,q6⟩:=S.at_ F;have fY:=S.gL.Mx F q1 q2 q3;have ga:=bB _ F;have ag:m.left[bestK m.left m.left.length]∈m.left:=VU F;have gg:m.left.getD (bestK m.left m.left.length) default=m.left[bestK m.left m.left.length]:=D4 F;rw[gg];generalize gi:bestK m.left m.left.length=G at*;generalize hp:m.left[G]=p at*;obtain⟨h1,h2,e1,e2,l2,w2,oP,-⟩:=Od a1 q4.sl.one q5.one q6.one;obtain⟨S2,cq⟩:=(S.up l2).pV
 have ji:∀z,InS B O fv iv lv z->z≠V.next:=fun z hz e=>by
  have:=(S.own hz).2;rw[e]at this
  exact this ((Le.refl V).next a1 (vT _))
 have gP:(Hg h2 B O fv iv lv).own V.next=some (.cells [a,b,c]):=by grind [Hg,Th,HX]
 generalize V.next=P at*
 have gj:=pB P 0 NH;have jj:=pB P 1 NH;have c5:=pB P 2 NH;have lc:=fun g'=>q6.Uc g';rw[y6]at lc;simp only[HO,Nat.reduceLT,↓reduceIte,Nat.reduceEqDiff,reduceCtorEq,K,S.f.l5,ga,fY,e1,e2,c5,lP2 oP,lc];by_cases c0:p.fits.length=0
 .have d0 : decide (((p.fits.length : Nat) : Int) = 0) = true := decide_eq_true NH
  refine Sk (XC @lW d0) ?_
  grind [lx.le]
 have d0:decide (((p.fits.length:Nat):Int)=0)=false:=decide_eq_false NH;rw[if_neg c0];have eg:p.fits.headD 0∈p.fits:=Lt fun e=>c0 (by rw[e];rfl);obtain⟨gk,wh,c6,cr,gl⟩:=I.Kg hR hA D ag eg;rw[if_neg NH];have eh:=((I.Aa p ag).fits _).1 eg;have c9:aV n p.zp:=fun e he=>hR e ((I.Aa p ag).sub.subset he);have gn:=I.Ca ag;have jk:=I.UO hR ag;have ei:=I.Xg ag;have gq:=I.fS hR ag;have ej:=q4.le cq;have gu:=q5.le Nn.RP cq;have ek:=q6.le Nn.RP cq;refine Sk (Yb @lW d0 (OU oP)) ?_;refine TC.intro PJ ⟨Tryz.func98,rfl,WY⟩ (way_any W0 B n bv _ fv iv lv a b c es m.on p h2 S2.f (S2.cB.le (Nn.RL Nn.RP) S2.le) S2.rlO S2.ZA (ej.le S2.le) (gu.le Nn.RP S2.le) q6.one hR c9 gq NH NH NH NH) ?_;rintro wv h3 w3 ⟨gw,l3,aw3⟩;obtain⟨S3,bF⟩:=(S2.up l3).pV;have en:GI (Hg h3 B O fv iv lv) wv (aab (J6 n (Zh n es) m.on p)):=Pv (h:=h3) S2 gw aw3;have eo:=bF.own _ _ gP;have jq:∀x∈J6 n (Zh n es) m.on p,x<n:=cr;obtain⟨gv,jr⟩:=I.face_lt eh.1;have jv:=zh;generalize ep:J6 n (Zh n es) m.on p=way at*;have lw:=fun g'=>gw.rl.Uc g';rw[y6]at lw;have dw:decide (((way.length:Nat):Int)<2)=false:=decide_eq_false NH;have gz:awrap .i64 ((G:Int)+1)=((G+1:Nat):Int):=Tw G NH;simp only[HO,Nat.reduceLT,↓reduceIte,Nat.reduceEqDiff,reduceCtorEq,lw,dw,K,S3.f.l5,gz];refine TC.intro PJ ⟨Tryz.func99,rfl,WY⟩ (F5 W0 S3.gL S3.cuL S3.c1 F NH) ?_;rintro w h4 w4 ⟨gd,gA,gC,gE,gJ⟩;obtain⟨h5,e5,S5,w5⟩:=S3.delL w4 F gd gA gC gE gJ;have er:=S5.le;have gK:=er.own _ _ eo;have gM:=(ek.le Nn.RP bF).le Nn.RP er;have et:=q6.TA 0 (by rw[y6];omega);have eu:=gM.DH 0 (by rw[y6];omega);have t0:0<p.fits.length:=NH;rw[sY t0,<-Bw t0]at eu;simp only[dU]at et;generalize jx:p.fits.headD 0=f at*;generalize jE:(cs.take (G*3)++cs.drop ((G+1)*3))=gN at*;refine Sk (XC K e5) ?_;refine gh (tA [0,1,2,3,4,5,6,7,8,9,10] .done) ?_;refine CO (rE c5 (lP2 gK) et eu fU S5.f.l3 S5.LF) ?_;have gR:=Kz W0 S5 (f:=f) (way:=way) eh.1 en gk wh c6 gv cr NH NH NH NH;refine TC.intro PJ ⟨Tryz.func100,rfl,WY⟩ gR ?_;rintro x h6 w6 ⟨g6,A,C,bH,bI,S6,da⟩;have jK:(m.left.eraseIdx G).length=m.left.length-1:=pw;have db:∀q∈m.left.eraseIdx G,q∈m.left:=fun q V=>List.mem_of_mem_eraseIdx V;generalize jP:m.left.eraseIdx G=M at*;have ev:(kY m.Jv f way).length=m.Jv.length+1:=Yz;generalize jR:kY m.Jv f way=N at*;have jU:=sB B 0 NH;refine Sk (Yb K S6.f.l5 S6.lenL) ?_;refine gU.intro (fun k fr hz=>∃(i:Nat) (g7:AHeap) (bW:List Value) (L:List wW),k=M.length-i/\i<=M.length/\fr=mkF [(0,.pointer (some ⟨B,0,none⟩)),(5,.pointer (some ⟨P,0,none⟩)),(6,wv),(7,.int .i64 (f:Nat)),(8,.int .i64 (m.Jv.length:Nat)),(89,w),(90,.int .i64 (M.length:Nat)),(91,.int .i64 (i:Nat))]/\
   lx g7 hz B O n (Zh n es) bv A C w bH bI bW m.on N N L/\Le g6 g7/\L=(M.take i).map (GF N f m.Jv.length)++M.drop i)
  M.length [(0,.pointer (some ⟨B,0,none⟩)),(5,.pointer (some ⟨P,0,none⟩)),(6,wv),(7,.int .i64 (f:Nat)),(8,.int .i64 (m.Jv.length:Nat)),(89,w),(90,.int .i64 (M.length:Nat)),(91,.int .i64 (0:Nat))] fD
  ⟨0,g6,gN,M,rfl,qy _,rfl,S6,Le.refl _,Ma⟩ ?_
 rintro k fr hz dc ⟨i,g7,bW,L,rfl,hi,rfl,S7,a6,a7⟩;have ew:L.length=M.length:=by rw[a7,Eh,rY,Po,Fk];omega
 refine Uy ?_;refine Kl.intro (fun ht=>?_) (fun hf=>?_)
 .have s : i < M.length := CC ht
  clear ht;have a8:i<L.length:=NH;have dd:L[i]=M[i]:=by
   have h1:L[i]?=some M[i]:=by
    rw[a7,WA (by rw[rY,Po];omega),rY,Po,Nat.min_eq_left NH,b5,Lm,b7]
    grind
   grind
  obtain⟨a',Y,c',r1,r2,r3,r4,r5,r6⟩:=S7.at_ a8;have de:=S7.gL.Mx a8 r1 r2 r3;have b0:=S7.gL.ad3 a8;have gT:=eA3 (r:=2) S7.gL a8;have ey:aField Tryz.prog 125 (.pointer (some (elemAddr w (i*3)))) 2=some (.pointer (some (elemAddr w (i*3+2)))):=by rw[pf2,gT]
  rw[dd]at r4 r5 r6;have cx:=db _ (VU s);have cE:=I.fS hR cx;have cM:=I.UO hR cx;have aN:=I.Xg cx;have gV:=(I.Aa _ cx).fits;generalize ez:M[i]=q at*;obtain⟨h8,h9,e8,e9,l9,w9,oQ,l8⟩:=Od dc r4.sl.one r5.one r6.one;have Z:=S7.up l9;have aw:=Tw i NH
  have dQ:∀z,InS B O A C w z->z≠hz.next:=fun z J e=>by
   have:=(S7.own J).2;rw[e]at this
   exact this ((Le.refl hz).next dc (vT _))
  generalize hz.next=Q at*
  have aC:=pB Q 1 NH;have aj:=pB Q 2 NH;have aD:M.take (i+1)=M.take i++[q]:=by rw[EL s,ez]
  have eA:M.drop i=q::M.drop (i+1):=by rw[mJ s,ez]
  have aP:∀q':wW,L.set i q'=(M.take i).map (GF N f m.Jv.length)++q'::M.drop (i+1):=fun q'=>by rw[a7];exact Vr s eA
  refine Sk (bG b0 de e8 e9 aj (lP2 oQ)) ?_;refine TC.intro PJ ⟨Tryz.func101,rfl,WY⟩ (W3 W0 c' (aab q.fits) ((f:Nat):Int) h9 (r6.le Nn.RP Z.le) (by rw[y6];omega)) ?_;rintro y bb hl ⟨rfl,rfl⟩;by_cases cm:f∈q.fits
  rotate_left
  .have d:decide (((f:Nat):Int)∈aab q.fits)=false:=decide_eq_false fun hm=>cm (by
    obtain⟨z,J,e⟩:=eR.1 hm;have:z=f:=NH
    grind)
   simp only[HO,Nat.reduceLT,↓reduceIte,Nat.reduceEqDiff,reduceCtorEq,d,aw];refine tn (M.length-(i+1)) [(0,.pointer (some ⟨B,0,none⟩)),(5,.pointer (some ⟨P,0,none⟩)),(6,wv),(7,.int .i64 (f:Nat)),(8,.int .i64 (m.Jv.length:Nat)),(89,w),(90,.int .i64 (M.length:Nat)),(91,.int .i64 (i+1:Nat))] (JS s) fD
    ⟨i+1,g7,bW,L,rfl,s,rfl,Z,a6,?_⟩
   rw[a7,aD,eA,qH,KG];have:GF N f m.Jv.length q=q:=by unfold GF;grind
   simp[this]
  have d:decide (((f:Nat):Int)∈aab q.fits)=true:=decide_eq_true (eR.2 ⟨f,cm,rfl⟩);refine Sk d ?_;have T:∀h',Le bb h'->aload Tryz.prog h' 75 ⟨B,5,none⟩=some w/\aload Tryz.prog h' 49 ⟨Q,1,none⟩=some Y/\aload Tryz.prog h' 49 ⟨Q,2,none⟩=some c':=fun h' l=>⟨(Z.f.le l).l5,lP1 (l.own _ _ oQ),lP2 (l.own _ _ oQ)⟩;obtain⟨dj,dk,dm⟩:=T bb (Le.refl _);have aT:∀z∈q.fits++[m.Jv.length],z<N.length:=fun z J=>by
   rw[ev];rcases Sb.1 J with h|h
   .have:=((gV z).1 h).1;omega
   .have:=ZT.1 h;omega
  have aW:aab q.fits++[((m.Jv.length:Nat):Int)]=aab (q.fits++[m.Jv.length]):=by simp[aab]
  obtain⟨ha,ea,la,wa,oa⟩:=Tt hl [.int .i64 ((m.Jv.length:Nat):Int)];obtain⟨hn,hx,hC⟩:=T ha la;refine gh (tA [0,1,2,3,4,5,6,7,8,9,11] (.ch 10 [9] (JQ 12 [11] (JQ 13 [10,12] (JQ 14 [5,7,13] (tA [15,16] (JQ 17 [0,1,2,3,4,5,6,7,8,9,10,11,12,13,14,16] .done))))) (JQ 12 [11] (JQ 10 [9] (JQ 13 [10,12] (JQ 14 [5,7,13] (tA [15,16] (JQ 17 [0,1,2,3,4,5,6,7,8,9,10,11,12,13,14,16] .done)))))))) ?_;simp only[HO,Nat.reduceLT,↓reduceIte,Nat.reduceEqDiff,reduceCtorEq,Nat.reduceBEq,Qg,K,dj,hn,aC,aj,dk,hx,dm,hC,DQ,ea];refine⟨?_,?_⟩
  .refine VA.intro PJ ⟨yq, rfl, WY⟩ (QY W0 c' (aab q.fits) bb (r6.le Nn.RP Z.le) (by rw [y6]; exact Xi aN aX R)) ?_
   rintro y sZ wb ⟨gb,lb,ab⟩;obtain⟨b1,b2,b3⟩:=T sZ lb;obtain⟨av,hD,hc,eB,ec,aH,wc,hE,dq,hF⟩:=gb.push wb ((m.Jv.length:Nat):Int) (by rw[y6];grind);obtain⟨E,hG⟩:=dq bb lb ab;rw[aW]at aH;obtain⟨eC,eE,eF⟩:=T hD (lb.trans hE);obtain⟨b4,b6,b8⟩:=T hc E;simp only[DQ]at eB;simp only[HO,Nat.reduceLT,↓reduceIte,Nat.reduceEqDiff,reduceCtorEq,Nat.reduceBEq,Qg,K,dj,b1,eC,b4,aC,aj,dk,b2,eE,b6,dm,b3,eF,b8,DQ,eB,ec];obtain⟨hI,hJ,hK⟩:=T hc E;refine VA.intro PJ ⟨aF,rfl,WY⟩ (NR W0 B n bv _ A C w Y av N q.Fm (q.fits++[m.Jv.length]) hc (Z.f.le E) (Z.rlI.le (Nn.RL Nn.sJ) E) ((r5.le Nn.RP Z.le).le Nn.RP E) aH.rl cE aT (sr cM aL) (by rw[Eh,vY];exact ig aN aX R)) ?_;rintro y hd wd ⟨gy,dx,ay⟩;have b9:=E.trans dx;obtain⟨dz,dA,dB⟩:=T hd b9;obtain⟨Sd,dE⟩:=(Z.up b9).pV;have dF:GI (Hg hd B O A C w) y (aab (zh N q.Fm (q.fits++[m.Jv.length]))):=Pv (h:=hd) Z gy (fun b hb=>E.none (ay b hb));obtain⟨he,ee,Se,we⟩:=Sd.setT wd a8 dF.rl;rw[dd]at Se;simp only[HO,Nat.reduceLT,↓reduceIte,Nat.reduceEqDiff,reduceCtorEq,Nat.reduceBEq,Qg,K,aC,aj,dz,dA,dB,b0,ey,ee,aw];refine tn (M.length-(i+1)) [(0,.pointer (some ⟨B,0,none⟩)),(5,.pointer (some ⟨P,0,none⟩)),(6,wv),(7,.int .i64 (f:Nat)),(8,.int .i64 (m.Jv.length:Nat)),(89,w),(90,.int .i64 (M.length:Nat)),(91,.int .i64 (i+1:Nat))] (JS s) fD
    ⟨i+1,_,_,_,rfl,s,rfl,Se,a6.trans dE,?_⟩
   rw[aP,aD,qH,KG];have:GF N f m.Jv.length q={q with fits:=zh N q.Fm (q.fits++[m.Jv.length])}:=by unfold GF;grind
   simp[this]
  .refine VA.intro PJ ⟨yq, rfl, WY⟩ (QY W0 c' (aab q.fits) ha ((r6.le Nn.RP Z.le).le Nn.RP la) (by rw [y6]; exact Xi aN aX R)) ?_
   rintro y sZ wb ⟨gb,lb,ab⟩;obtain⟨b1,b2,b3⟩:=T sZ (la.trans lb)
   have ro:RL RP sZ (.slice (some ⟨bb.next,0,none⟩) 1 1) [((m.Jv.length:Nat):Int)]:=RL.Wh (RS.whole (lb.own _ _ oa) rfl)
   obtain⟨av,hc,ec,aH,wc,dq,hF⟩:=GI.join gb wb ro (by rw[y6,vY];grind);obtain⟨hL,hG⟩:=dq ha lb ab;have E:=la.trans hL;rw[aW]at aH;obtain⟨b4,b6,b8⟩:=T hc E;refine CO (Da K dj b1 b4 aC aj dk b2 b6 dm b3 b8 @DQ ec) ?_;obtain⟨hI,hJ,hK⟩:=T hc E;refine VA.intro PJ ⟨aF,rfl,WY⟩ (NR W0 B n bv _ A C w Y av N q.Fm (q.fits++[m.Jv.length]) hc (Z.f.le E) (Z.rlI.le (Nn.RL Nn.sJ) E) ((r5.le Nn.RP Z.le).le Nn.RP E) aH.rl cE aT (sr cM aL) (by rw[Eh,vY];exact ig aN aX R)) ?_;rintro y hd wd ⟨gy,dx,ay⟩;have b9:=E.trans dx;obtain⟨dz,dA,dB⟩:=T hd b9;obtain⟨Sd,dE⟩:=(Z.up b9).pV;have dF:GI (Hg hd B O A C w) y (aab (zh N q.Fm (q.fits++[m.Jv.length]))):=Pv (h:=hd) Z gy (fun b hb=>E.none (ay b hb));obtain⟨he,ee,Se,we⟩:=Sd.setT wd a8 dF.rl;rw[dd]at Se;simp only[HO,Nat.reduceLT,↓reduceIte,Nat.reduceEqDiff,reduceCtorEq,Nat.reduceBEq,Qg,K,aC,aj,dz,dA,dB,b0,ey,ee,aw];refine tn (M.length-(i+1)) [(0,.pointer (some ⟨B,0,none⟩)),(5,.pointer (some ⟨P,0,none⟩)),(6,wv),(7,.int .i64 (f:Nat)),(8,.int .i64 (m.Jv.length:Nat)),(89,w),(90,.int .i64 (M.length:Nat)),(91,.int .i64 (i+1:Nat))] (JS s) fD
    ⟨i+1,_,_,_,rfl,s,rfl,Se,a6.trans dE,?_⟩
   rw[aP,aD,qH,KG];have:GF N f m.Jv.length q={q with fits:=zh N q.Fm (q.fits++[m.Jv.length])}:=by unfold GF;grind
   simp[this]
 have ad:M.length<=i:=vp hf;obtain rfl:i=M.length:=NH;rw[AE (vT _),qL193 (vT _),Gq]at a7;clear ad hf hi;have eG:=a6.own _ _ (da.own _ _ eo);have dI:=en.le (da.trans a6);have eI:=fun g'=>dI.rl.Uc g';rw[y6]at eI;refine Sk eI ?_;refine gU.intro (fun k fr hy=>∃(i:Nat),k=way.length-i/\i<=way.length/\fr=mkF [(0,.pointer (some ⟨B,0,none⟩)),(5,.pointer (some ⟨P,0,none⟩)),(6,wv),(8,.int .i64 (m.Jv.length:Nat)),(118,wv),(119,.int .i64 (way.length:Nat)),(120,.int .i64 (i:Nat))]/\
   lx g7 hy B O n (Zh n es) bv A C w bH bI bW (tV m.on (way.take i)) N N L)
  way.length [(0,.pointer (some ⟨B,0,none⟩)),(5,.pointer (some ⟨P,0,none⟩)),(6,wv),(8,.int .i64 (m.Jv.length:Nat)),(118,wv),(119,.int .i64 (way.length:Nat)),(120,.int .i64 (0:Nat))] fD
  ⟨0,rfl,qy _,rfl,S7⟩ ?_
 clear S7 dc;clear hz;rintro k fr hy ep ⟨i,rfl,hi,rfl,S8⟩;refine Uy ?_;refine Kl.intro (fun ht=>?_) (fun hf=>?_)
 .have s : i < way.length := CC ht
  clear ht;have gy:=dI.le S8.le;have hM:=gy.rl.TA i (by rw[y6];exact s);have eM:=gy.rl.DH i (by rw[y6];exact s);rw[sY s]at eM;have hv:=cr way[i] (VU s);have aD:way.take (i+1)=way.take i++[way[i]]:=EL s;generalize way[i]=v at*;have hN:aIndexAddr Tryz.prog 59 (.slice (some ⟨O,0,none⟩) n n) (.int .i64 (v:Int))=some (.pointer (some ⟨O,v,none⟩)):=by rw[Wc eY AV Ji v hv];simp[Ip]
  obtain⟨h9,e9,Z,w9⟩:=S8.setO ep hv;have hP:(tV m.on (way.take i)).set v true=tV m.on (way.take (i+1)):=by rw[aD];unfold tV;rw[abl];rfl
  rw[hP]at Z;have aw:=Tw i (Lb s (le_4 gl aL));simp only[HO,Nat.reduceLT,↓reduceIte,Nat.reduceEqDiff,reduceCtorEq,hM,eM,fV,S8.f.l2,hN,e9,aw];exact tn (way.length-(i+1)) [(0,.pointer (some ⟨B,0,none⟩)),(5,.pointer (some ⟨P,0,none⟩)),(6,wv),(8,.int .i64 (m.Jv.length:Nat)),(118,wv),(119,.int .i64 (way.length:Nat)),(120,.int .i64 (i+1:Nat))] (JS s) fD ⟨i+1,rfl,s,rfl,Z⟩
 have ad:way.length<=i:=vp hf;rw[AE ad]at S8;clear ad hf hi;have hQ:=S8.le.own _ _ eG;have cc:=da.trans a6;have r6:=((ek.le Nn.RP bF).le Nn.RP cc);have r4:=((ej.le bF).le cc);refine Sk (XC c5 (lP2 hQ)) ?_;refine TC.intro PJ ⟨yq,rfl,WY⟩ (QY W0 c (aab p.fits) hy (r6.le Nn.RP S8.le) (by rw[y6];exact Xi ei aX R)) ?_;rintro y h9 w9 ⟨g9,l9,a9⟩;obtain⟨av,bb,dJ,eO,hS,eQ,jZ,j0,eS,jb⟩:=g9.push w9 ((m.Jv.length:Nat):Int) (by grind [y6]);obtain⟨eT,hT⟩:=eS hy l9 a9;have aW:aab p.fits++[((m.Jv.length:Nat):Int)]=aab (p.fits++[m.Jv.length]):=by simp[aab]
 rw[aW]at eQ;obtain⟨bh,al⟩:=(S8.up eT).pV;have aH:GI (Hg dJ B O A C w) av (aab (p.fits++[m.Jv.length])):=Pv (h:=dJ) S8 eQ hT;have eU:=al.own _ _ eG;have eV:=bh.le.own _ _ eU;have hU:=dI.le al;simp only[DQ]at eO;refine Sk (IX @DQ eO hS gj (lP0 eV)) ?_;refine TC.intro PJ ⟨Tryz.func103,rfl,WY⟩ (Bs W0 B n bv _ A C w a wv p.zp way dJ bh.f ((r4.le al).le bh.le) (hU.le bh.le).rl c9 cr NH NH NH) ?_;rintro y2 hV j1 ⟨hW,hX,j2⟩;obtain⟨aq,cd⟩:=(bh.up hX).pV;have cf:(V8 n p.zp way).Sublist p.zp:=j9;have dL:aV n (V8 n p.zp way):=fun e he=>c9 e (cf.subset he);have dM:(V8 n p.zp way).length<=594:=Db cf.length_le (Db gn R);generalize j4:V8 n p.zp way=wo at*;refine Uy ?_;refine TC.intro PJ ⟨Tryz.func102,rfl,WY⟩ (Xr W0 B n bv _ A C w y2 (tV m.on way) wo hV aq.f aq.rlO aq.ZA hW.pr dL NH NH) ?_;rintro x X hY ⟨vs,OP⟩;obtain⟨eW,cg⟩:=(aq.up OP.sep.le).pV;have dS:vX n (tV m.on way) wo=(qT (Wg (tV m.on way)) (grpsM (kJ n (Wg (tV m.on way)) wo) wo [] wo.length)).map fun q=>⟨q.1,q.2,[]⟩:=by
  unfold vX qT;rw[FD];rfl
 have cz:∀q∈qT (Wg (tV m.on way)) (grpsM (kJ n (Wg (tV m.on way)) wo) wo [] wo.length),(∀z∈q.2,∃v:Nat,z=(v:Int)/\v<n)/\q.2.length<=n:=fun q V=>by
  obtain⟨gr,hZ,rfl⟩:=eR.1 V;obtain⟨-,-,-,-,eZ⟩:=Pt (kJ n (Wg (tV m.on way)) wo) wo [] wo.length;have cN:=eZ gr hZ;refine⟨fun z J=>?_,Qr dL cN⟩;obtain⟨_,e,he,h⟩:=zS.1 (((VW _).2 z).1 J);obtain⟨u,v,rfl,ka,kb⟩:=jB dL (cN e he);simp only at h;rcases h with rfl|rfl
  .grind
  grind
 have e0:(qT (Wg (tV m.on way)) (grpsM (kJ n (Wg (tV m.on way)) wo) wo [] wo.length)).length<=wo.length:=by
  unfold qT;rw[rY];exact(Pt _ _ _ _).2.2.2.1
 rw[dS];generalize qT (Wg (tV m.on way)) (grpsM (kJ n (Wg (tV m.on way)) wo) wo [] wo.length)=ps at*;have h0:=OP.len_;have gx:GS 3 (Hg X B O A C w) x ps.length (cellsO vs ps.length):=Pv (h:=X) aq OP.sl (OP.sep.ap 0 x rfl);have h7:∀(j:Nat) q,ps[j]?=some q->GP (Hg X B O A C w) (vs.getD (2*j) rW) q.1/\GI (Hg X B O A C w) (vs.getD (2*j+1) rW) q.2:=fun j q V=>by
  obtain⟨k1,k2⟩:=OP.ge j q V;have hj:=(Ny.1 V).1;have kd:=OP.len;exact⟨Pv (h:=X) aq k1 (OP.sep.ap _ _ (u6 OP NH)),Pv (h:=X) aq k2 (OP.sep.ap _ _ (u6 OP NH))⟩
 have dT:=aH.le (cd.trans cg);have ic:Le g (Hg X B O A C w):=cq.trans (bF.trans (cc.trans (al.trans (cd.trans cg))));have aT:∀z∈p.fits++[m.Jv.length],z<N.length:=fun z J=>by
  rw[ev];rcases Sb.1 J with h|h
  .have:=(((I.Aa p ag).fits z).1 h).1;omega
  .have:=ZT.1 h;omega
 have ew:L.length<=594:=pw;clear OP cg aq cd bh al S8;generalize Hg X B O A C w=e3 at*;refine Sk h0 ?_;refine gU.intro (fun k fr V=>∃(i:Nat) (bo:AHeap) (ar:List Value) (U:Value),k=ps.length-i/\i<=ps.length/\fr=mkF [(0,.pointer (some ⟨B,0,none⟩)),(13,av),(143,x),(144,.int .i64 (ps.length:Nat)),(145,.int .i64 (i:Nat))]/\
   lx bo V B O n (Zh n es) bv A C U bH bI ar (tV m.on way) N N (L++(ps.take i).map fun q=>⟨q.1,q.2,zh N q.2 (p.fits++[m.Jv.length])⟩)/\Le e3 bo)
  ps.length [(0,.pointer (some ⟨B,0,none⟩)),(13,av),(143,x),(144,.int .i64 (ps.length:Nat)),(145,.int .i64 (0:Nat))] fD
  ⟨0,e3,bW,w,rfl,qy _,rfl,by simpa using eW,Le.refl _⟩ ?_
 clear eW hY;clear X;rintro k fr V a1 ⟨i,bo,ar,U,rfl,hi,rfl,aJ,W⟩;refine Uy ?_;refine Kl.intro (fun ht=>?_) (fun hf=>?_)
 .have s : i < ps.length := CC ht
  clear ht;have ih:=XJ s;obtain⟨ge,gf⟩:=h7 i _ ih;obtain⟨e4,e6⟩:=cz _ (VU s);have aD:ps.take (i+1)=ps.take i++[ps[i]]:=EL s;generalize ps[i]=q at*;have e7:=gx.le (W.trans aJ.le);obtain⟨z1,z2,z3⟩:=aY vs ps.length s;have de:=e7.Mx s z1 z2 z3;have b0:=e7.ad3 s;have cR:=ge.le W;have ck:=gf.le W;generalize vs.getD (2*i) rW=a' at*;generalize vs.getD (2*i+1) rW=Y at*;obtain⟨kf,ij,il,ix,iD,kk,oQ,kl⟩:=Od a1 (a:=a') (b:=Y) (c:=rW) cR.pr.sl.one ck.rl.one rfl;have br:=aJ.up iD
  have dQ:∀z,InS B O A C U z->z≠V.next:=fun z J e=>by
   have:=(aJ.own J).2;rw[e]at this
   exact this ((Le.refl V).next a1 (vT _))
  have fb:bo.own V.next=none:=aJ.le.next a1 (vT _)
  generalize V.next=Q at*
  have aC:=pB Q 1 NH;have aj:=pB Q 2 NH;have aw:=Tw i (Lb s (QJ NH));refine Sk (bG b0 de il ix aC (lP1 oQ)) ?_;refine TC.intro PJ ⟨aF,rfl,WY⟩ (NR W0 B n bv _ A C U Y av N q.2 (p.fits++[m.Jv.length]) ij br.f br.rlI ((ck.le br.le).rl) (((dT.le W).le br.le).rl) e4 aT (sr e6 aL) (by rw[Eh,vY];exact ig ei aX R)) ?_;rintro y aK fc ⟨dV,fe,fg⟩;have cU:=fe.own _ _ oQ;have st:=QB (P:=Tryz.prog) (t:=49) (x:=y) Mb Ji cU (off:=2) Ma dV.rl.sl.cell dV.rl.one;have aP:([a',Y,rW]:List Value).set 2 y=[a',Y,y]:=rfl;rw[aP]at st;have c3:(aK.put Q (.cells [a',Y,y])).own Q=some (.cells [a',Y,y]):=AHeap.Y3 _ _ _;have iF:WF (aK.put Q (.cells [a',Y,y])):=fc.put _ (fc.lt cU);have iH:blk y≠some Q:=fun e=>by have:=fg Q e;grind
  have iI:=GS.put dV (fK.cells [a',Y,y]) iH;have fh:∀z o,z≠Q->aK.own z=some o->(aK.put Q (.cells [a',Y,y])).own z=some o:=fun z o J ho=>by rw[AHeap.By _ _ _ _ J];exact ho
  have fm:=br.up fe;have iK:lx bo (aK.put Q (.cells [a',Y,y])) B O n (Zh n es) bv A C U bH bI ar (tV m.on way) N N (L++(ps.take i).map fun q=>⟨q.1,q.2,zh N q.2 (p.fits++[m.Jv.length])⟩):=
   fm.other (fm.le.put _ fb) fun z o J ho=>fh z o (dQ z J) ho
  obtain⟨ed,cp⟩:=iK.pV;have gy:GI (Hg (aK.put Q (.cells [a',Y,y])) B O A C U) y (aab (zh N q.2 (p.fits++[m.Jv.length]))):=Pv (h:=aK.put Q (.cells [a',Y,y])) br iI fg;obtain⟨fp,km,kp,kq,iL,iM,iT,iW,kr,fq,iX,-⟩:=ed.pushL iF (a:=a') (b:=Y) (c:=y) (p:=⟨q.1,q.2,zh N q.2 (p.fits++[m.Jv.length])⟩) ((cR.le cp).pr) ((ck.le cp).rl) gy.rl (app_b ew (Db e0 dM) i);have iY:=OU c3;have fs:=OU (fq.own _ _ c3);have ja:=ed.f.le fq;simp only[HO,Nat.reduceLT,↓reduceIte,Nat.reduceEqDiff,reduceCtorEq,aj,st];refine gh (tA [0,1,2,3,4,5] (JQ 6 [5] (JQ 7 [4,6] (tA [8,9] (JQ 10 [0,1,2,3,4,5,6,7,9] .done))))) ?_;simp only[HO,Nat.reduceLT,↓reduceIte,Nat.reduceEqDiff,reduceCtorEq,Nat.reduceBEq,Qg,K,ed.f.l5,ja.l5,iX.l5,iY,fs,iL,iM,iT,aw];refine tn (ps.length-(i+1)) [(0,.pointer (some ⟨B,0,none⟩)),(13,av),(143,x),(144,.int .i64 (ps.length:Nat)),(145,.int .i64 (i+1:Nat))] (JS s) fD
   ⟨i+1,_,ar++[a',Y,y],fp,rfl,s,rfl,?_,W.trans cp⟩
  rw[aD,qH,<-KG];exact iW
 have ad:ps.length<=i:=vp hf;rw[AE ad]at aJ;refine Uy ?_;refine⟨bo,ic.trans W,aJ.le,.inr ⟨_,A,C,U,bH,bI,ar,rfl,trivial,?_⟩⟩;simp only;rw[<-a7,FD];exact aJ
end
end Go.Fw
