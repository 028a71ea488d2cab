/- A text. -/
import Derived.Test.YtkccdnmaaelbiaaGreatFwLJ13
set_option linter.all false
set_option maxRecDepth 99999
set_option maxHeartbeats 9999999
namespace Go.Fw
section
attribute [local instance] Classical.propDecidable
attribute [local irreducible] Kp MQ lU rS KO KN KX KE VK Kl ZJ TC gU
open Go.Proofs
variable {B O a b c i n:Nat} {bv fv iv lv:Value} {cs us ws:List Value} {es:List Pr} {g h h':AHeap} {left:List wW} {rows:AM}
theorem Jd (hi:i<left.length):LF left i=left[i].fits.length:=by grind [LF]
theorem Vr {a:List wW} {φ:wW->wW} {q c:wW} (hi:i<a.length) (b:a.drop i=q::a.drop (i+1)):((a.take i).map φ++a.drop i).set i c=(a.take i).map φ++c::a.drop (i+1):=by
 have d:((a.take i).map φ).length=i:=pw;rw[b,U0 _ _ NH,d,KG];rfl
def Xi (h:a<=b) (h2:b<=c+2) (h3:c<=594):a<=100000:=NH
def ig (h:a<=b) (h2:b<=c+2) (h3:c<=594):a+1<=100000:=NH
def sr (h:a<=n) (h2:(n:Int)<=200):a<=100000:=NH
theorem app_b {α β:Type} {L:List β} {ps:List α} {φ:α->β} (h:L.length<=594) (h2:ps.length<=594) (i:Nat):(L++(ps.take i).map φ).length<=100000:=pw
def le_4 (h:a<=n) (h2:(n:Int)<=200):a<=40000:=NH
def lx.other {on:List Bool} {d e:Cs} (S:lx g h B O n rows bv fv iv lv us ws cs on d e left) (l:Le g h')
  (c:∀z o,InS B O fv iv lv z->h.own z=some o->h'.own z=some o):lx g h' B O n rows bv fv iv lv us ws cs on d e left:=
 {S with
  f:=⟨c _ _ (.inl rfl) S.f.o⟩
  oO:=c _ _ (.inr (.inl rfl)) S.oO
  gF:=GS.kept S.gF fun b o hb a=>c b o (.inr (.inr ⟨fv,Ma,hb⟩)) a
  gI:=GS.kept S.gI fun b o hb a=>c b o (.inr (.inr ⟨iv,Ma,hb⟩)) a
  gL:=GS.kept S.gL fun b o hb a=>c b o (.inr (.inr ⟨lv,Ma,hb⟩)) a
  sep:=⟨S.sep.TE,fun i u b j hb=>by
   obtain⟨o,a⟩:=iy.1 (S.sep.own i u b j hb);rw[c b o (.inr (.inr ⟨u,Gc j,hb⟩)) a];simp,S.sep.ap,l⟩}
theorem lay_any (W0:LA) {H:Nat->Nat->Prop} {m:kR} (S:lx g h B O n (Zh n es) bv fv iv lv us ws cs m.on m.Jv m.Jv m.left)
  (hr:bX ⟨(n:Int),es⟩) (D:QG (eN n es)) (I:Z8 n es H m) (fY:m.left≠[]):
  AC Tryz.prog W0 53 [.pointer (some ⟨B,0,none⟩)] h fun x h'=>∃g',Le g g'/\Le g' h'/\((AU n (Zh n es) m=none/\x=.bool false)\/∃bH ga gg gi gj gk gl,AU n (Zh n es) m=some bH/\x=.bool true/\lx g' h' B O n (Zh n es) bv ga gg gi gj gk gl bH.on bH.Jv bH.Jv bH.left):=by
 have hR:=hr.GD;have hA:=hr.q9;have aT:(n:Int)<=200:=hr.n1;have R:es.length<=594:=hr.len;have jR:=I.Vw;have a7:=I.My;have en:0<m.left.length:=iu.2 fY;refine AC.vE ⟨Tryz.func53,rfl,WY⟩ Tryz.ntmps53 Tryz.results53 fun jU=>?_;simp only[Br,Nat.reduceAdd];have K:=sB B 5 NH;have gn:=sB B 3 NH;have gq:=sB B 2 NH;have bI:=fun k hk=>S.gL.ad3 (k:=k) hk;have eL:=fun k r (hk:k<m.left.length)=>eA3 (k:=k) (r:=r) S.gL hk;have db:∀k (hk:k<m.left.length),∃c,aload Tryz.prog h 49 (elemAddr lv (k*3+2))=some c/\∀g',aLen Tryz.prog g' 49 c=some (.int .i64 (m.left[k].fits.length:Nat)):=fun k hk=>by
  obtain⟨a,b,c,q1,q2,q3,q4,q5,q6⟩:=S.at_ hk;refine⟨c,by rw[Bj Mb rfl];exact S.gL.cs.get _ _ q3,fun g'=>?_⟩;have:=q6.Uc g';rwa[y6]at this
 refine Sk (Yb K S.f.l5 S.lenL) ?_;refine gU.intro (fun k fr V=>∃i:Nat,k=m.left.length-i/\i<=m.left.length/\fr=mkF [(0,.pointer (some ⟨B,0,none⟩)),(3,.int .i64 (bestK m.left i:Nat)),(20,.int .i64 (m.left.length:Nat)),(21,.int .i64 (i:Nat))]/\V=h)
  m.left.length [(0,.pointer (some ⟨B,0,none⟩)),(3,.int .i64 (0:Nat)),(20,.int .i64 (m.left.length:Nat)),(21,.int .i64 (0:Nat))] fD ⟨0,rfl,IE _,rfl,rfl⟩ ?_
 rintro k fr V a8 ⟨i,rfl,hi,rfl,rfl⟩;refine Uy ?_;refine Kl.intro (fun ht=>?_) (fun hf=>?_)
 .have s : i < m.left.length := CC ht
  clear ht;have F:bestK m.left i<m.left.length:=by
   have:=(EY m.left i).1;rcases Nat.eq_zero_or_pos i with rfl|h
   .exact en
   grind
  obtain⟨c1,q1,q2⟩:=db i s;obtain⟨c2,q3,q4⟩:=db _ F;have aw:=Tw i NH;have e1:=Jd s;have e2:=Jd F;refine Uy ?_;refine gh (tA [0,1,2,3,4,5,6,7,8,9,10,11,12,13,14,15,16,17,18] .done) ?_;by_cases c:m.left[i].fits.length<(m.left[bestK m.left i]).fits.length
  .have d : decide (((m.left[i].fits.length : Nat) : Int) < (((m.left[bestK m.left i]).fits.length : Nat) : Int)) = true := decide_eq_true NH
   have eb:bestK m.left (i+1)=i:=by grind [bestK.eq_2]
   simp only[HO,Nat.reduceLT,↓reduceIte,Nat.reduceEqDiff,reduceCtorEq,Nat.reduceBEq,Qg,K,S.f.l5,bI i s,bI _ F,pf2,eL i 2 s,eL _ 2 F,q1,q2,q3,q4,d,aw];exact tn (m.left.length-(i+1)) [(0,.pointer (some ⟨B,0,none⟩)),(3,.int .i64 (i:Nat)),(20,.int .i64 (m.left.length:Nat)),(21,.int .i64 (i+1:Nat))] (JS s) fD ⟨i+1,rfl,s,by rw[eb];rfl,rfl⟩
  .have d : decide (((m.left[i].fits.length : Nat) : Int) < (((m.left[bestK m.left i]).fits.length : Nat) : Int)) = false := decide_eq_false NH
   have eb:bestK m.left (i+1)=bestK m.left i:=by grind [bestK.eq_2]
   simp only[HO,Nat.reduceLT,↓reduceIte,Nat.reduceEqDiff,reduceCtorEq,Nat.reduceBEq,Qg,K,S.f.l5,bI i s,bI _ F,pf2,eL i 2 s,eL _ 2 F,q1,q2,q3,q4,d,aw];exact tn (m.left.length-(i+1)) [(0,.pointer (some ⟨B,0,none⟩)),(3,.int .i64 (bestK m.left i:Nat)),(20,.int .i64 (m.left.length:Nat)),(21,.int .i64 (i+1:Nat))] (JS s) fD ⟨i+1,rfl,s,by rw[eb];rfl,rfl⟩
 have ad:m.left.length<=i:=vp hf;obtain rfl:i=m.left.length:=NH;clear ad hf hi db;have F:=(EY m.left m.left.length).1 en
 have cN:AU n (Zh n es) m=if(m.left.getD (bestK m.left m.left.length) default).fits.length=0 then none else
   if(J6 n (Zh n es) m.on (m.left.getD (bestK m.left m.left.length) default)).length<2 then none else
   some ⟨tV m.on (J6 n (Zh n es) m.on (m.left.getD (bestK m.left m.left.length) default)),kY m.Jv ((m.left.getD (bestK m.left m.left.length) default).fits.headD 0) (J6 n (Zh n es) m.on (m.left.getD (bestK m.left m.left.length) default)),
    (m.left.eraseIdx (bestK m.left m.left.length)).map (GF (kY m.Jv ((m.left.getD (bestK m.left m.left.length) default).fits.headD 0) (J6 n (Zh n es) m.on (m.left.getD (bestK m.left m.left.length) default))) ((m.left.getD (bestK m.left m.left.length) default).fits.headD 0) m.Jv.length)++
    (vX n (tV m.on (J6 n (Zh n es) m.on (m.left.getD (bestK m.left m.left.length) default))) (V8 n (m.left.getD (bestK m.left m.left.length) default).zp (J6 n (Zh n es) m.on (m.left.getD (bestK m.left m.left.length) default)))).map fun q=>{q with fits:=zh (kY m.Jv ((m.left.getD (bestK m.left m.left.length) default).fits.headD 0) (J6 n (Zh n es) m.on (m.left.getD (bestK m.left m.left.length) default))) q.Fm ((m.left.getD (bestK m.left m.left.length) default).fits++[m.Jv.length])}⟩:=rfl
 rw[cN];clear cN;obtain⟨a,b,c,q1,q2,q3,q4,q5,q6⟩:=S.at_ F;have gu:=S.gL.Mx F q1 q2 q3;have gv:=bI _ F;have ag:m.left[bestK m.left m.left.length]∈m.left:=Eh F;have gz:m.left.getD (bestK m.left m.left.length) default=m.left[bestK m.left m.left.length]:=D4 F;rw[gz];generalize gA:bestK m.left m.left.length=G at*;generalize hp:m.left[G]=p at*;obtain⟨h1,h2,e1,e2,l2,w2,oP,-⟩:=Od a8 q4.sl.one q5.one q6.one;obtain⟨S2,cz⟩:=(S.up l2).pV
 have jZ:∀z,InS B O fv iv lv z->z≠V.next:=fun z hz e=>by
  have:=(S.own hz).2;rw[e]at this
  exact this ((Le.refl V).next a8 (vT _))
 have gP:(Hg h2 B O fv iv lv).own V.next=some (.cells [a,b,c]):=by grind [Hg,Th,HX]
 generalize V.next=P at*
 have gC:=pB P 0 NH;have j0:=pB P 1 NH;have dc:=pB P 2 NH;have lc:=fun g'=>q6.Uc g';rw[y6]at lc;simp only[HO,Nat.reduceLT,↓reduceIte,Nat.reduceEqDiff,reduceCtorEq,K,S.f.l5,gv,gu,e1,e2,dc,lP2 oP,lc];by_cases c0:p.fits.length=0
 .have d0 : decide (((p.fits.length : Nat) : Int) = 0) = true := decide_eq_true NH
  refine Sk (XC @lW d0) ?_
  grind [lx.le]
 have d0:decide (((p.fits.length:Nat):Int)=0)=false:=decide_eq_false NH;rw[if_neg c0];have eo:p.fits.headD 0∈p.fits:=Lt fun e=>c0 (by rw[e];rfl);obtain⟨gE,wh,dd,cC,gJ⟩:=I.Kg hR hA D ag eo;rw[if_neg NH];have ep:=((I.Aa p ag).fits _).1 eo;have de:aV n p.zp:=fun e he=>hR e ((I.Aa p ag).sub.subset he);have gM:=I.Ca ag;have j1:=I.UO hR ag;have er:=I.Xg ag;have gR:=I.fS hR ag;have et:=q4.le cz;have gT:=q5.le Nn.RP cz;have eu:=q6.le Nn.RP cz;refine Sk (Yb @lW d0 (OU oP)) ?_;refine TC.intro PJ ⟨Tryz.func98,rfl,WY⟩ (aaR W0 B n bv _ fv iv lv a b c es m.on p h2 S2.f (S2.cB.le (Nn.RL Nn.RP) S2.le) S2.rlO S2.ZA (et.le S2.le) (gT.le Nn.RP S2.le) q6.one hR de gR NH NH NH NH) ?_;rintro wv h3 w3 ⟨gw,l3,aw3⟩;obtain⟨S3,bW⟩:=(S2.up l3).pV;have ev:GI (Hg h3 B O fv iv lv) wv (kz (J6 n (Zh n es) m.on p)):=Pv (h:=h3) S2 gw aw3;have ew:=bW.own _ _ gP;have j2:∀x∈J6 n (Zh n es) m.on p,x<n:=cC;obtain⟨gV,j4⟩:=I.face_lt ep.1;have ka:=zh;generalize ey:J6 n (Zh n es) m.on p=way at*;have lw:=fun g'=>gw.rl.Uc g';rw[y6]at lw;have dw:decide (((way.length:Nat):Int)<2)=false:=decide_eq_false NH;have hl:awrap .i64 ((G:Int)+1)=((G+1:Nat):Int):=Tw G NH;simp only[HO,Nat.reduceLT,↓reduceIte,Nat.reduceEqDiff,reduceCtorEq,lw,dw,K,S3.f.l5,hl];refine TC.intro PJ ⟨Tryz.func99,rfl,WY⟩ (F5 W0 S3.gL S3.cuL S3.c1 F NH) ?_;rintro w h4 w4 ⟨gd,hn,hx,hC,hD⟩;obtain⟨h5,e5,S5,w5⟩:=S3.delL w4 F gd hn hx hC hD;have eA:=S5.le;have hE:=eA.own _ _ ew;have hF:=(eu.le Nn.RP bW).le Nn.RP eA;have eB:=q6.TA 0 (by rw[y6];omega);have eC:=hF.DH 0 (by rw[y6];omega);have t0:0<p.fits.length:=NH;rw[sY t0,<-Bw t0]at eC;simp only[dU]at eB;generalize kb:p.fits.headD 0=f at*;generalize kd:(cs.take (G*3)++cs.drop ((G+1)*3))=hG at*;refine Sk (XC K e5) ?_;refine gh (tA [0,1,2,3,4,5,6,7,8,9,10] .done) ?_;refine CO (rE dc (lP2 hE) eB eC gn S5.f.l3 S5.LF) ?_;have hI:=Kz W0 S5 (f:=f) (way:=way) ep.1 ev gE wh dd gV cC NH NH NH NH;refine TC.intro PJ ⟨Tryz.func100,rfl,WY⟩ hI ?_;rintro x h6 w6 ⟨g6,A,C,b0,b1,S6,dj⟩;have kf:(m.left.eraseIdx G).length=m.left.length-1:=pw;have dk:∀q∈m.left.eraseIdx G,q∈m.left:=fun q V=>List.mem_of_mem_eraseIdx V;generalize kk:m.left.eraseIdx G=M at*;have eE:(kY m.Jv f way).length=m.Jv.length+1:=Yz;generalize kl:kY m.Jv f way=N at*;have kp:=sB B 0 NH;refine Sk (Yb K S6.f.l5 S6.lenL) ?_;refine gU.intro (fun k fr hz=>∃(i:Nat) (g7:AHeap) (b2:List Value) (L:List wW),k=M.length-i/\i<=M.length/\fr=mkF [(0,.pointer (some ⟨B,0,none⟩)),(5,.pointer (some ⟨P,0,none⟩)),(6,wv),(7,.int .i64 (f:Nat)),(8,.int .i64 (m.Jv.length:Nat)),(89,w),(90,.int .i64 (M.length:Nat)),(91,.int .i64 (i:Nat))]/\
   lx g7 hz B O n (Zh n es) bv A C w b0 b1 b2 m.on N N L/\Le g6 g7/\L=(M.take i).map (GF N f m.Jv.length)++M.drop i)
  M.length [(0,.pointer (some ⟨B,0,none⟩)),(5,.pointer (some ⟨P,0,none⟩)),(6,wv),(7,.int .i64 (f:Nat)),(8,.int .i64 (m.Jv.length:Nat)),(89,w),(90,.int .i64 (M.length:Nat)),(91,.int .i64 (0:Nat))] fD
  ⟨0,g6,hG,M,rfl,IE _,rfl,S6,Le.refl _,Ma⟩ ?_
 rintro k fr hz dm ⟨i,g7,b2,L,rfl,hi,rfl,S7,bb,bh⟩;have eF:L.length=M.length:=by rw[bh,eR,rY,Po,dJ];omega
 refine Uy ?_;refine Kl.intro (fun ht=>?_) (fun hf=>?_)
 .have s : i < M.length := CC ht
  clear ht;have bo:i<L.length:=NH;have dq:L[i]=M[i]:=by
   have h1:L[i]?=some M[i]:=by
    rw[bh,WA (by rw[rY,Po];omega),rY,Po,Nat.min_eq_left NH,KG,vY,Bn]
    grind
   grind
  obtain⟨a',Y,c',r1,r2,r3,r4,r5,r6⟩:=S7.at_ bo;have dx:=S7.gL.Mx bo r1 r2 r3;have b3:=S7.gL.ad3 bo;have hJ:=eA3 (r:=2) S7.gL bo;have eG:aField Tryz.prog 125 (.pointer (some (elemAddr w (i*3)))) 2=some (.pointer (some (elemAddr w (i*3+2)))):=by rw[pf2,hJ]
  rw[dq]at r4 r5 r6;have cE:=dk _ (Eh s);have cU:=I.fS hR cE;have c3:=I.UO hR cE;have aW:=I.Xg cE;have hK:=(I.Aa _ cE).fits;generalize eI:M[i]=q at*;obtain⟨h8,h9,e8,e9,l9,w9,oQ,l8⟩:=Od dm r4.sl.one r5.one r6.one;have Z:=S7.up l9;have aw:=Tw i NH
  have dQ:∀z,InS B O A C w z->z≠hz.next:=fun z J e=>by
   have:=(S7.own J).2;rw[e]at this
   exact this ((Le.refl hz).next dm (vT _))
  generalize hz.next=Q at*
  have aD:=pB Q 1 NH;have aj:=pB Q 2 NH;have aH:M.take (i+1)=M.take i++[q]:=by rw[EL s,eI]
  have eM:M.drop i=q::M.drop (i+1):=by rw[V3 s,eI]
  have aX:∀q':wW,L.set i q'=(M.take i).map (GF N f m.Jv.length)++q'::M.drop (i+1):=fun q'=>by rw[bh];exact Vr s eM
  refine Sk (bG b3 dx e8 e9 aj (lP2 oQ)) ?_;refine TC.intro PJ ⟨Tryz.func101,rfl,WY⟩ (W3 W0 c' (kz q.fits) ((f:Nat):Int) h9 (r6.le Nn.RP Z.le) (by rw[y6];omega)) ?_;rintro y br hL ⟨rfl,rfl⟩;by_cases cm:f∈q.fits
  rotate_left
  .have d:decide (((f:Nat):Int)∈kz q.fits)=false:=decide_eq_false fun hm=>cm (by
    obtain⟨z,J,e⟩:=N8.1 hm;have:z=f:=NH
    grind)
   simp only[HO,Nat.reduceLT,↓reduceIte,Nat.reduceEqDiff,reduceCtorEq,d,aw];refine tn (M.length-(i+1)) [(0,.pointer (some ⟨B,0,none⟩)),(5,.pointer (some ⟨P,0,none⟩)),(6,wv),(7,.int .i64 (f:Nat)),(8,.int .i64 (m.Jv.length:Nat)),(89,w),(90,.int .i64 (M.length:Nat)),(91,.int .i64 (i+1:Nat))] (JS s) fD
    ⟨i+1,g7,b2,L,rfl,s,rfl,Z,bb,?_⟩
   rw[bh,aH,eM,b7,Bx];have:GF N f m.Jv.length q=q:=by unfold GF;grind
   simp[this]
  have d:decide (((f:Nat):Int)∈kz q.fits)=true:=decide_eq_true (N8.2 ⟨f,cm,rfl⟩);refine Sk d ?_;have T:∀h',Le br h'->aload Tryz.prog h' 75 ⟨B,5,none⟩=some w/\aload Tryz.prog h' 49 ⟨Q,1,none⟩=some Y/\aload Tryz.prog h' 49 ⟨Q,2,none⟩=some c':=fun h' l=>⟨(Z.f.le l).l5,lP1 (l.own _ _ oQ),lP2 (l.own _ _ oQ)⟩;obtain⟨dz,dA,dB⟩:=T br (Le.refl _);have a1:∀z∈q.fits++[m.Jv.length],z<N.length:=fun z J=>by
   rw[eE];rcases Sb.1 J with h|h
   .have:=((hK z).1 h).1;omega
   .have:=si.1 h;omega
  have a6:kz q.fits++[((m.Jv.length:Nat):Int)]=kz (q.fits++[m.Jv.length]):=by simp[kz]
  obtain⟨ha,ea,la,wa,oa⟩:=Tt hL [.int .i64 ((m.Jv.length:Nat):Int)];obtain⟨hM,hN,hP⟩:=T ha la;refine gh (tA [0,1,2,3,4,5,6,7,8,9,11] (.ch 10 [9] (JQ 12 [11] (JQ 13 [10,12] (JQ 14 [5,7,13] (tA [15,16] (JQ 17 [0,1,2,3,4,5,6,7,8,9,10,11,12,13,14,16] .done))))) (JQ 12 [11] (JQ 10 [9] (JQ 13 [10,12] (JQ 14 [5,7,13] (tA [15,16] (JQ 17 [0,1,2,3,4,5,6,7,8,9,10,11,12,13,14,16] .done)))))))) ?_;simp only[HO,Nat.reduceLT,↓reduceIte,Nat.reduceEqDiff,reduceCtorEq,Nat.reduceBEq,Qg,K,dz,hM,aD,aj,dA,hN,dB,hP,DQ,ea];refine⟨?_,?_⟩
  .refine VA.intro PJ ⟨Md, rfl, WY⟩ (QY W0 c' (kz q.fits) br (r6.le Nn.RP Z.le) (by rw [y6]; exact Xi aW a7 R)) ?_
   rintro y sZ wb ⟨gb,lb,ab⟩;obtain⟨b4,b6,b8⟩:=T sZ lb;obtain⟨av,hQ,hc,eO,ec,aJ,wc,hS,dE,hT⟩:=gb.push wb ((m.Jv.length:Nat):Int) (by rw[y6];grind);obtain⟨E,hU⟩:=dE br lb ab;rw[a6]at aJ;obtain⟨eS,eT,eU⟩:=T hQ (lb.trans hS);obtain⟨b9,cc,cd⟩:=T hc E;simp only[DQ]at eO;simp only[HO,Nat.reduceLT,↓reduceIte,Nat.reduceEqDiff,reduceCtorEq,Nat.reduceBEq,Qg,K,dz,b4,eS,b9,aD,aj,dA,b6,eT,cc,dB,b8,eU,cd,DQ,eO,ec];obtain⟨hV,hW,hX⟩:=T hc E;refine VA.intro PJ ⟨aao,rfl,WY⟩ (NR W0 B n bv _ A C w Y av N q.Fm (q.fits++[m.Jv.length]) hc (Z.f.le E) (Z.rlI.le (Nn.RL Nn.sJ) E) ((r5.le Nn.RP Z.le).le Nn.RP E) aJ.rl cU a1 (sr c3 aT) (by rw[eR,Uz];exact ig aW a7 R)) ?_;rintro y hd wd ⟨gy,dF,ay⟩;have cf:=E.trans dF;obtain⟨dI,dL,dM⟩:=T hd cf;obtain⟨Sd,dS⟩:=(Z.up cf).pV;have dT:GI (Hg hd B O A C w) y (kz (zh N q.Fm (q.fits++[m.Jv.length]))):=Pv (h:=hd) Z gy (fun b hb=>E.none (ay b hb));obtain⟨he,ee,Se,we⟩:=Sd.setT wd bo dT.rl;rw[dq]at Se;simp only[HO,Nat.reduceLT,↓reduceIte,Nat.reduceEqDiff,reduceCtorEq,Nat.reduceBEq,Qg,K,aD,aj,dI,dL,dM,b3,eG,ee,aw];refine tn (M.length-(i+1)) [(0,.pointer (some ⟨B,0,none⟩)),(5,.pointer (some ⟨P,0,none⟩)),(6,wv),(7,.int .i64 (f:Nat)),(8,.int .i64 (m.Jv.length:Nat)),(89,w),(90,.int .i64 (M.length:Nat)),(91,.int .i64 (i+1:Nat))] (JS s) fD
    ⟨i+1,_,_,_,rfl,s,rfl,Se,bb.trans dS,?_⟩
   rw[aX,aH,b7,Bx];have:GF N f m.Jv.length q={q with fits:=zh N q.Fm (q.fits++[m.Jv.length])}:=by unfold GF;grind
   simp[this]
  .refine VA.intro PJ ⟨Md, rfl, WY⟩ (QY W0 c' (kz q.fits) ha ((r6.le Nn.RP Z.le).le Nn.RP la) (by rw [y6]; exact Xi aW a7 R)) ?_
   rintro y sZ wb ⟨gb,lb,ab⟩;obtain⟨b4,b6,b8⟩:=T sZ (la.trans lb)
   have ro:RL RP sZ (.slice (some ⟨br.next,0,none⟩) 1 1) [((m.Jv.length:Nat):Int)]:=RL.Wh (RS.whole (lb.own _ _ oa) rfl)
   obtain⟨av,hc,ec,aJ,wc,dE,hT⟩:=GI.join gb wb ro (by rw[y6,Uz];grind);obtain⟨hY,hU⟩:=dE ha lb ab;have E:=la.trans hY;rw[a6]at aJ;obtain⟨b9,cc,cd⟩:=T hc E;refine CO (Da K dz b4 b9 aD aj dA b6 cc dB b8 cd @DQ ec) ?_;obtain⟨hV,hW,hX⟩:=T hc E;refine VA.intro PJ ⟨aao,rfl,WY⟩ (NR W0 B n bv _ A C w Y av N q.Fm (q.fits++[m.Jv.length]) hc (Z.f.le E) (Z.rlI.le (Nn.RL Nn.sJ) E) ((r5.le Nn.RP Z.le).le Nn.RP E) aJ.rl cU a1 (sr c3 aT) (by rw[eR,Uz];exact ig aW a7 R)) ?_;rintro y hd wd ⟨gy,dF,ay⟩;have cf:=E.trans dF;obtain⟨dI,dL,dM⟩:=T hd cf;obtain⟨Sd,dS⟩:=(Z.up cf).pV;have dT:GI (Hg hd B O A C w) y (kz (zh N q.Fm (q.fits++[m.Jv.length]))):=Pv (h:=hd) Z gy (fun b hb=>E.none (ay b hb));obtain⟨he,ee,Se,we⟩:=Sd.setT wd bo dT.rl;rw[dq]at Se;simp only[HO,Nat.reduceLT,↓reduceIte,Nat.reduceEqDiff,reduceCtorEq,Nat.reduceBEq,Qg,K,aD,aj,dI,dL,dM,b3,eG,ee,aw];refine tn (M.length-(i+1)) [(0,.pointer (some ⟨B,0,none⟩)),(5,.pointer (some ⟨P,0,none⟩)),(6,wv),(7,.int .i64 (f:Nat)),(8,.int .i64 (m.Jv.length:Nat)),(89,w),(90,.int .i64 (M.length:Nat)),(91,.int .i64 (i+1:Nat))] (JS s) fD
    ⟨i+1,_,_,_,rfl,s,rfl,Se,bb.trans dS,?_⟩
   rw[aX,aH,b7,Bx];have:GF N f m.Jv.length q={q with fits:=zh N q.Fm (q.fits++[m.Jv.length])}:=by unfold GF;grind
   simp[this]
 have ad:M.length<=i:=vp hf;obtain rfl:i=M.length:=NH;rw[vZ (vT _),qL194 (vT _),Bc]at bh;clear ad hf hi;have eV:=bb.own _ _ (dj.own _ _ ew);have dV:=ev.le (dj.trans bb);have eW:=fun g'=>dV.rl.Uc g';rw[y6]at eW;refine Sk eW ?_;refine gU.intro (fun k fr hy=>∃(i:Nat),k=way.length-i/\i<=way.length/\fr=mkF [(0,.pointer (some ⟨B,0,none⟩)),(5,.pointer (some ⟨P,0,none⟩)),(6,wv),(8,.int .i64 (m.Jv.length:Nat)),(118,wv),(119,.int .i64 (way.length:Nat)),(120,.int .i64 (i:Nat))]/\
   lx g7 hy B O n (Zh n es) bv A C w b0 b1 b2 (tV m.on (way.take i)) N N L)
  way.length [(0,.pointer (some ⟨B,0,none⟩)),(5,.pointer (some ⟨P,0,none⟩)),(6,wv),(8,.int .i64 (m.Jv.length:Nat)),(118,wv),(119,.int .i64 (way.length:Nat)),(120,.int .i64 (0:Nat))] fD
  ⟨0,rfl,IE _,rfl,S7⟩ ?_
 clear S7 dm;clear hz;rintro k fr hy ey ⟨i,rfl,hi,rfl,S8⟩;refine Uy ?_;refine Kl.intro (fun ht=>?_) (fun hf=>?_)
 .have s : i < way.length := CC ht
  clear ht;have gy:=dV.le S8.le;have hZ:=gy.rl.TA i (by rw[y6];exact s);have eZ:=gy.rl.DH i (by rw[y6];exact s);rw[sY s]at eZ;have hv:=cC way[i] (Eh s);have aH:way.take (i+1)=way.take i++[way[i]]:=EL s;generalize way[i]=v at*;have h0:aIndexAddr Tryz.prog 59 (.slice (some ⟨O,0,none⟩) n n) (.int .i64 (v:Int))=some (.pointer (some ⟨O,v,none⟩)):=by rw[Wc eY AV Ji v hv];simp[Ip]
  obtain⟨h9,e9,Z,w9⟩:=S8.setO ey hv;have h7:(tV m.on (way.take i)).set v true=tV m.on (way.take (i+1)):=by rw[aH];unfold tV;rw[aak];rfl
  rw[h7]at Z;have aw:=Tw i (Lb s (le_4 gJ aT));simp only[HO,Nat.reduceLT,↓reduceIte,Nat.reduceEqDiff,reduceCtorEq,hZ,eZ,gq,S8.f.l2,h0,e9,aw];exact tn (way.length-(i+1)) [(0,.pointer (some ⟨B,0,none⟩)),(5,.pointer (some ⟨P,0,none⟩)),(6,wv),(8,.int .i64 (m.Jv.length:Nat)),(118,wv),(119,.int .i64 (way.length:Nat)),(120,.int .i64 (i+1:Nat))] (JS s) fD ⟨i+1,rfl,s,rfl,Z⟩
 have ad:way.length<=i:=vp hf;rw[vZ ad]at S8;clear ad hf hi;have ic:=S8.le.own _ _ eV;have cg:=dj.trans bb;have r6:=((eu.le Nn.RP bW).le Nn.RP cg);have r4:=((et.le bW).le cg);refine Sk (XC dc (lP2 ic)) ?_;refine TC.intro PJ ⟨Md,rfl,WY⟩ (QY W0 c (kz p.fits) hy (r6.le Nn.RP S8.le) (by rw[y6];exact Xi er a7 R)) ?_;rintro y h9 w9 ⟨g9,l9,a9⟩;obtain⟨av,br,ed,e0,ih,e3,kq,kr,e4,jP⟩:=g9.push w9 ((m.Jv.length:Nat):Int) (by grind [y6]);obtain⟨e6,ij⟩:=e4 hy l9 a9;have a6:kz p.fits++[((m.Jv.length:Nat):Int)]=kz (p.fits++[m.Jv.length]):=by simp[kz]
 rw[a6]at e3;obtain⟨bx,al⟩:=(S8.up e6).pV;have aJ:GI (Hg ed B O A C w) av (kz (p.fits++[m.Jv.length])):=Pv (h:=ed) S8 e3 ij;have e7:=al.own _ _ eV;have fb:=bx.le.own _ _ e7;have il:=dV.le al;simp only[DQ]at e0;refine Sk (IX @DQ e0 ih gC (lP0 fb)) ?_;refine TC.intro PJ ⟨Tryz.func103,rfl,WY⟩ (Bs W0 B n bv _ A C w a wv p.zp way ed bx.f ((r4.le al).le bx.le) (il.le bx.le).rl de cC NH NH NH) ?_;rintro y2 ix kt ⟨iD,iF,ku⟩;obtain⟨aq,ck⟩:=(bx.up iF).pV;have cp:(V8 n p.zp way).Sublist p.zp:=j9;have ef:aV n (V8 n p.zp way):=fun e he=>de e (cp.subset he);have eg:(V8 n p.zp way).length<=594:=Db cp.length_le (Db gM R);generalize kv:V8 n p.zp way=wo at*;refine Uy ?_;refine TC.intro PJ ⟨Tryz.func102,rfl,WY⟩ (Xr W0 B n bv _ A C w y2 (tV m.on way) wo ix aq.f aq.rlO aq.ZA iD.pr ef NH NH) ?_;rintro x X iK ⟨vs,OP⟩;obtain⟨fc,cq⟩:=(aq.up OP.sep.le).pV;have eh:vX n (tV m.on way) wo=(qT (Wg (tV m.on way)) (grpsM (kJ n (Wg (tV m.on way)) wo) wo [] wo.length)).map fun q=>⟨q.1,q.2,[]⟩:=by
  unfold vX qT;rw[uu];rfl
 have cM:∀q∈qT (Wg (tV m.on way)) (grpsM (kJ n (Wg (tV m.on way)) wo) wo [] wo.length),(∀z∈q.2,∃v:Nat,z=(v:Int)/\v<n)/\q.2.length<=n:=fun q V=>by
  obtain⟨gr,iL,rfl⟩:=N8.1 V;obtain⟨-,-,-,-,fe⟩:=Pt (kJ n (Wg (tV m.on way)) wo) wo [] wo.length;have c4:=fe gr iL;refine⟨fun z J=>?_,Qr ef c4⟩;obtain⟨_,e,he,h⟩:=zS.1 (((VW _).2 z).1 J);obtain⟨u,v,rfl,kQ,kT⟩:=jB ef (c4 e he);simp only at h;rcases h with rfl|rfl
  .grind
  grind
 have fg:(qT (Wg (tV m.on way)) (grpsM (kJ n (Wg (tV m.on way)) wo) wo [] wo.length)).length<=wo.length:=by
  unfold qT;rw[rY];exact(Pt _ _ _ _).2.2.2.1
 rw[eh];generalize qT (Wg (tV m.on way)) (grpsM (kJ n (Wg (tV m.on way)) wo) wo [] wo.length)=ps at*;have iM:=OP.len_;have gx:GS 3 (Hg X B O A C w) x ps.length (cellsO vs ps.length):=Pv (h:=X) aq OP.sl (OP.sep.ap 0 x rfl);have iT:∀(j:Nat) q,ps[j]?=some q->GP (Hg X B O A C w) (vs.getD (2*j) rW) q.1/\GI (Hg X B O A C w) (vs.getD (2*j+1) rW) q.2:=fun j q V=>by
  obtain⟨k1,k2⟩:=OP.ge j q V;have hj:=(Ny.1 V).1;have kU:=OP.len;exact⟨Pv (h:=X) aq k1 (OP.sep.ap _ _ (u6 OP NH)),Pv (h:=X) aq k2 (OP.sep.ap _ _ (u6 OP NH))⟩
 have ei:=aJ.le (ck.trans cq);have iW:Le g (Hg X B O A C w):=cz.trans (bW.trans (cg.trans (al.trans (ck.trans cq))));have a1:∀z∈p.fits++[m.Jv.length],z<N.length:=fun z J=>by
  rw[eE];rcases Sb.1 J with h|h
  .have:=(((I.Aa p ag).fits z).1 h).1;omega
  .have:=si.1 h;omega
 have eF:L.length<=594:=pw;clear OP cq aq ck bx al S8;generalize Hg X B O A C w=fh at*;refine Sk iM ?_;refine gU.intro (fun k fr V=>∃(i:Nat) (bB:AHeap) (ar:List Value) (U:Value),k=ps.length-i/\i<=ps.length/\fr=mkF [(0,.pointer (some ⟨B,0,none⟩)),(13,av),(143,x),(144,.int .i64 (ps.length:Nat)),(145,.int .i64 (i:Nat))]/\
   lx bB V B O n (Zh n es) bv A C U b0 b1 ar (tV m.on way) N N (L++(ps.take i).map fun q=>⟨q.1,q.2,zh N q.2 (p.fits++[m.Jv.length])⟩)/\Le fh bB)
  ps.length [(0,.pointer (some ⟨B,0,none⟩)),(13,av),(143,x),(144,.int .i64 (ps.length:Nat)),(145,.int .i64 (0:Nat))] fD
  ⟨0,fh,b2,w,rfl,IE _,rfl,by simpa using fc,Le.refl _⟩ ?_
 clear fc iK;clear X;rintro k fr V a8 ⟨i,bB,ar,U,rfl,hi,rfl,aK,W⟩;refine Uy ?_;refine Kl.intro (fun ht=>?_) (fun hf=>?_)
 .have s : i < ps.length := CC ht
  clear ht;have iX:=XJ s;obtain⟨ge,gf⟩:=iT i _ iX;obtain⟨fm,fp⟩:=cM _ (Eh s);have aH:ps.take (i+1)=ps.take i++[ps[i]]:=EL s;generalize ps[i]=q at*;have fq:=gx.le (W.trans aK.le);obtain⟨z1,z2,z3⟩:=aY vs ps.length s;have dx:=fq.Mx s z1 z2 z3;have b3:=fq.ad3 s;have c5:=ge.le W;have cr:=gf.le W;generalize vs.getD (2*i) rW=a' at*;generalize vs.getD (2*i+1) rW=Y at*;obtain⟨kW,iY,ja,jb,jg,kX,oQ,k3⟩:=Od a8 (a:=a') (b:=Y) (c:=rW) c5.pr.sl.one cr.rl.one rfl;have bF:=aK.up jg
  have dQ:∀z,InS B O A C U z->z≠V.next:=fun z J e=>by
   have:=(aK.own J).2;rw[e]at this
   exact this ((Le.refl V).next a8 (vT _))
  have fs:bB.own V.next=none:=aK.le.next a8 (vT _)
  generalize V.next=Q at*
  have aD:=pB Q 1 NH;have aj:=pB Q 2 NH;have aw:=Tw i (Lb s (QJ NH));refine Sk (bG b3 dx ja jb aD (lP1 oQ)) ?_;refine TC.intro PJ ⟨aao,rfl,WY⟩ (NR W0 B n bv _ A C U Y av N q.2 (p.fits++[m.Jv.length]) iY bF.f bF.rlI ((cr.le bF.le).rl) (((ei.le W).le bF.le).rl) fm a1 (sr fp aT) (by rw[eR,Uz];exact ig er a7 R)) ?_;rintro y aP ft ⟨ej,fx,fF⟩;have c9:=fx.own _ _ oQ;have st:=QB (P:=Tryz.prog) (t:=49) (x:=y) Mb Ji c9 (off:=2) Ma ej.rl.sl.cell ej.rl.one;have aX:([a',Y,rW]:List Value).set 2 y=[a',Y,y]:=rfl;rw[aX]at st;have da:(aP.put Q (.cells [a',Y,y])).own Q=some (.cells [a',Y,y]):=AHeap.Y3 _ _ _;have ji:WF (aP.put Q (.cells [a',Y,y])):=ft.put _ (ft.lt c9);have jj:blk y≠some Q:=fun e=>by have:=fF Q e;grind
  have jk:=GS.put ej (fK.cells [a',Y,y]) jj;have fL:∀z o,z≠Q->aP.own z=some o->(aP.put Q (.cells [a',Y,y])).own z=some o:=fun z o J ho=>by rw[AHeap.By _ _ _ _ J];exact ho
  have fN:=bF.up fx;have jq:lx bB (aP.put Q (.cells [a',Y,y])) B O n (Zh n es) bv A C U b0 b1 ar (tV m.on way) N N (L++(ps.take i).map fun q=>⟨q.1,q.2,zh N q.2 (p.fits++[m.Jv.length])⟩):=
   fN.other (fN.le.put _ fs) fun z o J ho=>fL z o (dQ z J) ho
  obtain⟨ek,cx⟩:=jq.pV;have gy:GI (Hg (aP.put Q (.cells [a',Y,y])) B O A C U) y (kz (zh N q.2 (p.fits++[m.Jv.length]))):=Pv (h:=aP.put Q (.cells [a',Y,y])) bF jk fF;obtain⟨fP,k4,k5,k6,jr,jt,jv,jx,k7,fU,jE,-⟩:=ek.pushL ji (a:=a') (b:=Y) (c:=y) (p:=⟨q.1,q.2,zh N q.2 (p.fits++[m.Jv.length])⟩) ((c5.le cx).pr) ((cr.le cx).rl) gy.rl (app_b eF (Db fg eg) i);have jK:=OU da;have fV:=OU (fU.own _ _ da);have jO:=ek.f.le fU;simp only[HO,Nat.reduceLT,↓reduceIte,Nat.reduceEqDiff,reduceCtorEq,aj,st];refine gh (tA [0,1,2,3,4,5] (JQ 6 [5] (JQ 7 [4,6] (tA [8,9] (JQ 10 [0,1,2,3,4,5,6,7,9] .done))))) ?_;simp only[HO,Nat.reduceLT,↓reduceIte,Nat.reduceEqDiff,reduceCtorEq,Nat.reduceBEq,Qg,K,ek.f.l5,jO.l5,jE.l5,jK,fV,jr,jt,jv,aw];refine tn (ps.length-(i+1)) [(0,.pointer (some ⟨B,0,none⟩)),(13,av),(143,x),(144,.int .i64 (ps.length:Nat)),(145,.int .i64 (i+1:Nat))] (JS s) fD
   ⟨i+1,_,ar++[a',Y,y],fP,rfl,s,rfl,?_,W.trans cx⟩
  rw[aH,b7,<-Bx];exact jx
 have ad:ps.length<=i:=vp hf;rw[vZ ad]at aK;refine Uy ?_;refine⟨bB,iW.trans W,aK.le,.inr ⟨_,A,C,U,b0,b1,ar,rfl,trivial,?_⟩⟩;simp only;rw[<-bh,uu];exact aK
end
end Go.Fw
