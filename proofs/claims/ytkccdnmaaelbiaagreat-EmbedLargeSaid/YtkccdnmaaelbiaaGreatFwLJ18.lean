/- A text. -/
import Derived.Test.YtkccdnmaaelbiaaGreatFwLJ13
set_option linter.all false
set_option maxRecDepth 99999
set_option maxHeartbeats 9999999
namespace Go.Fw
section
attribute [local instance] Classical.propDecidable
attribute [local irreducible] Kp MQ lU rS KO KN KX KE VK Kl ZJ TC gU
open Go.Proofs
variable {B O a b c i n:Nat} {bv fv iv lv:Value} {cs us ws:List Value} {es:List Pr} {g h h':AHeap} {left:List wW} {rows:AM}
theorem Jd (hi:i<left.length):LF left i=left[i].fits.length:=by grind [LF]
theorem Vr {a:List wW} {φ:wW->wW} {q c:wW} (hi:i<a.length) (b:a.drop i=q::a.drop (i+1)):((a.take i).map φ++a.drop i).set i c=(a.take i).map φ++c::a.drop (i+1):=by
 have d:((a.take i).map φ).length=i:=pw;rw[b,MA _ _ NH,d,Bn];rfl
def Xi (h:a<=b) (h2:b<=c+2) (h3:c<=594):a<=100000:=NH
def ig (h:a<=b) (h2:b<=c+2) (h3:c<=594):a+1<=100000:=NH
def sr (h:a<=n) (h2:(n:Int)<=200):a<=100000:=NH
theorem app_b {α β:Type} {L:List β} {ps:List α} {φ:α->β} (h:L.length<=594) (h2:ps.length<=594) (i:Nat):(L++(ps.take i).map φ).length<=100000:=pw
def le_4 (h:a<=n) (h2:(n:Int)<=200):a<=40000:=NH
def lx.other {on:List Bool} {d e:Cs} (S:lx g h B O n rows bv fv iv lv us ws cs on d e left) (l:Le g h')
  (c:∀z o,InS B O fv iv lv z->h.own z=some o->h'.own z=some o):lx g h' B O n rows bv fv iv lv us ws cs on d e left:=
 {S with
  f:=⟨c _ _ (.inl rfl) S.f.o⟩
  oO:=c _ _ (.inr (.inl rfl)) S.oO
  gF:=GS.kept S.gF fun b o hb a=>c b o (.inr (.inr ⟨fv,Ma,hb⟩)) a
  gI:=GS.kept S.gI fun b o hb a=>c b o (.inr (.inr ⟨iv,Ma,hb⟩)) a
  gL:=GS.kept S.gL fun b o hb a=>c b o (.inr (.inr ⟨lv,Ma,hb⟩)) a
  sep:=⟨S.sep.TE,fun i u b j hb=>by
   obtain⟨o,a⟩:=eR.1 (S.sep.own i u b j hb);rw[c b o (.inr (.inr ⟨u,Gc j,hb⟩)) a];simp,S.sep.ap,l⟩}
theorem lay_any (W0:LA) {H:Nat->Nat->Prop} {m:kR} (S:lx g h B O n (Zh n es) bv fv iv lv us ws cs m.on m.Jv m.Jv m.left)
  (hr:bX ⟨(n:Int),es⟩) (D:QG (eN n es)) (I:Z8 n es H m) (fV:m.left≠[]):
  AC Tryz.prog W0 53 [.pointer (some ⟨B,0,none⟩)] h fun x h'=>∃g',Le g g'/\Le g' h'/\((AU n (Zh n es) m=none/\x=.bool false)\/∃bH fY ga gg gi gj gk,AU n (Zh n es) m=some bH/\x=.bool true/\lx g' h' B O n (Zh n es) bv fY ga gg gi gj gk bH.on bH.Jv bH.Jv bH.left):=by
 have hR:=hr.GD;have hA:=hr.q9;have aT:(n:Int)<=200:=hr.n1;have R:es.length<=594:=hr.len;have jP:=I.Vw;have a7:=I.My;have ek:0<m.left.length:=WL.2 fV;refine AC.vE ⟨Tryz.func53,rfl,WY⟩ Tryz.ntmps53 Tryz.results53 fun jR=>?_;simp only[Br,Nat.reduceAdd];have K:=sB B 5 NH;have gl:=sB B 3 NH;have gn:=sB B 2 NH;have bI:=fun k hk=>S.gL.ad3 (k:=k) hk;have eL:=fun k r (hk:k<m.left.length)=>eA3 (k:=k) (r:=r) S.gL hk;have db:∀k (hk:k<m.left.length),∃c,aload Tryz.prog h 49 (elemAddr lv (k*3+2))=some c/\∀g',aLen Tryz.prog g' 49 c=some (.int .i64 (m.left[k].fits.length:Nat)):=fun k hk=>by
  obtain⟨a,b,c,q1,q2,q3,q4,q5,q6⟩:=S.at_ hk;refine⟨c,by rw[Bj Mb rfl];exact S.gL.cs.get _ _ q3,fun g'=>?_⟩;have:=q6.Uc g';rwa[y6]at this
 refine Sk (Yb K S.f.l5 S.lenL) ?_;refine gU.intro (fun k fr V=>∃i:Nat,k=m.left.length-i/\i<=m.left.length/\fr=mkF [(0,.pointer (some ⟨B,0,none⟩)),(3,.int .i64 (bestK m.left i:Nat)),(20,.int .i64 (m.left.length:Nat)),(21,.int .i64 (i:Nat))]/\V=h)
  m.left.length [(0,.pointer (some ⟨B,0,none⟩)),(3,.int .i64 (0:Nat)),(20,.int .i64 (m.left.length:Nat)),(21,.int .i64 (0:Nat))] fD ⟨0,rfl,vZ _,rfl,rfl⟩ ?_
 rintro k fr V a8 ⟨i,rfl,hi,rfl,rfl⟩;refine Uy ?_;refine Kl.intro (fun ht=>?_) (fun hf=>?_)
 .have s : i < m.left.length := CC ht
  clear ht;have F:bestK m.left i<m.left.length:=by
   have:=(EY m.left i).1;rcases Nat.eq_zero_or_pos i with rfl|h
   .exact ek
   grind
  obtain⟨c1,q1,q2⟩:=db i s;obtain⟨c2,q3,q4⟩:=db _ F;have aw:=Tw i NH;have e1:=Jd s;have e2:=Jd F;refine Uy ?_;refine gh (tA [0,1,2,3,4,5,6,7,8,9,10,11,12,13,14,15,16,17,18] .done) ?_;by_cases c:m.left[i].fits.length<(m.left[bestK m.left i]).fits.length
  .have d : decide (((m.left[i].fits.length : Nat) : Int) < (((m.left[bestK m.left i]).fits.length : Nat) : Int)) = true := decide_eq_true NH
   have eb:bestK m.left (i+1)=i:=by grind [bestK.eq_2]
   simp only[HO,Nat.reduceLT,↓reduceIte,Nat.reduceEqDiff,reduceCtorEq,Nat.reduceBEq,Qg,K,S.f.l5,bI i s,bI _ F,pf2,eL i 2 s,eL _ 2 F,q1,q2,q3,q4,d,aw];exact tn (m.left.length-(i+1)) [(0,.pointer (some ⟨B,0,none⟩)),(3,.int .i64 (i:Nat)),(20,.int .i64 (m.left.length:Nat)),(21,.int .i64 (i+1:Nat))] (JS s) fD ⟨i+1,rfl,s,by rw[eb];rfl,rfl⟩
  .have d : decide (((m.left[i].fits.length : Nat) : Int) < (((m.left[bestK m.left i]).fits.length : Nat) : Int)) = false := decide_eq_false NH
   have eb:bestK m.left (i+1)=bestK m.left i:=by grind [bestK.eq_2]
   simp only[HO,Nat.reduceLT,↓reduceIte,Nat.reduceEqDiff,reduceCtorEq,Nat.reduceBEq,Qg,K,S.f.l5,bI i s,bI _ F,pf2,eL i 2 s,eL _ 2 F,q1,q2,q3,q4,d,aw];exact tn (m.left.length-(i+1)) [(0,.pointer (some ⟨B,0,none⟩)),(3,.int .i64 (bestK m.left i:Nat)),(20,.int .i64 (m.left.length:Nat)),(21,.int .i64 (i+1:Nat))] (JS s) fD ⟨i+1,rfl,s,by rw[eb];rfl,rfl⟩
 have ad:m.left.length<=i:=vp hf;obtain rfl:i=m.left.length:=NH;clear ad hf hi db;have F:=(EY m.left m.left.length).1 ek
 have cN:AU n (Zh n es) m=if(m.left.getD (bestK m.left m.left.length) default).fits.length=0 then none else
   if(J6 n (Zh n es) m.on (m.left.getD (bestK m.left m.left.length) default)).length<2 then none else
   some ⟨tV m.on (J6 n (Zh n es) m.on (m.left.getD (bestK m.left m.left.length) default)),kY m.Jv ((m.left.getD (bestK m.left m.left.length) default).fits.headD 0) (J6 n (Zh n es) m.on (m.left.getD (bestK m.left m.left.length) default)),
    (m.left.eraseIdx (bestK m.left m.left.length)).map (GF (kY m.Jv ((m.left.getD (bestK m.left m.left.length) default).fits.headD 0) (J6 n (Zh n es) m.on (m.left.getD (bestK m.left m.left.length) default))) ((m.left.getD (bestK m.left m.left.length) default).fits.headD 0) m.Jv.length)++
    (vX n (tV m.on (J6 n (Zh n es) m.on (m.left.getD (bestK m.left m.left.length) default))) (V8 n (m.left.getD (bestK m.left m.left.length) default).zp (J6 n (Zh n es) m.on (m.left.getD (bestK m.left m.left.length) default)))).map fun q=>{q with fits:=zh (kY m.Jv ((m.left.getD (bestK m.left m.left.length) default).fits.headD 0) (J6 n (Zh n es) m.on (m.left.getD (bestK m.left m.left.length) default))) q.Fm ((m.left.getD (bestK m.left m.left.length) default).fits++[m.Jv.length])}⟩:=rfl
 rw[cN];clear cN;obtain⟨a,b,c,q1,q2,q3,q4,q5,q6⟩:=S.at_ F;have gq:=S.gL.Mx F q1 q2 q3;have gu:=bI _ F;have ag:m.left[bestK m.left m.left.length]∈m.left:=EP F;have gv:m.left.getD (bestK m.left m.left.length) default=m.left[bestK m.left m.left.length]:=D4 F;rw[gv];generalize gz:bestK m.left m.left.length=G at*;generalize hp:m.left[G]=p at*;obtain⟨h1,h2,e1,e2,l2,w2,oP,-⟩:=Od a8 q4.sl.one q5.one q6.one;obtain⟨S2,cz⟩:=(S.up l2).pV
 have jU:∀z,InS B O fv iv lv z->z≠V.next:=fun z hz e=>by
  have:=(S.own hz).2;rw[e]at this
  exact this ((Le.refl V).next a8 (Ny _))
 have gP:(Hg h2 B O fv iv lv).own V.next=some (.cells [a,b,c]):=by grind [Hg,Th,HX]
 generalize V.next=P at*
 have gA:=pB P 0 NH;have jZ:=pB P 1 NH;have dc:=pB P 2 NH;have lc:=fun g'=>q6.Uc g';rw[y6]at lc;simp only[HO,Nat.reduceLT,↓reduceIte,Nat.reduceEqDiff,reduceCtorEq,K,S.f.l5,gu,gq,e1,e2,dc,lP2 oP,lc];by_cases c0:p.fits.length=0
 .have d0 : decide (((p.fits.length : Nat) : Int) = 0) = true := decide_eq_true NH
  refine Sk (XC @lW d0) ?_
  grind [lx.le]
 have d0:decide (((p.fits.length:Nat):Int)=0)=false:=decide_eq_false NH;rw[if_neg c0];have en:p.fits.headD 0∈p.fits:=Lt fun e=>c0 (by rw[e];rfl);obtain⟨gC,wh,dd,cC,gE⟩:=I.Kg hR hA D ag en;rw[if_neg NH];have eo:=((I.Aa p ag).fits _).1 en;have de:aV n p.zp:=fun e he=>hR e ((I.Aa p ag).sub.subset he);have gJ:=I.Ca ag;have j0:=I.UO hR ag;have ep:=I.Xg ag;have gM:=I.fS hR ag;have er:=q4.le cz;have gR:=q5.le Nn.RP cz;have et:=q6.le Nn.RP cz;refine Sk (Yb @lW d0 (OU oP)) ?_;refine TC.intro PJ ⟨Tryz.func98,rfl,WY⟩ (way_any W0 B n bv _ fv iv lv a b c es m.on p h2 S2.f (S2.cB.le (Nn.RL Nn.RP) S2.le) S2.rlO S2.ZA (er.le S2.le) (gR.le Nn.RP S2.le) q6.one hR de gM NH NH NH NH) ?_;rintro wv h3 w3 ⟨gw,l3,aw3⟩;obtain⟨S3,bW⟩:=(S2.up l3).pV;have eu:GI (Hg h3 B O fv iv lv) wv (kz (J6 n (Zh n es) m.on p)):=Pv (h:=h3) S2 gw aw3;have ev:=bW.own _ _ gP;have j1:∀x∈J6 n (Zh n es) m.on p,x<n:=cC;obtain⟨gT,j2⟩:=I.face_lt eo.1;have j4:=zh;generalize ew:J6 n (Zh n es) m.on p=way at*;have lw:=fun g'=>gw.rl.Uc g';rw[y6]at lw;have dw:decide (((way.length:Nat):Int)<2)=false:=decide_eq_false NH;have gV:awrap .i64 ((G:Int)+1)=((G+1:Nat):Int):=Tw G NH;simp only[HO,Nat.reduceLT,↓reduceIte,Nat.reduceEqDiff,reduceCtorEq,lw,dw,K,S3.f.l5,gV];refine TC.intro PJ ⟨Tryz.func99,rfl,WY⟩ (F5 W0 S3.gL S3.cuL S3.c1 F NH) ?_;rintro w h4 w4 ⟨gd,hl,hn,hx,hC⟩;obtain⟨h5,e5,S5,w5⟩:=S3.delL w4 F gd hl hn hx hC;have ey:=S5.le;have hD:=ey.own _ _ ev;have hE:=(et.le Nn.RP bW).le Nn.RP ey;have eA:=q6.TA 0 (by rw[y6];omega);have eB:=hE.DH 0 (by rw[y6];omega);have t0:0<p.fits.length:=NH;rw[sY t0,<-Bw t0]at eB;simp only[Ex]at eA;generalize ka:p.fits.headD 0=f at*;generalize kb:(cs.take (G*3)++cs.drop ((G+1)*3))=hF at*;refine Sk (XC K e5) ?_;refine gh (tA [0,1,2,3,4,5,6,7,8,9,10] .done) ?_;refine CO (rE dc (lP2 hD) eA eB gl S5.f.l3 S5.LF) ?_;have hG:=Kz W0 S5 (f:=f) (way:=way) eo.1 eu gC wh dd gT cC NH NH NH NH;refine TC.intro PJ ⟨Tryz.func100,rfl,WY⟩ hG ?_;rintro x h6 w6 ⟨g6,A,C,b0,b1,S6,dj⟩;have kd:(m.left.eraseIdx G).length=m.left.length-1:=pw;have dk:∀q∈m.left.eraseIdx G,q∈m.left:=fun q V=>List.mem_of_mem_eraseIdx V;generalize kf:m.left.eraseIdx G=M at*;have eC:(kY m.Jv f way).length=m.Jv.length+1:=Yz;generalize kk:kY m.Jv f way=N at*;have kl:=sB B 0 NH;refine Sk (Yb K S6.f.l5 S6.lenL) ?_;refine gU.intro (fun k fr hz=>∃(i:Nat) (g7:AHeap) (b2:List Value) (L:List wW),k=M.length-i/\i<=M.length/\fr=mkF [(0,.pointer (some ⟨B,0,none⟩)),(5,.pointer (some ⟨P,0,none⟩)),(6,wv),(7,.int .i64 (f:Nat)),(8,.int .i64 (m.Jv.length:Nat)),(89,w),(90,.int .i64 (M.length:Nat)),(91,.int .i64 (i:Nat))]/\
   lx g7 hz B O n (Zh n es) bv A C w b0 b1 b2 m.on N N L/\Le g6 g7/\L=(M.take i).map (GF N f m.Jv.length)++M.drop i)
  M.length [(0,.pointer (some ⟨B,0,none⟩)),(5,.pointer (some ⟨P,0,none⟩)),(6,wv),(7,.int .i64 (f:Nat)),(8,.int .i64 (m.Jv.length:Nat)),(89,w),(90,.int .i64 (M.length:Nat)),(91,.int .i64 (0:Nat))] fD
  ⟨0,g6,hF,M,rfl,vZ _,rfl,S6,Le.refl _,Ma⟩ ?_
 rintro k fr hz dm ⟨i,g7,b2,L,rfl,hi,rfl,S7,bb,bh⟩;have eE:L.length=M.length:=by rw[bh,jf,im,dU,dJ];omega
 refine Uy ?_;refine Kl.intro (fun ht=>?_) (fun hf=>?_)
 .have s : i < M.length := CC ht
  clear ht;have bo:i<L.length:=NH;have dq:L[i]=M[i]:=by
   have h1:L[i]?=some M[i]:=by
    rw[bh,IE (by rw[im,dU];omega),im,dU,Nat.min_eq_left NH,Bn,DF,b7]
    grind
   grind
  obtain⟨a',Y,c',r1,r2,r3,r4,r5,r6⟩:=S7.at_ bo;have dr:=S7.gL.Mx bo r1 r2 r3;have b3:=S7.gL.ad3 bo;have hI:=eA3 (r:=2) S7.gL bo;have eF:aField Tryz.prog 125 (.pointer (some (elemAddr w (i*3)))) 2=some (.pointer (some (elemAddr w (i*3+2)))):=by rw[pf2,hI]
  rw[dq]at r4 r5 r6;have cE:=dk _ (EP s);have cU:=I.fS hR cE;have c3:=I.UO hR cE;have aW:=I.Xg cE;have hJ:=(I.Aa _ cE).fits;generalize eG:M[i]=q at*;obtain⟨h8,h9,e8,e9,l9,w9,oQ,l8⟩:=Od dm r4.sl.one r5.one r6.one;have Z:=S7.up l9;have aw:=Tw i NH
  have dQ:∀z,InS B O A C w z->z≠hz.next:=fun z J e=>by
   have:=(S7.own J).2;rw[e]at this
   exact this ((Le.refl hz).next dm (Ny _))
  generalize hz.next=Q at*
  have aD:=pB Q 1 NH;have aj:=pB Q 2 NH;have aH:M.take (i+1)=M.take i++[q]:=by rw[EL s,eG]
  have eI:M.drop i=q::M.drop (i+1):=by rw[EH s,eG]
  have aX:∀q':wW,L.set i q'=(M.take i).map (GF N f m.Jv.length)++q'::M.drop (i+1):=fun q'=>by rw[bh];exact Vr s eI
  refine Sk (bG b3 dr e8 e9 aj (lP2 oQ)) ?_;refine TC.intro PJ ⟨Tryz.func101,rfl,WY⟩ (W3 W0 c' (kz q.fits) ((f:Nat):Int) h9 (r6.le Nn.RP Z.le) (by rw[y6];omega)) ?_;rintro y br hK ⟨rfl,rfl⟩;by_cases cm:f∈q.fits
  rotate_left
  .have d:decide (((f:Nat):Int)∈kz q.fits)=false:=decide_eq_false fun hm=>cm (by
    obtain⟨z,J,e⟩:=Eh.1 hm;have:z=f:=NH
    grind)
   simp only[HO,Nat.reduceLT,↓reduceIte,Nat.reduceEqDiff,reduceCtorEq,d,aw];refine tn (M.length-(i+1)) [(0,.pointer (some ⟨B,0,none⟩)),(5,.pointer (some ⟨P,0,none⟩)),(6,wv),(7,.int .i64 (f:Nat)),(8,.int .i64 (m.Jv.length:Nat)),(89,w),(90,.int .i64 (M.length:Nat)),(91,.int .i64 (i+1:Nat))] (JS s) fD
    ⟨i+1,g7,b2,L,rfl,s,rfl,Z,bb,?_⟩
   rw[bh,aH,eI,Yi,Bx];have:GF N f m.Jv.length q=q:=by unfold GF;grind
   simp[this]
  have d:decide (((f:Nat):Int)∈kz q.fits)=true:=decide_eq_true (Eh.2 ⟨f,cm,rfl⟩);refine Sk d ?_;have T:∀h',Le br h'->aload Tryz.prog h' 75 ⟨B,5,none⟩=some w/\aload Tryz.prog h' 49 ⟨Q,1,none⟩=some Y/\aload Tryz.prog h' 49 ⟨Q,2,none⟩=some c':=fun h' l=>⟨(Z.f.le l).l5,lP1 (l.own _ _ oQ),lP2 (l.own _ _ oQ)⟩;obtain⟨dx,dz,dA⟩:=T br (Le.refl _);have a1:∀z∈q.fits++[m.Jv.length],z<N.length:=fun z J=>by
   rw[eC];rcases Sb.1 J with h|h
   .have:=((hJ z).1 h).1;omega
   .have:=j9.1 h;omega
  have a6:kz q.fits++[((m.Jv.length:Nat):Int)]=kz (q.fits++[m.Jv.length]):=by simp[kz]
  obtain⟨ha,ea,la,wa,oa⟩:=Tt hK [.int .i64 ((m.Jv.length:Nat):Int)];obtain⟨hL,hM,hN⟩:=T ha la;refine gh (tA [0,1,2,3,4,5,6,7,8,9,11] (.ch 10 [9] (JQ 12 [11] (JQ 13 [10,12] (JQ 14 [5,7,13] (tA [15,16] (JQ 17 [0,1,2,3,4,5,6,7,8,9,10,11,12,13,14,16] .done))))) (JQ 12 [11] (JQ 10 [9] (JQ 13 [10,12] (JQ 14 [5,7,13] (tA [15,16] (JQ 17 [0,1,2,3,4,5,6,7,8,9,10,11,12,13,14,16] .done)))))))) ?_;simp only[HO,Nat.reduceLT,↓reduceIte,Nat.reduceEqDiff,reduceCtorEq,Nat.reduceBEq,Qg,K,dx,hL,aD,aj,dz,hM,dA,hN,DQ,ea];refine⟨?_,?_⟩
  .refine VA.intro PJ ⟨TX, rfl, WY⟩ (QY W0 c' (kz q.fits) br (r6.le Nn.RP Z.le) (by rw [y6]; exact Xi aW a7 R)) ?_
   rintro y sZ wb ⟨gb,lb,ab⟩;obtain⟨b4,b6,b8⟩:=T sZ lb;obtain⟨av,hP,hc,eM,ec,aJ,wc,hQ,dB,hS⟩:=gb.push wb ((m.Jv.length:Nat):Int) (by rw[y6];grind);obtain⟨E,hT⟩:=dB br lb ab;rw[a6]at aJ;obtain⟨eO,eS,eT⟩:=T hP (lb.trans hQ);obtain⟨b9,cc,cd⟩:=T hc E;simp only[DQ]at eM;simp only[HO,Nat.reduceLT,↓reduceIte,Nat.reduceEqDiff,reduceCtorEq,Nat.reduceBEq,Qg,K,dx,b4,eO,b9,aD,aj,dz,b6,eS,cc,dA,b8,eT,cd,DQ,eM,ec];obtain⟨hU,hV,hW⟩:=T hc E;refine VA.intro PJ ⟨Md,rfl,WY⟩ (NR W0 B n bv _ A C w Y av N q.Fm (q.fits++[m.Jv.length]) hc (Z.f.le E) (Z.rlI.le (Nn.RL Nn.sJ) E) ((r5.le Nn.RP Z.le).le Nn.RP E) aJ.rl cU a1 (sr c3 aT) (by rw[jf,V3];exact ig aW a7 R)) ?_;rintro y hd wd ⟨gy,dE,ay⟩;have cf:=E.trans dE;obtain⟨dF,dI,dL⟩:=T hd cf;obtain⟨Sd,dM⟩:=(Z.up cf).pV;have dS:GI (Hg hd B O A C w) y (kz (zh N q.Fm (q.fits++[m.Jv.length]))):=Pv (h:=hd) Z gy (fun b hb=>E.none (ay b hb));obtain⟨he,ee,Se,we⟩:=Sd.setT wd bo dS.rl;rw[dq]at Se;simp only[HO,Nat.reduceLT,↓reduceIte,Nat.reduceEqDiff,reduceCtorEq,Nat.reduceBEq,Qg,K,aD,aj,dF,dI,dL,b3,eF,ee,aw];refine tn (M.length-(i+1)) [(0,.pointer (some ⟨B,0,none⟩)),(5,.pointer (some ⟨P,0,none⟩)),(6,wv),(7,.int .i64 (f:Nat)),(8,.int .i64 (m.Jv.length:Nat)),(89,w),(90,.int .i64 (M.length:Nat)),(91,.int .i64 (i+1:Nat))] (JS s) fD
    ⟨i+1,_,_,_,rfl,s,rfl,Se,bb.trans dM,?_⟩
   rw[aX,aH,Yi,Bx];have:GF N f m.Jv.length q={q with fits:=zh N q.Fm (q.fits++[m.Jv.length])}:=by unfold GF;grind
   simp[this]
  .refine VA.intro PJ ⟨TX, rfl, WY⟩ (QY W0 c' (kz q.fits) ha ((r6.le Nn.RP Z.le).le Nn.RP la) (by rw [y6]; exact Xi aW a7 R)) ?_
   rintro y sZ wb ⟨gb,lb,ab⟩;obtain⟨b4,b6,b8⟩:=T sZ (la.trans lb)
   have ro:RL RP sZ (.slice (some ⟨br.next,0,none⟩) 1 1) [((m.Jv.length:Nat):Int)]:=RL.Wh (RS.whole (lb.own _ _ oa) rfl)
   obtain⟨av,hc,ec,aJ,wc,dB,hS⟩:=GI.join gb wb ro (by rw[y6,V3];grind);obtain⟨hX,hT⟩:=dB ha lb ab;have E:=la.trans hX;rw[a6]at aJ;obtain⟨b9,cc,cd⟩:=T hc E;refine CO (Da K dx b4 b9 aD aj dz b6 cc dA b8 cd @DQ ec) ?_;obtain⟨hU,hV,hW⟩:=T hc E;refine VA.intro PJ ⟨Md,rfl,WY⟩ (NR W0 B n bv _ A C w Y av N q.Fm (q.fits++[m.Jv.length]) hc (Z.f.le E) (Z.rlI.le (Nn.RL Nn.sJ) E) ((r5.le Nn.RP Z.le).le Nn.RP E) aJ.rl cU a1 (sr c3 aT) (by rw[jf,V3];exact ig aW a7 R)) ?_;rintro y hd wd ⟨gy,dE,ay⟩;have cf:=E.trans dE;obtain⟨dF,dI,dL⟩:=T hd cf;obtain⟨Sd,dM⟩:=(Z.up cf).pV;have dS:GI (Hg hd B O A C w) y (kz (zh N q.Fm (q.fits++[m.Jv.length]))):=Pv (h:=hd) Z gy (fun b hb=>E.none (ay b hb));obtain⟨he,ee,Se,we⟩:=Sd.setT wd bo dS.rl;rw[dq]at Se;simp only[HO,Nat.reduceLT,↓reduceIte,Nat.reduceEqDiff,reduceCtorEq,Nat.reduceBEq,Qg,K,aD,aj,dF,dI,dL,b3,eF,ee,aw];refine tn (M.length-(i+1)) [(0,.pointer (some ⟨B,0,none⟩)),(5,.pointer (some ⟨P,0,none⟩)),(6,wv),(7,.int .i64 (f:Nat)),(8,.int .i64 (m.Jv.length:Nat)),(89,w),(90,.int .i64 (M.length:Nat)),(91,.int .i64 (i+1:Nat))] (JS s) fD
    ⟨i+1,_,_,_,rfl,s,rfl,Se,bb.trans dM,?_⟩
   rw[aX,aH,Yi,Bx];have:GF N f m.Jv.length q={q with fits:=zh N q.Fm (q.fits++[m.Jv.length])}:=by unfold GF;grind
   simp[this]
 have ad:M.length<=i:=vp hf;obtain rfl:i=M.length:=NH;rw[AE (Ny _),qL193 (Ny _),JR]at bh;clear ad hf hi;have eU:=bb.own _ _ (dj.own _ _ ev);have dT:=eu.le (dj.trans bb);have eV:=fun g'=>dT.rl.Uc g';rw[y6]at eV;refine Sk eV ?_;refine gU.intro (fun k fr hy=>∃(i:Nat),k=way.length-i/\i<=way.length/\fr=mkF [(0,.pointer (some ⟨B,0,none⟩)),(5,.pointer (some ⟨P,0,none⟩)),(6,wv),(8,.int .i64 (m.Jv.length:Nat)),(118,wv),(119,.int .i64 (way.length:Nat)),(120,.int .i64 (i:Nat))]/\
   lx g7 hy B O n (Zh n es) bv A C w b0 b1 b2 (tV m.on (way.take i)) N N L)
  way.length [(0,.pointer (some ⟨B,0,none⟩)),(5,.pointer (some ⟨P,0,none⟩)),(6,wv),(8,.int .i64 (m.Jv.length:Nat)),(118,wv),(119,.int .i64 (way.length:Nat)),(120,.int .i64 (0:Nat))] fD
  ⟨0,rfl,vZ _,rfl,S7⟩ ?_
 clear S7 dm;clear hz;rintro k fr hy ew ⟨i,rfl,hi,rfl,S8⟩;refine Uy ?_;refine Kl.intro (fun ht=>?_) (fun hf=>?_)
 .have s : i < way.length := CC ht
  clear ht;have gy:=dT.le S8.le;have hY:=gy.rl.TA i (by rw[y6];exact s);have eW:=gy.rl.DH i (by rw[y6];exact s);rw[sY s]at eW;have hv:=cC way[i] (EP s);have aH:way.take (i+1)=way.take i++[way[i]]:=EL s;generalize way[i]=v at*;have hZ:aIndexAddr Tryz.prog 59 (.slice (some ⟨O,0,none⟩) n n) (.int .i64 (v:Int))=some (.pointer (some ⟨O,v,none⟩)):=by rw[Wc eY AV Ji v hv];simp[Ip]
  obtain⟨h9,e9,Z,w9⟩:=S8.setO ew hv;have h0:(tV m.on (way.take i)).set v true=tV m.on (way.take (i+1)):=by rw[aH];unfold tV;rw[aaP];rfl
  rw[h0]at Z;have aw:=Tw i (Lb s (le_4 gE aT));simp only[HO,Nat.reduceLT,↓reduceIte,Nat.reduceEqDiff,reduceCtorEq,hY,eW,gn,S8.f.l2,hZ,e9,aw];exact tn (way.length-(i+1)) [(0,.pointer (some ⟨B,0,none⟩)),(5,.pointer (some ⟨P,0,none⟩)),(6,wv),(8,.int .i64 (m.Jv.length:Nat)),(118,wv),(119,.int .i64 (way.length:Nat)),(120,.int .i64 (i+1:Nat))] (JS s) fD ⟨i+1,rfl,s,rfl,Z⟩
 have ad:way.length<=i:=vp hf;rw[AE ad]at S8;clear ad hf hi;have h7:=S8.le.own _ _ eU;have cg:=dj.trans bb;have r6:=((et.le Nn.RP bW).le Nn.RP cg);have r4:=((er.le bW).le cg);refine Sk (XC dc (lP2 h7)) ?_;refine TC.intro PJ ⟨TX,rfl,WY⟩ (QY W0 c (kz p.fits) hy (r6.le Nn.RP S8.le) (by rw[y6];exact Xi ep a7 R)) ?_;rintro y h9 w9 ⟨g9,l9,a9⟩;obtain⟨av,br,dV,eZ,ic,e0,kp,kq,e3,jO⟩:=g9.push w9 ((m.Jv.length:Nat):Int) (by grind [y6]);obtain⟨e4,ih⟩:=e3 hy l9 a9;have a6:kz p.fits++[((m.Jv.length:Nat):Int)]=kz (p.fits++[m.Jv.length]):=by simp[kz]
 rw[a6]at e0;obtain⟨bx,al⟩:=(S8.up e4).pV;have aJ:GI (Hg dV B O A C w) av (kz (p.fits++[m.Jv.length])):=Pv (h:=dV) S8 e0 ih;have e6:=al.own _ _ eU;have e7:=bx.le.own _ _ e6;have ij:=dT.le al;simp only[DQ]at eZ;refine Sk (IX @DQ eZ ic gA (lP0 e7)) ?_;refine TC.intro PJ ⟨Tryz.func103,rfl,WY⟩ (Bs W0 B n bv _ A C w a wv p.zp way dV bx.f ((r4.le al).le bx.le) (ij.le bx.le).rl de cC NH NH NH) ?_;rintro y2 il kr ⟨ix,iD,kt⟩;obtain⟨aq,ck⟩:=(bx.up iD).pV;have cp:(V8 n p.zp way).Sublist p.zp:=ZT;have ed:aV n (V8 n p.zp way):=fun e he=>de e (cp.subset he);have ef:(V8 n p.zp way).length<=594:=Tn cp.length_le (Tn gJ R);generalize ku:V8 n p.zp way=wo at*;refine Uy ?_;refine TC.intro PJ ⟨Tryz.func102,rfl,WY⟩ (Xr W0 B n bv _ A C w y2 (tV m.on way) wo il aq.f aq.rlO aq.ZA ix.pr ed NH NH) ?_;rintro x X iF ⟨vs,OP⟩;obtain⟨fb,cq⟩:=(aq.up OP.sep.le).pV;have eg:vX n (tV m.on way) wo=(qT (Wg (tV m.on way)) (grpsM (kJ n (Wg (tV m.on way)) wo) wo [] wo.length)).map fun q=>⟨q.1,q.2,[]⟩:=by
  unfold vX qT;rw[Q4];rfl
 have cM:∀q∈qT (Wg (tV m.on way)) (grpsM (kJ n (Wg (tV m.on way)) wo) wo [] wo.length),(∀z∈q.2,∃v:Nat,z=(v:Int)/\v<n)/\q.2.length<=n:=fun q V=>by
  obtain⟨gr,iK,rfl⟩:=Eh.1 V;obtain⟨-,-,-,-,fc⟩:=Pt (kJ n (Wg (tV m.on way)) wo) wo [] wo.length;have c4:=fc gr iK;refine⟨fun z J=>?_,Qr ed c4⟩;obtain⟨_,e,he,h⟩:=zS.1 (((VW _).2 z).1 J);obtain⟨u,v,rfl,kv,kQ⟩:=jB ed (c4 e he);simp only at h;rcases h with rfl|rfl
  .grind
  grind
 have fe:(qT (Wg (tV m.on way)) (grpsM (kJ n (Wg (tV m.on way)) wo) wo [] wo.length)).length<=wo.length:=by
  unfold qT;rw[im];exact(Pt _ _ _ _).2.2.2.1
 rw[eg];generalize qT (Wg (tV m.on way)) (grpsM (kJ n (Wg (tV m.on way)) wo) wo [] wo.length)=ps at*;have iL:=OP.len_;have gx:GS 3 (Hg X B O A C w) x ps.length (cellsO vs ps.length):=Pv (h:=X) aq OP.sl (OP.sep.ap 0 x rfl);have iM:∀(j:Nat) q,ps[j]?=some q->GP (Hg X B O A C w) (vs.getD (2*j) rW) q.1/\GI (Hg X B O A C w) (vs.getD (2*j+1) rW) q.2:=fun j q V=>by
  obtain⟨k1,k2⟩:=OP.ge j q V;have hj:=(vT.1 V).1;have kT:=OP.len;exact⟨Pv (h:=X) aq k1 (OP.sep.ap _ _ (u6 OP NH)),Pv (h:=X) aq k2 (OP.sep.ap _ _ (u6 OP NH))⟩
 have eh:=aJ.le (ck.trans cq);have iT:Le g (Hg X B O A C w):=cz.trans (bW.trans (cg.trans (al.trans (ck.trans cq))));have a1:∀z∈p.fits++[m.Jv.length],z<N.length:=fun z J=>by
  rw[eC];rcases Sb.1 J with h|h
  .have:=(((I.Aa p ag).fits z).1 h).1;omega
  .have:=j9.1 h;omega
 have eE:L.length<=594:=pw;clear OP cq aq ck bx al S8;generalize Hg X B O A C w=fg at*;refine Sk iL ?_;refine gU.intro (fun k fr V=>∃(i:Nat) (bB:AHeap) (ar:List Value) (U:Value),k=ps.length-i/\i<=ps.length/\fr=mkF [(0,.pointer (some ⟨B,0,none⟩)),(13,av),(143,x),(144,.int .i64 (ps.length:Nat)),(145,.int .i64 (i:Nat))]/\
   lx bB V B O n (Zh n es) bv A C U b0 b1 ar (tV m.on way) N N (L++(ps.take i).map fun q=>⟨q.1,q.2,zh N q.2 (p.fits++[m.Jv.length])⟩)/\Le fg bB)
  ps.length [(0,.pointer (some ⟨B,0,none⟩)),(13,av),(143,x),(144,.int .i64 (ps.length:Nat)),(145,.int .i64 (0:Nat))] fD
  ⟨0,fg,b2,w,rfl,vZ _,rfl,by simpa using fb,Le.refl _⟩ ?_
 clear fb iF;clear X;rintro k fr V a8 ⟨i,bB,ar,U,rfl,hi,rfl,aK,W⟩;refine Uy ?_;refine Kl.intro (fun ht=>?_) (fun hf=>?_)
 .have s : i < ps.length := CC ht
  clear ht;have iW:=BS s;obtain⟨ge,gf⟩:=iM i _ iW;obtain⟨fh,fm⟩:=cM _ (EP s);have aH:ps.take (i+1)=ps.take i++[ps[i]]:=EL s;generalize ps[i]=q at*;have fp:=gx.le (W.trans aK.le);obtain⟨z1,z2,z3⟩:=aY vs ps.length s;have dr:=fp.Mx s z1 z2 z3;have b3:=fp.ad3 s;have c5:=ge.le W;have cr:=gf.le W;generalize vs.getD (2*i) rW=a' at*;generalize vs.getD (2*i+1) rW=Y at*;obtain⟨kU,iX,iY,ja,jb,kW,oQ,kX⟩:=Od a8 (a:=a') (b:=Y) (c:=rW) c5.pr.sl.one cr.rl.one rfl;have bF:=aK.up jb
  have dQ:∀z,InS B O A C U z->z≠V.next:=fun z J e=>by
   have:=(aK.own J).2;rw[e]at this
   exact this ((Le.refl V).next a8 (Ny _))
  have fq:bB.own V.next=none:=aK.le.next a8 (Ny _)
  generalize V.next=Q at*
  have aD:=pB Q 1 NH;have aj:=pB Q 2 NH;have aw:=Tw i (Lb s (QJ NH));refine Sk (bG b3 dr iY ja aD (lP1 oQ)) ?_;refine TC.intro PJ ⟨Md,rfl,WY⟩ (NR W0 B n bv _ A C U Y av N q.2 (p.fits++[m.Jv.length]) iX bF.f bF.rlI ((cr.le bF.le).rl) (((eh.le W).le bF.le).rl) fh a1 (sr fm aT) (by rw[jf,V3];exact ig ep a7 R)) ?_;rintro y aP fs ⟨ei,ft,fx⟩;have c9:=ft.own _ _ oQ;have st:=QB (P:=Tryz.prog) (t:=49) (x:=y) Mb Ji c9 (off:=2) Ma ei.rl.sl.cell ei.rl.one;have aX:([a',Y,rW]:List Value).set 2 y=[a',Y,y]:=rfl;rw[aX]at st;have da:(aP.put Q (.cells [a',Y,y])).own Q=some (.cells [a',Y,y]):=AHeap.Y3 _ _ _;have jg:WF (aP.put Q (.cells [a',Y,y])):=fs.put _ (fs.lt c9);have ji:blk y≠some Q:=fun e=>by have:=fx Q e;grind
  have jj:=GS.put ei (fK.cells [a',Y,y]) ji;have fF:∀z o,z≠Q->aP.own z=some o->(aP.put Q (.cells [a',Y,y])).own z=some o:=fun z o J ho=>by rw[AHeap.By _ _ _ _ J];exact ho
  have fL:=bF.up ft;have jk:lx bB (aP.put Q (.cells [a',Y,y])) B O n (Zh n es) bv A C U b0 b1 ar (tV m.on way) N N (L++(ps.take i).map fun q=>⟨q.1,q.2,zh N q.2 (p.fits++[m.Jv.length])⟩):=
   fL.other (fL.le.put _ fq) fun z o J ho=>fF z o (dQ z J) ho
  obtain⟨ej,cx⟩:=jk.pV;have gy:GI (Hg (aP.put Q (.cells [a',Y,y])) B O A C U) y (kz (zh N q.2 (p.fits++[m.Jv.length]))):=Pv (h:=aP.put Q (.cells [a',Y,y])) bF jj fx;obtain⟨fN,k3,k4,k5,jq,jr,jv,jx,k6,fP,jC,-⟩:=ej.pushL jg (a:=a') (b:=Y) (c:=y) (p:=⟨q.1,q.2,zh N q.2 (p.fits++[m.Jv.length])⟩) ((c5.le cx).pr) ((cr.le cx).rl) gy.rl (app_b eE (Tn fe ef) i);have jE:=OU da;have fU:=OU (fP.own _ _ da);have jK:=ej.f.le fP;simp only[HO,Nat.reduceLT,↓reduceIte,Nat.reduceEqDiff,reduceCtorEq,aj,st];refine gh (tA [0,1,2,3,4,5] (JQ 6 [5] (JQ 7 [4,6] (tA [8,9] (JQ 10 [0,1,2,3,4,5,6,7,9] .done))))) ?_;simp only[HO,Nat.reduceLT,↓reduceIte,Nat.reduceEqDiff,reduceCtorEq,Nat.reduceBEq,Qg,K,ej.f.l5,jK.l5,jC.l5,jE,fU,jq,jr,jv,aw];refine tn (ps.length-(i+1)) [(0,.pointer (some ⟨B,0,none⟩)),(13,av),(143,x),(144,.int .i64 (ps.length:Nat)),(145,.int .i64 (i+1:Nat))] (JS s) fD
   ⟨i+1,_,ar++[a',Y,y],fN,rfl,s,rfl,?_,W.trans cx⟩
  rw[aH,Yi,<-Bx];exact jx
 have ad:ps.length<=i:=vp hf;rw[AE ad]at aK;refine Uy ?_;refine⟨bB,iT.trans W,aK.le,.inr ⟨_,A,C,U,b0,b1,ar,rfl,trivial,?_⟩⟩;simp only;rw[<-bh,Q4];exact aK
end
end Go.Fw
