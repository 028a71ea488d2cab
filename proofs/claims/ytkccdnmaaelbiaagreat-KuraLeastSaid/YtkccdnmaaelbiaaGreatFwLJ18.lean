/- A text. -/
import Derived.Test.YtkccdnmaaelbiaaGreatFwLJ13
set_option linter.all false
set_option maxRecDepth 99999
set_option maxHeartbeats 9999999
namespace Go.Fw
section
attribute [local instance] Classical.propDecidable
attribute [local irreducible] Kp MQ lU rS KO KN KX KE VK Kl ZJ TC aaa
open Go.Proofs
variable {B O a b c i n:Nat} {bv fv iv lv:Value} {cs us ws:List Value} {es:List Pr} {g h h':AHeap} {left:List wW} {rows:AM}
theorem Jd (hi:i<left.length):LF left i=left[i].fits.length:=by grind [LF]
theorem Vr {a:List wW} {φ:wW->wW} {q c:wW} (hi:i<a.length) (b:a.drop i=q::a.drop (i+1)):((a.take i).map φ++a.drop i).set i c=(a.take i).map φ++c::a.drop (i+1):=by
 have d:((a.take i).map φ).length=i:=pw;rw[b,Gg _ _ NH,d,uu];rfl
def Xi (h:a<=b) (h2:b<=c+2) (h3:c<=594):a<=100000:=NH
def ig (h:a<=b) (h2:b<=c+2) (h3:c<=594):a+1<=100000:=NH
def sr (h:a<=n) (h2:(n:Int)<=200):a<=100000:=NH
theorem app_b {α β:Type} {L:List β} {ps:List α} {φ:α->β} (h:L.length<=594) (h2:ps.length<=594) (i:Nat):(L++(ps.take i).map φ).length<=100000:=pw
def le_4 (h:a<=n) (h2:(n:Int)<=200):a<=40000:=NH
def lx.other {on:List Bool} {d e:Cs} (S:lx g h B O n rows bv fv iv lv us ws cs on d e left) (l:Le g h')
  (c:∀z o,InS B O fv iv lv z->h.own z=some o->h'.own z=some o):lx g h' B O n rows bv fv iv lv us ws cs on d e left:=
 {S with
  f:=⟨c _ _ (.inl rfl) S.f.o⟩
  oO:=c _ _ (.inr (.inl rfl)) S.oO
  gF:=GS.kept S.gF fun b o hb a=>c b o (.inr (.inr ⟨fv,Ma,hb⟩)) a
  gI:=GS.kept S.gI fun b o hb a=>c b o (.inr (.inr ⟨iv,Ma,hb⟩)) a
  gL:=GS.kept S.gL fun b o hb a=>c b o (.inr (.inr ⟨lv,Ma,hb⟩)) a
  sep:=⟨S.sep.TE,fun i u b j hb=>by
   obtain⟨o,a⟩:=Tn.1 (S.sep.own i u b j hb);rw[c b o (.inr (.inr ⟨u,Gc j,hb⟩)) a];simp,S.sep.ap,l⟩}
theorem lay_any (W0:LA) {H:Nat->Nat->Prop} {m:kR} (S:lx g h B O n (Zh n es) bv fv iv lv us ws cs m.on m.Jv m.Jv m.left)
  (hr:bX ⟨(n:Int),es⟩) (D:QG (eN n es)) (I:Z8 n es H m) (fg:m.left≠[]):
  AC Tryz.prog W0 53 [.pointer (some ⟨B,0,none⟩)] h fun x h'=>∃g',Le g g'/\Le g' h'/\((AU n (Zh n es) m=none/\x=.bool false)\/∃br fh fi fm fp fq fs,AU n (Zh n es) m=some br/\x=.bool true/\lx g' h' B O n (Zh n es) bv fh fi fm fp fq fs br.on br.Jv br.Jv br.left):=by
 have hR:=hr.GD;have hA:=hr.q9;have aK:(n:Int)<=200:=hr.n1;have R:es.length<=594:=hr.len;have iI:=I.Vw;have a6:=I.My;have dI:0<m.left.length:=zO.2 fg;refine AC.vE ⟨Tryz.func53,rfl,WY⟩ Tryz.ntmps53 Tryz.results53 fun iK=>?_;simp only[Br,Nat.reduceAdd];have K:=sB B 5 NH;have ft:=sB B 3 NH;have fx:=sB B 2 NH;have bx:=fun k hk=>S.gL.ad3 (k:=k) hk;have eL:=fun k r (hk:k<m.left.length)=>eA3 (k:=k) (r:=r) S.gL hk;have cN:∀k (hk:k<m.left.length),∃c,aload Tryz.prog h 49 (elemAddr lv (k*3+2))=some c/\∀g',aLen Tryz.prog g' 49 c=some (.int .i64 (m.left[k].fits.length:Nat)):=fun k hk=>by
  obtain⟨a,b,c,q1,q2,q3,q4,q5,q6⟩:=S.at_ hk;refine⟨c,by rw[Bj Ac rfl];exact S.gL.cs.get _ _ q3,fun g'=>?_⟩;have:=q6.Uc g';rwa[y6]at this
 refine Sk (Yb K S.f.l5 S.lenL) ?_;refine aaa.intro (fun k fr V=>∃i:Nat,k=m.left.length-i/\i<=m.left.length/\fr=mkF [(0,.pointer (some ⟨B,0,none⟩)),(3,.int .i64 (bestK m.left i:Nat)),(20,.int .i64 (m.left.length:Nat)),(21,.int .i64 (i:Nat))]/\V=h)
  m.left.length [(0,.pointer (some ⟨B,0,none⟩)),(3,.int .i64 (0:Nat)),(20,.int .i64 (m.left.length:Nat)),(21,.int .i64 (0:Nat))] fD ⟨0,rfl,AE _,rfl,rfl⟩ ?_
 rintro k fr V a7 ⟨i,rfl,hi,rfl,rfl⟩;refine Uy ?_;refine Kl.intro (fun ht=>?_) (fun hf=>?_)
 .have s : i < m.left.length := CC ht
  clear ht;have F:bestK m.left i<m.left.length:=by
   have:=(EY m.left i).1;rcases Nat.eq_zero_or_pos i with rfl|h
   .exact dI
   grind
  obtain⟨c1,q1,q2⟩:=cN i s;obtain⟨c2,q3,q4⟩:=cN _ F;have aw:=Tw i NH;have e1:=Jd s;have e2:=Jd F;refine Uy ?_;refine gh (tA [0,1,2,3,4,5,6,7,8,9,10,11,12,13,14,15,16,17,18] .done) ?_;by_cases c:m.left[i].fits.length<(m.left[bestK m.left i]).fits.length
  .have d : decide (((m.left[i].fits.length : Nat) : Int) < (((m.left[bestK m.left i]).fits.length : Nat) : Int)) = true := decide_eq_true NH
   have eb:bestK m.left (i+1)=i:=by grind [bestK.eq_2]
   simp only[HO,Nat.reduceLT,↓reduceIte,Nat.reduceEqDiff,reduceCtorEq,Nat.reduceBEq,Qg,K,S.f.l5,bx i s,bx _ F,pf2,eL i 2 s,eL _ 2 F,q1,q2,q3,q4,d,aw];exact tn (m.left.length-(i+1)) [(0,.pointer (some ⟨B,0,none⟩)),(3,.int .i64 (i:Nat)),(20,.int .i64 (m.left.length:Nat)),(21,.int .i64 (i+1:Nat))] (JS s) fD ⟨i+1,rfl,s,by rw[eb];rfl,rfl⟩
  .have d : decide (((m.left[i].fits.length : Nat) : Int) < (((m.left[bestK m.left i]).fits.length : Nat) : Int)) = false := decide_eq_false NH
   have eb:bestK m.left (i+1)=bestK m.left i:=by grind [bestK.eq_2]
   simp only[HO,Nat.reduceLT,↓reduceIte,Nat.reduceEqDiff,reduceCtorEq,Nat.reduceBEq,Qg,K,S.f.l5,bx i s,bx _ F,pf2,eL i 2 s,eL _ 2 F,q1,q2,q3,q4,d,aw];exact tn (m.left.length-(i+1)) [(0,.pointer (some ⟨B,0,none⟩)),(3,.int .i64 (bestK m.left i:Nat)),(20,.int .i64 (m.left.length:Nat)),(21,.int .i64 (i+1:Nat))] (JS s) fD ⟨i+1,rfl,s,by rw[eb];rfl,rfl⟩
 have ae:m.left.length<=i:=vp hf;obtain rfl:i=m.left.length:=NH;clear ae hf hi cN;have F:=(EY m.left m.left.length).1 dI
 have cp:AU n (Zh n es) m=if(m.left.getD (bestK m.left m.left.length) default).fits.length=0 then none else
   if(J6 n (Zh n es) m.on (m.left.getD (bestK m.left m.left.length) default)).length<2 then none else
   some ⟨tV m.on (J6 n (Zh n es) m.on (m.left.getD (bestK m.left m.left.length) default)),kY m.Jv ((m.left.getD (bestK m.left m.left.length) default).fits.headD 0) (J6 n (Zh n es) m.on (m.left.getD (bestK m.left m.left.length) default)),
    (m.left.eraseIdx (bestK m.left m.left.length)).map (GF (kY m.Jv ((m.left.getD (bestK m.left m.left.length) default).fits.headD 0) (J6 n (Zh n es) m.on (m.left.getD (bestK m.left m.left.length) default))) ((m.left.getD (bestK m.left m.left.length) default).fits.headD 0) m.Jv.length)++
    (vX n (tV m.on (J6 n (Zh n es) m.on (m.left.getD (bestK m.left m.left.length) default))) (V8 n (m.left.getD (bestK m.left m.left.length) default).zp (J6 n (Zh n es) m.on (m.left.getD (bestK m.left m.left.length) default)))).map fun q=>{q with fits:=zh (kY m.Jv ((m.left.getD (bestK m.left m.left.length) default).fits.headD 0) (J6 n (Zh n es) m.on (m.left.getD (bestK m.left m.left.length) default))) q.Fm ((m.left.getD (bestK m.left m.left.length) default).fits++[m.Jv.length])}⟩:=rfl
 rw[cp];clear cp;obtain⟨a,b,c,q1,q2,q3,q4,q5,q6⟩:=S.at_ F;have fy:=S.gL.Mx F q1 q2 q3;have fC:=bx _ F;have ag:m.left[bestK m.left m.left.length]∈m.left:=Gw F;have fF:m.left.getD (bestK m.left m.left.length) default=m.left[bestK m.left m.left.length]:=D4 F;rw[fF];generalize fJ:bestK m.left m.left.length=G at*;generalize hp:m.left[G]=p at*;obtain⟨h1,h2,e1,e2,l2,w2,oP,-⟩:=Od a7 q4.sl.one q5.one q6.one;obtain⟨S2,cd⟩:=(S.up l2).pV
 have iL:∀z,InS B O fv iv lv z->z≠V.next:=fun z hz e=>by
  have:=(S.own hz).2;rw[e]at this
  exact this ((Le.refl V).next a7 (Ny _))
 have gP:(Hg h2 B O fv iv lv).own V.next=some (.cells [a,b,c]):=by grind [Hg,Th,HX]
 generalize V.next=P at*
 have fL:=pB P 0 NH;have iM:=pB P 1 NH;have cP:=pB P 2 NH;have lc:=fun g'=>q6.Uc g';rw[y6]at lc;simp only[HO,Nat.reduceLT,↓reduceIte,Nat.reduceEqDiff,reduceCtorEq,K,S.f.l5,fC,fy,e1,e2,cP,lP2 oP,lc];by_cases c0:p.fits.length=0
 .have d0 : decide (((p.fits.length : Nat) : Int) = 0) = true := decide_eq_true NH
  refine Sk (XC @lW d0) ?_
  grind [lx.le]
 have d0:decide (((p.fits.length:Nat):Int)=0)=false:=decide_eq_false NH;rw[if_neg c0];have dL:p.fits.headD 0∈p.fits:=Lt fun e=>c0 (by rw[e];rfl);obtain⟨fN,wh,cR,cf,fP⟩:=I.Kg hR hA D ag dL;rw[if_neg NH];have dM:=((I.Aa p ag).fits _).1 dL;have cU:aV n p.zp:=fun e he=>hR e ((I.Aa p ag).sub.subset he);have fU:=I.Ca ag;have iT:=I.UO hR ag;have dO:=I.Xg ag;have fV:=I.fS hR ag;have dS:=q4.le cd;have fY:=q5.le Nn.RP cd;have dT:=q6.le Nn.RP cd;refine Sk (Yb @lW d0 (OU oP)) ?_;refine TC.intro PJ ⟨Tryz.func98,rfl,WY⟩ (way_any W0 B n bv _ fv iv lv a b c es m.on p h2 S2.f (S2.cB.le (Nn.RL Nn.RP) S2.le) S2.rlO S2.ZA (dS.le S2.le) (fY.le Nn.RP S2.le) q6.one hR cU fV NH NH NH NH) ?_;rintro wv h3 w3 ⟨gw,l3,aw3⟩;obtain⟨S3,bB⟩:=(S2.up l3).pV;have dV:GI (Hg h3 B O fv iv lv) wv (kz (J6 n (Zh n es) m.on p)):=Pv (h:=h3) S2 gw aw3;have ed:=bB.own _ _ gP;have iU:∀x∈J6 n (Zh n es) m.on p,x<n:=cf;obtain⟨ga,iW⟩:=I.face_lt dM.1;have iX:=zh;generalize ef:J6 n (Zh n es) m.on p=way at*;have lw:=fun g'=>gw.rl.Uc g';rw[y6]at lw;have dw:decide (((way.length:Nat):Int)<2)=false:=decide_eq_false NH;have gg:awrap .i64 ((G:Int)+1)=((G+1:Nat):Int):=Tw G NH;simp only[HO,Nat.reduceLT,↓reduceIte,Nat.reduceEqDiff,reduceCtorEq,lw,dw,K,S3.f.l5,gg];refine TC.intro PJ ⟨Tryz.func99,rfl,WY⟩ (F5 W0 S3.gL S3.cuL S3.c1 F NH) ?_;rintro w h4 w4 ⟨gd,gi,gj,gk,gl⟩;obtain⟨h5,e5,S5,w5⟩:=S3.delL w4 F gd gi gj gk gl;have l5g:=S5.le;have gn:=l5g.own _ _ ed;have gq:=(dT.le Nn.RP bB).le Nn.RP l5g;have eg:=q6.TA 0 (by rw[y6];omega);have eh:=gq.DH 0 (by rw[y6];omega);have t0:0<p.fits.length:=NH;rw[sY t0,<-Bw t0]at eh;simp only[sL]at eg;generalize iY:p.fits.headD 0=f at*;generalize ja:(cs.take (G*3)++cs.drop ((G+1)*3))=gu at*;refine Sk (XC K e5) ?_;refine gh (tA [0,1,2,3,4,5,6,7,8,9,10] .done) ?_;refine CO (rE cP (lP2 gn) eg eh ft S5.f.l3 S5.LF) ?_;have gv:=Kz W0 S5 (f:=f) (way:=way) dM.1 dV fN wh cR ga cf NH NH NH NH;refine TC.intro PJ ⟨Tryz.func100,rfl,WY⟩ gv ?_;rintro x h6 w6 ⟨g6,A,C,bF,bH,S6,cZ⟩;have jb:(m.left.eraseIdx G).length=m.left.length-1:=pw;have c3:∀q∈m.left.eraseIdx G,q∈m.left:=fun q V=>List.mem_of_mem_eraseIdx V;generalize je:m.left.eraseIdx G=M at*;have ei:(kY m.Jv f way).length=m.Jv.length+1:=Yz;generalize jg:kY m.Jv f way=N at*;have ji:=sB B 0 NH;refine Sk (Yb K S6.f.l5 S6.lenL) ?_;refine aaa.intro (fun k fr hz=>∃(i:Nat) (g7:AHeap) (bI:List Value) (L:List wW),k=M.length-i/\i<=M.length/\fr=mkF [(0,.pointer (some ⟨B,0,none⟩)),(5,.pointer (some ⟨P,0,none⟩)),(6,wv),(7,.int .i64 (f:Nat)),(8,.int .i64 (m.Jv.length:Nat)),(89,w),(90,.int .i64 (M.length:Nat)),(91,.int .i64 (i:Nat))]/\
   lx g7 hz B O n (Zh n es) bv A C w bF bH bI m.on N N L/\Le g6 g7/\L=(M.take i).map (GF N f m.Jv.length)++M.drop i)
  M.length [(0,.pointer (some ⟨B,0,none⟩)),(5,.pointer (some ⟨P,0,none⟩)),(6,wv),(7,.int .i64 (f:Nat)),(8,.int .i64 (m.Jv.length:Nat)),(89,w),(90,.int .i64 (M.length:Nat)),(91,.int .i64 (0:Nat))] fD
  ⟨0,g6,gu,M,rfl,AE _,rfl,S6,Le.refl _,Ma⟩ ?_
 rintro k fr hz c4 ⟨i,g7,bI,L,rfl,hi,rfl,S7,a8,bb⟩;have ej:L.length=M.length:=by rw[bb,kc,LH,Bn,iB];omega
 refine Uy ?_;refine Kl.intro (fun ht=>?_) (fun hf=>?_)
 .have s : i < M.length := CC ht
  clear ht;have bg:i<L.length:=NH;have c5:L[i]=M[i]:=by
   have h1:L[i]?=some M[i]:=by
    rw[bb,qy (by rw[LH,Bn];omega),LH,Bn,ab5 NH,uu,DF,pz]
    grind
   grind
  obtain⟨a',Y,c',r1,r2,r3,r4,r5,r6⟩:=S7.at_ bg;have c6:=S7.gL.Mx bg r1 r2 r3;have bN:=S7.gL.ad3 bg;have gz:=eA3 (r:=2) S7.gL bg;have ek:aField Tryz.prog 125 (.pointer (some (elemAddr w (i*3)))) 2=some (.pointer (some (elemAddr w (i*3+2)))):=by rw[pf2,gz]
  rw[c5]at r4 r5 r6;have cg:=c3 _ (Gw s);have cq:=I.fS hR cg;have cx:=I.UO hR cg;have aP:=I.Xg cg;have gA:=(I.Aa _ cg).fits;generalize en:M[i]=q at*;obtain⟨h8,h9,e8,e9,l9,w9,oQ,l8⟩:=Od c4 r4.sl.one r5.one r6.one;have Z:=S7.up l9;have aw:=Tw i NH
  have dQ:∀z,InS B O A C w z->z≠hz.next:=fun z J e=>by
   have:=(S7.own J).2;rw[e]at this
   exact this ((Le.refl hz).next c4 (Ny _))
  generalize hz.next=Q at*
  have az:=pB Q 1 NH;have aj:=pB Q 2 NH;have aD:M.take (i+1)=M.take i++[q]:=by rw[EL s,en]
  have eo:M.drop i=q::M.drop (i+1):=by rw[AQ s,en]
  have aT:∀q':wW,L.set i q'=(M.take i).map (GF N f m.Jv.length)++q'::M.drop (i+1):=fun q'=>by rw[bb];exact Vr s eo
  refine Sk (bG bN c6 e8 e9 aj (lP2 oQ)) ?_;refine TC.intro PJ ⟨qS36,rfl,WY⟩ (W3 W0 c' (kz q.fits) ((f:Nat):Int) h9 (r6.le Nn.RP Z.le) (by rw[y6];omega)) ?_;rintro y bh gC ⟨rfl,rfl⟩;by_cases cm:f∈q.fits
  rotate_left
  .have d:decide (((f:Nat):Int)∈kz q.fits)=false:=decide_eq_false fun hm=>cm (by
    obtain⟨z,J,e⟩:=aae.1 hm;have:z=f:=NH
    grind)
   simp only[HO,Nat.reduceLT,↓reduceIte,Nat.reduceEqDiff,reduceCtorEq,d,aw];refine tn (M.length-(i+1)) [(0,.pointer (some ⟨B,0,none⟩)),(5,.pointer (some ⟨P,0,none⟩)),(6,wv),(7,.int .i64 (f:Nat)),(8,.int .i64 (m.Jv.length:Nat)),(89,w),(90,.int .i64 (M.length:Nat)),(91,.int .i64 (i+1:Nat))] (JS s) fD
    ⟨i+1,g7,bI,L,rfl,s,rfl,Z,a8,?_⟩
   rw[bb,aD,eo,U9,Cg];have:GF N f m.Jv.length q=q:=by unfold GF;grind
   simp[this]
  have d:decide (((f:Nat):Int)∈kz q.fits)=true:=decide_eq_true (aae.2 ⟨f,cm,rfl⟩);refine Sk d ?_;have T:∀h',Le bh h'->aload Tryz.prog h' 75 ⟨B,5,none⟩=some w/\aload Tryz.prog h' 49 ⟨Q,1,none⟩=some Y/\aload Tryz.prog h' 49 ⟨Q,2,none⟩=some c':=fun h' l=>⟨(Z.f.le l).l5,lP1 (l.own _ _ oQ),lP2 (l.own _ _ oQ)⟩;obtain⟨c9,da,db⟩:=T bh (Le.refl _);have aW:∀z∈q.fits++[m.Jv.length],z<N.length:=fun z J=>by
   rw[ei];rcases WA.1 J with h|h
   .have:=((gA z).1 h).1;omega
   .have:=Eh.1 h;omega
  have aX:kz q.fits++[((m.Jv.length:Nat):Int)]=kz (q.fits++[m.Jv.length]):=by simp[kz]
  obtain⟨ha,ea,la,wa,oa⟩:=Tt gC [.int .i64 ((m.Jv.length:Nat):Int)];obtain⟨gE,gJ,gM⟩:=T ha la;refine gh (tA [0,1,2,3,4,5,6,7,8,9,11] (.ch 10 [9] (JQ 12 [11] (JQ 13 [10,12] (JQ 14 [5,7,13] (tA [15,16] (JQ 17 [0,1,2,3,4,5,6,7,8,9,10,11,12,13,14,16] .done))))) (JQ 12 [11] (JQ 10 [9] (JQ 13 [10,12] (JQ 14 [5,7,13] (tA [15,16] (JQ 17 [0,1,2,3,4,5,6,7,8,9,10,11,12,13,14,16] .done)))))))) ?_;simp only[HO,Nat.reduceLT,↓reduceIte,Nat.reduceEqDiff,reduceCtorEq,Nat.reduceBEq,Qg,K,c9,gE,az,aj,da,gJ,db,gM,DQ,ea];refine⟨?_,?_⟩
  .refine VA.intro PJ ⟨ae0, rfl, WY⟩ (QY W0 c' (kz q.fits) bh (r6.le Nn.RP Z.le) (by rw [y6]; exact Xi aP a6 R)) ?_
   rintro y sZ wb ⟨gb,lb,ab⟩;obtain⟨bQ,bW,bZ⟩:=T sZ lb;obtain⟨av,gR,hc,ep,ec,aF,wc,gS,dc,gT⟩:=gb.push wb ((m.Jv.length:Nat):Int) (by rw[y6];grind);obtain⟨E,gU⟩:=dc bh lb ab;rw[aX]at aF;obtain⟨er,et,eu⟩:=T gR (lb.trans gS);obtain⟨b0,b1,b2⟩:=T hc E;simp only[DQ]at ep;simp only[HO,Nat.reduceLT,↓reduceIte,Nat.reduceEqDiff,reduceCtorEq,Nat.reduceBEq,Qg,K,c9,bQ,er,b0,az,aj,da,bW,et,b1,db,bZ,eu,b2,DQ,ep,ec];obtain⟨gV,gZ,hl⟩:=T hc E;refine VA.intro PJ ⟨yq,rfl,WY⟩ (NR W0 B n bv _ A C w Y av N q.Fm (q.fits++[m.Jv.length]) hc (Z.f.le E) (Z.rlI.le (Nn.RL Nn.sJ) E) ((r5.le Nn.RP Z.le).le Nn.RP E) aF.rl cq aW (sr cx aK) (by rw[kc,QD];exact ig aP a6 R)) ?_;rintro y hd wd ⟨gy,dd,ay⟩;have b3:=E.trans dd;obtain⟨de,dj,dk⟩:=T hd b3;obtain⟨Sd,dm⟩:=(Z.up b3).pV;have dp:GI (Hg hd B O A C w) y (kz (zh N q.Fm (q.fits++[m.Jv.length]))):=Pv (h:=hd) Z gy (fun b hb=>E.none (ay b hb));obtain⟨he,ee,Se,we⟩:=Sd.setT wd bg dp.rl;rw[c5]at Se;simp only[HO,Nat.reduceLT,↓reduceIte,Nat.reduceEqDiff,reduceCtorEq,Nat.reduceBEq,Qg,K,az,aj,de,dj,dk,bN,ek,ee,aw];refine tn (M.length-(i+1)) [(0,.pointer (some ⟨B,0,none⟩)),(5,.pointer (some ⟨P,0,none⟩)),(6,wv),(7,.int .i64 (f:Nat)),(8,.int .i64 (m.Jv.length:Nat)),(89,w),(90,.int .i64 (M.length:Nat)),(91,.int .i64 (i+1:Nat))] (JS s) fD
    ⟨i+1,_,_,_,rfl,s,rfl,Se,a8.trans dm,?_⟩
   rw[aT,aD,U9,Cg];have:GF N f m.Jv.length q={q with fits:=zh N q.Fm (q.fits++[m.Jv.length])}:=by unfold GF;grind
   simp[this]
  .refine VA.intro PJ ⟨ae0, rfl, WY⟩ (QY W0 c' (kz q.fits) ha ((r6.le Nn.RP Z.le).le Nn.RP la) (by rw [y6]; exact Xi aP a6 R)) ?_
   rintro y sZ wb ⟨gb,lb,ab⟩;obtain⟨bQ,bW,bZ⟩:=T sZ (la.trans lb)
   have ro:RL RP sZ (.slice (some ⟨bh.next,0,none⟩) 1 1) [((m.Jv.length:Nat):Int)]:=RL.Wh (RS.whole (lb.own _ _ oa) rfl)
   obtain⟨av,hc,ec,aF,wc,dc,gT⟩:=GI.join gb wb ro (by rw[y6,QD];grind);obtain⟨hn,gU⟩:=dc ha lb ab;have E:=la.trans hn;rw[aX]at aF;obtain⟨b0,b1,b2⟩:=T hc E;refine CO (Da K c9 bQ b0 az aj da bW b1 db bZ b2 @DQ ec) ?_;obtain⟨gV,gZ,hl⟩:=T hc E;refine VA.intro PJ ⟨yq,rfl,WY⟩ (NR W0 B n bv _ A C w Y av N q.Fm (q.fits++[m.Jv.length]) hc (Z.f.le E) (Z.rlI.le (Nn.RL Nn.sJ) E) ((r5.le Nn.RP Z.le).le Nn.RP E) aF.rl cq aW (sr cx aK) (by rw[kc,QD];exact ig aP a6 R)) ?_;rintro y hd wd ⟨gy,dd,ay⟩;have b3:=E.trans dd;obtain⟨de,dj,dk⟩:=T hd b3;obtain⟨Sd,dm⟩:=(Z.up b3).pV;have dp:GI (Hg hd B O A C w) y (kz (zh N q.Fm (q.fits++[m.Jv.length]))):=Pv (h:=hd) Z gy (fun b hb=>E.none (ay b hb));obtain⟨he,ee,Se,we⟩:=Sd.setT wd bg dp.rl;rw[c5]at Se;simp only[HO,Nat.reduceLT,↓reduceIte,Nat.reduceEqDiff,reduceCtorEq,Nat.reduceBEq,Qg,K,az,aj,de,dj,dk,bN,ek,ee,aw];refine tn (M.length-(i+1)) [(0,.pointer (some ⟨B,0,none⟩)),(5,.pointer (some ⟨P,0,none⟩)),(6,wv),(7,.int .i64 (f:Nat)),(8,.int .i64 (m.Jv.length:Nat)),(89,w),(90,.int .i64 (M.length:Nat)),(91,.int .i64 (i+1:Nat))] (JS s) fD
    ⟨i+1,_,_,_,rfl,s,rfl,Se,a8.trans dm,?_⟩
   rw[aT,aD,U9,Cg];have:GF N f m.Jv.length q={q with fits:=zh N q.Fm (q.fits++[m.Jv.length])}:=by unfold GF;grind
   simp[this]
 have ae:M.length<=i:=vp hf;obtain rfl:i=M.length:=NH;rw[vZ (Ny _),qL221 (Ny _),cJ]at bb;clear ae hf hi;have ev:=a8.own _ _ (cZ.own _ _ ed);have dq:=dV.le (cZ.trans a8);have ew:=fun g'=>dq.rl.Uc g';rw[y6]at ew;refine Sk ew ?_;refine aaa.intro (fun k fr hy=>∃(i:Nat),k=way.length-i/\i<=way.length/\fr=mkF [(0,.pointer (some ⟨B,0,none⟩)),(5,.pointer (some ⟨P,0,none⟩)),(6,wv),(8,.int .i64 (m.Jv.length:Nat)),(118,wv),(119,.int .i64 (way.length:Nat)),(120,.int .i64 (i:Nat))]/\
   lx g7 hy B O n (Zh n es) bv A C w bF bH bI (tV m.on (way.take i)) N N L)
  way.length [(0,.pointer (some ⟨B,0,none⟩)),(5,.pointer (some ⟨P,0,none⟩)),(6,wv),(8,.int .i64 (m.Jv.length:Nat)),(118,wv),(119,.int .i64 (way.length:Nat)),(120,.int .i64 (0:Nat))] fD
  ⟨0,rfl,AE _,rfl,S7⟩ ?_
 clear S7 c4;clear hz;rintro k fr hy ef ⟨i,rfl,hi,rfl,S8⟩;refine Uy ?_;refine Kl.intro (fun ht=>?_) (fun hf=>?_)
 .have s : i < way.length := CC ht
  clear ht;have gy:=dq.le S8.le;have hx:=gy.rl.TA i (by rw[y6];exact s);have ey:=gy.rl.DH i (by rw[y6];exact s);rw[sY s]at ey;have hv:=cf way[i] (Gw s);have aD:way.take (i+1)=way.take i++[way[i]]:=EL s;generalize way[i]=v at*;have hC:aIndexAddr Tryz.prog 59 (.slice (some ⟨O,0,none⟩) n n) (.int .i64 (v:Int))=some (.pointer (some ⟨O,v,none⟩)):=by rw[Wc Uh eY Ji v hv];simp[Ip]
  obtain⟨h9,e9,Z,w9⟩:=S8.setO ef hv;have hD:(tV m.on (way.take i)).set v true=tV m.on (way.take (i+1)):=by rw[aD];unfold tV;rw[aeG];rfl
  rw[hD]at Z;have aw:=Tw i (Lb s (le_4 fP aK));simp only[HO,Nat.reduceLT,↓reduceIte,Nat.reduceEqDiff,reduceCtorEq,hx,ey,fx,S8.f.l2,hC,e9,aw];exact tn (way.length-(i+1)) [(0,.pointer (some ⟨B,0,none⟩)),(5,.pointer (some ⟨P,0,none⟩)),(6,wv),(8,.int .i64 (m.Jv.length:Nat)),(118,wv),(119,.int .i64 (way.length:Nat)),(120,.int .i64 (i+1:Nat))] (JS s) fD ⟨i+1,rfl,s,rfl,Z⟩
 have ae:way.length<=i:=vp hf;rw[vZ ae]at S8;clear ae hf hi;have hE:=S8.le.own _ _ ev;have b4:=cZ.trans a8;have r6:=((dT.le Nn.RP bB).le Nn.RP b4);have r4:=((dS.le bB).le b4);refine Sk (XC cP (lP2 hE)) ?_;refine TC.intro PJ ⟨ae0,rfl,WY⟩ (QY W0 c (kz p.fits) hy (r6.le Nn.RP S8.le) (by rw[y6];exact Xi dO a6 R)) ?_;rintro y h9 w9 ⟨g9,l9,a9⟩;obtain⟨av,bh,dv,eA,hF,eB,jj,jk,eC,iF⟩:=g9.push w9 ((m.Jv.length:Nat):Int) (by grind [y6]);obtain⟨eE,hG⟩:=eC hy l9 a9;have aX:kz p.fits++[((m.Jv.length:Nat):Int)]=kz (p.fits++[m.Jv.length]):=by simp[kz]
 rw[aX]at eB;obtain⟨bk,al⟩:=(S8.up eE).pV;have aF:GI (Hg dv B O A C w) av (kz (p.fits++[m.Jv.length])):=Pv (h:=dv) S8 eB hG;have eF:=al.own _ _ ev;have eG:=bk.le.own _ _ eF;have hI:=dq.le al;simp only[DQ]at eA;refine Sk (IX @DQ eA hF fL (lP0 eG)) ?_;refine TC.intro PJ ⟨Tryz.func103,rfl,WY⟩ (Bs W0 B n bv _ A C w a wv p.zp way dv bk.f ((r4.le al).le bk.le) (hI.le bk.le).rl cU cf NH NH NH) ?_;rintro y2 hJ jq ⟨hK,hL,jr⟩;obtain⟨aq,b5⟩:=(bk.up hL).pV;have b6:(V8 n p.zp way).Sublist p.zp:=jf;have dz:aV n (V8 n p.zp way):=fun e he=>cU e (b6.subset he);have dA:(V8 n p.zp way).length<=594:=VU b6.length_le (VU fU R);generalize jv:V8 n p.zp way=wo at*;refine Uy ?_;refine TC.intro PJ ⟨Tryz.func102,rfl,WY⟩ (Xr W0 B n bv _ A C w y2 (tV m.on way) wo hJ aq.f aq.rlO aq.ZA hK.pr dz NH NH) ?_;rintro x X hM ⟨vs,OP⟩;obtain⟨eI,b8⟩:=(aq.up OP.sep.le).pV;have dB:vX n (tV m.on way) wo=(qT (Wg (tV m.on way)) (grpsM (frL n (Wg (tV m.on way)) wo) wo [] wo.length)).map fun q=>⟨q.1,q.2,[]⟩:=by
  unfold vX qT;rw[Q4];rfl
 have ck:∀q∈qT (Wg (tV m.on way)) (grpsM (frL n (Wg (tV m.on way)) wo) wo [] wo.length),(∀z∈q.2,∃v:Nat,z=(v:Int)/\v<n)/\q.2.length<=n:=fun q V=>by
  obtain⟨gr,hN,rfl⟩:=aae.1 V;obtain⟨-,-,-,-,eM⟩:=Pt (frL n (Wg (tV m.on way)) wo) wo [] wo.length;have cz:=eM gr hN;refine⟨fun z J=>?_,Qr dz cz⟩;obtain⟨_,e,he,h⟩:=zS.1 (((VW _).2 z).1 J);obtain⟨u,v,rfl,jx,jE⟩:=jB dz (cz e he);simp only at h;rcases h with rfl|rfl
  .grind
  grind
 have eO:(qT (Wg (tV m.on way)) (grpsM (frL n (Wg (tV m.on way)) wo) wo [] wo.length)).length<=wo.length:=by
  unfold qT;rw[LH];exact(Pt _ _ _ _).2.2.2.1
 rw[dB];generalize qT (Wg (tV m.on way)) (grpsM (frL n (Wg (tV m.on way)) wo) wo [] wo.length)=ps at*;have hP:=OP.len_;have gx:GS 3 (Hg X B O A C w) x ps.length (cellsO vs ps.length):=Pv (h:=X) aq OP.sl (OP.sep.ap 0 x rfl);have hQ:∀(j:Nat) q,ps[j]?=some q->GP (Hg X B O A C w) (vs.getD (2*j) rW) q.1/\GI (Hg X B O A C w) (vs.getD (2*j+1) rW) q.2:=fun j q V=>by
  obtain⟨k1,k2⟩:=OP.ge j q V;have hj:=(qL0.1 V).1;have jH:=OP.len;exact⟨Pv (h:=X) aq k1 (OP.sep.ap _ _ (u6 OP NH)),Pv (h:=X) aq k2 (OP.sep.ap _ _ (u6 OP NH))⟩
 have dE:=aF.le (b5.trans b8);have hS:Le g (Hg X B O A C w):=cd.trans (bB.trans (b4.trans (al.trans (b5.trans b8))));have aW:∀z∈p.fits++[m.Jv.length],z<N.length:=fun z J=>by
  rw[ei];rcases WA.1 J with h|h
  .have:=(((I.Aa p ag).fits z).1 h).1;omega
  .have:=Eh.1 h;omega
 have ej:L.length<=594:=pw;clear OP b8 aq b5 bk al S8;generalize Hg X B O A C w=eQ at*;refine Sk hP ?_;refine aaa.intro (fun k fr V=>∃(i:Nat) (bm:AHeap) (ar:List Value) (U:Value),k=ps.length-i/\i<=ps.length/\fr=mkF [(0,.pointer (some ⟨B,0,none⟩)),(13,av),(143,x),(144,.int .i64 (ps.length:Nat)),(145,.int .i64 (i:Nat))]/\
   lx bm V B O n (Zh n es) bv A C U bF bH ar (tV m.on way) N N (L++(ps.take i).map fun q=>⟨q.1,q.2,zh N q.2 (p.fits++[m.Jv.length])⟩)/\Le eQ bm)
  ps.length [(0,.pointer (some ⟨B,0,none⟩)),(13,av),(143,x),(144,.int .i64 (ps.length:Nat)),(145,.int .i64 (0:Nat))] fD
  ⟨0,eQ,bI,w,rfl,AE _,rfl,by simpa using eI,Le.refl _⟩ ?_
 clear eI hM;clear X;rintro k fr V a7 ⟨i,bm,ar,U,rfl,hi,rfl,aH,W⟩;refine Uy ?_;refine Kl.intro (fun ht=>?_) (fun hf=>?_)
 .have s : i < ps.length := CC ht
  clear ht;have hT:=XJ s;obtain⟨ge,gf⟩:=hQ i _ hT;obtain⟨eS,eT⟩:=ck _ (Gw s);have aD:ps.take (i+1)=ps.take i++[ps[i]]:=EL s;generalize ps[i]=q at*;have eU:=gx.le (W.trans aH.le);obtain⟨z1,z2,z3⟩:=aY vs ps.length s;have c6:=eU.Mx s z1 z2 z3;have bN:=eU.ad3 s;have cC:=ge.le W;have b9:=gf.le W;generalize vs.getD (2*i) rW=a' at*;generalize vs.getD (2*i+1) rW=Y at*;obtain⟨jK,hU,hV,hW,hX,jP,oQ,jQ⟩:=Od a7 (a:=a') (b:=Y) (c:=rW) cC.pr.sl.one b9.rl.one rfl;have bo:=aH.up hX
  have dQ:∀z,InS B O A C U z->z≠V.next:=fun z J e=>by
   have:=(aH.own J).2;rw[e]at this
   exact this ((Le.refl V).next a7 (Ny _))
  have eV:bm.own V.next=none:=aH.le.next a7 (Ny _)
  generalize V.next=Q at*
  have az:=pB Q 1 NH;have aj:=pB Q 2 NH;have aw:=Tw i (Lb s (QJ NH));refine Sk (bG bN c6 hV hW az (lP1 oQ)) ?_;refine TC.intro PJ ⟨yq,rfl,WY⟩ (NR W0 B n bv _ A C U Y av N q.2 (p.fits++[m.Jv.length]) hU bo.f bo.rlI ((b9.le bo.le).rl) (((dE.le W).le bo.le).rl) eS aW (sr eT aK) (by rw[kc,QD];exact ig dO a6 R)) ?_;rintro y aJ eW ⟨dF,eZ,e0⟩;have cE:=eZ.own _ _ oQ;have st:=QB (P:=Tryz.prog) (t:=49) (x:=y) Ac Ji cE (off:=2) Ma dF.rl.sl.cell dF.rl.one;have aT:([a',Y,rW]:List Value).set 2 y=[a',Y,y]:=rfl;rw[aT]at st;have cM:(aJ.put Q (.cells [a',Y,y])).own Q=some (.cells [a',Y,y]):=AHeap.Y3 _ _ _;have hY:WF (aJ.put Q (.cells [a',Y,y])):=eW.put _ (eW.lt cE);have hZ:blk y≠some Q:=fun e=>by have:=e0 Q e;grind
  have h0:=GS.put dF (fK.cells [a',Y,y]) hZ;have e6:∀z o,z≠Q->aJ.own z=some o->(aJ.put Q (.cells [a',Y,y])).own z=some o:=fun z o J ho=>by rw[AHeap.By _ _ _ _ J];exact ho
  have e7:=bo.up eZ;have h7:lx bm (aJ.put Q (.cells [a',Y,y])) B O n (Zh n es) bv A C U bF bH ar (tV m.on way) N N (L++(ps.take i).map fun q=>⟨q.1,q.2,zh N q.2 (p.fits++[m.Jv.length])⟩):=
   e7.other (e7.le.put _ eV) fun z o J ho=>e6 z o (dQ z J) ho
  obtain⟨dH,cc⟩:=h7.pV;have gy:GI (Hg (aJ.put Q (.cells [a',Y,y])) B O A C U) y (kz (zh N q.2 (p.fits++[m.Jv.length]))):=Pv (h:=aJ.put Q (.cells [a',Y,y])) bo h0 e0;obtain⟨fb,jR,jS,jU,ic,ih,ij,il,jZ,fc,ix,-⟩:=dH.pushL hY (a:=a') (b:=Y) (c:=y) (p:=⟨q.1,q.2,zh N q.2 (p.fits++[m.Jv.length])⟩) ((cC.le cc).pr) ((b9.le cc).rl) gy.rl (app_b ej (VU eO dA) i);have iz:=OU cM;have fe:=OU (fc.own _ _ cM);have iD:=dH.f.le fc;simp only[HO,Nat.reduceLT,↓reduceIte,Nat.reduceEqDiff,reduceCtorEq,aj,st];refine gh (tA [0,1,2,3,4,5] (JQ 6 [5] (JQ 7 [4,6] (tA [8,9] (JQ 10 [0,1,2,3,4,5,6,7,9] .done))))) ?_;simp only[HO,Nat.reduceLT,↓reduceIte,Nat.reduceEqDiff,reduceCtorEq,Nat.reduceBEq,Qg,K,dH.f.l5,iD.l5,ix.l5,iz,fe,ic,ih,ij,aw];refine tn (ps.length-(i+1)) [(0,.pointer (some ⟨B,0,none⟩)),(13,av),(143,x),(144,.int .i64 (ps.length:Nat)),(145,.int .i64 (i+1:Nat))] (JS s) fD
   ⟨i+1,_,ar++[a',Y,y],fb,rfl,s,rfl,?_,W.trans cc⟩
  rw[aD,U9,<-Cg];exact il
 have ae:ps.length<=i:=vp hf;rw[vZ ae]at aH;refine Uy ?_;refine⟨bm,hS.trans W,aH.le,.inr ⟨_,A,C,U,bF,bH,ar,rfl,trivial,?_⟩⟩;simp only;rw[<-bb,Q4];exact aH
end
end Go.Fw
