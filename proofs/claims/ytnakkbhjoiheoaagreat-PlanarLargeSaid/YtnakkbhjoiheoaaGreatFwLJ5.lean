/- A text. -/
import Derived.Test.YtnakkbhjoiheoaaGreatFwLF13
set_option linter.all false
set_option maxRecDepth 99999
set_option maxHeartbeats 9999999
open Go.Proofs
open Option renaming some→Z,none→Y
open Bool renaming true→tT,false→fF
open List renaming replicate→rP,range→rG
open Go.Value renaming slice→sL,pointer→pT
open Go renaming Value→vV
open Go.Proofs.Tryz renaming prog→pG
open Go.Proofs.Tryz
open List
namespace Go.Fw
section
attribute [local instance] Classical.propDecidable
attribute [local irreducible] Kp MQ lU KO1 KO KN KX KE VK Kl ZJ TC aab
variable {a b:Int} {j m:Nat} {p:Pr} {pl:RZ} {α:Type}
theorem Qc{n:Nat}{way:II}(a:way.length<=1000):∀i,i<=way.length->∀(v:Nat) x,(KI n way i)[v]?=Z x->-1<=x/\x<=1000
 |0,_,v,x,h=>by grind[KI.eq_1]
 |i+1,hi,v,x,h=>by
  rw[KI,fj]at h;split at h
  .grind
  .exact Qc a i NH v x h
theorem Zz(ha:pl.getD p.1.toNat 0=a)(hb:pl.getD p.2.toNat 0=b)(h:a<0\/b<0\/(a-b≠1/\b-a≠1)):aI pl p=tT:=by grind[aI]
theorem amq(ha:pl.getD p.1.toNat 0=a)(hb:pl.getD p.2.toNat 0=b)(c:¬a<0)(h2:¬b<0)(h3:a-b=1\/b-a=1):aI pl p=fF:=by grind[aI]
def ID{x y:Int}(a:-1<=x/\x<=1000)(b:-1<=y/\y<=1000):aaY .i64 (x-y)=x-y:=ie _ NH NH
theorem fil_b{l:List α}(q:α->Bool)(h:l.length<=1000)(j:Nat):((l.take j).filter q).length+1<=100000:=hGr
theorem QJ(h:m<=1000):m<=40000:=NH
def Lb(h:j<m)(h2:m<=40000):j<4611686018427387904:=NH
theorem Bs(W0:LA)(B n:Nat)(bv ov fv iv lv ev P:vV)(zp:xLP)(way:II)(h:aai)(hs:Sr h B n bv ov fv iv lv)(Q:PR h ev zp)(hw:RL RP h P (kz way))(hR:aV n zp)(R:∀x∈way,x<n)(hn:n<=300)(z:zp.length<=1000)(hl:way.length<=1000):
  AC pG W0 136 [pT (Z B),ev,P] h fun x h'=>GP h' x (V8 n zp way)/\Le h h'/\Z2 h x:=by
 refine AC.vF func136 ntmps136 results136 fun S=>?_;have⟨h1,e1,l1,w1,o1⟩:=Tt S [.int .i64 (-1)];have s1:=hs.le l1;refine Sk (bG @DQ e1 @sf0 @Ip.eq_1 @EL s1.l0) ?_;refine kCi YW (rN W0 _ n NH h1 (RL.Wh (RS.whole o1 rfl))) ?_;rintro x h2 w2 ⟨T,rfl,hT,o2,l2⟩
 have nT:h.own T=Y:=l1.next w1 hT
 have A:=l1.trans l2;have oT:h2.own T=Z (.cells (Bp (KI n way 0))):=by rw[o2];simp[Bp,KI]
 have hlen:(kz way).length=way.length:=y6 way;have ll:=fun g=>hw.DH g;rw[hlen]at ll;have r:=fun(k:IntKind) j hj=>Kx T n k j hj;refine Sk ll ?_;refine lIn (fun k fr U=>∃i:Nat,k=way.length-i/\i<=way.length/\fr=mkF [(1,ev),(7,sL (Z T) n n),(21,P),(22,(way.length:Nat)),(23,(i:Nat))]/\U.own T=Z (.cells (Bp (KI n way i)))/\Le h U) ⟨0,rfl,Og _,rfl,oT,A⟩ ?_;clear oT o2 l2 w2 A;rintro k fr U V ⟨i,rfl,hi,rfl,oT,M⟩;refine Uy ?_;refine Kl.intro (fun C=>?_) (fun hf=>?_)
 .have e:i<way.length:=acb C;clear C;have ad:=hw.TA i NH;have ld:=(hw.le Nn.RP M).Uc i NH;rw[sY e]at ld;have hx:=R way[i] (si e);have W:way.getD i 0=way[i]:=D4 e;have st:=stI oT (i:=way[i]) (by grind[Ou]) (i:Int);simp only[HO,seval,ad,ld,r _ _ hx,st,aaa i (Lb e (QJ hl))];refine lgA (JS e) ⟨i+1,rfl,e,rfl,?_,M.put _ nT⟩;rw[aai.Y3,KI,W]
 have D:way.length<=i:=vp hf;obtain rfl:i=way.length:=NH;have rD:=Qc (n:=n) hl way.length (qL0 _);have av:=Ou n way way.length;have X:=fun g=>Q.len g;unfold V8;generalize KI n way way.length=pl at*;refine Sk X ?_;refine lIn (fun k fr l=>∃(j:Nat)(m:vV),k=zp.length-j/\j<=zp.length/\fr=mkF [(7,sL (Z T) n n),(10,m),(33,ev),(34,(zp.length:Nat)),(35,(j:Nat))]/\l.own T=Z (.cells (Bp pl))/\Le h l/\GP l m ((zp.take j).filter (aI pl))/\Z2 h m/\blk m≠Z T) ⟨0,_,rfl,Og _,rfl,oT,M,GP.nil _,fun b hb=>by simp[blk]at hb,by simp[blk]⟩ ?_;clear oT M V;rintro k fr l F ⟨j,m,rfl,hj,rfl,oT,lz,g,ap,nb⟩;refine Uy ?_;refine Kl.intro (fun C=>?_) (fun hf=>?_)
 rotate_left
 .have D:zp.length<=j:=vp hf;rw[yM D]at g;refine Uy ?_;grind
 have c:j<zp.length:=acb C;clear C;have aa:=CA c;have ay:zp.take (j+1)=zp.take j++[zp[j]]:=XJ c;have⟨p1,p2,p3⟩:=hR zp[j] (si c);have ad:=Q.addr (k:=.i64) j c;have ld:=(Q.le lz).load aa;generalize zp[j]=p at*;have⟨h3,h4,e3,e4,l4,w4,o4⟩:=Ut F p
 have az:l.own l.next=Y:=(Le.refl l).next F (qL0 _)
 have G:=lz.trans l4;have f:=l4.own _ _ oT;have g4:=g.le l4;have Lp:=uM o4;have L0:=lK o4;have L1:=HY o4
 generalize l.next=E at*
 obtain⟨a,ea⟩:∃a:Nat,p.1=(a:Int):=⟨p.1.toNat,NH⟩;obtain⟨b,eb⟩:∃b:Nat,p.2=(b:Int):=⟨p.2.toNat,NH⟩;have ae:a<n:=NH;have ai:b<n:=NH;rw[ea]at L0;rw[eb]at L1;have aj:a<pl.length:=hGr;have aq:b<pl.length:=hGr;have hA:=CA aj;have hB:=CA aq;have rA:=rD a _ hA;have rB:=rD b _ hB;have H:pl.getD p.1.toNat 0=pl[a]:=hGr;have gB:pl.getD p.2.toNat 0=pl[b]:=hGr;have lA:=XP f hA;have lB:=XP f hB;generalize pl[a]=x at*;generalize pl[b]=y at*;have s:=ID rA rB;have I:=ID rB rA;have aw:=aaa j (Lb c (QJ z));have ar:=fil_b (aI pl) z j
 have yes:aI pl p=tT->∃d u o,aas pG h4 22 1 [(0,UI p)]=Z (sL (Z h4.next) 1 1,u)/\aaR pG u 22 22 m (sL (Z h4.next) 1 1)=Z (d,o)/\o.own T=Z (.cells (Bp pl))/\Le h o/\GP o d ((zp.take (j+1)).filter (aI pl))/\Z2 h d/\blk d≠Z T:=fun q=>by have⟨d,u,o,v,w,g7,w7,l6,aC,aD⟩:=g4.push w4 p ar;grind
 have no:aI pl p=fF->(zp.take (j+1)).filter (aI pl)=(zp.take j).filter (aI pl):=fun q=>by grind
 simp only[HO,seval,ad,ld,e3,e4];refine gh (fRn 0 12 .done) ?_;simp only[HO,seval,Qg,Dh,Z0,Ip,EL,L0,L1,r _ a ae,r _ b ai,lA,lB];by_cases c1:x<0
 .obtain⟨d,u,o,v,w,r1,r2,J,K,L⟩:=yes (Zz H gB (.inl c1));simp only[HO,seval,c1,Lp,v,w,aw];exact lgA (JS c) ⟨j+1,d,rfl,c,rfl,r1,r2,J,K,L⟩
 by_cases c2:y<0
 .obtain⟨d,u,o,v,w,r1,r2,J,K,L⟩:=yes (Zz H gB (.inr (.inl c2)));simp only[HO,seval,c1,c2,Lp,v,w,aw];exact lgA (JS c) ⟨j+1,d,rfl,c,rfl,r1,r2,J,K,L⟩
 by_cases N:x-y=1
 .have t:=no (amq H gB c1 c2 (.inl N));have d3:decide (x-y=1)=tT:=WA N;simp only[HO,seval,c1,c2,s,bne,d3,aw];exact lgA (JS c) ⟨j+1,m,rfl,c,rfl,f,G,by rw[t];exact g4,ap,nb⟩
 have d3:decide (x-y=1)=fF:=IE N;by_cases O:y-x=1
 .have t:=no (amq H gB c1 c2 (.inr O));have d4:decide (y-x=1)=tT:=WA O;simp only[HO,seval,c1,c2,s,I,bne,d3,d4,aw];exact lgA (JS c) ⟨j+1,m,rfl,c,rfl,f,G,by rw[t];exact g4,ap,nb⟩
 have d4:decide (y-x=1)=fF:=IE O;have⟨d,u,o,v,w,r1,r2,J,K,L⟩:=yes (Zz H gB (.inr (.inr ⟨N,O⟩)));simp only[HO,seval,c1,c2,s,I,bne,d3,d4,Lp,v,w,aw];exact lgA (JS c) ⟨j+1,d,rfl,c,rfl,r1,r2,J,K,L⟩
def Hj(h:aai):abO pG h 28=Z (pT (Z h.next),h.alloc (.cells [.slice Y 0 0])):=rfl
structure LL (b0 h:aai) (S5 T6 M7 T n start:Nat) (mv:vV) (st:RZ×II):Prop where
 oS:h.own S5=Z (.cells [start])
 o6:h.own T6=Z (.cells [sL (Z T) n n])
 oT:h.own T=Z (.cells (Bp st.1))
 oM:h.own M7=Z (.cells [mv])
 gm:GI h mv (kz st.2)
 nS:b0.own S5=Y
 n6:b0.own T6=Y
 nT:b0.own T=Y
 nM:b0.own M7=Y
 am:Z2 b0 mv
 d1:T≠T6
 d2:T≠M7
 d3:T≠S5
 d4:M7≠S5
 d5:M7≠T6
 m1:blk mv≠Z S5
 m2:blk mv≠Z T6
 m3:blk mv≠Z T
 m4:blk mv≠Z M7
 le:Le b0 h
section
variable{b0 h:aai}{S5 T6 M7 T n start:Nat}{mv:vV}{st:RZ×II}
theorem LL.up{h':aai}(W:LL b0 h S5 T6 M7 T n start mv st)(e:Le h h'):LL b0 h' S5 T6 M7 T n start mv st:={W with oS:=e.own _ _ W.oS,o6:=e.own _ _ W.o6,oT:=e.own _ _ W.oT,oM:=e.own _ _ W.oM,gm:=W.gm.le e,le:=W.le.trans e}
def LL.lS(W:LL b0 h S5 T6 M7 T n start mv st):aaC pG h 3 ⟨S5,0,Y⟩=Z (.int .i64 (start:Int)):=by rw[Fq Ac rfl W.oS];rfl
def LL.l6(W:LL b0 h S5 T6 M7 T n start mv st):aaC pG h 28 ⟨T6,0,Y⟩=Z (sL (Z T) n n):=by rw[Fq Mb rfl W.o6];rfl
def LL.lM(W:LL b0 h S5 T6 M7 T n start mv st):aaC pG h 28 ⟨M7,0,Y⟩=Z mv:=by rw[Fq Mb rfl W.oM];rfl
end
theorem meet_yes{start:Nat}{st:RZ×II}{v by_:Nat}(h:v≠start)(h2:st.1.getD v 0<0):dt start st v by_=(st.1.set v (by_:Int),st.2++[v]):=by grind[dt]
theorem amr{start:Nat}{st:RZ×II}{v by_:Nat}(h:v=start\/¬st.1.getD v 0<0):dt start st v by_=st:=by grind[dt]
theorem K8(k:LA){b0 h:aai}{S5 T6 M7 T n start:Nat}{mv:vV}{st:RZ×II}(W:LL b0 h S5 T6 M7 T n start mv st)(w:st.1.length=n){v by_:Nat}(l:v<n)(y:st.2.length<=1000):
  AC pG k 165 [v,by_,pT (Z S5),pT (Z T6),pT (Z M7)] h fun _ h'=>∃d,LL b0 h' S5 T6 M7 T n start d (dt start st v by_):=by
 refine AC.vF qS35 ntmps165 results165 fun e=>?_;have m:=CA (show v<st.1.length by omega);have gd:st.1.getD v 0=st.1[v]'(by omega):=D4 NH
 have ix:=Kx T n .i64 v l;have ld:=XP W.oT m;generalize st.1[v]'(by omega)=x at*
 by_cases c1:v=start
 .have d1:decide ((v:Int)=(start:Int))=tT:=WA NH;refine Sk (Yb W.lS @bne.eq_1.{0} d1) ?_
  grind[amr]
 have d1:decide ((v:Int)=(start:Int))=fF:=IE NH;by_cases c2:x<0
 rotate_left
 .simp only[HO,seval,W.lS,bne,d1,W.l6,ix,ld,c2];grind[amr]
 have st1:=stI W.oT (i:=v) NH (by_:Int);have b:LL b0 (h.put T (.cells (Bp (st.1.set v (by_:Int))))) S5 T6 M7 T n start mv (st.1.set v (by_:Int),st.2):=
  {W with
   oS:=by grind[aai.By,LL.d3,LL.oS]
   o6:=by grind[aai.By,LL.d1,LL.o6]
   oT:=aai.Y3 _ _ _
   oM:=by grind[aai.By,LL.d2,LL.oM]
   gm:=GS.put W.gm _ W.m3
   le:=W.le.put _ W.nT}
 have w1:WF (h.put T (.cells (Bp (st.1.set v (by_:Int))))):=e.put _ (e.lt W.oT);rw[meet_yes c1 hGr];simp only[HO,seval,W.lS,bne,d1,W.l6,ix,ld,c2,st1];generalize h.put T (.cells (Bp (st.1.set v (by_:Int))))=z at*;have⟨d,h2,h3,o,e3,f,A,l2,hf,g⟩:=b.gm.push w1 (v:Int) (by grind[y6]);have⟨l3,p⟩:=hf b0 b.le b.am;have⟨q,m1⟩:=g _ _ b.oS b.m1;have⟨r,m2⟩:=g _ _ b.o6 b.m2;have⟨s,m3⟩:=g _ _ b.oT b.m3;have⟨j,m4⟩:=g _ _ b.oM b.m4;have stM:=QB (P:=pG) (t:=28) (x:=d) Mb Ji j (off:=0) Ma (by obtain⟨a,c,rfl,_⟩:=f.rl.sl;rfl) f.rl.sl.one;simp only[HO,seval,b.lM,o,e3,stM];have u:kz st.2++[(v:Int)]=kz (st.2++[v]):=by simp[kz]
 rw[u]at f;exact⟨d,{b with
   oS:=by grind[aai.By,LL.d4]
   o6:=by grind[aai.By,LL.d5]
   oT:=by grind[aai.By,LL.d2]
   oM:=aai.Y3 _ _ _
   gm:=GS.put f _ m4
   am:=p,m1:=m1,m2:=m2,m3:=m3,m4:=m4
   le:=l3.put _ W.nM}⟩
variable {i n:Nat} {rows:AM}
def pf0(a:Addr):aca pG 168 (pT (Z a)) 0=Z (pT (Z (Ip a 0))):=rfl
def pf1(a:Addr):aca pG 168 (pT (Z a)) 1=Z (pT (Z (Ip a 1))):=rfl
def pf2(a:Addr):aca pG 168 (pT (Z a)) 2=Z (pT (Z (Ip a 2))):=rfl
theorem way_at{on:List Bool}{p:wW}{start i:Nat}(h2:¬p.Fm.length<2)(a:(p.Fm.headD 0).toNat=start)(hi:i<n+1)(b:∀j,j<i->XG rows on start (SL n start p.zp) j=fF)(hs:XG rows on start (SL n start p.zp) i=tT):
  J6 n rows on p=match(acz rows start (SL n start p.zp) i).2[i]? with
   |some v=>traceM (acz rows start (SL n start p.zp) i).1 start n v
   |none=>[]:=by grind[List.find?_range_eq_some,J6]
theorem headI0:∀{l:RZ}(h:0<l.length),l.headD 0=l[0]
 |_::_,_=>rfl
def sub_lt1(h:i<n):n+1-(i+1)<n+1-i:=NH
theorem TL(fr:RZ)(start:Nat):∀f,traceM fr start f start=[start]
 |0=>rfl
 |f+1=>by grind[traceM.eq_2]
abbrev TT1:Nat->Prop:=fun _=>True
abbrev TT2:Nat->Nat->Prop:=fun _ _=>True
def trc_k{k f:Nat}(h:k<f+1)(j:Nat)(a:j<k):j<f:=NH
theorem way_any(W0:LA)(B n:Nat)(bv ov fv iv lv ea fa ta:vV)(es:xLP)(on:List Bool)(p:wW)(h:aai)(hs:Sr h B n bv ov fv iv lv)(hb:RL (RL RP) h bv (Zh n es))(ho:RL sJ h ov on)(cZ:on.length=n)(Q:PR h ea p.zp)(R:RL RP h fa p.Fm)(b2:ta.oneCell'=tT)(hR:aV n es)(b3:aV n p.zp)(b4:∀x∈p.Fm,∃v:Nat,x=(v:Int)/\v<n)(hn:n<=300)(c0:es.length<=1000)(b5:p.zp.length<=1000)(c4:p.Fm.length<=1000):
  AC pG W0 132 [pT (Z B),.agg #[ea,fa,ta]] h fun x h'=>GI h' x (kz (J6 n (Zh n es) on p))/\Le h h'/\Z2 h x:=by
 refine AC.vF func132 ntmps132 results132 fun b6=>?_;have⟨S,e1,l1,w1,o1⟩:=Tt b6 [ea,fa,ta];have bx:=aBox3 (h:=h) (a:=ea) (b:=fa) (c:=ta) Q.sl.one R.one b2;rw[e1]at bx
 have P0:∀g,Le S g->aaC pG g 22 ⟨h.next,0,Y⟩=Z ea/\aaC pG g 28 ⟨h.next,1,Y⟩=Z fa:=fun g lg=>by have o:=lg.own _ _ o1;exact⟨by rw[Fq eY rfl o];rfl,by rw[Fq Mb rfl o];rfl⟩
 generalize h.next=P at*
 have lf:=fun g=>R.DH g;by_cases c2:p.Fm.length<2
 .have d2:decide ((p.Fm.length:Int)<2)=tT:=WA NH;refine Sk (rE bx @pf1 @Ip.eq_1 @EL ((P0 S (Le.refl _)).2) lf @d2) ?_;have e:J6 n (Zh n es) on p=[]:=by grind[J6]
  rw[e];exact⟨GI.nil _,l1,fun b hb=>by grind[blk]⟩
 have d2:decide ((p.Fm.length:Int)<2)=fF:=IE NH;have f0:0<p.Fm.length:=NH;have aT:=R.TA 0 f0;have aW:=(R.le Nn.RP l1).Uc 0 f0;have⟨start,b8,c5⟩:=b4 _ (si f0);have aX:(p.Fm.headD 0).toNat=start:=by grind[headI0]
 rw[b8]at aW;have⟨h2,h3,e2,e3,l3,w3,o3⟩:=newI w1 (start:Int);simp only[aid]at aT;refine Sk (rk bx @pf1 @Ip.eq_1 @EL ((P0 S (Le.refl _)).2) lf @d2 aT aW e2 e3) ?_
 have a6:h.own S.next=Y:=l1.next w1 (qL0 _)
 generalize S.next=m at*
 have aj:=l1.trans l3;have⟨h4,e4,l4,w4,o4⟩:=Tt w3 [.int .i64 (-1)];have s4:=hs.le (aj.trans l4);refine Sk (bG @DQ e4 @sf0 @Ip.eq_1 @EL s4.l0) ?_;refine kCi YW (rN W0 _ n NH h4 (RL.Wh (RS.whole o4 rfl))) ?_;rintro x C w5 ⟨T,rfl,hT,o5,l5⟩;have U:=l4.trans l5;have a7:=aj.trans U
 have nT:h.own T=Y:=(aj.trans l4).next w4 hT
 have a8:C.own T=Z (.cells (Bp (rP n (-1)))):=by rw[o5];simp[Bp]
 have bb:=U.own _ _ o3;have⟨h6,e6,l6,w6,o6⟩:=Tt w5 [.slice Y 0 0]
 have n6:h.own C.next=Y:=a7.next w5 (qL0 _)
 have bg:T≠C.next:=fun e=>by have:=w5.lt a8;omega
 have b9:C.next≠m:=fun e=>by have:=w5.lt bb;omega
 have bh:=QB (P:=pG) (t:=28) (x:=sL (Z T) n n) Mb Ji o6 (off:=0) Ma rfl rfl;refine Sk (Yb @Hj e6 bh) ?_
 have aq:Le h (h6.put C.next (.cells (([.slice Y 0 0]:xLV).set 0 (sL (Z T) n n)))):=(a7.trans l6).put _ n6
 have w7:WF (h6.put C.next (.cells (([.slice Y 0 0]:xLV).set 0 (sL (Z T) n n)))):=w6.put _ (w6.lt o6)
 have ar:(h6.put C.next (.cells (([.slice Y 0 0]:xLV).set 0 (sL (Z T) n n)))).own T=Z (.cells (Bp (rP n (-1)))):=by grind[aai.By,Le.own]
 have av:(h6.put C.next (.cells (([.slice Y 0 0]:xLV).set 0 (sL (Z T) n n)))).own m=Z (.cells [start]):=by grind[aai.By,Le.own]
 have ay:(h6.put C.next (.cells (([.slice Y 0 0]:xLV).set 0 (sL (Z T) n n)))).own C.next=Z (.cells [sL (Z T) n n]):=aai.Y3 _ _ _
 have P7:Le S (h6.put C.next (.cells (([.slice Y 0 0]:xLV).set 0 (sL (Z T) n n)))):=((l3.trans U).trans l6).put _ ((l3.trans U).next w5 (qL0 _))
 have bk:T≠m:=fun e=>by have:=w4.lt (l4.own _ _ o3);omega
 generalize C.next=y at*
 generalize h6.put y (.cells (([.slice Y 0 0]:xLV).set 0 (sL (Z T) n n)))=h7 at*;have⟨h8,e8,l8,w8,o8⟩:=Tt w7 [.slice Y 0 0]
 have n8:h.own h7.next=Y:=aq.next w7 (qL0 _)
 have dM:∀{b o},h7.own b=Z o->h7.next≠b:=fun{b o} ob e=>by have:=w7.lt ob;omega
 have cc:=fun g=>Q.len g;refine Sk (rE @Hj e8 @pf0 @Ip.eq_1 @EL ((P0 h8 (P7.trans l8)).1) cc) ?_
 have W8:LL h h8 m y h7.next T n start (.slice Y 0 0) (rP n (-1),[]):=⟨l8.own _ _ av,l8.own _ _ ay,l8.own _ _ ar,o8,GI.nil _,a6,n6,nT,n8,fun b hb=>by grind[blk],bg,fun e=>dM ar e.symm,bk,dM av,dM ay,by simp[blk],by simp[blk],by simp[blk],by simp[blk],aq.trans l8⟩
 generalize h7.next=M at*
 clear dM n8 o8 P7 ay av ar w7 aq bh b9 bg n6 o6 w6 l6 e6 bb a8 o5 e4 e8;clear bk nT a6 P0 hT;have bm:BF n start TT1 TT2 ((p.zp.take 0).foldl (abY start) (rP n (-1),[])):=BF.zero;refine lIn (fun k fr hq=>∃(i:Nat)(r:vV),k=p.zp.length-i/\i<=p.zp.length/\fr=mkF [(0,pT (Z B)),(5,pT (Z m)),(6,pT (Z y)),(7,pT (Z M)),(8,.func (.func 165) #[] #[pT (Z m),pT (Z y),pT (Z M)]),(32,ea),(33,(p.zp.length:Nat)),(34,(i:Nat))]/\
   LL h hq m y M T n start r ((p.zp.take i).foldl (abY start) (rP n (-1),[]))/\BF n start TT1 TT2 ((p.zp.take i).foldl (abY start) (rP n (-1),[]))) ⟨0,_,rfl,Og _,rfl,W8,bm⟩ ?_
 clear bm W8 w8 l8;rintro k fr hq bo ⟨i,r,rfl,hi,rfl,W,F⟩;refine Uy ?_;refine Kl.intro (fun ht=>?_) (fun hf=>?_)
 .have d:i<p.zp.length:=acb ht;clear ht;have cd:=CA d;have cf:p.zp.take (i+1)=p.zp.take i++[p.zp[i]]:=XJ d;have cg:=si d;have⟨p1,p2,p3⟩:=b3 p.zp[i] cg;have ad:=Q.addr (k:=.i64) i d;have ld:=(Q.le W.le).load cd;have N:(p.zp.take (i+1)).foldl (abY start) (rP n (-1),[])=abY start ((p.zp.take i).foldl (abY start) (rP n (-1),[])) p.zp[i]:=hGr;have F1:=(F.Vk [p.zp[i]] fun e he=>by grind[jB]).1;rw[show[p.zp[i]].foldl (abY start) ((p.zp.take i).foldl (abY start) (rP n (-1),[]))=abY start ((p.zp.take i).foldl (abY start) (rP n (-1),[])) p.zp[i]from rfl]at F1;rw[N.symm]at F1;have hm:=F.jI;have hlen:=F.len;generalize p.zp[i]=e at*;have⟨g3,g4,q3,q4,m4,v4,u4⟩:=Ut bo e;have W4:=W.up m4;have V:=lK u4;have X:=HY u4
  generalize hq.next=E at*
  have aw:=aaa i (Lb d (QJ b5));obtain⟨a,ha⟩:∃a:Nat,e.1=(a:Int):=⟨e.1.toNat,NH⟩;obtain⟨b,sZ⟩:∃b:Nat,e.2=(b:Int):=⟨e.2.toNat,NH⟩;have ck:a<n:=NH;have cm:b<n:=NH;rw[ha]at V;rw[sZ]at X;have aa:((p.zp.take i).foldl (abY start) (rP n (-1),[])).2.length<=1000:=NH;by_cases c1:a=start
  .have d1:decide ((a:Int)=(start:Int))=tT:=WA NH;have eB:abY start ((p.zp.take i).foldl (abY start) (rP n (-1),[])) e=dt start ((p.zp.take i).foldl (abY start) (rP n (-1),[])) b start:=by grind[abY]
   rw[eB]at N;simp only[HO,seval,ad,ld,q3,q4,Dh,Z0,Ip,EL,V,X,W4.lS,ag6,d1];refine kCi qS35 (K8 W0 W4 hlen (v:=b) (by_:=start) cm aa) ?_;rintro x g5 v5 ⟨D,O⟩;simp only[HO,seval,aw];exact lgA (JS d) ⟨i+1,D,rfl,d,rfl,by rw[N];exact O,F1⟩
  have d1:decide ((a:Int)=(start:Int))=fF:=IE NH;by_cases c3:b=start
  .have d3:decide ((b:Int)=(start:Int))=tT:=WA NH;have eB:abY start ((p.zp.take i).foldl (abY start) (rP n (-1),[])) e=dt start ((p.zp.take i).foldl (abY start) (rP n (-1),[])) a start:=by grind[abY]
   rw[eB]at N;simp only[HO,seval,ad,ld,q3,q4,Dh,Z0,Ip,EL,V,X,W4.lS,ag6,d1,d3];refine kCi qS35 (K8 W0 W4 hlen (v:=a) (by_:=start) ck aa) ?_;rintro x g5 v5 ⟨D,O⟩;simp only[HO,seval,aw];exact lgA (JS d) ⟨i+1,D,rfl,d,rfl,by rw[N];exact O,F1⟩
  .have d3:decide ((b:Int)=(start:Int))=fF:=IE NH;have eB:abY start ((p.zp.take i).foldl (abY start) (rP n (-1),[])) e=(p.zp.take i).foldl (abY start) (rP n (-1),[]):=by grind[abY]
   rw[eB]at N;simp only[HO,seval,ad,ld,q3,q4,Dh,Z0,Ip,EL,V,X,W4.lS,ag6,d1,d3,aw];exact lgA (JS d) ⟨i+1,r,rfl,d,rfl,by rw[N];exact W4,F1⟩
 have z:p.zp.length<=i:=vp hf;rw[yM z]at W F;have ae:p.zp.foldl (abY start) (rP n (-1),[])=SL n start p.zp:=rfl;rw[ae]at W F;refine Uy ?_;have br:SL n start p.zp=acz (Zh n es) start (SL n start p.zp) 0:=rfl;rw[br]at W F;refine lIn (fun k fr hz=>∃(i:Nat)(r:vV),k=n+1-i/\fr=mkF [(0,pT (Z B)),(5,pT (Z m)),(6,pT (Z y)),(7,pT (Z M)),(8,.func (.func 165) #[] #[pT (Z m),pT (Z y),pT (Z M)]),(11,(i:Nat))]/\
   LL h hz m y M T n start r (acz (Zh n es) start (SL n start p.zp) i)/\BF n start TT1 TT2 (acz (Zh n es) start (SL n start p.zp) i)/\i<=(acz (Zh n es) start (SL n start p.zp) i).2.length/\∀j,j<i->XG (Zh n es) on start (SL n start p.zp) j=fF) ⟨0,r,rfl,rfl,W,F,Og _,fun j hj=>absurd hj (air _)⟩ ?_
 clear bo W F z hf hi br ae i r;rintro k fr hz cp ⟨i,r,rfl,rfl,W,F,cq,cx⟩;have aa:=F.jI;have hlen:=F.len;have lm:=fun g=>W.gm.rl.DH g;rw[y6]at lm;have az:=way_at (p:=p) (i:=i) (n:=n) (rows:=Zh n es) (on:=on) c2 aX NH cx;simp only[HO,seval,W.lM,lm];refine Kl.intro (fun ht=>?_) (fun hf=>?_)
 rotate_left
 .have z:(acz (Zh n es) start (SL n start p.zp) i).2.length<=i:=vp hf;have aC:(acz (Zh n es) start (SL n start p.zp) i).2[i]?=Y:=AQ z;have e:=az (by grind[XG]);simp only[aC]at e;rw[e];refine Uy ?_;exact⟨GI.nil _,W.le,fun b hb=>by grind[blk]⟩
 have d:i<(acz (Zh n es) start (SL n start p.zp) i).2.length:=acb ht;clear ht;have l:=CA d;have aD:=W.gm.rl.TA i (by rw[y6];exact d);have G:=W.gm.rl.Uc i (by rw[y6];exact d);rw[sY d]at G;have bB:=si d;have cz:=(F.lt _ bB).1;generalize (acz (Zh n es) start (SL n start p.zp) i).2[i]=v at l G bB cz;have sz:=hs.le W.le;have H:v<on.length:=hGr;have aF:=ho.LB (k:=.i64) v H;have A:=(ho.le Nn.sJ W.le).W7 v H;have cC:Wg on v=on[v]:=D4 H;rw[<-cC]at A;have bF:i<n:=NH;cases aH:Wg on v with
 |true=>
  rw[aH]at A;have e:=az (by grind[XG]);simp only[l]at e;rw[e];refine Sk (aNd9 W.lM aD G @sf2 @Ip.eq_1 @EL sz.l2 aF A) ?_;have par:=F.par;clear e aH;generalize acz (Zh n es) start (SL n start p.zp) i=st at*;refine lIn (fun k fr hy=>∃(cur:Nat)(xv:vV)(L:II),fr=mkF [(5,pT (Z m)),(6,pT (Z y)),(12,(cur:Nat)),(13,xv)]/\LL h hy m y M T n start r st/\GI hy xv (kz L)/\Z2 hz xv/\Le hz hy/\
    traceM st.1 start k cur++L.reverse=traceM st.1 start n v/\(cur=start\/∃q,q<k/\st.2[q]?=Z cur)/\L.length+k=n) ⟨v,_,[],rfl,W,GI.nil _,fun b hb=>by grind[blk],Le.refl _,Ma,.inr ⟨i,bF,l⟩,Ma⟩ ?_
  rintro k fr hy aJ ⟨cur,xv,L,rfl,Wy,gx,ax,bH,aK,bI,c6⟩;by_cases cs:cur=start
  .subst cs;have ds:decide ((cur:Int)=(cur:Int))=tT:=WA rfl;obtain⟨aL,g4,g5,q4,q5,I,v5,m4,aN,-⟩:=gx.push aJ (cur:Int) (by grind[y6]);have⟨m5,a5⟩:=aN hz bH ax;have e6:kz L++[(cur:Int)]=kz (L++[cur]):=by simp[kz]
   rw[e6]at I;simp only[HO,seval,Wy.lS,bne,ds,q4,q5];refine kCi qS27 (Wk W0 aL _ g5 I (by rw[y6,aev,Bn];omega)) ?_;rintro x g6 v6 ⟨bN,cE,-⟩;refine Uy ?_;have e7:(kz (L++[cur])).reverse=kz (traceM st.1 cur n v):=by rw[<-aK,TL];simp[kz]
   rw[e7]at bN;have l6:=cE hz m5 a5;exact⟨bN,W.le.trans l6,fun b hb=>W.le.none (a5 b hb)⟩
  .have ds:decide ((cur:Int)=(start:Int))=fF:=IE NH;have⟨q,cJ,bQ⟩:=bI.resolve_left cs;obtain⟨f,rfl⟩:∃f,k=f+1:=⟨k-1,NH⟩;have cK:=(F.lt cur (BS bQ)).1;have⟨aL,g4,g5,q4,q5,I,v5,m4,aN,c9⟩:=gx.push aJ (cur:Int) (by grind[y6]);have⟨m5,a5⟩:=aN hz bH ax;have O:=W.up m5;have e6:kz L++[(cur:Int)]=kz (L++[cur]):=by simp[kz]
   rw[e6]at I;have hL:=CA (show cur<st.1.length by grind);have ld:=XP O.oT hL;have gd:st.1.getD cur 0=st.1[cur]'(by grind):=D4 _
   rw[traceM,Z6 cs]at aK;have cM:∃J:Nat,st.1.getD cur 0=(J:Int)/\(J=start\/∃q,q<f/\st.2[q]?=Z J):=by
    rcases par q cur bQ with⟨S,_⟩|⟨j,u,S,h2,h3,_⟩
    .grind
    .exact⟨u,h3,.inr ⟨j,trc_k cJ j S,h2⟩⟩
   have⟨J,ai,bW⟩:=cM;rw[<-gd,ai]at ld;rw[ai,aax]at aK;simp only[HO,seval,Wy.lS,bne,ds,q4,q5,O.l6,Kx T n .i64 cur cK,ld];refine lgA (WS _) ⟨J,aL,L++[cur],rfl,O,I,a5,m5,?_,bW,?_⟩
   .grind
   grind
 |false=>
  rw[aH]at A;have cN:XG (Zh n es) on start (SL n start p.zp) i=fF:=by grind[XG]
  have bY:acz (Zh n es) start (SL n start p.zp) (i+1)=abU start (acz (Zh n es) start (SL n start p.zp) i) v ((Zh n es).getD v []):=by rw[acz,l]
  have aP:v<(Zh n es).length:=by grind[Xq]
  have bZ:=hb.Wm v aP;have⟨uv,cP,s⟩:=hb.NS v aP;have b0:(Zh n es).getD v []=(Zh n es)[v]:=D4 aP;generalize (Zh n es)[v]=row at s b0;have lr:=fun g=>s.DH g;have da:row.length<=3000:=by have:=bV n es row hGr;omega
  rw[b0]at bY;simp only[HO,seval,W.lM,aD,G,sf1,sf2,Ip,EL,sz.l1,sz.l2,aF,A,bZ,cP hz W.le,lr];clear az lm aD G sz aF A bZ;generalize acz (Zh n es) start (SL n start p.zp) i=st at*;refine lIn (fun k fr hy=>∃(q:Nat)(r:vV),k=row.length-q/\q<=row.length/\fr=mkF [(0,pT (Z B)),(5,pT (Z m)),(6,pT (Z y)),(7,pT (Z M)),(8,.func (.func 165) #[] #[pT (Z m),pT (Z y),pT (Z M)]),(11,(i:Nat)),(12,(v:Nat)),(98,uv),(99,(row.length:Nat)),(100,(q:Nat))]/\
    LL h hy m y M T n start r (abU start st v (row.take q))/\BF n start TT1 TT2 (abU start st v (row.take q))/\i<(abU start st v (row.take q)).2.length/\(abU start st v (row.take q)).2[i]?=Z v) ⟨0,r,rfl,Og _,rfl,W,F,d,l⟩ ?_
  clear cp W F d l aa hlen cq;clear r;rintro k fr hy aJ ⟨q,r,rfl,hq,rfl,W,F,d,l⟩;refine Uy ?_;refine Kl.intro (fun ht=>?_) (fun hf=>?_)
  .have K:q<row.length:=acb ht;clear ht;have cR:=s.TA q K;have cU:=(s.le Nn.RP W.le).Uc q K;have cf:row.take (q+1)=row.take q++[row[q]]:=XJ K;have cW:row[q]∈(Zh n es).getD v []:=hGr;generalize row[q]=x at*;obtain⟨w,rfl,b1⟩:=Ru hR cW;have N:abU start st v (row.take (q+1))=dt start (abU start st v (row.take q)) w v:=by grind[abU]
   have hm:=F.jI;have hlen:=F.len;obtain⟨F1,⟨t,et⟩,-⟩:=F.meet (v:=w) (by_:=v) b1 (.inr ⟨i,l,trivial⟩);rw[<-N]at F1 et;have aw:=aaa q NH;refine Sk (XC cR cU) ?_;refine kCi qS35 (K8 W0 W hlen (v:=w) (by_:=v) b1 NH) ?_;rintro x g5 v5 ⟨D,O⟩;rw[<-N]at O;simp only[HO,seval,aw];exact lgA (JS K) ⟨q+1,D,rfl,K,rfl,O,F1,hGr,Z5 et l⟩
  .have z:row.length<=q:=vp hf;rw[yM z,<-bY]at W F d;have aw:=aaa i NH;simp only[HO,seval,aw];refine lgA (sub_lt1 bF) ⟨i+1,r,rfl,rfl,W,F,d,fun j hj=>?_⟩;grind
structure wi (n:Nat) (L:RZ) (ρ d:Nat->Nat):Prop where
 len:L.length=n
 up:∀v,v<n->∃w,w<n/\L[v]?=Z (w:Int)/\ρ w=ρ v/\((w=v/\ρ v=v)\/(w≠v/\d w<d v))
 rt:∀v,v<n->ρ v<n/\ρ (ρ v)=ρ v
section
variable{n:Nat}{L:RZ}{ρ d:Nat->Nat}
theorem wi.zero(n:Nat):wi n ((rG n).map fun(v:Nat)=>(v:Int)) id (fun _=>0):=⟨Ma,fun v a=>⟨v,a,by simp[a],rfl,.inl ⟨rfl,rfl⟩⟩,fun v a=>⟨a,rfl⟩⟩
theorem wi.halve(F:wi n L ρ d){v w u:Nat}(f:v<n)(hw:L[v]?=Z (w:Int))(a:w≠v)(g:L[w]?=Z (u:Int)):wi n (L.set v (u:Int)) ρ d/\d u<d v/\u<n/\ρ u=ρ v:=by
 have⟨w',h,h2,h3,c⟩:=F.up v f;rw[hw]at h2;injection h2 with h2;obtain rfl:w=w':=NH;have c:=c.resolve_left fun q=>a q.1;have⟨u',i,b,j,l⟩:=F.up w h;rw[g]at b;injection b with b;obtain rfl:u=u':=NH;have hd:d u<d v:=hGr;refine⟨⟨by grind[wi.len],fun x k=>?_,F.rt⟩,hd,i,j.trans h3⟩;by_cases e:v=x
 .grind
 .rw[fj,Z6 e];exact F.up x k
noncomputable def mW(ρ:Nat->Nat)(a b:Nat):Nat->Nat:=fun x=>if ρ x=a then b else ρ x
noncomputable def cO(ρ d:Nat->Nat)(a b:Nat):Nat->Nat:=fun x=>if ρ x=a/\a≠b then d x+d b+1 else d x
theorem wi.join(F:wi n L ρ d){a b:Nat}(ha:a<n)(hb:b<n)(ra:ρ a=a)(rb:ρ b=b):wi n (L.set a (b:Int)) (mW ρ a b) (cO ρ d a b):=by
 by_cases e:a=b
 .subst e;have h:mW ρ a a=ρ:=by grind[mW]
  have i:cO ρ d a a=d:=by grind[cO]
  rw[h,i];refine⟨by grind[wi.len],fun x f=>?_,F.rt⟩;by_cases e:a=x
  .grind[wi.len]
  .rw[fj,Z6 e];exact F.up x f
 .have k:mW ρ a b b=b:=by grind[mW]
  have g:∀x,x<n->mW ρ a b x<n:=fun x f=>by grind[mW,wi.rt]
  refine⟨by grind[wi.len],fun x f=>?_,fun x f=>⟨g x f,?_⟩⟩
  .by_cases ex:a=x
   .grind[wi.len,mW,cO]
   .rw[fj,Z6 ex];have⟨w,j,h2,h3,l⟩:=F.up x f;refine⟨w,j,h2,by grind[mW],?_⟩;grind[mW,cO]
  .unfold mW;by_cases c:ρ x=a
   all_goals grind[wi.rt]
end
theorem Y9(K:LA)(i T n:Nat)(L:RZ)(ρ d:Nat->Nat)(v:Nat)(h:aai)(G:h.own i=Z (.cells [sL (Z T) n n]))(oT:h.own T=Z (.cells (Bp L)))(j:T≠i)(F:wi n L ρ d)(M:v<n):
  AC pG K 167 [v,pT (Z i)] h fun x h'=>x=(ρ v:Int)/\∃a,wi n a ρ d/\h'.own T=Z (.cells (Bp a))/\(∀f,Le f h->f.own T=Y->Le f h')/\∀b o,b≠T->h.own b=Z o->h'.own b=Z o:=by
 refine AC.vF KT ntmps167 results167 fun N=>?_;refine Uy ?_;refine lIn (fun k fr g=>∃(c:Nat)(a:RZ),k=d c/\c<n/\fr=mkF [(0,(c:Nat)),(1,pT (Z i))]/\ρ c=ρ v/\wi n a ρ d/\g.own T=Z (.cells (Bp a))/\(∀f,Le f h->f.own T=Y->Le f g)/\∀b o,b≠T->h.own b=Z o->g.own b=Z o) ⟨v,L,rfl,M,rfl,rfl,F,oT,fun f s _=>s,fun b o _ H=>H⟩ ?_;clear oT F;rintro k fr g O ⟨c,a,rfl,l,rfl,P,F,oT,s,Q⟩;have t:=Q i _ (ff j) G;have l5:aaC pG g 28 ⟨i,0,Y⟩=Z (sL (Z T) n n):=by rw[Fq Mb rfl t];rfl
 have⟨w,hw,I,R,y⟩:=F.up c l;have ld:=XP oT I;by_cases e:w=c
 .subst e;have d1:decide ((w:Int)=(w:Int))=tT:=WA rfl;have S:ρ w=w:=hGr;simp only[HO,seval,l5,Kx T n .i64 w l,ld,bne,d1];grind
 .have d1:decide ((w:Int)=(c:Int))=fF:=IE NH;have⟨u,V,m,_,_⟩:=F.up w hw;have z:=XP oT m;have⟨U,hd,A,B⟩:=F.halve l I e m;have p:c<a.length:=hGr;have st:=stI oT p (u:Int);have q:(g.put T (.cells (Bp (a.set c (u:Int))))).own T=Z (.cells (Bp (a.set c (u:Int)))):=aai.Y3 _ _ _;have r:∀b o,b≠T->h.own b=Z o->(g.put T (.cells (Bp (a.set c (u:Int))))).own b=Z o:=fun b o hb H=>by grind[aai.By]
  have C:aaC pG (g.put T (.cells (Bp (a.set c (u:Int))))) 28 ⟨i,0,Y⟩=Z (sL (Z T) n n):=by rw[Fq Mb rfl (r i _ (ff j) G)];rfl
  have D:aaC pG (g.put T (.cells (Bp (a.set c (u:Int))))) 3 ⟨T,c,Y⟩=Z (.int .i64 (u:Int)):=XP q (by rw[fj,qL7 rfl,qL7 p]);simp only[HO,seval,l5,Kx T n .i64 c l,ld,bne,d1];refine gh (fRn 0 10 (JQ 10 [0,1,2,3,4,5,6,7,8,9] .done)) ?_;simp only[HO,seval,Qg,l5,Kx T n .i64 c l,Kx T n .i64 w hw,ld,z,st,C,D];exact lgA hd ⟨u,_,rfl,A,rfl,B.trans P,U,q,fun f E J=>(s f E J).put _ J,r⟩
structure Sep (b0 h:aai) (vs:xLV):Prop where
 TE:∀(i j:Nat) u w b,i≠j->vs[i]?=Z u->vs[j]?=Z w->blk u=Z b->blk w≠Z b
 own:∀(i:Nat) u b,vs[i]?=Z u->blk u=Z b->h.own b≠Y
 ap:∀(i:Nat) u,vs[i]?=Z u->Z2 b0 u
 le:Le b0 h
section
variable{b0 h h':aai}{vs:List vV}
theorem Sep.kept(S:Sep b0 h vs)(l:Le b0 h')(c:∀b o,h.own b=Z o->h'.own b≠Y):Sep b0 h' vs:=⟨S.TE,fun i u b a hb=>by have⟨o,d⟩:=vg.1 (S.own i u b a hb);grind,S.ap,l⟩
theorem Sep.up(S:Sep b0 h vs)(l:Le h h'):Sep b0 h' vs:=by grind[Sep.kept,Sep.le,Le.trans,Le.own]
theorem Sep.app(S:Sep b0 h vs){i:Nat}{u u':vV}(c:vs[i]?=Z u)(hf:∀f,Le f h->Z2 f u->Le f h'/\Z2 f u')(m:∀b o,h.own b=Z o->blk u≠Z b->h'.own b=Z o/\blk u'≠Z b)(d:∀b,blk u'=Z b->h'.own b≠Y):Sep b0 h' (vs.set i u'):=by
 have key:∀(j:Nat) w,(vs.set i u')[j]?=Z w->(j=i/\w=u')\/(j≠i/\vs[j]?=Z w):=hGr;have⟨l1,a1⟩:=hf b0 S.le (S.ap i u c);have fresh:∀(j:Nat) w b,j≠i->vs[j]?=Z w->blk w=Z b->h'.own b≠Y/\blk u'≠Z b:=fun j w b n hw hb=>by have⟨o,d⟩:=vg.1 (S.own j w b hw hb);grind[Sep.TE]
 refine⟨fun j k a w b e ha hw hb q=>?_,fun j a b ha hb=>?_,fun j a ha=>?_,l1⟩
 .rcases key j a ha with⟨g,rfl⟩|⟨g,p⟩
  .grind
  .rcases key k w hw with⟨l,rfl⟩|⟨l,h2⟩
   .grind
   grind[Sep.TE]
 all_goals grind[Sep.ap]
theorem Sep.snoc(S:Sep b0 h vs){v:vV}(e:blk v=Y):Sep b0 h (vs++[v]):=by
 have key:∀(j:Nat) w,(vs++[v])[j]?=Z w->vs[j]?=Z w\/w=v:=hGr;refine⟨fun i j u w b c a hw hb q=>?_,fun i u b a hb=>?_,fun i u a b hb=>?_,S.le⟩
 .grind[Sep.TE]
 .grind[Sep.own]
 .rcases key i u a with d|rfl
  .exact S.ap i u d b hb
  grind
end
abbrev rW:vV:=.slice Y 0 0
def abS(vs:xLV):Nat->xLV
 |0=>[]
 |m+1=>abS vs m++[vs.getD (2*m) rW,vs.getD (2*m+1) rW,rW]
theorem Iy(vs:xLV):∀m,(abS vs m).length=m*3
 |0=>rfl
 |m+1=>by rw[abS,aev,Iy vs m];simp;omega
theorem aY(vs:xLV){k:Nat}:∀m,k<m->(abS vs m)[k*3]?=Z (vs.getD (2*k) rW)/\(abS vs m)[k*3+1]?=Z (vs.getD (2*k+1) rW)/\(abS vs m)[k*3+2]?=Z rW
 |0,h=>by grind
 |m+1,h=>by
  rw[abS];by_cases e:k=m
  .refine⟨?_,?_,?_⟩
   .grind[Iy]
   .grind[Iy]
   grind[Iy]
  .obtain⟨a,h2,h3⟩:=aY vs (k:=k) m NH;grind
theorem aA{vs ws:xLV}:∀m,(∀i,i<2*m->vs.getD i rW=ws.getD i rW)->abS vs m=abS ws m
 |0,_=>rfl
 |m+1,h=>by rw[abS,abS,aA m fun i hi=>h i NH,h (2*m) NH,h (2*m+1) NH]
theorem Yv{vs:xLV}{k r:Nat}(b:r<2){a:vV}:∀m,k<m->2*m<=vs.length->abS (vs.set (2*k+r) a) m=(abS vs m).set (k*3+r) a
 |0,h,_=>by grind
 |m+1,h,c=>by
  rw[abS,abS];by_cases e:k=m
  .subst e;rw[aA (ws:=vs) k hGr];grind[Iy,Nat.add_sub_cancel_left]
  .rw[Yv b m NH NH,set_append_left _ _ (by grind[Iy])];grind
structure Wq (b0 h:aai) (xv:vV) (vs:xLV) (ps:List (xLP×RZ)):Prop where
 sep:Sep b0 h (xv::vs)
 len:vs.length=2*ps.length
 sl:GS 3 h xv ps.length (abS vs ps.length)
 ge:∀(i:Nat) p,ps[i]?=Z p->GP h (vs.getD (2*i) rW) p.1/\GI h (vs.getD (2*i+1) rW) p.2
 cu:cu xv
section
variable{b0 h h':aai}{xv:vV}{vs:List vV}{ps:List (List Pr×RZ)}
theorem Wq.nil(b0:aai):Wq b0 b0 rW [] []:=by
 refine⟨⟨fun i j u w b d a hw hb=>?_,fun i u b a hb=>?_,fun i u a b hb=>?_,Le.refl _⟩,rfl,GS.nil 3 b0,hGr,.inl rfl⟩
 all_goals
  have c:=BS a;rw[Gw]at c;subst c;cases hb
theorem Wq.kept(P:Wq b0 h xv vs ps)(l:Le b0 h')(g:∀b o,(∃u∈xv::vs,blk u=Z b)->h.own b=Z o->h'.own b=Z o):Wq b0 h' xv vs ps:=by
 have a:∀i,i<vs.length->vs.getD i rW∈xv::vs:=hGr;refine⟨⟨P.sep.TE,fun i u b d hb=>?_,P.sep.ap,l⟩,P.len,GS.kept P.sl hGr,fun i p c=>?_,P.cu⟩
 .obtain⟨o,j⟩:=vg.1 (P.sep.own i u b d hb);grind
 .have hi:=(Ny.1 c).1;have:=P.len;have⟨e,f⟩:=P.ge i p c;exact⟨GS.kept e hGr,GS.kept f hGr⟩
theorem Wq.up(P:Wq b0 h xv vs ps)(l:Le h h'):Wq b0 h' xv vs ps:=P.kept (P.sep.le.trans l) (by grind[Le.own])
theorem u6(P:Wq b0 h xv vs ps){i:Nat}(hi:i<vs.length):(xv::vs)[i+1]?=Z (vs.getD i rW):=hGr
theorem dD:UA pG 168=3:=Ji
def bld0:acB pG 168 []=Z (.agg #[rW,rW,rW]):=Ji
def mkPc(h:aai):aas pG h 127 1 [(0,.agg #[rW,rW,rW])]=Z (sL (Z h.next) 1 1,h.alloc (.cells [rW,rW,rW])):=Ji
theorem one3(vs:xLV)(a:∀u∈vs,u.oneCell'=tT):∀m,(abS vs m).all (·.oneCell')=tT
 |0=>rfl
 |m+1=>by
  have g:∀i,(vs.getD i rW).oneCell'=tT:=fun i=>by
   by_cases c:i<vs.length
   .grind
   .rw[Db,AQ NH];rfl
  rw[abS,aiK,one3 vs a m,alN,alN,alN,g,g];rfl
theorem Wq.one(P:Wq b0 h xv vs ps):(abS vs ps.length).all (·.oneCell')=tT:=by
 refine one3 vs (fun u a=>?_) _;obtain⟨i,hi,rfl⟩:=FD.1 a;have f:=P.len;have b:=Gc (l:=ps) (i:=i / 2) NH;have⟨c,d⟩:=P.ge _ _ b;have:i=2*(i / 2)\/i=2*(i / 2)+1:=NH;rcases this with e|e
 .have:=c.pr.sl.one;grind
 .have:=d.rl.one;grind
theorem Wq.push(P:Wq b0 h xv vs ps)(l:WF h)(I:ps.length<=100000):
  ∃a g d,aas pG h 127 1 [(0,.agg #[rW,rW,rW])]=Z (sL (Z h.next) 1 1,g)/\aaR pG g 127 127 xv (sL (Z h.next) 1 1)=Z (a,d)/\
   Wq b0 d a (vs++[rW,rW]) (ps++[([],[])])/\WF d/\Le h g/\(∀f,Le f h->Z2 f xv->Le f d)/\∀b o,h.own b=Z o->blk xv≠Z b->d.own b=Z o/\blk a≠Z b:=by
 have⟨g,e4,l4,s,z⟩:=Tt l [rW,rW,rW]
 have hs:∀e,UA pG e=3->aby pG g e (sL (Z h.next) 1 1)=Z (1,[rW,rW,rW]):=fun e A=>CS.src A (CS.own (k:=3) (off:=0) (n:=1) (cap:=1) z Ma)
 have⟨a,d,m,J,q⟩:=GS.append (P:=pG) (t:=127) (xt:=127) (k:=3) Ji (P.sl.le l4) hs P.one rfl rfl NH;have B:=xr s m;have w:∀b o,h.own b=Z o->blk xv≠Z b->d.own b=Z o/\blk a≠Z b:=fun b o C hb=>aG q s (l4.own _ _ C) hb;refine⟨a,g,d,by rw[mkPc,e4],m,?_,B,l4,(by grind[Le.trans]),w⟩;have D:=P.sep.app (h':=d) (i:=0) (u:=xv) (u':=a) rfl (by grind[Le.trans]) w (by grind[GS.Sy]);have E:Sep b0 d (a::(vs++[rW,rW])):=by have:=(Sep.snoc D (v:=rW) rfl).snoc (v:=rW) rfl;grind
 have x:abS (vs++[rW,rW]) (ps++[([],[])]).length=abS vs ps.length++[rW,rW,rW]:=by
  rw[aev,Bn,abS];congr 1
  .grind[aA]
  .rw[<-P.len,Db,Db,Eh (qL0 _),Eh NH];simp
 refine⟨E,by grind[Wq.len],hGr,fun i p y=>?_,uZ m P.cu⟩;by_cases c:i<ps.length
 .rw[VU c]at y;have K:=P.len;have⟨F,G⟩:=P.ge i p y;have r:∀j,j<vs.length->(vs++[rW,rW]).getD j rW=vs.getD j rW:=hGr;rw[r _ NH,r _ NH];have nb:∀j,j<vs.length->∀b,blk (vs.getD j rW)=Z b->blk xv≠Z b:=fun j H b hb=>P.sep.TE (j+1) 0 _ _ b NH (u6 P H) rfl hb;exact⟨GS.kept F hGr,GS.kept G hGr⟩
 .have L:(vs++[rW,rW]).getD (2*ps.length) rW=rW:=by grind[Wq.len]
  have r:(vs++[rW,rW]).getD (2*ps.length+1) rW=rW:=by rw[<-P.len,Db,Eh NH,qL139];rfl
  grind[GP.nil,GI.nil]
end
theorem GS.stor{P:Program}{h:aai}{k m:Nat}{v x:vV}{cs:xLV}{t:TypeId}{d:TypeDesc}(g:GS k h v m cs)(a:WF h)(q:P.underlying t=Z d)(hs:UA P t=1){i:Nat}(hi:i<m*k)(r:x.cells=#[x])(s:x.oneCell'=tT):
  ∃h',aaK P h t (pT (Z (aaq v i))) x=Z h'/\GS k h' v m (cs.set i x)/\WF h'/\(∀f,Le f h->Z2 f v->Le f h')/\∀b o,h.own b=Z o->blk v≠Z b->h'.own b=Z o:=by
 obtain⟨u,⟨rfl,rfl⟩|⟨id,c,cap,rfl,j,w,l⟩⟩:=g
 .omega
 .refine⟨h.put id (.cells (c.set i x)),?_,⟨hGr,.inr ⟨id,c.set i x,cap,rfl,aai.Y3 _ _ _,?_,l⟩⟩,a.put _ (a.lt j),fun f n af=>n.put _ (af id rfl),fun b o hb p=>?_⟩
  .grind[fA,Ip.eq_1,QB]
  .grind[take_set]
  .rw[aai.By _ _ _ _ (fun e=>p (by rw[e];rfl))];exact hb
def xO.cell{v:vV}{n:Nat}(h:xO v n):v.cells=#[v]:=by obtain⟨_,_,rfl,_⟩:=h;rfl
def GS.ad3{h:aai}{v:vV}{cs:xLV}{m:Nat}(g:GS 3 h v m cs){k:Nat}(d:k<m):aao pG 127 v k=Z (pT (Z (aaq v (k*3)))):=by obtain⟨a,c,rfl,hs⟩:=g.cs.sl;obtain⟨a,rfl⟩:=mJ.1 (hs NH);have b:(k:Int)<(m:Int):=NH;simp[aao,afm,qS19,b,dD,aaq]
theorem eA3{h:aai}{v:vV}{cs:xLV}{m:Nat}(g:GS 3 h v m cs){k r:Nat}(b:k<m):Ip (aaq v (k*3)) r=aaq v (k*3+r):=by obtain⟨a,c,rfl,hs⟩:=g.cs.sl;grind[Option.isSome_iff_exists,fA,Ub]
section
variable{b0 h h2:aai}{xv:vV}{vs:List vV}{ps:List (List Pr×RZ)}
def Wq.ldE(P:Wq b0 h xv vs ps){k:Nat}(a:k<ps.length):aaC pG h 22 (aaq xv (k*3))=Z (vs.getD (2*k) rW):=by rw[Bj eY rfl];exact P.sl.cs.get _ _ (aY vs ps.length a).1
def Wq.ldF(P:Wq b0 h xv vs ps){k:Nat}(a:k<ps.length):aaC pG h 28 (aaq xv (k*3+1))=Z (vs.getD (2*k+1) rW):=by rw[Bj Mb rfl];exact P.sl.cs.get _ _ (aY vs ps.length a).2.1
def Wq.len_(P:Wq b0 h xv vs ps)(g:aai):aeh pG g 127 xv=Z (.int .i64 (ps.length:Nat)):=by obtain⟨a,c,rfl,_⟩:=P.sl.cs.sl;exact Jg afm g
theorem Wq.setR(P:Wq b0 h xv vs ps){t:TypeId}{d:TypeDesc}(G:pG.underlying t=Z d)(z:UA pG t=1){k r:Nat}(H:k<ps.length)(Q:r<2){u':vV}{pk:xLP×RZ}(A:WF h2)(hf:∀f,Le f h->Z2 f (vs.getD (2*k+r) rW)->Le f h2/\Z2 f u')(s:∀b o,h.own b=Z o->blk (vs.getD (2*k+r) rW)≠Z b->h2.own b=Z o/\blk u'≠Z b)(a:(r=0/\GP h2 u' pk.1/\∃l,ps[k]?=Z (l,pk.2))\/(r=1/\GI h2 u' pk.2/\∃f,ps[k]?=Z (pk.1,f))):
  ∃h3,aaK pG h2 t (pT (Z (aaq xv (k*3+r)))) u'=Z h3/\Wq b0 h3 xv (vs.set (2*k+r) u') (ps.set k pk)/\WF h3/\(∀f,Le f h->Z2 f (vs.getD (2*k+r) rW)->Z2 f xv->Le f h3)/\∀b o,h.own b=Z o->(∀u∈xv::vs,blk u≠Z b)->h3.own b=Z o:=by
 have R:=P.len;have n:2*k+r<vs.length:=NH
 have v:xO u' (if r=0 then pk.1.length else pk.2.length):=by
  rcases a with⟨e,g,_⟩|⟨e,g,_⟩
  .rw[qL7 e];exact g.pr.sl
  .rw[Z6 NH];exact g.rl.sl
 have I:∀b,blk u'=Z b->h2.own b≠Y:=fun b hb=>by
  rcases a with⟨_,g,_⟩|⟨_,g,_⟩
  .exact GS.Sy g hb
  .exact GS.Sy g hb
 have dx:∀b,blk xv=Z b->blk (vs.getD (2*k+r) rW)≠Z b:=fun b hb=>P.sep.TE 0 _ _ _ b NH rfl (u6 P n) hb;have B:GS 3 h2 xv ps.length (abS vs ps.length):=GS.kept P.sl hGr;have⟨h3,e3,S,J,K,L⟩:=GS.stor B A (x:=u') G z (i:=k*3+r) NH v.cell v.one;have M:∀b,blk xv=Z b->blk u'≠Z b:=fun b hb=>by have⟨o,E⟩:=vg.1 (P.sep.own 0 xv b rfl hb);grind
 refine⟨h3,e3,?_,J,hGr,hGr⟩;have C:=P.sep.app (u6 P n) hf s I;have N:Sep b0 h3 (xv::vs.set (2*k+r) u'):=C.kept (K b0 C.le (C.ap 0 xv rfl)) (by grind[GS.Sy]);refine⟨N,hGr,by grind[Yv],fun i p c=>?_,P.cu⟩;have keep:∀j,j<vs.length->j≠2*k+r->∀b o,blk (vs.getD j rW)=Z b->h.own b=Z o->h3.own b=Z o:=fun j F O b o hb E=>L b o (s b o E (P.sep.TE (j+1) (2*k+r+1) _ _ b NH (u6 P F) (u6 P n) hb)).1 (P.sep.TE (j+1) 0 _ _ b NH (u6 P F) rfl hb);have same:∀j,j≠2*k+r->(vs.set (2*k+r) u').getD j rW=vs.getD j rW:=hGr;have m:(vs.set (2*k+r) u').getD (2*k+r) rW=u':=hGr;have D:∀b o,blk u'=Z b->h2.own b=Z o->h3.own b=Z o:=hGr;rw[fj]at c;by_cases e:k=i
 .subst e;simp only[if_true,H]at c;injection c with c;subst c;rcases a with⟨e,g,l,q⟩|⟨e,g,l,q⟩
  .subst e;have⟨w,y⟩:=P.ge k _ q;have n0:=m;rw[ahe]at n0;rw[ahe,n0];have s1:=same (2*k+1) NH;rw[ahe]at s1;rw[s1];exact⟨GS.kept g hGr,GS.kept y hGr⟩
  .subst e;have⟨w,y⟩:=P.ge k _ q;rw[m,same (2*k) NH];exact⟨GS.kept w hGr,GS.kept g hGr⟩
 .rw[Z6 e]at c;have hi:=(Ny.1 c).1;have⟨w,y⟩:=P.ge i p c;rw[same (2*i) NH,same (2*i+1) NH];exact⟨GS.kept w hGr,GS.kept y hGr⟩
end
def Cls(n:Nat)(on:Nat->Bool)(es:xLP)(ρ:Nat->Nat):Prop:=∀u w,u<n->w<n->on u=fF->on w=fF->(ρ u=ρ w↔Cn on es u w)
section
variable{n:Nat}{on:Nat->Bool}{es:List Pr}{ρ d:Nat->Nat}
theorem Cn.mono{es b:xLP}(h:∀e∈es,e∈b){u w:Nat}(c:Cn on es u w):Cn on b u w:=by
 induction c with
 |refl o=>exact .refl o
 |step _ a o f=>exact .step f (a.imp (h _) (h _)) o
def cls_nil:Cls n on [] id:=fun u w _ _ b _=>by
 constructor
 .intro h;subst h;exact .refl b
 .intro h;cases h with
  |refl=>rfl
  |step _ a _=>rcases a with a|a<;>cases a
theorem bD{p:Pr}(C:Cls n on es ρ)(hR:0<=p.1/\0<=p.2)(h:on p.1.toNat=tT\/on p.2.toNat=tT):Cls n on (es++[p]) ρ:=fun u w e hw f b=>by
 rw[C u w e hw f b];refine⟨by grind[Cn.mono],fun c=>?_⟩;clear hw b
 induction c with
 |refl o=>exact .refl o
 |@step x y c1 a o g=>
  refine .step g ?_ o;have ox:=c1.AB;rcases a with a|a
  .rcases abe.1 a with a|a
   .exact .inl a
   grind
  .rcases abe.1 a with a|a
   .exact .inr a
   grind
theorem cls_join{a b:Nat}(C:Cls n on es ρ)(hR:aV n (es++[((a:Int),(b:Int))]))(k:on a=fF)(l:on b=fF):Cls n on (es++[((a:Int),(b:Int))]) (mW ρ (ρ a) (ρ b)):=fun u w o hw p q=>by
 have r:=hR _ (agT _ (Gw.2 rfl));have sub:∀{x y},Cn on es x y->Cn on (es++[((a:Int),(b:Int))]) x y:=by grind[Cn.mono]
 have m:Cn on (es++[((a:Int),(b:Int))]) a b:=.step (.refl k) (.inl (by grind[List.mem_singleton])) l;have up:∀x,x<n->on x=fF->∀y,y<n->on y=fF->ρ x=ρ y->Cn on (es++[((a:Int),(b:Int))]) x y:=fun x g ox y i f e=>sub ((C x y g i ox f).1 e);have j:∀x,x<n->on x=fF->∃y,y<n/\on y=fF/\Cn on (es++[((a:Int),(b:Int))]) x y/\mW ρ (ρ a) (ρ b) x=ρ y:=by grind[mW,Cn.trans]
 constructor
 .grind[Cn.trans,Cn.symm]
 .intro c;have key:∀{x y},x<n->y<n->on x=fF->on y=fF->Jp (es++[((a:Int),(b:Int))]) x y->mW ρ (ρ a) (ρ b) x=mW ρ (ρ a) (ρ b) y:=fun{x y} g i ox f h=>by
   have qi:Jp es x y->mW ρ (ρ a) (ρ b) x=mW ρ (ρ a) (ρ b) y:=fun h=>by have:=(C x y g i ox f).2 (.step (.refl ox) h f);unfold mW;rw[this]
   have new:∀{x y:Nat},(((x:Int),(y:Int)):Pr)=((a:Int),(b:Int))->mW ρ (ρ a) (ρ b) x=mW ρ (ρ a) (ρ b) y:=fun{x y} e=>by injection e with s t;obtain rfl:x=a:=NH;obtain rfl:y=b:=NH;unfold mW;grind
   rcases h with h|h
   .rcases abe.1 h with h|h
    .exact qi (.inl h)
    grind
   .rcases abe.1 h with h|h
    .exact qi (.inr h)
    grind
  have lt:∀{x y},Jp (es++[((a:Int),(b:Int))]) x y->x<n/\y<n:=fun h=>h.lt hR
  induction c<;>grind[Cn.AB]
end
def hdL(n i:Nat):RZ:=(rG n).map fun v=>if v<i then(v:Int)else 0
theorem hdL_len(n i:Nat):(hdL n i).length=n:=by simp[hdL]
theorem hdL_zero(n:Nat):hdL n 0=rP n 0:=by apply EH;grind[hdL]
theorem hdL_set{n i:Nat}(hi:i<n):(hdL n i).set i (i:Int)=hdL n (i+1):=by apply EH;grind[hdL]
theorem hdL_all(n:Nat):hdL n n=(rG n).map fun(v:Nat)=>(v:Int):=by grind[hdL,map_congr_left]
noncomputable abbrev Gu(n:Nat)(on:Nat->Bool)(es:xLP)(v:Nat):Int:=(MF n on es).getD v 0
noncomputable abbrev frL(n:Nat)(on:Nat->Bool)(es:xLP):Pr->Nat->Int:=Zo n on (MF n on es)
def qT(on:Nat->Bool)(gs:List Gr):List (xLP×RZ):=gs.map fun g=>(g.2,kZ (BY on g.2))
structure fu (n:Nat) (on:Nat->Bool) (es:xLP) (ρ:Nat->Nat) (gs:List Gr) (A:RZ):Prop where
 len:A.length=n
 val:∀v,v<n->on v=fF->(∃(k:Nat)(l:xLP),A[ρ v]?=Z (k:Int)/\gs[k]?=Z (Gu n on es v,l))\/(A[ρ v]?=Z (-1)/\Gu n on es v∉Ea gs)
section
variable{n:Nat}{on:Nat->Bool}{es:List Pr}{ρ:Nat->Nat}{A:RZ}
theorem pH{v:Nat}(a:v<n)(b:on v=fF):∃k:Nat,k<n/\Gu n on es v=(k:Int):=by grind[uY,wx.off]
theorem TB{u w:Nat}(a:u<n)(hw:w<n)(b:on u=fF)(c:on w=fF):Gu n on es u=Gu n on es w↔Cn on es u w:=ajR uY a hw b c
theorem fu.zero(F:∀v,v<n->ρ v<n):fu n on es ρ [] (rP n (-1)):=⟨Ma,(by grind[Ea])⟩
theorem fu.qi{gs:List Gr}(T:fu n on es ρ gs A)(b:(Ea gs).Nodup){v k:Nat}{l:xLP}(c:gs[k]?=Z (Gu n on es v,l))(p:Pr):ab4 gs (Gu n on es v) p=gs.set k (Gu n on es v,l++[p])/\fu n on es ρ (gs.set k (Gu n on es v,l++[p])) A:=by
 have e:ab4 gs (Gu n on es v) p=gs.set k (Gu n on es v,l++[p]):=by
  rcases Ga (Gu n on es v) gs (gs.map fun _=>rW) 0 Ma with⟨a,_⟩|⟨j,l',u,a,_,_,_,h⟩
  .exact absurd (ZT.2 ⟨_,BS c,rfl⟩) a
  .have i:j=k:=by
    refine ajT b (x:=Gu n on es v) ?_ ?_
    all_goals grind[Ea]
   grind
 refine⟨e,T.len,fun w hw f=>?_⟩;have g:Ea (gs.set k (Gu n on es v,l++[p]))=Ea gs:=by unfold Ea;apply EH;grind
 rcases T.val w hw f with⟨j,l',a,h2⟩|⟨a,h2⟩
 .grind
 grind
def V4{gs:List Gr}{f:Int}(h:f∉Ea gs)(p:Pr):ab4 gs f p=gs++[(f,[p])]:=by
 rcases Ga f gs (gs.map fun _=>rW) 0 Ma with⟨_,_,_,a⟩|⟨j,l',u,b,_⟩
 .exact a p
 .exact absurd (ZT.2 ⟨_,BS b,rfl⟩) h
theorem fu.new{gs:List Gr}(C:Cls n on es ρ)(F:∀v,v<n->ρ v<n)(T:fu n on es ρ gs A){v:Nat}(b:v<n)(e:on v=fF)(h:Gu n on es v∉Ea gs)(p:Pr):fu n on es ρ (gs++[(Gu n on es v,[p])]) (A.set (ρ v) (gs.length:Int)):=by
 refine⟨by grind[fu.len],fun w hw a=>?_⟩;have hA:ρ v<A.length:=by grind[fu.len]
 by_cases c:ρ v=ρ w
 .have el:Gu n on es v=Gu n on es w:=(TB b hw e a).2 ((C v w b hw e a).1 c);grind
 .rw[fj,Z6 c];rcases T.val w hw a with⟨j,l',f,h2⟩|⟨f,h2⟩
  .grind
  .refine .inr ⟨f,?_⟩;have:Ea (gs++[(Gu n on es v,[p])])=Ea gs++[Gu n on es v]:=by simp[Ea]
   rw[this,abe,Gw];rintro(q|q)
   .exact h2 q
   .exact c ((C v w b hw e a).2 (by grind[TB]))
theorem fu.lone{gs:List Gr}(T:fu n on es ρ gs A){f:Int}(hf:(n:Int)<=f)(p:Pr):fu n on es ρ (gs++[(f,[p])]) A:=by
 refine⟨T.len,fun w hw a=>?_⟩;rcases T.val w hw a with⟨j,l',b,h2⟩|⟨b,h2⟩
 .grind
 .refine .inr ⟨b,?_⟩;have:Ea (gs++[(f,[p])])=Ea gs++[f]:=by simp[Ea]
  rw[this,abe,Gw];rintro(q|q)
  .exact h2 q
  .obtain⟨k,c,e⟩:=pH (es:=es) hw a;omega
theorem lone_new(hR:aV n es){i:Nat}:((n:Int)+i)∉Ea (aaX (frL n on es) es [] i):=fun c=>by
 have⟨j,q,p,f,_,e⟩:=(keys_mem _ _ _ _ _).1 c;obtain⟨a,b,rfl,g,hb⟩:=jB hR (BS f);unfold frL Zo at e;split at e
 .rename_i h;have⟨k,l,m⟩:=pH (n:=n) (es:=es) hGr h;grind
 .split at e
  .rename_i o;have⟨k,l,m⟩:=pH (n:=n) (es:=es) hb o;grind
  .omega
def Xe(gs:List Gr)(f:Int)(p:Pr):qT on (gs++[(f,[p])])=qT on gs++[([p],kZ (ftP on p))]:=by simp[qT,BY]
def ps_old(gs:List Gr)(k:Nat)(f:Int)(l:xLP):qT on (gs.set k (f,l))=(qT on gs).set k (l,kZ (BY on l)):=by simp[qT,alw]
theorem KS(l:xLP)(p:Pr):kZ (BY on (l++[p]))=(ftP on p).foldl Uo (kZ (BY on l)):=by grind[kZ,BY]
end
end
end Go.Fw
